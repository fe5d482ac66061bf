/- Part 10 of the proof of FnBothWays: what it needs. -/
import Derived.StillTailTactics
import Derived.Test.YtngphdmbjenkaaaKLBothWays3
import Derived.Test.YtngphdmbjenkaaaKLBothWays9
namespace Go.Proofs.Ytngphdmbjenkaaa.X
open Go.RowKit Go.Proofs.YtngphdmbjenkaaaW.PrintWords Go.Proofs.YtngphdmbjenkaaaW.PrintLast Go.Proofs.YtngphdmbjenkaaaW.PrintMore Go.Proofs.Ytngphdmbjenkaaa.Q
set_option linter.unusedVariables false
set_option linter.unusedSimpArgs false
theorem IX.form {w : World} {base n : Nat} {v : Value} {l : List Int} (h : IX w base v l) (hn : l.length = n) (hp : 0 < n) : ∃ g c,v = .slice (some ⟨g,0,none⟩) n c ∧ base ≤ g := by
 subst hn
 obtain ⟨g,c,e,hb,_⟩ := Kd.R_form h hp
 exact ⟨g,c,e,hb⟩
theorem IX.cell {w : World} {base n g c : Nat} {l : List Int} (h : IX w base (.slice (some ⟨g,0,none⟩) n c) l) {j : Nat} (hj : j < n) : ∃ x,w.cell? ⟨g,j,none⟩ = some (.int .i64 x) ∧ w.frozen? ⟨g,j,none⟩ = false := by
 have h1 := Kd.R_celln 0 h (j : Int) (by omega) (by omega)
 rw [Int.toNat_natCast] at h1
 exact ⟨_,h1.1,h1.2⟩
theorem IX.grown1 {w w' : World} {base k : Nat} {v : Value} {l : List Int} (h : IX w base v l) (hg : w.grownBy w' (some k)) (ha : v.ownBlock ≠ some k) : IX w' base v l :=
 Kd.R_mono (Kd.R_step (Kd.R_of_own (Kd.own_of_R h) (ok := fun j => some j ≠ some k) (fun j hj e => ha (hj.trans e))) (fun j ho hlt => hg.block j hlt ho)) (fun _ _ => trivial)
theorem C3.lower {w : World} {base base' : Nat} {v0 v1 v2 : Value} {d i r : List Int} (h : C3 w base v0 v1 v2 d i r) (hb : base' ≤ base) : C3 w base' v0 v1 v2 d i r := ⟨Kd.R_lower h.a hb,Kd.R_lower h.b hb,Kd.R_lower h.c hb,h.ab,h.ac,h.bc⟩
structure Lp (w0 W : World) (g kb kr g0 c0 g1 c1 g2 c2 : Nat) (w : World) : Prop where
 st : St w0 W g w
 ub : ∃ d i r,d.length = 6 ∧ i.length = 6 ∧ r.length = 36 ∧ Ub W.heap.size kb kr (.slice (some ⟨g0,0,none⟩) 6 c0) (.slice (some ⟨g1,0,none⟩) 6 c1) (.slice (some ⟨g2,0,none⟩) 36 c2) (.slice (some ⟨g0,0,none⟩) 6 c0) (.slice (some ⟨g1,0,none⟩) 6 c1) (.slice (some ⟨g2,0,none⟩) 36 c2) d i r w
section
variable {w0 W : World} {g kb kr g0 c0 g1 c1 g2 c2 : Nat} {w w' : World}
theorem box_typed {v : Value} {l : List Int} {base k : Nat} (h : IX w base v l) (hk : v.ownBlock = some k) : ∃ cs,w.heap[k]? = some (.cells cs 3 (0,0)) := own_typed (Kd.own_of_R h) k hk
theorem St.not {k t : Nat} {cs : Array Value} (h : St w0 W g w) (hk : w.heap[k]? = some (.cells cs t (0,0))) (ht : t ≠ 130) : k ≠ g := by
 rintro rfl
 obtain ⟨s0,s1,s2,⟨A0,c0,h1,_⟩,_⟩ := h.cs
 rw [h1] at hk
 injection hk with hk
 injection hk with _ hk
 exact ht hk.symm
theorem IX.keep {base : Nat} {v : Value} {l : List Int} (h : IX w base v l) (hs : St w0 W g w) (k : KeepBut w w' g none) : IX w' base v l := by
 obtain ⟨s0,s1,s2,h1,_⟩ := hs.cs
 exact Kd.R_mono (Kd.R_keep (IsS130.apart h1 h (by decide)) k (fun _ h => h.2)) (fun _ h => h.1)
theorem Lp.call (h : Lp w0 W g kb kr g0 c0 g1 c1 g2 c2 w) (k : St w0 w g w') : Lp w0 W g kb kr g0 c0 g1 c1 g2 c2 w' := by
 obtain ⟨d,i,r,h1,h2,h3,u⟩ := h.ub
 exact ⟨h.st.to k,d,i,r,h1,h2,h3,KeepBut.blk k.keep u.bk (h.st.not u.bk (by decide)) (by simp),KeepBut.blk k.keep u.br (h.st.not u.br (by decide)) (by simp),
  ⟨u.c3.a.keep h.st k.keep,u.c3.b.keep h.st k.keep,u.c3.c.keep h.st k.keep,u.c3.ab,u.c3.ac,u.c3.bc⟩,u.ne,u.gb,u.gr⟩
theorem Lp.below (h : Lp w0 W g kb kr g0 c0 g1 c1 g2 c2 w) (k : Below w.heap.size w w') : Lp w0 W g kb kr g0 c0 g1 c1 g2 c2 w' := by
 obtain ⟨d,i,r,h1,h2,h3,u⟩ := h.ub
 exact ⟨h.st.below k,d,i,r,h1,h2,h3,u.below k⟩
theorem Lp.ch (h : Lp w0 W g kb kr g0 c0 g1 c1 g2 c2 w) [c : Ch w w'] : Lp w0 W g kb kr g0 c0 g1 c1 g2 c2 w' := h.below c.out
theorem Lp.box (h : Lp w0 W g kb kr g0 c0 g1 c1 g2 c2 w) : Bx w kb (.slice (some ⟨g0,0,none⟩) 6 c0) (.slice (some ⟨g1,0,none⟩) 6 c1) (.slice (some ⟨g2,0,none⟩) 36 c2) := by
 obtain ⟨d,i,r,h1,h2,h3,u⟩ := h.ub
 exact bx_of u.bk
theorem Lp.rbox (h : Lp w0 W g kb kr g0 c0 g1 c1 g2 c2 w) : Bx w kr nl nl nl := by
 obtain ⟨d,i,r,h1,h2,h3,u⟩ := h.ub
 exact bx_of u.br
theorem far_set {u : World} {k t : Nat} {cs : Array Value} {l : List Int} {v : Value} {b base n : Nat} {x : Value} (h : IX u base v l) (hv : v.ownBlock = some b) (hk : u.heap[k]? = some (.cells cs t (0,0))) (ht : t ≠ 3) : (u.setCell ⟨b,n,none⟩ x).heap[k]? = some (.cells cs t (0,0)) := by
 refine blk_far hk (p := ⟨b,n,none⟩) ?_ x
 rintro rfl
 obtain ⟨cs',h'⟩ := box_typed h hv
 rw [h'] at hk
 injection hk with hk
 injection hk with _ hk
 exact ht hk.symm
theorem Lp.set0 (h : Lp w0 W g kb kr g0 c0 g1 c1 g2 c2 w) (h0 : w0.heap.size ≤ W.heap.size) (j : Nat) (x : Int) : Lp w0 W g kb kr g0 c0 g1 c1 g2 c2 (w.setCell ⟨g0,j,none⟩ (.int .i64 x)) := by
 obtain ⟨d,i,r,h1,h2,h3,u⟩ := h.ub
 have k := Kd.R_putg u.c3.a (j : Int) x
 rw [Int.toNat_natCast] at k
 have ty := box_typed u.c3.a (k := g0) rfl
 refine ⟨h.st.grown k.2 (fun e => ?_) (fun b hb => Kd.R_base u.c3.a b hb) h0,d.set j x,i,r,by rw [List.length_set];exact h1,h2,h3,far_set u.c3.a rfl u.bk (by decide),far_set u.c3.a rfl u.br (by decide),⟨k.1,u.c3.b.grown1 k.2 (u.c3.ab g0 rfl),u.c3.c.grown1 k.2 (u.c3.ac g0 rfl),u.c3.ab,u.c3.ac,u.c3.bc⟩,u.ne,u.gb,u.gr⟩
 obtain ⟨cs,hc⟩ := ty
 exact h.st.not hc (by decide) (Option.some.inj e).symm
theorem Lp.set1 (h : Lp w0 W g kb kr g0 c0 g1 c1 g2 c2 w) (h0 : w0.heap.size ≤ W.heap.size) (j : Nat) (x : Int) : Lp w0 W g kb kr g0 c0 g1 c1 g2 c2 (w.setCell ⟨g1,j,none⟩ (.int .i64 x)) := by
 obtain ⟨d,i,r,h1,h2,h3,u⟩ := h.ub
 have k := Kd.R_putg u.c3.b (j : Int) x
 rw [Int.toNat_natCast] at k
 have ty := box_typed u.c3.b (k := g1) rfl
 refine ⟨h.st.grown k.2 (fun e => ?_) (fun b hb => Kd.R_base u.c3.b b hb) h0,d,i.set j x,r,h1,by rw [List.length_set];exact h2,h3,far_set u.c3.b rfl u.bk (by decide),far_set u.c3.b rfl u.br (by decide),⟨u.c3.a.grown1 k.2 (u.c3.ab.symm g1 rfl),k.1,u.c3.c.grown1 k.2 (u.c3.bc g1 rfl),u.c3.ab,u.c3.ac,u.c3.bc⟩,u.ne,u.gb,u.gr⟩
 obtain ⟨cs,hc⟩ := ty
 exact h.st.not hc (by decide) (Option.some.inj e).symm
theorem Lp.set2 (h : Lp w0 W g kb kr g0 c0 g1 c1 g2 c2 w) (h0 : w0.heap.size ≤ W.heap.size) (j : Nat) (x : Int) : Lp w0 W g kb kr g0 c0 g1 c1 g2 c2 (w.setCell ⟨g2,j,none⟩ (.int .i64 x)) := by
 obtain ⟨d,i,r,h1,h2,h3,u⟩ := h.ub
 have k := Kd.R_putg u.c3.c (j : Int) x
 rw [Int.toNat_natCast] at k
 have ty := box_typed u.c3.c (k := g2) rfl
 refine ⟨h.st.grown k.2 (fun e => ?_) (fun b hb => Kd.R_base u.c3.c b hb) h0,d,i,r.set j x,h1,h2,by rw [List.length_set];exact h3,far_set u.c3.c rfl u.bk (by decide),far_set u.c3.c rfl u.br (by decide),⟨u.c3.a.grown1 k.2 (u.c3.ac.symm g2 rfl),u.c3.b.grown1 k.2 (u.c3.bc.symm g2 rfl),k.1,u.c3.ab,u.c3.ac,u.c3.bc⟩,u.ne,u.gb,u.gr⟩
 obtain ⟨cs,hc⟩ := ty
 exact h.st.not hc (by decide) (Option.some.inj e).symm
theorem Lp.cell0 (h : Lp w0 W g kb kr g0 c0 g1 c1 g2 c2 w) {j : Nat} (hj : j < 6) : ∃ x,w.cell? ⟨g0,j,none⟩ = some (.int .i64 x) ∧ w.frozen? ⟨g0,j,none⟩ = false := by
 obtain ⟨d,i,r,h1,h2,h3,u⟩ := h.ub
 exact u.c3.a.cell hj
theorem Lp.cell1 (h : Lp w0 W g kb kr g0 c0 g1 c1 g2 c2 w) {j : Nat} (hj : j < 6) : ∃ x,w.cell? ⟨g1,j,none⟩ = some (.int .i64 x) ∧ w.frozen? ⟨g1,j,none⟩ = false := by
 obtain ⟨d,i,r,h1,h2,h3,u⟩ := h.ub
 exact u.c3.b.cell hj
theorem Lp.cell2 (h : Lp w0 W g kb kr g0 c0 g1 c1 g2 c2 w) {j : Nat} (hj : j < 36) : ∃ x,w.cell? ⟨g2,j,none⟩ = some (.int .i64 x) ∧ w.frozen? ⟨g2,j,none⟩ = false := by
 obtain ⟨d,i,r,h1,h2,h3,u⟩ := h.ub
 exact u.c3.c.cell hj
theorem lp_new {d i r : List Int} (hs : St w0 W g w) (hr : w.heap[kr]? = some (.cells #[nl,nl,nl] 27 (0,0))) (hk : W.heap.size ≤ kr) {base : Nat} (hb : W.heap.size ≤ base) (c : C3 w base (.slice (some ⟨g0,0,none⟩) 6 c0) (.slice (some ⟨g1,0,none⟩) 6 c1) (.slice (some ⟨g2,0,none⟩) 36 c2) d i r) (h1 : d.length = 6) (h2 : i.length = 6) (h3 : r.length = 36) :
  Lp w0 W g w.heap.size kr g0 c0 g1 c1 g2 c2 (w.alloc (.cells #[.slice (some ⟨g0,0,none⟩) 6 c0,.slice (some ⟨g1,0,none⟩) 6 c1,.slice (some ⟨g2,0,none⟩) 36 c2] 27)) :=
 ⟨hs.below (below_alloc (Below.refl _ _) _),d,i,r,h1,h2,h3,blk_new _ _,blk_alloc hr _,(c.lower hb).below (below_alloc (Below.refl _ _) _),by have := blk_lt hr;omega,hs.size,hk⟩
def Pq (w0 w : World) (g : Nat) (e : Ending) (w' : World) : Prop := ∃ v0 v1 v2 d i r,e = .returned (.agg #[v0,v1,v2]) ∧ d.length = 6 ∧ i.length = 6 ∧ r.length = 36 ∧ C3 w' w.heap.size v0 v1 v2 d i r ∧ St w0 w g w'
theorem Lp.ret (h : Lp w0 W g kb kr g0 c0 g1 c1 g2 c2 w) (h0 : w0.heap.size ≤ W.heap.size) (x0 x1 x2 : Value) (e0 : x0 = .slice (some ⟨g0,0,none⟩) 6 c0) (e1 : x1 = .slice (some ⟨g1,0,none⟩) 6 c1) (e2 : x2 = .slice (some ⟨g2,0,none⟩) 36 c2) :
  (((w.setCell ⟨kr,0,none⟩ x0).setCell ⟨kr,1,none⟩ x1).setCell ⟨kr,2,none⟩ x2).heap[kr]? = some (.cells #[x0,x1,x2] 27 (0,0)) ∧
  Pq w0 W g (.returned (.agg #[x0,x1,x2])) (((w.setCell ⟨kr,0,none⟩ x0).setCell ⟨kr,1,none⟩ x1).setCell ⟨kr,2,none⟩ x2) := by
 subst e0 e1 e2
 obtain ⟨d,i,r,h1,h2,h3,u⟩ := h.ub
 have hg := u.give (.slice (some ⟨g0,0,none⟩) 6 c0) (.slice (some ⟨g1,0,none⟩) 6 c1) (.slice (some ⟨g2,0,none⟩) 36 c2)
 have hn := h.st.not u.br (by decide)
 exact ⟨hg.1,_,_,_,d,i,r,rfl,h1,h2,h3,hg.2,((h.st.set hn u.gr h0 _ _).set hn u.gr h0 _ _).set hn u.gr h0 _ _⟩
end
theorem pick_lit {w0 W w W1 : World} {g : Nat} (h : St w0 W g w) (l : List Int) (h0 : 0 < l.length) (h1 : l.length ≤ 256) [c : Ch w W1] :
  Calls Try.prog 132 #[.pointer (some ⟨g,0,none⟩),.slice (some ⟨W1.heap.size,0,none⟩) l.length l.length] (W1.alloc (.cells (nums .i64 l).toArray 3)) fun e w' => ∃ r : Int,e = .returned (.int .i64 r) ∧ St w0 w g w' := by
 have hw := h.ch (w' := W1)
 have hb : Below W1.heap.size W1 (W1.alloc (.cells (nums .i64 l).toArray 3)) := (Below.refl _ _).alloc (Nat.le_refl _) _
 obtain ⟨s0,s1,s2,i1,_⟩ := hw.cs
 have hlt := IsS130.lt i1
 have h2 := World.ownsRow_lit (base := 0) (e := 3) (size := 1) W1 (nums .i64 l).toArray l.length (Nat.zero_le _) (by unfold maxLen;omega) (by simp [nums])
 have h3 := Kd.R_of_own (enc := Value.int .i64) (h1 := fun _ => rfl) (xs := l) (ok := fun _ => True) (e := 3) h2 (fun _ _ => trivial)
 exact (pick_r (hw.below hb) W1.heap.size l.length l (by omega) h0 h1 (Nat.le_refl _) (Kd.R_reads' h3).2.2).mono fun e w' ⟨r,he,hs⟩ => ⟨r,he,h.via (w1 := W1) ((hw.start.below hb).to hs)⟩
set_option maxRecDepth 100000 in
set_option maxHeartbeats 1000000 in
theorem cost_r {w0 W w : World} {g : Nat} (h : St w0 W g w) : Calls Try.prog 112 #[.pointer (some ⟨g,0,none⟩)] w (Pq w0 w g) := by
 have hw0 := h.bel.size
 have hu := Try.underlying27
 have HS := Aside0.mk h.start
 clear h
 go_enter Try.func112,Try.ntmps112
 go_wp2_with (first | ((with_reducible refine gate_dst (N := 2) rfl ?_);refine bx_ 2 #[nl,nl,nl] 27 ?_;intro kr hg w1 hr hb1;replace HS := Aside0.mk (HS.out.below hb1);have HR := Aside0.mk hr;have HG := Aside0.mk hg;clear hr hb1 hg) | (go_at_call 27;refine (unit_r _).mono ?_;rintro e w2 ⟨v0,v1,v2,rfl,hc,hb2⟩;obtain ⟨g0,c0,rfl,_⟩ := hc.a.form (n := 6) (by simp) (by decide);obtain ⟨g1,c1,rfl,_⟩ := hc.b.form (n := 6) (by simp) (by decide);obtain ⟨g2,c2,rfl,_⟩ := hc.c.form (n := 36) (by decide) (by decide);have HC := Aside0.mk hc;replace HR := Aside0.mk (blk_below HR.out hb2);have hs1 := HS.out.size;replace HS := Aside0.mk (HS.out.below hb2);clear hc hb2))
 have HL := Aside0.mk (lp_new HS.out HR.out (by rw [HG.out];exact Nat.le_refl _) hs1 HC.out (by simp) (by simp) (by decide))
 obtain ⟨kb,hkb⟩ : ∃ kb,kb = w2.heap.size := ⟨_,rfl⟩
 rw [← hkb] at HL ⊢
 clear HS HR HG HC hkb hs1
 refine (below_r HL.out.st 4).mono ?_
 rintro e w3 ⟨r3,rfl,_,_,hs⟩
 replace HL := Aside0.mk (HL.out.call hs)
 clear hs
 by_cases q0 : r3 = 0
 ·subst q0
  obtain ⟨y0,y1,y2,f0,f1,f2⟩ := HL.out.box
  have HO := Aside0.mk HL.out.rbox
  obtain ⟨z0,z1,z2,e0,e1,e2⟩ := HO.out
  go_wp2
  have hg := HL.out.ret hw0 _ _ _ rfl rfl rfl
  exact bodyPost_ret (results_cell_row rfl _ _ kr 27 #[.slice (some ⟨g0,0,none⟩) 6 c0,.slice (some ⟨g1,0,none⟩) 6 c1,.slice (some ⟨g2,0,none⟩) 36 c2] (0,0) _ rfl hg.1 hu rfl (by kernel_rfl)) rfl hg.2
 have n0 := beq_no q0
 by_cases q1 : r3 = 1
 ·subst q1
  go_wp2
  go_loopg [4] 36 (fun gg s4 wr => ∃ x : Nat,x ≤ 36 ∧ 36 - x ≤ gg ∧ s4 = .int .i64 (x : Int) ∧ Aside0 (Lp w0 w g kb kr g0 c0 g1 c1 g2 c2 wr))
  case atStart => exact ⟨0,by omega,by omega,rfl,HL⟩
  case round =>
   clear HL
   obtain ⟨x,hx,hgg,rfl,HL⟩ := hrel
   obtain ⟨y0,y1,y2,f0,f1,f2⟩ := HL.out.box
   by_cases hlt : x < 36
   ·have hz : (x : Int) < 36 := by omega
    obtain ⟨n,hn,hf⟩ := HL.out.cell2 hlt
    go_wp2
    go_still_tail 10,(by kernel_rfl)
    change wpList _ _ _ _ _ wr.drew
    replace HL := Aside0.mk (HL.out.ch (w' := wr.drew))
    clear y0 y1 y2 f0 f1 f2 hn hf
    generalize wr.drew = w5 at HL
    obtain ⟨n',hn,hf⟩ := HL.out.cell2 hlt
    go_wp2
    replace HL := Aside0.mk (HL.out.set2 hw0 x (wrap64 (n * 3)))
    go_roundg (36 - (x + 1))
    case measure => omega
    case rel => exact ⟨x + 1,by omega,by omega,by go_num,HL⟩
   ·obtain rfl : x = 36 := by omega
    obtain ⟨z0,z1,z2,e0,e1,e2⟩ := HL.out.rbox
    go_wp2
    have hg := HL.out.ret hw0 _ _ _ rfl rfl rfl
    exact bodyPost_ret (results_cell_row rfl _ _ kr 27 #[.slice (some ⟨g0,0,none⟩) 6 c0,.slice (some ⟨g1,0,none⟩) 6 c1,.slice (some ⟨g2,0,none⟩) 36 c2] (0,0) _ rfl hg.1 hu rfl (by kernel_rfl)) rfl hg.2
 have n1 := beq_no q1
 go_wp2
 go_loopg [5] 6 (fun gg s5 wr => ∃ x : Nat,x ≤ 6 ∧ 6 - x ≤ gg ∧ s5 = .int .i64 (x : Int) ∧ Aside0 (Lp w0 w g kb kr g0 c0 g1 c1 g2 c2 wr))
 case atStart => exact ⟨0,by omega,by omega,rfl,HL⟩
 case round =>
  clear HL
  obtain ⟨x,hx,hgg,rfl,HL⟩ := hrel
  by_cases hlt : x < 6
  ·have hz : (x : Int) < 6 := by omega
   obtain ⟨y0,y1,y2,f0,f1,f2⟩ := HL.out.box
   go_wp2
   go_region_held3 (fun w' => w'.cell? ⟨kb,0,none⟩ = some (.slice (some ⟨g0,0,none⟩) 6 c0)) (first | exact HL.out.box.c0 | exact (HL.out.set0 hw0 _ _).box.c0) ((go_at_call 113;refine (below_r HL.out.st 7).mono ?_;rintro e w6 ⟨r6,rfl,_,_,hs⟩;replace HL := Aside0.mk (HL.out.call hs);clear hs y0 y1 y2 f0 f1 f2;obtain ⟨n',hn,hf⟩ := HL.out.cell0 hlt))
   replace HL := Aside0.mk (HL.out.set0 hw0 x r6)
   clear hn hf
   generalize w6.setCell ⟨g0,x,none⟩ (.int .i64 r6) = w7 at HL ⊢
   obtain ⟨y0,y1,y2,f0,f1,f2⟩ := HL.out.box
   go_wp2
   go_region_held3 (fun w' => w'.cell? ⟨kb,1,none⟩ = some (.slice (some ⟨g1,0,none⟩) 6 c1)) (first | exact HL.out.box.c1 | exact (HL.out.set1 hw0 _ _).box.c1) ((go_at_call 113;refine (below_r HL.out.st 7).mono ?_;rintro e w8 ⟨r8,rfl,_,_,hs⟩;replace HL := Aside0.mk (HL.out.call hs);clear hs y0 y1 y2 f0 f1 f2;obtain ⟨n',hn,hf⟩ := HL.out.cell1 hlt))
   replace HL := Aside0.mk (HL.out.set1 hw0 x r8)
   clear hn hf
   generalize w8.setCell ⟨g1,x,none⟩ (.int .i64 r8) = w9 at HL ⊢
   go_wp2
   go_loopg [6] 6 (fun gg s6 wr => ∃ y : Nat,y ≤ 6 ∧ 6 - y ≤ gg ∧ s6 = .int .i64 (y : Int) ∧ Aside0 (Lp w0 w g kb kr g0 c0 g1 c1 g2 c2 wr))
   case atStart => exact ⟨0,by omega,by omega,rfl,HL⟩
   case round =>
    clear HL
    obtain ⟨y,hy,hgg,rfl,HL⟩ := hrel
    by_cases hly : y < 6
    ·have hzy : (y : Int) < 6 := by omega
     obtain ⟨y0,y1,y2,f0,f1,f2⟩ := HL.out.box
     by_cases c : x = y
     ·have q : ((x : Int) != (y : Int)) = false := by rw [c];simp
      go_wp2
      go_roundg (6 - (y + 1))
      case measure => omega
      case rel => exact ⟨y + 1,by omega,by omega,by go_num,HL⟩
     ·have q : ((x : Int) != (y : Int)) = true := by rw [bne_iff_ne];omega
      have hi : 6 * x + y < 36 := by omega
      have a1 : IntKind.i64.wrap ((x : Int) * 6) = ((6 * x : Nat) : Int) := by rw [IntKind.wrap_i64];omega
      have a2 : IntKind.i64.wrap (((6 * x : Nat) : Int) + (y : Int)) = ((6 * x + y : Nat) : Int) := by rw [IntKind.wrap_i64];omega
      have a3 : (0 : Int) ≤ ((6 * x + y : Nat) : Int) := by omega
      have a4 : ((6 * x + y : Nat) : Int) < 36 := by omega
      generalize 6 * x + y = z at hi a2 a3 a4
      generalize ((6 * x : Nat) : Int) = z1 at a1 a2
      go_wp2
      go_region_held3 (fun w' => w'.cell? ⟨kb,2,none⟩ = some (.slice (some ⟨g2,0,none⟩) 36 c2)) (first | exact HL.out.box.c2 | exact (HL.out.ch).box.c2 | exact (HL.out.set2 hw0 _ _).box.c2) ((go_at_call 132;(first | refine (pick_lit (W1 := wr.drew) HL.out.st [0,1,4,9,1000] (by decide) (by decide)).mono ?_ | refine (pick_lit (W1 := wr) HL.out.st [0,1,4,9,1000] (by decide) (by decide)).mono ?_);rintro e w10 ⟨r10,rfl,hs⟩;replace HL := Aside0.mk (HL.out.call hs);clear hs y0 y1 y2 f0 f1 f2;obtain ⟨n',hn,hf⟩ := HL.out.cell2 hi))
      replace HL := Aside0.mk (HL.out.set2 hw0 z r10)
      clear hn hf
      generalize w10.setCell ⟨g2,z,none⟩ (.int .i64 r10) = w11 at HL ⊢
      go_wp2
      go_roundg (6 - (y + 1))
      case measure => omega
      case rel => exact ⟨y + 1,by omega,by omega,by go_num,HL⟩
    ·obtain rfl : y = 6 := by omega
     go_wp2
     go_roundg (6 - (x + 1))
     case measure => omega
     case rel => exact ⟨x + 1,by omega,by omega,by go_num,HL⟩
  ·obtain rfl : x = 6 := by omega
   obtain ⟨y0,y1,y2,f0,f1,f2⟩ := HL.out.box
   obtain ⟨z0,z1,z2,e0,e1,e2⟩ := HL.out.rbox
   go_wp2
   have hg := HL.out.ret hw0 _ _ _ rfl rfl rfl
   exact bodyPost_ret (results_cell_row rfl _ _ kr 27 #[.slice (some ⟨g0,0,none⟩) 6 c0,.slice (some ⟨g1,0,none⟩) 6 c1,.slice (some ⟨g2,0,none⟩) 36 c2] (0,0) _ rfl hg.1 hu rfl (by kernel_rfl)) rfl hg.2
end Go.Proofs.Ytngphdmbjenkaaa.X
namespace Go.Proofs.Ytngphdmbjenkaaa.X
open Go.RowKit Go.Proofs.YtngphdmbjenkaaaW.PrintWords Go.Proofs.YtngphdmbjenkaaaW.PrintLast Go.Proofs.YtngphdmbjenkaaaW.PrintMore Go.Proofs.Ytngphdmbjenkaaa.Q
set_option linter.unusedVariables false
set_option linter.unusedSimpArgs false
abbrev IQ (w : World) (base : Nat) (v : Value) (l : List Int) : Prop := Kd.Q (Kd.int .i64) 3 w base (fun _ => True) v l
theorem IQ.keep {w0 W : World} {g : Nat} {w w' : World} {base : Nat} {v : Value} {l : List Int} (h : IQ w base v l) (hs : St w0 W g w) (k : KeepBut w w' g none) : IQ w' base v l := by
 obtain ⟨s0,s1,s2,h1,_⟩ := hs.cs
 exact Kd.Q_mono (Kd.Q_keep (IsS130.apartQ h1 h (by decide)) k (fun _ h => h.2)) (fun _ h => h.1)
structure Q3 (w : World) (base : Nat) (v0 v1 v2 : Value) (d i r : List Int) : Prop where
 a : IQ w base v0 d
 b : IQ w base v1 i
 c : IQ w base v2 r
theorem C3.q {w : World} {base : Nat} {v0 v1 v2 : Value} {d i r : List Int} (h : C3 w base v0 v1 v2 d i r) : Q3 w base v0 v1 v2 d i r := ⟨Kd.Q_of_R h.a,Kd.Q_of_R h.b,Kd.Q_of_R h.c⟩
theorem Q3.keep {w0 W : World} {g : Nat} {w w' : World} {base : Nat} {v0 v1 v2 : Value} {d i r : List Int} (h : Q3 w base v0 v1 v2 d i r) (hs : St w0 W g w) (k : KeepBut w w' g none) : Q3 w' base v0 v1 v2 d i r := ⟨h.a.keep hs k,h.b.keep hs k,h.c.keep hs k⟩
theorem Q3.below {w w' : World} {base : Nat} {v0 v1 v2 : Value} {d i r : List Int} (h : Q3 w base v0 v1 v2 d i r) (b : Below w.heap.size w w') : Q3 w' base v0 v1 v2 d i r := ⟨Kd.Q_below h.a b,Kd.Q_below h.b b,Kd.Q_below h.c b⟩
theorem Q3.lower {w : World} {base base' : Nat} {v0 v1 v2 : Value} {d i r : List Int} (h : Q3 w base v0 v1 v2 d i r) (hb : base' ≤ base) : Q3 w base' v0 v1 v2 d i r := ⟨Kd.Q_lower h.a hb,Kd.Q_lower h.b hb,Kd.Q_lower h.c hb⟩
def Pa (w0 w : World) (g : Nat) (e : Ending) (w' : World) : Prop := ∃ v0 v1 v2 d i r,e = .returned (.agg #[v0,v1,v2]) ∧ d.length ≤ 40 ∧ i.length ≤ 40 ∧ r.length ≤ 40 ∧ Q3 w' w.heap.size v0 v1 v2 d i r ∧ St w0 w g w'
theorem Pq.pa {w0 w : World} {g : Nat} {e : Ending} {w' : World} (h : Pq w0 w g e w') : Pa w0 w g e w' := by
 obtain ⟨v0,v1,v2,d,i,r,he,h1,h2,h3,c,s⟩ := h
 exact ⟨v0,v1,v2,d,i,r,he,by omega,by omega,by omega,c.q,s⟩
theorem Lp.ret1 {w0 W : World} {g kb kr g0 c0 g1 c1 g2 c2 : Nat} {w : World} (h : Lp w0 W g kb kr g0 c0 g1 c1 g2 c2 w) (h0 : w0.heap.size ≤ W.heap.size) (A1 : Option Addr) (hA : A1 = (if c1 = 1 then some ⟨g1,0,none⟩ else (some ⟨g1,0,none⟩ : Option Addr).map (·.add (1 * 1)))) :
  (w.setCell ⟨kb,1,none⟩ (.slice A1 5 (c1 - 1))).heap[kb]? = some (.cells #[.slice (some ⟨g0,0,none⟩) 6 c0,.slice A1 5 (c1 - 1),.slice (some ⟨g2,0,none⟩) 36 c2] 27 (0,0)) ∧
  (w.setCell ⟨kb,1,none⟩ (.slice A1 5 (c1 - 1))).heap[kr]? = some (.cells #[nl,nl,nl] 27 (0,0)) ∧
  ((((w.setCell ⟨kb,1,none⟩ (.slice A1 5 (c1 - 1))).setCell ⟨kr,0,none⟩ (.slice (some ⟨g0,0,none⟩) 6 c0)).setCell ⟨kr,1,none⟩ (.slice A1 5 (c1 - 1))).setCell ⟨kr,2,none⟩ (.slice (some ⟨g2,0,none⟩) 36 c2)).heap[kr]? = some (.cells #[.slice (some ⟨g0,0,none⟩) 6 c0,.slice A1 5 (c1 - 1),.slice (some ⟨g2,0,none⟩) 36 c2] 27 (0,0)) ∧
  Pa w0 W g (.returned (.agg #[.slice (some ⟨g0,0,none⟩) 6 c0,.slice A1 5 (c1 - 1),.slice (some ⟨g2,0,none⟩) 36 c2])) ((((w.setCell ⟨kb,1,none⟩ (.slice A1 5 (c1 - 1))).setCell ⟨kr,0,none⟩ (.slice (some ⟨g0,0,none⟩) 6 c0)).setCell ⟨kr,1,none⟩ (.slice A1 5 (c1 - 1))).setCell ⟨kr,2,none⟩ (.slice (some ⟨g2,0,none⟩) 36 c2)) := by
 obtain ⟨d,i,r,h1,h2,h3,u⟩ := h.ub
 have u' := u.put1 (.slice A1 5 (c1 - 1))
 have hg := u'.give (.slice (some ⟨g0,0,none⟩) 6 c0) (.slice A1 5 (c1 - 1)) (.slice (some ⟨g2,0,none⟩) 36 c2)
 have hn := h.st.not u.br (by decide)
 have hk := h.st.not u.bk (by decide)
 have hs := (((h.st.set hk u.gb h0 1 (.slice A1 5 (c1 - 1))).set hn u.gr h0 0 (.slice (some ⟨g0,0,none⟩) 6 c0)).set hn u.gr h0 1 (.slice A1 5 (c1 - 1))).set hn u.gr h0 2 (.slice (some ⟨g2,0,none⟩) 36 c2)
 have q := Kd.Q_drop (k := 1) (Kd.Q_of_R hg.2.b) (by omega)
 have q' : IQ ((((w.setCell ⟨kb,1,none⟩ (.slice A1 5 (c1 - 1))).setCell ⟨kr,0,none⟩ (.slice (some ⟨g0,0,none⟩) 6 c0)).setCell ⟨kr,1,none⟩ (.slice A1 5 (c1 - 1))).setCell ⟨kr,2,none⟩ (.slice (some ⟨g2,0,none⟩) 36 c2)) W.heap.size (.slice A1 5 (c1 - 1)) (i.drop 1) := by
  subst hA
  exact q
 have hl : (i.drop 1).length ≤ 40 := by rw [List.length_drop];omega
 refine ⟨u'.bk,u'.br,hg.1,?_⟩
 clear hA q u u' h
 exact ⟨_,_,_,d,i.drop 1,r,rfl,by omega,hl,by omega,⟨Kd.Q_of_R hg.2.a,q',Kd.Q_of_R hg.2.c⟩,hs⟩
section
variable {w0 W w W1 : World} {g b n : Nat} {cs : Array Value}
structure Lit (w : World) (g b : Nat) (l : List Int) : Prop where
 c : Kd.C (Kd.int .i64) w (some ⟨b,0,none⟩) l.length l
 ne : b ≠ g
theorem lit_new (h : St w0 W g w) (l : List Int) (h1 : l.length ≤ 256) [c : Ch w W1] (hcs : cs = (nums .i64 l).toArray) : Lit (W1.alloc (.cells cs 3)) g W1.heap.size l ∧ Below w.heap.size w (W1.alloc (.cells cs 3)) := by
 subst hcs
 have hw := h.ch (w' := W1)
 obtain ⟨s0,s1,s2,i1,_⟩ := hw.cs
 have hlt := IsS130.lt i1
 have h2 := World.ownsRow_lit (base := 0) (e := 3) (size := 1) W1 (nums .i64 l).toArray l.length (Nat.zero_le _) (by unfold maxLen;omega) (by simp [nums])
 have h3 := Kd.R_of_own (enc := Value.int .i64) (h1 := fun _ => rfl) (xs := l) (ok := fun _ => True) (e := 3) h2 (fun _ _ => trivial)
 exact ⟨⟨(Kd.R_reads' h3).2.2,by omega⟩,below_alloc c.out _⟩
theorem Lit.keep {w' : World} {l : List Int} (h : Lit w g b l) (k : KeepBut w w' g none) (h0 : 0 < l.length) : Lit w' g b l := by
 refine ⟨⟨h.c.1,h.c.2.1,fun hp => ?_⟩,h.ne⟩
 obtain ⟨ad,e,hh⟩ := h.c.2.2 hp
 cases e
 refine ⟨_,rfl,fun j p hj => ?_⟩
 obtain ⟨c,hlen,hK,hc⟩ := hh j p hj
 exact ⟨c,hlen,hK,fun i u hu => keep_cell k (hc i u hu) (by rw [add_block];exact h.ne)⟩
theorem below_lit (h : St w0 W g w) (n : Int) (l : List Int) (h0 : 0 < l.length) (h1 : l.length ≤ 256) [c : Ch w W1] (hcs : cs = (nums .i64 l).toArray) {W2 : World} [c2 : Ch (W1.alloc (.cells cs 3)) W2] :
  Calls Try.prog 113 #[.pointer (some ⟨g,0,none⟩),.int .i64 n] W2 fun e w' => ∃ r : Int,e = .returned (.int .i64 r) ∧ 0 ≤ r ∧ (0 < n → r < n) ∧ St w0 w g w' ∧ Lit w' g W1.heap.size l := by
 obtain ⟨l1,b1⟩ := lit_new h l h1 (W1 := W1) hcs
 have b2 := below_step b1 c2.out
 have l2 : Lit W2 g W1.heap.size l := ⟨Kd.C_below l1.c c2.out,l1.ne⟩
 exact (below_r (h.start.below b2) n).mono fun e w' ⟨r,he,r0,r1,hs⟩ => ⟨r,he,r0,r1,(h.start.below b2).to hs,l2.keep hs.keep h0⟩
theorem pick_old (h : St w0 W g w) (l : List Int) (h0 : 0 < l.length) (h1 : l.length ≤ 256) (hl : Lit w g b l) [c : Ch w W1] (hn : l.length = n) :
  Calls Try.prog 132 #[.pointer (some ⟨g,0,none⟩),.slice (some ⟨b,0,none⟩) n n] W1 fun e w' => ∃ r : Int,e = .returned (.int .i64 r) ∧ St w0 w g w' := by
 subst hn
 exact pick_r h b l.length l hl.ne h0 h1 (Nat.le_refl _) hl.c
theorem pick_new (h : St w0 W g w) (l : List Int) (h0 : 0 < l.length) (h1 : l.length ≤ 256) [c : Ch w W1] (hcs : cs = (nums .i64 l).toArray) (hn : l.length = n) :
  Calls Try.prog 132 #[.pointer (some ⟨g,0,none⟩),.slice (some ⟨W1.heap.size,0,none⟩) n n] (W1.alloc (.cells cs 3)) fun e w' => ∃ r : Int,e = .returned (.int .i64 r) ∧ St w0 w g w' := by
 subst hcs hn
 exact pick_lit h l h0 h1
end
set_option maxRecDepth 100000 in
set_option maxHeartbeats 1000000 in
theorem l7any_r {w0 W w : World} {g : Nat} (h : St w0 W g w) : Calls Try.prog 114 #[.pointer (some ⟨g,0,none⟩)] w (Pa w0 w g) := by
 have hw0 := h.bel.size
 have hu := Try.underlying27
 have HS := Aside0.mk h.start
 clear h
 go_enter Try.func114,Try.ntmps114
 go_wp2_with (first | ((with_reducible refine gate_dst (N := 2) rfl ?_);refine bx_ 2 #[nl,nl,nl] 27 ?_;intro kr hg w1 hr hb1;replace HS := Aside0.mk (HS.out.below hb1);have HR := Aside0.mk hr;have HG := Aside0.mk hg;clear hr hb1 hg) | (go_at_call 112;refine (cost_r HS.out).mono ?_;rintro e w2 ⟨v0,v1,v2,d,i,r,rfl,hd,hi,hr,hc,hs⟩;obtain ⟨g0,c0,rfl,_⟩ := hc.a.form hd (by decide);obtain ⟨g1,c1,rfl,_⟩ := hc.b.form hi (by decide);obtain ⟨g2,c2,rfl,_⟩ := hc.c.form hr (by decide);have HC := Aside0.mk hc;replace HR := Aside0.mk (KeepBut.blk hs.keep HR.out (HS.out.not HR.out (by decide)) (by simp));have hs1 := HS.out.size;replace HS := Aside0.mk (HS.out.to hs);have HD := Aside0.mk hd;have HI := Aside0.mk hi;have HRR := Aside0.mk hr;clear hc hs hd hi hr))
 have HL := Aside0.mk (lp_new HS.out HR.out (by rw [HG.out];exact Nat.le_refl _) hs1 HC.out HD.out HI.out HRR.out)
 obtain ⟨kb,hkb⟩ : ∃ kb,kb = w2.heap.size := ⟨_,rfl⟩
 rw [← hkb] at HL ⊢
 clear HS HR HG HC hkb hs1 HD HI HRR
 refine (below_r HL.out.st 14).mono ?_
 rintro e w3 ⟨r3,rfl,_,_,hs⟩
 replace HL := Aside0.mk (HL.out.call hs)
 clear hs
 obtain ⟨y0,y1,y2,f0,f1,f2⟩ := HL.out.box
 by_cases q0 : r3 = 0
 ·subst q0
  go_wp2
  go_region_held3 (fun w' => w'.cell? ⟨kb,0,none⟩ = some (.slice (some ⟨g0,0,none⟩) 6 c0)) (first | with_reducible exact HL.out.box.c0 | with_reducible exact (HL.out.ch).box.c0 | with_reducible exact (HL.out.set0 hw0 _ _).box.c0) ((first | (go_at_call 113;(with_reducible refine (below_lit (W1 := w3) (cs := #[.int .i64 (-1),.int .i64 1001,.int .i64 1000]) HL.out.st 6 [-1,1001,1000] (by decide) (by decide) (by with_unfolding_all rfl)).mono ?_);rintro e w4 ⟨r4,rfl,x0,x1,hs,hl⟩;have HI := Aside0.mk hl;clear hl;replace HL := Aside0.mk (HL.out.call hs);clear hs y0 y1 y2 f0 f1 f2;replace x1 := x1 (by decide);obtain ⟨j,rfl⟩ := Int.eq_ofNat_of_zero_le x0;clear x0;have hj : j < 6 := by omega) | (go_at_call 113;(with_reducible refine (below_r HL.out.st 6).mono ?_);rintro e w4 ⟨r4,rfl,x0,x1,hs⟩;replace HL := Aside0.mk (HL.out.call hs);clear hs y0 y1 y2 f0 f1 f2;replace x1 := x1 (by decide);obtain ⟨j,rfl⟩ := Int.eq_ofNat_of_zero_le x0;clear x0;have hj : j < 6 := by omega) | (go_at_call 132;(with_reducible first | refine (pick_old (W1 := w4) (n := 3) HL.out.st [-1,1001,1000] (by decide) (by decide) HI.out (by with_unfolding_all rfl)).mono ?_ | refine (pick_new (W1 := w4) (cs := #[.int .i64 (-1),.int .i64 1001,.int .i64 1000]) (n := 3) HL.out.st [-1,1001,1000] (by decide) (by decide) (by with_unfolding_all rfl) (by with_unfolding_all rfl)).mono ?_);rintro e w10 ⟨r10,rfl,hs⟩;replace HL := Aside0.mk (HL.out.call hs);clear hs;obtain ⟨n',hn,hf⟩ := HL.out.cell0 hj)))
  all_goals
   replace HL := Aside0.mk (HL.out.set0 hw0 j r10)
   clear hn hf
   generalize w10.setCell ⟨g0,j,none⟩ (.int .i64 r10) = w11 at HL ⊢
   obtain ⟨y0,y1,y2,f0,f1,f2⟩ := HL.out.box
   obtain ⟨z0,z1,z2,e0,e1,e2⟩ := HL.out.rbox
   go_wp2
   have hg := HL.out.ret hw0 _ _ _ rfl rfl rfl
   exact bodyPost_ret (results_cell_row rfl _ _ kr 27 #[.slice (some ⟨g0,0,none⟩) 6 c0,.slice (some ⟨g1,0,none⟩) 6 c1,.slice (some ⟨g2,0,none⟩) 36 c2] (0,0) _ rfl hg.1 hu rfl (by kernel_rfl)) rfl hg.2.pa
 have n0 := beq_no q0
 by_cases q1 : r3 = 1
 ·subst q1
  go_wp2
  go_region_held3 (fun w' => w'.cell? ⟨kb,2,none⟩ = some (.slice (some ⟨g2,0,none⟩) 36 c2)) (first | exact HL.out.box.c2 | exact (HL.out.set2 hw0 _ _).box.c2) ((go_at_call 113;refine (below_r HL.out.st 36).mono ?_;rintro e w4 ⟨r4,rfl,x0,x1,hs⟩;replace HL := Aside0.mk (HL.out.call hs);clear hs y0 y1 y2 f0 f1 f2;replace x1 := x1 (by decide);obtain ⟨j,rfl⟩ := Int.eq_ofNat_of_zero_le x0;clear x0;have hj : j < 36 := (by omega);obtain ⟨n',hn,hf⟩ := HL.out.cell2 hj))
  replace HL := Aside0.mk (HL.out.set2 hw0 j 5)
  clear hn hf
  generalize w4.setCell ⟨g2,j,none⟩ (.int .i64 5) = w11 at HL ⊢
  obtain ⟨y0,y1,y2,f0,f1,f2⟩ := HL.out.box
  obtain ⟨z0,z1,z2,e0,e1,e2⟩ := HL.out.rbox
  go_wp2
  have hg := HL.out.ret hw0 _ _ _ rfl rfl rfl
  exact bodyPost_ret (results_cell_row rfl _ _ kr 27 #[.slice (some ⟨g0,0,none⟩) 6 c0,.slice (some ⟨g1,0,none⟩) 6 c1,.slice (some ⟨g2,0,none⟩) 36 c2] (0,0) _ rfl hg.1 hu rfl (by kernel_rfl)) rfl hg.2.pa
 have n1 := beq_no q1
 obtain ⟨z0,z1,z2,e0,e1,e2⟩ := HL.out.rbox
 by_cases q2 : r3 = 2
 ·subst q2
  obtain ⟨i0,hi0,_,hsz,_⟩ := info_parts info3
  obtain ⟨A1,hA1⟩ : ∃ A1,A1 = (if c1 = 1 then some ⟨g1,0,none⟩ else (some ⟨g1,0,none⟩ : Option Addr).map (·.add (1 * 1))) := ⟨_,rfl⟩
  have hcut : ∀ W : World,(Instr.slice 25 (.slice (some ⟨g1,0,none⟩) 6 c1) (some (.int .i64 1)) none none).run Try.prog W = .ok (.slice A1 5 (c1 - 1)) W := by
   rw [hA1];exact cut_from (P := Try.prog) 25 3 .i64 Try.underlying25 hi0 1 hsz (some ⟨g1,0,none⟩) 6 c1 1 (by omega) (by omega)
  have hret := Aside0.mk (HL.out.ret1 hw0 A1 hA1)
  obtain ⟨y0',y1',y2',f0',f1',f2'⟩ := bx_of hret.out.1
  obtain ⟨z0',z1',z2',e0',e1',e2'⟩ := bx_of hret.out.2.1
  clear hA1 hi0 hsz
  go_wp2
  exact bodyPost_ret (results_cell_row rfl _ _ kr 27 #[.slice (some ⟨g0,0,none⟩) 6 c0,.slice A1 5 (c1 - 1),.slice (some ⟨g2,0,none⟩) 36 c2] (0,0) _ rfl hret.out.2.2.1 hu rfl (by kernel_rfl)) rfl hret.out.2.2.2
 have n2 := beq_no q2
 go_wp2
 have hg := HL.out.ret hw0 _ _ _ rfl rfl rfl
 exact bodyPost_ret (results_cell_row rfl _ _ kr 27 #[.slice (some ⟨g0,0,none⟩) 6 c0,.slice (some ⟨g1,0,none⟩) 6 c1,.slice (some ⟨g2,0,none⟩) 36 c2] (0,0) _ rfl hg.1 hu rfl (by kernel_rfl)) rfl hg.2.pa
end Go.Proofs.Ytngphdmbjenkaaa.X
namespace Go.Proofs.Ytngphdmbjenkaaa.X
open Go.RowKit Go.Proofs.YtngphdmbjenkaaaW.PrintWords Go.Proofs.YtngphdmbjenkaaaW.PrintLast Go.Proofs.YtngphdmbjenkaaaW.PrintMore Go.Proofs.Ytngphdmbjenkaaa.Q
set_option linter.unusedVariables false
set_option linter.unusedSimpArgs false
theorem results_ttc {P : Program} {fn : Func} {u v p : Tmp} {ty : TypeId} (h : fn.results = #[.tmp u,.tmp v,.cell p ty]) (tmps : Array Value) (w : World) (g : Nat) (t : TypeId) (cs : Array Value) (fr : Nat × Nat) (d : TypeDesc)
  (hp : tmps.getD p undef = .pointer (some ⟨g,0,none⟩)) (hg : w.heap[g]? = some (.cells cs t fr))
  (hu : P.underlying ty = some d) (hd : (match d with | .struct _ | .array _ _ => true | _ => false) = true) (hi : (P.info? ty).map (·.size) = some cs.size) :
  (results fn tmps).run P w = .ok (.tuple #[tmps.getD u undef,tmps.getD v undef,.agg cs]) w := by
 have hp' : tmps[p]?.getD undef = .pointer (some ⟨g,0,none⟩) := by simpa using hp
 simp [results,h,hp',asAddr,run_loadVar_row w g t ty cs fr d hg hu hd hi]
structure D1 (w0 W : World) (g kr : Nat) (va vb : Value) (a b : List NdI) (w : World) : Prop where
 st : St w0 W g w
 na : NQ w W.heap.size va a
 nb : NQ w W.heap.size vb b
 la : a.length ≤ 200
 lb : b.length ≤ 200
 br : w.heap[kr]? = some (.cells #[nl,nl,nl] 27 (0,0))
 gr : W.heap.size ≤ kr
section
variable {w0 W w w' : World} {g kr kb : Nat} {va vb v v0 v1 v2 : Value} {a b x : List NdI} {d i r : List Int}
theorem D1.call (h : D1 w0 W g kr va vb a b w) (k : St w0 w g w') : D1 w0 W g kr va vb a b w' :=
 ⟨h.st.to k,h.na.keep h.st k,h.nb.keep h.st k,h.la,h.lb,KeepBut.blk k.keep h.br (h.st.not h.br (by decide)) (by simp),h.gr⟩
theorem D1.below (h : D1 w0 W g kr va vb a b w) (k : Below w.heap.size w w') : D1 w0 W g kr va vb a b w' :=
 ⟨h.st.below k,Kd.Q_below h.na k,Kd.Q_below h.nb k,h.la,h.lb,blk_below h.br k,h.gr⟩
theorem D1.ch (h : D1 w0 W g kr va vb a b w) [c : Ch w w'] : D1 w0 W g kr va vb a b w' := h.below c.out
theorem D1.a' (h : D1 w0 W g kr va vb a b w) {base : Nat} (hn : NQ w base v x) (hb : W.heap.size ≤ base) (hl : x.length ≤ 200) : D1 w0 W g kr v vb x b w := ⟨h.st,Kd.Q_lower hn hb,h.nb,hl,h.lb,h.br,h.gr⟩
theorem D1.b' (h : D1 w0 W g kr va vb a b w) {base : Nat} (hn : NQ w base v x) (hb : W.heap.size ≤ base) (hl : x.length ≤ 200) : D1 w0 W g kr va v a x w := ⟨h.st,h.na,Kd.Q_lower hn hb,h.la,hl,h.br,h.gr⟩
structure D2 (w0 W : World) (g kr kb : Nat) (va vb v0 v1 v2 : Value) (a b : List NdI) (d i r : List Int) (w : World) : Prop where
 d1 : D1 w0 W g kr va vb a b w
 bk : w.heap[kb]? = some (.cells #[v0,v1,v2] 27 (0,0))
 gb : W.heap.size ≤ kb
 ne : kb ≠ kr
 q3 : Q3 w W.heap.size v0 v1 v2 d i r
 ld : d.length ≤ 40
 li : i.length ≤ 40
 lr : r.length ≤ 40
theorem D2.call (h : D2 w0 W g kr kb va vb v0 v1 v2 a b d i r w) (k : St w0 w g w') : D2 w0 W g kr kb va vb v0 v1 v2 a b d i r w' :=
 ⟨h.d1.call k,KeepBut.blk k.keep h.bk (h.d1.st.not h.bk (by decide)) (by simp),h.gb,h.ne,h.q3.keep h.d1.st k.keep,h.ld,h.li,h.lr⟩
theorem D2.below (h : D2 w0 W g kr kb va vb v0 v1 v2 a b d i r w) (k : Below w.heap.size w w') : D2 w0 W g kr kb va vb v0 v1 v2 a b d i r w' :=
 ⟨h.d1.below k,blk_below h.bk k,h.gb,h.ne,h.q3.below k,h.ld,h.li,h.lr⟩
theorem D2.ch (h : D2 w0 W g kr kb va vb v0 v1 v2 a b d i r w) [c : Ch w w'] : D2 w0 W g kr kb va vb v0 v1 v2 a b d i r w' := h.below c.out
theorem NQ.far {base k t n : Nat} {cs : Array Value} {u : Value} (h : NQ w base v x) (hk : w.heap[k]? = some (.cells cs t (0,0))) (ht : t ≠ 77) (hi : t ≠ 3) : NQ (w.setCell ⟨k,n,none⟩ u) base v x := by
 refine Kd.Q_mono (Kd.Q_step (Kd.Q_types h hk (fun q hq => ?_)) (fun j hj _ => Below.heap_setCell w ⟨k,n,none⟩ u j hj.2)) (fun _ h => h.1)
 have : q = 77 ∨ q = 3 ∨ q ∈ k77.E := by
  rcases List.mem_cons.1 hq with h | h
  ·exact .inl h
  ·exact .inr (.inr h)
 rcases this with rfl | rfl | h3
 ·exact fun e => ht e.symm
 ·exact fun e => hi e.symm
 ·exact absurd h3 (by simp [k77,Kd.iso,Kd.pair,Kd.int,Kd.scalar])
theorem IQ.far {base k t n : Nat} {cs : Array Value} {u : Value} {l : List Int} (h : IQ w base v l) (hk : w.heap[k]? = some (.cells cs t (0,0))) (hi : t ≠ 3) : IQ (w.setCell ⟨k,n,none⟩ u) base v l := by
 refine Kd.Q_mono (Kd.Q_step (Kd.Q_types h hk (fun q hq => ?_)) (fun j hj _ => Below.heap_setCell w ⟨k,n,none⟩ u j hj.2)) (fun _ h => h.1)
 have : q = 3 := by simpa [Kd.int,Kd.scalar] using hq
 rw [this]
 exact fun e => hi e.symm
theorem Q3.far {base k t n : Nat} {cs : Array Value} {u : Value} (h : Q3 w base v0 v1 v2 d i r) (hk : w.heap[k]? = some (.cells cs t (0,0))) (hi : t ≠ 3) : Q3 (w.setCell ⟨k,n,none⟩ u) base v0 v1 v2 d i r := ⟨h.a.far hk hi,h.b.far hk hi,h.c.far hk hi⟩
theorem d2_new (h : D1 w0 W g kr va vb a b w) (q : Q3 w W.heap.size v0 v1 v2 d i r) (hn : d.length ≤ 40 ∧ i.length ≤ 40 ∧ r.length ≤ 40) : D2 w0 W g kr w.heap.size va vb v0 v1 v2 a b d i r (w.alloc (.cells #[v0,v1,v2] 27)) :=
 ⟨h.below (below_alloc (Below.refl _ _) _),blk_new _ _,h.st.size,by have := blk_lt h.br;omega,q.below (below_alloc (Below.refl _ _) _),hn.1,hn.2.1,hn.2.2⟩
theorem D2.a' (h : D2 w0 W g kr kb va vb v0 v1 v2 a b d i r w) {base : Nat} (hn : NQ w base v x) (hb : W.heap.size ≤ base) (hl : x.length ≤ 200) : D2 w0 W g kr kb v vb v0 v1 v2 x b d i r w := ⟨h.d1.a' hn hb hl,h.bk,h.gb,h.ne,h.q3,h.ld,h.li,h.lr⟩
theorem D2.put {u0 u1 u2 : Value} {d' i' r' : List Int} (h : D2 w0 W g kr kb va vb v0 v1 v2 a b d i r w) (h0 : w0.heap.size ≤ W.heap.size) (q : Q3 w W.heap.size u0 u1 u2 d' i' r') (h1 : d'.length ≤ 40) (h2 : i'.length ≤ 40) (h3 : r'.length ≤ 40) :
  D2 w0 W g kr kb va vb u0 u1 u2 a b d' i' r' (((w.setCell ⟨kb,0,none⟩ u0).setCell ⟨kb,1,none⟩ u1).setCell ⟨kb,2,none⟩ u2) := by
 have b1 := blk_put h.bk 0 u0 (cs' := #[u0,v1,v2]) rfl
 have b2 := blk_put b1 1 u1 (cs' := #[u0,u1,v2]) rfl
 have hn := h.d1.st.not h.bk (by decide)
 exact ⟨⟨((h.d1.st.set hn h.gb h0 _ _).set hn h.gb h0 _ _).set hn h.gb h0 _ _,((h.d1.na.far h.bk (by decide) (by decide)).far b1 (by decide) (by decide)).far b2 (by decide) (by decide),((h.d1.nb.far h.bk (by decide) (by decide)).far b1 (by decide) (by decide)).far b2 (by decide) (by decide),h.d1.la,h.d1.lb,blk_far (blk_far (blk_far h.d1.br h.ne.symm _) h.ne.symm _) h.ne.symm _,h.d1.gr⟩,
  blk_put b2 2 u2 rfl,h.gb,h.ne,((q.far h.bk (by decide)).far b1 (by decide)).far b2 (by decide),h1,h2,h3⟩
def Dr (w0 w : World) (g : Nat) (e : Ending) (w' : World) : Prop := ∃ va vb v0 v1 v2 a b d i r,e = .returned (.tuple #[va,vb,.agg #[v0,v1,v2]]) ∧ a.length ≤ 200 ∧ b.length ≤ 200 ∧ d.length ≤ 40 ∧ i.length ≤ 40 ∧ r.length ≤ 40 ∧ NQ w' w.heap.size va a ∧ NQ w' w.heap.size vb b ∧ Q3 w' w.heap.size v0 v1 v2 d i r ∧ St w0 w g w'
theorem D2.ret (h : D2 w0 W g kr kb va vb v0 v1 v2 a b d i r w) (h0 : w0.heap.size ≤ W.heap.size) :
  (((w.setCell ⟨kr,0,none⟩ v0).setCell ⟨kr,1,none⟩ v1).setCell ⟨kr,2,none⟩ v2).heap[kr]? = some (.cells #[v0,v1,v2] 27 (0,0)) ∧
  Dr w0 W g (.returned (.tuple #[va,vb,.agg #[v0,v1,v2]])) (((w.setCell ⟨kr,0,none⟩ v0).setCell ⟨kr,1,none⟩ v1).setCell ⟨kr,2,none⟩ v2) := by
 have b1 := blk_put h.d1.br 0 v0 (cs' := #[v0,nl,nl]) rfl
 have b2 := blk_put b1 1 v1 (cs' := #[v0,v1,nl]) rfl
 have hn := h.d1.st.not h.d1.br (by decide)
 exact ⟨blk_put b2 2 v2 rfl,_,_,_,_,_,a,b,d,i,r,rfl,h.d1.la,h.d1.lb,h.ld,h.li,h.lr,((h.d1.na.far h.d1.br (by decide) (by decide)).far b1 (by decide) (by decide)).far b2 (by decide) (by decide),((h.d1.nb.far h.d1.br (by decide) (by decide)).far b1 (by decide) (by decide)).far b2 (by decide) (by decide),((h.q3.far h.d1.br (by decide)).far b1 (by decide)).far b2 (by decide),((h.d1.st.set hn h.d1.gr h0 _ _).set hn h.d1.gr h0 _ _).set hn h.d1.gr h0 _ _⟩
theorem Q3.form {base : Nat} (h : Q3 w base v0 v1 v2 d i r) : ∃ A0 n0 c0 A1 n1 c1 A2 n2 c2,v0 = .slice A0 n0 c0 ∧ v1 = .slice A1 n1 c1 ∧ v2 = .slice A2 n2 c2 := by
 obtain ⟨A0,c0,e0,_⟩ := Kd.Q_slice h.a
 obtain ⟨A1,c1,e1,_⟩ := Kd.Q_slice h.b
 obtain ⟨A2,c2,e2,_⟩ := Kd.Q_slice h.c
 exact ⟨_,_,_,_,_,_,_,_,_,e0,e1,e2⟩
end
theorem NQ.form {w : World} {base : Nat} {v : Value} {l : List NdI} (h : NQ w base v l) : ∃ A c,v = .slice A l.length c ∧ l.length ≤ c ∧ Kd.C k77 w A l.length l := by
 obtain ⟨A,c,e,hl,hC⟩ := Kd.Q_reads h
 exact ⟨A,c,e,hl,hC⟩
set_option maxRecDepth 100000 in
set_option maxHeartbeats 1000000 in
theorem draw8_r {w0 W w : World} {g : Nat} (h : St w0 W g w) (n : Int) (hn0 : 0 < n) (hn1 : n ≤ 100) : Calls Try.prog 57 #[.pointer (some ⟨g,0,none⟩),.int .i64 n] w (Dr w0 w g) := by
 have hw0 := h.bel.size
 have hu := Try.underlying27
 have HS := Aside0.mk h.start
 clear h
 go_enter Try.func57,Try.ntmps57
 go_wp2_with ((with_reducible refine gate_dst (N := 6) rfl ?_);refine bx_ 6 #[nl,nl,nl] 27 ?_;intro kr hg w1 hr hb1;have HD : Aside0 (D1 w0 w g kr nl nl [] [] w1) := ⟨HS.out.below hb1,Kd.Q_nil _ _ _ _ _,Kd.Q_nil _ _ _ _ _,by simp,by simp,hr,by rw [hg];exact Nat.le_refl _⟩;clear hr hb1 hg HS)
 refine (tree_r HD.out.st n hn0 hn1).mono ?_
 rintro e w2 ⟨va,a,rfl,hr,_,hl,hs⟩
 replace HD := Aside0.mk ((HD.out.call hs).a' (NX.q hr.out) HD.out.st.size (by omega))
 clear hr hs
 go_wp2_with fail
 refine (tree_r HD.out.st n hn0 hn1).mono ?_
 rintro e w3 ⟨vb,b,rfl,hr,_,hl,hs⟩
 replace HD := Aside0.mk ((HD.out.call hs).b' (NX.q hr.out) HD.out.st.size (by omega))
 clear hr hs
 go_wp2_with (first | (go_at_call 110;refine (once_r HD.out.st 2 (by decide)).mono ?_;rintro e w4 ⟨r4,rfl,hs⟩;replace HD := Aside0.mk (HD.out.call hs);clear hs) | (go_at_call 111;obtain ⟨A,c,rfl,hc,hC⟩ := HD.out.na.form;refine (near_r HD.out.st A c a hC hc HD.out.la).mono ?_;rintro e w5 ⟨vb,x,rfl,hr,hl,hs⟩;replace HD := Aside0.mk ((HD.out.call hs).b' (NX.q hr.out) HD.out.st.size (by omega));clear hr hs hC))
 all_goals
  refine (cost_r HD.out.st).mono ?_
  rintro e w6 ⟨v0,v1,v2,d,i,r,rfl,hd,hi,hr,hc,hs⟩
  have HQ : Aside0 (Q3 w6 w.heap.size v0 v1 v2 d i r) := ⟨hc.q.lower HD.out.st.size⟩
  replace HD := Aside0.mk (HD.out.call hs)
  obtain ⟨A0,n0,c0,A1,n1,c1,A2,n2,c2,rfl,rfl,rfl⟩ := HQ.out.form
  have HN := Aside0.mk (show d.length ≤ 40 ∧ i.length ≤ 40 ∧ r.length ≤ 40 by omega)
  clear hd hi hr hc hs
  go_wp2_with fail
  have HE := Aside0.mk (d2_new HD.out HQ.out HN.out)
  obtain ⟨kb,hkb⟩ : ∃ kb,kb = w6.heap.size := ⟨_,rfl⟩
  rw [← hkb] at HE ⊢
  clear hkb HD HQ HN
  refine (below_r HE.out.d1.st 24).mono ?_
  rintro e w7 ⟨r7,rfl,_,_,hs⟩
  replace HE := Aside0.mk (HE.out.call hs)
  clear hs
  by_cases q0 : r7 = 0
  ·subst q0
   go_wp2_with (go_at_call 80;refine (l3any_r HE.out.d1.st n hn0 hn1).mono ?_;rintro e w8 ⟨va,x,rfl,hr,hl,hs⟩;replace HE := Aside0.mk ((HE.out.call hs).a' hr.out HE.out.d1.st.size (by omega));clear hr hs)
   obtain ⟨y0,y1,y2,f0,f1,f2⟩ := bx_of HE.out.bk
   obtain ⟨z0,z1,z2,e0,e1,e2⟩ := bx_of HE.out.d1.br
   go_wp2
   go_still_tail 5,(by kernel_rfl)
   change wpList _ _ _ _ _ (World.drew w8)
   replace HE := Aside0.mk (HE.out.ch (w' := World.drew w8))
   clear y0 y1 y2 f0 f1 f2 z0 z1 z2 e0 e1 e2
   generalize World.drew w8 = w9 at HE ⊢
   obtain ⟨z0,z1,z2,e0,e1,e2⟩ := bx_of HE.out.d1.br
   go_wp2
   have hg := HE.out.ret hw0
   exact bodyPost_ret (results_ttc (u := 4) (v := 5) (p := 6) rfl _ _ kr 27 _ (0,0) _ rfl hg.1 hu rfl (by kernel_rfl)) rfl hg.2
  have n0 := beq_no q0
  by_cases q1 : r7 = 1
  ·subst q1
   obtain ⟨y0,y1,y2,f0,f1,f2⟩ := bx_of HE.out.bk
   go_wp2_with (go_at_call 114;refine (l7any_r HE.out.d1.st).mono ?_;rintro e w8 ⟨u0,u1,u2,d',i',r',rfl,hd,hi,hr,hq,hs⟩;have hq2 := hq.lower HE.out.d1.st.size;clear y0 y1 y2 f0 f1 f2;replace HE := Aside0.mk (HE.out.call hs);obtain ⟨B0,m0,b0,B1,m1,b1,B2,m2,b2,rfl,rfl,rfl⟩ := hq2.form;obtain ⟨y0,y1,y2,f0,f1,f2⟩ := bx_of HE.out.bk;have HE2 := Aside0.mk (HE.out.put hw0 hq2 hd hi hr);clear hd hi hr hq hq2 hs)
   clear HE y0 y1 y2 f0 f1 f2
   have HE := HE2
   clear HE2
   generalize ((w8.setCell ⟨kb,0,none⟩ (.slice B0 m0 b0)).setCell ⟨kb,1,none⟩ (.slice B1 m1 b1)).setCell ⟨kb,2,none⟩ (.slice B2 m2 b2) = w10 at HE ⊢
   obtain ⟨y0,y1,y2,f0,f1,f2⟩ := bx_of HE.out.bk
   obtain ⟨z0,z1,z2,e0,e1,e2⟩ := bx_of HE.out.d1.br
   go_wp2
   go_still_tail 5,(by kernel_rfl)
   change wpList _ _ _ _ _ (World.drew w10)
   replace HE := Aside0.mk (HE.out.ch (w' := World.drew w10))
   clear y0 y1 y2 f0 f1 f2 z0 z1 z2 e0 e1 e2
   generalize World.drew w10 = w9 at HE ⊢
   obtain ⟨z0,z1,z2,e0,e1,e2⟩ := bx_of HE.out.d1.br
   go_wp2
   have hg := HE.out.ret hw0
   exact bodyPost_ret (results_ttc (u := 4) (v := 5) (p := 6) rfl _ _ kr 27 _ (0,0) _ rfl hg.1 hu rfl (by kernel_rfl)) rfl hg.2
  have n1 := beq_no q1
  obtain ⟨y0,y1,y2,f0,f1,f2⟩ := bx_of HE.out.bk
  obtain ⟨z0,z1,z2,e0,e1,e2⟩ := bx_of HE.out.d1.br
  go_wp2
  go_still_tail 5,(by kernel_rfl)
  change wpList _ _ _ _ _ (World.drew w7)
  replace HE := Aside0.mk (HE.out.ch (w' := World.drew w7))
  clear y0 y1 y2 f0 f1 f2 z0 z1 z2 e0 e1 e2
  generalize World.drew w7 = w9 at HE ⊢
  obtain ⟨z0,z1,z2,e0,e1,e2⟩ := bx_of HE.out.d1.br
  go_wp2
  have hg := HE.out.ret hw0
  exact bodyPost_ret (results_ttc (u := 4) (v := 5) (p := 6) rfl _ _ kr 27 _ (0,0) _ rfl hg.1 hu rfl (by kernel_rfl)) rfl hg.2
end Go.Proofs.Ytngphdmbjenkaaa.X
namespace Go.Proofs.Ytngphdmbjenkaaa.X
open Go.RowKit Go.Proofs.YtngphdmbjenkaaaW.PrintWords Go.Proofs.YtngphdmbjenkaaaW.PrintLast Go.Proofs.YtngphdmbjenkaaaW.PrintMore Go.Proofs.Ytngphdmbjenkaaa.Q
set_option linter.unusedVariables false
set_option linter.unusedSimpArgs false
theorem new_r2 (A : Option Addr) (c : Nat) (l : List Int) (w0 w : World) (hB : Below w0.heap.size w0 w) (hr : Kd.C (Kd.int .u8) w0 A l.length l) (hc : l.length ≤ c) (hl : l.length ≤ 1048576) :
  Calls Try.prog 58 #[.slice A l.length c] w fun e w' => ∃ g : Nat,e = .returned (.pointer (some ⟨g,0,none⟩)) ∧ St w0 w0 g w' ∧ Below w.heap.size w w' := by
 obtain ⟨y,hy⟩ := new_ex l hl
 obtain ⟨k,hk⟩ := hy.rounds
 exact (spec_l1New.calls k A c l l 0 y w0 w hB hr hc hk).mono fun e w' ⟨g,he,hi,hb,hb2⟩ => ⟨g,he,⟨⟨_,_,_,hi,cur0 hl⟩,hb,KeepBut.of_below hb g none⟩,hb2⟩
def Dn (w : World) (e : Ending) (w' : World) : Prop := ∃ va vb v0 v1 v2 a b d i r,e = .returned (.tuple #[va,vb,.agg #[v0,v1,v2]]) ∧ a.length ≤ 200 ∧ b.length ≤ 200 ∧ d.length ≤ 40 ∧ i.length ≤ 40 ∧ r.length ≤ 40 ∧ NQ w' w.heap.size va a ∧ NQ w' w.heap.size vb b ∧ Q3 w' w.heap.size v0 v1 v2 d i r ∧ Below w.heap.size w w'
theorem Dr.dn {w : World} {g : Nat} {e : Ending} {w' : World} (h : Dr w w g e w') : Dn w e w' := by
 obtain ⟨va,vb,v0,v1,v2,a,b,d,i,r,he,h1,h2,h3,h4,h5,h6,h7,h8,h9⟩ := h
 exact ⟨va,vb,v0,v1,v2,a,b,d,i,r,he,h1,h2,h3,h4,h5,h6,h7,h8,h9.bel⟩
theorem d2_made {w0 w : World} {g kr : Nat} {va vb v0 v1 v2 : Value} {a b : List NdI} {d i r : List Int} {wc : World} (h : St w0 w0 g wc) (k : St w0 wc g w) (hb : wc.heap[kr]? = some (.cells #[nl,nl,nl] 27 (0,0))) (gr : w0.heap.size ≤ kr)
  (h1 : a.length ≤ 200) (h2 : b.length ≤ 200) (h3 : d.length ≤ 40 ∧ i.length ≤ 40 ∧ r.length ≤ 40) (na : NQ w wc.heap.size va a) (nb : NQ w wc.heap.size vb b) (q : Q3 w wc.heap.size v0 v1 v2 d i r) :
  D2 w0 w0 g kr w.heap.size va vb v0 v1 v2 a b d i r (w.alloc (.cells #[v0,v1,v2] 27)) :=
 d2_new ⟨h.to k,Kd.Q_lower na h.size,Kd.Q_lower nb h.size,h1,h2,KeepBut.blk k.keep hb (h.not hb (by decide)) (by simp),gr⟩ (q.lower h.size) h3
end Go.Proofs.Ytngphdmbjenkaaa.X
namespace Go.Proofs.Ytngphdmbjenkaaa.X
open Go.RowKit Go.Proofs.YtngphdmbjenkaaaW.PrintWords Go.Proofs.YtngphdmbjenkaaaW.PrintLast Go.Proofs.YtngphdmbjenkaaaW.PrintMore Go.Proofs.Ytngphdmbjenkaaa.Q
set_option linter.unusedVariables false
set_option linter.unusedSimpArgs false
structure Ad where
 (Aa : Option Addr) (ca : Nat) (Ab : Option Addr) (cb : Nat) (A0 : Option Addr) (c0 : Nat) (A1 : Option Addr) (c1 : Nat) (A2 : Option Addr) (c2 : Nat)
structure Ar (W : World) (p : Ad) (a b : List NdI) (d i r : List Int) : Prop where
 ha : Kd.C k77 W p.Aa a.length a
 ka : a.length ≤ p.ca
 hb : Kd.C k77 W p.Ab b.length b
 kb : b.length ≤ p.cb
 h0 : Kd.C (Kd.int .i64) W p.A0 d.length d
 k0 : d.length ≤ p.c0
 h1 : Kd.C (Kd.int .i64) W p.A1 i.length i
 k1 : i.length ≤ p.c1
 h2 : Kd.C (Kd.int .i64) W p.A2 r.length r
 k2 : r.length ≤ p.c2
 la : a.length ≤ 200
 lb : b.length ≤ 200
 l0 : d.length ≤ 40
 l1 : i.length ≤ 40
 l2 : r.length ≤ 40
theorem Ar.below {W W' : World} {p : Ad} {a b : List NdI} {d i r : List Int} (h : Ar W p a b d i r) (k : Below W.heap.size W W') : Ar W' p a b d i r :=
 ⟨Kd.C_below h.ha k,h.ka,Kd.C_below h.hb k,h.kb,Kd.C_below h.h0 k,h.k0,Kd.C_below h.h1 k,h.k1,Kd.C_below h.h2 k,h.k2,h.la,h.lb,h.l0,h.l1,h.l2⟩
theorem Ar.ch {W W' : World} {p : Ad} {a b : List NdI} {d i r : List Int} (h : Ar W p a b d i r) [c : Ch W W'] : Ar W' p a b d i r := h.below c.out
theorem Dn.ar {w : World} {e : Ending} {w' : World} (h : Dn w e w') : ∃ (p : Ad) (a b : List NdI) (d i r : List Int),e = .returned (.tuple #[.slice p.Aa a.length p.ca,.slice p.Ab b.length p.cb,.agg #[.slice p.A0 d.length p.c0,.slice p.A1 i.length p.c1,.slice p.A2 r.length p.c2]]) ∧ Ar w' p a b d i r ∧ Below w.heap.size w w' := by
 obtain ⟨va,vb,v0,v1,v2,a,b,d,i,r,he,h1,h2,h3,h4,h5,h6,h7,h8,h9⟩ := h
 obtain ⟨Aa,ca,rfl,la,ra⟩ := Kd.Q_reads h6
 obtain ⟨Ab,cb,rfl,lb,rb⟩ := Kd.Q_reads h7
 obtain ⟨A0,c0,rfl,l0,r0⟩ := Kd.Q_reads h8.a
 obtain ⟨A1,c1,rfl,l1,r1⟩ := Kd.Q_reads h8.b
 obtain ⟨A2,c2,rfl,l2,r2⟩ := Kd.Q_reads h8.c
 exact ⟨⟨Aa,ca,Ab,cb,A0,c0,A1,c1,A2,c2⟩,a,b,d,i,r,he,⟨ra,la,rb,lb,r0,l0,r1,l1,r2,l2,h1,h2,h3,h4,h5⟩,h9⟩
structure Ls (w0 : World) (kx : Nat) (p : Ad) (a b : List NdI) (d i r : List Int) (w : World) : Prop where
 ar : Ar w p a b d i r
 bk : w.heap[kx]? = some (.cells #[.slice p.A0 d.length p.c0,.slice p.A1 i.length p.c1,.slice p.A2 r.length p.c2] 27 (0,0))
 bel : Below w0.heap.size w0 w
section
variable {w0 w w' : World} {kx : Nat} {p : Ad} {a b : List NdI} {d i r : List Int}
theorem Ls.below (h : Ls w0 kx p a b d i r w) (k : Below w.heap.size w w') : Ls w0 kx p a b d i r w' := ⟨h.ar.below k,blk_below h.bk k,below_then h.bel h.bel.size k⟩
theorem Ls.ch (h : Ls w0 kx p a b d i r w) [c : Ch w w'] : Ls w0 kx p a b d i r w' := h.below c.out
theorem Ls.box (h : Ls w0 kx p a b d i r w) : Bx w kx (.slice p.A0 d.length p.c0) (.slice p.A1 i.length p.c1) (.slice p.A2 r.length p.c2) := bx_of h.bk
theorem ls_new (h : Ar w p a b d i r) (hb : Below w0.heap.size w0 w) : Ls w0 w.heap.size p a b d i r (w.alloc (.cells #[.slice p.A0 d.length p.c0,.slice p.A1 i.length p.c1,.slice p.A2 r.length p.c2] 27)) :=
 ⟨h.below (below_alloc (Below.refl _ _) _),blk_new _ _,below_alloc hb _⟩
end
theorem big_v {w W1 : World} {A : Option Addr} {c : Nat} {l : List Int} (hr : Kd.C (Kd.int .u8) w A l.length l) (hc : l.length ≤ c) [ch : Ch w W1] :
  Calls Try.prog 12 #[.slice A l.length c] W1 fun e w' => e = .returned (.bool (decide ((l.length : Int) > 1048576))) ∧ Below w.heap.size w w' :=
 (laws_big.calls A c l _ W1 (Kd.C_below hr ch.out) hc rfl).mono fun e w' ⟨he,h⟩ => ⟨he,below_step ch.out h.below⟩
end Go.Proofs.Ytngphdmbjenkaaa.X
namespace Go.Proofs.Ytngphdmbjenkaaa.X
open Go.RowKit Go.Proofs.YtngphdmbjenkaaaW.PrintWords Go.Proofs.YtngphdmbjenkaaaW.PrintLast Go.Proofs.YtngphdmbjenkaaaW.PrintMore Go.Proofs.Ytngphdmbjenkaaa.Q
set_option linter.unusedVariables false
set_option linter.unusedSimpArgs false
set_option maxRecDepth 100000 in
theorem DrawRootDist_r (A : Option Addr) (c : Nat) (l : List Int) (w : World) (hr : Kd.C (Kd.int .u8) w A l.length l) (hc : l.length ≤ c) (hl : l.length ≤ 1048576) :
  Calls Try.prog 35 #[.slice A l.length c] w (Dn w) := by
 have hu := Try.underlying27
 have HC := Aside0.mk hr
 clear hr
 go_enter Try.func35,Try.ntmps35
 go_wp2_with (first | ((with_reducible refine gate_dst (N := 4) rfl ?_);refine bx_ 4 #[nl,nl,nl] 27 ?_;intro kr hg w1 hr hb1;have HB := Aside0.mk hb1;have HR := Aside0.mk hr;have HG := Aside0.mk (show w.heap.size ≤ kr by omega);clear hr hb1 hg) | (go_at_call 58;refine (new_r2 A c l w _ HB.out HC.out hc hl).mono ?_;rintro e w2 ⟨g,rfl,hs,hb⟩;have HS := Aside0.mk hs;replace HR := Aside0.mk (blk_below HR.out hb);clear hs hb) | (go_at_call 57;refine (draw8_r HS.out 12 (by decide) (by decide)).mono ?_;rintro e w3 ⟨va,vb,v0,v1,v2,a,b,d,i,r,rfl,h1,h2,h3,h4,h5,h6,h7,h8,h9⟩;obtain ⟨A0,n0,c0,A1,n1,c1,A2,n2,c2,rfl,rfl,rfl⟩ := h8.form;have HE := Aside0.mk (d2_made HS.out h9 HR.out HG.out h1 h2 ⟨h3,h4,h5⟩ h6 h7 h8);obtain ⟨Aa,ca,rfl,_,_⟩ := h6.form;obtain ⟨Ab,cb,rfl,_,_⟩ := h7.form;clear h1 h2 h3 h4 h5 h6 h7 h8 h9 HR HS))
 obtain ⟨kb,hkb⟩ : ∃ kb,kb = w3.heap.size := ⟨_,rfl⟩
 rw [← hkb] at HE ⊢
 clear hkb
 obtain ⟨y0,y1,y2,f0,f1,f2⟩ := bx_of HE.out.bk
 obtain ⟨z0,z1,z2,e0,e1,e2⟩ := bx_of HE.out.d1.br
 generalize w3.alloc _ = w5 at HE y0 y1 y2 f0 f1 f2 z0 z1 z2 e0 e1 e2 ⊢
 go_wp2
 go_still_tail 5,(by kernel_rfl)
 change wpList _ _ _ _ _ (World.drew w5)
 replace HE := Aside0.mk (HE.out.ch (w' := World.drew w5))
 clear y0 y1 y2 f0 f1 f2 z0 z1 z2 e0 e1 e2
 generalize World.drew w5 = w9 at HE ⊢
 obtain ⟨z0,z1,z2,e0,e1,e2⟩ := bx_of HE.out.d1.br
 go_wp2
 have hg := HE.out.ret (Nat.le_refl _)
 exact bodyPost_ret (results_ttc (u := 2) (v := 3) (p := 4) rfl _ _ kr 27 _ (0,0) _ rfl hg.1 hu rfl (by kernel_rfl)) rfl hg.2.dn
end Go.Proofs.Ytngphdmbjenkaaa.X
