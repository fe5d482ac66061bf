/- Part 9 of the proof of FnBothWays: what it needs. -/
import Derived.Deep.RegionHeld3
import Derived.Deep.DrawnRows
import Derived.Test.YtngphdmbjenkaaaKLBothWays3
import Derived.Test.YtngphdmbjenkaaaKLBothWays6
import Derived.Test.YtngphdmbjenkaaaKLBothWays8
namespace Go.Proofs.Ytngphdmbjenkaaa.X
open Go.RowKit Go.Proofs.YtngphdmbjenkaaaW.PrintWords Go.Proofs.YtngphdmbjenkaaaW.PrintLast Go.Proofs.YtngphdmbjenkaaaW.PrintMore Go.Proofs.Ytngphdmbjenkaaa.Q
set_option linter.unusedVariables false
set_option linter.unusedSimpArgs false
abbrev IX (w : World) (base : Nat) (v : Value) (l : List Int) : Prop := Kd.R (Kd.int .i64) 3 w base (fun _ => True) v l
theorem size_set (w : World) (p : Addr) (v : Value) : (w.setCell p v).heap.size = w.heap.size := by simp [World.setCell]
def Ap (v u : Value) : Prop := ∀ k,v.ownBlock = some k → u.ownBlock ≠ some k
theorem Ap.symm {v u : Value} (h : Ap v u) : Ap u v := fun k hk he => h k he hk
theorem IX.grown {w w' : World} {base : Nat} {v u : Value} {l : List Int} (h : IX w base v l) (hg : w.grownBy w' u.ownBlock) (ha : Ap v u) : IX w' base v l := by
 have h2 : Kd.R (Kd.int .i64) 3 w base (fun k => some k ≠ u.ownBlock) v l := by
  refine Kd.R_of_own (Kd.own_of_R h) (fun k hk => fun e => ha k hk e.symm)
 exact Kd.R_mono (Kd.R_step h2 (fun k ho hlt => hg.block k hlt ho)) (fun _ _ => trivial)
structure C3 (w : World) (base : Nat) (v0 v1 v2 : Value) (d i r : List Int) : Prop where
 a : IX w base v0 d
 b : IX w base v1 i
 c : IX w base v2 r
 ab : Ap v0 v1
 ac : Ap v0 v2
 bc : Ap v1 v2
theorem C3.below {w w' : World} {base : Nat} {v0 v1 v2 : Value} {d i r : List Int} (h : C3 w base v0 v1 v2 d i r) (b : Below w.heap.size w w') : C3 w' base v0 v1 v2 d i r :=
 ⟨Kd.R_below h.a b,Kd.R_below h.b b,Kd.R_below h.c b,h.ab,h.ac,h.bc⟩
theorem ap_new {w : World} {base : Nat} {v v' u : Value} {l : List Int} (hu : IX w base u l) (ha : Ap v u) (hat : v'.ownBlock = v.ownBlock ∨ ∃ b,v'.ownBlock = some b ∧ w.heap.size ≤ b) : Ap v' u := by
 intro k hk he
 rcases hat with e | ⟨b,e,hb⟩
 ·exact ha k (e.symm.trans hk) he
 ·rw [e] at hk
  cases hk
  have := Kd.R_lt hu _ he
  omega
theorem C3.app0 {w w' : World} {base : Nat} {v0 v1 v2 v : Value} {d d' i r : List Int} (h : C3 w base v0 v1 v2 d i r) (hn : IX w' base v d') (hg : w.grownBy w' v0.ownBlock) (hat : v.ownBlock = v0.ownBlock ∨ ∃ b,v.ownBlock = some b ∧ w.heap.size ≤ b) : C3 w' base v v1 v2 d' i r :=
 ⟨hn,h.b.grown hg h.ab.symm,h.c.grown hg h.ac.symm,ap_new h.b h.ab hat,ap_new h.c h.ac hat,h.bc⟩
theorem C3.app1 {w w' : World} {base : Nat} {v0 v1 v2 v : Value} {d i i' r : List Int} (h : C3 w base v0 v1 v2 d i r) (hn : IX w' base v i') (hg : w.grownBy w' v1.ownBlock) (hat : v.ownBlock = v1.ownBlock ∨ ∃ b,v.ownBlock = some b ∧ w.heap.size ≤ b) : C3 w' base v0 v v2 d i' r :=
 ⟨h.a.grown hg h.ab,hn,h.c.grown hg h.bc.symm,(ap_new h.a h.ab.symm hat).symm,h.ac,ap_new h.c h.bc hat⟩
theorem C3.app2 {w w' : World} {base : Nat} {v0 v1 v2 v : Value} {d i r r' : List Int} (h : C3 w base v0 v1 v2 d i r) (hn : IX w' base v r') (hg : w.grownBy w' v2.ownBlock) (hat : v.ownBlock = v2.ownBlock ∨ ∃ b,v.ownBlock = some b ∧ w.heap.size ≤ b) : C3 w' base v0 v1 v d i r' :=
 ⟨h.a.grown hg h.ac,h.b.grown hg h.bc,hn,h.ab,(ap_new h.a h.ac.symm hat).symm,(ap_new h.b h.bc.symm hat).symm⟩
theorem C3.far {w : World} {base g t : Nat} {v0 v1 v2 : Value} {d i r : List Int} {cs : Array Value} (h : C3 w base v0 v1 v2 d i r) (hb : w.heap[g]? = some (.cells cs t (0,0))) (ht : t ≠ 3) (k : Nat) (u : Value) : C3 (w.setCell ⟨g,k,none⟩ u) base v0 v1 v2 d i r := by
 have key : ∀ {v : Value} {l : List Int},IX w base v l → IX (w.setCell ⟨g,k,none⟩ u) base v l := fun h =>
  Kd.R_mono (Kd.R_far (p := ⟨g,k,none⟩) (Kd.R_types h hb (fun q hq => by
   have : q = 3 := by simpa [Kd.int,Kd.scalar] using hq
   rw [this];exact fun e => ht e.symm)) (fun _ hk => hk.2) u) (fun _ _ => trivial)
 exact ⟨key h.a,key h.b,key h.c,h.ab,h.ac,h.bc⟩
section
variable {ops : Array Oper} {rest : List Oper} {o : Oper} {a : Act} {Q : Exit → Act → World → Prop} {w W : World} {base : Nat}
theorem iapp (s t : Tmp) (x : Int) {v : Value} {xs : List Int} (hr : IX w base v xs) (hb : base ≤ w.heap.size) (hl : xs.length ≤ 1000) [c : Ch w W]
  (k : ∀ v1 w1,IX w1 base v1 (xs ++ [x]) → W.grownBy w1 v.ownBlock → (v1.ownBlock = v.ownBlock ∨ ∃ b,v1.ownBlock = some b ∧ W.heap.size ≤ b) → Below base W w1 → wpList Try.prog ops Q rest (a.put o.dst v1) w1)
  (ho : o.op = .call { callee := .builtin .append,args := #[.tmp s,.tmp t],argTypes := #[25,25] }) (hgd : o.guard = none := by rfl)
  (hsv : a.eval (.tmp s) = v := by rfl) (hx : a.eval (.tmp t) = .slice (some ⟨W.heap.size,0,none⟩) 1 1 := by first | rfl | (rw [size_set];rfl) | (rw [size_set,size_set];rfl)) : wpList Try.prog ops Q (o :: rest) a (W.alloc (.cells #[.int .i64 x] 3)) := by
 refine Kd.R_append (Kd.int .i64) base hgd (.tmp s) (.tmp t) 25 3 (.int .i64 0) 8 ho Try.underlying25 info3 rfl (by decide) (by omega) v xs x [.int .i64 x] (fun _ => True) (fun _ => False) hsv hx rfl (fun _ h => h.elim) (fun _ _ => trivial) (Kd.R_below hr c.out) (Below.refl _ W) (Nat.le_trans hb c.out.size) (by omega) ?_
 intro v1 w1 h1 h2 h3 h4
 exact k v1 w1 h1 h3 h4 h2
end
abbrev nl : Value := .slice none 0 0
structure Ub (base kb kr : Nat) (u0 u1 u2 v0 v1 v2 : Value) (d i r : List Int) (w : World) : Prop where
 bk : w.heap[kb]? = some (.cells #[u0,u1,u2] 27 (0,0))
 br : w.heap[kr]? = some (.cells #[nl,nl,nl] 27 (0,0))
 c3 : C3 w base v0 v1 v2 d i r
 ne : kb ≠ kr
 gb : base ≤ kb
 gr : base ≤ kr
theorem box_ne {w : World} {base k : Nat} {v : Value} {l : List Int} {cs : Array Value} (h : IX w base v l) (hb : w.heap[k]? = some (.cells cs 27 (0,0))) : some k ≠ v.ownBlock := by
 intro e
 obtain ⟨cells,hc⟩ := own_typed (Kd.own_of_R h) k e.symm
 rw [hb] at hc
 injection hc with hc
 injection hc with _ hc
 exact absurd hc (by decide)
section
variable {base kb kr : Nat} {u0 u1 u2 v0 v1 v2 : Value} {d i r : List Int} {w : World}
theorem Ub.below {w' : World} (h : Ub base kb kr u0 u1 u2 v0 v1 v2 d i r w) (b : Below w.heap.size w w') : Ub base kb kr u0 u1 u2 v0 v1 v2 d i r w' :=
 ⟨blk_below h.bk b,blk_below h.br b,h.c3.below b,h.ne,h.gb,h.gr⟩
theorem Ub.ch {w' : World} (h : Ub base kb kr u0 u1 u2 v0 v1 v2 d i r w) [c : Ch w w'] : Ub base kb kr u0 u1 u2 v0 v1 v2 d i r w' := h.below c.out
theorem Ub.put0 (h : Ub base kb kr u0 u1 u2 v0 v1 v2 d i r w) (u : Value) : Ub base kb kr u u1 u2 v0 v1 v2 d i r (w.setCell ⟨kb,0,none⟩ u) := ⟨blk_put h.bk 0 u rfl,blk_far h.br h.ne.symm u,h.c3.far h.bk (by decide) _ _,h.ne,h.gb,h.gr⟩
theorem Ub.put1 (h : Ub base kb kr u0 u1 u2 v0 v1 v2 d i r w) (u : Value) : Ub base kb kr u0 u u2 v0 v1 v2 d i r (w.setCell ⟨kb,1,none⟩ u) := ⟨blk_put h.bk 1 u rfl,blk_far h.br h.ne.symm u,h.c3.far h.bk (by decide) _ _,h.ne,h.gb,h.gr⟩
theorem Ub.put2 (h : Ub base kb kr u0 u1 u2 v0 v1 v2 d i r w) (u : Value) : Ub base kb kr u0 u1 u v0 v1 v2 d i r (w.setCell ⟨kb,2,none⟩ u) := ⟨blk_put h.bk 2 u rfl,blk_far h.br h.ne.symm u,h.c3.far h.bk (by decide) _ _,h.ne,h.gb,h.gr⟩
theorem Ub.app0 {w' W : World} {v : Value} {d' : List Int} (h : Ub base kb kr u0 u1 u2 v0 v1 v2 d i r w) [c : Ch w W] (hn : IX w' base v d') (hg : W.grownBy w' v0.ownBlock) (hat : v.ownBlock = v0.ownBlock ∨ ∃ b,v.ownBlock = some b ∧ W.heap.size ≤ b) : Ub base kb kr u0 u1 u2 v v1 v2 d' i r w' :=
 have k := h.ch (w' := W)
 ⟨blk_grown k.bk hg (box_ne k.c3.a k.bk),blk_grown k.br hg (box_ne k.c3.a k.br),k.c3.app0 hn hg hat,h.ne,h.gb,h.gr⟩
theorem Ub.app1 {w' W : World} {v : Value} {d' : List Int} (h : Ub base kb kr u0 u1 u2 v0 v1 v2 d i r w) [c : Ch w W] (hn : IX w' base v d') (hg : W.grownBy w' v1.ownBlock) (hat : v.ownBlock = v1.ownBlock ∨ ∃ b,v.ownBlock = some b ∧ W.heap.size ≤ b) : Ub base kb kr u0 u1 u2 v0 v v2 d d' r w' :=
 have k := h.ch (w' := W)
 ⟨blk_grown k.bk hg (box_ne k.c3.b k.bk),blk_grown k.br hg (box_ne k.c3.b k.br),k.c3.app1 hn hg hat,h.ne,h.gb,h.gr⟩
theorem Ub.app2 {w' W : World} {v : Value} {d' : List Int} (h : Ub base kb kr u0 u1 u2 v0 v1 v2 d i r w) [c : Ch w W] (hn : IX w' base v d') (hg : W.grownBy w' v2.ownBlock) (hat : v.ownBlock = v2.ownBlock ∨ ∃ b,v.ownBlock = some b ∧ W.heap.size ≤ b) : Ub base kb kr u0 u1 u2 v0 v1 v d i d' w' :=
 have k := h.ch (w' := W)
 ⟨blk_grown k.bk hg (box_ne k.c3.c k.bk),blk_grown k.br hg (box_ne k.c3.c k.br),k.c3.app2 hn hg hat,h.ne,h.gb,h.gr⟩
structure Bx (w : World) (k : Nat) (u0 u1 u2 : Value) : Prop where
 c0 : w.cell? ⟨k,0,none⟩ = some u0
 c1 : w.cell? ⟨k,1,none⟩ = some u1
 c2 : w.cell? ⟨k,2,none⟩ = some u2
 f0 : w.frozen? ⟨k,0,none⟩ = false
 f1 : w.frozen? ⟨k,1,none⟩ = false
 f2 : w.frozen? ⟨k,2,none⟩ = false
theorem bx_of {k t : Nat} {u0 u1 u2 : Value} (h : w.heap[k]? = some (.cells #[u0,u1,u2] t (0,0))) : Bx w k u0 u1 u2 :=
 ⟨(blk_cell h 0).trans rfl,(blk_cell h 1).trans rfl,(blk_cell h 2).trans rfl,blk_frozen h 0,blk_frozen h 1,blk_frozen h 2⟩
theorem Ub.give (h : Ub base kb kr u0 u1 u2 v0 v1 v2 d i r w) (x0 x1 x2 : Value) :
  (((w.setCell ⟨kr,0,none⟩ x0).setCell ⟨kr,1,none⟩ x1).setCell ⟨kr,2,none⟩ x2).heap[kr]? = some (.cells #[x0,x1,x2] 27 (0,0)) ∧ C3 (((w.setCell ⟨kr,0,none⟩ x0).setCell ⟨kr,1,none⟩ x1).setCell ⟨kr,2,none⟩ x2) base v0 v1 v2 d i r := by
 have b1 := blk_put h.br 0 x0 (cs' := #[x0,nl,nl]) rfl
 have b2 := blk_put b1 1 x1 (cs' := #[x0,x1,nl]) rfl
 exact ⟨blk_put b2 2 x2 rfl,((h.c3.far h.br (by decide) _ _).far b1 (by decide) _ _).far b2 (by decide) _ _⟩
end
theorem ub_new {base kr : Nat} {w : World} (h : w.heap[kr]? = some (.cells #[nl,nl,nl] 27 (0,0))) (hb : base ≤ w.heap.size) (hr : base ≤ kr) : Ub base w.heap.size kr nl nl nl nl nl nl [] [] [] (w.alloc (.cells #[nl,nl,nl] 27)) :=
 ⟨blk_new _ _,blk_alloc h _,⟨Kd.R_nil _ _ _ _ _,Kd.R_nil _ _ _ _ _,Kd.R_nil _ _ _ _ _,fun k hk => by simp [Value.ownBlock] at hk,fun k hk => by simp [Value.ownBlock] at hk,fun k hk => by simp [Value.ownBlock] at hk⟩,by have := blk_lt h;omega,hb,hr⟩
def unitRel : List Int := (List.range 36).map fun x => if x % 7 = 0 then 0 else 1
theorem unit_take {x y : Nat} (hx : x < 6) (hy : y < 6) : unitRel.take (6 * x + (y + 1)) = unitRel.take (6 * x + y) ++ [if x = y then 0 else 1] := by
 have hu : unitRel.length = 36 := by decide
 rw [show 6 * x + (y + 1) = (6 * x + y) + 1 by omega,List.take_succ_eq_append_getElem (by omega)]
 congr 2
 simp only [unitRel,List.getElem_map,List.getElem_range]
 by_cases c : x = y
 ·rw [if_pos c,if_pos (by omega)]
 ·rw [if_neg c,if_neg (by omega)]
theorem unit_len (n : Nat) : (unitRel.take n).length ≤ 1000 := by
 rw [List.length_take]
 have : unitRel.length = 36 := by decide
 omega
theorem rep_one (x : Nat) : List.replicate x (1 : Int) ++ [1] = List.replicate (x + 1) 1 := (List.replicate_succ' ..).symm
set_option maxRecDepth 100000 in
theorem unit_r (w : World) : Calls Try.prog 27 #[] w fun e w' => ∃ v0 v1 v2 : Value,e = .returned (.agg #[v0,v1,v2]) ∧ C3 w' w.heap.size v0 v1 v2 (List.replicate 6 1) (List.replicate 6 1) unitRel ∧ Below w.heap.size w w' := by
 have hu := Try.underlying27
 go_enter Try.func27,Try.ntmps27
 go_wp2_with ((with_reducible refine gate_dst (N := 0) rfl ?_);refine bx_ 0 #[nl,nl,nl] 27 ?_;intro kr hg w1 hr hb1;have HB := Aside0.mk hb1;have HR := Aside0.mk hr;have HG := Aside0.mk hg;clear hr hb1 hg)
 have HU : Aside0 (Ub w.heap.size w1.heap.size kr nl nl nl nl nl nl [] [] [] (w1.alloc (.cells #[nl,nl,nl] 27))) := ⟨ub_new HR.out HB.out.size (by rw [HG.out];exact Nat.le_refl _)⟩
 replace HB : Aside0 (Below w.heap.size w (w1.alloc (.cells #[nl,nl,nl] 27))) := ⟨below_alloc HB.out _⟩
 obtain ⟨kb,hkb⟩ : ∃ kb,kb = w1.heap.size := ⟨_,rfl⟩
 rw [← hkb] at HU ⊢
 clear HR HG hkb
 go_loopg [2] 6 (fun gg s2 wr => ∃ (x : Nat) (v0 v1 v2 : Value),x ≤ 6 ∧ 6 - x ≤ gg ∧ s2 = .int .i64 (x : Int) ∧ Aside0 (Ub w.heap.size kb kr v0 v1 v2 v0 v1 v2 (List.replicate x 1) (List.replicate x 1) (unitRel.take (6 * x)) wr) ∧ Aside0 (Below w.heap.size w wr))
 case atStart => exact ⟨0,_,_,_,by omega,by omega,rfl,HU,HB⟩
 case round =>
  clear HU HB
  obtain ⟨x,v0,v1,v2,hx,hgg,rfl,HU,HB⟩ := hrel
  obtain ⟨y0,y1,y2,f0,f1,f2⟩ := bx_of HU.out.bk
  by_cases hlt : x < 6
  ·have hz : (x : Int) < 6 := by omega
   have HL := Aside0.mk (unit_len (6 * x))
   go_wp2_with (first | (at_builtin;refine iapp 11 12 1 HU.out.c3.a HB.out.size (by simp;omega) ?_ (ho := rfl);intro v10 w10 h1 hg hat hb;clear y0 y1 y2 f0 f1 f2;obtain ⟨A10,c10,e10⟩ := Kd.R_slice h1;rw [rep_one] at h1 e10;rw [List.length_replicate] at e10;subst e10;replace HU := Aside0.mk (HU.out.app0 h1 hg hat);replace HB := Aside0.mk (HB.out.trans hb);obtain ⟨y0,y1,y2,f0,f1,f2⟩ := bx_of HU.out.bk;replace HU := Aside0.mk (HU.out.put0 (.slice A10 (x + 1) c10));replace HB := Aside0.mk (below_set (j := 0) (v := .slice A10 (x + 1) c10) HB.out HU.out.gb);clear h1 hg hat hb) | (at_builtin;refine iapp 16 17 1 HU.out.c3.b HB.out.size (by simp;omega) ?_ (ho := rfl);intro v11 w11 h1 hg hat hb;clear y0 y1 y2 f0 f1 f2;obtain ⟨A11,c11,e11⟩ := Kd.R_slice h1;rw [rep_one] at h1 e11;rw [List.length_replicate] at e11;subst e11;replace HU := Aside0.mk (HU.out.app1 h1 hg hat);replace HB := Aside0.mk (HB.out.trans hb);obtain ⟨y0,y1,y2,f0,f1,f2⟩ := bx_of HU.out.bk;replace HU := Aside0.mk (HU.out.put1 (.slice A11 (x + 1) c11));replace HB := Aside0.mk (below_set (j := 1) (v := .slice A11 (x + 1) c11) HB.out HU.out.gb);clear h1 hg hat hb))
   go_loopg [3] 6 (fun gg s3 wr => ∃ (y : Nat) (v2 : Value),y ≤ 6 ∧ 6 - y ≤ gg ∧ s3 = .int .i64 (y : Int) ∧ Aside0 (Ub w.heap.size kb kr (.slice A10 (x + 1) c10) (.slice A11 (x + 1) c11) v2 (.slice A10 (x + 1) c10) (.slice A11 (x + 1) c11) v2 (List.replicate (x + 1) 1) (List.replicate (x + 1) 1) (unitRel.take (6 * x + y)) wr) ∧ Aside0 (Below w.heap.size w wr))
   case atStart => exact ⟨0,_,by omega,by omega,rfl,HU,HB⟩
   case round =>
    clear HU HB y0 y1 y2 f0 f1 f2 HL
    obtain ⟨y,v2,hy,hgg,rfl,HU,HB⟩ := hrel
    have HL := Aside0.mk (unit_len (6 * x + y))
    by_cases hly : y < 6
    ·have hzy : (y : Int) < 6 := by omega
     have ht := unit_take hlt hly
     by_cases c : x = y
     ·rw [if_pos c] at ht
      have HT := Aside0.mk ht
      have q : ((x : Int) == (y : Int)) = true := by rw [c];simp
      obtain ⟨y0,y1,y2,f0,f1,f2⟩ := bx_of HU.out.bk
      clear ht c
      go_wp2_with (at_builtin;refine iapp 28 30 0 HU.out.c3.c HB.out.size HL.out ?_ (ho := rfl);intro v12 w12 h1 hg hat hb;clear y0 y1 y2 f0 f1 f2;rw [← HT.out] at h1;obtain ⟨A12,c12,e12⟩ := Kd.R_slice h1;generalize (unitRel.take (6 * x + (y + 1))).length = n12 at e12;subst e12;replace HU := Aside0.mk (HU.out.app2 h1 hg hat);replace HB := Aside0.mk (HB.out.trans hb);obtain ⟨y0,y1,y2,f0,f1,f2⟩ := bx_of HU.out.bk;replace HU := Aside0.mk (HU.out.put2 (.slice A12 n12 c12));replace HB := Aside0.mk (below_set (j := 2) (v := .slice A12 n12 c12) HB.out HU.out.gb);clear h1 hg hat hb)
      go_roundg (6 - (y + 1))
      case measure => omega
      case rel => exact ⟨y + 1,_,by omega,Nat.le_refl _,by go_num,HU,HB⟩
     ·rw [if_neg c] at ht
      have HT := Aside0.mk ht
      have q : ((x : Int) == (y : Int)) = false := by rw [beq_eq_false_iff_ne];omega
      obtain ⟨y0,y1,y2,f0,f1,f2⟩ := bx_of HU.out.bk
      clear ht c
      go_wp2_with (at_builtin;refine iapp 28 30 1 HU.out.c3.c HB.out.size HL.out ?_ (ho := rfl);intro v12 w12 h1 hg hat hb;clear y0 y1 y2 f0 f1 f2;rw [← HT.out] at h1;obtain ⟨A12,c12,e12⟩ := Kd.R_slice h1;generalize (unitRel.take (6 * x + (y + 1))).length = n12 at e12;subst e12;replace HU := Aside0.mk (HU.out.app2 h1 hg hat);replace HB := Aside0.mk (HB.out.trans hb);obtain ⟨y0,y1,y2,f0,f1,f2⟩ := bx_of HU.out.bk;replace HU := Aside0.mk (HU.out.put2 (.slice A12 n12 c12));replace HB := Aside0.mk (below_set (j := 2) (v := .slice A12 n12 c12) HB.out HU.out.gb);clear h1 hg hat hb)
      go_roundg (6 - (y + 1))
      case measure => omega
      case rel => exact ⟨y + 1,_,by omega,Nat.le_refl _,by go_num,HU,HB⟩
    ·obtain rfl : y = 6 := by omega
     rw [show 6 * x + 6 = 6 * (x + 1) by omega] at HU
     go_wp2
     go_roundg (6 - (x + 1))
     case measure => omega
     case rel => exact ⟨x + 1,_,_,_,by omega,Nat.le_refl _,by go_num,HU,HB⟩
  ·obtain rfl : x = 6 := by omega
   rw [show unitRel.take (6 * 6) = unitRel from by decide] at HU
   obtain ⟨A0,c0,e0⟩ := Kd.R_slice HU.out.c3.a
   obtain ⟨A1,c1,e1⟩ := Kd.R_slice HU.out.c3.b
   obtain ⟨A2,c2,rfl⟩ := Kd.R_slice HU.out.c3.c
   rw [List.length_replicate] at e0 e1
   subst e0 e1
   obtain ⟨z0,z1,z2,g0,g1,g2⟩ := bx_of HU.out.br
   go_wp2
   have hgv := HU.out.give (.slice A0 6 c0) (.slice A1 6 c1) (.slice A2 unitRel.length c2)
   exact bodyPost_ret (results_cell_row rfl _ _ kr 27 #[.slice A0 6 c0,.slice A1 6 c1,.slice A2 unitRel.length c2] (0,0) _ rfl hgv.1 hu rfl (by kernel_rfl)) rfl ⟨_,_,_,rfl,hgv.2,below_set (below_set (below_set HB.out HU.out.gr) HU.out.gr) HU.out.gr⟩
end Go.Proofs.Ytngphdmbjenkaaa.X
namespace Go.Proofs.Ytngphdmbjenkaaa.X
open Go.RowKit Go.Proofs.YtngphdmbjenkaaaW.PrintWords Go.Proofs.YtngphdmbjenkaaaW.PrintLast Go.Proofs.YtngphdmbjenkaaaW.PrintMore Go.Proofs.Ytngphdmbjenkaaa.Q
set_option linter.unusedVariables false
set_option linter.unusedSimpArgs false
theorem copy_id (l : List NdI) (hl : l.length ≤ 1000) : spec_l3Copy.f l = some l := by
 unfold spec_l3Copy.f
 rw [Option.bind_some,if_pos (by simp;omega),List.nil_append]
theorem copy_r {w0 W w W1 : World} {g : Nat} (h : St w0 W g w) (A : Option Addr) (c n : Nat) (l : List NdI) (hn : l.length = n) (hr : Kd.C k77 w A n l) (hc : n ≤ c) (hl : n ≤ 1000) [ch : Ch w W1] :
  Calls Try.prog 89 #[.slice A n c] W1 fun e w' => ∃ v : Value,e = .returned v ∧ NX w' w.heap.size v l ∧ Below w.heap.size w w' ∧ St w0 w g w' := by
 subst hn
 exact (spec_l3Copy.calls A c l l W1 (Kd.C_below hr ch.out) hc (copy_id l hl)).mono fun e w' ⟨v,he,h1,h2⟩ => ⟨v,he,Kd.R_lower h1 ch.out.size,below_step ch.out h2,h.via (w1 := W1) ((h.ch).start.below h2)⟩
theorem ok_r {w0 W w W1 : World} {g : Nat} (h : St w0 W g w) (A : Option Addr) (c n : Nat) (l : List NdI) (hn : l.length = n) (hr : Kd.C k77 w A n l) (hc : n ≤ c) (hl : n ≤ 1000) [ch : Ch w W1] :
  Calls Try.prog 16 #[.slice A n c] W1 fun e w' => ∃ t : Bool,e = .returned (.bool t) ∧ Below w.heap.size w w' ∧ St w0 w g w' := by
 subst hn
 obtain ⟨k,hk⟩ := (specTreeOk_ev l (by omega)).rounds
 exact (spec_TreeOk.calls k A c l _ W1 (Kd.C_below hr ch.out) hc hk).mono fun e w' ⟨he,h2⟩ => ⟨_,he,below_step ch.out h2,h.via (w1 := W1) ((h.ch).start.below h2)⟩
section
variable {ops : Array Oper} {o : Oper} {a : Act} {Q : Exit → Act → World → Prop} {Kc : Act → World → Prop} {w0 W0 w W : World} {g : Nat}
theorem nappS (s t : Tmp) (x y : Int) {v : Value} {xs : List NdI} (hs : Aside0 (St w0 W0 g w)) (hr : Aside0 (NX w W0.heap.size v xs)) (h0 : w0.heap.size ≤ W0.heap.size) (hl : xs.length ≤ 1000) [c : Ch w W]
  (k : ∀ v1 w1,Aside0 (NX w1 W0.heap.size v1 (xs ++ [⟨x,y⟩])) → Aside0 (St w0 W0 g w1) → (∀ p u,w.cell? p = some u → some p.block ≠ v.ownBlock → w1.cell? p = some u) → Kc (a.put o.dst v1) w1)
  (hw : Region.wanted o (yielded ops a.tmps) = true := by rfl) (ho : o.op = .call { callee := .builtin .append,args := #[.tmp s,.tmp t],argTypes := #[24,24] } := by rfl)
  (hsv : a.eval (.tmp s) = v := by rfl) (hx : a.eval (.tmp t) = .slice (some ⟨W.heap.size,0,none⟩) 1 1 := by rfl) :
  if Region.wanted o (yielded ops a.tmps) = true then Oper.wp Try.prog o a (W.alloc (.cells #[.int .i64 x,.int .i64 y] 77)) Kc Q else Kc (a.put o.dst undef) (W.alloc (.cells #[.int .i64 x,.int .i64 y] 77)) := by
 have hw' := hs.out.ch (w' := W)
 have hr' := hr.out.ch (w' := W)
 refine Kd.R_append_step k77 W0.heap.size hw (.tmp s) (.tmp t) 24 77 (.agg #[(.int .i64 0),(.int .i64 0)]) 16 ho Try.underlying24 info77 rfl (by decide) (by omega) v xs (⟨x,y⟩ : NdI) [.int .i64 x,.int .i64 y] (fun _ => True) (fun _ => False) hsv hx (k77_mkM _ _ _ (⟨x,y⟩ : NdI)) (fun _ h => h.elim) (fun _ _ => trivial) hr' (Below.refl _ W) hw'.size (by omega) ?_
 intro v1 w1 h1 _ h3 _
 refine k v1 w1 ⟨h1⟩ ⟨hw'.grown h3 (hr'.ne hw') (fun k hk => Kd.R_base hr' k hk) h0⟩ (fun p u hp hn => ?_)
 have hp' := pw_cell_below c.out hp
 exact (World.cell?_of_block (h3.block p.block (World.block_lt_of_cell? _ _ hp') hn)).trans hp'
theorem nappR (s t : Tmp) {v : Value} {xs ys : List NdI} {A : Option Addr} {m c : Nat} (hs : Aside0 (St w0 W0 g w)) (hr : Aside0 (NX w W0.heap.size v xs)) (hy : Aside0 (Kd.C k77 w A m ys)) (h0 : w0.heap.size ≤ W0.heap.size) (hl : xs.length + m ≤ 1000) [ch : Ch w W]
  (k : ∀ v1 w1,Aside0 (NX w1 W0.heap.size v1 (xs ++ ys)) → Aside0 (St w0 W0 g w1) → Kc (a.put o.dst v1) w1)
  (hw : Region.wanted o (yielded ops a.tmps) = true := by rfl) (ho : o.op = .call { callee := .builtin .append,args := #[.tmp s,.tmp t],argTypes := #[24,24] } := by rfl)
  (hsv : a.eval (.tmp s) = v := by rfl) (hx : a.eval (.tmp t) = .slice A m c := by rfl) :
  if Region.wanted o (yielded ops a.tmps) = true then Oper.wp Try.prog o a W Kc Q else Kc (a.put o.dst undef) W := by
 have hw' := hs.out.ch (w' := W)
 have hr' := hr.out.ch (w' := W)
 refine Kd.R_append_rows_step k77 W0.heap.size hw (.tmp s) (.tmp t) 24 77 (.agg #[(.int .i64 0),(.int .i64 0)]) 16 ho Try.underlying24 info77 rfl (by decide) (by omega) v xs ys A m c (fun _ => True) (fun _ => False) hsv hx hr' (Kd.C_below hy.out ch.out) (fun x cs h => ?_) (fun _ h => h.elim) (fun _ _ => trivial) (Below.refl _ W) hw'.size (by omega) ?_
 ·rw [k77_open h];exact k77_mkM _ _ _ x
 intro v1 w1 h1 _ h3 _
 exact k v1 w1 ⟨h1⟩ ⟨hw'.grown h3 (hr'.ne hw') (fun k hk => Kd.R_base hr' k hk) h0⟩
end
attribute [local go_sem ↓] Go.wp_at_zero Go.wp_at_succ
set_option maxHeartbeats 2000000 in
set_option maxRecDepth 100000 in
theorem near_r {w0 W w : World} {g : Nat} (h : St w0 W g w) (A : Option Addr) (c : Nat) (l : List NdI) (hr : Kd.C k77 w A l.length l) (hc : l.length ≤ c) (hl : l.length ≤ 200) :
  Calls Try.prog 111 #[.pointer (some ⟨g,0,none⟩),.slice A l.length c] w fun e w' => ∃ (v : Value) (x : List NdI),e = .returned v ∧ Aside0 (NX w' w.heap.size v x) ∧ x.length ≤ l.length + 10 ∧ St w0 w g w' := by
 have hw0 := h.bel.size
 have HS := Aside0.mk h.start
 have HC := Aside0.mk hr
 clear h hr
 go_enter Try.func111,Try.ntmps111
 go_wp2_with (first | (go_at_call 89;refine (copy_r HS.out A c l.length l rfl HC.out hc (by omega)).mono ?_;rintro e w5 ⟨v,rfl,hr,_,hs⟩;have HR := Aside0.mk hr;replace HS := Aside0.mk (HS.out.to hs);clear hs hr HC) | (go_at_call 113;refine (below_r HS.out 3).mono ?_;rintro e w7 ⟨r7,rfl,y0,y1,hs⟩;replace HR := Aside0.mk (HR.out.keep HS.out hs);replace HS := Aside0.mk (HS.out.to hs);clear hs;replace y1 := y1 (by decide)))
 go_loopg [5,6] (1 + r7).toNat (fun gg v5 v6 wr => ∃ (d : Nat) (x : List NdI),v6 = .int .i64 (d : Int) ∧ d ≤ 3 ∧ d ≤ gg ∧ Aside0 (NX wr w.heap.size v5 x) ∧ x.length + d ≤ l.length + 3 ∧ Aside0 (St w0 w g wr))
 case atStart => exact ⟨(1 + r7).toNat,_,by rw [Int.toNat_of_nonneg (by omega)],by omega,Nat.le_refl _,HR,by omega,HS⟩
 case round =>
  clear HS HR y0 y1
  obtain ⟨d,x,rfl,hd3,hd,HR,hn,HS⟩ := hrel
  obtain ⟨A5,c5,rfl⟩ := Kd.R_slice HR.out
  have hrd := Kd.R_reads' HR.out
  have hlc := hrd.2.1
  have hx2 : x.length ≤ 300 := by omega
  have hend : d = 0 ∨ (0 < d ∧ x.length = 0) ∨ (0 < d ∧ 0 < x.length) := by omega
  by_cases hgo : 0 < d ∧ 0 < x.length
  ·obtain ⟨e0,e1⟩ := hgo
   obtain ⟨d,rfl⟩ : ∃ m,d = m + 1 := ⟨d - 1,by omega⟩
   have z1 : (0 : Int) < ((d + 1 : Nat) : Int) := by omega
   have z2 : (0 : Int) < (x.length : Int) := by omega
   obtain ⟨b,cap,e,hN⟩ := NR.of HR.out e1
   cases e
   clear hN hrd hend
   have hne : ∀ {w' : World} {x : List NdI} {n : Nat},Aside0 (NX w' w.heap.size (.slice (some ⟨b,0,none⟩) n c5) x) → Aside0 (St w0 w g w') → b ≠ g := fun hr hs e => hr.out.ne hs.out (by rw [e];rfl)
   go_wp2_with (go_at_call 113;((with_reducible refine (below_r HS.out (x.length : Int)).mono ?_));rintro e w8 ⟨r8,rfl,y0,y1,hs⟩;replace HR := Aside0.mk (HR.out.keep HS.out hs);replace HS := Aside0.mk (HS.out.to hs);clear hs;replace y1 := y1 (by omega);obtain ⟨k,rfl⟩ := Int.eq_ofNat_of_zero_le y0;clear y0;replace y1 : k < x.length := by omega)
   refine (below_r HS.out 3).mono ?_
   rintro e w9 ⟨r9,rfl,_,_,hs⟩
   replace HR := Aside0.mk (HR.out.keep HS.out hs)
   replace HS := Aside0.mk (HS.out.to hs)
   clear hs
   by_cases c0 : r9 = 0
   ·subst c0
    go_wp2_with (go_at_call 134;refine (label_r HS.out).mono ?_;rintro e w9 ⟨r9,rfl,_,_,hs⟩;replace HR := Aside0.mk (HR.out.keep HS.out hs);replace HS := Aside0.mk (HS.out.to hs);clear hs;obtain ⟨b',cap',x0,y0,e,hb,q0,q1,f0,f1,hset⟩ := HR.out.node y1;cases e;replace HS := Aside0.mk (HS.out.set (hne HR HS) hb hw0 (k * 2) (.int .i64 r9));replace HR := Aside0.mk (hset r9).1;clear hset)
    go_roundg d
    case measure => omega
    case rel => exact ⟨d,_,by go_num,by omega,Nat.le_refl _,HR,by simp;omega,HS⟩
   have n0 := beq_no c0
   by_cases c1 : r9 = 1
   ·subst c1
    by_cases hk : 0 < k
    ·have q1 : (0 : Int) < (k : Int) := by omega
     have q2 : (1 : Int) < (x.length : Int) := by omega
     obtain ⟨i0,hi0,_,hsz,_⟩ := info_parts info77
     have hc1 := cut_to (P := Try.prog) 24 77 .i64 Try.underlying24 hi0 (some ⟨b,0,none⟩) x.length c5 (k : Int) (by omega) (by omega) hlc
     rw [Int.toNat_natCast] at hc1
     have hrd := (Kd.R_reads' HR.out).2.2
     have HY := Aside0.mk (Kd.C_drop (m := k + 1) (c := c5) hrd (by omega) hlc)
     obtain ⟨A1,hA1⟩ : ∃ A1,A1 = (if c5 = k + 1 then some ⟨b,0,none⟩ else (some ⟨b,0,none⟩ : Option Addr).map (·.add ((k + 1) * 2))) := ⟨_,rfl⟩
     have hc2 : ∀ W : World,(Instr.slice 24 (.slice (some ⟨b,0,none⟩) x.length c5) (some (.int .i64 ((k : Int) + 1))) none none).run Try.prog W = .ok (.slice A1 (x.length - (k + 1)) (c5 - (k + 1))) W := by
      have := cut_from (P := Try.prog) 24 77 .i64 Try.underlying24 hi0 2 hsz (some ⟨b,0,none⟩) x.length c5 ((k : Int) + 1) (by omega) (by omega)
      rw [show ((k : Int) + 1).toNat = k + 1 by omega] at this
      rw [hA1];exact this
     replace HY : Aside0 (Kd.C k77 w9 A1 (x.length - (k + 1)) (x.drop (k + 1))) := ⟨by rw [hA1,← List.length_drop];exact HY.out⟩
     have HX := Aside0.mk (Kd.C_take (m := k) hrd (by omega))
     have hkl : (x.take k).length = k := by rw [List.length_take];omega
     rw [hkl] at HX
     have HL := Aside0.mk hkl
     have HLL : Aside0 ((x.take k).length + (x.length - (k + 1)) ≤ 1000) := ⟨by omega⟩
     clear hA1 hi0 hsz hrd hkl
     have hwb := HS.out.size
     have hw1 : IntKind.i64.wrap ((k : Int) + 1) = (k : Int) + 1 := by rw [IntKind.wrap_i64];omega
     go_wp2
     go_region_held3 (fun _ => True) (trivial) ((first | (go_at_call 89;refine (copy_r HS.out (some ⟨b,0,none⟩) c5 k (x.take k) HL.out HX.out (by omega) (by omega)).mono ?_;rintro e w10 ⟨v,rfl,hr,hb10,hs⟩;replace HY := Aside0.mk (Kd.C_below HY.out hb10);replace HR := Aside0.mk (Kd.R_lower hr hwb);replace HS := Aside0.mk (HS.out.to hs);clear hs hr hb10) | (refine nappR 66 70 HS HR HY hw0 (HLL.out) ?_ (ho := rfl);intro v11 w11 hr hs;replace HR := hr;replace HS := hs;clear hr hs)))
     go_wp2
     go_roundg d
     case measure => omega
     case rel => exact ⟨d,_,by go_num,by omega,Nat.le_refl _,HR,by simp;omega,HS⟩
    ·obtain rfl : k = 0 := by omega
     go_wp2
     go_roundg d
     case measure => omega
     case rel => exact ⟨d,_,by go_num,by omega,Nat.le_refl _,HR,by omega,HS⟩
   have n1 := beq_no c1
   obtain ⟨m,hm⟩ : ∃ m,x.length = m + 1 := ⟨x.length - 1,by omega⟩
   obtain ⟨b',cap',x0,dep,e,hb,q0,q1,f0,f1,hset⟩ := HR.out.node (j := m) (by omega)
   cases e
   clear hset q0 f0 f1
   have hrd := (Kd.R_reads' HR.out).2.2
   have hwb := HS.out.size
   have hn2 : x.length + (d + 1) ≤ l.length + 3 := hn
   have hw1 : IntKind.i64.wrap ((x.length : Int) - 1) = (m : Int) := by rw [IntKind.wrap_i64];omega
   have b0 : (0 : Int) ≤ (m : Int) := by omega
   have b1 : (m : Int) < (x.length : Int) := by omega
   have HX := Aside0.mk hx2
   have HX3 := Aside0.mk (show x.length ≤ 1000 by omega)
   clear hm
   go_wp2
   have hbg := hne HR HS
   go_region_held3 (fun w' => w'.cell? ⟨b,m * 2 + 1,none⟩ = some (.int .i64 dep)) (first | assumption | (refine pw_cell_below (below_alloc (Below.refl _ _) _) ?_;assumption)) ((first | (go_at_call 89;refine (copy_r HS.out (some ⟨b,0,none⟩) c5 x.length x rfl hrd hlc (Nat.le_trans HX.out (by decide))).mono ?_;rintro e w10 ⟨v,rfl,hr,hb10,hs⟩;have hz := pw_cell_below hb10 q1;have hvb := Aside0.mk (show some b ≠ v.ownBlock from fun e => by have h1 := Kd.R_base hr b e.symm;have h2 := World.block_lt_of_cell? _ _ q1;have h3 : b < w9.heap.size := h2;omega);replace HR : Aside0 (NX w10 w.heap.size v x) := ⟨Kd.R_lower hr hwb⟩;replace HS := Aside0.mk (HS.out.to hs);clear hs hr hb10 q1) | (go_at_call 134;refine (label_r HS.out).mono ?_;rintro e w11 ⟨r11,rfl,_,_,hs⟩;replace HR := Aside0.mk (HR.out.keep HS.out hs);replace hz := keep_cell hs.keep hz hbg;replace HS := Aside0.mk (HS.out.to hs);clear hs) | (go_at_call 113;refine (below_r HS.out _).mono ?_;rintro e w12 ⟨r12,rfl,_,_,hs⟩;replace HR := Aside0.mk (HR.out.keep HS.out hs);replace hz := keep_cell hs.keep hz hbg;replace HS := Aside0.mk (HS.out.to hs);clear hs) | (refine nappS 29 44 r11 _ HS HR hw0 HX3.out ?_ (ho := rfl);intro v13 w13 hr hs hk;replace HR := hr;replace HS := hs;replace hz := hk _ _ hz hvb.out;clear hr hs hk)))
   go_wp2
   go_roundg d
   case measure => omega
   case rel => exact ⟨d,_,by go_num,by omega,Nat.le_refl _,HR,by simp;omega,HS⟩
  ·have hC := hrd.2.2
   have hE : d = 0 ∨ (0 < d ∧ x.length = 0) := by omega
   have HL := Aside0.mk (show x.length ≤ l.length + 10 by omega)
   clear hrd hend hgo
   rcases hE with rfl | ⟨e0,e1⟩
   ·go_wp2_with (first | (go_at_call 16;refine (ok_r HS.out A5 c5 x.length x rfl hC hlc (by omega)).mono ?_;rintro e w10 ⟨t,rfl,hb,hs⟩;replace HR : Aside0 (NX w10 w.heap.size _ x) := ⟨Kd.R_below HR.out hb⟩;replace HS := Aside0.mk (HS.out.to hs);clear hs hb hC) | (go_at_call 109;refine (tree_r HS.out 8 (by decide) (by decide)).mono ?_;rintro e w11 ⟨v,y,rfl,hr,_,hy,hs⟩;replace HR : Aside0 (NX w11 w.heap.size v y) := ⟨Kd.R_lower hr.out HS.out.size⟩;replace HS := Aside0.mk (HS.out.to hs);replace HL := Aside0.mk (show y.length ≤ l.length + 10 by have : y.length ≤ 8 := hy;omega);clear hs hr hy))
    all_goals (go_ret;exact ⟨_,_,rfl,HR,HL.out,HS.out⟩)
   ·have z1 : (0 : Int) < (d : Int) := by omega
    have z2 : ¬ (0 : Int) < (x.length : Int) := by omega
    clear e1
    go_wp2_with (first | (go_at_call 16;refine (ok_r HS.out A5 c5 x.length x rfl hC hlc (by omega)).mono ?_;rintro e w10 ⟨t,rfl,hb,hs⟩;replace HR : Aside0 (NX w10 w.heap.size _ x) := ⟨Kd.R_below HR.out hb⟩;replace HS := Aside0.mk (HS.out.to hs);clear hs hb hC) | (go_at_call 109;refine (tree_r HS.out 8 (by decide) (by decide)).mono ?_;rintro e w11 ⟨v,y,rfl,hr,_,hy,hs⟩;replace HR : Aside0 (NX w11 w.heap.size v y) := ⟨Kd.R_lower hr.out HS.out.size⟩;replace HS := Aside0.mk (HS.out.to hs);replace HL := Aside0.mk (show y.length ≤ l.length + 10 by have : y.length ≤ 8 := hy;omega);clear hs hr hy))
    all_goals (go_ret;exact ⟨_,_,rfl,HR,HL.out,HS.out⟩)
end Go.Proofs.Ytngphdmbjenkaaa.X
