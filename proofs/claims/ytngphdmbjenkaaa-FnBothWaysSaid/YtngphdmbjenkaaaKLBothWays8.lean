/- Part 8 of the proof of FnBothWays: what it needs. -/
import Derived.Test.YtngphdmbjenkaaaKLBothWays6
import Derived.Test.YtngphdmbjenkaaaKLBothWays7
namespace Go.Proofs.Ytngphdmbjenkaaa.X
open Go.RowKit Go.Proofs.YtngphdmbjenkaaaW.PrintWords Go.Proofs.YtngphdmbjenkaaaW.PrintLast Go.Proofs.YtngphdmbjenkaaaW.PrintMore Go.Proofs.Ytngphdmbjenkaaa.Q
set_option linter.unusedVariables false
set_option linter.unusedSimpArgs false
abbrev NX (w : World) (base : Nat) (v : Value) (l : List NdI) : Prop := Kd.R k77 77 w base (fun _ => True) v l
theorem NX.keep {w0 W : World} {g : Nat} {w w' : World} {base : Nat} {v : Value} {l : List NdI} (h : NX w base v l) (hs : St w0 W g w) (k : St w0 w g w') : NX w' base v l := by
 obtain ⟨s0,s1,s2,h1,_⟩ := hs.cs
 exact Kd.R_mono (Kd.R_keep (IsS130.apart h1 h (by decide)) k.keep (fun _ h => h.2)) (fun _ h => h.1)
theorem NX.ch {w w' : World} {base : Nat} {v : Value} {l : List NdI} (h : NX w base v l) [c : Ch w w'] : NX w' base v l := Kd.R_below h c.out
theorem NX.ne {w0 W : World} {g : Nat} {w : World} {base : Nat} {v : Value} {l : List NdI} (h : NX w base v l) (hs : St w0 W g w) : some g ≠ v.ownBlock := by
 obtain ⟨s0,s1,s2,h1,_⟩ := hs.cs
 exact IsS130.own_ne h1 h (by decide)
section
variable {ops : Array Oper} {rest : List Oper} {o : Oper} {a : Act} {Q : Exit → Act → World → Prop} {w0 W0 w W : World} {g : Nat}
theorem nlit (N : Tmp) (x y : Int) (hs : Aside0 (St w0 W0 g w)) [c : Ch w W]
  (k : ∀ v1 w1,Aside0 (NX w1 W0.heap.size v1 [⟨x,y⟩]) → Aside0 (St w0 W0 g w1) → Below W.heap.size W w1 → wpList Try.prog ops Q rest (a.put o.dst v1) w1)
  (hgd : o.guard = none := by rfl) (hd : o.dst = some N := by rfl)
  (hrun : (execOp a.eval o).run Try.prog W = .ok (.value (.slice (some ⟨W.heap.size,0,none⟩) 1 1)) (W.alloc (.cells #[.int .i64 x,.int .i64 y] 77)) := by first | (go_simp;done) | (go_simp;rfl)) : wpList Try.prog ops Q (o :: rest) a W := by
 have hw := hs.out.ch (w' := W)
 refine Kd.R_lit k77 W0.heap.size 77 hgd hd (xs := [⟨x,y⟩]) (inner := [.int .i64 x,.int .i64 y]) (ok := fun _ => True) (okp := fun _ => True) (w0 := W) hrun (Reps.c2 (k77_mkM _ _ _ (⟨x,y⟩ : NdI)) (Reps.none _ _)) (fun _ _ => trivial) trivial (Below.refl _ _) hw.size (by simp) ?_
 intro v1 w1 h1 h2 h3 _
 have hb : Below W.heap.size W w1 := ⟨h3.os,h3.tape,h3.output,h3.size,fun i hi => h3.block i hi (by simp)⟩
 exact k v1 w1 ⟨h1⟩ ⟨hw.below hb⟩ hb
theorem napp (s t : Tmp) (x y : Int) {v : Value} {xs : List NdI} (hs : Aside0 (St w0 W0 g w)) (hr : Aside0 (NX w W0.heap.size v xs)) (h0 : w0.heap.size ≤ W0.heap.size) (hl : xs.length ≤ 1000) [c : Ch w W]
  (k : ∀ v1 w1,Aside0 (NX w1 W0.heap.size v1 (xs ++ [⟨x,y⟩])) → Aside0 (St w0 W0 g w1) → wpList Try.prog ops Q rest (a.put o.dst v1) w1)
  (hgd : o.guard = none := by rfl) (ho : o.op = .call { callee := .builtin .append,args := #[.tmp s,.tmp t],argTypes := #[24,24] } := by rfl)
  (hsv : a.eval (.tmp s) = v := by rfl) (hx : a.eval (.tmp t) = .slice (some ⟨W.heap.size,0,none⟩) 1 1 := by rfl) : wpList Try.prog ops Q (o :: rest) a (W.alloc (.cells #[.int .i64 x,.int .i64 y] 77)) := by
 have hw := hs.out.ch (w' := W)
 have hr' := hr.out.ch (w' := W)
 refine Kd.R_append k77 W0.heap.size hgd (.tmp s) (.tmp t) 24 77 (.agg #[(.int .i64 0),(.int .i64 0)]) 16 ho Try.underlying24 info77 rfl (by decide) (by omega) v xs (⟨x,y⟩ : NdI) [.int .i64 x,.int .i64 y] (fun _ => True) (fun _ => False) hsv hx (k77_mkM _ _ _ (⟨x,y⟩ : NdI)) (fun _ h => h.elim) (fun _ _ => trivial) hr' (Below.refl _ W) hw.size (by omega) ?_
 intro v1 w1 h1 _ h3 _
 exact k v1 w1 ⟨h1⟩ ⟨hw.grown h3 (hr'.ne hw) (fun k hk => Kd.R_base hr' k hk) h0⟩
end
theorem tree_r {w0 W w : World} {g : Nat} (h : St w0 W g w) (n : Int) (h0 : 0 < n) (h1 : n ≤ 100) : Calls Try.prog 109 #[.pointer (some ⟨g,0,none⟩),.int .i64 n] w fun e w' => ∃ (v : Value) (l : List NdI),e = .returned v ∧ Aside0 (NX w' w.heap.size v l) ∧ 0 < l.length ∧ l.length ≤ n.toNat ∧ St w0 w g w' := by
 have hw0 := h.bel.size
 have HS := Aside0.mk h.start
 clear h
 go_enter Try.func109,Try.ntmps109
 go_wp2_with (first | (go_at_call 134;refine (label_r HS.out).mono ?_;rintro e w5 ⟨r5,rfl,z0,z1,hs⟩;replace HS := Aside0.mk (HS.out.to hs);clear hs) | ((with_reducible refine gate_dst (N := 12) rfl ?_);refine nlit 12 r5 0 HS ?_;intro v6 w6 HR hs _;replace HS := hs;clear hs) | (go_at_call 113;refine (below_r HS.out n).mono ?_;rintro e w7 ⟨r7,rfl,y0,y1,hs⟩;replace HR := Aside0.mk (HR.out.keep HS.out hs);replace HS := Aside0.mk (HS.out.to hs);clear hs;replace y1 := y1 h0))
 go_loopg [5,6] r7.toNat (fun gg v5 v6 wr => ∃ (d : Nat) (l : List NdI),v6 = .int .i64 (d : Int) ∧ d ≤ gg ∧ Aside0 (NX wr w.heap.size v5 l) ∧ 0 < l.length ∧ l.length + d ≤ n.toNat ∧ Aside0 (St w0 w g wr))
 case atStart => exact ⟨r7.toNat,_,by rw [Int.toNat_of_nonneg y0],Nat.le_refl _,HR,by simp,by simp;omega,HS⟩
 case round =>
  clear HS HR
  obtain ⟨d,l,rfl,hd,HR,hl,hn,HS⟩ := hrel
  cases d with
  | zero =>
   go_wp2
   go_ret
   exact ⟨_,l,rfl,HR,hl,by omega,HS.out⟩
  | succ d =>
   obtain ⟨b,cap,rfl,hN⟩ := NR.of HR.out hl
   obtain ⟨m,hm⟩ : ∃ m,l.length = m + 1 := ⟨l.length - 1,by omega⟩
   have hc := (hN.cell (j := m) (x := l[m]'(by omega)) (List.getElem?_eq_getElem (by omega))).2
   generalize (l[m]'(by omega)).f1 = dep at hc
   rw [hm] at HR ⊢
   have hm2 : m ≤ 100 := by omega
   have HM := Aside0.mk hm
   clear hm hN hl
   go_wp2_with (first | (go_at_call 113;refine (below_r HS.out _).mono ?_;rintro e w7 ⟨r7,rfl,x0,_,hs⟩;replace HR := Aside0.mk (HR.out.keep HS.out hs);replace HS := Aside0.mk (HS.out.to hs);clear hs) | (go_at_call 110;refine (once_r HS.out 2 (by decide)).mono ?_;rintro e w8 ⟨r8,rfl,hs⟩;replace HR := Aside0.mk (HR.out.keep HS.out hs);replace HS := Aside0.mk (HS.out.to hs);clear hs) | (go_at_call 134;refine (label_r HS.out).mono ?_;rintro e w9 ⟨r9,rfl,_,_,hs⟩;replace HR := Aside0.mk (HR.out.keep HS.out hs);replace HS := Aside0.mk (HS.out.to hs);clear hs) | (at_builtin;refine napp 38 43 r9 _ HS HR hw0 (by have := HM.out;omega) ?_;intro v10 w10 hr hs;replace HR := hr;replace HS := hs;clear hr hs))
   all_goals
    go_roundg d
    case measure => omega
    case rel => exact ⟨d,_,by go_num,Nat.le_refl _,HR,by simp,by have := HM.out;simp;omega,HS⟩
end Go.Proofs.Ytngphdmbjenkaaa.X
namespace Go.Proofs.Ytngphdmbjenkaaa.X
open Go.RowKit Go.Proofs.YtngphdmbjenkaaaW.PrintWords Go.Proofs.YtngphdmbjenkaaaW.PrintLast Go.Proofs.YtngphdmbjenkaaaW.PrintMore Go.Proofs.Ytngphdmbjenkaaa.Q
set_option linter.unusedVariables false
set_option linter.unusedSimpArgs false
abbrev NQ (w : World) (base : Nat) (v : Value) (l : List NdI) : Prop := Kd.Q k77 77 w base (fun _ => True) v l
theorem NX.q {w : World} {base : Nat} {v : Value} {l : List NdI} (h : NX w base v l) : NQ w base v l := Kd.Q_of_R h
theorem NQ.keep {w0 W : World} {g : Nat} {w w' : World} {base : Nat} {v : Value} {l : List NdI} (h : NQ w base v l) (hs : St w0 W g w) (k : St w0 w g w') : NQ w' base v l := by
 obtain ⟨s0,s1,s2,h1,_⟩ := hs.cs
 exact Kd.Q_mono (Kd.Q_keep (IsS130.apartQ h1 h (by decide)) k.keep (fun _ h => h.2)) (fun _ h => h.1)
theorem NQ.ch {w w' : World} {base : Nat} {v : Value} {l : List NdI} (h : NQ w base v l) [c : Ch w w'] : NQ w' base v l := Kd.Q_below h c.out
theorem grown_set (w : World) (b i : Nat) (v : Value) : w.grownBy (w.setCell ⟨b,i,none⟩ v) (some b) :=
 ⟨rfl,rfl,rfl,by simp [World.setCell],fun k _ hk => Below.heap_setCell w ⟨b,i,none⟩ v k (by simpa using hk)⟩
theorem St.set {w0 W w : World} {g b : Nat} (h : St w0 W g w) (hg : b ≠ g) (hb : W.heap.size ≤ b) (h0 : w0.heap.size ≤ W.heap.size) (i : Nat) (v : Value) : St w0 W g (w.setCell ⟨b,i,none⟩ v) :=
 h.grown (grown_set w b i v) (fun e => hg (Option.some.inj e).symm) (fun k hk => by cases hk;exact hb) h0
theorem NX.node {w : World} {base : Nat} {v : Value} {l : List NdI} (h : NX w base v l) {j : Nat} (hj : j < l.length) :
  ∃ b cap x y,v = .slice (some ⟨b,0,none⟩) l.length cap ∧ base ≤ b ∧ w.cell? ⟨b,j * 2,none⟩ = some (.int .i64 x) ∧ w.cell? ⟨b,j * 2 + 1,none⟩ = some (.int .i64 y) ∧ w.frozen? ⟨b,j * 2,none⟩ = false ∧ w.frozen? ⟨b,j * 2 + 1,none⟩ = false ∧
   ∀ z,(NX (w.setCell ⟨b,j * 2,none⟩ (.int .i64 z)) base v (l.set j ⟨z,y⟩)) ∧ (NX (w.setCell ⟨b,j * 2 + 1,none⟩ (.int .i64 z)) base v (l.set j ⟨x,z⟩)) := by
 obtain ⟨b,cap,rfl,hN⟩ := NR.of h (by omega)
 have e := List.getElem?_eq_getElem hj
 obtain ⟨c0,c1⟩ := hN.cell e
 refine ⟨b,cap,l[j].f0,l[j].f1,rfl,hN.le,c0,c1,hN.frozen _,hN.frozen _,fun z => ⟨?_,?_⟩⟩
 ·have k := (hN.set (k := j * 2) (v := .int .i64 z) (by omega) (ncells_set0 l j _ z e)).own
  rw [List.length_set] at k
  exact k
 ·have k := (hN.set (k := j * 2 + 1) (v := .int .i64 z) (by omega) (ncells_set1 l j _ z e)).own
  rw [List.length_set] at k
  exact k
section
variable {ops : Array Oper} {rest : List Oper} {o : Oper} {a : Act} {Q : Exit → Act → World → Prop} {w0 W0 w W : World} {g : Nat}
theorem ilit (N : Tmp) (l : List Int) (hl : 0 < l.length) (hs : Aside0 (St w0 W0 g w)) [c : Ch w W]
  (k : ∀ b w1,b ≠ g → Kd.C (Kd.int .i64) w1 (some ⟨b,0,none⟩) l.length l → Aside0 (St w0 W0 g w1) → St w0 W g w1 → Below W.heap.size W w1 → wpList Try.prog ops Q rest (a.put o.dst (.slice (some ⟨b,0,none⟩) l.length l.length)) w1)
  (hm : l.length ≤ 1000 := by simp) (hgd : o.guard = none := by rfl) (hd : o.dst = some N := by rfl)
  (hrun : (execOp a.eval o).run Try.prog W = .ok (.value (.slice (some ⟨W.heap.size,0,none⟩) l.length l.length)) (W.alloc (.cells (nums .i64 l).toArray 3)) := by first | (go_simp;done) | (go_simp;rfl)) : wpList Try.prog ops Q (o :: rest) a W := by
 have hw := hs.out.ch (w' := W)
 have hb : Below W.heap.size W (W.alloc (.cells (nums .i64 l).toArray 3)) := (Below.refl _ _).alloc (Nat.le_refl _) _
 refine Kd.event_run hgd hrun (k W.heap.size _ ?_ ?_ ⟨hw.below hb⟩ (hw.start.below hb) hb)
 ·obtain ⟨s0,s1,s2,h1,_⟩ := hw.cs
  have := IsS130.lt h1
  omega
 ·have h2 := World.ownsRow_lit (base := 0) (e := 3) (size := 1) W (nums .i64 l).toArray l.length (Nat.zero_le _) (by unfold maxLen;omega) (by simp [nums])
  have h3 := Kd.R_of_own (enc := Value.int .i64) (h1 := fun _ => rfl) (xs := l) (ok := fun _ => True) (e := 3) h2 (fun _ _ => trivial)
  exact (Kd.R_reads' h3).2.2
end
theorem nx_q {w0 W : World} {g : Nat} {w : World} {v : Value} {l : List NdI} {n : Int} (hr : Aside0 (NX w W.heap.size v l)) (hl : l.length ≤ n.toNat + 26) (hs : Aside0 (St w0 W g w)) :
  ∃ (v' : Value) (l : List NdI),Ending.returned v = .returned v' ∧ Aside0 (NQ w W.heap.size v' l) ∧ l.length ≤ n.toNat + 26 ∧ St w0 W g w := ⟨v,l,rfl,⟨hr.out.q⟩,hl,hs.out⟩
theorem beq_no {r c : Int} (h : ¬ r = c) : (r == c) = false := beq_eq_false_iff_ne.2 h
set_option maxHeartbeats 1000000 in
theorem l3any_r {w0 W w : World} {g : Nat} (h : St w0 W g w) (n : Int) (h0 : 0 < n) (h1 : n ≤ 100) : Calls Try.prog 80 #[.pointer (some ⟨g,0,none⟩),.int .i64 n] w fun e w' => ∃ (v : Value) (l : List NdI),e = .returned v ∧ Aside0 (NQ w' w.heap.size v l) ∧ l.length ≤ n.toNat + 26 ∧ St w0 w g w' := by
 have hw0 := h.bel.size
 have HS := Aside0.mk h.start
 clear h
 go_enter Try.func80,Try.ntmps80
 go_wp2_with (first | (go_at_call 109;refine (tree_r HS.out n h0 h1).mono ?_;rintro e w5 ⟨v,l,rfl,HR,hl,hn,hs⟩;replace HS := Aside0.mk (HS.out.to hs);clear hs;obtain ⟨b,cap,rfl,hN⟩ := NR.of HR.out hl;clear hN) | (go_at_call 113;((with_reducible refine (below_r HS.out (l.length : Int)).mono ?_));rintro e w7 ⟨r7,rfl,y0,y1,hs⟩;replace HR := Aside0.mk (HR.out.keep HS.out hs);replace HS := Aside0.mk (HS.out.to hs);clear hs;replace y1 := y1 (by omega);obtain ⟨k,rfl⟩ := Int.eq_ofNat_of_zero_le y0;clear y0;replace y1 : k < l.length := by omega))
 refine (below_r HS.out 18).mono ?_
 rintro e w8 ⟨r8,rfl,_,_,hs⟩
 replace HR := Aside0.mk (HR.out.keep HS.out hs)
 replace HS := Aside0.mk (HS.out.to hs)
 clear hs
 have hne : ∀ {w' : World},Aside0 (NX w' w.heap.size (.slice (some ⟨b,0,none⟩) l.length cap) l) → Aside0 (St w0 w g w') → b ≠ g := fun hr hs e => hr.out.ne hs.out (by rw [e];rfl)
 by_cases c0 : r8 = 0
 ·subst c0
  go_wp2_with (go_at_call 131;refine (any_r HS.out).mono ?_;rintro e w9 ⟨r9,rfl,hs⟩;replace HR := Aside0.mk (HR.out.keep HS.out hs);replace HS := Aside0.mk (HS.out.to hs);clear hs;obtain ⟨b',cap',x,y,e,hb,z0,z1,f0,f1,hset⟩ := HR.out.node y1;cases e;replace HS := Aside0.mk (HS.out.set (hne HR HS) hb hw0 (k * 2) (.int .i64 r9));replace HR := Aside0.mk (hset r9).1;clear hset)
  go_ret
  exact nx_q HR (by simp;omega) HS
 have n0 := beq_no c0
 by_cases c1 : r8 = 1
 ·subst c1
  obtain ⟨b',cap',x,y,e,hb,z0,z1,f0,f1,hset⟩ := HR.out.node y1
  cases e
  clear hset z0 f0 f1
  go_wp2_with (first | ((with_reducible refine gate_dst (N := 35) rfl ?_);refine ilit 35 [-1,0,1,13,wrap64 (y + 1)] (by simp) HS ?_;intro b5 w9 hb5 hC hs _ hbel;replace HR := Aside0.mk (show NX w9 _ _ _ from Kd.R_below HR.out hbel);replace HS := hs;clear hs hbel z1) | (go_at_call 132;refine (pick_r HS.out b5 5 [-1,0,1,13,wrap64 (y + 1)] hb5 (by simp) (by simp) (by simp) hC).mono ?_;rintro e w9 ⟨r9,rfl,hs⟩;replace HR := Aside0.mk (HR.out.keep HS.out hs);replace HS := Aside0.mk (HS.out.to hs);clear hs hC;obtain ⟨b',cap',x,y',e,hb,z0,z1,f0,f1,hset⟩ := HR.out.node y1;cases e;replace HS := Aside0.mk (HS.out.set (hne HR HS) hb hw0 (k * 2 + 1) (.int .i64 r9));replace HR := Aside0.mk (hset r9).2;clear hset))
  go_ret
  exact nx_q HR (by simp;omega) HS
 have n1 := beq_no c1
 by_cases c2 : r8 = 2
 ·subst c2
  obtain ⟨i0,hi0,_,hsz,_⟩ := info_parts info77
  obtain ⟨A1,hA1⟩ : ∃ A1,A1 = (if cap = 1 then some ⟨b,0,none⟩ else (some ⟨b,0,none⟩ : Option Addr).map (·.add (1 * 2))) := ⟨_,rfl⟩
  have hcut : ∀ W : World,(Instr.slice 24 (.slice (some ⟨b,0,none⟩) l.length cap) (some (.int .i64 1)) none none).run Try.prog W = .ok (.slice A1 (l.length - 1) (cap - 1)) W := by
   rw [hA1];exact cut_from (P := Try.prog) 24 77 .i64 Try.underlying24 hi0 2 hsz (some ⟨b,0,none⟩) l.length cap 1 (by omega) (by omega)
  have hq : Aside0 (NQ w8 w.heap.size (.slice A1 (l.length - 1) (cap - 1)) (l.drop 1)) := ⟨by rw [hA1];exact Kd.Q_drop (k := 1) HR.out.q (by omega)⟩
  clear hA1 hi0 hsz
  go_wp2
  go_ret
  exact ⟨_,_,rfl,hq,by rw [List.length_drop];omega,HS.out⟩
 have n2 := beq_no c2
 by_cases c3 : r8 = 3
 ·subst c3
  go_wp2
  go_loopg [5] 30 (fun gg v5 wr => ∃ (l : List NdI),Aside0 (NX wr w.heap.size v5 l) ∧ 30 - l.length ≤ gg ∧ 0 < l.length ∧ l.length ≤ n.toNat + 26 ∧ Aside0 (St w0 w g wr))
  case atStart => exact ⟨_,HR,by omega,hl,by omega,HS⟩
  case round =>
   clear HS HR hne hn y1 hl
   obtain ⟨l,HR,hgg,hl,hn,HS⟩ := hrel
   obtain ⟨b,cap,rfl,hN⟩ := NR.of HR.out hl
   clear hN
   have hn2 : l.length ≤ 126 := by omega
   go_wp2_with fail
   refine (below_r HS.out 2).mono ?_
   rintro e w9 ⟨r9,rfl,x0,x1,hs⟩
   replace HR := Aside0.mk (HR.out.keep HS.out hs)
   replace HS := Aside0.mk (HS.out.to hs)
   replace x1 := x1 (by decide)
   clear hs
   by_cases hlt : (l.length : Int) < 24 + r9
   ·go_wp2_with (at_builtin;refine napp 51 53 1 1 HS HR hw0 (by omega) ?_;intro v10 w10 hr hs;replace HR := hr;replace HS := hs;clear hr hs)
    go_roundg (30 - (l.length + 1))
    case measure => omega
    case rel => exact ⟨_,HR,by simp,by simp,by simp;omega,HS⟩
   ·go_wp2
    go_ret
    exact nx_q HR hn HS
 have n3 := beq_no c3
 by_cases c4 : r8 = 4
 ·subst c4
  go_wp2_with ((with_reducible refine gate_dst (N := 58) rfl ?_);refine nlit 58 0 0 HS ?_;intro v6 w6 hr hs hb;replace HR := hr;replace HS := hs;clear hb hs hr)
  go_loopg [5] 30 (fun gg v5 wr => ∃ (l : List NdI),Aside0 (NX wr w.heap.size v5 l) ∧ 30 - l.length ≤ gg ∧ 0 < l.length ∧ l.length ≤ n.toNat + 26 ∧ Aside0 (St w0 w g wr))
  case atStart => exact ⟨_,HR,by simp,by simp,by simp,HS⟩
  case round =>
   clear HS HR hne hn y1 hl
   obtain ⟨l,HR,hgg,hl,hn,HS⟩ := hrel
   obtain ⟨b,cap,rfl,hN⟩ := NR.of HR.out hl
   clear hN
   have hn2 : l.length ≤ 126 := by omega
   go_wp2_with fail
   refine (below_r HS.out 2).mono ?_
   rintro e w9 ⟨r9,rfl,x0,x1,hs⟩
   replace HR := Aside0.mk (HR.out.keep HS.out hs)
   replace HS := Aside0.mk (HS.out.to hs)
   replace x1 := x1 (by decide)
   clear hs
   by_cases hlt : (l.length : Int) < 13 + r9
   ·go_wp2_with (at_builtin;refine napp 65 69 0 l.length HS HR hw0 (by omega) ?_;intro v10 w10 hr hs;replace HR := hr;replace HS := hs;clear hr hs)
    go_roundg (30 - (l.length + 1))
    case measure => omega
    case rel => exact ⟨_,HR,by simp,by simp,by simp;omega,HS⟩
   ·go_wp2
    go_ret
    exact nx_q HR hn HS
 have n4 := beq_no c4
 go_wp2
 go_ret
 exact nx_q HR (by omega) HS
end Go.Proofs.Ytngphdmbjenkaaa.X
