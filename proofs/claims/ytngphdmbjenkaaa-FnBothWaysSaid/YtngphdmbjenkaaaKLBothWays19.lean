/- Part 19 of the proof of FnBothWays: what it needs. -/
import Derived.Deep.Cut
import Derived.Deep.RegionHeld3
import Derived.Deep.QuietTactic
import Derived.BigQuiet
import Derived.Test.YtngphdmbjenkaaaKLBothWays3
import Derived.Test.YtngphdmbjenkaaaKLBothWays4
import Derived.Test.YtngphdmbjenkaaaKLBothWays5
import Derived.Test.YtngphdmbjenkaaaKLBothWays6
import Derived.Test.YtngphdmbjenkaaaKLBothWays10
import Derived.Test.YtngphdmbjenkaaaKLBothWays13
import Derived.Test.YtngphdmbjenkaaaKLBothWays14
import Derived.Test.YtngphdmbjenkaaaKLBothWays16
import Derived.Test.YtngphdmbjenkaaaKLBothWays17
import Derived.Test.YtngphdmbjenkaaaKLBothWays18
namespace Go.Proofs.Ytngphdmbjenkaaa.X
open Go.RowKit Go.Proofs.YtngphdmbjenkaaaW.PrintWords Go.Proofs.YtngphdmbjenkaaaW.PrintLast Go.Proofs.YtngphdmbjenkaaaW.PrintMore Go.Proofs.Ytngphdmbjenkaaa.Q
set_option linter.unusedVariables false
set_option linter.unusedSimpArgs false
theorem krL_range (l : List NodeI) : krL l = (List.range (kR (lfN l) l.length l.length).length).map fun x => (kAt (lfN l) l.length x : Int) := by
 unfold krL natsI
 apply List.ext_getElem?
 intro j
 by_cases h : j < (kR (lfN l) l.length l.length).length
 ·rw [List.getElem?_map,List.getElem?_map,List.getElem?_range h,List.getElem?_eq_getElem h]
  rw [Option.map_some,Option.map_some]
  unfold kAt
  rw [List.getD_eq_getElem?_getD,List.getElem?_eq_getElem h]
  rfl
 ·rw [List.getElem?_eq_none (by simp;omega),List.getElem?_eq_none (by simp;omega)]
theorem RV.only {W W1 : World} {lo hi b : Nat} {v : Value} {n : Nat} {f : Nat → Int} (h : RV W lo hi v n f) (k : Only b W W1) (hb : b < lo ∨ hi ≤ b) : RV W1 lo hi v n f := by
 obtain ⟨g,c,e,hc,h1,h2,h3⟩ := h.is
 exact ⟨g,c,e,hc,h1,h2,fun p hp => k.cell (by rw [add_block];show g ≠ b;omega) (h3 p hp)⟩
theorem blk_only {b g : Nat} {W W1 : World} {o : Obj} (h : W.heap[g]? = some o) (k : Only b W W1) (hg : g ≠ b) : W1.heap[g]? = some o :=
 (k.block g (blk_lt h) (fun e => hg (Option.some.inj e))).trans h
theorem below_onlyB {b B : Nat} {w W W1 : World} (h : Below B w W) (k : Only b W W1) (hB : B ≤ b) (hs : B ≤ W.heap.size) : Below B w W1 :=
 ⟨k.os.trans h.os,k.tape.trans h.tape,k.output.trans h.output,Nat.le_trans h.size k.size,fun i hi => (k.block i (by omega) (fun e => by cases e;omega)).trans (h.block i hi)⟩
structure Y8 (M : Ted.Ms) (A B : Nat) (X Y : Nat → Nat) (w0 : World) (g bt : Nat) (a0 a1 a2 a3 a4 a5 a6 : Addr) (c0 c1 c2 c3 c4 c5 c6 : Nat) (w : World) : Prop where
 box : w.heap[g]? = some (.cells #[.slice (some a0) A c0,.slice (some a1) B c1,.slice (some a2) A c2,.slice (some a3) B c3,.slice (some a4) 6 c4,.slice (some a5) 6 c5,.slice (some a6) 36 c6] 134 (0,0))
 rs : Rs M A B X Y bt a0 a1 a2 a3 a4 a5 a6 w
 gt : g ≠ bt
 lo : w0.heap.size ≤ bt
 bel : Below w0.heap.size w0 w
section
variable {M : Ted.Ms} {A B : Nat} {X Y : Nat → Nat} {w0 w w' : World} {g bt : Nat} {a0 a1 a2 a3 a4 a5 a6 : Addr} {c0 c1 c2 c3 c4 c5 c6 : Nat}
theorem Y8.only (h : Y8 M A B X Y w0 g bt a0 a1 a2 a3 a4 a5 a6 c0 c1 c2 c3 c4 c5 c6 w) (k : Only bt w w') : Y8 M A B X Y w0 g bt a0 a1 a2 a3 a4 a5 a6 c0 c1 c2 c3 c4 c5 c6 w' :=
 ⟨blk_only h.box k h.gt,h.rs.only k,h.gt,h.lo,below_onlyB h.bel k h.lo h.bel.size⟩
theorem Y8.boxes (h : Y8 M A B X Y w0 g bt a0 a1 a2 a3 a4 a5 a6 c0 c1 c2 c3 c4 c5 c6 w) :
  w.cell? ⟨g,0,none⟩ = some (.slice (some a0) A c0) ∧ w.cell? ⟨g,1,none⟩ = some (.slice (some a1) B c1) ∧ w.cell? ⟨g,2,none⟩ = some (.slice (some a2) A c2) ∧ w.cell? ⟨g,3,none⟩ = some (.slice (some a3) B c3) ∧
   w.cell? ⟨g,4,none⟩ = some (.slice (some a4) 6 c4) ∧ w.cell? ⟨g,5,none⟩ = some (.slice (some a5) 6 c5) ∧ w.cell? ⟨g,6,none⟩ = some (.slice (some a6) 36 c6) :=
 ⟨(blk_cell h.box 0).trans rfl,(blk_cell h.box 1).trans rfl,(blk_cell h.box 2).trans rfl,(blk_cell h.box 3).trans rfl,(blk_cell h.box 4).trans rfl,(blk_cell h.box 5).trans rfl,(blk_cell h.box 6).trans rfl⟩
end
theorem rs_start {a b : List NodeI} {d n r : List Int} (ta : Tr a) (tb : Tr b) (hc : Co d n r) {w W : World} {A2 A3 A4 : Option Addr} {bt lo0 hi0 lo1 hi1 lo2 hi2 lo3 hi3 : Nat} {v0 v1 v2 v3 : Value} (hB : Below w.heap.size w W) (hbt : w.heap.size ≤ bt)
  (h0 : RV W lo0 hi0 v0 a.length (fun x => lab a (nodeN a x))) (h1 : RV W lo1 hi1 v1 b.length (fun x => lab b (nodeN b x))) (h2 : RV W lo2 hi2 v2 a.length (fun x => (lfN a x : Int))) (h3 : RV W lo3 hi3 v3 b.length (fun x => (lfN b x : Int)))
  (l0 : bt < lo0) (l1 : bt < lo1) (l2 : bt < lo2) (l3 : bt < lo3)
  (hr2 : Kd.C (Kd.int .i64) w A2 d.length d) (hr3 : Kd.C (Kd.int .i64) w A3 n.length n) (hr4 : Kd.C (Kd.int .i64) w A4 r.length r) :
  ∃ a0 a1 a2 a3 a4 a5 a6 k0 k1 k2 k3,v0 = .slice (some a0) a.length k0 ∧ v1 = .slice (some a1) b.length k1 ∧ v2 = .slice (some a2) a.length k2 ∧ v3 = .slice (some a3) b.length k3 ∧ A2 = some a4 ∧ A3 = some a5 ∧ A4 = some a6 ∧
   Rs (msOf a b d n r) a.length b.length (fun p => (lab a (nodeN a p)).toNat) (fun q => (lab b (nodeN b q)).toNat) bt a0 a1 a2 a3 a4 a5 a6 W := by
 have la : ∀ p,p < a.length → 0 ≤ lab a (nodeN a p) ∧ lab a (nodeN a p) ≤ 5 := fun p hp => ⟨(ta.chk _ (nodeN_lt ta hp)).l0,(ta.chk _ (nodeN_lt ta hp)).l5⟩
 have lb : ∀ p,p < b.length → 0 ≤ lab b (nodeN b p) ∧ lab b (nodeN b p) ≤ 5 := fun p hp => ⟨(tb.chk _ (nodeN_lt tb hp)).l0,(tb.chk _ (nodeN_lt tb hp)).l5⟩
 have hd := hc.dl
 have hi := hc.il
 have hr := hc.rl
 obtain ⟨g0,k0,e0,_,m0,_,q0⟩ := h0.is
 obtain ⟨g1,k1,e1,_,m1,_,q1⟩ := h1.is
 obtain ⟨g2,k2,e2,_,m2,_,q2⟩ := h2.is
 obtain ⟨g3,k3,e3,_,m3,_,q3⟩ := h3.is
 have price : ∀ {A : Option Addr} {l : List Int} {N : Nat},l.length = N → 0 < N → Kd.C (Kd.int .i64) w A l.length l → ∃ ad,A = some ad ∧ ad.block ≠ bt ∧ ∀ p,p < N → W.cell? (ad.add p) = some (.int .i64 (l.getD p 0)) := by
  intro A l N hl hN h
  obtain ⟨ad,rfl,hz⟩ := Kd.at_int h 0 (by omega) (by omega)
  refine ⟨ad,rfl,?_,fun p hp => ?_⟩
  ·have := World.block_lt_of_cell? w _ hz
   rw [add_block] at this
   omega
  ·obtain ⟨ad',e,hx⟩ := Kd.at_int h (p : Int) (by omega) (by omega)
   cases e
   rw [Int.toNat_natCast] at hx
   exact pw_cell_below hB hx
 obtain ⟨a4,e4,n4,q4⟩ := price hd (by omega) hr2
 obtain ⟨a5,e5,n5,q5⟩ := price hi (by omega) hr3
 obtain ⟨a6,e6,n6,q6⟩ := price hr (by omega) hr4
 refine ⟨⟨g0,0,none⟩,⟨g1,0,none⟩,⟨g2,0,none⟩,⟨g3,0,none⟩,a4,a5,a6,k0,k1,k2,k3,e0,e1,e2,e3,e4,e5,e6,fun p hp => ?_,fun q hq => ?_,q2,q3,fun p hp => ?_,fun q hq => ?_,fun p q hp hq => ?_,by show g0 ≠ bt;omega,by show g1 ≠ bt;omega,by show g2 ≠ bt;omega,by show g3 ≠ bt;omega,n4,n5,n6⟩
 ·have := la p hp
  rw [q0 p hp,Int.toNat_of_nonneg this.1]
 ·have := lb q hq
  rw [q1 q hq,Int.toNat_of_nonneg this.1]
 ·have := la p hp
  exact q4 _ (by omega)
 ·have := lb q hq
  exact q5 _ (by omega)
 ·have := la p hp
  have := lb q hq
  exact q6 _ (by omega)
structure La8 (M : Ted.Ms) (A B bt i j : Nat) (v : Value) (w : World) : Prop where
 is : ∃ (bf : Nat) (L : List Int),v = .slice (some ⟨bf,0,none⟩) ((kAt M.la A i - M.la (kAt M.la A i) + 2) * (kAt M.lb B j - M.lb (kAt M.lb B j) + 2)) ((kAt M.la A i - M.la (kAt M.la A i) + 2) * (kAt M.lb B j - M.lb (kAt M.lb B j) + 2)) ∧ bf ≠ bt ∧ Blk w bf L ∧
  Tab M (M.la (kAt M.la A i)) (M.lb (kAt M.lb B j)) (kAt M.lb B j - M.lb (kAt M.lb B j) + 2) ((kAt M.la A i - M.la (kAt M.la A i) + 2) * (kAt M.lb B j - M.lb (kAt M.lb B j) + 2)) (fun u _ => u ≤ kAt M.la A i - M.la (kAt M.la A i) + 1) L
theorem La8.only {M : Ted.Ms} {A B bt i j : Nat} {v : Value} {w w' : World} (h : La8 M A B bt i j v w) (k : Only bt w w') : La8 M A B bt i j v w' := by
 obtain ⟨bf,L,e,hn,hb,ht⟩ := h.is
 exact ⟨bf,L,e,hn,blk_only hb k hn,ht⟩
theorem done_pair {M : Ted.Ms} {A B : Nat} {o : Nat → Nat → Int} {i j : Nat} (hla : ∀ p,p < A → M.la p ≤ p) (hlb : ∀ q,q < B → M.lb q ≤ q) (hi : i < (kR M.la A A).length) (hj : j < (kR M.lb B B).length) (h : Ted.Done M A B o (kAt M.la A i) (kAt M.lb B j)) :
  Ted.Done M A B (trs M o (kAt M.la A i) (kAt M.lb B j) (kAt M.la A i + 1) 0) (kAt M.la A i) (kAt M.lb B (j + 1)) := by
 refine h.next (kAt_rep hi) (kAt_rep hj) (fun p hp e _ => by rw [← e];exact hla p hp) (fun q hq e _ => by rw [← e];exact hlb q hq) (fun p q _ _ => ?_) (fun k hk hl => kAt_next hj hk hl)
 unfold trs
 by_cases c : M.la (kAt M.la A i) ≤ p ∧ p ≤ kAt M.la A i ∧ M.lb (kAt M.lb B j) ≤ q ∧ q ≤ kAt M.lb B j ∧ M.la p = M.la (kAt M.la A i) ∧ M.lb q = M.lb (kAt M.lb B j)
 ·rw [if_pos c,if_pos ⟨c.1,c.2.1,c.2.2.1,c.2.2.2.1,c.2.2.2.2.1,c.2.2.2.2.2,by omega⟩]
 ·rw [if_neg c,if_neg (fun z => c ⟨z.1,z.2.1,z.2.2.1,z.2.2.2.1,z.2.2.2.2.1,z.2.2.2.2.2.1⟩)]
theorem done_start {M : Ted.Ms} {A B : Nat} (o : Nat → Nat → Int) : Ted.Done M A B o (kAt M.la A 0) (kAt M.lb B 0) := by
 intro p q i k hp hq hi hk hl
 have h1 : ∀ {l : Nat → Nat} {n x : Nat},x < n → Ted.Rep l n x x → kAt l n 0 ≤ x := by
  intro l n x hx hr
  obtain ⟨y,hy,e⟩ := List.getElem_of_mem (kR_mem.2 hr)
  have hs := kR_sorted l n n
  have ex : kAt l n 0 = (kR l n n)[0]'(by omega) := by unfold kAt;rw [List.getD_eq_getElem?_getD,List.getElem?_eq_getElem (by omega)];rfl
  by_cases c : y = 0
  ·subst c;omega
  ·have := List.pairwise_iff_getElem.1 hs 0 y (by omega) hy (by omega)
   omega
 have a1 := h1 hi.lt hi.self
 have a2 := h1 hk.lt hk.self
 omega
theorem done_row {M : Ted.Ms} {A B : Nat} {o : Nat → Nat → Int} {i K : Nat} (hi : i < (kR M.la A A).length) (h : Ted.Done M A B o (kAt M.la A i) K) (hK : B ≤ K) : Ted.Done M A B o (kAt M.la A (i + 1)) (kAt M.lb B 0) := by
 have h0 := h.round (I' := kAt M.la A (i + 1)) (fun k hk => by have := hk.lt;omega) (fun x hx hl => kAt_next hi hx hl)
 intro p q x y hp hq hx hy hl
 refine h0 p q x y hp hq hx hy ?_
 rcases hl with hl | ⟨e,hl⟩
 ·exact .inl hl
 ·exfalso
  have := hx.self
  subst e
  have a2 : kAt M.lb B 0 ≤ y := by
   obtain ⟨z,hz,ez⟩ := List.getElem_of_mem (kR_mem.2 hy.self)
   have hs := kR_sorted M.lb B B
   have ex : kAt M.lb B 0 = (kR M.lb B B)[0]'(by omega) := by unfold kAt;rw [List.getD_eq_getElem?_getD,List.getElem?_eq_getElem (by omega)];rfl
   by_cases c : z = 0
   ·subst c;omega
   ·have := List.pairwise_iff_getElem.1 hs 0 z (by omega) hz (by omega)
    omega
  omega
theorem blk_all {A B : Nat} (n : Nat) (h : n = A * B) : Trs A B (fun _ _ => 0) (List.replicate n 0) := by
 subst h
 refine ⟨List.length_replicate,fun p q _ _ => ?_⟩
 rw [List.getD_eq_getElem?_getD,List.getElem?_replicate]
 split <;> rfl
section
variable {P : Program} {ops : Array Oper} {o : Oper} {a : Act} {Q : Exit → Act → World → Prop} {Kc : Act → World → Prop}
theorem put_step {W : World} (hw : Region.wanted o (yielded ops a.tmps) = true) (ty : TypeId) (x y : Operand) (ho : o.op = .store ty x y) (g : Nat) (cs old : Array Value) (t : TypeId) (hx : a.eval x = .pointer (some ⟨g,0,none⟩)) (hy : a.eval y = .agg cs)
  (hg : W.heap[g]? = some (.cells old t (0,0))) (hi : (P.info? ty).map (·.size) = some cs.size) (hold : old.size = cs.size) (h1 : cs.all (·.oneCell') = true)
  (h : ∀ w1,w1.heap[g]? = some (.cells cs t (0,0)) → Only g W w1 → Kc (a.put o.dst undef) w1) : if Region.wanted o (yielded ops a.tmps) = true then Oper.wp P o a W Kc Q else Kc (a.put o.dst undef) W := by
 rw [if_pos hw]
 refine wp_store_row ty x y ho g cs hx hy t old hg hi hold h1 (h _ (setRow_heap W g old cs t (0,0) hg) ⟨rfl,rfl,rfl,by rw [size_setRow];exact Nat.le_refl _,fun k _ hk => setRow_other W g k cs (fun e => hk (by rw [e]))⟩)
end
structure NS8 (w : World) (g5 bt : Nat) (T : List Int) (x0 x1 x2 : Value) (w' : World) : Prop where
 c0 : w'.cell? ⟨g5,0,none⟩ = some x0
 c1 : w'.cell? ⟨g5,1,none⟩ = some x1
 c2 : w'.cell? ⟨g5,2,none⟩ = some x2
 bel : Below w.heap.size w w'
 tb : Blk w' bt T
theorem NS8.step {w w1 w2 : World} {g5 bt : Nat} {T : List Int} {x0 x1 x2 : Value} (h : NS8 w g5 bt T x0 x1 x2 w1) (k : Below w1.heap.size w1 w2) : NS8 w g5 bt T x0 x1 x2 w2 :=
 ⟨pw_cell_below k h.c0,pw_cell_below k h.c1,pw_cell_below k h.c2,below_step h.bel k,blk_below h.tb k⟩
theorem NS8.store {w w1 w2 : World} {g g5 bt : Nat} {T : List Int} {x0 x1 x2 : Value} (h : NS8 w g5 bt T x0 x1 x2 w1) (h1 : g5 ≠ g) (h2 : bt ≠ g) (h3 : w.heap.size ≤ g) (k : Only g w1 w2) : NS8 w g5 bt T x0 x1 x2 w2 :=
 ⟨k.cell h1 h.c0,k.cell h1 h.c1,k.cell h1 h.c2,below_onlyB h.bel k h3 h.bel.size,blk_only h.tb k h2⟩
theorem all8_meet {a b : List NodeI} {d n r : List Int} (ta : Tr a) (tb : Tr b) (hc : Co d n r) {w wl W : World} {A2 A3 A4 : Option Addr} {c2 c3 c4 g g5 bt g0 g1 g2 g3 k0 k1 k2 k3 lo0 hi0 lo1 hi1 lo2 hi2 lo3 hi3 : Nat} {T : List Int} {x0 x1 x2 : Value}
  (hr2 : Kd.C (Kd.int .i64) w A2 d.length d) (hr3 : Kd.C (Kd.int .i64) w A3 n.length n) (hr4 : Kd.C (Kd.int .i64) w A4 r.length r) (hbt : w.heap.size ≤ bt) (hH : NS8 w g5 bt T x0 x1 x2 W) (hN : Only g wl W) (hgb : g ≠ bt)
  (hO : W.heap[g]? = some (.cells #[.slice (some ⟨g0,0,none⟩) a.length k0,.slice (some ⟨g1,0,none⟩) b.length k1,.slice (some ⟨g2,0,none⟩) a.length k2,.slice (some ⟨g3,0,none⟩) b.length k3,.slice A2 6 c2,.slice A3 6 c3,.slice A4 36 c4] 134 (0,0)))
  (q0 : RV wl lo0 hi0 (.slice (some ⟨g0,0,none⟩) a.length k0) a.length (fun x => lab a (nodeN a x))) (z0 : bt < lo0 ∧ (g < lo0 ∨ hi0 ≤ g)) (q1 : RV wl lo1 hi1 (.slice (some ⟨g1,0,none⟩) b.length k1) b.length (fun x => lab b (nodeN b x))) (z1 : bt < lo1 ∧ (g < lo1 ∨ hi1 ≤ g))
  (q2 : RV wl lo2 hi2 (.slice (some ⟨g2,0,none⟩) a.length k2) a.length (fun x => (lfN a x : Int))) (z2 : bt < lo2 ∧ (g < lo2 ∨ hi2 ≤ g)) (q3 : RV wl lo3 hi3 (.slice (some ⟨g3,0,none⟩) b.length k3) b.length (fun x => (lfN b x : Int))) (z3 : bt < lo3 ∧ (g < lo3 ∨ hi3 ≤ g)) :
  ∃ (g' : Nat) (a0 a1 a2 a3 a4 a5 a6 : Addr) (k0 k1 k2 k3 : Nat),Value.pointer (some ⟨g,0,none⟩) = Value.pointer (some ⟨g',0,none⟩) ∧ Aside0 (Y8 (msOf a b d n r) a.length b.length (fun p => (lab a (nodeN a p)).toNat) (fun q => (lab b (nodeN b q)).toNat) w g' bt a0 a1 a2 a3 a4 a5 a6 k0 k1 k2 k3 c2 c3 c4 W) ∧ Aside0 (Blk W bt T) := by
 obtain ⟨a0,a1,a2,a3,a4,a5,a6,m0,m1,m2,m3,e0,e1,e2,e3,e4,e5,e6,hrs⟩ := rs_start ta tb hc hH.bel hbt (q0.only hN z0.2) (q1.only hN z1.2) (q2.only hN z2.2) (q3.only hN z3.2) z0.1 z1.1 z2.1 z3.1 hr2 hr3 hr4
 cases e0;cases e1;cases e2;cases e3
 subst e4 e5 e6
 exact ⟨g,_,_,_,_,_,_,_,_,_,_,_,rfl,⟨⟨hO,hrs,hgb,hbt,hH.bel⟩⟩,⟨hH.tb⟩⟩
structure KC (g n bt : Nat) (f : Nat → Nat) (w : World) : Prop where
 ne : g ≠ bt
 c : ∀ x,x < n → w.cell? ⟨g,x,none⟩ = some (.int .i64 (f x : Int))
theorem KC.only {g n bt : Nat} {f : Nat → Nat} {w w' : World} (h : KC g n bt f w) (k : Only bt w w') : KC g n bt f w' := ⟨h.ne,fun x hx => k.cell h.ne (h.c x hx)⟩
theorem RV.kc {w : World} {lo hi g n c bt : Nat} {f : Nat → Nat} (h : RV w lo hi (.slice (some ⟨g,0,none⟩) n c) n (fun x => (f x : Int))) (hb : bt < lo) : KC g n bt f w := by
 obtain ⟨g',c',e,hc,h1,h2,h3⟩ := h.is
 cases e
 refine ⟨by omega,fun x hx => ?_⟩
 have := h3 x hx
 rwa [add_plain] at this
structure Par8 (M : Ted.Ms) (A B : Nat) (X Y : Nat → Nat) : Prop where
 hs : Small M
 hA : A ≤ 24
 hB : B ≤ 24
 pA : 0 < A
 pB : 0 < B
 lamA : Ted.Lam M.la A
 lamB : Ted.Lam M.lb B
 hla : ∀ p,p < A → M.la p ≤ p
 hlb : ∀ q,q < B → M.lb q ≤ q
 hX : ∀ p,p < A → X p < 6
 hY : ∀ q,q < B → Y q < 6
 rA : M.la (A - 1) = 0
 rB : M.lb (B - 1) = 0
theorem par8 {a b : List NodeI} {d n r : List Int} (ta : Tr a) (tb : Tr b) (hc : Co d n r) : Par8 (msOf a b d n r) a.length b.length (fun p => (lab a (nodeN a p)).toNat) (fun q => (lab b (nodeN b q)).toNat) := by
 have la : ∀ p,p < a.length → 0 ≤ lab a (nodeN a p) ∧ lab a (nodeN a p) ≤ 5 := fun p hp => ⟨(ta.chk _ (nodeN_lt ta hp)).l0,(ta.chk _ (nodeN_lt ta hp)).l5⟩
 have lb : ∀ p,p < b.length → 0 ≤ lab b (nodeN b p) ∧ lab b (nodeN b p) ≤ 5 := fun p hp => ⟨(tb.chk _ (nodeN_lt tb hp)).l0,(tb.chk _ (nodeN_lt tb hp)).l5⟩
 exact ⟨msOf_small hc,ta.len24,tb.len24,ta.len1,tb.len1,lfN_lam ta,lfN_lam tb,fun p hp => lfN_le ta hp,fun q hq => lfN_le tb hq,fun p hp => by have := la p hp;omega,fun q hq => by have := lb q hq;omega,lfN_last ta,lfN_last tb⟩
theorem step8 {M : Ted.Ms} {A B : Nat} {X Y : Nat → Nat} (P : Par8 M A B X Y) {i j I J nt : Nat} (hi : i < (kR M.la A A).length) (hj : j < (kR M.lb B B).length) (hI : I = kAt M.la A i) (hJ : J = kAt M.lb B j) (hnt : nt = A * B) {w0 w : World} {g bt : Nat} {a0 a1 a2 a3 a4 a5 a6 : Addr} {c0 c1 c2 c3 c4 c5 c6 : Nat} {T : List Int} {o : Nat → Nat → Int}
  (hy : Y8 M A B X Y w0 g bt a0 a1 a2 a3 a4 a5 a6 c0 c1 c2 c3 c4 c5 c6 w) (ht : Blk w bt T) (hu : Trs A B o T) (hd : Ted.Done M A B o (kAt M.la A i) (kAt M.lb B j)) :
  Calls Try.prog 124 #[.agg #[.slice (some a0) A c0,.slice (some a1) B c1,.slice (some a2) A c2,.slice (some a3) B c3,.slice (some a4) 6 c4,.slice (some a5) 6 c5,.slice (some a6) 36 c6],.int .i64 (I : Int),.int .i64 (J : Int),.slice (some ⟨bt,0,none⟩) nt nt] w fun e w' =>
   ∃ (v : Value) (T' : List Int) (o' : Nat → Nat → Int),e = .returned v ∧ Only bt w w' ∧ Blk w' bt T' ∧ Trs A B o' T' ∧ Ted.Done M A B o' (kAt M.la A i) (kAt M.lb B (j + 1)) ∧ La8 M A B bt i j v w' := by
 subst hnt hI hJ
 have r1 := kAt_rep hi
 have r2 := kAt_rep hj
 refine (forest8 P.hs P.hA P.hB P.lamA P.lamB P.hla P.hlb P.hX P.hY r1.lt r2.lt o (fun p q h1 h2 h3 h4 h5 => hd.fill P.lamA P.lamB P.hla P.hlb r1 r2 h1 h2 h3 h4 h5) w bt _ a0 a1 a2 a3 a4 a5 a6 c0 c1 c2 c3 c4 c5 c6 T ht hu hy.rs).mono ?_
 rintro e w' ⟨bf,L,T',rfl,hbf,hL,hTab,hO,hT,hTr⟩
 have := blk_lt ht
 exact ⟨_,T',_,rfl,hO,hT,hTr,done_pair P.hla P.hlb hi hj hd,⟨bf,L,rfl,by omega,hL,hTab⟩⟩
theorem La8.done {M : Ted.Ms} {A B : Nat} {X Y : Nat → Nat} (P : Par8 M A B X Y) {bt i j : Nat} {v : Value} {w : World} (h : La8 M A B bt i j v w) (hi : i + 1 = (kR M.la A A).length) (hj : j + 1 = (kR M.lb B B).length) :
  ∃ (bf : Nat) (L : List Int),v = .slice (some ⟨bf,0,none⟩) ((A + 1) * (B + 1)) ((A + 1) * (B + 1)) ∧ bf ≠ bt ∧ Blk w bf L ∧ Tab M 0 0 (B + 1) ((A + 1) * (B + 1)) (fun u _ => u ≤ A) L := by
 obtain ⟨bf,L,e,hn,hb,ht⟩ := h.is
 have pA := P.pA
 have pB := P.pB
 rw [kAt_last pA hi,kAt_last pB hj,P.rA,P.rB,show A - 1 - 0 + 2 = A + 1 by omega,show B - 1 - 0 + 2 = B + 1 by omega] at e ht
 exact ⟨bf,L,e,hn,hb,ht.mono fun u v _ hh => by omega⟩
theorem results_tt {P : Program} {fn : Func} {u v : Tmp} (h : fn.results = #[.tmp u,.tmp v]) (tmps : Array Value) (w : World) : (results fn tmps).run P w = .ok (.tuple #[tmps.getD u undef,tmps.getD v undef]) w := by simp [results,h]
def l8AllR.T3 : Bool × List (List Nat × List Nat) := (true,[([],[]),([0],[0]),([],[]),([2,1],[2]),([],[]),([4,3],[4]),([],[]),([6,5],[6]),([],[]),([1,3,5,7,8],[1,3,5,7,8]),([],[]),([10,9,7,0,1,2,3,4,5,6,7,8,9,10],[9,10])])
def l8AllR.B3 : List Nat := [0,1,0,7,0,31,0,127,0,511,0,2047]
theorem l8AllR.tab3 : rtab .any (opsOf Try.f74 3) = l8AllR.T3 := by kernel_rfl
theorem l8AllR.bits3 : waitsOk l8AllR.T3.2 l8AllR.B3 = true := by kernel_rfl
set_option maxHeartbeats 16000000 in
set_option maxRecDepth 100000 in
theorem all8 (q : Nat) (A0 : Option Addr) (c0 : Nat) (a : List S77) (A1 : Option Addr) (c1 : Nat) (b : List S77) (A2 : Option Addr) (c2 : Nat) (d : List Int) (A3 : Option Addr) (c3 : Nat) (n : List Int) (A4 : Option Addr) (c4 : Nat) (r : List Int) (w : World)
  (ta : Tr a) (tb : Tr b) (hco : Co d n r) (hr0 : Kd.C k77 w A0 a.length a) (hc0 : a.length ≤ c0) (hr1 : Kd.C k77 w A1 b.length b) (hc1 : b.length ≤ c1)
  (hr2 : Kd.C (Kd.int .i64) w A2 d.length d) (hc2 : d.length ≤ c2) (hr3 : Kd.C (Kd.int .i64) w A3 n.length n) (hc3 : n.length ≤ c3) (hr4 : Kd.C (Kd.int .i64) w A4 r.length r) (hc4 : r.length ≤ c4)
  (ha : spec_l8Labels.f q a = some (labL a)) (hb : spec_l8Labels.f q b = some (labL b)) (hc : spec_LeftLeaf.f q a = some (lfL a)) (hd : spec_LeftLeaf.f q b = some (lfL b)) (hka : spec_KeyRoots.f q a = some (krL a)) (hkb : spec_KeyRoots.f q b = some (krL b)) :
  Calls Try.prog 74 #[.slice A0 a.length c0,.slice A1 b.length c1,.agg #[.slice A2 d.length c2,.slice A3 n.length c3,.slice A4 r.length c4]] w fun e w' => ∃ (bt bf : Nat) (T L : List Int),
   e = .returned (.tuple #[.slice (some ⟨bt,0,none⟩) (a.length * b.length) (a.length * b.length),.slice (some ⟨bf,0,none⟩) ((a.length + 1) * (b.length + 1)) ((a.length + 1) * (b.length + 1))]) ∧ Below w.heap.size w w' ∧ w.heap.size ≤ bt ∧ bf ≠ bt ∧ Blk w' bt T ∧ Trs a.length b.length (Ted.TD (msOf a b d n r)) T ∧ Blk w' bf L ∧
    Tab (msOf a b d n r) 0 0 (b.length + 1) ((a.length + 1) * (b.length + 1)) (fun u _ => u ≤ a.length) L := by
 have hu := Try.underlying27
 have hu2 := Try.underlying134
 have la := ta.len1
 have lb := tb.len1
 have a24 := ta.len24
 have b24 := tb.len24
 obtain ⟨nt,hnt,hntl,f1⟩ : ∃ nt : Nat,nt = a.length * b.length ∧ nt ≤ 1000000 ∧ Vi (wrap64 ((a.length : Int) * (b.length : Int))) (nt : Int) :=
  ⟨_,rfl,by have := mul26 (a := a.length) (b := b.length) (by omega) (by omega);omega,vi (w_mul rfl (by have := mul26 (a := a.length) (b := b.length) (by omega) (by omega);omega))⟩
 obtain ⟨nf,hnf⟩ : ∃ nf,nf = (a.length + 1) * (b.length + 1) := ⟨_,rfl⟩
 obtain ⟨M,hM⟩ : ∃ M,M = msOf a b d n r := ⟨_,rfl⟩
 have eA : lfN a = M.la := by rw [hM];rfl
 have eB : lfN b = M.lb := by rw [hM];rfl
 have HP := par8 ta tb hco
 rw [← hM] at HP ⊢
 replace HP := Aside0.mk HP
 have HM := Aside0.mk hM
 have HEA := Aside0.mk eA
 have HEB := Aside0.mk eB
 clear hM eA eB
 rw [← hnt,← hnf,hco.dl,hco.il,hco.rl]
 have HNT := Aside0.mk hnt
 have HNF := Aside0.mk hnf
 have HNL := Aside0.mk hntl
 have HTA := Aside0.mk ta
 have HTB := Aside0.mk tb
 have HCO := Aside0.mk hco
 have Ha := Aside0.mk ha
 have Hb := Aside0.mk hb
 have Hc := Aside0.mk hc
 have Hd := Aside0.mk hd
 have Hka := Aside0.mk hka
 have Hkb := Aside0.mk hkb
 have HR0 := Aside0.mk hr0
 have HR1 := Aside0.mk hr1
 have HR2 := Aside0.mk hr2
 have HR3 := Aside0.mk hr3
 have HR4 := Aside0.mk hr4
 have HC0 := Aside0.mk hc0
 have HC1 := Aside0.mk hc1
 have HL := Aside0.mk (And.intro la (And.intro lb (And.intro a24 b24)))
 clear hnt hnf hntl ta tb hco ha hb hc hd hka hkb hr0 hr1 hr2 hr3 hr4 hc0 hc1 hc2 hc3 hc4 a24 b24
 go_enter Try.func74,Try.ntmps74
 go_upto_region 3 with (first | ((with_reducible refine gate_dst (N := 5) rfl ?_);refine bx_ 5 #[.slice A2 6 c2,.slice A3 6 c3,.slice A4 36 c4] 27 ?_;intro g5 hg5 w1 hb1 hb2;have HG := Aside0.mk hb1;have HG2 := Aside0.mk hb2;have HG3 := Aside0.mk hg5;clear hb1 hb2 hg5) | ((with_reducible refine gate_dst (N := 20) rfl ?_);refine make_w rfl (N := 20) rfl 25 _ _ rfl nt f1 f1 Try.underlying25 info3 HNL.out ?_;intro bt hbt w2 hf2 hb2;have HF := Aside0.mk hf2;have HF2 := Aside0.mk hb2;have HF3 := Aside0.mk hbt;clear hf2 hb2 hbt))
 obtain ⟨wz,hwz⟩ : ∃ wz,wz = w2.alloc (.cells #[] 3) := ⟨_,rfl⟩
 rw [← hwz]
 obtain ⟨h0,h1,HN⟩ : w.heap.size ≤ g5 ∧ g5 < bt ∧ NS8 w g5 bt (List.replicate nt 0) (.slice A2 6 c2) (.slice A3 6 c3) (.slice A4 36 c4) wz.drew := by
  subst hwz
  have e1 := HG3.out
  have e2 := HF3.out
  have e3 := blk_lt HG.out
  have hb : Below w2.heap.size w2 (w2.alloc (.cells #[] 3)) := below_alloc (Below.refl _ _) _
  have hx := blk_below (blk_below HG.out HF2.out) hb
  exact ⟨by omega,by omega,(blk_cell hx 0).trans rfl,(blk_cell hx 1).trans rfl,(blk_cell hx 2).trans rfl,below_drew (below_step (below_step HG2.out HF2.out) hb),show Blk (w2.alloc (.cells #[] 3)) bt _ from blk_below HF.out hb⟩
 have s0 := HN.bel.size
 have s1 := blk_lt HN.tb
 have HX := Aside0.mk (show w.heap.size ≤ bt by omega)
 clear HG HG2 HG3 HF HF2 HF3 hwz
 go_cut [10] from 22 (fun c10 wx => ∃ (g : Nat) (a0 a1 a2 a3 a4 a5 a6 : Addr) (k0 k1 k2 k3 : Nat),c10 = .pointer (some ⟨g,0,none⟩) ∧ Aside0 (Y8 M a.length b.length (fun p => (lab a (nodeN a p)).toNat) (fun q => (lab b (nodeN b q)).toNat) w g bt a0 a1 a2 a3 a4 a5 a6 k0 k1 k2 k3 c2 c3 c4 wx) ∧ Aside0 (Blk wx bt (List.replicate nt 0)))
 case first =>
  rename_i J1 K1 hJ1 hK1
  go_wp2
  refine start_ (n := 12) (S := NS8 w g5 bt (List.replicate nt 0) (.slice A2 6 c2) (.slice A3 6 c3) (.slice A4 36 c4)) (ds := []) (ba_ 12 0) (by kernel_rfl) rfl rfl HN (fun hHeld => ?_)
  refine with_tabW l8AllR.tab3 l8AllR.bits3 (fun HT_ HW_ => ?_)
  refine pu_ 0 (some 22) (ba_ 12 1) rfl rfl (any_of HT_.out (by kernel_rfl)) ?_
  refine pu_ 2 (some 24) (ba_ 12 5) rfl rfl (any_of HT_.out (by kernel_rfl)) ?_
  refine pu_ 4 (some 26) (ba_ 12 21) rfl rfl (any_of HT_.out (by kernel_rfl)) ?_
  refine pu_ 6 (some 28) (ba_ 12 85) rfl rfl (any_of HT_.out (by kernel_rfl)) ?_
  refine ta_ 8 (some 30) (ba_ 12 341) rfl rfl (take_ofW HT_.out HW_.out (by kernel_rfl)) hHeld (by rintro w' ⟨c0,c1,c2,sb,tb⟩;go_simp;with_reducible rfl) ?_
  refine two_ (i := 1) (j := 10) (Ni := some 23) (Nj := some 10) (ba_ 12 343) (ba_ 12 1365) rfl rfl rfl rfl (two_of HT_.out (by kernel_rfl)) (by decide) (by decide) (fun K hK => ?_) (fun K hK => ?_)
  ·refine goes_ Try.func121 (by kernel_rfl) rfl #[.slice A0 a.length c0] (by rfl) rfl rfl (by simp only [List.map_toArray,List.map_cons,List.map_nil];rfl) ?_
   refine (spec_l8Labels.calls q A0 c0 a _ _ (Kd.C_below HR0.out hHeld.bel) HC0.out Ha.out).mono ?_
   rintro e w23 ⟨v23,rfl,o23,b23⟩
   have r23 := row_iv (f := fun x => lab a (nodeN a x)) o23 la
   clear o23
   obtain ⟨g23,k23,rfl⟩ := r23.val
   refine ⟨_,rfl,?_⟩
   have O23 := Aside0.mk r23
   have B23 := Aside0.mk b23
   have s23 := b23.size
   refine hK.out _ _ (hHeld.step b23) (fun hHeld => ?_)
   clear r23 b23
   clear hK K
   refine norm_ (a' := ?_) ?_ ?_
   rotate_left
   ·show Act.put _ (some 23) _ = _
    simp only [Act.put,List.setIfInBounds_toArray,List.set_cons_zero,List.set_cons_succ,i64_w,i32_w]
    rfl
   refine two_ (i := 3) (j := 10) (Ni := some 25) (Nj := some 10) (ba_ 12 351) (ba_ 12 1367) rfl rfl rfl rfl (two_of HT_.out (by kernel_rfl)) (by decide) (by decide) (fun K hK => ?_) (fun K hK => ?_)
   ·refine goes_ Try.func121 (by kernel_rfl) rfl #[.slice A1 b.length c1] (by rfl) rfl rfl (by simp only [List.map_toArray,List.map_cons,List.map_nil];rfl) ?_
    refine (spec_l8Labels.calls q A1 c1 b _ _ (Kd.C_below HR1.out hHeld.bel) HC1.out Hb.out).mono ?_
    rintro e w25 ⟨v25,rfl,o25,b25⟩
    have r25 := row_iv (f := fun x => lab b (nodeN b x)) o25 lb
    clear o25
    obtain ⟨g25,k25,rfl⟩ := r25.val
    refine ⟨_,rfl,?_⟩
    have O25 := Aside0.mk r25
    have B25 := Aside0.mk b25
    have s25 := b25.size
    refine hK.out _ _ (hHeld.step b25) (fun hHeld => ?_)
    clear r25 b25
    clear hK K
    refine norm_ (a' := ?_) ?_ ?_
    rotate_left
    ·show Act.put _ (some 25) _ = _
     simp only [Act.put,List.setIfInBounds_toArray,List.set_cons_zero,List.set_cons_succ,i64_w,i32_w]
     rfl
    refine two_ (i := 5) (j := 10) (Ni := some 27) (Nj := some 10) (ba_ 12 383) (ba_ 12 1375) rfl rfl rfl rfl (two_of HT_.out (by kernel_rfl)) (by decide) (by decide) (fun K hK => ?_) (fun K hK => ?_)
    ·refine goes_ Try.func122 (by kernel_rfl) rfl #[.slice A0 a.length c0] (by rfl) rfl rfl (by simp only [List.map_toArray,List.map_cons,List.map_nil];rfl) ?_
     refine (spec_LeftLeaf.calls q A0 c0 a _ _ (Kd.C_below HR0.out hHeld.bel) HC0.out Hc.out).mono ?_
     rintro e w27 ⟨v27,rfl,o27,b27⟩
     have r27 := row_iv (f := fun x => (lfN a x : Int)) o27 la
     clear o27
     obtain ⟨g27,k27,rfl⟩ := r27.val
     refine ⟨_,rfl,?_⟩
     have O27 := Aside0.mk r27
     have B27 := Aside0.mk b27
     have s27 := b27.size
     refine hK.out _ _ (hHeld.step b27) (fun hHeld => ?_)
     clear r27 b27
     clear hK K
     refine norm_ (a' := ?_) ?_ ?_
     rotate_left
     ·show Act.put _ (some 27) _ = _
      simp only [Act.put,List.setIfInBounds_toArray,List.set_cons_zero,List.set_cons_succ,i64_w,i32_w]
      rfl
     refine two_ (i := 7) (j := 10) (Ni := some 29) (Nj := some 10) (ba_ 12 511) (ba_ 12 1407) rfl rfl rfl rfl (two_of HT_.out (by kernel_rfl)) (by decide) (by decide) (fun K hK => ?_) (fun K hK => ?_)
     ·refine goes_ Try.func122 (by kernel_rfl) rfl #[.slice A1 b.length c1] (by rfl) rfl rfl (by simp only [List.map_toArray,List.map_cons,List.map_nil];rfl) ?_
      refine (spec_LeftLeaf.calls q A1 c1 b _ _ (Kd.C_below HR1.out hHeld.bel) HC1.out Hd.out).mono ?_
      rintro e w29 ⟨v29,rfl,o29,b29⟩
      have r29 := row_iv (f := fun x => (lfN b x : Int)) o29 lb
      clear o29
      obtain ⟨g29,k29,rfl⟩ := r29.val
      refine ⟨_,rfl,?_⟩
      have O29 := Aside0.mk r29
      have B29 := Aside0.mk b29
      have s29 := b29.size
      refine hK.out _ _ (hHeld.step b29) (fun hHeld => ?_)
      clear r29 b29
      clear hK K
      refine norm_ (a' := ?_) ?_ ?_
      rotate_left
      ·show Act.put _ (some 29) _ = _
       simp only [Act.put,List.setIfInBounds_toArray,List.set_cons_zero,List.set_cons_succ,i64_w,i32_w]
       rfl
      refine pu_ 9 (some 31) (ba_ 12 1023) rfl rfl (any_of HT_.out (by kernel_rfl)) ?_
      refine one_ (i := 10) (N := some 10) (ba_ 12 2047) rfl rfl (one_of HT_.out (by kernel_rfl)) (by decide) (fun K hK => ?_)
      refine box_step (by rfl) (N := 10) (by rfl) (cs := #[.slice none 0 0,.slice none 0 0,.slice none 0 0,.slice none 0 0,.slice none 0 0,.slice none 0 0,.slice none 0 0]) (t := 134) (by first | (go_simp;done) | (go_simp;rfl)) ?_
      intro g hg w10 hb10 b10
      replace hg := Aside0.mk hg
      have O10 := Aside0.mk hb10
      have B10 := Aside0.mk b10
      have s10 := b10.size
      have t10 := blk_lt hb10
      refine hK.out _ _ (hHeld.step b10) (fun hHeld => ?_)
      clear hb10 b10
      clear hK K
      refine norm_ (a' := ?_) ?_ ?_
      rotate_left
      ·show Act.put _ (some 10) _ = _
       simp only [Act.put,List.setIfInBounds_toArray,List.set_cons_zero,List.set_cons_succ,i64_w,i32_w]
       rfl
      refine one_ (i := 11) (N := none) (ba_ 12 4095) rfl rfl (one_of HT_.out (by kernel_rfl)) (by decide) (fun K hK => ?_)
      refine put_step (by rfl) 134 (.tmp 10) (.tmp 31) (by rfl) g #[.slice (some ⟨g23,0,none⟩) a.length k23,.slice (some ⟨g25,0,none⟩) b.length k25,.slice (some ⟨g27,0,none⟩) a.length k27,.slice (some ⟨g29,0,none⟩) b.length k29,.slice A2 6 c2,.slice A3 6 c3,.slice A4 36 c4] #[.slice none 0 0,.slice none 0 0,.slice none 0 0,.slice none 0 0,.slice none 0 0,.slice none 0 0,.slice none 0 0] 134 (by rfl) (by rfl) O10.out (by kernel_rfl) rfl (by simp [Value.oneCell']) ?_
      intro w99 hb99 n99
      have hg9 := hg.out
      have O99 := Aside0.mk hb99
      have N99 := Aside0.mk n99
      refine hK.out _ _ (hHeld.store (by omega) (by omega) (by omega) n99) (fun hHeld => ?_)
      clear hb99 n99 hg9
      clear hK K
      refine norm_ (a' := ?_) ?_ ?_
      rotate_left
      ·show Act.put _ (none) _ = _
       simp only [Act.put,List.setIfInBounds_toArray,List.set_cons_zero,List.set_cons_succ,i64_w,i32_w]
       rfl
      refine done_ (done_of HT_.out (by kernel_rfl)) ?_
      refine hK1 _ _ (Met.intro (hJ1 _ _ ?_))
      have hg := hg.out
      repeat apply Exists.intro
      refine ⟨?_,rfl⟩
      rw [HM.out]
      exact all8_meet HTA.out HTB.out HCO.out HR2.out HR3.out HR4.out (by omega) hHeld N99.out (by omega) O99.out (O23.out.below (below_step (below_step (below_step B25.out B27.out) B29.out) B10.out)) (by omega) (O25.out.below (below_step (below_step B27.out B29.out) B10.out)) (by omega) (O27.out.below (below_step B29.out B10.out)) (by omega) (O29.out.below B10.out) (by omega)
     ·refine box_step (by rfl) (N := 10) (by rfl) (cs := #[.slice none 0 0,.slice none 0 0,.slice none 0 0,.slice none 0 0,.slice none 0 0,.slice none 0 0,.slice none 0 0]) (t := 134) (by first | (go_simp;done) | (go_simp;rfl)) ?_
      intro g hg w10 hb10 b10
      replace hg := Aside0.mk hg
      have O10 := Aside0.mk hb10
      have B10 := Aside0.mk b10
      have s10 := b10.size
      have t10 := blk_lt hb10
      refine hK.out _ _ (hHeld.step b10) (fun hHeld => ?_)
      clear hb10 b10
      clear hK K
      refine norm_ (a' := ?_) ?_ ?_
      rotate_left
      ·show Act.put _ (some 10) _ = _
       simp only [Act.put,List.setIfInBounds_toArray,List.set_cons_zero,List.set_cons_succ,i64_w,i32_w]
       rfl
      refine one_ (i := 7) (N := some 29) (ba_ 12 1535) rfl rfl (one_of HT_.out (by kernel_rfl)) (by decide) (fun K hK => ?_)
      refine goes_ Try.func122 (by kernel_rfl) rfl #[.slice A1 b.length c1] (by rfl) rfl rfl (by simp only [List.map_toArray,List.map_cons,List.map_nil];rfl) ?_
      refine (spec_LeftLeaf.calls q A1 c1 b _ _ (Kd.C_below HR1.out hHeld.bel) HC1.out Hd.out).mono ?_
      rintro e w29 ⟨v29,rfl,o29,b29⟩
      have r29 := row_iv (f := fun x => (lfN b x : Int)) o29 lb
      clear o29
      obtain ⟨g29,k29,rfl⟩ := r29.val
      refine ⟨_,rfl,?_⟩
      have O29 := Aside0.mk r29
      have B29 := Aside0.mk b29
      have s29 := b29.size
      refine hK.out _ _ (hHeld.step b29) (fun hHeld => ?_)
      clear r29 b29
      clear hK K
      refine norm_ (a' := ?_) ?_ ?_
      rotate_left
      ·show Act.put _ (some 29) _ = _
       simp only [Act.put,List.setIfInBounds_toArray,List.set_cons_zero,List.set_cons_succ,i64_w,i32_w]
       rfl
      refine pu_ 9 (some 31) (ba_ 12 2047) rfl rfl (any_of HT_.out (by kernel_rfl)) ?_
      refine one_ (i := 11) (N := none) (ba_ 12 4095) rfl rfl (one_of HT_.out (by kernel_rfl)) (by decide) (fun K hK => ?_)
      refine put_step (by rfl) 134 (.tmp 10) (.tmp 31) (by rfl) g #[.slice (some ⟨g23,0,none⟩) a.length k23,.slice (some ⟨g25,0,none⟩) b.length k25,.slice (some ⟨g27,0,none⟩) a.length k27,.slice (some ⟨g29,0,none⟩) b.length k29,.slice A2 6 c2,.slice A3 6 c3,.slice A4 36 c4] #[.slice none 0 0,.slice none 0 0,.slice none 0 0,.slice none 0 0,.slice none 0 0,.slice none 0 0,.slice none 0 0] 134 (by rfl) (by rfl) (blk_below O10.out B29.out) (by kernel_rfl) rfl (by simp [Value.oneCell']) ?_
      intro w99 hb99 n99
      have hg9 := hg.out
      have O99 := Aside0.mk hb99
      have N99 := Aside0.mk n99
      refine hK.out _ _ (hHeld.store (by omega) (by omega) (by omega) n99) (fun hHeld => ?_)
      clear hb99 n99 hg9
      clear hK K
      refine norm_ (a' := ?_) ?_ ?_
      rotate_left
      ·show Act.put _ (none) _ = _
       simp only [Act.put,List.setIfInBounds_toArray,List.set_cons_zero,List.set_cons_succ,i64_w,i32_w]
       rfl
      refine done_ (done_of HT_.out (by kernel_rfl)) ?_
      refine hK1 _ _ (Met.intro (hJ1 _ _ ?_))
      have hg := hg.out
      repeat apply Exists.intro
      refine ⟨?_,rfl⟩
      rw [HM.out]
      exact all8_meet HTA.out HTB.out HCO.out HR2.out HR3.out HR4.out (by omega) hHeld N99.out (by omega) O99.out (O23.out.below (below_step (below_step (below_step B25.out B27.out) B10.out) B29.out)) (by omega) (O25.out.below (below_step (below_step B27.out B10.out) B29.out)) (by omega) (O27.out.below (below_step B10.out B29.out)) (by omega) O29.out (by omega)
    ·refine box_step (by rfl) (N := 10) (by rfl) (cs := #[.slice none 0 0,.slice none 0 0,.slice none 0 0,.slice none 0 0,.slice none 0 0,.slice none 0 0,.slice none 0 0]) (t := 134) (by first | (go_simp;done) | (go_simp;rfl)) ?_
     intro g hg w10 hb10 b10
     replace hg := Aside0.mk hg
     have O10 := Aside0.mk hb10
     have B10 := Aside0.mk b10
     have s10 := b10.size
     have t10 := blk_lt hb10
     refine hK.out _ _ (hHeld.step b10) (fun hHeld => ?_)
     clear hb10 b10
     clear hK K
     refine norm_ (a' := ?_) ?_ ?_
     rotate_left
     ·show Act.put _ (some 10) _ = _
      simp only [Act.put,List.setIfInBounds_toArray,List.set_cons_zero,List.set_cons_succ,i64_w,i32_w]
      rfl
     refine one_ (i := 5) (N := some 27) (ba_ 12 1407) rfl rfl (one_of HT_.out (by kernel_rfl)) (by decide) (fun K hK => ?_)
     refine goes_ Try.func122 (by kernel_rfl) rfl #[.slice A0 a.length c0] (by rfl) rfl rfl (by simp only [List.map_toArray,List.map_cons,List.map_nil];rfl) ?_
     refine (spec_LeftLeaf.calls q A0 c0 a _ _ (Kd.C_below HR0.out hHeld.bel) HC0.out Hc.out).mono ?_
     rintro e w27 ⟨v27,rfl,o27,b27⟩
     have r27 := row_iv (f := fun x => (lfN a x : Int)) o27 la
     clear o27
     obtain ⟨g27,k27,rfl⟩ := r27.val
     refine ⟨_,rfl,?_⟩
     have O27 := Aside0.mk r27
     have B27 := Aside0.mk b27
     have s27 := b27.size
     refine hK.out _ _ (hHeld.step b27) (fun hHeld => ?_)
     clear r27 b27
     clear hK K
     refine norm_ (a' := ?_) ?_ ?_
     rotate_left
     ·show Act.put _ (some 27) _ = _
      simp only [Act.put,List.setIfInBounds_toArray,List.set_cons_zero,List.set_cons_succ,i64_w,i32_w]
      rfl
     refine one_ (i := 7) (N := some 29) (ba_ 12 1535) rfl rfl (one_of HT_.out (by kernel_rfl)) (by decide) (fun K hK => ?_)
     refine goes_ Try.func122 (by kernel_rfl) rfl #[.slice A1 b.length c1] (by rfl) rfl rfl (by simp only [List.map_toArray,List.map_cons,List.map_nil];rfl) ?_
     refine (spec_LeftLeaf.calls q A1 c1 b _ _ (Kd.C_below HR1.out hHeld.bel) HC1.out Hd.out).mono ?_
     rintro e w29 ⟨v29,rfl,o29,b29⟩
     have r29 := row_iv (f := fun x => (lfN b x : Int)) o29 lb
     clear o29
     obtain ⟨g29,k29,rfl⟩ := r29.val
     refine ⟨_,rfl,?_⟩
     have O29 := Aside0.mk r29
     have B29 := Aside0.mk b29
     have s29 := b29.size
     refine hK.out _ _ (hHeld.step b29) (fun hHeld => ?_)
     clear r29 b29
     clear hK K
     refine norm_ (a' := ?_) ?_ ?_
     rotate_left
     ·show Act.put _ (some 29) _ = _
      simp only [Act.put,List.setIfInBounds_toArray,List.set_cons_zero,List.set_cons_succ,i64_w,i32_w]
      rfl
     refine pu_ 9 (some 31) (ba_ 12 2047) rfl rfl (any_of HT_.out (by kernel_rfl)) ?_
     refine one_ (i := 11) (N := none) (ba_ 12 4095) rfl rfl (one_of HT_.out (by kernel_rfl)) (by decide) (fun K hK => ?_)
     refine put_step (by rfl) 134 (.tmp 10) (.tmp 31) (by rfl) g #[.slice (some ⟨g23,0,none⟩) a.length k23,.slice (some ⟨g25,0,none⟩) b.length k25,.slice (some ⟨g27,0,none⟩) a.length k27,.slice (some ⟨g29,0,none⟩) b.length k29,.slice A2 6 c2,.slice A3 6 c3,.slice A4 36 c4] #[.slice none 0 0,.slice none 0 0,.slice none 0 0,.slice none 0 0,.slice none 0 0,.slice none 0 0,.slice none 0 0] 134 (by rfl) (by rfl) (blk_below O10.out (below_step B27.out B29.out)) (by kernel_rfl) rfl (by simp [Value.oneCell']) ?_
     intro w99 hb99 n99
     have hg9 := hg.out
     have O99 := Aside0.mk hb99
     have N99 := Aside0.mk n99
     refine hK.out _ _ (hHeld.store (by omega) (by omega) (by omega) n99) (fun hHeld => ?_)
     clear hb99 n99 hg9
     clear hK K
     refine norm_ (a' := ?_) ?_ ?_
     rotate_left
     ·show Act.put _ (none) _ = _
      simp only [Act.put,List.setIfInBounds_toArray,List.set_cons_zero,List.set_cons_succ,i64_w,i32_w]
      rfl
     refine done_ (done_of HT_.out (by kernel_rfl)) ?_
     refine hK1 _ _ (Met.intro (hJ1 _ _ ?_))
     have hg := hg.out
     repeat apply Exists.intro
     refine ⟨?_,rfl⟩
     rw [HM.out]
     exact all8_meet HTA.out HTB.out HCO.out HR2.out HR3.out HR4.out (by omega) hHeld N99.out (by omega) O99.out (O23.out.below (below_step (below_step (below_step B25.out B10.out) B27.out) B29.out)) (by omega) (O25.out.below (below_step (below_step B10.out B27.out) B29.out)) (by omega) (O27.out.below B29.out) (by omega) O29.out (by omega)
   ·refine box_step (by rfl) (N := 10) (by rfl) (cs := #[.slice none 0 0,.slice none 0 0,.slice none 0 0,.slice none 0 0,.slice none 0 0,.slice none 0 0,.slice none 0 0]) (t := 134) (by first | (go_simp;done) | (go_simp;rfl)) ?_
    intro g hg w10 hb10 b10
    replace hg := Aside0.mk hg
    have O10 := Aside0.mk hb10
    have B10 := Aside0.mk b10
    have s10 := b10.size
    have t10 := blk_lt hb10
    refine hK.out _ _ (hHeld.step b10) (fun hHeld => ?_)
    clear hb10 b10
    clear hK K
    refine norm_ (a' := ?_) ?_ ?_
    rotate_left
    ·show Act.put _ (some 10) _ = _
     simp only [Act.put,List.setIfInBounds_toArray,List.set_cons_zero,List.set_cons_succ,i64_w,i32_w]
     rfl
    refine one_ (i := 3) (N := some 25) (ba_ 12 1375) rfl rfl (one_of HT_.out (by kernel_rfl)) (by decide) (fun K hK => ?_)
    refine goes_ Try.func121 (by kernel_rfl) rfl #[.slice A1 b.length c1] (by rfl) rfl rfl (by simp only [List.map_toArray,List.map_cons,List.map_nil];rfl) ?_
    refine (spec_l8Labels.calls q A1 c1 b _ _ (Kd.C_below HR1.out hHeld.bel) HC1.out Hb.out).mono ?_
    rintro e w25 ⟨v25,rfl,o25,b25⟩
    have r25 := row_iv (f := fun x => lab b (nodeN b x)) o25 lb
    clear o25
    obtain ⟨g25,k25,rfl⟩ := r25.val
    refine ⟨_,rfl,?_⟩
    have O25 := Aside0.mk r25
    have B25 := Aside0.mk b25
    have s25 := b25.size
    refine hK.out _ _ (hHeld.step b25) (fun hHeld => ?_)
    clear r25 b25
    clear hK K
    refine norm_ (a' := ?_) ?_ ?_
    rotate_left
    ·show Act.put _ (some 25) _ = _
     simp only [Act.put,List.setIfInBounds_toArray,List.set_cons_zero,List.set_cons_succ,i64_w,i32_w]
     rfl
    refine one_ (i := 5) (N := some 27) (ba_ 12 1407) rfl rfl (one_of HT_.out (by kernel_rfl)) (by decide) (fun K hK => ?_)
    refine goes_ Try.func122 (by kernel_rfl) rfl #[.slice A0 a.length c0] (by rfl) rfl rfl (by simp only [List.map_toArray,List.map_cons,List.map_nil];rfl) ?_
    refine (spec_LeftLeaf.calls q A0 c0 a _ _ (Kd.C_below HR0.out hHeld.bel) HC0.out Hc.out).mono ?_
    rintro e w27 ⟨v27,rfl,o27,b27⟩
    have r27 := row_iv (f := fun x => (lfN a x : Int)) o27 la
    clear o27
    obtain ⟨g27,k27,rfl⟩ := r27.val
    refine ⟨_,rfl,?_⟩
    have O27 := Aside0.mk r27
    have B27 := Aside0.mk b27
    have s27 := b27.size
    refine hK.out _ _ (hHeld.step b27) (fun hHeld => ?_)
    clear r27 b27
    clear hK K
    refine norm_ (a' := ?_) ?_ ?_
    rotate_left
    ·show Act.put _ (some 27) _ = _
     simp only [Act.put,List.setIfInBounds_toArray,List.set_cons_zero,List.set_cons_succ,i64_w,i32_w]
     rfl
    refine one_ (i := 7) (N := some 29) (ba_ 12 1535) rfl rfl (one_of HT_.out (by kernel_rfl)) (by decide) (fun K hK => ?_)
    refine goes_ Try.func122 (by kernel_rfl) rfl #[.slice A1 b.length c1] (by rfl) rfl rfl (by simp only [List.map_toArray,List.map_cons,List.map_nil];rfl) ?_
    refine (spec_LeftLeaf.calls q A1 c1 b _ _ (Kd.C_below HR1.out hHeld.bel) HC1.out Hd.out).mono ?_
    rintro e w29 ⟨v29,rfl,o29,b29⟩
    have r29 := row_iv (f := fun x => (lfN b x : Int)) o29 lb
    clear o29
    obtain ⟨g29,k29,rfl⟩ := r29.val
    refine ⟨_,rfl,?_⟩
    have O29 := Aside0.mk r29
    have B29 := Aside0.mk b29
    have s29 := b29.size
    refine hK.out _ _ (hHeld.step b29) (fun hHeld => ?_)
    clear r29 b29
    clear hK K
    refine norm_ (a' := ?_) ?_ ?_
    rotate_left
    ·show Act.put _ (some 29) _ = _
     simp only [Act.put,List.setIfInBounds_toArray,List.set_cons_zero,List.set_cons_succ,i64_w,i32_w]
     rfl
    refine pu_ 9 (some 31) (ba_ 12 2047) rfl rfl (any_of HT_.out (by kernel_rfl)) ?_
    refine one_ (i := 11) (N := none) (ba_ 12 4095) rfl rfl (one_of HT_.out (by kernel_rfl)) (by decide) (fun K hK => ?_)
    refine put_step (by rfl) 134 (.tmp 10) (.tmp 31) (by rfl) g #[.slice (some ⟨g23,0,none⟩) a.length k23,.slice (some ⟨g25,0,none⟩) b.length k25,.slice (some ⟨g27,0,none⟩) a.length k27,.slice (some ⟨g29,0,none⟩) b.length k29,.slice A2 6 c2,.slice A3 6 c3,.slice A4 36 c4] #[.slice none 0 0,.slice none 0 0,.slice none 0 0,.slice none 0 0,.slice none 0 0,.slice none 0 0,.slice none 0 0] 134 (by rfl) (by rfl) (blk_below O10.out (below_step (below_step B25.out B27.out) B29.out)) (by kernel_rfl) rfl (by simp [Value.oneCell']) ?_
    intro w99 hb99 n99
    have hg9 := hg.out
    have O99 := Aside0.mk hb99
    have N99 := Aside0.mk n99
    refine hK.out _ _ (hHeld.store (by omega) (by omega) (by omega) n99) (fun hHeld => ?_)
    clear hb99 n99 hg9
    clear hK K
    refine norm_ (a' := ?_) ?_ ?_
    rotate_left
    ·show Act.put _ (none) _ = _
     simp only [Act.put,List.setIfInBounds_toArray,List.set_cons_zero,List.set_cons_succ,i64_w,i32_w]
     rfl
    refine done_ (done_of HT_.out (by kernel_rfl)) ?_
    refine hK1 _ _ (Met.intro (hJ1 _ _ ?_))
    have hg := hg.out
    repeat apply Exists.intro
    refine ⟨?_,rfl⟩
    rw [HM.out]
    exact all8_meet HTA.out HTB.out HCO.out HR2.out HR3.out HR4.out (by omega) hHeld N99.out (by omega) O99.out (O23.out.below (below_step (below_step (below_step B10.out B25.out) B27.out) B29.out)) (by omega) (O25.out.below (below_step B27.out B29.out)) (by omega) (O27.out.below B29.out) (by omega) O29.out (by omega)
  ·refine box_step (by rfl) (N := 10) (by rfl) (cs := #[.slice none 0 0,.slice none 0 0,.slice none 0 0,.slice none 0 0,.slice none 0 0,.slice none 0 0,.slice none 0 0]) (t := 134) (by first | (go_simp;done) | (go_simp;rfl)) ?_
   intro g hg w10 hb10 b10
   replace hg := Aside0.mk hg
   have O10 := Aside0.mk hb10
   have B10 := Aside0.mk b10
   have s10 := b10.size
   have t10 := blk_lt hb10
   refine hK.out _ _ (hHeld.step b10) (fun hHeld => ?_)
   clear hb10 b10
   clear hK K
   refine norm_ (a' := ?_) ?_ ?_
   rotate_left
   ·show Act.put _ (some 10) _ = _
    simp only [Act.put,List.setIfInBounds_toArray,List.set_cons_zero,List.set_cons_succ,i64_w,i32_w]
    rfl
   refine one_ (i := 1) (N := some 23) (ba_ 12 1367) rfl rfl (one_of HT_.out (by kernel_rfl)) (by decide) (fun K hK => ?_)
   refine goes_ Try.func121 (by kernel_rfl) rfl #[.slice A0 a.length c0] (by rfl) rfl rfl (by simp only [List.map_toArray,List.map_cons,List.map_nil];rfl) ?_
   refine (spec_l8Labels.calls q A0 c0 a _ _ (Kd.C_below HR0.out hHeld.bel) HC0.out Ha.out).mono ?_
   rintro e w23 ⟨v23,rfl,o23,b23⟩
   have r23 := row_iv (f := fun x => lab a (nodeN a x)) o23 la
   clear o23
   obtain ⟨g23,k23,rfl⟩ := r23.val
   refine ⟨_,rfl,?_⟩
   have O23 := Aside0.mk r23
   have B23 := Aside0.mk b23
   have s23 := b23.size
   refine hK.out _ _ (hHeld.step b23) (fun hHeld => ?_)
   clear r23 b23
   clear hK K
   refine norm_ (a' := ?_) ?_ ?_
   rotate_left
   ·show Act.put _ (some 23) _ = _
    simp only [Act.put,List.setIfInBounds_toArray,List.set_cons_zero,List.set_cons_succ,i64_w,i32_w]
    rfl
   refine one_ (i := 3) (N := some 25) (ba_ 12 1375) rfl rfl (one_of HT_.out (by kernel_rfl)) (by decide) (fun K hK => ?_)
   refine goes_ Try.func121 (by kernel_rfl) rfl #[.slice A1 b.length c1] (by rfl) rfl rfl (by simp only [List.map_toArray,List.map_cons,List.map_nil];rfl) ?_
   refine (spec_l8Labels.calls q A1 c1 b _ _ (Kd.C_below HR1.out hHeld.bel) HC1.out Hb.out).mono ?_
   rintro e w25 ⟨v25,rfl,o25,b25⟩
   have r25 := row_iv (f := fun x => lab b (nodeN b x)) o25 lb
   clear o25
   obtain ⟨g25,k25,rfl⟩ := r25.val
   refine ⟨_,rfl,?_⟩
   have O25 := Aside0.mk r25
   have B25 := Aside0.mk b25
   have s25 := b25.size
   refine hK.out _ _ (hHeld.step b25) (fun hHeld => ?_)
   clear r25 b25
   clear hK K
   refine norm_ (a' := ?_) ?_ ?_
   rotate_left
   ·show Act.put _ (some 25) _ = _
    simp only [Act.put,List.setIfInBounds_toArray,List.set_cons_zero,List.set_cons_succ,i64_w,i32_w]
    rfl
   refine one_ (i := 5) (N := some 27) (ba_ 12 1407) rfl rfl (one_of HT_.out (by kernel_rfl)) (by decide) (fun K hK => ?_)
   refine goes_ Try.func122 (by kernel_rfl) rfl #[.slice A0 a.length c0] (by rfl) rfl rfl (by simp only [List.map_toArray,List.map_cons,List.map_nil];rfl) ?_
   refine (spec_LeftLeaf.calls q A0 c0 a _ _ (Kd.C_below HR0.out hHeld.bel) HC0.out Hc.out).mono ?_
   rintro e w27 ⟨v27,rfl,o27,b27⟩
   have r27 := row_iv (f := fun x => (lfN a x : Int)) o27 la
   clear o27
   obtain ⟨g27,k27,rfl⟩ := r27.val
   refine ⟨_,rfl,?_⟩
   have O27 := Aside0.mk r27
   have B27 := Aside0.mk b27
   have s27 := b27.size
   refine hK.out _ _ (hHeld.step b27) (fun hHeld => ?_)
   clear r27 b27
   clear hK K
   refine norm_ (a' := ?_) ?_ ?_
   rotate_left
   ·show Act.put _ (some 27) _ = _
    simp only [Act.put,List.setIfInBounds_toArray,List.set_cons_zero,List.set_cons_succ,i64_w,i32_w]
    rfl
   refine one_ (i := 7) (N := some 29) (ba_ 12 1535) rfl rfl (one_of HT_.out (by kernel_rfl)) (by decide) (fun K hK => ?_)
   refine goes_ Try.func122 (by kernel_rfl) rfl #[.slice A1 b.length c1] (by rfl) rfl rfl (by simp only [List.map_toArray,List.map_cons,List.map_nil];rfl) ?_
   refine (spec_LeftLeaf.calls q A1 c1 b _ _ (Kd.C_below HR1.out hHeld.bel) HC1.out Hd.out).mono ?_
   rintro e w29 ⟨v29,rfl,o29,b29⟩
   have r29 := row_iv (f := fun x => (lfN b x : Int)) o29 lb
   clear o29
   obtain ⟨g29,k29,rfl⟩ := r29.val
   refine ⟨_,rfl,?_⟩
   have O29 := Aside0.mk r29
   have B29 := Aside0.mk b29
   have s29 := b29.size
   refine hK.out _ _ (hHeld.step b29) (fun hHeld => ?_)
   clear r29 b29
   clear hK K
   refine norm_ (a' := ?_) ?_ ?_
   rotate_left
   ·show Act.put _ (some 29) _ = _
    simp only [Act.put,List.setIfInBounds_toArray,List.set_cons_zero,List.set_cons_succ,i64_w,i32_w]
    rfl
   refine pu_ 9 (some 31) (ba_ 12 2047) rfl rfl (any_of HT_.out (by kernel_rfl)) ?_
   refine one_ (i := 11) (N := none) (ba_ 12 4095) rfl rfl (one_of HT_.out (by kernel_rfl)) (by decide) (fun K hK => ?_)
   refine put_step (by rfl) 134 (.tmp 10) (.tmp 31) (by rfl) g #[.slice (some ⟨g23,0,none⟩) a.length k23,.slice (some ⟨g25,0,none⟩) b.length k25,.slice (some ⟨g27,0,none⟩) a.length k27,.slice (some ⟨g29,0,none⟩) b.length k29,.slice A2 6 c2,.slice A3 6 c3,.slice A4 36 c4] #[.slice none 0 0,.slice none 0 0,.slice none 0 0,.slice none 0 0,.slice none 0 0,.slice none 0 0,.slice none 0 0] 134 (by rfl) (by rfl) (blk_below O10.out (below_step (below_step (below_step B23.out B25.out) B27.out) B29.out)) (by kernel_rfl) rfl (by simp [Value.oneCell']) ?_
   intro w99 hb99 n99
   have hg9 := hg.out
   have O99 := Aside0.mk hb99
   have N99 := Aside0.mk n99
   refine hK.out _ _ (hHeld.store (by omega) (by omega) (by omega) n99) (fun hHeld => ?_)
   clear hb99 n99 hg9
   clear hK K
   refine norm_ (a' := ?_) ?_ ?_
   rotate_left
   ·show Act.put _ (none) _ = _
    simp only [Act.put,List.setIfInBounds_toArray,List.set_cons_zero,List.set_cons_succ,i64_w,i32_w]
    rfl
   refine done_ (done_of HT_.out (by kernel_rfl)) ?_
   refine hK1 _ _ (Met.intro (hJ1 _ _ ?_))
   have hg := hg.out
   repeat apply Exists.intro
   refine ⟨?_,rfl⟩
   rw [HM.out]
   exact all8_meet HTA.out HTB.out HCO.out HR2.out HR3.out HR4.out (by omega) hHeld N99.out (by omega) O99.out (O23.out.below (below_step (below_step B25.out B27.out) B29.out)) (by omega) (O25.out.below (below_step B27.out B29.out)) (by omega) (O27.out.below B29.out) (by omega) O29.out (by omega)
 case rest =>
  clear HN s0 s1 h0 h1 hu
  obtain ⟨g,a0,a1,a2,a3,a4,a5,a6,k0,k1,k2,k3,rfl,HY,HT⟩ := hcut
  have sb := Aside0.mk (blk_lt HT.out)
  go_wp2_with (first | (go_at_call 123;((with_reducible refine (spec_KeyRoots.calls q A0 c0 a _ _ (Kd.C_below HR0.out HY.out.bel) HC0.out Hka.out).mono ?_));rintro e w4 ⟨v4,rfl,o4,b4⟩;rw [krL_range] at o4;have r4 := row_iv o4 (kR_pos HL.out.1);obtain ⟨ga,ka,rfl⟩ := r4.val;have HA := Aside0.mk (r4.kc sb.out);replace HY := Aside0.mk (HY.out.only (Only.of_below b4 bt));replace HT := Aside0.mk (blk_below HT.out b4);have sb4 := Aside0.mk (Nat.lt_of_lt_of_le sb.out b4.size);clear o4 b4 r4) | (go_at_call 123;((with_reducible refine (spec_KeyRoots.calls q A1 c1 b _ _ (Kd.C_below HR1.out HY.out.bel) HC1.out Hkb.out).mono ?_));rintro e w5 ⟨v5,rfl,o5,b5⟩;rw [krL_range] at o5;have r5 := row_iv o5 (kR_pos HL.out.2.1);obtain ⟨gb,kb,rfl⟩ := r5.val;have HB := Aside0.mk (r5.kc sb4.out);replace HA := Aside0.mk (HA.out.only (Only.of_below b5 bt));replace HY := Aside0.mk (HY.out.only (Only.of_below b5 bt));replace HT := Aside0.mk (blk_below HT.out b5);clear o5 b5 r5))
  rw [HEA.out] at HA ⊢
  rw [HEB.out] at HB ⊢
  obtain ⟨na,hna⟩ : ∃ m,m = (kR M.la a.length a.length).length := ⟨_,rfl⟩
  obtain ⟨nb,hnb⟩ : ∃ m,m = (kR M.lb b.length b.length).length := ⟨_,rfl⟩
  rw [← hna] at HA ⊢
  rw [← hnb] at HB ⊢
  have HNA := Aside0.mk (And.intro hna (show 0 < na ∧ na ≤ 24 by have h1 := kR_len M.la a.length a.length;have h2 := kR_pos (l := M.la) HP.out.pA;have := HP.out.hA;omega))
  have HNB := Aside0.mk (And.intro hnb (show 0 < nb ∧ nb ≤ 24 by have h1 := kR_len M.lb b.length b.length;have h2 := kR_pos (l := M.lb) HP.out.pB;have := HP.out.hB;omega))
  clear hna hnb
  go_loopg [9,13] na (fun gg v9 v13 wr => ∃ (i : Nat) (T : List Int) (o : Nat → Nat → Int),v13 = .int .i64 (i : Int) ∧ i ≤ na ∧ na - i ≤ gg ∧ Aside0 (Y8 M a.length b.length (fun p => (lab a (nodeN a p)).toNat) (fun q => (lab b (nodeN b q)).toNat) w g bt a0 a1 a2 a3 a4 a5 a6 k0 k1 k2 k3 c2 c3 c4 wr) ∧ Aside0 (KC ga na bt (kAt M.la a.length) wr) ∧ Aside0 (KC gb nb bt (kAt M.lb b.length) wr) ∧ Aside0 (Blk wr bt T) ∧ Aside0 (Trs a.length b.length o T) ∧ Aside0 (Ted.Done M a.length b.length o (kAt M.la a.length i) (kAt M.lb b.length 0)) ∧ Aside0 (i = 0 ∨ La8 M a.length b.length bt (i - 1) (nb - 1) v9 wr))
  case atStart => exact ⟨0,_,_,rfl,Nat.zero_le _,by omega,HY,HA,HB,HT,⟨blk_all nt HNT.out⟩,⟨done_start _⟩,⟨Or.inl rfl⟩⟩
  case round =>
   clear HY HA HB HT
   obtain ⟨i,T,o,rfl,hi1,hgg,HY,HA,HB,HT,HU,HD,HLa⟩ := hrel
   by_cases hi : i < na
   ·have b1 : ((i : Int) < (na : Int)) = True := eq_true (by omega)
    have HI := Aside0.mk (And.intro hi1 (And.intro hgg hi))
    clear hi1 hgg hi
    go_wp2
    clear b1
    go_loopg [9,14] nb (fun gg v9 v14 wr => ∃ (j : Nat) (T : List Int) (o : Nat → Nat → Int),v14 = .int .i64 (j : Int) ∧ j ≤ nb ∧ nb - j ≤ gg ∧ Aside0 (Y8 M a.length b.length (fun p => (lab a (nodeN a p)).toNat) (fun q => (lab b (nodeN b q)).toNat) w g bt a0 a1 a2 a3 a4 a5 a6 k0 k1 k2 k3 c2 c3 c4 wr) ∧ Aside0 (KC ga na bt (kAt M.la a.length) wr) ∧ Aside0 (KC gb nb bt (kAt M.lb b.length) wr) ∧ Aside0 (Blk wr bt T) ∧ Aside0 (Trs a.length b.length o T) ∧ Aside0 (Ted.Done M a.length b.length o (kAt M.la a.length i) (kAt M.lb b.length j)) ∧ Aside0 (j = 0 ∨ La8 M a.length b.length bt i (j - 1) v9 wr))
    case atStart => exact ⟨0,_,_,rfl,Nat.zero_le _,by omega,HY,HA,HB,HT,HU,HD,⟨Or.inl rfl⟩⟩
    case round =>
     clear HY HA HB HT HU HD HLa
     obtain ⟨j,T,o,rfl,hj1,hgg,HY,HA,HB,HT,HU,HD,HLa⟩ := hrel
     by_cases hj : j < nb
     ·obtain ⟨I,hI⟩ : ∃ I,I = kAt M.la a.length i := ⟨_,rfl⟩
      obtain ⟨J,hJ⟩ : ∃ J,J = kAt M.lb b.length j := ⟨_,rfl⟩
      have e4 := HA.out.c i HI.out.2.2
      have e5 := HB.out.c j hj
      rw [← hI] at e4
      rw [← hJ] at e5
      have hi := HI.out.2.2
      have hna := HNA.out.2.2
      have hnb := HNB.out.2.2
      have b1 : ((j : Int) < (nb : Int)) = True := eq_true (by omega)
      have b2 : (0 ≤ (i : Int)) = True := eq_true (by omega)
      have b3 : ((i : Int) < (na : Int)) = True := eq_true (by omega)
      have b4 : (0 ≤ (j : Int)) = True := eq_true (by omega)
      obtain ⟨jn,hjn⟩ : ∃ z,z = j + 1 := ⟨_,rfl⟩
      have f2 : Vi _ _ := vi (w_inc (a := j) (b := jn) hjn.symm (by omega))
      have HJ := Aside0.mk (And.intro hj1 (And.intro hgg (And.intro hj (And.intro hI (And.intro hJ hjn)))))
      obtain ⟨y0,y1,y2,y3,y4,y5,y6⟩ := HY.out.boxes
      clear hj1 hgg hj hI hJ hi hna hnb hjn HLa
      go_wp2
      go_still_tail 10,(by kernel_rfl)
      change wpList _ _ _ _ _ wr.drew
      replace HY := Aside0.mk (HY.out.only ((Only.refl bt wr).drew))
      replace HA := Aside0.mk (HA.out.only ((Only.refl bt wr).drew))
      replace HB := Aside0.mk (HB.out.only ((Only.refl bt wr).drew))
      replace HT : Aside0 (Blk wr.drew bt T) := ⟨HT.out⟩
      clear y0 y1 y2 y3 y4 y5 y6 e4 e5 b1 b2 b3 b4
      generalize wr.drew = w5 at HY HA HB HT ⊢
      go_wp2_with (go_at_call 124;refine (step8 HP.out (by have := HNA.out.1;have := HI.out;omega) (by have := HNB.out.1;have := HJ.out;omega) HJ.out.2.2.2.1 HJ.out.2.2.2.2.1 HNT.out HY.out HT.out HU.out HD.out).mono ?_;rintro e w6 ⟨v6,T6,o6,rfl,hO,hT,hTr,hDn,hLa⟩;replace HY := Aside0.mk (HY.out.only hO);replace HA := Aside0.mk (HA.out.only hO);replace HB := Aside0.mk (HB.out.only hO);replace HT := Aside0.mk hT;replace HU := Aside0.mk hTr;replace HD := Aside0.mk hDn;have HLa := Aside0.mk hLa;clear hO hT hTr hDn hLa)
      obtain ⟨hj1,hgg,hj,hI,hJ,hjn⟩ := HJ.out
      go_roundg (nb - jn)
      case measure => omega
      case rel => exact ⟨jn,_,_,(by first | rfl | exact f2 | exact (congrArg (Value.int .i64) (i64_w _)).trans f2),by omega,Nat.le_refl _,HY,HA,HB,HT,HU,by rw [hjn];exact HD,⟨Or.inr (by rw [hjn];exact HLa.out)⟩⟩
     ·obtain rfl : j = nb := by omega
      have hi := HI.out.2.2
      have hna := HNA.out.2.2
      have b1 : ((j : Int) < (j : Int)) = False := eq_false (by omega)
      obtain ⟨i2,hi2⟩ : ∃ z,z = i + 1 := ⟨_,rfl⟩
      have f2 : Vi _ _ := vi (w_inc (a := i) (b := i2) hi2.symm (by omega))
      have HI2 := Aside0.mk hi2
      clear hj1 hgg hj hi hna hi2
      go_wp2
      obtain ⟨hi1,hgg,hi⟩ := HI.out
      have hi2 := HI2.out
      go_roundg (na - i2)
      case measure => omega
      case rel => exact ⟨i2,_,_,(by first | rfl | exact f2 | exact (congrArg (Value.int .i64) (i64_w _)).trans f2),by omega,Nat.le_refl _,HY,HA,HB,HT,HU,⟨by rw [hi2];exact done_row (by have := HNA.out.1;omega) HD.out (by rw [kAt_end (by have := HNB.out.1;omega)];exact Nat.le_refl _)⟩,⟨Or.inr (by rw [hi2];exact HLa.out.resolve_left (by have := HNB.out.2.1;omega))⟩⟩
   ·obtain rfl : i = na := by omega
    have b1 : ((i : Int) < (i : Int)) = False := eq_false (by omega)
    clear hi hi1 hgg
    go_wp2
    obtain ⟨bf,L,rfl,hbf,hL,hTab⟩ := (HLa.out.resolve_left (by have := HNA.out.2.1;omega)).done HP.out (by have := HNA.out;omega) (by have := HNB.out;omega)
    rw [← HNF.out]
    exact bodyPost_ret (results_tt (u := 6) (v := 7) rfl _ _) rfl ⟨bt,bf,T,L,rfl,HY.out.bel,HX.out,hbf,HT.out,HU.out.ext (fun p q hp hq => (Ted.Done.all (I := kAt M.la a.length i) (fun p q x y hp hq hx hy hl => HD.out p q x y hp hq hx hy (by omega)) (fun x hx => by have := hx.lt;rw [kAt_end (by have := HNA.out.1;omega)];exact this) hp hq).symm),hL,by rw [HNF.out];exact hTab⟩
end Go.Proofs.Ytngphdmbjenkaaa.X
namespace Go.Proofs.Ytngphdmbjenkaaa.X
open Go.RowKit Go.Proofs.YtngphdmbjenkaaaW.PrintWords Go.Proofs.YtngphdmbjenkaaaW.PrintLast Go.Proofs.YtngphdmbjenkaaaW.PrintMore Go.Proofs.Ytngphdmbjenkaaa.Q
set_option linter.unusedVariables false
set_option linter.unusedSimpArgs false
theorem Blk.own {W : World} {b base : Nat} {L : List Int} (h : Blk W b L) (hb : base ≤ b) (hl : L.length ≤ 1000000) : Kd.R (Kd.int .i64) 3 W base (fun _ => True) (.slice (some ⟨b,0,none⟩) L.length L.length) L := by
 refine Kd.R_of_own (enc := Value.int .i64) (h1 := fun _ => rfl) ?_ (fun _ _ => trivial)
 have e : (nums .i64 L).length = L.length := nums_length _ _
 refine ⟨by show (nums .i64 L).length = L.length * 1;omega,.inr ⟨b,L.length,(nums .i64 L).toArray,rfl,hb,h,Nat.le_refl _,by unfold maxLen;omega,?_,?_⟩⟩
 ·show (nums .i64 L).toArray.size = L.length * 1
  rw [List.size_toArray];omega
 show List.take (L.length * 1) (nums .i64 L) = nums .i64 L
 rw [Nat.mul_one,← e,List.take_length]
noncomputable def pre8 (q : Nat) (a b : List NodeI) (d n r : List Int) : Option Bool :=
 (preF q a b d n r).bind fun t => if t = true then (spec_KeyRoots.f q a).bind fun _ => (spec_KeyRoots.f q b).bind fun _ => (spec_RelCost.f q d n r (rd_T77 a 0).f0 (rd_T77 b 0).f0).bind fun _ => some true else some false
def rel0 (a b : List NodeI) (r : List Int) : Int := r.getD (6 * (lab a 0).toNat + (lab b 0).toNat) 0
theorem rel0_ev {a b : List NodeI} {d n r : List Int} (ta : Tr a) (tb : Tr b) (hc : Co d n r) : Ev (fun k => spec_RelCost.f k d n r (rd_T77 a 0).f0 (rd_T77 b 0).f0) (rel0 a b r) := by
 have ca := ta.chk 0 ta.len1
 have cb := tb.chk 0 tb.len1
 have e1 : (rd_T77 a 0).f0 = lab a 0 := rd_lab a 0
 have e2 : (rd_T77 b 0).f0 = lab b 0 := rd_lab b 0
 rw [e1,e2]
 exact specRel_ev hc ca.l0 ca.l5 cb.l0 cb.l5
theorem pre8_ev {a b : List NodeI} {d n r : List Int} (h : Fit a b d n r) : Ev (fun k => pre8 k a b d n r) (okAB a b d n r) := by
 unfold pre8
 refine Ev.bind (preF_ev h) ?_
 cases ho : okAB a b d n r with
 | false => exact Ev.ifF (by simp) (Ev.now _)
 | true =>
  obtain ⟨ta,tb,hc⟩ := okAB_iff.1 ho
  exact Ev.ifT rfl (Ev.bind (specKeyRoots_ev ta) (Ev.bind (specKeyRoots_ev tb) (Ev.bind (rel0_ev ta tb hc) (Ev.now _))))
theorem pre8_told {q : Nat} {a b : List NodeI} {d n r : List Int} {t : Bool} (h : pre8 q a b d n r = some t) : preF q a b d n r = some t ∧
  (t = true → spec_KeyRoots.f q a = some (krL a) ∧ spec_KeyRoots.f q b = some (krL b) ∧ spec_RelCost.f q d n r (rd_T77 a 0).f0 (rd_T77 b 0).f0 = some (rel0 a b r)) := by
 unfold pre8 at h
 obtain ⟨u,hu,h⟩ := Option.bind_eq_some_iff.mp h
 by_cases c : u = true
 ·rw [if_pos c] at h
  obtain ⟨x1,h1,h⟩ := Option.bind_eq_some_iff.mp h
  obtain ⟨x2,h2,h⟩ := Option.bind_eq_some_iff.mp h
  obtain ⟨x3,h3,h⟩ := Option.bind_eq_some_iff.mp h
  obtain rfl := Option.some.inj h
  obtain ⟨_,eu,_⟩ := preF_told hu
  obtain ⟨ta,tb,hc⟩ := okAB_iff.1 (eu.symm.trans c)
  refine ⟨by rw [hu,c],fun _ => ⟨?_,?_,?_⟩⟩
  ·rw [h1,ev_uniq (Ev.of (spec_KeyRoots.mono a) h1) (specKeyRoots_ev ta)]
  ·rw [h2,ev_uniq (Ev.of (spec_KeyRoots.mono b) h2) (specKeyRoots_ev tb)]
  ·rw [h3,ev_uniq (Ev.of (spec_RelCost.mono _ _ _ _ _) h3) (rel0_ev ta tb hc)]
 ·rw [if_neg c] at h
  obtain rfl := Option.some.inj h
  have e : u = false := by simpa using c
  subst e
  exact ⟨hu,fun h => by cases h⟩
end Go.Proofs.Ytngphdmbjenkaaa.X
namespace Go.Proofs.Ytngphdmbjenkaaa.X
open Go.RowKit Go.Proofs.YtngphdmbjenkaaaW.PrintWords Go.Proofs.YtngphdmbjenkaaaW.PrintLast Go.Proofs.YtngphdmbjenkaaaW.PrintMore Go.Proofs.Ytngphdmbjenkaaa.Q
set_option linter.unusedVariables false
set_option linter.unusedSimpArgs false
noncomputable def spec_RootDist.f (q : Nat) (a b : List NodeI) (d n r : List Int) : Option Int := (pre8 q a b d n r).bind fun _ => some (rdB a b d n r)
theorem spec_RootDist.ev {a b : List NodeI} {d n r : List Int} (h : Fit a b d n r) : Ev (fun q => spec_RootDist.f q a b d n r) (rdB a b d n r) := by
 unfold spec_RootDist.f
 exact Ev.bind (pre8_ev h) (Ev.now _)
set_option maxHeartbeats 4000000 in
set_option maxRecDepth 100000 in
theorem spec_RootDist.calls (q : Nat) (A0 : Option Addr) (c0 : Nat) (l0 : List NodeI) (A3 : Option Addr) (c3 : Nat) (l3 : List NodeI) (A6 : Option Addr) (c6 : Nat) (d : List Int) (A7 : Option Addr) (c7 : Nat) (n : List Int) (A8 : Option Addr) (c8 : Nat) (r : List Int) (res : Int) (w : World)
  (hr0 : Kd.C k77 w A0 l0.length l0) (hc0 : l0.length ≤ c0) (hr3 : Kd.C k77 w A3 l3.length l3) (hc3 : l3.length ≤ c3) (hr6 : Kd.C (Kd.int .i64) w A6 d.length d) (hc6 : d.length ≤ c6) (hr7 : Kd.C (Kd.int .i64) w A7 n.length n) (hc7 : n.length ≤ c7) (hr8 : Kd.C (Kd.int .i64) w A8 r.length r) (hc8 : r.length ≤ c8)
  (h : spec_RootDist.f q l0 l3 d n r = some res) :
  Calls Try.prog 28 #[.slice A0 l0.length c0,.slice A3 l3.length c3,.agg #[.slice A6 d.length c6,.slice A7 n.length c7,.slice A8 r.length c8]] w fun e w' => e = .returned (.int .i64 res) ∧ Below w.heap.size w w' := by
 unfold spec_RootDist.f at h
 obtain ⟨t,ht,h⟩ := Option.bind_eq_some_iff.mp h
 obtain rfl := Option.some.inj h
 clear h
 obtain ⟨htf,hkr⟩ := pre8_told ht
 obtain ⟨hth,eok,hpre⟩ := preF_told htf
 have HT : Aside0 (∀ W,Below w.heap.size w W → _) := ⟨fun W hb => spec_l8Three.calls q A0 c0 l0 A3 c3 l3 A6 c6 d A7 c7 n A8 c8 r t W (Kd.C_below hr0 hb) hc0 (Kd.C_below hr3 hb) hc3 (Kd.C_below hr6 hb) hc6 (Kd.C_below hr7 hb) hc7 (Kd.C_below hr8 hb) hc8 hth⟩
 clear ht hth htf
 have HN := Aside0.mk (NS.start' (w := w) (ty := 27) (.slice A6 d.length c6) (.slice A7 n.length c7) (.slice A8 r.length c8))
 have hu := Try.underlying27
 cases ho : okAB l0 l3 d n r with
 | false =>
  have HV : rdB l0 l3 d n r = -1 := if_neg (by rw [ho];simp)
  rw [HV]
  obtain rfl : t = false := eok.trans ho
  clear ho eok HV hpre hkr
  go_enter Try.func28,Try.ntmps28
  go_wp2_with (first | (go_at_call 73;refine (HT.out _ HN.out.bel).mono ?_;rintro e w6 ⟨rfl,hb⟩;replace HN := Aside0.mk (HN.out.step hb);clear hb))
  go_ret
  exact ⟨rfl,HN.out.bel⟩
 | true =>
  obtain rfl : t = true := eok.trans ho
  obtain ⟨p1,p2,p3,p4⟩ := hpre rfl
  obtain ⟨p5,p6,p7⟩ := hkr rfl
  obtain ⟨ta,tb,hco⟩ := okAB_iff.1 ho
  have la := ta.len1
  have lb := tb.len1
  have a24 := ta.len24
  have b24 := tb.len24
  have HV : rdB l0 l3 d n r = Ted.D (msOf l0 l3 d n r) 0 (l0.length - 1) 0 (l3.length - 1) + rel0 l0 l3 r := by
   rw [show rdB l0 l3 d n r = Ted.rootD (msOf l0 l3 d n r) l0.length l3.length from if_pos ho,Ted.rootD]
   congr 1
   simp only [msOf,nodeN_last ta,nodeN_last tb,rel0]
  have hD := D_small (msOf_small (a := l0) (b := l3) hco) 0 (l0.length - 1) 0 (l3.length - 1)
  have hrel := price_at hco.rp (6 * (lab l0 0).toNat + (lab l3 0).toNat)
  rw [HV]
  have HNEW : Aside0 (∀ W,Below w.heap.size w W → _) := ⟨fun W hb => all8 q A0 c0 l0 A3 c3 l3 A6 c6 d A7 c7 n A8 c8 r W ta tb hco (Kd.C_below hr0 hb) hc0 (Kd.C_below hr3 hb) hc3 (Kd.C_below hr6 hb) hc6 (Kd.C_below hr7 hb) hc7 (Kd.C_below hr8 hb) hc8 p1 p2 p3 p4 p5 p6⟩
  have HREL : Aside0 (∀ W,Below w.heap.size w W → _) := ⟨fun W hb => spec_RelCost.calls q A6 c6 d A7 c7 n A8 c8 r _ _ _ W (Kd.C_below hr6 hb) hc6 (Kd.C_below hr7 hb) hc7 (Kd.C_below hr8 hb) hc8 p7⟩
  obtain ⟨A1,hA1⟩ : ∃ z,z = l0.length - 1 := ⟨_,rfl⟩
  obtain ⟨B1,hB1⟩ : ∃ z,z = l3.length - 1 := ⟨_,rfl⟩
  obtain ⟨wd,hwd⟩ : ∃ z,z = l3.length + 1 := ⟨_,rfl⟩
  obtain ⟨nf,hnf⟩ : ∃ z,z = (l0.length + 1) * wd := ⟨_,rfl⟩
  obtain ⟨k1,hk1⟩ : ∃ z,z = A1 * wd := ⟨_,rfl⟩
  obtain ⟨k2,hk2⟩ : ∃ z,z = k1 + l3.length := ⟨_,rfl⟩
  obtain ⟨ix,hix⟩ : ∃ z,z = k1 + B1 := ⟨_,rfl⟩
  obtain ⟨zd,hzd⟩ : ∃ z,z = Ted.D (msOf l0 l3 d n r) 0 (l0.length - 1) 0 (l3.length - 1) := ⟨_,rfl⟩
  obtain ⟨zr,hzr⟩ : ∃ z,z = rel0 l0 l3 r := ⟨_,rfl⟩
  have hnf2 : nf ≤ 676 := by rw [hnf];exact mul26 (by omega) (by omega)
  have hlt : ix < nf := by have := two_lt (a := l0.length + 1) (b := wd) (x := A1) (y := B1) (by omega) (by omega);omega
  rw [← hzd,← hzr]
  rw [← hzr] at HREL
  rw [← hzd] at hD
  have g1 : Vi _ _ := vi (w_inc (a := l3.length) (b := wd) hwd.symm (by omega))
  have g2 := iw (w_dec (a := A1) (b := l0.length) (by omega) (by omega))
  have g3 := iw (w_mul (a := A1) (b := wd) hk1 (by omega))
  have g4 := iw (w_add (a := k1) (b := l3.length) hk2.symm (by omega))
  have g5 := iw (w_dec (a := ix) (b := k2) (by omega) (by omega))
  have g6 : IntKind.i64.wrap (zd + zr) = zd + zr := iw (wid (by rw [hzr];unfold rel0;omega) (by rw [hzr];unfold rel0;omega))
  have b1 : (0 ≤ (ix : Int)) = True := eq_true (by omega)
  have b2 : ((ix : Int) < (nf : Int)) = True := eq_true (by omega)
  have b3 : ((0 : Int) < (l0.length : Int)) = True := eq_true (by omega)
  have b4 : ((0 : Int) < (l3.length : Int)) = True := eq_true (by omega)
  have b5 : (0 < l0.length) = True := eq_true la
  have b6 : (0 < l3.length) = True := eq_true lb
  have HTX := Aside0.mk (And.intro hr0 (And.intro hr3 (And.intro hA1 (And.intro hB1 (And.intro hwd (And.intro hnf (And.intro hk1 (And.intro hix (And.intro hzd hlt)))))))))
  have HL := Aside0.mk (And.intro la lb)
  clear p1 p2 p3 p4 p5 p6 p7 eok hpre hkr ho HV hD hrel hA1 hB1 hwd hnf hk1 hk2 hix hzd hzr hnf2 hlt a24 b24 hr0 hr3
  go_enter Try.func28,Try.ntmps28
  go_wp2_with (first | (go_at_call 73;refine (HT.out _ HN.out.bel).mono ?_;rintro e w6 ⟨rfl,hb⟩;replace HN := Aside0.mk (HN.out.step hb);have y0 := HN.out.c0;have y1 := HN.out.c1;have y2 := HN.out.c2;clear hb) | (go_at_call 74;refine (HNEW.out _ HN.out.bel).mono ?_;rw [show l3.length + 1 = wd from HTX.out.2.2.2.2.1.symm,show (l0.length + 1) * wd = nf from HTX.out.2.2.2.2.2.1.symm];rintro e w9 ⟨bt,bf,T,L,rfl,hb,hbt,hbf,hT,hTr,hL,hTab⟩;replace HN := Aside0.mk (HN.out.step hb);have HX := Aside0.mk (And.intro hL hTab);clear hb hbt hbf hT hTr hL hTab y0 y1 y2))
  have z0 : w9.cell? ⟨bf,ix,none⟩ = some (.int .i64 zd) := by
   obtain ⟨hL,hTab⟩ := HX.out
   obtain ⟨hr0,hr3,hA1,hB1,hwd,hnf,hk1,hix,hzd,hlt⟩ := HTX.out
   have h1 := hL.cell (n := ix) (by rw [hTab.len];exact hlt)
   have h2 := hTab.val A1 B1 (by omega) (by omega)
   rw [← hk1,← hix,Nat.zero_add,Nat.zero_add,hA1,hB1,← hzd] at h2
   rw [h1,h2]
  obtain ⟨ad,rfl,z1,_⟩ := at_T77 (Kd.C_below HTX.out.1 HN.out.bel) 0 (by omega) (by have := HL.out;omega)
  obtain ⟨ad',rfl,z2,_⟩ := at_T77 (Kd.C_below HTX.out.2.1 HN.out.bel) 0 (by omega) (by have := HL.out;omega)
  have y0 := HN.out.c0
  have y1 := HN.out.c1
  have y2 := HN.out.c2
  generalize (rd_T77 l0 0).f0 = xa at HREL z1
  generalize (rd_T77 l3 0).f0 = xb at HREL z2
  have ea : ∀ x : Addr,x.add 0 = x := fun x => by unfold Addr.add;split <;> simp_all
  replace z1 : w9.cell? ad = some (.int .i64 xa) := by rw [← ea ad];exact z1
  replace z2 : w9.cell? ad' = some (.int .i64 xb) := by rw [← ea ad'];exact z2
  clear ea
  go_wp2
  go_region_held3 (fun w' => w'.cell? ⟨bf,ix,none⟩ = some (.int .i64 zd) ∧ w'.cell? ad = some (.int .i64 xa) ∧ w'.cell? ad' = some (.int .i64 xb) ∧ w'.cell? ⟨w.heap.size,0,none⟩ = some (.slice A6 d.length c6) ∧ w'.cell? ⟨w.heap.size,1,none⟩ = some (.slice A7 n.length c7) ∧ w'.cell? ⟨w.heap.size,2,none⟩ = some (.slice A8 r.length c8)) (first | exact ⟨z0,z1,z2,y0,y1,y2⟩) ((go_at_call 75;refine (HREL.out _ (below_drew HN.out.bel)).mono ?_;rintro e w10 ⟨rfl,hb⟩;replace HN := Aside0.mk ((HN.out.step (w2 := w9.drew) (below_drew (Below.refl _ _))).step hb);replace z0 := pw_cell_below hb z0;replace z1 := pw_cell_below hb z1;replace z2 := pw_cell_below hb z2;clear y0 y1 y2;have y0 := HN.out.c0;have y1 := HN.out.c1;have y2 := HN.out.c2;clear hb))
  go_wp2
  go_ret
  exact ⟨rfl,HN.out.bel⟩
end Go.Proofs.Ytngphdmbjenkaaa.X
namespace Go.Proofs.Ytngphdmbjenkaaa.X
open Go.RowKit Go.Proofs.YtngphdmbjenkaaaW.PrintWords Go.Proofs.YtngphdmbjenkaaaW.PrintLast Go.Proofs.YtngphdmbjenkaaaW.PrintMore Go.Proofs.Ytngphdmbjenkaaa.Q
set_option linter.unusedVariables false
set_option linter.unusedSimpArgs false
theorem KeepS.mono {S T : Nat → Prop} {W W' : World} (h : KeepS S W W') (k : ∀ i,S i → T i) : KeepS T W W' := ⟨h.os,h.tape,h.output,h.size,fun i hi hn => h.block i hi (fun z => hn (k i z))⟩
theorem RsI.sub {M : Ted.Ms} {A B : Nat} {S T : Nat → Prop} {a2 a3 a4 a5 a6 : Addr} {ar : Nat → Addr} {cr : Nat → Nat} {W : World} (h : RsI M A B S a2 a3 a4 a5 a6 ar cr W) (k : ∀ i,T i → S i) : RsI M A B T a2 a3 a4 a5 a6 ar cr W :=
 ⟨h.r2,h.r3,h.r4,h.r5,h.r6,h.r7,fun z => h.n2 (k _ z),fun z => h.n3 (k _ z),fun z => h.n4 (k _ z),fun z => h.n5 (k _ z),fun z => h.n6 (k _ z),fun p hp z => h.n7 p hp (k _ z)⟩
structure YI (M : Ted.Ms) (A B : Nat) (W : World) (g ob : Nat) (os : Nat → Nat) (vA vB : Value) (a2 a3 a4 a5 a6 : Addr) (ar : Nat → Addr) (cr : Nat → Nat) (c2 c3 c4 c5 c6 : Nat) (G : Nat → List Int) (w' : World) : Prop where
 box : w'.heap[g]? = some (.cells #[vA,vB,.slice (some a2) A c2,.slice (some a3) B c3,.slice (some a4) A c4,.slice (some a5) B c5,.slice (some a6) A c6] 92 (0,0))
 t : Rw w' ob os A B G
 bel : Below W.heap.size W w'
 rs : RsI M A B (fun k => W.heap.size ≤ k) a2 a3 a4 a5 a6 ar cr w'
 gl : W.heap.size ≤ g
 ol : W.heap.size ≤ ob
 tl : ∀ p,p < A → W.heap.size ≤ os p
 gt : ∀ p,p < A → g ≠ os p
section
variable {M : Ted.Ms} {A B : Nat} {W : World} {g ob : Nat} {os : Nat → Nat} {vA vB : Value} {a2 a3 a4 a5 a6 : Addr} {ar : Nat → Addr} {cr : Nat → Nat} {c2 c3 c4 c5 c6 : Nat} {G G' : Nat → List Int} {w w' : World}
theorem YI.boxes (H : YI M A B W g ob os vA vB a2 a3 a4 a5 a6 ar cr c2 c3 c4 c5 c6 G w) : w.cell? ⟨g,0,none⟩ = some vA ∧ w.cell? ⟨g,1,none⟩ = some vB ∧ w.cell? ⟨g,2,none⟩ = some (.slice (some a2) A c2) ∧ w.cell? ⟨g,3,none⟩ = some (.slice (some a3) B c3) ∧ w.cell? ⟨g,4,none⟩ = some (.slice (some a4) A c4) ∧ w.cell? ⟨g,5,none⟩ = some (.slice (some a5) B c5) ∧ w.cell? ⟨g,6,none⟩ = some (.slice (some a6) A c6) :=
 ⟨(blk_cell H.box 0).trans rfl,(blk_cell H.box 1).trans rfl,(blk_cell H.box 2).trans rfl,(blk_cell H.box 3).trans rfl,(blk_cell H.box 4).trans rfl,(blk_cell H.box 5).trans rfl,(blk_cell H.box 6).trans rfl⟩
theorem YI.below (H : YI M A B W g ob os vA vB a2 a3 a4 a5 a6 ar cr c2 c3 c4 c5 c6 G w) (k : Below w.heap.size w w') : YI M A B W g ob os vA vB a2 a3 a4 a5 a6 ar cr c2 c3 c4 c5 c6 G w' :=
 ⟨blk_below H.box k,H.t.below k,below_step H.bel k,H.rs.keep (KeepS.of_below k),H.gl,H.ol,H.tl,H.gt⟩
theorem YI.fill (H : YI M A B W g ob os vA vB a2 a3 a4 a5 a6 ar cr c2 c3 c4 c5 c6 G w) (k : KeepS (fun k => ∃ p,p < A ∧ k = os p) w w') (t : Rw w' ob os A B G') : YI M A B W g ob os vA vB a2 a3 a4 a5 a6 ar cr c2 c3 c4 c5 c6 G' w' := by
 have hs := H.bel.size
 refine ⟨(k.block g (blk_lt H.box) (fun ⟨p,hp,e⟩ => H.gt p hp e)).trans H.box,t,⟨k.os.trans H.bel.os,k.tape.trans H.bel.tape,k.output.trans H.bel.output,Nat.le_trans hs k.size,fun i hi => (k.block i (by omega) (fun ⟨p,hp,e⟩ => by have := H.tl p hp;omega)).trans (H.bel.block i hi)⟩,H.rs.keep (k.mono fun i ⟨p,hp,e⟩ => by have := H.tl p hp;show W.heap.size ≤ i;omega),H.gl,H.ol,H.tl,H.gt⟩
theorem MkI.doneY {bs : Nat → Nat} (H : MkI W g ob bs A B A #[vA,vB,.slice (some a2) A c2,.slice (some a3) B c3,.slice (some a4) A c4,.slice (some a5) B c5,.slice (some a6) A c6] w) (rs : RsI M A B (fun k => W.heap.size ≤ k) a2 a3 a4 a5 a6 ar cr W) :
  YI M A B W g ob bs vA vB a2 a3 a4 a5 a6 ar cr c2 c3 c4 c5 c6 (fun _ => List.replicate B 0) w := by
 have gb := H.gb
 have gl := H.gl
 refine ⟨H.box,⟨H.top,H.row,fun _ _ => List.length_replicate,fun r s hr hs e => ?_,fun r hr => by have := H.lt r hr;omega⟩,H.bel,rs.keep (KeepS.of_below H.bel),gl,by omega,fun r hr => by have := H.lt r hr;omega,fun r hr => by have := H.lt r hr;omega⟩
 rcases Nat.lt_trichotomy r s with c | c | c
 ·have := H.mono r s c hs;omega
 ·exact c
 ·have := H.mono s r c hr;omega
end
structure KI (A : Nat) (os : Nat → Nat) (g n : Nat) (f : Nat → Nat) (w : World) : Prop where
 ne : ¬ ∃ p,p < A ∧ g = os p
 c : ∀ x,x < n → w.cell? ⟨g,x,none⟩ = some (.int .i64 (f x : Int))
theorem KI.keep {A : Nat} {os : Nat → Nat} {g n : Nat} {f : Nat → Nat} {w w' : World} (h : KI A os g n f w) (k : KeepS (fun k => ∃ p,p < A ∧ k = os p) w w') : KI A os g n f w' := ⟨h.ne,fun x hx => k.cell h.ne (h.c x hx)⟩
theorem KI.below {A : Nat} {os : Nat → Nat} {g n : Nat} {f : Nat → Nat} {w w' : World} (h : KI A os g n f w) (k : Below w.heap.size w w') : KI A os g n f w' := h.keep (KeepS.of_below k)
theorem RV.ki {A : Nat} {os : Nat → Nat} {w : World} {lo hi g n c : Nat} {f : Nat → Nat} (h : RV w lo hi (.slice (some ⟨g,0,none⟩) n c) n (fun x => (f x : Int))) (hb : ∀ p,p < A → os p < lo) : KI A os g n f w := by
 obtain ⟨g',c',e,hc,h1,h2,h3⟩ := h.is
 cases e
 refine ⟨fun ⟨p,hp,e⟩ => by have := hb p hp;omega,fun x hx => ?_⟩
 have := h3 x hx
 rwa [add_plain] at this
theorem tri_zero {A B : Nat} : TrI A B (fun _ _ => 0) (fun _ => List.replicate B 0) := ⟨fun p q _ _ => by
 rw [List.getD_eq_getElem?_getD,List.getElem?_replicate]
 split <;> rfl⟩
theorem stepI {M : Ted.Ms} {A B : Nat} (hs : Small M) (hA : A ≤ 24) (hB : B ≤ 24) (lamA : Ted.Lam M.la A) (lamB : Ted.Lam M.lb B) (hla : ∀ p,p < A → M.la p ≤ p) (hlb : ∀ q,q < B → M.lb q ≤ q) {i j I J : Nat} (hi : i < (kR M.la A A).length) (hj : j < (kR M.lb B B).length) (hI : I = kAt M.la A i) (hJ : J = kAt M.lb B j)
  {W w : World} {g ob : Nat} {os : Nat → Nat} {uA : Option Addr} {nA kA : Nat} {uB : Option Addr} {nB kB : Nat} {a2 a3 a4 a5 a6 : Addr} {ar : Nat → Addr} {cr : Nat → Nat} {c2 c3 c4 c5 c6 : Nat} {G : Nat → List Int} {o : Nat → Nat → Int}
  (hy : YI M A B W g ob os (.slice uA nA kA) (.slice uB nB kB) a2 a3 a4 a5 a6 ar cr c2 c3 c4 c5 c6 G w) (hu : TrI A B o G) (hd : Ted.Done M A B o (kAt M.la A i) (kAt M.lb B j)) :
  Calls Try.prog 155 #[.agg #[.slice uA nA kA,.slice uB nB kB,.slice (some a2) A c2,.slice (some a3) B c3,.slice (some a4) A c4,.slice (some a5) B c5,.slice (some a6) A c6],.slice (some ⟨ob,0,none⟩) A A,.int .i64 (I : Int),.int .i64 (J : Int)] w fun e w' =>
   ∃ (G' : Nat → List Int) (o' : Nat → Nat → Int),e = .returned (.tuple #[]) ∧ YI M A B W g ob os (.slice uA nA kA) (.slice uB nB kB) a2 a3 a4 a5 a6 ar cr c2 c3 c4 c5 c6 G' w' ∧ TrI A B o' G' ∧ Ted.Done M A B o' (kAt M.la A i) (kAt M.lb B (j + 1)) ∧ KeepS (fun k => ∃ p,p < A ∧ k = os p) w w' := by
 subst hI hJ
 have r1 := kAt_rep hi
 have r2 := kAt_rep hj
 refine (fill8 hs hA hB lamA lamB hla hlb r1.lt r2.lt o (fun p q h1 h2 h3 h4 h5 => hd.fill lamA lamB hla hlb r1 r2 h1 h2 h3 h4 h5) w ob A os uA nA kA uB nB kB a2 a3 a4 a5 a6 ar cr c2 c3 c4 c5 c6 G hy.t hu (hy.rs.sub fun k ⟨p,hp,e⟩ => by have := hy.tl p hp;show W.heap.size ≤ k;omega)).mono ?_
 rintro e w' ⟨rfl,G',hR,hT,hK⟩
 exact ⟨G',_,rfl,hy.fill hK hR,hT,done_pair hla hlb hi hj hd,hK⟩
set_option maxHeartbeats 30000000 in
set_option maxRecDepth 100000 in
theorem dists8 {M : Ted.Ms} {A B : Nat} (hs : Small M) (hA : A ≤ 24) (hB : B ≤ 24) (hA0 : 0 < A) (hB0 : 0 < B) (lamA : Ted.Lam M.la A) (lamB : Ted.Lam M.lb B) (hla : ∀ p,p < A → M.la p ≤ p) (hlb : ∀ q,q < B → M.lb q ≤ q)
  (q : Nat) (A0 : Option Addr) (c0 : Nat) (a : List S77) (A1 : Option Addr) (c1 : Nat) (b : List S77) (W : World)
  (uA : Option Addr) (nA kA : Nat) (uB : Option Addr) (nB kB : Nat) (a2 a3 a4 a5 a6 : Addr) (ar : Nat → Addr) (cr : Nat → Nat) (c2 c3 c4 c5 c6 : Nat) (rs : RsI M A B (fun k => W.heap.size ≤ k) a2 a3 a4 a5 a6 ar cr W)
  (hr0 : Kd.C k77 W A0 a.length a) (hc0 : a.length ≤ c0) (hr1 : Kd.C k77 W A1 b.length b) (hc1 : b.length ≤ c1)
  (eA : lfN a = M.la) (eB : lfN b = M.lb) (la : a.length = A) (lb : b.length = B) (hka : impl_KeyRoots.f q a = some (krL a)) (hkb : impl_KeyRoots.f q b = some (krL b)) :
  Calls Try.prog 130 #[.agg #[.slice uA nA kA,.slice uB nB kB,.slice (some a2) A c2,.slice (some a3) B c3,.slice (some a4) A c4,.slice (some a5) B c5,.slice (some a6) A c6],.slice A0 a.length c0,.slice A1 b.length c1] W fun e w' =>
   ∃ (ob : Nat) (os : Nat → Nat) (G : Nat → List Int),e = .returned (.slice (some ⟨ob,0,none⟩) A A) ∧ Below W.heap.size W w' ∧ W.heap.size ≤ ob ∧ (∀ p,p < A → W.heap.size ≤ os p) ∧ Rw w' ob os A B G ∧ TrI A B (Ted.TD M) G := by
 have hu := Try.underlying92
 have HNL := Aside0.mk (show A ≤ 24 ∧ B ≤ 24 ∧ 0 < A ∧ 0 < B from ⟨hA,hB,hA0,hB0⟩)
 have HP := Aside0.mk (And.intro hs (And.intro lamA (And.intro lamB (And.intro hla hlb))))
 have RS := Aside0.mk rs
 have HR0 := Aside0.mk hr0
 have HR1 := Aside0.mk hr1
 have HC0 := Aside0.mk hc0
 have HC1 := Aside0.mk hc1
 have HEA := Aside0.mk (And.intro eA la)
 have HEB := Aside0.mk (And.intro eB lb)
 have Hka := Aside0.mk hka
 have Hkb := Aside0.mk hkb
 clear rs hs hA hB hA0 hB0 lamA lamB hla hlb hr0 hr1 hc0 hc1 eA eB la lb hka hkb
 go_enter Try.func130,Try.ntmps130
 go_wp2_with (first | ((with_reducible refine gate_dst (N := 3) rfl ?_);refine bx_ 3 #[.slice uA nA kA,.slice uB nB kB,.slice (some a2) A c2,.slice (some a3) B c3,.slice (some a4) A c4,.slice (some a5) B c5,.slice (some a6) A c6] 92 ?_;intro g hg w1 hb1 hb2;have HG := Aside0.mk hb1;have HG2 := Aside0.mk hb2;have HG3 := Aside0.mk hg;have y4 : w1.cell? ⟨g,4,none⟩ = some (.slice (some a4) A c4) := (blk_cell hb1 4).trans rfl;clear hb1 hb2 hg) | ((with_reducible refine gate_dst (N := 16) rfl ?_);refine make_s rfl (N := 16) rfl 90 _ _ rfl A rfl rfl Try.underlying90 info25 (by have := HNL.out;omega) ?_;intro ob hob w2 hf2 hb2;have HF := Aside0.mk hf2;have HF2 := Aside0.mk hb2;have HF3 := Aside0.mk hob;clear hf2 hb2 hob))
 have HMK : Aside0 (MkI W g ob (fun _ => 0) A B 0 #[.slice uA nA kA,.slice uB nB kB,.slice (some a2) A c2,.slice (some a3) B c3,.slice (some a4) A c4,.slice (some a5) B c5,.slice (some a6) A c6] w2) := by
  have l1 := blk_lt HG.out
  have e1 := HG3.out
  have e2 : ob = w1.heap.size := HF3.out
  exact ⟨⟨blk_below HG.out HF2.out,by rw [tops_none];exact HF.out,fun r hr => absurd hr (Nat.not_lt_zero _),fun r hr => absurd hr (Nat.not_lt_zero _),fun r s _ hr => absurd hr (Nat.not_lt_zero _),below_step HG2.out HF2.out,by omega,by omega⟩⟩
 clear HG HG2 HG3 HF HF2 HF3 y4
 go_loopg [19] A (fun gg v19 wr => ∃ (k : Nat) (bs : Nat → Nat),v19 = .int .i64 (k : Int) ∧ k ≤ A ∧ A - k ≤ gg ∧ Aside0 (MkI W g ob bs A B k #[.slice uA nA kA,.slice uB nB kB,.slice (some a2) A c2,.slice (some a3) B c3,.slice (some a4) A c4,.slice (some a5) B c5,.slice (some a6) A c6] wr))
 case atStart => exact ⟨0,_,rfl,Nat.zero_le _,by omega,HMK⟩
 case round =>
  as_aux_lemma =>
   clear HMK
   obtain ⟨k,bs,rfl,hk1,hgg,HMK⟩ := hrel
   by_cases hk : k < A
   ·have b1 : ((k : Int) < (A : Int)) = True := eq_true (by omega)
    have b2 : (0 ≤ (k : Int)) = True := eq_true (by omega)
    have g1 : Vi _ _ := vi (w_inc (a := k) (b := k + 1) rfl (by have := HNL.out;omega))
    have HK := Aside0.mk (And.intro hk1 (And.intro hgg hk))
    have y5 : wr.cell? ⟨g,5,none⟩ = some (.slice (some a5) B c5) := (blk_cell HMK.out.box 5).trans rfl
    clear hk1 hgg hk
    go_wp2_with ((with_reducible refine gate_dst (N := 27) rfl ?_);refine make_w rfl (N := 27) rfl 25 _ _ rfl B rfl rfl Try.underlying25 info3 (by have := HNL.out;omega) ?_;intro b hb w3 hf3 hb3;have t1 := (blk_cell (blk_below HMK.out.top hb3) k).trans (tops_at HK.out.2.2);rw [if_neg (Nat.lt_irrefl _)] at t1;have t2 := blk_frozen (blk_below HMK.out.top hb3) k;replace HMK := Aside0.mk (HMK.out.step HK.out.2.2 hb hf3 hb3);clear hb hf3 hb3)
    obtain ⟨hk1,hgg,hk⟩ := HK.out
    go_roundg (A - (k + 1))
    case measure => omega
    case rel => exact ⟨k + 1,_,(by first | rfl | exact g1 | exact (congrArg (Value.int .i64) (i64_w _)).trans g1),by omega,Nat.le_refl _,HMK⟩
   ·obtain rfl : A = k := by omega
    have b1 : ((A : Int) < (A : Int)) = False := eq_false (by omega)
    clear hk hk1 hgg
    have HY := Aside0.mk (HMK.out.doneY RS.out)
    clear HMK
    go_wp2_with (first | (go_at_call 154;((with_reducible refine (impl_KeyRoots.calls q A0 c0 a _ _ (Kd.C_below HR0.out HY.out.bel) HC0.out Hka.out).mono ?_));rintro e w4 ⟨v4,rfl,o4,b4⟩;rw [krL_range] at o4;have r4 := row_iv o4 (kR_pos (by rw [HEA.out.2];exact HNL.out.2.2.1));obtain ⟨ga,ka,rfl⟩ := r4.val;have HA := Aside0.mk (r4.ki (os := bs) (A := A) fun p hp => blk_lt (HY.out.t.row p hp));replace HY := Aside0.mk (HY.out.below b4);clear o4 b4 r4))
    obtain ⟨na,hna⟩ : ∃ m,m = (kR M.la A A).length := ⟨_,rfl⟩
    rw [show (kR (lfN a) a.length a.length).length = na by rw [HEA.out.1,HEA.out.2];exact hna.symm] at HA ⊢
    rw [HEA.out.1,HEA.out.2] at HA
    have HNA := Aside0.mk (And.intro hna (show 0 < na ∧ na ≤ 24 by have h1 := kR_len M.la A A;have h2 := kR_pos (l := M.la) HNL.out.2.2.1;have := HNL.out.1;omega))
    obtain ⟨nb,hnb⟩ : ∃ m,m = (kR M.lb B B).length := ⟨_,rfl⟩
    have HNB := Aside0.mk (And.intro hnb (show 0 < nb ∧ nb ≤ 24 by have h1 := kR_len M.lb B B;have h2 := kR_pos (l := M.lb) HNL.out.2.2.2;have := HNL.out.2.1;omega))
    clear hna hnb
    go_loopg [33] na (fun gg v33 wr => ∃ (i : Nat) (G : Nat → List Int) (o : Nat → Nat → Int),v33 = .int .i64 (i : Int) ∧ i ≤ na ∧ na - i ≤ gg ∧ Aside0 (YI M A B W g ob bs (.slice uA nA kA) (.slice uB nB kB) a2 a3 a4 a5 a6 ar cr c2 c3 c4 c5 c6 G wr) ∧ Aside0 (KI A bs ga na (kAt M.la A) wr) ∧ Aside0 (TrI A B o G) ∧ Aside0 (Ted.Done M A B o (kAt M.la A i) (kAt M.lb B 0)))
    case atStart => exact ⟨0,_,_,rfl,Nat.zero_le _,by omega,HY,HA,⟨tri_zero⟩,⟨done_start _⟩⟩
    case round =>
     clear HY HA
     obtain ⟨i,G,o,rfl,hi1,hgg,HY,HA,HU,HD⟩ := hrel
     by_cases hi : i < na
     ·obtain ⟨I,hI⟩ : ∃ I,I = kAt M.la A i := ⟨_,rfl⟩
      have e4 := HA.out.c i hi
      rw [← hI] at e4
      have b1 : ((i : Int) < (na : Int)) = True := eq_true (by omega)
      have b2 : (0 ≤ (i : Int)) = True := eq_true (by omega)
      obtain ⟨i2,hi2⟩ : ∃ z,z = i + 1 := ⟨_,rfl⟩
      have f2 : Vi _ _ := vi (w_inc (a := i) (b := i2) hi2.symm (by have := HNA.out;omega))
      have HI := Aside0.mk (And.intro hi1 (And.intro hgg (And.intro hi (And.intro hI hi2))))
      clear hi1 hgg hi hI hi2
      go_wp2_with (first | (go_at_call 154;((with_reducible refine (impl_KeyRoots.calls q A1 c1 b _ _ (Kd.C_below HR1.out HY.out.bel) HC1.out Hkb.out).mono ?_));rintro e w5 ⟨v5,rfl,o5,b5⟩;rw [krL_range] at o5;have r5 := row_iv o5 (kR_pos (by rw [HEB.out.2];exact HNL.out.2.2.2));obtain ⟨gb,kb,rfl⟩ := r5.val;have HB := Aside0.mk (r5.ki (os := bs) (A := A) fun p hp => blk_lt (HY.out.t.row p hp));replace HY := Aside0.mk (HY.out.below b5);replace HA := Aside0.mk (HA.out.below b5);clear o5 b5 r5))
      rw [show (kR (lfN b) b.length b.length).length = nb by rw [HEB.out.1,HEB.out.2];exact HNB.out.1.symm] at HB ⊢
      rw [HEB.out.1,HEB.out.2] at HB
      go_loopg [40] nb (fun gg v40 wr => ∃ (j : Nat) (G : Nat → List Int) (o : Nat → Nat → Int),v40 = .int .i64 (j : Int) ∧ j ≤ nb ∧ nb - j ≤ gg ∧ Aside0 (YI M A B W g ob bs (.slice uA nA kA) (.slice uB nB kB) a2 a3 a4 a5 a6 ar cr c2 c3 c4 c5 c6 G wr) ∧ Aside0 (KI A bs ga na (kAt M.la A) wr) ∧ Aside0 (KI A bs gb nb (kAt M.lb B) wr) ∧ Aside0 (TrI A B o G) ∧ Aside0 (Ted.Done M A B o (kAt M.la A i) (kAt M.lb B j)))
      case atStart => exact ⟨0,_,_,rfl,Nat.zero_le _,by omega,HY,HA,HB,HU,HD⟩
      case round =>
       clear HY HA HB HU HD
       obtain ⟨j,G,o,rfl,hj1,hgg,HY,HA,HB,HU,HD⟩ := hrel
       by_cases hj : j < nb
       ·obtain ⟨J,hJ⟩ : ∃ J,J = kAt M.lb B j := ⟨_,rfl⟩
        have e5 := HB.out.c j hj
        rw [← hJ] at e5
        have b1 : ((j : Int) < (nb : Int)) = True := eq_true (by omega)
        have b2 : (0 ≤ (j : Int)) = True := eq_true (by omega)
        obtain ⟨j2,hj2⟩ : ∃ z,z = j + 1 := ⟨_,rfl⟩
        have f3 : Vi _ _ := vi (w_inc (a := j) (b := j2) hj2.symm (by have := HNB.out;omega))
        have HJ := Aside0.mk (And.intro hj1 (And.intro hgg (And.intro hj (And.intro hJ hj2))))
        obtain ⟨y0,y1,y2,y3,y4,y5,y6⟩ := HY.out.boxes
        clear hj1 hgg hj hJ hj2
        go_wp2_with (first | (go_at_call 155;refine (stepI HP.out.1 HNL.out.1 HNL.out.2.1 HP.out.2.1 HP.out.2.2.1 HP.out.2.2.2.1 HP.out.2.2.2.2 (by have := HNA.out.1;have := HI.out;omega) (by have := HNB.out.1;have := HJ.out;omega) HI.out.2.2.2.1 HJ.out.2.2.2.1 HY.out HU.out HD.out).mono ?_;rintro e w6 ⟨G6,o6,rfl,hY,hTr,hDn,hK⟩;replace HA := Aside0.mk (HA.out.keep hK);replace HB := Aside0.mk (HB.out.keep hK);replace HY := Aside0.mk hY;replace HU := Aside0.mk hTr;replace HD := Aside0.mk hDn;clear hK hY hTr hDn))
        obtain ⟨hj1,hgg,hj,hJ,hj2⟩ := HJ.out
        go_roundg (nb - j2)
        case measure => omega
        case rel => exact ⟨j2,_,_,(by first | rfl | exact f3 | exact (congrArg (Value.int .i64) (i64_w _)).trans f3),by omega,Nat.le_refl _,HY,HA,HB,HU,by rw [hj2];exact HD⟩
       ·obtain rfl : nb = j := by omega
        have b1 : ((nb : Int) < (nb : Int)) = False := eq_false (by omega)
        clear hj hj1 hgg
        go_wp2
        obtain ⟨hi1,hgg,hi,hI,hi2⟩ := HI.out
        go_roundg (na - i2)
        case measure => omega
        case rel => exact ⟨i2,_,_,(by first | rfl | exact f2 | exact (congrArg (Value.int .i64) (i64_w _)).trans f2),by omega,Nat.le_refl _,HY,HA,HU,⟨by rw [hi2];exact done_row (by have := HNA.out.1;omega) HD.out (by rw [kAt_end (by have := HNB.out.1;omega)];exact Nat.le_refl _)⟩⟩
     ·obtain rfl : na = i := by omega
      have b1 : ((na : Int) < (na : Int)) = False := eq_false (by omega)
      clear hi hi1 hgg
      go_wp2
      go_ret
      exact ⟨ob,bs,G,rfl,HY.out.bel,HY.out.ol,HY.out.tl,HY.out.t,HU.out.ext (fun p q hp hq => (Ted.Done.all (I := kAt M.la A na) (fun p q x y hp hq hx hy hl => HD.out p q x y hp hq hx hy (by omega)) (fun x hx => by have := hx.lt;rw [kAt_end (by have := HNA.out.1;omega)];exact this) hp hq).symm)⟩
end Go.Proofs.Ytngphdmbjenkaaa.X
namespace Go.Proofs.Ytngphdmbjenkaaa.X
open Go.RowKit Go.Proofs.YtngphdmbjenkaaaW.PrintWords Go.Proofs.YtngphdmbjenkaaaW.PrintLast Go.Proofs.YtngphdmbjenkaaaW.PrintMore Go.Proofs.Ytngphdmbjenkaaa.Q
set_option linter.unusedVariables false
set_option linter.unusedSimpArgs false
noncomputable def tdL (a b : List NodeI) (d n r : List Int) : List Int := (List.range (a.length * b.length)).map fun x => Ted.TD (msOf a b d n r) (x / b.length) (x % b.length)
noncomputable def tdB (a b : List NodeI) (d n r : List Int) : List Int := if okAB a b d n r = true then tdL a b d n r else []
end Go.Proofs.Ytngphdmbjenkaaa.X
namespace Go.Proofs.Ytngphdmbjenkaaa.X
open Go.RowKit Go.Proofs.YtngphdmbjenkaaaW.PrintWords Go.Proofs.YtngphdmbjenkaaaW.PrintLast Go.Proofs.YtngphdmbjenkaaaW.PrintMore Go.Proofs.Ytngphdmbjenkaaa.Q
set_option linter.unusedVariables false
set_option linter.unusedSimpArgs false
noncomputable def impl_TreeDists.f (q : Nat) (a b : List NodeI) (d n r : List Int) : Option (List Int) := (impl_measureOf.f q a b d n r).bind fun _ => if okAB a b d n r = true then (impl_KeyRoots.f q a).bind fun _ => (impl_KeyRoots.f q b).bind fun _ => some (tdB a b d n r) else some (tdB a b d n r)
theorem impl_TreeDists.ev (a b : List NodeI) (d n r : List Int) : Ev (fun q => impl_TreeDists.f q a b d n r) (tdB a b d n r) := by
 unfold impl_TreeDists.f
 refine Ev.bind (implMeasure_ev a b d n r) ?_
 by_cases h : okAB a b d n r = true
 ·obtain ⟨ta,tb,_⟩ := okAB_iff.1 h
  simp only [if_pos h]
  exact Ev.bind (implKeyRoots_ev ta) (Ev.bind (implKeyRoots_ev tb) (Ev.now _))
 ·simp only [if_neg h]
  exact Ev.now _
noncomputable def rowsL (M : Ted.Ms) (B k : Nat) : List Int := (List.range (k * B)).map fun x => Ted.TD M (x / B) (x % B)
theorem rowsL_len (M : Ted.Ms) (B k : Nat) : (rowsL M B k).length = k * B := by unfold rowsL;rw [List.length_map,List.length_range]
theorem rowsL_succ {M : Ted.Ms} {A B k : Nat} {G : Nat → List Int} (hB : 0 < B) (hk : k < A) (hl : (G k).length = B) (h : TrI A B (Ted.TD M) G) : rowsL M B (k + 1) = rowsL M B k ++ G k := by
 unfold rowsL
 rw [Nat.succ_mul,List.range_add,List.map_append,List.map_map]
 congr 1
 apply List.ext_getElem?
 intro j
 by_cases hj : j < B
 ·rw [List.getElem?_map,List.getElem?_range hj,List.getElem?_eq_getElem (by omega)]
  have h3 := h.val k j hk hj
  rw [List.getD_eq_getElem?_getD,List.getElem?_eq_getElem (by omega),Option.getD_some] at h3
  rw [h3]
  simp only [Option.map_some,Function.comp]
  rw [Nat.add_comm (k * B) j,Nat.add_mul_div_right _ _ hB,Nat.div_eq_of_lt hj,Nat.zero_add,Nat.add_mul_mod_self_right,Nat.mod_eq_of_lt hj]
 ·rw [List.getElem?_eq_none (by simp;omega),List.getElem?_eq_none (by omega)]
theorem Blk.own2 {W : World} {b base : Nat} {ok : Nat → Prop} {L : List Int} (h : Blk W b L) (hb : base ≤ b) (hl : L.length ≤ 1000000) (hok : ok b) : Kd.R (Kd.int .i64) 3 W base ok (.slice (some ⟨b,0,none⟩) L.length L.length) L := by
 refine Kd.R_of_own (enc := Value.int .i64) (h1 := fun _ => rfl) ?_ (fun k hk => by
  have : b = k := by simpa [Value.ownBlock] using hk
  subst this
  exact hok)
 have e : (nums .i64 L).length = L.length := nums_length _ _
 refine ⟨by show (nums .i64 L).length = L.length * 1;omega,.inr ⟨b,L.length,(nums .i64 L).toArray,rfl,hb,h,Nat.le_refl _,by unfold maxLen;omega,?_,?_⟩⟩
 ·show (nums .i64 L).toArray.size = L.length * 1
  rw [List.size_toArray];omega
 show List.take (L.length * 1) (nums .i64 L) = nums .i64 L
 rw [Nat.mul_one,← e,List.take_length]
theorem mea_rs {M : Ted.Ms} {A B bk : Nat} {w : World} {u0 u1 u2 u3 u4 u5 u6 : Value} (hA : 0 < A) (hB : 0 < B) (h : Mea M A B w bk #[u0,u1,u2,u3,u4,u5,u6]) (base : Nat) (hbase : base = w.heap.size) :
  ∃ (a2 a3 a4 a5 a6 : Addr) (ar : Nat → Addr) (cr : Nat → Nat) (c2 c3 c4 c5 c6 : Nat),u2 = .slice (some a2) A c2 ∧ u3 = .slice (some a3) B c3 ∧ u4 = .slice (some a4) A c4 ∧ u5 = .slice (some a5) B c5 ∧ u6 = .slice (some a6) A c6 ∧ RsI M A B (fun k => base ≤ k) a2 a3 a4 a5 a6 ar cr w := by
 subst hbase
 obtain ⟨v0,v1,v2,v3,v4,v5,v6,e,h2,h3,h4,h5,h6⟩ := h.is
 simp only [Array.mk.injEq,List.cons.injEq,and_true] at e
 obtain ⟨rfl,rfl,rfl,rfl,rfl,rfl,rfl⟩ := e
 obtain ⟨a2,c2,rfl,_,_,p2⟩ := h2.is
 obtain ⟨a3,c3,rfl,_,_,p3⟩ := h3.is
 obtain ⟨a4,c4,rfl,_,_,p4⟩ := h4.is
 obtain ⟨a5,c5,rfl,_,_,p5⟩ := h5.is
 obtain ⟨a6,c6,rfl,_,_,p6⟩ := h6.is
 have lt : ∀ {ad : Addr} {p : Nat} {v : Value},w.cell? (ad.add p) = some v → ¬ w.heap.size ≤ ad.block := fun hc => by
  have := World.block_lt_of_cell? _ _ hc
  rw [add_block] at this
  omega
 have key : ∀ p,∃ x : Addr × Nat,p < A → w.cell? (a6.add p) = some (.slice (some x.1) B x.2) ∧ ∀ q,q < B → w.cell? (x.1.add q) = some (.int .i64 (M.rel p q)) := by
  intro p
  by_cases hp : p < A
  ·obtain ⟨u,hu,r1⟩ := p6 p hp
   obtain ⟨ad,c,rfl,_,_,hc⟩ := r1.is
   exact ⟨(ad,c),fun _ => ⟨hu,hc⟩⟩
  ·exact ⟨(⟨0,0,none⟩,0),fun z => absurd z hp⟩
 obtain ⟨F,hF⟩ := Classical.axiomOfChoice key
 exact ⟨a2,a3,a4,a5,a6,fun p => (F p).1,fun p => (F p).2,c2,c3,c4,c5,c6,rfl,rfl,rfl,rfl,rfl,p2,p3,p4,p5,fun p hp => (hF p hp).1,fun p q hp hq => (hF p hp).2 q hq,lt (p2 0 hA),lt (p3 0 hB),lt (p4 0 hA),lt (p5 0 hB),lt (hF 0 hA).1,fun p hp => lt ((hF p hp).2 0 hB)⟩
set_option maxHeartbeats 4000000 in
set_option maxRecDepth 100000 in
theorem impl_TreeDists.calls (q : Nat) (A0 : Option Addr) (c0 : Nat) (l0 : List NodeI) (A3 : Option Addr) (c3 : Nat) (l3 : List NodeI) (A6 : Option Addr) (c6 : Nat) (d : List Int) (A7 : Option Addr) (c7 : Nat) (n : List Int) (A8 : Option Addr) (c8 : Nat) (r : List Int) (res : List Int) (w : World)
  (hr0 : Kd.C k77 w A0 l0.length l0) (hc0 : l0.length ≤ c0) (hr3 : Kd.C k77 w A3 l3.length l3) (hc3 : l3.length ≤ c3) (hr6 : Kd.C (Kd.int .i64) w A6 d.length d) (hc6 : d.length ≤ c6) (hr7 : Kd.C (Kd.int .i64) w A7 n.length n) (hc7 : n.length ≤ c7) (hr8 : Kd.C (Kd.int .i64) w A8 r.length r) (hc8 : r.length ≤ c8)
  (h : impl_TreeDists.f q l0 l3 d n r = some res) :
  Calls Try.prog 79 #[.slice A0 l0.length c0,.slice A3 l3.length c3,.agg #[.slice A6 d.length c6,.slice A7 n.length c7,.slice A8 r.length c8]] w fun e w' => ∃ v0_ : Value,e = .returned (v0_) ∧ Kd.R (Kd.int .i64) 3 w' w.heap.size (fun _ => True) v0_ res ∧ Below w.heap.size w w' := by
 unfold impl_TreeDists.f at h
 obtain ⟨t,ht,h⟩ := Option.bind_eq_some_iff.mp h
 have HM : Aside0 (∀ W,Below w.heap.size w W → _) := ⟨fun W hb => mea_ok (Kd.C_below hr0 hb) hc0 (Kd.C_below hr3 hb) hc3 (Kd.C_below hr6 hb) hc6 (Kd.C_below hr7 hb) hc7 (Kd.C_below hr8 hb) hc8 ht⟩
 have hu := Try.underlying27
 have hu2 := Try.underlying92
 cases ho : okAB l0 l3 d n r with
 | false =>
  rw [ho] at HM
  rw [ho,if_neg (by simp)] at h
  obtain rfl := Option.some.inj h
  have HV : tdB l0 l3 d n r = [] := if_neg (by rw [ho];simp)
  rw [HV]
  clear h ho HV ht
  go_enter Try.func79,Try.ntmps79
  go_upto_region 2 with ((with_reducible refine gate_dst (N := 5) rfl ?_);refine bx_ 5 #[.slice A6 d.length c6,.slice A7 n.length c7,.slice A8 r.length c8] 27 ?_;intro g5 hg5 w1 hb1 hb2;have HG := Aside0.mk hb1;have HG2 := Aside0.mk hb2;have HG3 := Aside0.mk hg5;clear hb1 hb2 hg5)
  obtain ⟨gO,hgO⟩ : ∃ g,g = w1.heap.size := ⟨_,rfl⟩
  have hO : Blk (w1.alloc (.cells #[] 3)) gO [] := by subst hgO;exact blk_new w1 _
  have HB := Aside0.mk (below_step HG2.out (below_alloc (Below.refl _ _) (.cells #[] 3)))
  have HS := Aside0.mk (show w.heap.size ≤ gO by have := HG2.out.size;omega)
  have y0 : (w1.alloc (.cells #[] 3)).cell? ⟨g5,0,none⟩ = some (.slice A6 d.length c6) := (blk_cell (blk_below HG.out (below_alloc (Below.refl _ _) (.cells #[] 3))) 0).trans rfl
  have y1 : (w1.alloc (.cells #[] 3)).cell? ⟨g5,1,none⟩ = some (.slice A7 n.length c7) := (blk_cell (blk_below HG.out (below_alloc (Below.refl _ _) (.cells #[] 3))) 1).trans rfl
  have y2 : (w1.alloc (.cells #[] 3)).cell? ⟨g5,2,none⟩ = some (.slice A8 r.length c8) := (blk_cell (blk_below HG.out (below_alloc (Below.refl _ _) (.cells #[] 3))) 2).trans rfl
  rw [← hgO]
  clear hgO HG HG2 HG3
  have HO := Aside0.mk hO
  clear hO
  generalize w1.alloc (.cells #[] 3) = w2 at HO HB y0 y1 y2 ⊢
  go_wp2_with (go_at_call 77;refine (HM.out _ HB.out).mono ?_;rintro e w6 ⟨v0,v1,v2,v3,v4,v5,v6,rfl,hb,⟨⟨a0,n0,e0,rfl⟩,⟨a1,n1,e1,rfl⟩,⟨a2,n2,e2,rfl⟩,⟨a3,n3,e3,rfl⟩,⟨a4,n4,e4,rfl⟩,⟨a5,n5,e5,rfl⟩,⟨a6,n6,e6,rfl⟩⟩,hmea⟩;replace HO := Aside0.mk (blk_below HO.out hb);replace HB := Aside0.mk (below_step HB.out hb);clear hb hmea)
  go_ret
  exact ⟨_,rfl,Blk.own (L := []) (blk_below HO.out (below_alloc (Below.refl _ _) _)) HS.out (by simp),below_step HB.out (below_alloc (Below.refl _ _) _)⟩
 | true =>
  rw [ho] at HM
  rw [ho,if_pos rfl] at h
  obtain ⟨ta,tb,hco⟩ := okAB_iff.1 ho
  obtain ⟨ka,hka,h⟩ := Option.bind_eq_some_iff.mp h
  obtain ⟨kb,hkb,h⟩ := Option.bind_eq_some_iff.mp h
  obtain rfl := Option.some.inj h
  obtain rfl : ka = krL l0 := ev_uniq (Ev.of (impl_KeyRoots.mono l0) hka) (implKeyRoots_ev ta)
  obtain rfl : kb = krL l3 := ev_uniq (Ev.of (impl_KeyRoots.mono l3) hkb) (implKeyRoots_ev tb)
  have HV : tdB l0 l3 d n r = tdL l0 l3 d n r := if_pos ho
  rw [HV]
  have HP := Aside0.mk (par8 ta tb hco)
  have HL := Aside0.mk (And.intro ta.len1 (And.intro tb.len1 (And.intro ta.len24 tb.len24)))
  have HK := Aside0.mk (And.intro hka hkb)
  have HR := Aside0.mk (And.intro hr0 (And.intro hc0 (And.intro hr3 hc3)))
  clear h ho HV ht ta tb hco hka hkb hr0 hc0 hr3 hc3 hr6 hc6 hr7 hc7 hr8 hc8
  obtain ⟨M,hM⟩ : ∃ M,M = msOf l0 l3 d n r := ⟨_,rfl⟩
  have HE := Aside0.mk (show lfN l0 = M.la ∧ lfN l3 = M.lb by rw [hM];exact ⟨rfl,rfl⟩)
  have HVM := Aside0.mk (show tdL l0 l3 d n r = rowsL M l3.length l0.length by rw [hM];rfl)
  rw [HVM.out]
  rw [← hM] at HM HP
  clear hM
  go_enter Try.func79,Try.ntmps79
  go_upto_region 2 with ((with_reducible refine gate_dst (N := 5) rfl ?_);refine bx_ 5 #[.slice A6 d.length c6,.slice A7 n.length c7,.slice A8 r.length c8] 27 ?_;intro g5 hg5 w1 hb1 hb2;have HG := Aside0.mk hb1;have HG2 := Aside0.mk hb2;have HG3 := Aside0.mk hg5;clear hb1 hb2 hg5)
  obtain ⟨gO,hgO⟩ : ∃ g,g = w1.heap.size := ⟨_,rfl⟩
  have hO : Blk (w1.alloc (.cells #[] 3)) gO [] := by subst hgO;exact blk_new w1 _
  have HB := Aside0.mk (below_step HG2.out (below_alloc (Below.refl _ _) (.cells #[] 3)))
  have HS := Aside0.mk (show w.heap.size ≤ gO by have := HG2.out.size;omega)
  have y0 : (w1.alloc (.cells #[] 3)).cell? ⟨g5,0,none⟩ = some (.slice A6 d.length c6) := (blk_cell (blk_below HG.out (below_alloc (Below.refl _ _) (.cells #[] 3))) 0).trans rfl
  have y1 : (w1.alloc (.cells #[] 3)).cell? ⟨g5,1,none⟩ = some (.slice A7 n.length c7) := (blk_cell (blk_below HG.out (below_alloc (Below.refl _ _) (.cells #[] 3))) 1).trans rfl
  have y2 : (w1.alloc (.cells #[] 3)).cell? ⟨g5,2,none⟩ = some (.slice A8 r.length c8) := (blk_cell (blk_below HG.out (below_alloc (Below.refl _ _) (.cells #[] 3))) 2).trans rfl
  rw [← hgO]
  clear hgO HG HG2 HG3
  have HO := Aside0.mk hO
  clear hO
  generalize w1.alloc (.cells #[] 3) = w2 at HO HB y0 y1 y2 ⊢
  go_upto_region 5 with (first | (go_at_call 77;refine (HM.out _ HB.out).mono ?_;rintro e w6 ⟨v0,v1,v2,v3,v4,v5,v6,rfl,hb,⟨⟨a0,n0,e0,rfl⟩,⟨a1,n1,e1,rfl⟩,_⟩,hmea⟩;obtain ⟨a2,a3,a4,a5,a6,ar,cr,e2,e3,e4,e5,e6,rfl,rfl,rfl,rfl,rfl,hrs⟩ := mea_rs HL.out.1 HL.out.2.1 (hmea rfl _ (Nat.le_refl _)) _ rfl;have HRS := Aside0.mk hrs;replace HO := Aside0.mk (blk_below HO.out hb);replace HB := Aside0.mk (below_step HB.out hb);clear hb hmea hrs y0 y1 y2))
  obtain ⟨gm,hgm⟩ : ∃ g,g = w6.heap.size := ⟨_,rfl⟩
  have hm := blk_new w6 (.cells #[.slice a0 n0 e0,.slice a1 n1 e1,.slice (some a2) l0.length e2,.slice (some a3) l3.length e3,.slice (some a4) l0.length e4,.slice (some a5) l3.length e5,.slice (some a6) l0.length e6] 92)
  rw [← hgm] at hm ⊢
  have hal := below_alloc (Below.refl w6.heap.size w6) (.cells #[.slice a0 n0 e0,.slice a1 n1 e1,.slice (some a2) l0.length e2,.slice (some a3) l3.length e3,.slice (some a4) l0.length e4,.slice (some a5) l3.length e5,.slice (some a6) l0.length e6] 92)
  have HRS7 : Aside0 (RsI M l0.length l3.length (fun k => (w6.alloc (.cells #[.slice a0 n0 e0,.slice a1 n1 e1,.slice (some a2) l0.length e2,.slice (some a3) l3.length e3,.slice (some a4) l0.length e4,.slice (some a5) l3.length e5,.slice (some a6) l0.length e6] 92)).heap.size ≤ k) a2 a3 a4 a5 a6 ar cr (w6.alloc (.cells #[.slice a0 n0 e0,.slice a1 n1 e1,.slice (some a2) l0.length e2,.slice (some a3) l3.length e3,.slice (some a4) l0.length e4,.slice (some a5) l3.length e5,.slice (some a6) l0.length e6] 92))) := ⟨(HRS.out.keep (KeepS.of_below hal)).sub fun k hk => Nat.le_trans hal.size hk⟩
  replace HO := Aside0.mk (blk_below HO.out hal)
  replace HB := Aside0.mk (below_step HB.out hal)
  have HGO := Aside0.mk (blk_lt HO.out)
  clear hal HRS hgm
  generalize (w6.alloc (.cells #[.slice a0 n0 e0,.slice a1 n1 e1,.slice (some a2) l0.length e2,.slice (some a3) l3.length e3,.slice (some a4) l0.length e4,.slice (some a5) l3.length e5,.slice (some a6) l0.length e6] 92)) = w7 at hm HO HB HRS7 HGO ⊢
  have z0 := (blk_cell hm 0).trans rfl
  have z1 := (blk_cell hm 1).trans rfl
  have z2 := (blk_cell hm 2).trans rfl
  have z3 := (blk_cell hm 3).trans rfl
  have z4 := (blk_cell hm 4).trans rfl
  have z5 := (blk_cell hm 5).trans rfl
  have z6 := (blk_cell hm 6).trans rfl
  clear hm
  go_wp2_with (go_at_call 130;refine (dists8 HP.out.hs HP.out.hA HP.out.hB HL.out.1 HL.out.2.1 HP.out.lamA HP.out.lamB HP.out.hla HP.out.hlb q A0 c0 l0 A3 c3 l3 _ a0 n0 e0 a1 n1 e1 a2 a3 a4 a5 a6 ar cr e2 e3 e4 e5 e6 HRS7.out (Kd.C_below HR.out.1 HB.out) HR.out.2.1 (Kd.C_below HR.out.2.2.1 HB.out) HR.out.2.2.2 HE.out.1 HE.out.2 rfl rfl HK.out.1 HK.out.2).mono ?_;rintro e w8 ⟨ob,os,G,rfl,hb,hol,htl,hrw,htr⟩;replace HO := Aside0.mk (blk_below HO.out hb);replace HB := Aside0.mk (below_step HB.out hb);have HRW := Aside0.mk hrw;have HTR := Aside0.mk htr;have HOL := Aside0.mk (And.intro hol htl);clear hb hol htl hrw htr z0 z1 z2 z3 z4 z5 z6)
  obtain ⟨ok,hok⟩ : ∃ ok : Nat → Prop,ok = fun k => k ≠ ob ∧ ∀ p,p < l0.length → k ≠ os p := ⟨_,rfl⟩
  have HOK := Aside0.mk hok
  have HO2 : Aside0 (Kd.R (Kd.int .i64) 3 w8 w.heap.size ok (.slice (some ⟨gO,0,none⟩) 0 0) (rowsL M l3.length 0)) := by
   have h1 := Blk.own2 (ok := ok) HO.out HS.out (by simp) (by rw [hok];have h2 := HGO.out;have h3 := HOL.out.1;exact ⟨by omega,fun p hp => by have := HOL.out.2 p hp;omega⟩)
   have h2 : rowsL M l3.length 0 = [] := by unfold rowsL;rw [Nat.zero_mul];rfl
   rw [h2]
   exact ⟨h1⟩
  clear hok HO HRS7 HGO HOL HM HE HK HR HVM
  go_loopg [7,28] l0.length (fun gg v7 v28 wr => ∃ (k : Nat),v28 = .int .i64 (k : Int) ∧ k ≤ l0.length ∧ l0.length - k ≤ gg ∧ Aside0 (Kd.R (Kd.int .i64) 3 wr w.heap.size ok v7 (rowsL M l3.length k)) ∧ Aside0 (Rw wr ob os l0.length l3.length G) ∧ Aside0 (Below w.heap.size w wr))
  case atStart => exact ⟨0,rfl,Nat.zero_le _,by omega,HO2,HRW,HB⟩
  case round =>
   clear HO2 HRW HB
   obtain ⟨k,rfl,hk1,hgg,HO,HRW,HB⟩ := hrel
   by_cases hk : k < l0.length
   ·have t1 := HRW.out.cell0 hk
    have b1 : ((k : Int) < (l0.length : Int)) = True := eq_true (by omega)
    have b2 : (0 ≤ (k : Int)) = True := eq_true (by omega)
    obtain ⟨k2,hk2⟩ : ∃ z,z = k + 1 := ⟨_,rfl⟩
    have f3 : Vi _ _ := vi (w_inc (a := k) (b := k2) hk2.symm (by have := HL.out.2.2.1;omega))
    have hlen := HRW.out.len k hk
    have HC : Aside0 (Kd.C (Kd.int .i64) wr (some ⟨os k,0,none⟩) l3.length (G k)) := ⟨by
     have h1 := Blk.own2 (ok := fun _ => True) (HRW.out.row k hk) (Nat.zero_le _) (by have := HL.out.2.2.2;omega) trivial
     have h2 := (Kd.R_reads' h1).2.2
     rw [hlen] at h2
     exact h2⟩
    have HSZ := Aside0.mk (show w.heap.size ≤ wr.heap.size from HB.out.size)
    have HJ := Aside0.mk (And.intro hk1 (And.intro hgg (And.intro hk hk2)))
    have HLN := Aside0.mk (show ((rowsL M l3.length k).length + l3.length) * 8 ≤ 140737488355328 by
     rw [rowsL_len]
     have h1 := HL.out.2.2.1
     have h2 := HL.out.2.2.2
     have h3 := Nat.mul_le_mul (show k ≤ 24 by omega) h2
     omega)
    clear hk1 hgg hk hk2 hlen
    go_wp2_with ((with_reducible refine gate_builtin (b := .append) (xs := #[.tmp 32,.tmp 33]) rfl ?_);at_builtin;refine Kd.R_append_rows (Kd.int .i64) (w0 := w) w.heap.size rfl (.tmp 32) (.tmp 33) 25 3 (.int .i64 0) 8 rfl Try.underlying25 info3 rfl (by decide) (by omega) u7 (rowsL M l3.length k) (G k) _ _ _ ok (fun _ => False) rfl rfl HO.out HC.out (fun _ _ h => h) (fun _ h => h.elim) ?aF HB.out HSZ.out HLN.out ?_;(case aF => exact fun x hx => by rw [HOK.out];exact ⟨by have := blk_lt HRW.out.top;omega,fun p hp => by have := blk_lt (HRW.out.row p hp);omega⟩);intro v9 w9 ho hb hg hat;have hoO := HO.out.1;rw [← rowsL_succ HL.out.2.1 HJ.out.2.2.1 (HRW.out.len _ HJ.out.2.2.1) HTR.out,← HJ.out.2.2.2] at ho;rw [HOK.out] at hoO;replace HRW := Aside0.mk (HRW.out.move (hg.block ob (blk_lt HRW.out.top) (fun e => (hoO ob e.symm).1 rfl)) (fun p hp => hg.block _ (blk_lt (HRW.out.row p hp)) (fun e => (hoO _ e.symm).2 p hp rfl)));replace HO := Aside0.mk ho;replace HB := Aside0.mk hb;clear ho hb hg hat hoO t1 HC HSZ HLN)
    obtain ⟨hk1,hgg,hk,hk2⟩ := HJ.out
    go_roundg (l0.length - k2)
    case measure => omega
    case rel => exact ⟨k2,(by first | rfl | exact f3 | exact (congrArg (Value.int .i64) (i64_w _)).trans f3),by omega,Nat.le_refl _,HO,HRW,HB⟩
   ·obtain rfl : k = l0.length := by omega
    have b1 : ((l0.length : Int) < (l0.length : Int)) = False := eq_false (by omega)
    clear hk hk1 hgg
    go_wp2
    go_ret
    exact ⟨_,rfl,Kd.R_mono HO.out (fun _ _ => trivial),HB.out⟩
end Go.Proofs.Ytngphdmbjenkaaa.X
namespace Go.Proofs.Ytngphdmbjenkaaa.X
open Go.RowKit Go.Proofs.YtngphdmbjenkaaaW.PrintWords Go.Proofs.YtngphdmbjenkaaaW.PrintLast Go.Proofs.YtngphdmbjenkaaaW.PrintMore
attribute [local go_sem] max2_int min2_int max_two min_two max_three min_three max_four min_four   -- for this text's walks alone
set_option linter.unusedVariables false
set_option linter.unusedSimpArgs false
noncomputable def impl_TreeDist.f (k : Nat) (l0 : List (S77)) (l1 : List (S77)) (l2_0 : List Int) (l2_1 : List Int) (l2_2 : List Int) : Option (Int) := (impl_TreeDists.f k l0 l1 l2_0 l2_1 l2_2).bind fun t1248 => (if (t1248.length : Int) = 0 then (some (-1)) else (if 0 ≤ (wrap64 ((t1248.length : Int) - 1)) then (if (wrap64 ((t1248.length : Int) - 1)) < (t1248.length : Int) then (some (rd t1248 (wrap64 ((t1248.length : Int) - 1)))) else (none)) else (none)))
set_option maxHeartbeats 8000000 in
set_option maxRecDepth 100000 in
theorem impl_TreeDist.calls (k : Nat) (A0 : Option Addr) (c0 : Nat) (l0 : List (S77)) (A1 : Option Addr) (c1 : Nat) (l1 : List (S77)) (A2_0 : Option Addr) (c2_0 : Nat) (l2_0 : List Int) (A2_1 : Option Addr) (c2_1 : Nat) (l2_1 : List Int) (A2_2 : Option Addr) (c2_2 : Nat) (l2_2 : List Int) (r : Int) (w : World) (hr0 : Kd.C k77 w A0 l0.length l0) (hc0 : l0.length ≤ c0) (hr1 : Kd.C k77 w A1 l1.length l1) (hc1 : l1.length ≤ c1) (hr2_0 : Kd.C (Kd.int .i64) w A2_0 l2_0.length l2_0) (hc2_0 : l2_0.length ≤ c2_0) (hr2_1 : Kd.C (Kd.int .i64) w A2_1 l2_1.length l2_1) (hc2_1 : l2_1.length ≤ c2_1) (hr2_2 : Kd.C (Kd.int .i64) w A2_2 l2_2.length l2_2) (hc2_2 : l2_2.length ≤ c2_2) (h : impl_TreeDist.f k l0 l1 l2_0 l2_1 l2_2 = some r) :
  Calls Try.prog 36 #[.slice A0 l0.length c0,.slice A1 l1.length c1,.agg #[.slice A2_0 l2_0.length c2_0,.slice A2_1 l2_1.length c2_1,.slice A2_2 l2_2.length c2_2]] w fun e w' => e = .returned (.int .i64 r) ∧ Below w.heap.size w w' := by
 have hu27 := Try.underlying27
 have HR0 := Aside0.mk hr0
 have HC0 := Aside0.mk hc0
 clear hr0 hc0
 have HR1 := Aside0.mk hr1
 have HC1 := Aside0.mk hc1
 clear hr1 hc1
 have HR2_0 := Aside0.mk hr2_0
 have HC2_0 := Aside0.mk hc2_0
 clear hr2_0 hc2_0
 have HR2_1 := Aside0.mk hr2_1
 have HC2_1 := Aside0.mk hc2_1
 clear hr2_1 hc2_1
 have HR2_2 := Aside0.mk hr2_2
 have HC2_2 := Aside0.mk hc2_2
 clear hr2_2 hc2_2
 have HB := Aside0.mk (Below.refl w.heap.size w)
 have H : ((impl_TreeDists.f k l0 l1 l2_0 l2_1 l2_2).bind fun t1248 => (if (t1248.length : Int) = 0 then (some (-1)) else (if 0 ≤ (wrap64 ((t1248.length : Int) - 1)) then (if (wrap64 ((t1248.length : Int) - 1)) < (t1248.length : Int) then (some (rd t1248 (wrap64 ((t1248.length : Int) - 1)))) else (none)) else (none)))) = some r := h
 clear h
 replace H := Option.bind_eq_some_iff.mp H
 obtain ⟨t1248,A40,H⟩ := H
 try dsimp only at H
 have A4 := Aside0.mk A40
 clear A40
 by_cases c5 : (t1248.length : Int) = 0
 ·rw [if_pos c5] at H
  have c5b0 : ((t1248.length : Int) == 0) = true := beq_iff_eq.mpr c5
  have c5b1 : ((t1248.length : Int) != 0) = false := bne_eq_false_iff_eq.mpr c5
  clear c5
  obtain rfl := Option.some.inj H
  go_enter Try.func36,Try.ntmps36
  go_wp2_with (first | ((with_reducible refine gate_dst (N := 5) rfl ?_);refine bx_ 5 #[.slice A2_0 l2_0.length c2_0,.slice A2_1 l2_1.length c2_1,.slice A2_2 l2_2.length c2_2] 27 ?_;intro gb1247 hg w6 hbox hb;have BK1247 := Aside0.mk (hbox);have GW1247 := Aside0.mk ((by rw [hg];exact (bs_ HB) : w.heap.size ≤ gb1247));have GE1247 := Aside0.mk ((by rw [hg];exact (bs_ HB) : w.heap.size ≤ gb1247));replace HB := tB_ HB hb;clear hb hbox hg;obtain ⟨hcz7_0,hcz7_1,hcz7_2,hfz7_0,hfz7_1,hfz7_2⟩ := bk3_ BK1247) | ((with_reducible refine gate_callee (f := 79) rfl ?_);refine gL_ (some 11) Try.func79 #[.slice A0 l0.length c0,.slice A1 l1.length c1,.agg #[.slice A2_0 l2_0.length c2_0,.slice A2_1 l2_1.length c2_1,.slice A2_2 l2_2.length c2_2]] ?_;(with_reducible refine (impl_TreeDists.calls k _ _ l0 _ _ l1 _ _ l2_0 _ _ l2_1 _ _ l2_2 t1248 _ (cx_ HR0 HB) HC0.out (cx_ HR1 HB) HC1.out (cx_ HR2_0 HB) HC2_0.out (cx_ HR2_1 HB) HC2_1.out (cx_ HR2_2 HB) HC2_2.out A4.out).mono ?_);rintro e w8 ⟨v1249,rfl,ho0,hb⟩;refine ⟨_,rfl,?_⟩;have HO1250 := Aside0.mk (Kd.R_lower ho0 (bs_ HB));replace BK1247 := tK_ BK1247 hb;replace HB := tB_ HB hb;(try clear hb);(try clear ho0);obtain ⟨Ao9,co9,eo9⟩ := Kd.R_slice HO1250.out;subst eo9))
  go_ret
  exact ⟨ea_,(bl_ HB).out⟩
 ·rw [if_neg c5] at H
  have c5b0 : ((t1248.length : Int) == 0) = false := beq_eq_false_iff_ne.mpr c5
  have c5b1 : ((t1248.length : Int) != 0) = true := bne_iff_ne.mpr c5
  have c5b2 : ¬ (t1248 = []) := fun h_ => c5 (by rw [h_];rfl)
  obtain ⟨ji10,hji10⟩ : ∃ j_ : Int,(wrap64 ((t1248.length : Int) - 1)) = j_ := ⟨_,rfl⟩
  replace H : (if 0 ≤ (ji10) then (if (ji10) < (t1248.length : Int) then (some (rd t1248 (ji10))) else (none)) else (none)) = some r := by first | (rw [hji10] at H;exact H) | (simp only [hji10] at H ⊢;exact H)
  (try rw [hji10] at A4)
  have hji10w : (IntKind.i64.wrap ((t1248.length : Int) - 1)) = ji10 := (i64_w _).trans hji10
  by_cases c11 : 0 ≤ (ji10)
  ·rw [if_pos c11] at H
   have c11b0 : decide (0 ≤ (ji10)) = true := decide_eq_true c11
   clear c11
   by_cases c12 : (ji10) < (t1248.length : Int)
   ·rw [if_pos c12] at H
    have c12b0 : decide ((ji10) < (t1248.length : Int)) = true := decide_eq_true c12
    clear c12
    obtain rfl := Option.some.inj H
    go_enter Try.func36,Try.ntmps36
    go_wp2_with (first | ((with_reducible refine gate_dst (N := 5) rfl ?_);refine bx_ 5 #[.slice A2_0 l2_0.length c2_0,.slice A2_1 l2_1.length c2_1,.slice A2_2 l2_2.length c2_2] 27 ?_;intro gb1247 hg w13 hbox hb;have BK1247 := Aside0.mk (hbox);have GW1247 := Aside0.mk ((by rw [hg];exact (bs_ HB) : w.heap.size ≤ gb1247));have GE1247 := Aside0.mk ((by rw [hg];exact (bs_ HB) : w.heap.size ≤ gb1247));replace HB := tB_ HB hb;clear hb hbox hg;obtain ⟨hcz14_0,hcz14_1,hcz14_2,hfz14_0,hfz14_1,hfz14_2⟩ := bk3_ BK1247) | ((with_reducible refine gate_callee (f := 79) rfl ?_);refine gL_ (some 11) Try.func79 #[.slice A0 l0.length c0,.slice A1 l1.length c1,.agg #[.slice A2_0 l2_0.length c2_0,.slice A2_1 l2_1.length c2_1,.slice A2_2 l2_2.length c2_2]] ?_;(with_reducible refine (impl_TreeDists.calls k _ _ l0 _ _ l1 _ _ l2_0 _ _ l2_1 _ _ l2_2 t1248 _ (cx_ HR0 HB) HC0.out (cx_ HR1 HB) HC1.out (cx_ HR2_0 HB) HC2_0.out (cx_ HR2_1 HB) HC2_1.out (cx_ HR2_2 HB) HC2_2.out A4.out).mono ?_);rintro e w15 ⟨v1249,rfl,ho0,hb⟩;refine ⟨_,rfl,?_⟩;have HO1250 := Aside0.mk (Kd.R_lower ho0 (bs_ HB));replace BK1247 := tK_ BK1247 hb;replace HB := tB_ HB hb;(try clear hb);(try clear ho0);obtain ⟨Ao16,co16,eo16⟩ := Kd.R_slice HO1250.out;subst eo16;have p1251 : 0 ≤ ((ji10) : Int) := od_;have q1251 : (ji10) < (t1248.length : Int) := od_;obtain ⟨ad1251,e1251,hx1251_0⟩ := Kd.at_int (Kd.R_reads' HO1250.out).2.2 (ji10) p1251 q1251;cases e1251;replace p1251 := eq_true p1251;replace q1251 := eq_true q1251))
    go_ret
    exact ⟨by first | rfl | (simp [errW_none,errW_some] <;> rfl) | (simp only [← hji10];first | rfl | (simp [errW_none,errW_some] <;> rfl)) | (simp [*,errW_none,errW_some] <;> rfl),(bl_ HB).out⟩
   ·rw [if_neg c12] at H
    exact absurd H (by simp)
  ·rw [if_neg c11] at H
   exact absurd H (by simp)
end Go.Proofs.Ytngphdmbjenkaaa.X
namespace Go.Proofs.Ytngphdmbjenkaaa.Q
open Go.RowKit Go.Proofs.YtngphdmbjenkaaaW.PrintWords Go.Proofs.YtngphdmbjenkaaaW.PrintLast Go.Proofs.YtngphdmbjenkaaaW.PrintMore Go.Proofs.Ytngphdmbjenkaaa.X Go.Proofs.Ytngphdmbjenkaaa.Rd
set_option linter.unusedVariables false
set_option linter.unusedSimpArgs false
theorem tdB_len (a b : List NodeI) (d n r : List Int) : (tdB a b d n r).length ≤ 576 := by
  unfold tdB
  by_cases h : okAB a b d n r = true
  · rw [if_pos h]
    obtain ⟨ta,tb,_⟩ := okAB_iff.1 h
    unfold tdL
    rw [List.length_map,List.length_range]
    exact Nat.mul_le_mul ta.len24 tb.len24
  · rw [if_neg h]
    exact Nat.zero_le _
noncomputable def lastB (l : List Int) : Int := if l.length = 0 then -1 else rd l ((l.length - 1 : Nat) : Int)
theorem implTreeDist_ev (a b : List NodeI) (d n r : List Int) : Ev (fun k => impl_TreeDist.f k a b d n r) (lastB (tdB a b d n r)) := by
  unfold impl_TreeDist.f
  refine Ev.bind (impl_TreeDists.ev a b d n r) ?_
  have hl := tdB_len a b d n r
  generalize tdB a b d n r = t at hl
  unfold lastB
  by_cases h : t.length = 0
  · rw [if_pos h]
    exact Ev.ifT (by omega) (Ev.now _)
  · rw [if_neg h]
    have hw : wrap64 ((t.length : Int) - 1) = ((t.length - 1 : Nat) : Int) := by unfold wrap64;omega
    rw [hw]
    exact Ev.ifF (by omega) (Ev.ifT (by omega) (Ev.ifT (by omega) (Ev.now _)))
theorem lastB_ok {a b : List NodeI} {d n r : List Int} (ta : Tr a) (tb : Tr b) (hc : Co d n r) : lastB (tdB a b d n r) = Ted.TD (msOf a b d n r) (a.length - 1) (b.length - 1) := by
  have la := ta.len1
  have lb := tb.len1
  have hl : (tdL a b d n r).length = a.length * b.length := by unfold tdL;rw [List.length_map,List.length_range]
  have hp := Nat.mul_pos la lb
  have e : a.length * b.length - 1 = (a.length - 1) * b.length + (b.length - 1) := by
    obtain ⟨x,hx⟩ : ∃ x,a.length = x + 1 := ⟨a.length - 1,by omega⟩
    rw [hx,Nat.succ_mul]
    have : x + 1 - 1 = x := by omega
    rw [this]
    omega
  unfold tdB
  rw [if_pos (okAB_iff.2 ⟨ta,tb,hc⟩)]
  unfold lastB
  rw [if_neg (by omega),hl,e]
  unfold tdL
  rw [rd_map (f := fun x : Nat => Ted.TD (msOf a b d n r) (x / b.length) (x % b.length)) (by rw [← e];omega)]
  show Ted.TD _ (((a.length - 1) * b.length + (b.length - 1)) / b.length) (((a.length - 1) * b.length + (b.length - 1)) % b.length) = _
  rw [Nat.add_comm,Nat.add_mul_div_right _ _ lb,Nat.div_eq_of_lt (show b.length - 1 < b.length by omega),Nat.zero_add,Nat.add_mul_mod_self_right,Nat.mod_eq_of_lt (show b.length - 1 < b.length by omega)]
theorem lastB_no {a b : List NodeI} {d n r : List Int} (h : ¬ (Tr a ∧ Tr b ∧ Co d n r)) : lastB (tdB a b d n r) = -1 := by
  unfold tdB
  rw [if_neg (by rw [okAB_false h];simp)]
  rfl
end Go.Proofs.Ytngphdmbjenkaaa.Q
namespace Go.Proofs.Ytngphdmbjenkaaa.Q
open Go.RowKit Go.Proofs.YtngphdmbjenkaaaW.PrintWords Go.Proofs.YtngphdmbjenkaaaW.PrintLast Go.Proofs.YtngphdmbjenkaaaW.PrintMore Go.Proofs.Ytngphdmbjenkaaa.X Go.Proofs.Ytngphdmbjenkaaa.Rd
set_option linter.unusedVariables false
set_option linter.unusedSimpArgs false
def swapN (r : List Int) (n : Nat) : List Int := (List.range n).map fun x => r.getD (x % 6 * 6 + x / 6) 0
def swapR (r : List Int) : List Int := if r.length = 36 then swapN r 36 else []
theorem swapN_len (r : List Int) (n : Nat) : (swapN r n).length = n := by simp [swapN]
theorem swapN_succ (r : List Int) (n : Nat) : swapN r (n + 1) = swapN r n ++ [r.getD (n % 6 * 6 + n / 6) 0] := by
  unfold swapN
  rw [List.range_succ,List.map_append]
  rfl
theorem swap_at {r : List Int} (h : r.length = 36) {p q : Nat} (hp : p < 6) (hq : q < 6) : (swapR r).getD (6 * p + q) 0 = r.getD (6 * q + p) 0 := by
  unfold swapR
  rw [if_pos h]
  unfold swapN
  rw [List.getD_eq_getElem?_getD,List.getElem?_map,List.getElem?_range (by omega)]
  show r.getD ((6 * p + q) % 6 * 6 + (6 * p + q) / 6) 0 = _
  rw [show (6 * p + q) % 6 * 6 + (6 * p + q) / 6 = 6 * q + p by omega]
theorem swap_len {r : List Int} : (swapR r).length = 36 ↔ r.length = 36 := by
  unfold swapR
  by_cases h : r.length = 36
  · rw [if_pos h,swapN_len];exact ⟨fun _ => h,fun _ => rfl⟩
  · rw [if_neg h];exact ⟨fun x => by simp at x,fun x => absurd x h⟩
theorem getD_mem {l : List Int} {x : Nat} (h : x < l.length) : l.getD x 0 ∈ l := by
  rw [List.getD_eq_getElem?_getD,List.getElem?_eq_getElem h]
  exact List.getElem_mem h
theorem swap_co {d i r : List Int} (h : Co d i r) : Co i d (swapR r) := by
  have hl := h.rl
  refine ⟨h.il,h.dl,swap_len.2 hl,h.ip,h.dp,fun x hx => ?_,fun a ha => ?_⟩
  · unfold swapR swapN at hx
    rw [if_pos hl,List.mem_map] at hx
    obtain ⟨y,hy,rfl⟩ := hx
    rw [List.mem_range] at hy
    exact h.rp _ (getD_mem (by omega))
  · have e := swap_at hl ha ha
    rw [show 6 * a + a = 7 * a by omega] at e
    rw [e]
    exact h.diag a ha
theorem swap_back {d i r : List Int} (h : Co i d (swapR r)) : Co d i r := by
  have hl := swap_len.1 h.rl
  refine ⟨h.il,h.dl,hl,h.ip,h.dp,fun x hx => ?_,fun a ha => ?_⟩
  · obtain ⟨y,hy,rfl⟩ := List.getElem_of_mem hx
    have e := swap_at hl (p := y % 6) (q := y / 6) (by omega) (by omega)
    rw [show 6 * (y / 6) + y % 6 = y by omega] at e
    have e2 : r.getD y 0 = r[y] := by rw [List.getD_eq_getElem?_getD,List.getElem?_eq_getElem hy];rfl
    have hm := getD_mem (l := swapR r) (x := 6 * (y % 6) + y / 6) (by rw [h.rl];omega)
    rw [e,e2] at hm
    exact h.rp _ hm
  · have e := swap_at hl ha ha
    rw [show 6 * a + a = 7 * a by omega] at e
    rw [← e]
    exact h.diag a ha
theorem swap_ok (a b : List NodeI) (d i r : List Int) : okAB b a i d (swapR r) = okAB a b d i r := by
  by_cases h : Tr a ∧ Tr b ∧ Co d i r
  · rw [okAB_iff.2 h,okAB_iff.2 ⟨h.2.1,h.1,swap_co h.2.2⟩]
  · rw [okAB_false h,okAB_false fun k => h ⟨k.2.1,k.1,swap_back k.2.2⟩]
theorem lab_lt6 {l : List NodeI} (t : Tr l) (x : Nat) : (lab l (nodeN l x)).toNat < 6 := by
  have h1 := t.len1
  have hx : nodeN l x < l.length := by
    by_cases hx : x < l.length
    · exact nodeN_lt t hx
    · have e : nodeN l x = 0 := by
        unfold nodeN
        rw [List.getD_eq_getElem?_getD,List.getElem?_eq_none (by rw [pst_len t];omega)]
        rfl
      omega
  have c := t.chk _ hx
  have := c.l0
  have := c.l5
  omega
theorem swap_ms {a b : List NodeI} {d i r : List Int} (ta : Tr a) (tb : Tr b) (h : Co d i r) : msOf b a i d (swapR r) = Ted.turn (msOf a b d i r) := by
  unfold msOf Ted.turn
  simp only [Ted.Ms.mk.injEq,true_and]
  exact funext fun y => funext fun x => swap_at h.rl (lab_lt6 tb y) (lab_lt6 ta x)
theorem swap_rd (a b : List NodeI) (d i r : List Int) : rdB b a i d (swapR r) = rdB a b d i r := by
  unfold rdB
  rw [swap_ok]
  by_cases h : okAB a b d i r = true
  · rw [if_pos h,if_pos h]
    obtain ⟨ta,tb,hc⟩ := okAB_iff.1 h
    rw [swap_ms ta tb hc]
    unfold Ted.rootD
    rw [Ted.D_turn _ _ 0 (a.length - 1) 0 (b.length - 1) (Nat.le_refl _)]
    rfl
  · rw [if_neg h,if_neg h]
theorem swap_td (a b : List NodeI) (d i r : List Int) : lastB (tdB b a i d (swapR r)) = lastB (tdB a b d i r) := by
  by_cases h : Tr a ∧ Tr b ∧ Co d i r
  · obtain ⟨ta,tb,hc⟩ := h
    rw [lastB_ok ta tb hc,lastB_ok tb ta (swap_co hc),swap_ms ta tb hc]
    unfold Ted.TD
    exact Ted.D_turn (msOf a b d i r) _ _ _ _ _ (Nat.le_refl _)
  · rw [lastB_no h,lastB_no fun k => h ⟨k.2.1,k.1,swap_back k.2.2⟩]
end Go.Proofs.Ytngphdmbjenkaaa.Q
namespace Go.Proofs.Ytngphdmbjenkaaa.X
open Go.RowKit Go.Proofs.YtngphdmbjenkaaaW.PrintWords Go.Proofs.YtngphdmbjenkaaaW.PrintLast Go.Proofs.YtngphdmbjenkaaaW.PrintMore Go.Proofs.Ytngphdmbjenkaaa.Q
set_option linter.unusedVariables false
set_option linter.unusedSimpArgs false
theorem swapped_l {d i r : List Int} (hr : r.length = 36) (e : Nat) : ∀ x : Nat,x + e = 36 → Ev (fun k => laws_swapped.l0 k 6 (x : Int) d i r i d (swapN r x)) (i,d,swapN r 36) := by
 have w1 : wrap64 (6 * 6) = 36 := by simp [wrap64]
 induction e with
 | zero =>
  intro x hx
  obtain rfl : x = 36 := by omega
  refine Ev.step (fun _ => rfl) ?_
  simp only [laws_swapped.l0,w1]
  exact Ev.ifF (by omega) (Ev.now _)
 | succ e ih =>
  intro x hx
  have t1 : Int.tmod (x : Int) 6 = ((x % 6 : Nat) : Int) := by rw [Int.tmod_eq_emod_of_nonneg (by omega)];omega
  have t2 : Int.tdiv (x : Int) 6 = ((x / 6 : Nat) : Int) := by rw [Int.tdiv_eq_ediv_of_nonneg (by omega)];omega
  have t3 : wrap64 (wrap64 (((x % 6 : Nat) : Int) * 6) + wrap64 ((x / 6 : Nat) : Int)) = ((x % 6 * 6 + x / 6 : Nat) : Int) := by
   have e1 : wrap64 (((x % 6 : Nat) : Int) * 6) = ((x % 6 : Nat) : Int) * 6 := by unfold wrap64;omega
   have e2 : wrap64 ((x / 6 : Nat) : Int) = ((x / 6 : Nat) : Int) := by unfold wrap64;omega
   rw [e1,e2]
   unfold wrap64
   omega
  have t4 : wrap64 ((x : Int) + 1) = ((x + 1 : Nat) : Int) := by unfold wrap64;omega
  have t5 : rd r ((x % 6 * 6 + x / 6 : Nat) : Int) = r.getD (x % 6 * 6 + x / 6) 0 := by unfold rd;rw [Int.toNat_natCast]
  have h := ih (x + 1) (by omega)
  rw [swapN_succ] at h
  refine Ev.step (fun _ => rfl) ?_
  simp only [laws_swapped.l0,w1,t1,t2,t3,t4,t5]
  exact Ev.ifT (by omega) (Ev.ifT (by omega) (Ev.ifF (by decide) (Ev.ifT (by omega) (Ev.ifT (by omega) (Ev.ifT (by rw [swapN_len];omega) h)))))
theorem swapped_ev {d i r : List Int} (hd : d.length ≤ 1000) (hi : i.length ≤ 1000) : Ev (fun k => laws_swapped.f k d i r) (i,d,swapR r) := by
 have w1 : wrap64 (6 * 6) = 36 := by simp [wrap64]
 unfold laws_swapped.f
 simp only [Option.bind_some]
 refine Ev.ifT (by simp;omega) (Ev.ifT (by simp;omega) ?_)
 rw [List.nil_append,List.nil_append]
 unfold swapR
 by_cases h : r.length = 36
 ·rw [if_pos h]
  exact swapped_l h 36 0 rfl
 ·rw [if_neg h]
  refine Ev.step (fun _ => rfl) ?_
  simp only [laws_swapped.l0,w1]
  exact Ev.ifT (by omega) (Ev.ifF (by omega) (Ev.now _))
theorem swapped_v {w W1 : World} {p : Ad} {a b : List NdI} {d i r : List Int} (h : Ar w p a b d i r) [c : Ch w W1] :
  Calls Try.prog 34 #[.agg #[.slice p.A0 d.length p.c0,.slice p.A1 i.length p.c1,.slice p.A2 r.length p.c2]] W1 fun e w' => ∃ (B0 : Option Addr) (k0 : Nat) (B1 : Option Addr) (k1 : Nat) (B2 : Option Addr) (k2 : Nat),e = .returned (.agg #[.slice B0 i.length k0,.slice B1 d.length k1,.slice B2 (swapR r).length k2]) ∧ Ar w' ⟨p.Ab,p.cb,p.Aa,p.ca,B0,k0,B1,k1,B2,k2⟩ b a i d (swapR r) ∧ Below w.heap.size w w' := by
 have g := h.ch (W' := W1)
 have l0 := h.l0
 have l1 := h.l1
 have l2 : (swapR r).length ≤ 40 := by
  unfold swapR
  by_cases h : r.length = 36
  ·rw [if_pos h,swapN_len];omega
  ·rw [if_neg h];exact Nat.zero_le _
 obtain ⟨k,hk⟩ := (swapped_ev (d := d) (i := i) (r := r) (by omega) (by omega)).rounds
 refine (laws_swapped.calls k p.A0 p.c0 d p.A1 p.c1 i p.A2 p.c2 r _ _ _ W1 g.h0 g.k0 g.h1 g.k1 g.h2 g.k2 hk).mono ?_
 rintro e w' ⟨v0,v1,v2,rfl,r0,r1,r2,hb⟩
 obtain ⟨B0,k0,rfl⟩ := Kd.R_slice r0
 obtain ⟨B1,k1,rfl⟩ := Kd.R_slice r1
 obtain ⟨B2,k2,rfl⟩ := Kd.R_slice r2
 obtain ⟨_,s0,t0⟩ := Kd.R_reads' r0
 obtain ⟨_,s1,t1⟩ := Kd.R_reads' r1
 obtain ⟨_,s2,t2⟩ := Kd.R_reads' r2
 have g2 := g.below hb
 exact ⟨B0,k0,B1,k1,B2,k2,rfl,⟨g2.hb,g2.kb,g2.ha,g2.ka,t0,s0,t1,s1,t2,s2,g2.lb,g2.la,l1,l0,l2⟩,below_step c.out hb⟩
end Go.Proofs.Ytngphdmbjenkaaa.X
namespace Go.Proofs.Ytngphdmbjenkaaa.X
open Go.RowKit Go.Proofs.YtngphdmbjenkaaaW.PrintWords Go.Proofs.YtngphdmbjenkaaaW.PrintLast Go.Proofs.YtngphdmbjenkaaaW.PrintMore Go.Proofs.Ytngphdmbjenkaaa.Q
set_option linter.unusedVariables false
set_option linter.unusedSimpArgs false
section
variable {w W1 : World} {p : Ad} {a b : List NdI} {d i r : List Int}
theorem treeDist_v (h : Ar w p a b d i r) [c : Ch w W1] : Calls Try.prog 36 #[.slice p.Aa a.length p.ca,.slice p.Ab b.length p.cb,.agg #[.slice p.A0 d.length p.c0,.slice p.A1 i.length p.c1,.slice p.A2 r.length p.c2]] W1 fun e w' => e = .returned (.int .i64 (lastB (tdB a b d i r))) ∧ Below w.heap.size w w' := by
 obtain ⟨k,hk⟩ := (implTreeDist_ev a b d i r).rounds
 have g := h.ch (W' := W1)
 exact (impl_TreeDist.calls k p.Aa p.ca a p.Ab p.cb b p.A0 p.c0 d p.A1 p.c1 i p.A2 p.c2 r _ W1 g.ha g.ka g.hb g.kb g.h0 g.k0 g.h1 g.k1 g.h2 g.k2 hk).mono fun e w' ⟨he,hb⟩ => ⟨he,below_step c.out hb⟩
theorem specRoot_v (h : Ar w p a b d i r) [c : Ch w W1] : Calls Try.prog 28 #[.slice p.Aa a.length p.ca,.slice p.Ab b.length p.cb,.agg #[.slice p.A0 d.length p.c0,.slice p.A1 i.length p.c1,.slice p.A2 r.length p.c2]] W1 fun e w' => e = .returned (.int .i64 (rdB a b d i r)) ∧ Below w.heap.size w w' := by
 have g := h.ch (W' := W1)
 have la := h.la
 have lb := h.lb
 have l0 := h.l0
 have l1 := h.l1
 have l2 := h.l2
 obtain ⟨k,hk⟩ := (spec_RootDist.ev (⟨by omega,by omega,by omega,by omega,by omega⟩ : Fit a b d i r)).rounds
 exact (spec_RootDist.calls k p.Aa p.ca a p.Ab p.cb b p.A0 p.c0 d p.A1 p.c1 i p.A2 p.c2 r _ W1 g.ha g.ka g.hb g.kb g.h0 g.k0 g.h1 g.k1 g.h2 g.k2 hk).mono fun e w' ⟨he,hb⟩ => ⟨he,below_step c.out hb⟩
end
set_option maxRecDepth 100000 in
set_option maxHeartbeats 8000000 in
theorem laws_FnBothWays.calls (A0 : Option Addr) (c0 : Nat) (l0 : List Int) (w : World) (hr0 : Kd.C (Kd.int .u8) w A0 l0.length l0) (hc0 : l0.length ≤ c0) :
  Calls Try.prog 7 #[.slice A0 l0.length c0] w fun e w' => e = .returned (.bool true) ∧ Below w.heap.size w w' := by
 have HC := Aside0.mk hr0
 clear hr0
 by_cases hbig : (l0.length : Int) > 1048576
 ·have hq : decide ((l0.length : Int) > 1048576) = true := decide_eq_true hbig
  have HV := Aside0.mk (fun W (c : Ch w W) => big_v (W1 := W) HC.out hc0)
  rw [hq] at HV
  clear hq hbig
  go_enter Try.func7,Try.ntmps7
  go_wp2_with (go_at_call 12;refine (HV.out _ inferInstance).mono ?_;rintro e w1 ⟨rfl,hb⟩;have HB := Aside0.mk hb;clear hb)
  go_ret
  exact ⟨rfl,HB.out⟩
 ·have hl : l0.length ≤ 1048576 := by omega
  have hq : decide ((l0.length : Int) > 1048576) = false := decide_eq_false hbig
  have HV := Aside0.mk (fun W (c : Ch w W) => big_v (W1 := W) HC.out hc0)
  rw [hq] at HV
  clear hq hbig
  have hu := Try.underlying27
  go_enter Try.func7,Try.ntmps7
  go_upto_region 4 with (first | (go_at_call 12;refine (HV.out _ inferInstance).mono ?_;rintro e w1 ⟨rfl,hb⟩;have HB := Aside0.mk hb;clear hb) | (go_at_call 35;refine (DrawRootDist_r A0 c0 l0 w1 (Kd.C_below HC.out HB.out) hc0 hl).mono ?_;rintro e w2 hd;obtain ⟨p,a,b,d,i,r,rfl,har,hb⟩ := hd.ar;have HL := Aside0.mk (ls_new har (below_step HB.out hb));clear hd har hb))
  obtain ⟨kx,hkx⟩ : ∃ kx,kx = w2.heap.size := ⟨_,rfl⟩
  rw [← hkx] at HL ⊢
  clear hkx HB HV HC
  generalize w2.alloc (.cells #[.slice p.A0 d.length p.c0,.slice p.A1 i.length p.c1,.slice p.A2 r.length p.c2] 27) = w3 at HL ⊢
  obtain ⟨y0,y1,y2,f0,f1,f2⟩ := HL.out.box
  go_upto_region 5 with (go_at_call 34;refine (swapped_v HL.out.ar).mono ?_;rintro e w4 ⟨B0,k0,B1,k1,B2,k2,rfl,har,hb⟩;replace HL := Aside0.mk (HL.out.below hb);have HQ := Aside0.mk (ls_new har HL.out.bel);replace HL := Aside0.mk (HL.out.below (below_alloc (Below.refl w4.heap.size w4) (.cells #[.slice B0 i.length k0,.slice B1 d.length k1,.slice B2 (swapR r).length k2] 27)));clear har hb y0 y1 y2 f0 f1 f2)
  obtain ⟨kz,hkz⟩ : ∃ kz,kz = w4.heap.size := ⟨_,rfl⟩
  rw [← hkz] at HQ ⊢
  clear hkz
  generalize w4.alloc (.cells #[.slice B0 i.length k0,.slice B1 d.length k1,.slice B2 (swapR r).length k2] 27) = w5 at HL HQ ⊢
  obtain ⟨y0,y1,y2,f0,f1,f2⟩ := HL.out.box
  obtain ⟨y3,y4,y5,f3,f4,f5⟩ := HQ.out.box
  obtain ⟨x,hx⟩ : ∃ x,x = rdB a b d i r := ⟨_,rfl⟩
  obtain ⟨z,hz⟩ : ∃ z,z = lastB (tdB a b d i r) := ⟨_,rfl⟩
  have HX := Aside0.mk (show rdB a b d i r = x ∧ rdB b a i d (swapR r) = x ∧ lastB (tdB a b d i r) = z ∧ lastB (tdB b a i d (swapR r)) = z from ⟨hx.symm,(swap_rd a b d i r).trans hx.symm,hz.symm,(swap_td a b d i r).trans hz.symm⟩)
  clear hx hz
  go_region_held3 (fun w' => w'.cell? ⟨kx,0,none⟩ = some (.slice p.A0 d.length p.c0) ∧ w'.cell? ⟨kx,1,none⟩ = some (.slice p.A1 i.length p.c1) ∧ w'.cell? ⟨kx,2,none⟩ = some (.slice p.A2 r.length p.c2) ∧ w'.cell? ⟨kz,0,none⟩ = some (.slice B0 i.length k0) ∧ w'.cell? ⟨kz,1,none⟩ = some (.slice B1 d.length k1) ∧ w'.cell? ⟨kz,2,none⟩ = some (.slice B2 (swapR r).length k2)) (first | exact ⟨y0,y1,y2,y3,y4,y5⟩) ((first | (go_at_call 18;((with_reducible refine (rootDist_v HL.out.ar).mono ?_));rw [HX.out.1];rintro e v1 ⟨rfl,hb⟩;replace HL := Aside0.mk (HL.out.below hb);replace HQ := Aside0.mk (HQ.out.below hb);clear hb y0 y1 y2 f0 f1 f2 y3 y4 y5 f3 f4 f5;obtain ⟨y0,y1,y2,f0,f1,f2⟩ := HL.out.box;obtain ⟨y3,y4,y5,f3,f4,f5⟩ := HQ.out.box) | (go_at_call 18;((with_reducible refine (rootDist_v HQ.out.ar).mono ?_));rw [HX.out.2.1];rintro e v2 ⟨rfl,hb⟩;replace HL := Aside0.mk (HL.out.below hb);replace HQ := Aside0.mk (HQ.out.below hb);clear hb y0 y1 y2 f0 f1 f2 y3 y4 y5 f3 f4 f5;obtain ⟨y0,y1,y2,f0,f1,f2⟩ := HL.out.box;obtain ⟨y3,y4,y5,f3,f4,f5⟩ := HQ.out.box) | (go_at_call 36;((with_reducible refine (treeDist_v HL.out.ar).mono ?_));rw [HX.out.2.2.1];rintro e v3 ⟨rfl,hb⟩;replace HL := Aside0.mk (HL.out.below hb);replace HQ := Aside0.mk (HQ.out.below hb);clear hb y0 y1 y2 f0 f1 f2 y3 y4 y5 f3 f4 f5;obtain ⟨y0,y1,y2,f0,f1,f2⟩ := HL.out.box;obtain ⟨y3,y4,y5,f3,f4,f5⟩ := HQ.out.box) | (go_at_call 36;((with_reducible refine (treeDist_v HQ.out.ar).mono ?_));rw [HX.out.2.2.2];rintro e v4 ⟨rfl,hb⟩;replace HL := Aside0.mk (HL.out.below hb);replace HQ := Aside0.mk (HQ.out.below hb);clear hb y0 y1 y2 f0 f1 f2 y3 y4 y5 f3 f4 f5;obtain ⟨y0,y1,y2,f0,f1,f2⟩ := HL.out.box;obtain ⟨y3,y4,y5,f3,f4,f5⟩ := HQ.out.box) | (go_at_call 28;((with_reducible refine (specRoot_v HL.out.ar).mono ?_));rw [HX.out.1];rintro e v5 ⟨rfl,hb⟩;replace HL := Aside0.mk (HL.out.below hb);replace HQ := Aside0.mk (HQ.out.below hb);clear hb y0 y1 y2 f0 f1 f2 y3 y4 y5 f3 f4 f5;obtain ⟨y0,y1,y2,f0,f1,f2⟩ := HL.out.box;obtain ⟨y3,y4,y5,f3,f4,f5⟩ := HQ.out.box)))
  go_wp2
  go_ret
  exact ⟨rfl,HL.out.bel⟩
end Go.Proofs.Ytngphdmbjenkaaa.X
