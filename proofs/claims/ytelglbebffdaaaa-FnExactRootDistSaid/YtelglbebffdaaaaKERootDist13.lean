/- Part 13 of the proof of FnExactRootDist: what it needs. -/
import Derived.Deep.Cut
import Derived.Test.YtelglbebffdaaaaKERootDist3
import Derived.Test.YtelglbebffdaaaaKERootDist4
import Derived.Test.YtelglbebffdaaaaKERootDist6
import Derived.Test.YtelglbebffdaaaaKERootDist9
import Derived.Test.YtelglbebffdaaaaKERootDist10
import Derived.Test.YtelglbebffdaaaaKERootDist11
import Derived.Test.YtelglbebffdaaaaKERootDist12
namespace Go.Proofs.Ytelglbebffdaaaa.X
open Go.RowKit Go.Proofs.YtelglbebffdaaaaW.PrintWords Go.Proofs.YtelglbebffdaaaaW.PrintLast Go.Proofs.YtelglbebffdaaaaW.PrintMore Go.Proofs.Ytelglbebffdaaaa.Q
set_option linter.unusedVariables false
set_option linter.unusedSimpArgs false
theorem krL_range (l : List NodeI) : krL l = (List.range (kR (lfN l) l.length l.length).length).map fun x => (kAt (lfN l) l.length x : Int) := by
 unfold krL natsI
 apply List.ext_getElem?
 intro j
 by_cases h : j < (kR (lfN l) l.length l.length).length
 ·rw [List.getElem?_map, List.getElem?_map, List.getElem?_range h, List.getElem?_eq_getElem h]
  rw [Option.map_some, Option.map_some]
  unfold kAt
  rw [List.getD_eq_getElem?_getD, List.getElem?_eq_getElem h]
  rfl
 ·rw [List.getElem?_eq_none (by simp; omega), List.getElem?_eq_none (by simp; omega)]
theorem RV.only {W W1 : World} {lo hi b : Nat} {v : Value} {n : Nat} {f : Nat → Int} (h : RV W lo hi v n f) (k : Only b W W1) (hb : b < lo ∨ hi ≤ b) : RV W1 lo hi v n f := by
 obtain ⟨g, c, e, hc, h1, h2, h3⟩ := h.is
 exact ⟨g, c, e, hc, h1, h2, fun p hp => k.cell (by rw [add_block]; show g ≠ b; omega) (h3 p hp)⟩
theorem blk_only {b g : Nat} {W W1 : World} {o : Obj} (h : W.heap[g]? = some o) (k : Only b W W1) (hg : g ≠ b) : W1.heap[g]? = some o :=
 (k.block g (blk_lt h) (fun e => hg (Option.some.inj e))).trans h
theorem below_onlyB {b B : Nat} {w W W1 : World} (h : Below B w W) (k : Only b W W1) (hB : B ≤ b) (hs : B ≤ W.heap.size) : Below B w W1 :=
 ⟨k.os.trans h.os, k.tape.trans h.tape, k.output.trans h.output, Nat.le_trans h.size k.size, fun i hi => (k.block i (by omega) (fun e => by cases e; omega)).trans (h.block i hi)⟩
structure Y8 (M : Ted.Ms) (A B : Nat) (X Y : Nat → Nat) (w0 : World) (g bt : Nat) (a0 a1 a2 a3 a4 a5 a6 : Addr) (c0 c1 c2 c3 c4 c5 c6 : Nat) (w : World) : Prop where
 box : w.heap[g]? = some (.cells #[.slice (some a0) A c0, .slice (some a1) B c1, .slice (some a2) A c2, .slice (some a3) B c3, .slice (some a4) 6 c4, .slice (some a5) 6 c5, .slice (some a6) 36 c6] 103 (0, 0))
 rs : Rs M A B X Y bt a0 a1 a2 a3 a4 a5 a6 w
 gt : g ≠ bt
 lo : w0.heap.size ≤ bt
 bel : Below w0.heap.size w0 w
section
variable {M : Ted.Ms} {A B : Nat} {X Y : Nat → Nat} {w0 w w' : World} {g bt : Nat} {a0 a1 a2 a3 a4 a5 a6 : Addr} {c0 c1 c2 c3 c4 c5 c6 : Nat}
theorem Y8.only (h : Y8 M A B X Y w0 g bt a0 a1 a2 a3 a4 a5 a6 c0 c1 c2 c3 c4 c5 c6 w) (k : Only bt w w') : Y8 M A B X Y w0 g bt a0 a1 a2 a3 a4 a5 a6 c0 c1 c2 c3 c4 c5 c6 w' :=
 ⟨blk_only h.box k h.gt, h.rs.only k, h.gt, h.lo, below_onlyB h.bel k h.lo h.bel.size⟩
theorem Y8.boxes (h : Y8 M A B X Y w0 g bt a0 a1 a2 a3 a4 a5 a6 c0 c1 c2 c3 c4 c5 c6 w) :
  w.cell? ⟨g, 0, none⟩ = some (.slice (some a0) A c0) ∧ w.cell? ⟨g, 1, none⟩ = some (.slice (some a1) B c1) ∧ w.cell? ⟨g, 2, none⟩ = some (.slice (some a2) A c2) ∧ w.cell? ⟨g, 3, none⟩ = some (.slice (some a3) B c3) ∧
   w.cell? ⟨g, 4, none⟩ = some (.slice (some a4) 6 c4) ∧ w.cell? ⟨g, 5, none⟩ = some (.slice (some a5) 6 c5) ∧ w.cell? ⟨g, 6, none⟩ = some (.slice (some a6) 36 c6) :=
 ⟨(blk_cell h.box 0).trans rfl, (blk_cell h.box 1).trans rfl, (blk_cell h.box 2).trans rfl, (blk_cell h.box 3).trans rfl, (blk_cell h.box 4).trans rfl, (blk_cell h.box 5).trans rfl, (blk_cell h.box 6).trans rfl⟩
end
theorem rs_start {a b : List NodeI} {d n r : List Int} (ta : Tr a) (tb : Tr b) (hc : Co d n r) {w W : World} {A2 A3 A4 : Option Addr} {bt lo0 hi0 lo1 hi1 lo2 hi2 lo3 hi3 : Nat} {v0 v1 v2 v3 : Value} (hB : Below w.heap.size w W) (hbt : w.heap.size ≤ bt)
  (h0 : RV W lo0 hi0 v0 a.length (fun x => lab a (nodeN a x))) (h1 : RV W lo1 hi1 v1 b.length (fun x => lab b (nodeN b x))) (h2 : RV W lo2 hi2 v2 a.length (fun x => (lfN a x : Int))) (h3 : RV W lo3 hi3 v3 b.length (fun x => (lfN b x : Int)))
  (l0 : bt < lo0) (l1 : bt < lo1) (l2 : bt < lo2) (l3 : bt < lo3)
  (hr2 : Kd.C (Kd.int .i64) w A2 d.length d) (hr3 : Kd.C (Kd.int .i64) w A3 n.length n) (hr4 : Kd.C (Kd.int .i64) w A4 r.length r) :
  ∃ a0 a1 a2 a3 a4 a5 a6 k0 k1 k2 k3, v0 = .slice (some a0) a.length k0 ∧ v1 = .slice (some a1) b.length k1 ∧ v2 = .slice (some a2) a.length k2 ∧ v3 = .slice (some a3) b.length k3 ∧ A2 = some a4 ∧ A3 = some a5 ∧ A4 = some a6 ∧
   Rs (msOf a b d n r) a.length b.length (fun p => (lab a (nodeN a p)).toNat) (fun q => (lab b (nodeN b q)).toNat) bt a0 a1 a2 a3 a4 a5 a6 W := by
 have la : ∀ p, p < a.length → 0 ≤ lab a (nodeN a p) ∧ lab a (nodeN a p) ≤ 5 := fun p hp => ⟨(ta.chk _ (nodeN_lt ta hp)).l0, (ta.chk _ (nodeN_lt ta hp)).l5⟩
 have lb : ∀ p, p < b.length → 0 ≤ lab b (nodeN b p) ∧ lab b (nodeN b p) ≤ 5 := fun p hp => ⟨(tb.chk _ (nodeN_lt tb hp)).l0, (tb.chk _ (nodeN_lt tb hp)).l5⟩
 have hd := hc.dl
 have hi := hc.il
 have hr := hc.rl
 obtain ⟨g0, k0, e0, _, m0, _, q0⟩ := h0.is
 obtain ⟨g1, k1, e1, _, m1, _, q1⟩ := h1.is
 obtain ⟨g2, k2, e2, _, m2, _, q2⟩ := h2.is
 obtain ⟨g3, k3, e3, _, m3, _, q3⟩ := h3.is
 have price : ∀ {A : Option Addr} {l : List Int} {N : Nat}, l.length = N → 0 < N → Kd.C (Kd.int .i64) w A l.length l → ∃ ad, A = some ad ∧ ad.block ≠ bt ∧ ∀ p, p < N → W.cell? (ad.add p) = some (.int .i64 (l.getD p 0)) := by
  intro A l N hl hN h
  obtain ⟨ad, rfl, hz⟩ := Kd.at_int h 0 (by omega) (by omega)
  refine ⟨ad, rfl, ?_, fun p hp => ?_⟩
  ·have := World.block_lt_of_cell? w _ hz
   rw [add_block] at this
   omega
  ·obtain ⟨ad', e, hx⟩ := Kd.at_int h (p : Int) (by omega) (by omega)
   cases e
   rw [Int.toNat_natCast] at hx
   exact pw_cell_below hB hx
 obtain ⟨a4, e4, n4, q4⟩ := price hd (by omega) hr2
 obtain ⟨a5, e5, n5, q5⟩ := price hi (by omega) hr3
 obtain ⟨a6, e6, n6, q6⟩ := price hr (by omega) hr4
 refine ⟨⟨g0, 0, none⟩, ⟨g1, 0, none⟩, ⟨g2, 0, none⟩, ⟨g3, 0, none⟩, a4, a5, a6, k0, k1, k2, k3, e0, e1, e2, e3, e4, e5, e6, fun p hp => ?_, fun q hq => ?_, q2, q3, fun p hp => ?_, fun q hq => ?_, fun p q hp hq => ?_, by show g0 ≠ bt; omega, by show g1 ≠ bt; omega, by show g2 ≠ bt; omega, by show g3 ≠ bt; omega, n4, n5, n6⟩
 ·have := la p hp
  rw [q0 p hp, Int.toNat_of_nonneg this.1]
 ·have := lb q hq
  rw [q1 q hq, Int.toNat_of_nonneg this.1]
 ·have := la p hp
  exact q4 _ (by omega)
 ·have := lb q hq
  exact q5 _ (by omega)
 ·have := la p hp
  have := lb q hq
  exact q6 _ (by omega)
structure La8 (M : Ted.Ms) (A B bt i j : Nat) (v : Value) (w : World) : Prop where
 is : ∃ (bf : Nat) (L : List Int), v = .slice (some ⟨bf, 0, none⟩) ((kAt M.la A i - M.la (kAt M.la A i) + 2) * (kAt M.lb B j - M.lb (kAt M.lb B j) + 2)) ((kAt M.la A i - M.la (kAt M.la A i) + 2) * (kAt M.lb B j - M.lb (kAt M.lb B j) + 2)) ∧ bf ≠ bt ∧ Blk w bf L ∧
  Tab M (M.la (kAt M.la A i)) (M.lb (kAt M.lb B j)) (kAt M.lb B j - M.lb (kAt M.lb B j) + 2) ((kAt M.la A i - M.la (kAt M.la A i) + 2) * (kAt M.lb B j - M.lb (kAt M.lb B j) + 2)) (fun u _ => u ≤ kAt M.la A i - M.la (kAt M.la A i) + 1) L
theorem La8.only {M : Ted.Ms} {A B bt i j : Nat} {v : Value} {w w' : World} (h : La8 M A B bt i j v w) (k : Only bt w w') : La8 M A B bt i j v w' := by
 obtain ⟨bf, L, e, hn, hb, ht⟩ := h.is
 exact ⟨bf, L, e, hn, blk_only hb k hn, ht⟩
theorem done_pair {M : Ted.Ms} {A B : Nat} {o : Nat → Nat → Int} {i j : Nat} (hla : ∀ p, p < A → M.la p ≤ p) (hlb : ∀ q, q < B → M.lb q ≤ q) (hi : i < (kR M.la A A).length) (hj : j < (kR M.lb B B).length) (h : Ted.Done M A B o (kAt M.la A i) (kAt M.lb B j)) :
  Ted.Done M A B (trs M o (kAt M.la A i) (kAt M.lb B j) (kAt M.la A i + 1) 0) (kAt M.la A i) (kAt M.lb B (j + 1)) := by
 refine h.next (kAt_rep hi) (kAt_rep hj) (fun p hp e _ => by rw [← e]; exact hla p hp) (fun q hq e _ => by rw [← e]; exact hlb q hq) (fun p q _ _ => ?_) (fun k hk hl => kAt_next hj hk hl)
 unfold trs
 by_cases c : M.la (kAt M.la A i) ≤ p ∧ p ≤ kAt M.la A i ∧ M.lb (kAt M.lb B j) ≤ q ∧ q ≤ kAt M.lb B j ∧ M.la p = M.la (kAt M.la A i) ∧ M.lb q = M.lb (kAt M.lb B j)
 ·rw [if_pos c, if_pos ⟨c.1, c.2.1, c.2.2.1, c.2.2.2.1, c.2.2.2.2.1, c.2.2.2.2.2, by omega⟩]
 ·rw [if_neg c, if_neg (fun z => c ⟨z.1, z.2.1, z.2.2.1, z.2.2.2.1, z.2.2.2.2.1, z.2.2.2.2.2.1⟩)]
theorem done_start {M : Ted.Ms} {A B : Nat} (o : Nat → Nat → Int) : Ted.Done M A B o (kAt M.la A 0) (kAt M.lb B 0) := by
 intro p q i k hp hq hi hk hl
 have h1 : ∀ {l : Nat → Nat} {n x : Nat}, x < n → Ted.Rep l n x x → kAt l n 0 ≤ x := by
  intro l n x hx hr
  obtain ⟨y, hy, e⟩ := List.getElem_of_mem (kR_mem.2 hr)
  have hs := kR_sorted l n n
  have ex : kAt l n 0 = (kR l n n)[0]'(by omega) := by unfold kAt; rw [List.getD_eq_getElem?_getD, List.getElem?_eq_getElem (by omega)]; rfl
  by_cases c : y = 0
  ·subst c; omega
  ·have := List.pairwise_iff_getElem.1 hs 0 y (by omega) hy (by omega)
   omega
 have a1 := h1 hi.lt hi.self
 have a2 := h1 hk.lt hk.self
 omega
theorem done_row {M : Ted.Ms} {A B : Nat} {o : Nat → Nat → Int} {i K : Nat} (hi : i < (kR M.la A A).length) (h : Ted.Done M A B o (kAt M.la A i) K) (hK : B ≤ K) : Ted.Done M A B o (kAt M.la A (i + 1)) (kAt M.lb B 0) := by
 have h0 := h.round (I' := kAt M.la A (i + 1)) (fun k hk => by have := hk.lt; omega) (fun x hx hl => kAt_next hi hx hl)
 intro p q x y hp hq hx hy hl
 refine h0 p q x y hp hq hx hy ?_
 rcases hl with hl | ⟨e, hl⟩
 ·exact .inl hl
 ·exfalso
  have := hx.self
  subst e
  have a2 : kAt M.lb B 0 ≤ y := by
   obtain ⟨z, hz, ez⟩ := List.getElem_of_mem (kR_mem.2 hy.self)
   have hs := kR_sorted M.lb B B
   have ex : kAt M.lb B 0 = (kR M.lb B B)[0]'(by omega) := by unfold kAt; rw [List.getD_eq_getElem?_getD, List.getElem?_eq_getElem (by omega)]; rfl
   by_cases c : z = 0
   ·subst c; omega
   ·have := List.pairwise_iff_getElem.1 hs 0 z (by omega) hz (by omega)
    omega
  omega
theorem blk_all {A B : Nat} (n : Nat) (h : n = A * B) : Trs A B (fun _ _ => 0) (List.replicate n 0) := by
 subst h
 refine ⟨List.length_replicate, fun p q _ _ => ?_⟩
 rw [List.getD_eq_getElem?_getD, List.getElem?_replicate]
 split <;> rfl
section
variable {P : Program} {ops : Array Oper} {o : Oper} {a : Act} {Q : Exit → Act → World → Prop} {Kc : Act → World → Prop}
theorem put_step {W : World} (hw : Region.wanted o (yielded ops a.tmps) = true) (ty : TypeId) (x y : Operand) (ho : o.op = .store ty x y) (g : Nat) (cs old : Array Value) (t : TypeId) (hx : a.eval x = .pointer (some ⟨g, 0, none⟩)) (hy : a.eval y = .agg cs)
  (hg : W.heap[g]? = some (.cells old t (0, 0))) (hi : (P.info? ty).map (·.size) = some cs.size) (hold : old.size = cs.size) (h1 : cs.all (·.oneCell') = true)
  (h : ∀ w1, w1.heap[g]? = some (.cells cs t (0, 0)) → Only g W w1 → Kc (a.put o.dst undef) w1) : if Region.wanted o (yielded ops a.tmps) = true then Oper.wp P o a W Kc Q else Kc (a.put o.dst undef) W := by
 rw [if_pos hw]
 refine wp_store_row ty x y ho g cs hx hy t old hg hi hold h1 (h _ (setRow_heap W g old cs t (0, 0) hg) ⟨rfl, rfl, rfl, by rw [size_setRow]; exact Nat.le_refl _, fun k _ hk => setRow_other W g k cs (fun e => hk (by rw [e]))⟩)
end
structure NS8 (w : World) (g5 bt : Nat) (T : List Int) (x0 x1 x2 : Value) (w' : World) : Prop where
 c0 : w'.cell? ⟨g5, 0, none⟩ = some x0
 c1 : w'.cell? ⟨g5, 1, none⟩ = some x1
 c2 : w'.cell? ⟨g5, 2, none⟩ = some x2
 bel : Below w.heap.size w w'
 tb : Blk w' bt T
theorem NS8.step {w w1 w2 : World} {g5 bt : Nat} {T : List Int} {x0 x1 x2 : Value} (h : NS8 w g5 bt T x0 x1 x2 w1) (k : Below w1.heap.size w1 w2) : NS8 w g5 bt T x0 x1 x2 w2 :=
 ⟨pw_cell_below k h.c0, pw_cell_below k h.c1, pw_cell_below k h.c2, below_step h.bel k, blk_below h.tb k⟩
theorem NS8.store {w w1 w2 : World} {g g5 bt : Nat} {T : List Int} {x0 x1 x2 : Value} (h : NS8 w g5 bt T x0 x1 x2 w1) (h1 : g5 ≠ g) (h2 : bt ≠ g) (h3 : w.heap.size ≤ g) (k : Only g w1 w2) : NS8 w g5 bt T x0 x1 x2 w2 :=
 ⟨k.cell h1 h.c0, k.cell h1 h.c1, k.cell h1 h.c2, below_onlyB h.bel k h3 h.bel.size, blk_only h.tb k h2⟩
theorem all8_meet {a b : List NodeI} {d n r : List Int} (ta : Tr a) (tb : Tr b) (hc : Co d n r) {w wl W : World} {A2 A3 A4 : Option Addr} {c2 c3 c4 g g5 bt g0 g1 g2 g3 k0 k1 k2 k3 lo0 hi0 lo1 hi1 lo2 hi2 lo3 hi3 : Nat} {T : List Int} {x0 x1 x2 : Value}
  (hr2 : Kd.C (Kd.int .i64) w A2 d.length d) (hr3 : Kd.C (Kd.int .i64) w A3 n.length n) (hr4 : Kd.C (Kd.int .i64) w A4 r.length r) (hbt : w.heap.size ≤ bt) (hH : NS8 w g5 bt T x0 x1 x2 W) (hN : Only g wl W) (hgb : g ≠ bt)
  (hO : W.heap[g]? = some (.cells #[.slice (some ⟨g0, 0, none⟩) a.length k0, .slice (some ⟨g1, 0, none⟩) b.length k1, .slice (some ⟨g2, 0, none⟩) a.length k2, .slice (some ⟨g3, 0, none⟩) b.length k3, .slice A2 6 c2, .slice A3 6 c3, .slice A4 36 c4] 103 (0, 0)))
  (q0 : RV wl lo0 hi0 (.slice (some ⟨g0, 0, none⟩) a.length k0) a.length (fun x => lab a (nodeN a x))) (z0 : bt < lo0 ∧ (g < lo0 ∨ hi0 ≤ g)) (q1 : RV wl lo1 hi1 (.slice (some ⟨g1, 0, none⟩) b.length k1) b.length (fun x => lab b (nodeN b x))) (z1 : bt < lo1 ∧ (g < lo1 ∨ hi1 ≤ g))
  (q2 : RV wl lo2 hi2 (.slice (some ⟨g2, 0, none⟩) a.length k2) a.length (fun x => (lfN a x : Int))) (z2 : bt < lo2 ∧ (g < lo2 ∨ hi2 ≤ g)) (q3 : RV wl lo3 hi3 (.slice (some ⟨g3, 0, none⟩) b.length k3) b.length (fun x => (lfN b x : Int))) (z3 : bt < lo3 ∧ (g < lo3 ∨ hi3 ≤ g)) :
  ∃ (g' : Nat) (a0 a1 a2 a3 a4 a5 a6 : Addr) (k0 k1 k2 k3 : Nat), Value.pointer (some ⟨g, 0, none⟩) = Value.pointer (some ⟨g', 0, none⟩) ∧ Aside0 (Y8 (msOf a b d n r) a.length b.length (fun p => (lab a (nodeN a p)).toNat) (fun q => (lab b (nodeN b q)).toNat) w g' bt a0 a1 a2 a3 a4 a5 a6 k0 k1 k2 k3 c2 c3 c4 W) ∧ Aside0 (Blk W bt T) := by
 obtain ⟨a0, a1, a2, a3, a4, a5, a6, m0, m1, m2, m3, e0, e1, e2, e3, e4, e5, e6, hrs⟩ := rs_start ta tb hc hH.bel hbt (q0.only hN z0.2) (q1.only hN z1.2) (q2.only hN z2.2) (q3.only hN z3.2) z0.1 z1.1 z2.1 z3.1 hr2 hr3 hr4
 cases e0; cases e1; cases e2; cases e3
 subst e4 e5 e6
 exact ⟨g, _, _, _, _, _, _, _, _, _, _, _, rfl, ⟨⟨hO, hrs, hgb, hbt, hH.bel⟩⟩, ⟨hH.tb⟩⟩
structure KC (g n bt : Nat) (f : Nat → Nat) (w : World) : Prop where
 ne : g ≠ bt
 c : ∀ x, x < n → w.cell? ⟨g, x, none⟩ = some (.int .i64 (f x : Int))
theorem KC.only {g n bt : Nat} {f : Nat → Nat} {w w' : World} (h : KC g n bt f w) (k : Only bt w w') : KC g n bt f w' := ⟨h.ne, fun x hx => k.cell h.ne (h.c x hx)⟩
theorem RV.kc {w : World} {lo hi g n c bt : Nat} {f : Nat → Nat} (h : RV w lo hi (.slice (some ⟨g, 0, none⟩) n c) n (fun x => (f x : Int))) (hb : bt < lo) : KC g n bt f w := by
 obtain ⟨g', c', e, hc, h1, h2, h3⟩ := h.is
 cases e
 refine ⟨by omega, fun x hx => ?_⟩
 have := h3 x hx
 rwa [add_plain] at this
structure Par8 (M : Ted.Ms) (A B : Nat) (X Y : Nat → Nat) : Prop where
 hs : Small M
 hA : A ≤ 24
 hB : B ≤ 24
 pA : 0 < A
 pB : 0 < B
 lamA : Ted.Lam M.la A
 lamB : Ted.Lam M.lb B
 hla : ∀ p, p < A → M.la p ≤ p
 hlb : ∀ q, q < B → M.lb q ≤ q
 hX : ∀ p, p < A → X p < 6
 hY : ∀ q, q < B → Y q < 6
 rA : M.la (A - 1) = 0
 rB : M.lb (B - 1) = 0
theorem par8 {a b : List NodeI} {d n r : List Int} (ta : Tr a) (tb : Tr b) (hc : Co d n r) : Par8 (msOf a b d n r) a.length b.length (fun p => (lab a (nodeN a p)).toNat) (fun q => (lab b (nodeN b q)).toNat) := by
 have la : ∀ p, p < a.length → 0 ≤ lab a (nodeN a p) ∧ lab a (nodeN a p) ≤ 5 := fun p hp => ⟨(ta.chk _ (nodeN_lt ta hp)).l0, (ta.chk _ (nodeN_lt ta hp)).l5⟩
 have lb : ∀ p, p < b.length → 0 ≤ lab b (nodeN b p) ∧ lab b (nodeN b p) ≤ 5 := fun p hp => ⟨(tb.chk _ (nodeN_lt tb hp)).l0, (tb.chk _ (nodeN_lt tb hp)).l5⟩
 exact ⟨msOf_small hc, ta.len24, tb.len24, ta.len1, tb.len1, lfN_lam ta, lfN_lam tb, fun p hp => lfN_le ta hp, fun q hq => lfN_le tb hq, fun p hp => by have := la p hp; omega, fun q hq => by have := lb q hq; omega, lfN_last ta, lfN_last tb⟩
theorem step8 {M : Ted.Ms} {A B : Nat} {X Y : Nat → Nat} (P : Par8 M A B X Y) {i j I J nt : Nat} (hi : i < (kR M.la A A).length) (hj : j < (kR M.lb B B).length) (hI : I = kAt M.la A i) (hJ : J = kAt M.lb B j) (hnt : nt = A * B) {w0 w : World} {g bt : Nat} {a0 a1 a2 a3 a4 a5 a6 : Addr} {c0 c1 c2 c3 c4 c5 c6 : Nat} {T : List Int} {o : Nat → Nat → Int}
  (hy : Y8 M A B X Y w0 g bt a0 a1 a2 a3 a4 a5 a6 c0 c1 c2 c3 c4 c5 c6 w) (ht : Blk w bt T) (hu : Trs A B o T) (hd : Ted.Done M A B o (kAt M.la A i) (kAt M.lb B j)) :
  Calls Try.prog 86 #[.agg #[.slice (some a0) A c0, .slice (some a1) B c1, .slice (some a2) A c2, .slice (some a3) B c3, .slice (some a4) 6 c4, .slice (some a5) 6 c5, .slice (some a6) 36 c6], .int .i64 (I : Int), .int .i64 (J : Int), .slice (some ⟨bt, 0, none⟩) nt nt] w fun e w' =>
   ∃ (v : Value) (T' : List Int) (o' : Nat → Nat → Int), e = .returned v ∧ Only bt w w' ∧ Blk w' bt T' ∧ Trs A B o' T' ∧ Ted.Done M A B o' (kAt M.la A i) (kAt M.lb B (j + 1)) ∧ La8 M A B bt i j v w' := by
 subst hnt hI hJ
 have r1 := kAt_rep hi
 have r2 := kAt_rep hj
 refine (forest8 P.hs P.hA P.hB P.lamA P.lamB P.hla P.hlb P.hX P.hY r1.lt r2.lt o (fun p q h1 h2 h3 h4 h5 => hd.fill P.lamA P.lamB P.hla P.hlb r1 r2 h1 h2 h3 h4 h5) w bt _ a0 a1 a2 a3 a4 a5 a6 c0 c1 c2 c3 c4 c5 c6 T ht hu hy.rs).mono ?_
 rintro e w' ⟨bf, L, T', rfl, hbf, hL, hTab, hO, hT, hTr⟩
 have := blk_lt ht
 exact ⟨_, T', _, rfl, hO, hT, hTr, done_pair P.hla P.hlb hi hj hd, ⟨bf, L, rfl, by omega, hL, hTab⟩⟩
theorem La8.done {M : Ted.Ms} {A B : Nat} {X Y : Nat → Nat} (P : Par8 M A B X Y) {bt i j : Nat} {v : Value} {w : World} (h : La8 M A B bt i j v w) (hi : i + 1 = (kR M.la A A).length) (hj : j + 1 = (kR M.lb B B).length) :
  ∃ (bf : Nat) (L : List Int), v = .slice (some ⟨bf, 0, none⟩) ((A + 1) * (B + 1)) ((A + 1) * (B + 1)) ∧ bf ≠ bt ∧ Blk w bf L ∧ Tab M 0 0 (B + 1) ((A + 1) * (B + 1)) (fun u _ => u ≤ A) L := by
 obtain ⟨bf, L, e, hn, hb, ht⟩ := h.is
 have pA := P.pA
 have pB := P.pB
 rw [kAt_last pA hi, kAt_last pB hj, P.rA, P.rB, show A - 1 - 0 + 2 = A + 1 by omega, show B - 1 - 0 + 2 = B + 1 by omega] at e ht
 exact ⟨bf, L, e, hn, hb, ht.mono fun u v _ hh => by omega⟩
theorem results_tt {P : Program} {fn : Func} {u v : Tmp} (h : fn.results = #[.tmp u, .tmp v]) (tmps : Array Value) (w : World) : (results fn tmps).run P w = .ok (.tuple #[tmps.getD u undef, tmps.getD v undef]) w := by simp [results, h]
def l8AllR.T3 : Bool × List (List Nat × List Nat) := (true, [([], []), ([0], [0]), ([], []), ([2, 1], [2]), ([], []), ([4, 3], [4]), ([], []), ([6, 5], [6]), ([], []), ([1, 3, 5, 7, 8], [1, 3, 5, 7, 8]), ([], []), ([10, 9, 7, 0, 1, 2, 3, 4, 5, 6, 7, 8, 9, 10], [9, 10])])
def l8AllR.B3 : List Nat := [0, 1, 0, 7, 0, 31, 0, 127, 0, 511, 0, 2047]
theorem l8AllR.tab3 : rtab .any (opsOf Try.f61 3) = l8AllR.T3 := by kernel_rfl
theorem l8AllR.bits3 : waitsOk l8AllR.T3.2 l8AllR.B3 = true := by kernel_rfl
set_option maxHeartbeats 16000000 in
set_option maxRecDepth 100000 in
theorem all8 (q : Nat) (A0 : Option Addr) (c0 : Nat) (a : List S53) (A1 : Option Addr) (c1 : Nat) (b : List S53) (A2 : Option Addr) (c2 : Nat) (d : List Int) (A3 : Option Addr) (c3 : Nat) (n : List Int) (A4 : Option Addr) (c4 : Nat) (r : List Int) (w : World)
  (ta : Tr a) (tb : Tr b) (hco : Co d n r) (hr0 : Kd.C k53 w A0 a.length a) (hc0 : a.length ≤ c0) (hr1 : Kd.C k53 w A1 b.length b) (hc1 : b.length ≤ c1)
  (hr2 : Kd.C (Kd.int .i64) w A2 d.length d) (hc2 : d.length ≤ c2) (hr3 : Kd.C (Kd.int .i64) w A3 n.length n) (hc3 : n.length ≤ c3) (hr4 : Kd.C (Kd.int .i64) w A4 r.length r) (hc4 : r.length ≤ c4)
  (ha : spec_l8Labels.f q a = some (labL a)) (hb : spec_l8Labels.f q b = some (labL b)) (hc : spec_LeftLeaf.f q a = some (lfL a)) (hd : spec_LeftLeaf.f q b = some (lfL b)) (hka : spec_KeyRoots.f q a = some (krL a)) (hkb : spec_KeyRoots.f q b = some (krL b)) :
  Calls Try.prog 61 #[.slice A0 a.length c0, .slice A1 b.length c1, .agg #[.slice A2 d.length c2, .slice A3 n.length c3, .slice A4 r.length c4]] w fun e w' => ∃ (bt bf : Nat) (T L : List Int),
   e = .returned (.tuple #[.slice (some ⟨bt, 0, none⟩) (a.length * b.length) (a.length * b.length), .slice (some ⟨bf, 0, none⟩) ((a.length + 1) * (b.length + 1)) ((a.length + 1) * (b.length + 1))]) ∧ Below w.heap.size w w' ∧ w.heap.size ≤ bt ∧ bf ≠ bt ∧ Blk w' bt T ∧ Trs a.length b.length (Ted.TD (msOf a b d n r)) T ∧ Blk w' bf L ∧
    Tab (msOf a b d n r) 0 0 (b.length + 1) ((a.length + 1) * (b.length + 1)) (fun u _ => u ≤ a.length) L := by
 have hu := Try.underlying31
 have hu2 := Try.underlying103
 have la := ta.len1
 have lb := tb.len1
 have a24 := ta.len24
 have b24 := tb.len24
 obtain ⟨nt, hnt, hntl, f1⟩ : ∃ nt : Nat, nt = a.length * b.length ∧ nt ≤ 1000000 ∧ Vi (wrap64 ((a.length : Int) * (b.length : Int))) (nt : Int) :=
  ⟨_, rfl, by have := mul26 (a := a.length) (b := b.length) (by omega) (by omega); omega, vi (w_mul rfl (by have := mul26 (a := a.length) (b := b.length) (by omega) (by omega); omega))⟩
 obtain ⟨nf, hnf⟩ : ∃ nf, nf = (a.length + 1) * (b.length + 1) := ⟨_, rfl⟩
 obtain ⟨M, hM⟩ : ∃ M, M = msOf a b d n r := ⟨_, rfl⟩
 have eA : lfN a = M.la := by rw [hM]; rfl
 have eB : lfN b = M.lb := by rw [hM]; rfl
 have HP := par8 ta tb hco
 rw [← hM] at HP ⊢
 replace HP := Aside0.mk HP
 have HM := Aside0.mk hM
 have HEA := Aside0.mk eA
 have HEB := Aside0.mk eB
 clear hM eA eB
 rw [← hnt, ← hnf, hco.dl, hco.il, hco.rl]
 have HNT := Aside0.mk hnt
 have HNF := Aside0.mk hnf
 have HNL := Aside0.mk hntl
 have HTA := Aside0.mk ta
 have HTB := Aside0.mk tb
 have HCO := Aside0.mk hco
 have Ha := Aside0.mk ha
 have Hb := Aside0.mk hb
 have Hc := Aside0.mk hc
 have Hd := Aside0.mk hd
 have Hka := Aside0.mk hka
 have Hkb := Aside0.mk hkb
 have HR0 := Aside0.mk hr0
 have HR1 := Aside0.mk hr1
 have HR2 := Aside0.mk hr2
 have HR3 := Aside0.mk hr3
 have HR4 := Aside0.mk hr4
 have HC0 := Aside0.mk hc0
 have HC1 := Aside0.mk hc1
 have HL := Aside0.mk (And.intro la (And.intro lb (And.intro a24 b24)))
 clear hnt hnf hntl ta tb hco ha hb hc hd hka hkb hr0 hr1 hr2 hr3 hr4 hc0 hc1 hc2 hc3 hc4 a24 b24
 go_enter Try.func61, Try.ntmps61
 go_upto_region 3 with (first | ((with_reducible refine gate_dst (N := 5) rfl ?_); refine bx_ 5 #[.slice A2 6 c2, .slice A3 6 c3, .slice A4 36 c4] 31 ?_; intro g5 hg5 w1 hb1 hb2; have HG := Aside0.mk hb1; have HG2 := Aside0.mk hb2; have HG3 := Aside0.mk hg5; clear hb1 hb2 hg5) | ((with_reducible refine gate_dst (N := 20) rfl ?_); refine make_w rfl (N := 20) rfl 23 _ _ rfl nt f1 f1 Try.underlying23 info3 HNL.out ?_; intro bt hbt w2 hf2 hb2; have HF := Aside0.mk hf2; have HF2 := Aside0.mk hb2; have HF3 := Aside0.mk hbt; clear hf2 hb2 hbt))
 obtain ⟨wz, hwz⟩ : ∃ wz, wz = w2.alloc (.cells #[] 3) := ⟨_, rfl⟩
 rw [← hwz]
 obtain ⟨h0, h1, HN⟩ : w.heap.size ≤ g5 ∧ g5 < bt ∧ NS8 w g5 bt (List.replicate nt 0) (.slice A2 6 c2) (.slice A3 6 c3) (.slice A4 36 c4) wz.drew := by
  subst hwz
  have e1 := HG3.out
  have e2 := HF3.out
  have e3 := blk_lt HG.out
  have hb : Below w2.heap.size w2 (w2.alloc (.cells #[] 3)) := below_alloc (Below.refl _ _) _
  have hx := blk_below (blk_below HG.out HF2.out) hb
  exact ⟨by omega, by omega, (blk_cell hx 0).trans rfl, (blk_cell hx 1).trans rfl, (blk_cell hx 2).trans rfl, below_drew (below_step (below_step HG2.out HF2.out) hb), show Blk (w2.alloc (.cells #[] 3)) bt _ from blk_below HF.out hb⟩
 have s0 := HN.bel.size
 have s1 := blk_lt HN.tb
 have HX := Aside0.mk (show w.heap.size ≤ bt by omega)
 clear HG HG2 HG3 HF HF2 HF3 hwz
 go_cut [10] from 22 (fun c10 wx => ∃ (g : Nat) (a0 a1 a2 a3 a4 a5 a6 : Addr) (k0 k1 k2 k3 : Nat), c10 = .pointer (some ⟨g, 0, none⟩) ∧ Aside0 (Y8 M a.length b.length (fun p => (lab a (nodeN a p)).toNat) (fun q => (lab b (nodeN b q)).toNat) w g bt a0 a1 a2 a3 a4 a5 a6 k0 k1 k2 k3 c2 c3 c4 wx) ∧ Aside0 (Blk wx bt (List.replicate nt 0)))
 case first =>
  rename_i J1 K1 hJ1 hK1
  go_wp2
  refine start_ (n := 12) (S := NS8 w g5 bt (List.replicate nt 0) (.slice A2 6 c2) (.slice A3 6 c3) (.slice A4 36 c4)) (ds := []) (ba_ 12 0) (by kernel_rfl) rfl rfl HN (fun hHeld => ?_)
  refine with_tabW l8AllR.tab3 l8AllR.bits3 (fun HT_ HW_ => ?_)
  refine pu_ 0 (some 22) (ba_ 12 1) rfl rfl (any_of HT_.out (by kernel_rfl)) ?_
  refine pu_ 2 (some 24) (ba_ 12 5) rfl rfl (any_of HT_.out (by kernel_rfl)) ?_
  refine pu_ 4 (some 26) (ba_ 12 21) rfl rfl (any_of HT_.out (by kernel_rfl)) ?_
  refine pu_ 6 (some 28) (ba_ 12 85) rfl rfl (any_of HT_.out (by kernel_rfl)) ?_
  refine ta_ 8 (some 30) (ba_ 12 341) rfl rfl (take_ofW HT_.out HW_.out (by kernel_rfl)) hHeld (by rintro w' ⟨c0, c1, c2, sb, tb⟩; go_simp; with_reducible rfl) ?_
  refine two_ (i := 1) (j := 10) (Ni := some 23) (Nj := some 10) (ba_ 12 343) (ba_ 12 1365) rfl rfl rfl rfl (two_of HT_.out (by kernel_rfl)) (by decide) (by decide) (fun K hK => ?_) (fun K hK => ?_)
  ·refine goes_ Try.func81 (by kernel_rfl) rfl #[.slice A0 a.length c0] (by rfl) rfl rfl (by simp only [List.map_toArray, List.map_cons, List.map_nil]; rfl) ?_
   refine (spec_l8Labels.calls q A0 c0 a _ _ (Kd.C_below HR0.out hHeld.bel) HC0.out Ha.out).mono ?_
   rintro e w23 ⟨v23, rfl, o23, b23⟩
   have r23 := row_iv (f := fun x => lab a (nodeN a x)) o23 la
   clear o23
   obtain ⟨g23, k23, rfl⟩ := r23.val
   refine ⟨_, rfl, ?_⟩
   have O23 := Aside0.mk r23
   have B23 := Aside0.mk b23
   have s23 := b23.size
   refine hK.out _ _ (hHeld.step b23) (fun hHeld => ?_)
   clear r23 b23
   clear hK K
   refine norm_ (a' := ?_) ?_ ?_
   rotate_left
   ·show Act.put _ (some 23) _ = _
    simp only [Act.put, List.setIfInBounds_toArray, List.set_cons_zero, List.set_cons_succ, i64_w, i32_w]
    rfl
   refine two_ (i := 3) (j := 10) (Ni := some 25) (Nj := some 10) (ba_ 12 351) (ba_ 12 1367) rfl rfl rfl rfl (two_of HT_.out (by kernel_rfl)) (by decide) (by decide) (fun K hK => ?_) (fun K hK => ?_)
   ·refine goes_ Try.func81 (by kernel_rfl) rfl #[.slice A1 b.length c1] (by rfl) rfl rfl (by simp only [List.map_toArray, List.map_cons, List.map_nil]; rfl) ?_
    refine (spec_l8Labels.calls q A1 c1 b _ _ (Kd.C_below HR1.out hHeld.bel) HC1.out Hb.out).mono ?_
    rintro e w25 ⟨v25, rfl, o25, b25⟩
    have r25 := row_iv (f := fun x => lab b (nodeN b x)) o25 lb
    clear o25
    obtain ⟨g25, k25, rfl⟩ := r25.val
    refine ⟨_, rfl, ?_⟩
    have O25 := Aside0.mk r25
    have B25 := Aside0.mk b25
    have s25 := b25.size
    refine hK.out _ _ (hHeld.step b25) (fun hHeld => ?_)
    clear r25 b25
    clear hK K
    refine norm_ (a' := ?_) ?_ ?_
    rotate_left
    ·show Act.put _ (some 25) _ = _
     simp only [Act.put, List.setIfInBounds_toArray, List.set_cons_zero, List.set_cons_succ, i64_w, i32_w]
     rfl
    refine two_ (i := 5) (j := 10) (Ni := some 27) (Nj := some 10) (ba_ 12 383) (ba_ 12 1375) rfl rfl rfl rfl (two_of HT_.out (by kernel_rfl)) (by decide) (by decide) (fun K hK => ?_) (fun K hK => ?_)
    ·refine goes_ Try.func48 (by kernel_rfl) rfl #[.slice A0 a.length c0] (by rfl) rfl rfl (by simp only [List.map_toArray, List.map_cons, List.map_nil]; rfl) ?_
     refine (spec_LeftLeaf.calls q A0 c0 a _ _ (Kd.C_below HR0.out hHeld.bel) HC0.out Hc.out).mono ?_
     rintro e w27 ⟨v27, rfl, o27, b27⟩
     have r27 := row_iv (f := fun x => (lfN a x : Int)) o27 la
     clear o27
     obtain ⟨g27, k27, rfl⟩ := r27.val
     refine ⟨_, rfl, ?_⟩
     have O27 := Aside0.mk r27
     have B27 := Aside0.mk b27
     have s27 := b27.size
     refine hK.out _ _ (hHeld.step b27) (fun hHeld => ?_)
     clear r27 b27
     clear hK K
     refine norm_ (a' := ?_) ?_ ?_
     rotate_left
     ·show Act.put _ (some 27) _ = _
      simp only [Act.put, List.setIfInBounds_toArray, List.set_cons_zero, List.set_cons_succ, i64_w, i32_w]
      rfl
     refine two_ (i := 7) (j := 10) (Ni := some 29) (Nj := some 10) (ba_ 12 511) (ba_ 12 1407) rfl rfl rfl rfl (two_of HT_.out (by kernel_rfl)) (by decide) (by decide) (fun K hK => ?_) (fun K hK => ?_)
     ·refine goes_ Try.func48 (by kernel_rfl) rfl #[.slice A1 b.length c1] (by rfl) rfl rfl (by simp only [List.map_toArray, List.map_cons, List.map_nil]; rfl) ?_
      refine (spec_LeftLeaf.calls q A1 c1 b _ _ (Kd.C_below HR1.out hHeld.bel) HC1.out Hd.out).mono ?_
      rintro e w29 ⟨v29, rfl, o29, b29⟩
      have r29 := row_iv (f := fun x => (lfN b x : Int)) o29 lb
      clear o29
      obtain ⟨g29, k29, rfl⟩ := r29.val
      refine ⟨_, rfl, ?_⟩
      have O29 := Aside0.mk r29
      have B29 := Aside0.mk b29
      have s29 := b29.size
      refine hK.out _ _ (hHeld.step b29) (fun hHeld => ?_)
      clear r29 b29
      clear hK K
      refine norm_ (a' := ?_) ?_ ?_
      rotate_left
      ·show Act.put _ (some 29) _ = _
       simp only [Act.put, List.setIfInBounds_toArray, List.set_cons_zero, List.set_cons_succ, i64_w, i32_w]
       rfl
      refine pu_ 9 (some 31) (ba_ 12 1023) rfl rfl (any_of HT_.out (by kernel_rfl)) ?_
      refine one_ (i := 10) (N := some 10) (ba_ 12 2047) rfl rfl (one_of HT_.out (by kernel_rfl)) (by decide) (fun K hK => ?_)
      refine box_step (by rfl) (N := 10) (by rfl) (cs := #[.slice none 0 0, .slice none 0 0, .slice none 0 0, .slice none 0 0, .slice none 0 0, .slice none 0 0, .slice none 0 0]) (t := 103) (by first | (go_simp; done) | (go_simp; rfl)) ?_
      intro g hg w10 hb10 b10
      replace hg := Aside0.mk hg
      have O10 := Aside0.mk hb10
      have B10 := Aside0.mk b10
      have s10 := b10.size
      have t10 := blk_lt hb10
      refine hK.out _ _ (hHeld.step b10) (fun hHeld => ?_)
      clear hb10 b10
      clear hK K
      refine norm_ (a' := ?_) ?_ ?_
      rotate_left
      ·show Act.put _ (some 10) _ = _
       simp only [Act.put, List.setIfInBounds_toArray, List.set_cons_zero, List.set_cons_succ, i64_w, i32_w]
       rfl
      refine one_ (i := 11) (N := none) (ba_ 12 4095) rfl rfl (one_of HT_.out (by kernel_rfl)) (by decide) (fun K hK => ?_)
      refine put_step (by rfl) 103 (.tmp 10) (.tmp 31) (by rfl) g #[.slice (some ⟨g23, 0, none⟩) a.length k23, .slice (some ⟨g25, 0, none⟩) b.length k25, .slice (some ⟨g27, 0, none⟩) a.length k27, .slice (some ⟨g29, 0, none⟩) b.length k29, .slice A2 6 c2, .slice A3 6 c3, .slice A4 36 c4] #[.slice none 0 0, .slice none 0 0, .slice none 0 0, .slice none 0 0, .slice none 0 0, .slice none 0 0, .slice none 0 0] 103 (by rfl) (by rfl) O10.out (by kernel_rfl) rfl (by simp [Value.oneCell']) ?_
      intro w99 hb99 n99
      have hg9 := hg.out
      have O99 := Aside0.mk hb99
      have N99 := Aside0.mk n99
      refine hK.out _ _ (hHeld.store (by omega) (by omega) (by omega) n99) (fun hHeld => ?_)
      clear hb99 n99 hg9
      clear hK K
      refine norm_ (a' := ?_) ?_ ?_
      rotate_left
      ·show Act.put _ (none) _ = _
       simp only [Act.put, List.setIfInBounds_toArray, List.set_cons_zero, List.set_cons_succ, i64_w, i32_w]
       rfl
      refine done_ (done_of HT_.out (by kernel_rfl)) ?_
      refine hK1 _ _ (Met.intro (hJ1 _ _ ?_))
      have hg := hg.out
      repeat apply Exists.intro
      refine ⟨?_, rfl⟩
      rw [HM.out]
      exact all8_meet HTA.out HTB.out HCO.out HR2.out HR3.out HR4.out (by omega) hHeld N99.out (by omega) O99.out (O23.out.below (below_step (below_step (below_step B25.out B27.out) B29.out) B10.out)) (by omega) (O25.out.below (below_step (below_step B27.out B29.out) B10.out)) (by omega) (O27.out.below (below_step B29.out B10.out)) (by omega) (O29.out.below B10.out) (by omega)
     ·refine box_step (by rfl) (N := 10) (by rfl) (cs := #[.slice none 0 0, .slice none 0 0, .slice none 0 0, .slice none 0 0, .slice none 0 0, .slice none 0 0, .slice none 0 0]) (t := 103) (by first | (go_simp; done) | (go_simp; rfl)) ?_
      intro g hg w10 hb10 b10
      replace hg := Aside0.mk hg
      have O10 := Aside0.mk hb10
      have B10 := Aside0.mk b10
      have s10 := b10.size
      have t10 := blk_lt hb10
      refine hK.out _ _ (hHeld.step b10) (fun hHeld => ?_)
      clear hb10 b10
      clear hK K
      refine norm_ (a' := ?_) ?_ ?_
      rotate_left
      ·show Act.put _ (some 10) _ = _
       simp only [Act.put, List.setIfInBounds_toArray, List.set_cons_zero, List.set_cons_succ, i64_w, i32_w]
       rfl
      refine one_ (i := 7) (N := some 29) (ba_ 12 1535) rfl rfl (one_of HT_.out (by kernel_rfl)) (by decide) (fun K hK => ?_)
      refine goes_ Try.func48 (by kernel_rfl) rfl #[.slice A1 b.length c1] (by rfl) rfl rfl (by simp only [List.map_toArray, List.map_cons, List.map_nil]; rfl) ?_
      refine (spec_LeftLeaf.calls q A1 c1 b _ _ (Kd.C_below HR1.out hHeld.bel) HC1.out Hd.out).mono ?_
      rintro e w29 ⟨v29, rfl, o29, b29⟩
      have r29 := row_iv (f := fun x => (lfN b x : Int)) o29 lb
      clear o29
      obtain ⟨g29, k29, rfl⟩ := r29.val
      refine ⟨_, rfl, ?_⟩
      have O29 := Aside0.mk r29
      have B29 := Aside0.mk b29
      have s29 := b29.size
      refine hK.out _ _ (hHeld.step b29) (fun hHeld => ?_)
      clear r29 b29
      clear hK K
      refine norm_ (a' := ?_) ?_ ?_
      rotate_left
      ·show Act.put _ (some 29) _ = _
       simp only [Act.put, List.setIfInBounds_toArray, List.set_cons_zero, List.set_cons_succ, i64_w, i32_w]
       rfl
      refine pu_ 9 (some 31) (ba_ 12 2047) rfl rfl (any_of HT_.out (by kernel_rfl)) ?_
      refine one_ (i := 11) (N := none) (ba_ 12 4095) rfl rfl (one_of HT_.out (by kernel_rfl)) (by decide) (fun K hK => ?_)
      refine put_step (by rfl) 103 (.tmp 10) (.tmp 31) (by rfl) g #[.slice (some ⟨g23, 0, none⟩) a.length k23, .slice (some ⟨g25, 0, none⟩) b.length k25, .slice (some ⟨g27, 0, none⟩) a.length k27, .slice (some ⟨g29, 0, none⟩) b.length k29, .slice A2 6 c2, .slice A3 6 c3, .slice A4 36 c4] #[.slice none 0 0, .slice none 0 0, .slice none 0 0, .slice none 0 0, .slice none 0 0, .slice none 0 0, .slice none 0 0] 103 (by rfl) (by rfl) (blk_below O10.out B29.out) (by kernel_rfl) rfl (by simp [Value.oneCell']) ?_
      intro w99 hb99 n99
      have hg9 := hg.out
      have O99 := Aside0.mk hb99
      have N99 := Aside0.mk n99
      refine hK.out _ _ (hHeld.store (by omega) (by omega) (by omega) n99) (fun hHeld => ?_)
      clear hb99 n99 hg9
      clear hK K
      refine norm_ (a' := ?_) ?_ ?_
      rotate_left
      ·show Act.put _ (none) _ = _
       simp only [Act.put, List.setIfInBounds_toArray, List.set_cons_zero, List.set_cons_succ, i64_w, i32_w]
       rfl
      refine done_ (done_of HT_.out (by kernel_rfl)) ?_
      refine hK1 _ _ (Met.intro (hJ1 _ _ ?_))
      have hg := hg.out
      repeat apply Exists.intro
      refine ⟨?_, rfl⟩
      rw [HM.out]
      exact all8_meet HTA.out HTB.out HCO.out HR2.out HR3.out HR4.out (by omega) hHeld N99.out (by omega) O99.out (O23.out.below (below_step (below_step (below_step B25.out B27.out) B10.out) B29.out)) (by omega) (O25.out.below (below_step (below_step B27.out B10.out) B29.out)) (by omega) (O27.out.below (below_step B10.out B29.out)) (by omega) O29.out (by omega)
    ·refine box_step (by rfl) (N := 10) (by rfl) (cs := #[.slice none 0 0, .slice none 0 0, .slice none 0 0, .slice none 0 0, .slice none 0 0, .slice none 0 0, .slice none 0 0]) (t := 103) (by first | (go_simp; done) | (go_simp; rfl)) ?_
     intro g hg w10 hb10 b10
     replace hg := Aside0.mk hg
     have O10 := Aside0.mk hb10
     have B10 := Aside0.mk b10
     have s10 := b10.size
     have t10 := blk_lt hb10
     refine hK.out _ _ (hHeld.step b10) (fun hHeld => ?_)
     clear hb10 b10
     clear hK K
     refine norm_ (a' := ?_) ?_ ?_
     rotate_left
     ·show Act.put _ (some 10) _ = _
      simp only [Act.put, List.setIfInBounds_toArray, List.set_cons_zero, List.set_cons_succ, i64_w, i32_w]
      rfl
     refine one_ (i := 5) (N := some 27) (ba_ 12 1407) rfl rfl (one_of HT_.out (by kernel_rfl)) (by decide) (fun K hK => ?_)
     refine goes_ Try.func48 (by kernel_rfl) rfl #[.slice A0 a.length c0] (by rfl) rfl rfl (by simp only [List.map_toArray, List.map_cons, List.map_nil]; rfl) ?_
     refine (spec_LeftLeaf.calls q A0 c0 a _ _ (Kd.C_below HR0.out hHeld.bel) HC0.out Hc.out).mono ?_
     rintro e w27 ⟨v27, rfl, o27, b27⟩
     have r27 := row_iv (f := fun x => (lfN a x : Int)) o27 la
     clear o27
     obtain ⟨g27, k27, rfl⟩ := r27.val
     refine ⟨_, rfl, ?_⟩
     have O27 := Aside0.mk r27
     have B27 := Aside0.mk b27
     have s27 := b27.size
     refine hK.out _ _ (hHeld.step b27) (fun hHeld => ?_)
     clear r27 b27
     clear hK K
     refine norm_ (a' := ?_) ?_ ?_
     rotate_left
     ·show Act.put _ (some 27) _ = _
      simp only [Act.put, List.setIfInBounds_toArray, List.set_cons_zero, List.set_cons_succ, i64_w, i32_w]
      rfl
     refine one_ (i := 7) (N := some 29) (ba_ 12 1535) rfl rfl (one_of HT_.out (by kernel_rfl)) (by decide) (fun K hK => ?_)
     refine goes_ Try.func48 (by kernel_rfl) rfl #[.slice A1 b.length c1] (by rfl) rfl rfl (by simp only [List.map_toArray, List.map_cons, List.map_nil]; rfl) ?_
     refine (spec_LeftLeaf.calls q A1 c1 b _ _ (Kd.C_below HR1.out hHeld.bel) HC1.out Hd.out).mono ?_
     rintro e w29 ⟨v29, rfl, o29, b29⟩
     have r29 := row_iv (f := fun x => (lfN b x : Int)) o29 lb
     clear o29
     obtain ⟨g29, k29, rfl⟩ := r29.val
     refine ⟨_, rfl, ?_⟩
     have O29 := Aside0.mk r29
     have B29 := Aside0.mk b29
     have s29 := b29.size
     refine hK.out _ _ (hHeld.step b29) (fun hHeld => ?_)
     clear r29 b29
     clear hK K
     refine norm_ (a' := ?_) ?_ ?_
     rotate_left
     ·show Act.put _ (some 29) _ = _
      simp only [Act.put, List.setIfInBounds_toArray, List.set_cons_zero, List.set_cons_succ, i64_w, i32_w]
      rfl
     refine pu_ 9 (some 31) (ba_ 12 2047) rfl rfl (any_of HT_.out (by kernel_rfl)) ?_
     refine one_ (i := 11) (N := none) (ba_ 12 4095) rfl rfl (one_of HT_.out (by kernel_rfl)) (by decide) (fun K hK => ?_)
     refine put_step (by rfl) 103 (.tmp 10) (.tmp 31) (by rfl) g #[.slice (some ⟨g23, 0, none⟩) a.length k23, .slice (some ⟨g25, 0, none⟩) b.length k25, .slice (some ⟨g27, 0, none⟩) a.length k27, .slice (some ⟨g29, 0, none⟩) b.length k29, .slice A2 6 c2, .slice A3 6 c3, .slice A4 36 c4] #[.slice none 0 0, .slice none 0 0, .slice none 0 0, .slice none 0 0, .slice none 0 0, .slice none 0 0, .slice none 0 0] 103 (by rfl) (by rfl) (blk_below O10.out (below_step B27.out B29.out)) (by kernel_rfl) rfl (by simp [Value.oneCell']) ?_
     intro w99 hb99 n99
     have hg9 := hg.out
     have O99 := Aside0.mk hb99
     have N99 := Aside0.mk n99
     refine hK.out _ _ (hHeld.store (by omega) (by omega) (by omega) n99) (fun hHeld => ?_)
     clear hb99 n99 hg9
     clear hK K
     refine norm_ (a' := ?_) ?_ ?_
     rotate_left
     ·show Act.put _ (none) _ = _
      simp only [Act.put, List.setIfInBounds_toArray, List.set_cons_zero, List.set_cons_succ, i64_w, i32_w]
      rfl
     refine done_ (done_of HT_.out (by kernel_rfl)) ?_
     refine hK1 _ _ (Met.intro (hJ1 _ _ ?_))
     have hg := hg.out
     repeat apply Exists.intro
     refine ⟨?_, rfl⟩
     rw [HM.out]
     exact all8_meet HTA.out HTB.out HCO.out HR2.out HR3.out HR4.out (by omega) hHeld N99.out (by omega) O99.out (O23.out.below (below_step (below_step (below_step B25.out B10.out) B27.out) B29.out)) (by omega) (O25.out.below (below_step (below_step B10.out B27.out) B29.out)) (by omega) (O27.out.below B29.out) (by omega) O29.out (by omega)
   ·refine box_step (by rfl) (N := 10) (by rfl) (cs := #[.slice none 0 0, .slice none 0 0, .slice none 0 0, .slice none 0 0, .slice none 0 0, .slice none 0 0, .slice none 0 0]) (t := 103) (by first | (go_simp; done) | (go_simp; rfl)) ?_
    intro g hg w10 hb10 b10
    replace hg := Aside0.mk hg
    have O10 := Aside0.mk hb10
    have B10 := Aside0.mk b10
    have s10 := b10.size
    have t10 := blk_lt hb10
    refine hK.out _ _ (hHeld.step b10) (fun hHeld => ?_)
    clear hb10 b10
    clear hK K
    refine norm_ (a' := ?_) ?_ ?_
    rotate_left
    ·show Act.put _ (some 10) _ = _
     simp only [Act.put, List.setIfInBounds_toArray, List.set_cons_zero, List.set_cons_succ, i64_w, i32_w]
     rfl
    refine one_ (i := 3) (N := some 25) (ba_ 12 1375) rfl rfl (one_of HT_.out (by kernel_rfl)) (by decide) (fun K hK => ?_)
    refine goes_ Try.func81 (by kernel_rfl) rfl #[.slice A1 b.length c1] (by rfl) rfl rfl (by simp only [List.map_toArray, List.map_cons, List.map_nil]; rfl) ?_
    refine (spec_l8Labels.calls q A1 c1 b _ _ (Kd.C_below HR1.out hHeld.bel) HC1.out Hb.out).mono ?_
    rintro e w25 ⟨v25, rfl, o25, b25⟩
    have r25 := row_iv (f := fun x => lab b (nodeN b x)) o25 lb
    clear o25
    obtain ⟨g25, k25, rfl⟩ := r25.val
    refine ⟨_, rfl, ?_⟩
    have O25 := Aside0.mk r25
    have B25 := Aside0.mk b25
    have s25 := b25.size
    refine hK.out _ _ (hHeld.step b25) (fun hHeld => ?_)
    clear r25 b25
    clear hK K
    refine norm_ (a' := ?_) ?_ ?_
    rotate_left
    ·show Act.put _ (some 25) _ = _
     simp only [Act.put, List.setIfInBounds_toArray, List.set_cons_zero, List.set_cons_succ, i64_w, i32_w]
     rfl
    refine one_ (i := 5) (N := some 27) (ba_ 12 1407) rfl rfl (one_of HT_.out (by kernel_rfl)) (by decide) (fun K hK => ?_)
    refine goes_ Try.func48 (by kernel_rfl) rfl #[.slice A0 a.length c0] (by rfl) rfl rfl (by simp only [List.map_toArray, List.map_cons, List.map_nil]; rfl) ?_
    refine (spec_LeftLeaf.calls q A0 c0 a _ _ (Kd.C_below HR0.out hHeld.bel) HC0.out Hc.out).mono ?_
    rintro e w27 ⟨v27, rfl, o27, b27⟩
    have r27 := row_iv (f := fun x => (lfN a x : Int)) o27 la
    clear o27
    obtain ⟨g27, k27, rfl⟩ := r27.val
    refine ⟨_, rfl, ?_⟩
    have O27 := Aside0.mk r27
    have B27 := Aside0.mk b27
    have s27 := b27.size
    refine hK.out _ _ (hHeld.step b27) (fun hHeld => ?_)
    clear r27 b27
    clear hK K
    refine norm_ (a' := ?_) ?_ ?_
    rotate_left
    ·show Act.put _ (some 27) _ = _
     simp only [Act.put, List.setIfInBounds_toArray, List.set_cons_zero, List.set_cons_succ, i64_w, i32_w]
     rfl
    refine one_ (i := 7) (N := some 29) (ba_ 12 1535) rfl rfl (one_of HT_.out (by kernel_rfl)) (by decide) (fun K hK => ?_)
    refine goes_ Try.func48 (by kernel_rfl) rfl #[.slice A1 b.length c1] (by rfl) rfl rfl (by simp only [List.map_toArray, List.map_cons, List.map_nil]; rfl) ?_
    refine (spec_LeftLeaf.calls q A1 c1 b _ _ (Kd.C_below HR1.out hHeld.bel) HC1.out Hd.out).mono ?_
    rintro e w29 ⟨v29, rfl, o29, b29⟩
    have r29 := row_iv (f := fun x => (lfN b x : Int)) o29 lb
    clear o29
    obtain ⟨g29, k29, rfl⟩ := r29.val
    refine ⟨_, rfl, ?_⟩
    have O29 := Aside0.mk r29
    have B29 := Aside0.mk b29
    have s29 := b29.size
    refine hK.out _ _ (hHeld.step b29) (fun hHeld => ?_)
    clear r29 b29
    clear hK K
    refine norm_ (a' := ?_) ?_ ?_
    rotate_left
    ·show Act.put _ (some 29) _ = _
     simp only [Act.put, List.setIfInBounds_toArray, List.set_cons_zero, List.set_cons_succ, i64_w, i32_w]
     rfl
    refine pu_ 9 (some 31) (ba_ 12 2047) rfl rfl (any_of HT_.out (by kernel_rfl)) ?_
    refine one_ (i := 11) (N := none) (ba_ 12 4095) rfl rfl (one_of HT_.out (by kernel_rfl)) (by decide) (fun K hK => ?_)
    refine put_step (by rfl) 103 (.tmp 10) (.tmp 31) (by rfl) g #[.slice (some ⟨g23, 0, none⟩) a.length k23, .slice (some ⟨g25, 0, none⟩) b.length k25, .slice (some ⟨g27, 0, none⟩) a.length k27, .slice (some ⟨g29, 0, none⟩) b.length k29, .slice A2 6 c2, .slice A3 6 c3, .slice A4 36 c4] #[.slice none 0 0, .slice none 0 0, .slice none 0 0, .slice none 0 0, .slice none 0 0, .slice none 0 0, .slice none 0 0] 103 (by rfl) (by rfl) (blk_below O10.out (below_step (below_step B25.out B27.out) B29.out)) (by kernel_rfl) rfl (by simp [Value.oneCell']) ?_
    intro w99 hb99 n99
    have hg9 := hg.out
    have O99 := Aside0.mk hb99
    have N99 := Aside0.mk n99
    refine hK.out _ _ (hHeld.store (by omega) (by omega) (by omega) n99) (fun hHeld => ?_)
    clear hb99 n99 hg9
    clear hK K
    refine norm_ (a' := ?_) ?_ ?_
    rotate_left
    ·show Act.put _ (none) _ = _
     simp only [Act.put, List.setIfInBounds_toArray, List.set_cons_zero, List.set_cons_succ, i64_w, i32_w]
     rfl
    refine done_ (done_of HT_.out (by kernel_rfl)) ?_
    refine hK1 _ _ (Met.intro (hJ1 _ _ ?_))
    have hg := hg.out
    repeat apply Exists.intro
    refine ⟨?_, rfl⟩
    rw [HM.out]
    exact all8_meet HTA.out HTB.out HCO.out HR2.out HR3.out HR4.out (by omega) hHeld N99.out (by omega) O99.out (O23.out.below (below_step (below_step (below_step B10.out B25.out) B27.out) B29.out)) (by omega) (O25.out.below (below_step B27.out B29.out)) (by omega) (O27.out.below B29.out) (by omega) O29.out (by omega)
  ·refine box_step (by rfl) (N := 10) (by rfl) (cs := #[.slice none 0 0, .slice none 0 0, .slice none 0 0, .slice none 0 0, .slice none 0 0, .slice none 0 0, .slice none 0 0]) (t := 103) (by first | (go_simp; done) | (go_simp; rfl)) ?_
   intro g hg w10 hb10 b10
   replace hg := Aside0.mk hg
   have O10 := Aside0.mk hb10
   have B10 := Aside0.mk b10
   have s10 := b10.size
   have t10 := blk_lt hb10
   refine hK.out _ _ (hHeld.step b10) (fun hHeld => ?_)
   clear hb10 b10
   clear hK K
   refine norm_ (a' := ?_) ?_ ?_
   rotate_left
   ·show Act.put _ (some 10) _ = _
    simp only [Act.put, List.setIfInBounds_toArray, List.set_cons_zero, List.set_cons_succ, i64_w, i32_w]
    rfl
   refine one_ (i := 1) (N := some 23) (ba_ 12 1367) rfl rfl (one_of HT_.out (by kernel_rfl)) (by decide) (fun K hK => ?_)
   refine goes_ Try.func81 (by kernel_rfl) rfl #[.slice A0 a.length c0] (by rfl) rfl rfl (by simp only [List.map_toArray, List.map_cons, List.map_nil]; rfl) ?_
   refine (spec_l8Labels.calls q A0 c0 a _ _ (Kd.C_below HR0.out hHeld.bel) HC0.out Ha.out).mono ?_
   rintro e w23 ⟨v23, rfl, o23, b23⟩
   have r23 := row_iv (f := fun x => lab a (nodeN a x)) o23 la
   clear o23
   obtain ⟨g23, k23, rfl⟩ := r23.val
   refine ⟨_, rfl, ?_⟩
   have O23 := Aside0.mk r23
   have B23 := Aside0.mk b23
   have s23 := b23.size
   refine hK.out _ _ (hHeld.step b23) (fun hHeld => ?_)
   clear r23 b23
   clear hK K
   refine norm_ (a' := ?_) ?_ ?_
   rotate_left
   ·show Act.put _ (some 23) _ = _
    simp only [Act.put, List.setIfInBounds_toArray, List.set_cons_zero, List.set_cons_succ, i64_w, i32_w]
    rfl
   refine one_ (i := 3) (N := some 25) (ba_ 12 1375) rfl rfl (one_of HT_.out (by kernel_rfl)) (by decide) (fun K hK => ?_)
   refine goes_ Try.func81 (by kernel_rfl) rfl #[.slice A1 b.length c1] (by rfl) rfl rfl (by simp only [List.map_toArray, List.map_cons, List.map_nil]; rfl) ?_
   refine (spec_l8Labels.calls q A1 c1 b _ _ (Kd.C_below HR1.out hHeld.bel) HC1.out Hb.out).mono ?_
   rintro e w25 ⟨v25, rfl, o25, b25⟩
   have r25 := row_iv (f := fun x => lab b (nodeN b x)) o25 lb
   clear o25
   obtain ⟨g25, k25, rfl⟩ := r25.val
   refine ⟨_, rfl, ?_⟩
   have O25 := Aside0.mk r25
   have B25 := Aside0.mk b25
   have s25 := b25.size
   refine hK.out _ _ (hHeld.step b25) (fun hHeld => ?_)
   clear r25 b25
   clear hK K
   refine norm_ (a' := ?_) ?_ ?_
   rotate_left
   ·show Act.put _ (some 25) _ = _
    simp only [Act.put, List.setIfInBounds_toArray, List.set_cons_zero, List.set_cons_succ, i64_w, i32_w]
    rfl
   refine one_ (i := 5) (N := some 27) (ba_ 12 1407) rfl rfl (one_of HT_.out (by kernel_rfl)) (by decide) (fun K hK => ?_)
   refine goes_ Try.func48 (by kernel_rfl) rfl #[.slice A0 a.length c0] (by rfl) rfl rfl (by simp only [List.map_toArray, List.map_cons, List.map_nil]; rfl) ?_
   refine (spec_LeftLeaf.calls q A0 c0 a _ _ (Kd.C_below HR0.out hHeld.bel) HC0.out Hc.out).mono ?_
   rintro e w27 ⟨v27, rfl, o27, b27⟩
   have r27 := row_iv (f := fun x => (lfN a x : Int)) o27 la
   clear o27
   obtain ⟨g27, k27, rfl⟩ := r27.val
   refine ⟨_, rfl, ?_⟩
   have O27 := Aside0.mk r27
   have B27 := Aside0.mk b27
   have s27 := b27.size
   refine hK.out _ _ (hHeld.step b27) (fun hHeld => ?_)
   clear r27 b27
   clear hK K
   refine norm_ (a' := ?_) ?_ ?_
   rotate_left
   ·show Act.put _ (some 27) _ = _
    simp only [Act.put, List.setIfInBounds_toArray, List.set_cons_zero, List.set_cons_succ, i64_w, i32_w]
    rfl
   refine one_ (i := 7) (N := some 29) (ba_ 12 1535) rfl rfl (one_of HT_.out (by kernel_rfl)) (by decide) (fun K hK => ?_)
   refine goes_ Try.func48 (by kernel_rfl) rfl #[.slice A1 b.length c1] (by rfl) rfl rfl (by simp only [List.map_toArray, List.map_cons, List.map_nil]; rfl) ?_
   refine (spec_LeftLeaf.calls q A1 c1 b _ _ (Kd.C_below HR1.out hHeld.bel) HC1.out Hd.out).mono ?_
   rintro e w29 ⟨v29, rfl, o29, b29⟩
   have r29 := row_iv (f := fun x => (lfN b x : Int)) o29 lb
   clear o29
   obtain ⟨g29, k29, rfl⟩ := r29.val
   refine ⟨_, rfl, ?_⟩
   have O29 := Aside0.mk r29
   have B29 := Aside0.mk b29
   have s29 := b29.size
   refine hK.out _ _ (hHeld.step b29) (fun hHeld => ?_)
   clear r29 b29
   clear hK K
   refine norm_ (a' := ?_) ?_ ?_
   rotate_left
   ·show Act.put _ (some 29) _ = _
    simp only [Act.put, List.setIfInBounds_toArray, List.set_cons_zero, List.set_cons_succ, i64_w, i32_w]
    rfl
   refine pu_ 9 (some 31) (ba_ 12 2047) rfl rfl (any_of HT_.out (by kernel_rfl)) ?_
   refine one_ (i := 11) (N := none) (ba_ 12 4095) rfl rfl (one_of HT_.out (by kernel_rfl)) (by decide) (fun K hK => ?_)
   refine put_step (by rfl) 103 (.tmp 10) (.tmp 31) (by rfl) g #[.slice (some ⟨g23, 0, none⟩) a.length k23, .slice (some ⟨g25, 0, none⟩) b.length k25, .slice (some ⟨g27, 0, none⟩) a.length k27, .slice (some ⟨g29, 0, none⟩) b.length k29, .slice A2 6 c2, .slice A3 6 c3, .slice A4 36 c4] #[.slice none 0 0, .slice none 0 0, .slice none 0 0, .slice none 0 0, .slice none 0 0, .slice none 0 0, .slice none 0 0] 103 (by rfl) (by rfl) (blk_below O10.out (below_step (below_step (below_step B23.out B25.out) B27.out) B29.out)) (by kernel_rfl) rfl (by simp [Value.oneCell']) ?_
   intro w99 hb99 n99
   have hg9 := hg.out
   have O99 := Aside0.mk hb99
   have N99 := Aside0.mk n99
   refine hK.out _ _ (hHeld.store (by omega) (by omega) (by omega) n99) (fun hHeld => ?_)
   clear hb99 n99 hg9
   clear hK K
   refine norm_ (a' := ?_) ?_ ?_
   rotate_left
   ·show Act.put _ (none) _ = _
    simp only [Act.put, List.setIfInBounds_toArray, List.set_cons_zero, List.set_cons_succ, i64_w, i32_w]
    rfl
   refine done_ (done_of HT_.out (by kernel_rfl)) ?_
   refine hK1 _ _ (Met.intro (hJ1 _ _ ?_))
   have hg := hg.out
   repeat apply Exists.intro
   refine ⟨?_, rfl⟩
   rw [HM.out]
   exact all8_meet HTA.out HTB.out HCO.out HR2.out HR3.out HR4.out (by omega) hHeld N99.out (by omega) O99.out (O23.out.below (below_step (below_step B25.out B27.out) B29.out)) (by omega) (O25.out.below (below_step B27.out B29.out)) (by omega) (O27.out.below B29.out) (by omega) O29.out (by omega)
 case rest =>
  clear HN s0 s1 h0 h1 hu
  obtain ⟨g, a0, a1, a2, a3, a4, a5, a6, k0, k1, k2, k3, rfl, HY, HT⟩ := hcut
  have sb := Aside0.mk (blk_lt HT.out)
  go_wp2_with (first | (go_at_call 85; ((with_reducible refine (spec_KeyRoots.calls q A0 c0 a _ _ (Kd.C_below HR0.out HY.out.bel) HC0.out Hka.out).mono ?_)); rintro e w4 ⟨v4, rfl, o4, b4⟩; rw [krL_range] at o4; have r4 := row_iv o4 (kR_pos HL.out.1); obtain ⟨ga, ka, rfl⟩ := r4.val; have HA := Aside0.mk (r4.kc sb.out); replace HY := Aside0.mk (HY.out.only (Only.of_below b4 bt)); replace HT := Aside0.mk (blk_below HT.out b4); have sb4 := Aside0.mk (Nat.lt_of_lt_of_le sb.out b4.size); clear o4 b4 r4) | (go_at_call 85; ((with_reducible refine (spec_KeyRoots.calls q A1 c1 b _ _ (Kd.C_below HR1.out HY.out.bel) HC1.out Hkb.out).mono ?_)); rintro e w5 ⟨v5, rfl, o5, b5⟩; rw [krL_range] at o5; have r5 := row_iv o5 (kR_pos HL.out.2.1); obtain ⟨gb, kb, rfl⟩ := r5.val; have HB := Aside0.mk (r5.kc sb4.out); replace HA := Aside0.mk (HA.out.only (Only.of_below b5 bt)); replace HY := Aside0.mk (HY.out.only (Only.of_below b5 bt)); replace HT := Aside0.mk (blk_below HT.out b5); clear o5 b5 r5))
  rw [HEA.out] at HA ⊢
  rw [HEB.out] at HB ⊢
  obtain ⟨na, hna⟩ : ∃ m, m = (kR M.la a.length a.length).length := ⟨_, rfl⟩
  obtain ⟨nb, hnb⟩ : ∃ m, m = (kR M.lb b.length b.length).length := ⟨_, rfl⟩
  rw [← hna] at HA ⊢
  rw [← hnb] at HB ⊢
  have HNA := Aside0.mk (And.intro hna (show 0 < na ∧ na ≤ 24 by have h1 := kR_len M.la a.length a.length; have h2 := kR_pos (l := M.la) HP.out.pA; have := HP.out.hA; omega))
  have HNB := Aside0.mk (And.intro hnb (show 0 < nb ∧ nb ≤ 24 by have h1 := kR_len M.lb b.length b.length; have h2 := kR_pos (l := M.lb) HP.out.pB; have := HP.out.hB; omega))
  clear hna hnb
  go_loopg [9, 13] na (fun gg v9 v13 wr => ∃ (i : Nat) (T : List Int) (o : Nat → Nat → Int), v13 = .int .i64 (i : Int) ∧ i ≤ na ∧ na - i ≤ gg ∧ Aside0 (Y8 M a.length b.length (fun p => (lab a (nodeN a p)).toNat) (fun q => (lab b (nodeN b q)).toNat) w g bt a0 a1 a2 a3 a4 a5 a6 k0 k1 k2 k3 c2 c3 c4 wr) ∧ Aside0 (KC ga na bt (kAt M.la a.length) wr) ∧ Aside0 (KC gb nb bt (kAt M.lb b.length) wr) ∧ Aside0 (Blk wr bt T) ∧ Aside0 (Trs a.length b.length o T) ∧ Aside0 (Ted.Done M a.length b.length o (kAt M.la a.length i) (kAt M.lb b.length 0)) ∧ Aside0 (i = 0 ∨ La8 M a.length b.length bt (i - 1) (nb - 1) v9 wr))
  case atStart => exact ⟨0, _, _, rfl, Nat.zero_le _, by omega, HY, HA, HB, HT, ⟨blk_all nt HNT.out⟩, ⟨done_start _⟩, ⟨Or.inl rfl⟩⟩
  case round =>
   clear HY HA HB HT
   obtain ⟨i, T, o, rfl, hi1, hgg, HY, HA, HB, HT, HU, HD, HLa⟩ := hrel
   by_cases hi : i < na
   ·have b1 : ((i : Int) < (na : Int)) = True := eq_true (by omega)
    have HI := Aside0.mk (And.intro hi1 (And.intro hgg hi))
    clear hi1 hgg hi
    go_wp2
    clear b1
    go_loopg [9, 14] nb (fun gg v9 v14 wr => ∃ (j : Nat) (T : List Int) (o : Nat → Nat → Int), v14 = .int .i64 (j : Int) ∧ j ≤ nb ∧ nb - j ≤ gg ∧ Aside0 (Y8 M a.length b.length (fun p => (lab a (nodeN a p)).toNat) (fun q => (lab b (nodeN b q)).toNat) w g bt a0 a1 a2 a3 a4 a5 a6 k0 k1 k2 k3 c2 c3 c4 wr) ∧ Aside0 (KC ga na bt (kAt M.la a.length) wr) ∧ Aside0 (KC gb nb bt (kAt M.lb b.length) wr) ∧ Aside0 (Blk wr bt T) ∧ Aside0 (Trs a.length b.length o T) ∧ Aside0 (Ted.Done M a.length b.length o (kAt M.la a.length i) (kAt M.lb b.length j)) ∧ Aside0 (j = 0 ∨ La8 M a.length b.length bt i (j - 1) v9 wr))
    case atStart => exact ⟨0, _, _, rfl, Nat.zero_le _, by omega, HY, HA, HB, HT, HU, HD, ⟨Or.inl rfl⟩⟩
    case round =>
     clear HY HA HB HT HU HD HLa
     obtain ⟨j, T, o, rfl, hj1, hgg, HY, HA, HB, HT, HU, HD, HLa⟩ := hrel
     by_cases hj : j < nb
     ·obtain ⟨I, hI⟩ : ∃ I, I = kAt M.la a.length i := ⟨_, rfl⟩
      obtain ⟨J, hJ⟩ : ∃ J, J = kAt M.lb b.length j := ⟨_, rfl⟩
      have e4 := HA.out.c i HI.out.2.2
      have e5 := HB.out.c j hj
      rw [← hI] at e4
      rw [← hJ] at e5
      have hi := HI.out.2.2
      have hna := HNA.out.2.2
      have hnb := HNB.out.2.2
      have b1 : ((j : Int) < (nb : Int)) = True := eq_true (by omega)
      have b2 : (0 ≤ (i : Int)) = True := eq_true (by omega)
      have b3 : ((i : Int) < (na : Int)) = True := eq_true (by omega)
      have b4 : (0 ≤ (j : Int)) = True := eq_true (by omega)
      obtain ⟨jn, hjn⟩ : ∃ z, z = j + 1 := ⟨_, rfl⟩
      have f2 : Vi _ _ := vi (w_inc (a := j) (b := jn) hjn.symm (by omega))
      have HJ := Aside0.mk (And.intro hj1 (And.intro hgg (And.intro hj (And.intro hI (And.intro hJ hjn)))))
      obtain ⟨y0, y1, y2, y3, y4, y5, y6⟩ := HY.out.boxes
      clear hj1 hgg hj hI hJ hi hna hnb hjn HLa
      go_wp2
      go_still_tail 10, (by kernel_rfl)
      change wpList _ _ _ _ _ wr.drew
      replace HY := Aside0.mk (HY.out.only ((Only.refl bt wr).drew))
      replace HA := Aside0.mk (HA.out.only ((Only.refl bt wr).drew))
      replace HB := Aside0.mk (HB.out.only ((Only.refl bt wr).drew))
      replace HT : Aside0 (Blk wr.drew bt T) := ⟨HT.out⟩
      clear y0 y1 y2 y3 y4 y5 y6 e4 e5 b1 b2 b3 b4
      generalize wr.drew = w5 at HY HA HB HT ⊢
      go_wp2_with (go_at_call 86; refine (step8 HP.out (by have := HNA.out.1; have := HI.out; omega) (by have := HNB.out.1; have := HJ.out; omega) HJ.out.2.2.2.1 HJ.out.2.2.2.2.1 HNT.out HY.out HT.out HU.out HD.out).mono ?_; rintro e w6 ⟨v6, T6, o6, rfl, hO, hT, hTr, hDn, hLa⟩; replace HY := Aside0.mk (HY.out.only hO); replace HA := Aside0.mk (HA.out.only hO); replace HB := Aside0.mk (HB.out.only hO); replace HT := Aside0.mk hT; replace HU := Aside0.mk hTr; replace HD := Aside0.mk hDn; have HLa := Aside0.mk hLa; clear hO hT hTr hDn hLa)
      obtain ⟨hj1, hgg, hj, hI, hJ, hjn⟩ := HJ.out
      go_roundg (nb - jn)
      case measure => omega
      case rel => exact ⟨jn, _, _, (by first | rfl | exact f2 | exact (congrArg (Value.int .i64) (i64_w _)).trans f2), by omega, Nat.le_refl _, HY, HA, HB, HT, HU, by rw [hjn]; exact HD, ⟨Or.inr (by rw [hjn]; exact HLa.out)⟩⟩
     ·obtain rfl : j = nb := by omega
      have hi := HI.out.2.2
      have hna := HNA.out.2.2
      have b1 : ((j : Int) < (j : Int)) = False := eq_false (by omega)
      obtain ⟨i2, hi2⟩ : ∃ z, z = i + 1 := ⟨_, rfl⟩
      have f2 : Vi _ _ := vi (w_inc (a := i) (b := i2) hi2.symm (by omega))
      have HI2 := Aside0.mk hi2
      clear hj1 hgg hj hi hna hi2
      go_wp2
      obtain ⟨hi1, hgg, hi⟩ := HI.out
      have hi2 := HI2.out
      go_roundg (na - i2)
      case measure => omega
      case rel => exact ⟨i2, _, _, (by first | rfl | exact f2 | exact (congrArg (Value.int .i64) (i64_w _)).trans f2), by omega, Nat.le_refl _, HY, HA, HB, HT, HU, ⟨by rw [hi2]; exact done_row (by have := HNA.out.1; omega) HD.out (by rw [kAt_end (by have := HNB.out.1; omega)]; exact Nat.le_refl _)⟩, ⟨Or.inr (by rw [hi2]; exact HLa.out.resolve_left (by have := HNB.out.2.1; omega))⟩⟩
   ·obtain rfl : i = na := by omega
    have b1 : ((i : Int) < (i : Int)) = False := eq_false (by omega)
    clear hi hi1 hgg
    go_wp2
    obtain ⟨bf, L, rfl, hbf, hL, hTab⟩ := (HLa.out.resolve_left (by have := HNA.out.2.1; omega)).done HP.out (by have := HNA.out; omega) (by have := HNB.out; omega)
    rw [← HNF.out]
    exact bodyPost_ret (results_tt (u := 6) (v := 7) rfl _ _) rfl ⟨bt, bf, T, L, rfl, HY.out.bel, HX.out, hbf, HT.out, HU.out.ext (fun p q hp hq => (Ted.Done.all (I := kAt M.la a.length i) (fun p q x y hp hq hx hy hl => HD.out p q x y hp hq hx hy (by omega)) (fun x hx => by have := hx.lt; rw [kAt_end (by have := HNA.out.1; omega)]; exact this) hp hq).symm), hL, by rw [HNF.out]; exact hTab⟩
end Go.Proofs.Ytelglbebffdaaaa.X
namespace Go.Proofs.Ytelglbebffdaaaa.X
open Go.RowKit Go.Proofs.YtelglbebffdaaaaW.PrintWords Go.Proofs.YtelglbebffdaaaaW.PrintLast Go.Proofs.YtelglbebffdaaaaW.PrintMore Go.Proofs.Ytelglbebffdaaaa.Q
set_option linter.unusedVariables false
set_option linter.unusedSimpArgs false
theorem Blk.own {W : World} {b base : Nat} {L : List Int} (h : Blk W b L) (hb : base ≤ b) (hl : L.length ≤ 1000000) : Kd.R (Kd.int .i64) 3 W base (fun _ => True) (.slice (some ⟨b, 0, none⟩) L.length L.length) L := by
 refine Kd.R_of_own (enc := Value.int .i64) (h1 := fun _ => rfl) ?_ (fun _ _ => trivial)
 have e : (nums .i64 L).length = L.length := nums_length _ _
 refine ⟨by show (nums .i64 L).length = L.length * 1; omega, .inr ⟨b, L.length, (nums .i64 L).toArray, rfl, hb, h, Nat.le_refl _, by unfold maxLen; omega, ?_, ?_⟩⟩
 ·show (nums .i64 L).toArray.size = L.length * 1
  rw [List.size_toArray]; omega
 show List.take (L.length * 1) (nums .i64 L) = nums .i64 L
 rw [Nat.mul_one, ← e, List.take_length]
noncomputable def pre8 (q : Nat) (a b : List NodeI) (d n r : List Int) : Option Bool :=
 (preF q a b d n r).bind fun t => if t = true then (spec_KeyRoots.f q a).bind fun _ => (spec_KeyRoots.f q b).bind fun _ => (spec_RelCost.f q d n r (rd_T53 a 0).f0 (rd_T53 b 0).f0).bind fun _ => some true else some false
def rel0 (a b : List NodeI) (r : List Int) : Int := r.getD (6 * (lab a 0).toNat + (lab b 0).toNat) 0
theorem rel0_ev {a b : List NodeI} {d n r : List Int} (ta : Tr a) (tb : Tr b) (hc : Co d n r) : Ev (fun k => spec_RelCost.f k d n r (rd_T53 a 0).f0 (rd_T53 b 0).f0) (rel0 a b r) := by
 have ca := ta.chk 0 ta.len1
 have cb := tb.chk 0 tb.len1
 have e1 : (rd_T53 a 0).f0 = lab a 0 := rd_lab a 0
 have e2 : (rd_T53 b 0).f0 = lab b 0 := rd_lab b 0
 rw [e1, e2]
 exact specRel_ev hc ca.l0 ca.l5 cb.l0 cb.l5
theorem pre8_ev {a b : List NodeI} {d n r : List Int} (h : Fit a b d n r) : Ev (fun k => pre8 k a b d n r) (okAB a b d n r) := by
 unfold pre8
 refine Ev.bind (preF_ev h) ?_
 cases ho : okAB a b d n r with
 | false => exact Ev.ifF (by simp) (Ev.now _)
 | true =>
  obtain ⟨ta, tb, hc⟩ := okAB_iff.1 ho
  exact Ev.ifT rfl (Ev.bind (specKeyRoots_ev ta) (Ev.bind (specKeyRoots_ev tb) (Ev.bind (rel0_ev ta tb hc) (Ev.now _))))
theorem pre8_told {q : Nat} {a b : List NodeI} {d n r : List Int} {t : Bool} (h : pre8 q a b d n r = some t) : preF q a b d n r = some t ∧
  (t = true → spec_KeyRoots.f q a = some (krL a) ∧ spec_KeyRoots.f q b = some (krL b) ∧ spec_RelCost.f q d n r (rd_T53 a 0).f0 (rd_T53 b 0).f0 = some (rel0 a b r)) := by
 unfold pre8 at h
 obtain ⟨u, hu, h⟩ := Option.bind_eq_some_iff.mp h
 by_cases c : u = true
 ·rw [if_pos c] at h
  obtain ⟨x1, h1, h⟩ := Option.bind_eq_some_iff.mp h
  obtain ⟨x2, h2, h⟩ := Option.bind_eq_some_iff.mp h
  obtain ⟨x3, h3, h⟩ := Option.bind_eq_some_iff.mp h
  obtain rfl := Option.some.inj h
  obtain ⟨_, eu, _⟩ := preF_told hu
  obtain ⟨ta, tb, hc⟩ := okAB_iff.1 (eu.symm.trans c)
  refine ⟨by rw [hu, c], fun _ => ⟨?_, ?_, ?_⟩⟩
  ·rw [h1, ev_uniq (Ev.of (spec_KeyRoots.mono a) h1) (specKeyRoots_ev ta)]
  ·rw [h2, ev_uniq (Ev.of (spec_KeyRoots.mono b) h2) (specKeyRoots_ev tb)]
  ·rw [h3, ev_uniq (Ev.of (spec_RelCost.mono _ _ _ _ _) h3) (rel0_ev ta tb hc)]
 ·rw [if_neg c] at h
  obtain rfl := Option.some.inj h
  have e : u = false := by simpa using c
  subst e
  exact ⟨hu, fun h => by cases h⟩
end Go.Proofs.Ytelglbebffdaaaa.X
namespace Go.Proofs.Ytelglbebffdaaaa.X
open Go.RowKit Go.Proofs.YtelglbebffdaaaaW.PrintWords Go.Proofs.YtelglbebffdaaaaW.PrintLast Go.Proofs.YtelglbebffdaaaaW.PrintMore Go.Proofs.Ytelglbebffdaaaa.Q
set_option linter.unusedVariables false
set_option linter.unusedSimpArgs false
noncomputable def spec_RootDist.f (q : Nat) (a b : List NodeI) (d n r : List Int) : Option Int := (pre8 q a b d n r).bind fun _ => some (rdB a b d n r)
theorem spec_RootDist.ev {a b : List NodeI} {d n r : List Int} (h : Fit a b d n r) : Ev (fun q => spec_RootDist.f q a b d n r) (rdB a b d n r) := by
 unfold spec_RootDist.f
 exact Ev.bind (pre8_ev h) (Ev.now _)
set_option maxHeartbeats 4000000 in
set_option maxRecDepth 100000 in
theorem spec_RootDist.calls (q : Nat) (A0 : Option Addr) (c0 : Nat) (l0 : List NodeI) (A3 : Option Addr) (c3 : Nat) (l3 : List NodeI) (A6 : Option Addr) (c6 : Nat) (d : List Int) (A7 : Option Addr) (c7 : Nat) (n : List Int) (A8 : Option Addr) (c8 : Nat) (r : List Int) (res : Int) (w : World)
  (hr0 : Kd.C k53 w A0 l0.length l0) (hc0 : l0.length ≤ c0) (hr3 : Kd.C k53 w A3 l3.length l3) (hc3 : l3.length ≤ c3) (hr6 : Kd.C (Kd.int .i64) w A6 d.length d) (hc6 : d.length ≤ c6) (hr7 : Kd.C (Kd.int .i64) w A7 n.length n) (hc7 : n.length ≤ c7) (hr8 : Kd.C (Kd.int .i64) w A8 r.length r) (hc8 : r.length ≤ c8)
  (h : spec_RootDist.f q l0 l3 d n r = some res) :
  Calls Try.prog 22 #[.slice A0 l0.length c0, .slice A3 l3.length c3, .agg #[.slice A6 d.length c6, .slice A7 n.length c7, .slice A8 r.length c8]] w fun e w' => e = .returned (.int .i64 res) ∧ Below w.heap.size w w' := by
 unfold spec_RootDist.f at h
 obtain ⟨t, ht, h⟩ := Option.bind_eq_some_iff.mp h
 obtain rfl := Option.some.inj h
 clear h
 obtain ⟨htf, hkr⟩ := pre8_told ht
 obtain ⟨hth, eok, hpre⟩ := preF_told htf
 have HT : Aside0 (∀ W, Below w.heap.size w W → _) := ⟨fun W hb => spec_l8Three.calls q A0 c0 l0 A3 c3 l3 A6 c6 d A7 c7 n A8 c8 r t W (Kd.C_below hr0 hb) hc0 (Kd.C_below hr3 hb) hc3 (Kd.C_below hr6 hb) hc6 (Kd.C_below hr7 hb) hc7 (Kd.C_below hr8 hb) hc8 hth⟩
 clear ht hth htf
 have HN := Aside0.mk (NS.start' (w := w) (ty := 31) (.slice A6 d.length c6) (.slice A7 n.length c7) (.slice A8 r.length c8))
 have hu := Try.underlying31
 cases ho : okAB l0 l3 d n r with
 | false =>
  have HV : rdB l0 l3 d n r = -1 := if_neg (by rw [ho]; simp)
  rw [HV]
  obtain rfl : t = false := eok.trans ho
  clear ho eok HV hpre hkr
  go_enter Try.func22, Try.ntmps22
  go_wp2_with (first | (go_at_call 51; refine (HT.out _ HN.out.bel).mono ?_; rintro e w6 ⟨rfl, hb⟩; replace HN := Aside0.mk (HN.out.step hb); clear hb))
  go_ret
  exact ⟨rfl, HN.out.bel⟩
 | true =>
  obtain rfl : t = true := eok.trans ho
  obtain ⟨p1, p2, p3, p4⟩ := hpre rfl
  obtain ⟨p5, p6, p7⟩ := hkr rfl
  obtain ⟨ta, tb, hco⟩ := okAB_iff.1 ho
  have la := ta.len1
  have lb := tb.len1
  have a24 := ta.len24
  have b24 := tb.len24
  have HV : rdB l0 l3 d n r = Ted.D (msOf l0 l3 d n r) 0 (l0.length - 1) 0 (l3.length - 1) + rel0 l0 l3 r := by
   rw [show rdB l0 l3 d n r = Ted.rootD (msOf l0 l3 d n r) l0.length l3.length from if_pos ho, Ted.rootD]
   congr 1
   simp only [msOf, nodeN_last ta, nodeN_last tb, rel0]
  have hD := D_small (msOf_small (a := l0) (b := l3) hco) 0 (l0.length - 1) 0 (l3.length - 1)
  have hrel := price_at hco.rp (6 * (lab l0 0).toNat + (lab l3 0).toNat)
  rw [HV]
  have HNEW : Aside0 (∀ W, Below w.heap.size w W → _) := ⟨fun W hb => all8 q A0 c0 l0 A3 c3 l3 A6 c6 d A7 c7 n A8 c8 r W ta tb hco (Kd.C_below hr0 hb) hc0 (Kd.C_below hr3 hb) hc3 (Kd.C_below hr6 hb) hc6 (Kd.C_below hr7 hb) hc7 (Kd.C_below hr8 hb) hc8 p1 p2 p3 p4 p5 p6⟩
  have HREL : Aside0 (∀ W, Below w.heap.size w W → _) := ⟨fun W hb => spec_RelCost.calls q A6 c6 d A7 c7 n A8 c8 r _ _ _ W (Kd.C_below hr6 hb) hc6 (Kd.C_below hr7 hb) hc7 (Kd.C_below hr8 hb) hc8 p7⟩
  obtain ⟨A1, hA1⟩ : ∃ z, z = l0.length - 1 := ⟨_, rfl⟩
  obtain ⟨B1, hB1⟩ : ∃ z, z = l3.length - 1 := ⟨_, rfl⟩
  obtain ⟨wd, hwd⟩ : ∃ z, z = l3.length + 1 := ⟨_, rfl⟩
  obtain ⟨nf, hnf⟩ : ∃ z, z = (l0.length + 1) * wd := ⟨_, rfl⟩
  obtain ⟨k1, hk1⟩ : ∃ z, z = A1 * wd := ⟨_, rfl⟩
  obtain ⟨k2, hk2⟩ : ∃ z, z = k1 + l3.length := ⟨_, rfl⟩
  obtain ⟨ix, hix⟩ : ∃ z, z = k1 + B1 := ⟨_, rfl⟩
  obtain ⟨zd, hzd⟩ : ∃ z, z = Ted.D (msOf l0 l3 d n r) 0 (l0.length - 1) 0 (l3.length - 1) := ⟨_, rfl⟩
  obtain ⟨zr, hzr⟩ : ∃ z, z = rel0 l0 l3 r := ⟨_, rfl⟩
  have hnf2 : nf ≤ 676 := by rw [hnf]; exact mul26 (by omega) (by omega)
  have hlt : ix < nf := by have := two_lt (a := l0.length + 1) (b := wd) (x := A1) (y := B1) (by omega) (by omega); omega
  rw [← hzd, ← hzr]
  rw [← hzr] at HREL
  rw [← hzd] at hD
  have g1 : Vi _ _ := vi (w_inc (a := l3.length) (b := wd) hwd.symm (by omega))
  have g2 := iw (w_dec (a := A1) (b := l0.length) (by omega) (by omega))
  have g3 := iw (w_mul (a := A1) (b := wd) hk1 (by omega))
  have g4 := iw (w_add (a := k1) (b := l3.length) hk2.symm (by omega))
  have g5 := iw (w_dec (a := ix) (b := k2) (by omega) (by omega))
  have g6 : IntKind.i64.wrap (zd + zr) = zd + zr := iw (wid (by rw [hzr]; unfold rel0; omega) (by rw [hzr]; unfold rel0; omega))
  have b1 : (0 ≤ (ix : Int)) = True := eq_true (by omega)
  have b2 : ((ix : Int) < (nf : Int)) = True := eq_true (by omega)
  have b3 : ((0 : Int) < (l0.length : Int)) = True := eq_true (by omega)
  have b4 : ((0 : Int) < (l3.length : Int)) = True := eq_true (by omega)
  have b5 : (0 < l0.length) = True := eq_true la
  have b6 : (0 < l3.length) = True := eq_true lb
  have HTX := Aside0.mk (And.intro hr0 (And.intro hr3 (And.intro hA1 (And.intro hB1 (And.intro hwd (And.intro hnf (And.intro hk1 (And.intro hix (And.intro hzd hlt)))))))))
  have HL := Aside0.mk (And.intro la lb)
  clear p1 p2 p3 p4 p5 p6 p7 eok hpre hkr ho HV hD hrel hA1 hB1 hwd hnf hk1 hk2 hix hzd hzr hnf2 hlt a24 b24 hr0 hr3
  go_enter Try.func22, Try.ntmps22
  go_wp2_with (first | (go_at_call 51; refine (HT.out _ HN.out.bel).mono ?_; rintro e w6 ⟨rfl, hb⟩; replace HN := Aside0.mk (HN.out.step hb); have y0 := HN.out.c0; have y1 := HN.out.c1; have y2 := HN.out.c2; clear hb) | (go_at_call 61; refine (HNEW.out _ HN.out.bel).mono ?_; rw [show l3.length + 1 = wd from HTX.out.2.2.2.2.1.symm, show (l0.length + 1) * wd = nf from HTX.out.2.2.2.2.2.1.symm]; rintro e w9 ⟨bt, bf, T, L, rfl, hb, hbt, hbf, hT, hTr, hL, hTab⟩; replace HN := Aside0.mk (HN.out.step hb); have HX := Aside0.mk (And.intro hL hTab); clear hb hbt hbf hT hTr hL hTab y0 y1 y2))
  have z0 : w9.cell? ⟨bf, ix, none⟩ = some (.int .i64 zd) := by
   obtain ⟨hL, hTab⟩ := HX.out
   obtain ⟨hr0, hr3, hA1, hB1, hwd, hnf, hk1, hix, hzd, hlt⟩ := HTX.out
   have h1 := hL.cell (n := ix) (by rw [hTab.len]; exact hlt)
   have h2 := hTab.val A1 B1 (by omega) (by omega)
   rw [← hk1, ← hix, Nat.zero_add, Nat.zero_add, hA1, hB1, ← hzd] at h2
   rw [h1, h2]
  obtain ⟨ad, rfl, z1, _⟩ := at_T53 (Kd.C_below HTX.out.1 HN.out.bel) 0 (by omega) (by have := HL.out; omega)
  obtain ⟨ad', rfl, z2, _⟩ := at_T53 (Kd.C_below HTX.out.2.1 HN.out.bel) 0 (by omega) (by have := HL.out; omega)
  have y0 := HN.out.c0
  have y1 := HN.out.c1
  have y2 := HN.out.c2
  generalize (rd_T53 l0 0).f0 = xa at HREL z1
  generalize (rd_T53 l3 0).f0 = xb at HREL z2
  have ea : ∀ x : Addr, x.add 0 = x := fun x => by unfold Addr.add; split <;> simp_all
  replace z1 : w9.cell? ad = some (.int .i64 xa) := by rw [← ea ad]; exact z1
  replace z2 : w9.cell? ad' = some (.int .i64 xb) := by rw [← ea ad']; exact z2
  clear ea
  go_wp2
  go_region_held3 (fun w' => w'.cell? ⟨bf, ix, none⟩ = some (.int .i64 zd) ∧ w'.cell? ad = some (.int .i64 xa) ∧ w'.cell? ad' = some (.int .i64 xb) ∧ w'.cell? ⟨w.heap.size, 0, none⟩ = some (.slice A6 d.length c6) ∧ w'.cell? ⟨w.heap.size, 1, none⟩ = some (.slice A7 n.length c7) ∧ w'.cell? ⟨w.heap.size, 2, none⟩ = some (.slice A8 r.length c8)) (first | exact ⟨z0, z1, z2, y0, y1, y2⟩) ((go_at_call 62; refine (HREL.out _ (below_drew HN.out.bel)).mono ?_; rintro e w10 ⟨rfl, hb⟩; replace HN := Aside0.mk ((HN.out.step (w2 := w9.drew) (below_drew (Below.refl _ _))).step hb); replace z0 := pw_cell_below hb z0; replace z1 := pw_cell_below hb z1; replace z2 := pw_cell_below hb z2; clear y0 y1 y2; have y0 := HN.out.c0; have y1 := HN.out.c1; have y2 := HN.out.c2; clear hb))
  go_wp2
  go_ret
  exact ⟨rfl, HN.out.bel⟩
end Go.Proofs.Ytelglbebffdaaaa.X
namespace Go.Proofs.Ytelglbebffdaaaa.X
open Go.RowKit Go.Proofs.YtelglbebffdaaaaW.PrintWords Go.Proofs.YtelglbebffdaaaaW.PrintLast Go.Proofs.YtelglbebffdaaaaW.PrintMore
attribute [local go_sem] max2_int min2_int max_two min_two max_three min_three max_four min_four   -- for this text's walks alone
set_option linter.unusedVariables false
set_option linter.unusedSimpArgs false
noncomputable def laws_FnExactRootDist.f (k : Nat) (l0 : List (S66)) (l1 : List (S66)) (l2_0 : List Int) (l2_1 : List Int) (l2_2 : List Int) : Option (Bool) := (laws_szNodeS.f l0 1048576).bind fun t580 => (if t580 < 0 then (some true) else ((laws_szNodeS.f l1 t580).bind fun t581 => (if t581 < 0 then (some true) else ((laws_szCost.f l2_0 l2_1 l2_2 t581).bind fun t582 => (if t582 < 0 then (some true) else ((laws_toNodeS.f k l0).bind fun t583 => ((laws_toNodeS.f k l1).bind fun t586 => ((laws_toCost.f k l2_0 l2_1 l2_2).bind fun bt589 => ((spec_RootDist.f k t583 t586 bt589.1 bt589.2.1 bt589.2.2).bind fun t598 => ((laws_toNodeS.f k l0).bind fun t599 => ((laws_toNodeS.f k l1).bind fun t602 => ((laws_toCost.f k l2_0 l2_1 l2_2).bind fun bt605 => ((impl_RootDist.f k t599 t602 bt605.1 bt605.2.1 bt605.2.2).bind fun t615 => (if t615 = t598 then ((laws_toNodeS.f k l0).bind fun t616 => ((laws_eqNodeS.f k t599 t616).bind fun t619 => (if t619 = true then ((laws_toNodeS.f k l1).bind fun t620 => ((laws_eqNodeS.f k t602 t620).bind fun t623 => (if t623 = true then ((laws_toCost.f k l2_0 l2_1 l2_2).bind fun bt624 => ((laws_eqCost.f k bt605.1 bt605.2.1 bt605.2.2 bt624.1 bt624.2.1 bt624.2.2).bind fun t633 => (if t633 = true then (some true) else (some false)))) else (some false)))) else (some false)))) else (some false)))))))))))))))
def laws_FnExactRootDist.T11 : Bool × List (List Nat × List Nat) := (true, [([], []), ([0], [0]), ([], []), ([2, 1], [2]), ([], []), ([4, 3], [4]), ([1, 3, 5, 5], [1, 3, 5]), ([6, 6, 0, 1, 2, 3, 4, 5, 6], [6])])
def laws_FnExactRootDist.B11 : List Nat := [0, 1, 0, 7, 0, 31, 63, 127]
theorem laws_FnExactRootDist.tab11 : rtab .any (opsOf Try.f5 11) = laws_FnExactRootDist.T11 := by kernel_rfl
theorem laws_FnExactRootDist.bits11 : waitsOk laws_FnExactRootDist.T11.2 laws_FnExactRootDist.B11 = true := by kernel_rfl
set_option maxHeartbeats 8000000 in
set_option maxRecDepth 100000 in
theorem laws_FnExactRootDist.calls (k : Nat) (A0 : Option Addr) (c0 : Nat) (l0 : List (S66)) (A1 : Option Addr) (c1 : Nat) (l1 : List (S66)) (A2_0 : Option Addr) (c2_0 : Nat) (l2_0 : List Int) (A2_1 : Option Addr) (c2_1 : Nat) (l2_1 : List Int) (A2_2 : Option Addr) (c2_2 : Nat) (l2_2 : List Int) (w : World) (hr0 : Kd.C k66 w A0 l0.length l0) (hc0 : l0.length ≤ c0) (hr1 : Kd.C k66 w A1 l1.length l1) (hc1 : l1.length ≤ c1) (hr2_0 : Kd.C (Kd.int .i64) w A2_0 l2_0.length l2_0) (hc2_0 : l2_0.length ≤ c2_0) (hr2_1 : Kd.C (Kd.int .i64) w A2_1 l2_1.length l2_1) (hc2_1 : l2_1.length ≤ c2_1) (hr2_2 : Kd.C (Kd.int .i64) w A2_2 l2_2.length l2_2) (hc2_2 : l2_2.length ≤ c2_2) (h : laws_FnExactRootDist.f k l0 l1 l2_0 l2_1 l2_2 = some true) :
  Calls Try.prog 5 #[.slice A0 l0.length c0, .slice A1 l1.length c1, .agg #[.slice A2_0 l2_0.length c2_0, .slice A2_1 l2_1.length c2_1, .slice A2_2 l2_2.length c2_2]] w fun e w' => e = .returned (.bool true) ∧ Below w.heap.size w w' := by
 have hu25 := Try.underlying25
 have hu31 := Try.underlying31
 have HR0 := Aside0.mk hr0
 have HC0 := Aside0.mk hc0
 clear hr0 hc0
 have HR1 := Aside0.mk hr1
 have HC1 := Aside0.mk hc1
 clear hr1 hc1
 have HR2_0 := Aside0.mk hr2_0
 have HC2_0 := Aside0.mk hc2_0
 clear hr2_0 hc2_0
 have HR2_1 := Aside0.mk hr2_1
 have HC2_1 := Aside0.mk hc2_1
 clear hr2_1 hc2_1
 have HR2_2 := Aside0.mk hr2_2
 have HC2_2 := Aside0.mk hc2_2
 clear hr2_2 hc2_2
 have HB := Aside0.mk (Below.refl w.heap.size w)
 have H : ((laws_szNodeS.f l0 1048576).bind fun t580 => (if t580 < 0 then (some true) else ((laws_szNodeS.f l1 t580).bind fun t581 => (if t581 < 0 then (some true) else ((laws_szCost.f l2_0 l2_1 l2_2 t581).bind fun t582 => (if t582 < 0 then (some true) else ((laws_toNodeS.f k l0).bind fun t583 => ((laws_toNodeS.f k l1).bind fun t586 => ((laws_toCost.f k l2_0 l2_1 l2_2).bind fun bt589 => ((spec_RootDist.f k t583 t586 bt589.1 bt589.2.1 bt589.2.2).bind fun t598 => ((laws_toNodeS.f k l0).bind fun t599 => ((laws_toNodeS.f k l1).bind fun t602 => ((laws_toCost.f k l2_0 l2_1 l2_2).bind fun bt605 => ((impl_RootDist.f k t599 t602 bt605.1 bt605.2.1 bt605.2.2).bind fun t615 => (if t615 = t598 then ((laws_toNodeS.f k l0).bind fun t616 => ((laws_eqNodeS.f k t599 t616).bind fun t619 => (if t619 = true then ((laws_toNodeS.f k l1).bind fun t620 => ((laws_eqNodeS.f k t602 t620).bind fun t623 => (if t623 = true then ((laws_toCost.f k l2_0 l2_1 l2_2).bind fun bt624 => ((laws_eqCost.f k bt605.1 bt605.2.1 bt605.2.2 bt624.1 bt624.2.1 bt624.2.2).bind fun t633 => (if t633 = true then (some true) else (some false)))) else (some false)))) else (some false)))) else (some false)))))))))))))))) = some true := h
 clear h
 replace H := Option.bind_eq_some_iff.mp H
 obtain ⟨t580, A40, H⟩ := H
 try dsimp only at H
 have A4 := Aside0.mk A40
 clear A40
 by_cases c5 : t580 < 0
 ·rw [if_pos c5] at H
  have c5b0 : decide (t580 < 0) = true := decide_eq_true c5
  clear c5
  clear H
  go_enter Try.func5, Try.ntmps5
  go_wp2_with (first | ((with_reducible refine gate_dst (N := 5) rfl ?_); refine box_event ?hg (N := 5) ?hd (cs := #[.slice A2_0 l2_0.length c2_0, .slice A2_1 l2_1.length c2_1, .slice A2_2 l2_2.length c2_2]) (t := 25) ?hr ?_; (case hd => rfl); (case hg => rfl); (case hr => first | (go_simp; done) | (go_simp; rfl)); intro gb579 hg w6 hbox hb; have n0_ := Aside0.mk (below_step (by repeat (first | (with_reducible first | exact HB.out | apply below_alloc | apply pw_below_drewN | apply below_drew1) | exact HB.out)) hb); have n1_ := Aside0.mk (hbox); have n2_ := Aside0.mk ((by rw [hg]; exact (below_size (by repeat (first | (with_reducible first | exact HB.out | apply below_alloc | apply pw_below_drewN | apply below_drew1) | exact HB.out))) : w.heap.size ≤ gb579)); have n3_ := Aside0.mk ((by rw [hg]; exact (below_size (by repeat (first | (with_reducible first | exact HB.out | apply below_alloc | apply pw_below_drewN | apply below_drew1) | exact HB.out))) : w.heap.size ≤ gb579)); clear HB; have HB := n0_; have BK579 := n1_; have GW579 := n2_; have GE579 := n3_; clear n0_ n1_ n2_ n3_; clear hb hbox hg) | ((with_reducible refine gate_callee (f := 12) rfl ?_); refine goesL_ (some 15) rfl rfl Try.func12 (by kernel_rfl) rfl #[.slice A0 l0.length c0, .int .i64 1048576] rfl (by (try simp only [List.map_toArray, List.map_cons, List.map_nil]); first | done | rfl | (simp only [List.length_drop, List.length_take]; rfl)) ?_; (with_reducible refine (laws_szNodeS.calls _ _ l0 1048576 t580 _ ?side1 ?side2 A4.out).mono ?_); (case side1 => repeat (first | exact (Kd.C_below HR0.out HB.out) | (with_reducible refine Kd.C_alloc ?_ _) | (with_reducible refine Kd.C_drewN ?_ _) | (with_reducible refine Kd.C_drew ?_))); (case side2 => exact HC0.out); rintro e w' ⟨rfl, ⟨nd, rfl⟩⟩; refine ⟨_, rfl, ?_⟩))
  go_ret
  exact ⟨by first | rfl | (simp [errW_none, errW_some] <;> rfl) | (simp [*, errW_none, errW_some] <;> rfl), by repeat (first | (with_reducible first | exact HB.out | apply below_alloc | apply pw_below_drewN | apply below_drew1 | refine below_set ?_ GE579.out) | exact HB.out)⟩
 ·rw [if_neg c5] at H
  have c5b0 : decide (t580 < 0) = false := decide_eq_false c5
  clear c5
  replace H := Option.bind_eq_some_iff.mp H
  obtain ⟨t581, A70, H⟩ := H
  try dsimp only at H
  have A7 := Aside0.mk A70
  clear A70
  by_cases c8 : t581 < 0
  ·rw [if_pos c8] at H
   have c8b0 : decide (t581 < 0) = true := decide_eq_true c8
   clear c8
   clear H
   go_enter Try.func5, Try.ntmps5
   go_wp2_with (first | ((with_reducible refine gate_dst (N := 5) rfl ?_); refine box_event ?hg (N := 5) ?hd (cs := #[.slice A2_0 l2_0.length c2_0, .slice A2_1 l2_1.length c2_1, .slice A2_2 l2_2.length c2_2]) (t := 25) ?hr ?_; (case hd => rfl); (case hg => rfl); (case hr => first | (go_simp; done) | (go_simp; rfl)); intro gb579 hg w9 hbox hb; have n0_ := Aside0.mk (below_step (by repeat (first | (with_reducible first | exact HB.out | apply below_alloc | apply pw_below_drewN | apply below_drew1) | exact HB.out)) hb); have n1_ := Aside0.mk (hbox); have n2_ := Aside0.mk ((by rw [hg]; exact (below_size (by repeat (first | (with_reducible first | exact HB.out | apply below_alloc | apply pw_below_drewN | apply below_drew1) | exact HB.out))) : w.heap.size ≤ gb579)); have n3_ := Aside0.mk ((by rw [hg]; exact (below_size (by repeat (first | (with_reducible first | exact HB.out | apply below_alloc | apply pw_below_drewN | apply below_drew1) | exact HB.out))) : w.heap.size ≤ gb579)); clear HB; have HB := n0_; have BK579 := n1_; have GW579 := n2_; have GE579 := n3_; clear n0_ n1_ n2_ n3_; clear hb hbox hg) | ((with_reducible refine gate_callee (f := 12) rfl ?_); refine goesL_ (some 15) rfl rfl Try.func12 (by kernel_rfl) rfl #[.slice A0 l0.length c0, .int .i64 1048576] rfl (by (try simp only [List.map_toArray, List.map_cons, List.map_nil]); first | done | rfl | (simp only [List.length_drop, List.length_take]; rfl)) ?_; (with_reducible refine (laws_szNodeS.calls _ _ l0 1048576 t580 _ ?side1 ?side2 A4.out).mono ?_); (case side1 => repeat (first | exact (Kd.C_below HR0.out HB.out) | (with_reducible refine Kd.C_alloc ?_ _) | (with_reducible refine Kd.C_drewN ?_ _) | (with_reducible refine Kd.C_drew ?_))); (case side2 => exact HC0.out); rintro e w' ⟨rfl, ⟨nd, rfl⟩⟩; refine ⟨_, rfl, ?_⟩) | ((with_reducible refine gate_callee (f := 12) rfl ?_); refine goesL_ (some 20) rfl rfl Try.func12 (by kernel_rfl) rfl #[.slice A1 l1.length c1, .int .i64 t580] rfl (by (try simp only [List.map_toArray, List.map_cons, List.map_nil]); first | done | rfl | (simp only [List.length_drop, List.length_take]; rfl)) ?_; (with_reducible refine (laws_szNodeS.calls _ _ l1 t580 t581 _ ?side1 ?side2 A7.out).mono ?_); (case side1 => repeat (first | exact (Kd.C_below HR1.out (by repeat (first | (with_reducible first | exact HB.out | apply below_alloc | apply pw_below_drewN | apply below_drew1 | refine below_set ?_ GE579.out) | exact HB.out))) | (with_reducible refine Kd.C_alloc ?_ _) | (with_reducible refine Kd.C_drewN ?_ _) | (with_reducible refine Kd.C_drew ?_))); (case side2 => exact HC1.out); rintro e w' ⟨rfl, ⟨nd, rfl⟩⟩; refine ⟨_, rfl, ?_⟩))
   go_ret
   exact ⟨by first | rfl | (simp [errW_none, errW_some] <;> rfl) | (simp [*, errW_none, errW_some] <;> rfl), by repeat (first | (with_reducible first | exact HB.out | apply below_alloc | apply pw_below_drewN | apply below_drew1 | refine below_set ?_ GE579.out) | exact HB.out)⟩
  ·rw [if_neg c8] at H
   have c8b0 : decide (t581 < 0) = false := decide_eq_false c8
   clear c8
   replace H := Option.bind_eq_some_iff.mp H
   obtain ⟨t582, A100, H⟩ := H
   try dsimp only at H
   have A10 := Aside0.mk A100
   clear A100
   by_cases c11 : t582 < 0
   ·rw [if_pos c11] at H
    have c11b0 : decide (t582 < 0) = true := decide_eq_true c11
    clear c11
    clear H
    go_enter Try.func5, Try.ntmps5
    go_wp2_with (first | ((with_reducible refine gate_dst (N := 5) rfl ?_); refine box_event ?hg (N := 5) ?hd (cs := #[.slice A2_0 l2_0.length c2_0, .slice A2_1 l2_1.length c2_1, .slice A2_2 l2_2.length c2_2]) (t := 25) ?hr ?_; (case hd => rfl); (case hg => rfl); (case hr => first | (go_simp; done) | (go_simp; rfl)); intro gb579 hg w12 hbox hb; have n0_ := Aside0.mk (below_step (by repeat (first | (with_reducible first | exact HB.out | apply below_alloc | apply pw_below_drewN | apply below_drew1) | exact HB.out)) hb); have n1_ := Aside0.mk (hbox); have n2_ := Aside0.mk ((by rw [hg]; exact (below_size (by repeat (first | (with_reducible first | exact HB.out | apply below_alloc | apply pw_below_drewN | apply below_drew1) | exact HB.out))) : w.heap.size ≤ gb579)); have n3_ := Aside0.mk ((by rw [hg]; exact (below_size (by repeat (first | (with_reducible first | exact HB.out | apply below_alloc | apply pw_below_drewN | apply below_drew1) | exact HB.out))) : w.heap.size ≤ gb579)); clear HB; have HB := n0_; have BK579 := n1_; have GW579 := n2_; have GE579 := n3_; clear n0_ n1_ n2_ n3_; clear hb hbox hg) | ((with_reducible refine gate_callee (f := 12) rfl ?_); refine goesL_ (some 15) rfl rfl Try.func12 (by kernel_rfl) rfl #[.slice A0 l0.length c0, .int .i64 1048576] rfl (by (try simp only [List.map_toArray, List.map_cons, List.map_nil]); first | done | rfl | (simp only [List.length_drop, List.length_take]; rfl)) ?_; (with_reducible refine (laws_szNodeS.calls _ _ l0 1048576 t580 _ ?side1 ?side2 A4.out).mono ?_); (case side1 => repeat (first | exact (Kd.C_below HR0.out HB.out) | (with_reducible refine Kd.C_alloc ?_ _) | (with_reducible refine Kd.C_drewN ?_ _) | (with_reducible refine Kd.C_drew ?_))); (case side2 => exact HC0.out); rintro e w' ⟨rfl, ⟨nd, rfl⟩⟩; refine ⟨_, rfl, ?_⟩) | ((with_reducible refine gate_callee (f := 12) rfl ?_); refine goesL_ (some 20) rfl rfl Try.func12 (by kernel_rfl) rfl #[.slice A1 l1.length c1, .int .i64 t580] rfl (by (try simp only [List.map_toArray, List.map_cons, List.map_nil]); first | done | rfl | (simp only [List.length_drop, List.length_take]; rfl)) ?_; (with_reducible refine (laws_szNodeS.calls _ _ l1 t580 t581 _ ?side1 ?side2 A7.out).mono ?_); (case side1 => repeat (first | exact (Kd.C_below HR1.out (by repeat (first | (with_reducible first | exact HB.out | apply below_alloc | apply pw_below_drewN | apply below_drew1 | refine below_set ?_ GE579.out) | exact HB.out))) | (with_reducible refine Kd.C_alloc ?_ _) | (with_reducible refine Kd.C_drewN ?_ _) | (with_reducible refine Kd.C_drew ?_))); (case side2 => exact HC1.out); rintro e w' ⟨rfl, ⟨nd, rfl⟩⟩; refine ⟨_, rfl, ?_⟩; have hcz13_0 : w12.cell? ⟨gb579, 0, none⟩ = some (.slice A2_0 l2_0.length c2_0) := (blk_cell BK579.out 0).trans rfl; have hcz13_1 : w12.cell? ⟨gb579, 1, none⟩ = some (.slice A2_1 l2_1.length c2_1) := (blk_cell BK579.out 1).trans rfl; have hcz13_2 : w12.cell? ⟨gb579, 2, none⟩ = some (.slice A2_2 l2_2.length c2_2) := (blk_cell BK579.out 2).trans rfl; have hfz13_0 := blk_frozen BK579.out 0; have hfz13_1 := blk_frozen BK579.out 1; have hfz13_2 := blk_frozen BK579.out 2) | ((with_reducible refine gate_callee (f := 13) rfl ?_); refine goesL_ (some 25) rfl rfl Try.func13 (by kernel_rfl) rfl #[.agg #[.slice A2_0 l2_0.length c2_0, .slice A2_1 l2_1.length c2_1, .slice A2_2 l2_2.length c2_2], .int .i64 t581] rfl (by (try simp only [List.map_toArray, List.map_cons, List.map_nil]); first | done | rfl | (simp only [List.length_drop, List.length_take]; rfl)) ?_; (with_reducible refine (laws_szCost.calls _ _ l2_0 _ _ l2_1 _ _ l2_2 t581 t582 _ ?side1 ?side2 ?side3 ?side4 ?side5 ?side6 A10.out).mono ?_); (case side1 => repeat (first | exact (Kd.C_below HR2_0.out (by repeat (first | (with_reducible first | exact HB.out | apply below_alloc | apply pw_below_drewN | apply below_drew1 | refine below_set ?_ GE579.out) | exact HB.out))) | (with_reducible refine Kd.C_alloc ?_ _) | (with_reducible refine Kd.C_drewN ?_ _) | (with_reducible refine Kd.C_drew ?_))); (case side2 => exact HC2_0.out); (case side3 => repeat (first | exact (Kd.C_below HR2_1.out (by repeat (first | (with_reducible first | exact HB.out | apply below_alloc | apply pw_below_drewN | apply below_drew1 | refine below_set ?_ GE579.out) | exact HB.out))) | (with_reducible refine Kd.C_alloc ?_ _) | (with_reducible refine Kd.C_drewN ?_ _) | (with_reducible refine Kd.C_drew ?_))); (case side4 => exact HC2_1.out); (case side5 => repeat (first | exact (Kd.C_below HR2_2.out (by repeat (first | (with_reducible first | exact HB.out | apply below_alloc | apply pw_below_drewN | apply below_drew1 | refine below_set ?_ GE579.out) | exact HB.out))) | (with_reducible refine Kd.C_alloc ?_ _) | (with_reducible refine Kd.C_drewN ?_ _) | (with_reducible refine Kd.C_drew ?_))); (case side6 => exact HC2_2.out); rintro e w14 ⟨rfl, hb⟩; refine ⟨_, rfl, ?_⟩; have n0_ := Aside0.mk (blk_below (g := gb579) (o := .cells #[.slice A2_0 l2_0.length c2_0, .slice A2_1 l2_1.length c2_1, .slice A2_2 l2_2.length c2_2] 25 (0, 0)) (by (with_reducible repeat (first | refine blk_drewN ?_ _ | refine blk_drew ?_ | refine blk_alloc ?_ _)); exact BK579.out) hb); have n1_ := Aside0.mk (below_step (by repeat (first | (with_reducible first | exact HB.out | apply below_alloc | apply pw_below_drewN | apply below_drew1 | refine below_set ?_ GE579.out) | exact HB.out)) hb); clear BK579; clear HB; have BK579 := n0_; have HB := n1_; clear n0_ n1_; (try clear hb); (try clear hb2); (try clear hk); (try clear hi)))
    go_ret
    exact ⟨ea_, (bl_ HB).out⟩
   ·rw [if_neg c11] at H
    have c11b0 : decide (t582 < 0) = false := decide_eq_false c11
    clear c11
    replace H := Option.bind_eq_some_iff.mp H
    obtain ⟨t583, A150, H⟩ := H
    try dsimp only at H
    have A15 := Aside0.mk A150
    clear A150
    replace H := Option.bind_eq_some_iff.mp H
    obtain ⟨t586, A160, H⟩ := H
    try dsimp only at H
    have A16 := Aside0.mk A160
    clear A160
    replace H := Option.bind_eq_some_iff.mp H
    obtain ⟨⟨t589, t592, t595⟩, A170, H⟩ := H
    try dsimp only at H
    have A17 := Aside0.mk A170
    clear A170
    replace H := Option.bind_eq_some_iff.mp H
    obtain ⟨t598, A180, H⟩ := H
    try dsimp only at H
    have A18 := Aside0.mk A180
    clear A180
    replace H := Option.bind_eq_some_iff.mp H
    obtain ⟨t599, A190, H⟩ := H
    try dsimp only at H
    have A19 := Aside0.mk A190
    clear A190
    replace H := Option.bind_eq_some_iff.mp H
    obtain ⟨t602, A200, H⟩ := H
    try dsimp only at H
    have A20 := Aside0.mk A200
    clear A200
    replace H := Option.bind_eq_some_iff.mp H
    obtain ⟨⟨t605, t608, t611⟩, A210, H⟩ := H
    try dsimp only at H
    have A21 := Aside0.mk A210
    clear A210
    replace H := Option.bind_eq_some_iff.mp H
    obtain ⟨t615, A220, H⟩ := H
    try dsimp only at H
    have A22 := Aside0.mk A220
    clear A220
    by_cases c23 : t615 = t598
    ·rw [if_pos c23] at H
     have c23b0 : (t615 == t598) = true := beq_iff_eq.mpr c23
     have c23b1 : (t615 != t598) = false := bne_eq_false_iff_eq.mpr c23
     clear c23
     replace H := Option.bind_eq_some_iff.mp H
     obtain ⟨t616, A240, H⟩ := H
     try dsimp only at H
     have A24 := Aside0.mk A240
     clear A240
     replace H := Option.bind_eq_some_iff.mp H
     obtain ⟨t619, A250, H⟩ := H
     try dsimp only at H
     have A25 := Aside0.mk A250
     clear A250
     by_cases c26 : t619 = true
     ·subst c26
      have H1 : ((laws_toNodeS.f k l1).bind fun t620 => ((laws_eqNodeS.f k t602 t620).bind fun t623 => (if t623 = true then ((laws_toCost.f k l2_0 l2_1 l2_2).bind fun bt624 => ((laws_eqCost.f k t605 t608 t611 bt624.1 bt624.2.1 bt624.2.2).bind fun t633 => (if t633 = true then (some true) else (some false)))) else (some false)))) = some true := by rw [if_pos rfl] at H; exact H
      clear H
      have H := H1
      clear H1
      replace H := Option.bind_eq_some_iff.mp H
      obtain ⟨t620, A270, H⟩ := H
      try dsimp only at H
      have A27 := Aside0.mk A270
      clear A270
      replace H := Option.bind_eq_some_iff.mp H
      obtain ⟨t623, A280, H⟩ := H
      try dsimp only at H
      have A28 := Aside0.mk A280
      clear A280
      by_cases c29 : t623 = true
      ·subst c29
       have H1 : ((laws_toCost.f k l2_0 l2_1 l2_2).bind fun bt624 => ((laws_eqCost.f k t605 t608 t611 bt624.1 bt624.2.1 bt624.2.2).bind fun t633 => (if t633 = true then (some true) else (some false)))) = some true := by rw [if_pos rfl] at H; exact H
       clear H
       have H := H1
       clear H1
       replace H := Option.bind_eq_some_iff.mp H
       obtain ⟨⟨t624, t627, t630⟩, A300, H⟩ := H
       try dsimp only at H
       have A30 := Aside0.mk A300
       clear A300
       replace H := Option.bind_eq_some_iff.mp H
       obtain ⟨t633, A310, H⟩ := H
       replace H : (if t633 = true then (some true) else (some false)) = some true := H
       have A31 := Aside0.mk A310
       clear A310
       by_cases c32 : t633 = true
       ·subst c32
        have H1 : (some true) = some true := rfl
        clear H
        have H := H1
        clear H1
        clear H
        go_enter Try.func5, Try.ntmps5
        try go_wp2_with (first | ((with_reducible refine gate_dst (N := 5) rfl ?_); refine bx_ 5 #[.slice A2_0 l2_0.length c2_0, .slice A2_1 l2_1.length c2_1, .slice A2_2 l2_2.length c2_2] 25 ?_; intro gb579 hg w33 hbox hb; have BK579 := Aside0.mk (hbox); have GW579 := Aside0.mk ((by rw [hg]; exact (bs_ HB) : w.heap.size ≤ gb579)); have GE579 := Aside0.mk ((by rw [hg]; exact (bs_ HB) : w.heap.size ≤ gb579)); replace HB := tB_ HB hb; clear hb hbox hg) | ((with_reducible refine gate_callee (f := 12) rfl ?_); refine gL_ (some 15) Try.func12 #[.slice A0 l0.length c0, .int .i64 1048576] ?_; (with_reducible refine (laws_szNodeS.calls _ _ l0 1048576 t580 _ (cx_ HR0 HB) HC0.out A4.out).mono ?_); rintro e w' ⟨rfl, ⟨nd, rfl⟩⟩; refine ⟨_, rfl, ?_⟩; (try (rw [drewN_self w33]; generalize hq_ : World.drewN w33 _ = w33; have n0_ : Aside0 (w33.heap[gb579]? = some (.cells #[.slice A2_0 l2_0.length c2_0, .slice A2_1 l2_1.length c2_1, .slice A2_2 l2_2.length c2_2] 25 (0, 0))) := ⟨by rw [← hq_]; exact (kx_ BK579.out)⟩; have n1_ : Aside0 (Below w.heap.size w w33) := ⟨by rw [← hq_]; exact ((bl_ HB).out)⟩; clear BK579 HB hq_; have BK579 := n0_; have HB := n1_; clear n0_ n1_))) | ((with_reducible refine gate_callee (f := 12) rfl ?_); refine gL_ (some 20) Try.func12 #[.slice A1 l1.length c1, .int .i64 t580] ?_; (with_reducible refine (laws_szNodeS.calls _ _ l1 t580 t581 _ (cx_ HR1 HB) HC1.out A7.out).mono ?_); rintro e w' ⟨rfl, ⟨nd, rfl⟩⟩; refine ⟨_, rfl, ?_⟩; (try (rw [drewN_self w33]; generalize hq_ : World.drewN w33 _ = w33; have n0_ : Aside0 (w33.heap[gb579]? = some (.cells #[.slice A2_0 l2_0.length c2_0, .slice A2_1 l2_1.length c2_1, .slice A2_2 l2_2.length c2_2] 25 (0, 0))) := ⟨by rw [← hq_]; exact (kx_ BK579.out)⟩; have n1_ : Aside0 (Below w.heap.size w w33) := ⟨by rw [← hq_]; exact ((bl_ HB).out)⟩; clear BK579 HB hq_; have BK579 := n0_; have HB := n1_; clear n0_ n1_)); obtain ⟨hcz34_0, hcz34_1, hcz34_2, hfz34_0, hfz34_1, hfz34_2⟩ := bk3_ BK579) | ((with_reducible refine gate_callee (f := 13) rfl ?_); refine gL_ (some 25) Try.func13 #[.agg #[.slice A2_0 l2_0.length c2_0, .slice A2_1 l2_1.length c2_1, .slice A2_2 l2_2.length c2_2], .int .i64 t581] ?_; (with_reducible refine (laws_szCost.calls _ _ l2_0 _ _ l2_1 _ _ l2_2 t581 t582 _ (cx_ HR2_0 HB) HC2_0.out (cx_ HR2_1 HB) HC2_1.out (cx_ HR2_2 HB) HC2_2.out A10.out).mono ?_); rintro e w35 ⟨rfl, hb⟩; refine ⟨_, rfl, ?_⟩; replace BK579 := tK_ BK579 hb; replace HB := tB_ HB hb; (try clear hb)))
        have n0_ := Aside0.mk (blk_drew BK579.out)
        have n1_ := Aside0.mk (below_drew1 HB.out)
        clear BK579
        clear HB
        have BK579 := n0_
        have HB := n1_
        clear n0_ n1_
        refine start_ (n := 8) (S := fun w' => w'.cell? ⟨gb579, 0, none⟩ = some (.slice A2_0 l2_0.length c2_0) ∧ w'.cell? ⟨gb579, 1, none⟩ = some (.slice A2_1 l2_1.length c2_1) ∧ w'.cell? ⟨gb579, 2, none⟩ = some (.slice A2_2 l2_2.length c2_2)) (ds := []) (ba_ 8 0) (by kernel_rfl) rfl rfl ⟨(blk_cell BK579.out 0).trans rfl, (blk_cell BK579.out 1).trans rfl, (blk_cell BK579.out 2).trans rfl⟩ (fun hHeld => ?_); refine with_tabW laws_FnExactRootDist.tab11 laws_FnExactRootDist.bits11 (fun HT_ HW_ => ?_)
        generalize w35.drew = w36 at BK579 HB hHeld ⊢
        refine pu_ 0 (some 28) (ba_ 8 1) rfl rfl (any_of HT_.out (by kernel_rfl)) ?_
        refine pu_ 2 (some 30) (ba_ 8 5) rfl rfl (any_of HT_.out (by kernel_rfl)) ?_
        refine ta_ 4 (some 32) (ba_ 8 21) rfl rfl (take_ofW HT_.out HW_.out (by kernel_rfl)) hHeld (by rintro w' ⟨s0, s1, s2⟩; go_simp; with_reducible rfl) ?_
        refine one_ (i := 1) (N := some 29) (ba_ 8 23) rfl rfl (one_of HT_.out (by kernel_rfl)) (by decide) (fun K hK => ?_)
        refine goes_ Try.func15 (by kernel_rfl) rfl #[.slice A0 l0.length c0] (by rfl) rfl rfl (by (try simp only [List.map_toArray, List.map_cons, List.map_nil]); first | done | rfl | (simp only [List.length_drop, List.length_take]; rfl)) ?_
        with_reducible refine (laws_toNodeS.calls k _ _ l0 t583 _ ?side1 ?side2 A15.out).mono ?_
        (case side1 => exact cx_ HR0 HB)
        (case side2 => exact HC0.out)
        rintro e w37 ⟨v584, rfl, ho0, hb⟩
        refine ⟨_, rfl, ?_⟩
        have n0_ := Aside0.mk (Kd.R_lower ho0 (bs_ HB))
        have n1_ := tK_ BK579 hb
        have n2_ := tB_ HB hb
        clear BK579
        clear HB
        have HO585 := n0_
        have BK579 := n1_
        have HB := n2_
        clear n0_ n1_ n2_
        (try clear hb)
        (try clear hb2)
        (try clear hk)
        (try clear hi)
        (try clear ho0)
        refine hK.out _ _ ⟨(blk_cell BK579.out 0).trans rfl, (blk_cell BK579.out 1).trans rfl, (blk_cell BK579.out 2).trans rfl⟩ (fun hHeld => ?_)
        clear hK K
        refine norm_ (a' := ?_) ?_ ?_
        rotate_left
        ·show Act.put _ (some 29) _ = _
         simp only [Act.put, List.setIfInBounds_toArray, List.set_cons_zero, List.set_cons_succ, i64_w, i32_w]
         rfl
        refine one_ (i := 3) (N := some 31) (ba_ 8 31) rfl rfl (one_of HT_.out (by kernel_rfl)) (by decide) (fun K hK => ?_)
        refine goes_ Try.func15 (by kernel_rfl) rfl #[.slice A1 l1.length c1] (by rfl) rfl rfl (by (try simp only [List.map_toArray, List.map_cons, List.map_nil]); first | done | rfl | (simp only [List.length_drop, List.length_take]; rfl)) ?_
        with_reducible refine (laws_toNodeS.calls k _ _ l1 t586 _ ?side1 ?side2 A16.out).mono ?_
        (case side1 => exact cx_ HR1 HB)
        (case side2 => exact HC1.out)
        rintro e w38 ⟨v587, rfl, ho0, hb⟩
        refine ⟨_, rfl, ?_⟩
        have n0_ := Aside0.mk (Kd.R_elder' (rx_ HO585.out) (Kd.R_base ho0) hb)
        have n1_ := Aside0.mk (Kd.R_lower (Kd.R_new' ho0 (Kd.R_lt (rx_ HO585.out))) (bs_ HB))
        have n2_ := tK_ BK579 hb
        have n3_ := tB_ HB hb
        clear HO585
        clear BK579
        clear HB
        have HO585 := n0_
        have HO588 := n1_
        have BK579 := n2_
        have HB := n3_
        clear n0_ n1_ n2_ n3_
        (try clear hb)
        (try clear hb2)
        (try clear hk)
        (try clear hi)
        (try clear ho0)
        refine hK.out _ _ ⟨(blk_cell BK579.out 0).trans rfl, (blk_cell BK579.out 1).trans rfl, (blk_cell BK579.out 2).trans rfl⟩ (fun hHeld => ?_)
        clear hK K
        refine norm_ (a' := ?_) ?_ ?_
        rotate_left
        ·show Act.put _ (some 31) _ = _
         simp only [Act.put, List.setIfInBounds_toArray, List.set_cons_zero, List.set_cons_succ, i64_w, i32_w]
         rfl
        refine one_ (i := 5) (N := some 33) (ba_ 8 63) rfl rfl (one_of HT_.out (by kernel_rfl)) (by decide) (fun K hK => ?_)
        refine goes_ Try.func16 (by kernel_rfl) rfl #[.agg #[.slice A2_0 l2_0.length c2_0, .slice A2_1 l2_1.length c2_1, .slice A2_2 l2_2.length c2_2]] (by rfl) rfl rfl (by (try simp only [List.map_toArray, List.map_cons, List.map_nil]); first | done | rfl | (simp only [List.length_drop, List.length_take]; rfl)) ?_
        with_reducible refine (laws_toCost.calls k _ _ l2_0 _ _ l2_1 _ _ l2_2 t589 t592 t595 _ ?side1 ?side2 ?side3 ?side4 ?side5 ?side6 A17.out).mono ?_
        (case side1 => exact cx_ HR2_0 HB)
        (case side2 => exact HC2_0.out)
        (case side3 => exact cx_ HR2_1 HB)
        (case side4 => exact HC2_1.out)
        (case side5 => exact cx_ HR2_2 HB)
        (case side6 => exact HC2_2.out)
        rintro e w39 ⟨v590, v593, v596, rfl, ho0, ho1, ho2, hb⟩
        refine ⟨_, rfl, ?_⟩
        have n0_ := tR_ HO585 hb
        have n1_ := tR_ HO588 hb
        have n2_ := Aside0.mk (Kd.R_lower ho0 (bs_ HB))
        have n3_ := Aside0.mk (Kd.R_lower ho1 (bs_ HB))
        have n4_ := Aside0.mk (Kd.R_lower ho2 (bs_ HB))
        have n5_ := Aside0.mk (blk_below (g := gb579) (o := .cells #[.slice A2_0 l2_0.length c2_0, .slice A2_1 l2_1.length c2_1, .slice A2_2 l2_2.length c2_2] 25 (0, 0)) (by (with_reducible repeat (first | refine blk_drewN ?_ _ | refine blk_drew ?_ | refine blk_alloc ?_ _)); exact BK579.out) hb)
        have n6_ := Aside0.mk (below_step (by repeat (first | (with_reducible first | exact HB.out | apply below_alloc | apply pw_below_drewN | apply below_drew1 | refine below_set ?_ GE579.out) | exact HB.out)) hb)
        clear HO585
        clear HO588
        clear BK579
        clear HB
        have HO585 := n0_
        have HO588 := n1_
        have HO591 := n2_
        have HO594 := n3_
        have HO597 := n4_
        have BK579 := n5_
        have HB := n6_
        clear n0_ n1_ n2_ n3_ n4_ n5_ n6_
        (try clear hb)
        (try clear hb2)
        (try clear hk)
        (try clear hi)
        (try clear ho0)
        (try clear ho1)
        (try clear ho2)
        obtain ⟨Ao40, co40, eo40⟩ := Kd.R_slice HO585.out
        (first | subst eo40 | (injection eo40 with f1_ f2_ f3_; have f4_ := f1_.symm; have f5_ := f3_.symm; clear f1_ f2_ f3_; subst f4_; subst f5_))
        obtain ⟨Ao41, co41, eo41⟩ := Kd.R_slice HO588.out
        (first | subst eo41 | (injection eo41 with f1_ f2_ f3_; have f4_ := f1_.symm; have f5_ := f3_.symm; clear f1_ f2_ f3_; subst f4_; subst f5_))
        obtain ⟨Ao42, co42, eo42⟩ := Kd.R_slice HO591.out
        (first | subst eo42 | (injection eo42 with f1_ f2_ f3_; have f4_ := f1_.symm; have f5_ := f3_.symm; clear f1_ f2_ f3_; subst f4_; subst f5_))
        obtain ⟨Ao43, co43, eo43⟩ := Kd.R_slice HO594.out
        (first | subst eo43 | (injection eo43 with f1_ f2_ f3_; have f4_ := f1_.symm; have f5_ := f3_.symm; clear f1_ f2_ f3_; subst f4_; subst f5_))
        obtain ⟨Ao44, co44, eo44⟩ := Kd.R_slice HO597.out
        (first | subst eo44 | (injection eo44 with f1_ f2_ f3_; have f4_ := f1_.symm; have f5_ := f3_.symm; clear f1_ f2_ f3_; subst f4_; subst f5_))
        refine hK.out _ _ ⟨(blk_cell BK579.out 0).trans rfl, (blk_cell BK579.out 1).trans rfl, (blk_cell BK579.out 2).trans rfl⟩ (fun hHeld => ?_)
        clear hK K
        refine norm_ (a' := ?_) ?_ ?_
        rotate_left
        ·show Act.put _ (some 33) _ = _
         simp only [Act.put, List.setIfInBounds_toArray, List.set_cons_zero, List.set_cons_succ, i64_w, i32_w]
         rfl
        refine one_ (i := 6) (N := some 34) (ba_ 8 127) rfl rfl (one_of HT_.out (by kernel_rfl)) (by decide) (fun K hK => ?_)
        refine goes_ Try.func22 (by kernel_rfl) rfl #[.slice Ao40 t583.length co40, .slice Ao41 t586.length co41, .agg #[.slice Ao42 t589.length co42, .slice Ao43 t592.length co43, .slice Ao44 t595.length co44]] (by rfl) rfl rfl (by (try simp only [List.map_toArray, List.map_cons, List.map_nil]); first | done | rfl | (simp only [List.length_drop, List.length_take]; rfl)) ?_
        with_reducible refine (spec_RootDist.calls k _ _ t583 _ _ t586 _ _ t589 _ _ t592 _ _ t595 t598 _ ?side1 ?side2 ?side3 ?side4 ?side5 ?side6 ?side7 ?side8 ?side9 ?side10 A18.out).mono ?_
        (case side1 => exact cc_ (Kd.R_reads' HO585.out).2.2)
        (case side2 => exact (Kd.R_reads' HO585.out).2.1)
        (case side3 => exact cc_ (Kd.R_reads' HO588.out).2.2)
        (case side4 => exact (Kd.R_reads' HO588.out).2.1)
        (case side5 => exact cc_ (Kd.R_reads' HO591.out).2.2)
        (case side6 => exact (Kd.R_reads' HO591.out).2.1)
        (case side7 => exact cc_ (Kd.R_reads' HO594.out).2.2)
        (case side8 => exact (Kd.R_reads' HO594.out).2.1)
        (case side9 => exact cc_ (Kd.R_reads' HO597.out).2.2)
        (case side10 => exact (Kd.R_reads' HO597.out).2.1)
        rintro e w45 ⟨rfl, hb⟩
        refine ⟨_, rfl, ?_⟩
        have n0_ := tR_ HO585 hb
        have n1_ := tR_ HO588 hb
        have n2_ := tR_ HO591 hb
        have n3_ := tR_ HO594 hb
        have n4_ := tR_ HO597 hb
        have n5_ := Aside0.mk (blk_below (g := gb579) (o := .cells #[.slice A2_0 l2_0.length c2_0, .slice A2_1 l2_1.length c2_1, .slice A2_2 l2_2.length c2_2] 25 (0, 0)) (by (with_reducible repeat (first | refine blk_drewN ?_ _ | refine blk_drew ?_ | refine blk_alloc ?_ _)); exact BK579.out) hb)
        have n6_ := Aside0.mk (below_step (by repeat (first | (with_reducible first | exact HB.out | apply below_alloc | apply pw_below_drewN | apply below_drew1 | refine below_set ?_ GE579.out) | exact HB.out)) hb)
        clear HO585
        clear HO588
        clear HO591
        clear HO594
        clear HO597
        clear BK579
        clear HB
        have HO585 := n0_
        have HO588 := n1_
        have HO591 := n2_
        have HO594 := n3_
        have HO597 := n4_
        have BK579 := n5_
        have HB := n6_
        clear n0_ n1_ n2_ n3_ n4_ n5_ n6_
        (try clear hb)
        (try clear hb2)
        (try clear hk)
        (try clear hi)
        refine hK.out _ _ ⟨(blk_cell BK579.out 0).trans rfl, (blk_cell BK579.out 1).trans rfl, (blk_cell BK579.out 2).trans rfl⟩ (fun hHeld => ?_)
        clear hK K
        refine norm_ (a' := ?_) ?_ ?_
        rotate_left
        ·show Act.put _ (some 34) _ = _
         simp only [Act.put, List.setIfInBounds_toArray, List.set_cons_zero, List.set_cons_succ, i64_w, i32_w]
         rfl
        refine pu_ 7 (some 8) (ba_ 8 255) rfl rfl (any_of HT_.out (by kernel_rfl)) ?_
        refine done_ (done_of HT_.out (by kernel_rfl)) ?_
        try go_wp2_with (first | ((with_reducible refine gate_callee (f := 15) rfl ?_); refine goesL_ (some 36) rfl rfl Try.func15 (by kernel_rfl) rfl #[.slice A0 l0.length c0] rfl (by (try simp only [List.map_toArray, List.map_cons, List.map_nil]); first | done | rfl | (simp only [List.length_drop, List.length_take]; rfl)) ?_; (with_reducible refine (laws_toNodeS.calls k _ _ l0 t599 _ ?side1 ?side2 A19.out).mono ?_); (case side1 => repeat (first | exact (Kd.C_below HR0.out HB.out) | (with_reducible refine Kd.C_alloc ?_ _) | (with_reducible refine Kd.C_drewN ?_ _) | (with_reducible refine Kd.C_drew ?_))); (case side2 => exact HC0.out); rintro e w46 ⟨v600, rfl, ho0, hb⟩; refine ⟨_, rfl, ?_⟩; have n0_ := Aside0.mk (Kd.R_elder' (by (with_reducible repeat (first | apply Kd.R_alloc | apply Kd.R_drewN | apply Kd.R_drew)); exact HO585.out) (Kd.R_base ho0) hb); have n1_ := Aside0.mk (Kd.R_elder' (by (with_reducible repeat (first | apply Kd.R_alloc | apply Kd.R_drewN | apply Kd.R_drew)); exact HO588.out) (Kd.R_base ho0) hb); have n2_ := Aside0.mk (Kd.R_below (by (with_reducible repeat (first | apply Kd.R_alloc | apply Kd.R_drewN | apply Kd.R_drew)); exact HO591.out) hb); have n3_ := Aside0.mk (Kd.R_below (by (with_reducible repeat (first | apply Kd.R_alloc | apply Kd.R_drewN | apply Kd.R_drew)); exact HO594.out) hb); have n4_ := Aside0.mk (Kd.R_below (by (with_reducible repeat (first | apply Kd.R_alloc | apply Kd.R_drewN | apply Kd.R_drew)); exact HO597.out) hb); have n5_ := Aside0.mk (Kd.R_lower (Kd.R_new' (Kd.R_new' ho0 (Kd.R_lt (by (with_reducible repeat (first | apply Kd.R_alloc | apply Kd.R_drewN | apply Kd.R_drew)); exact HO585.out))) (Kd.R_lt (by (with_reducible repeat (first | apply Kd.R_alloc | apply Kd.R_drewN | apply Kd.R_drew)); exact HO588.out))) (below_size (by repeat (first | (with_reducible first | exact HB.out | apply below_alloc | apply pw_below_drewN | apply below_drew1 | refine below_set ?_ GE579.out) | exact HB.out)))); have n6_ := Aside0.mk (blk_below (g := gb579) (o := .cells #[.slice A2_0 l2_0.length c2_0, .slice A2_1 l2_1.length c2_1, .slice A2_2 l2_2.length c2_2] 25 (0, 0)) (by (with_reducible repeat (first | refine blk_drewN ?_ _ | refine blk_drew ?_ | refine blk_alloc ?_ _)); exact BK579.out) hb); have n7_ := Aside0.mk (below_step (by repeat (first | (with_reducible first | exact HB.out | apply below_alloc | apply pw_below_drewN | apply below_drew1 | refine below_set ?_ GE579.out) | exact HB.out)) hb); clear HO585; clear HO588; clear HO591; clear HO594; clear HO597; clear BK579; clear HB; have HO585 := n0_; have HO588 := n1_; have HO591 := n2_; have HO594 := n3_; have HO597 := n4_; have HO601 := n5_; have BK579 := n6_; have HB := n7_; clear n0_ n1_ n2_ n3_ n4_ n5_ n6_ n7_; (try clear hb); (try clear hb2); (try clear hk); (try clear hi); (try clear ho0)) | ((with_reducible refine gate_callee (f := 15) rfl ?_); refine goesL_ (some 38) rfl rfl Try.func15 (by kernel_rfl) rfl #[.slice A1 l1.length c1] rfl (by (try simp only [List.map_toArray, List.map_cons, List.map_nil]); first | done | rfl | (simp only [List.length_drop, List.length_take]; rfl)) ?_; (with_reducible refine (laws_toNodeS.calls k _ _ l1 t602 _ ?side1 ?side2 A20.out).mono ?_); (case side1 => repeat (first | exact (Kd.C_below HR1.out HB.out) | (with_reducible refine Kd.C_alloc ?_ _) | (with_reducible refine Kd.C_drewN ?_ _) | (with_reducible refine Kd.C_drew ?_))); (case side2 => exact HC1.out); rintro e w47 ⟨v603, rfl, ho0, hb⟩; refine ⟨_, rfl, ?_⟩; have n0_ := Aside0.mk (Kd.R_elder' (by (with_reducible repeat (first | apply Kd.R_alloc | apply Kd.R_drewN | apply Kd.R_drew)); exact HO585.out) (Kd.R_base ho0) hb); have n1_ := Aside0.mk (Kd.R_elder' (by (with_reducible repeat (first | apply Kd.R_alloc | apply Kd.R_drewN | apply Kd.R_drew)); exact HO588.out) (Kd.R_base ho0) hb); have n2_ := Aside0.mk (Kd.R_below (by (with_reducible repeat (first | apply Kd.R_alloc | apply Kd.R_drewN | apply Kd.R_drew)); exact HO591.out) hb); have n3_ := Aside0.mk (Kd.R_below (by (with_reducible repeat (first | apply Kd.R_alloc | apply Kd.R_drewN | apply Kd.R_drew)); exact HO594.out) hb); have n4_ := Aside0.mk (Kd.R_below (by (with_reducible repeat (first | apply Kd.R_alloc | apply Kd.R_drewN | apply Kd.R_drew)); exact HO597.out) hb); have n5_ := Aside0.mk (Kd.R_elder' (by (with_reducible repeat (first | apply Kd.R_alloc | apply Kd.R_drewN | apply Kd.R_drew)); exact HO601.out) (Kd.R_base ho0) hb); have n6_ := Aside0.mk (Kd.R_lower (Kd.R_new' (Kd.R_new' (Kd.R_new' ho0 (Kd.R_lt (by (with_reducible repeat (first | apply Kd.R_alloc | apply Kd.R_drewN | apply Kd.R_drew)); exact HO585.out))) (Kd.R_lt (by (with_reducible repeat (first | apply Kd.R_alloc | apply Kd.R_drewN | apply Kd.R_drew)); exact HO588.out))) (Kd.R_lt (by (with_reducible repeat (first | apply Kd.R_alloc | apply Kd.R_drewN | apply Kd.R_drew)); exact HO601.out))) (below_size (by repeat (first | (with_reducible first | exact HB.out | apply below_alloc | apply pw_below_drewN | apply below_drew1 | refine below_set ?_ GE579.out) | exact HB.out)))); have n7_ := Aside0.mk (blk_below (g := gb579) (o := .cells #[.slice A2_0 l2_0.length c2_0, .slice A2_1 l2_1.length c2_1, .slice A2_2 l2_2.length c2_2] 25 (0, 0)) (by (with_reducible repeat (first | refine blk_drewN ?_ _ | refine blk_drew ?_ | refine blk_alloc ?_ _)); exact BK579.out) hb); have n8_ := Aside0.mk (below_step (by repeat (first | (with_reducible first | exact HB.out | apply below_alloc | apply pw_below_drewN | apply below_drew1 | refine below_set ?_ GE579.out) | exact HB.out)) hb); clear HO585; clear HO588; clear HO591; clear HO594; clear HO597; clear HO601; clear BK579; clear HB; have HO585 := n0_; have HO588 := n1_; have HO591 := n2_; have HO594 := n3_; have HO597 := n4_; have HO601 := n5_; have HO604 := n6_; have BK579 := n7_; have HB := n8_; clear n0_ n1_ n2_ n3_ n4_ n5_ n6_ n7_ n8_; (try clear hb); (try clear hb2); (try clear hk); (try clear hi); (try clear ho0); have hcz48_0 : w47.cell? ⟨gb579, 0, none⟩ = some (.slice A2_0 l2_0.length c2_0) := (blk_cell BK579.out 0).trans rfl; have hcz48_1 : w47.cell? ⟨gb579, 1, none⟩ = some (.slice A2_1 l2_1.length c2_1) := (blk_cell BK579.out 1).trans rfl; have hcz48_2 : w47.cell? ⟨gb579, 2, none⟩ = some (.slice A2_2 l2_2.length c2_2) := (blk_cell BK579.out 2).trans rfl; have hfz48_0 := blk_frozen BK579.out 0; have hfz48_1 := blk_frozen BK579.out 1; have hfz48_2 := blk_frozen BK579.out 2) | ((with_reducible refine gate_callee (f := 16) rfl ?_); refine goesL_ (some 40) rfl rfl Try.func16 (by kernel_rfl) rfl #[.agg #[.slice A2_0 l2_0.length c2_0, .slice A2_1 l2_1.length c2_1, .slice A2_2 l2_2.length c2_2]] rfl (by (try simp only [List.map_toArray, List.map_cons, List.map_nil]); first | done | rfl | (simp only [List.length_drop, List.length_take]; rfl)) ?_; (with_reducible refine (laws_toCost.calls k _ _ l2_0 _ _ l2_1 _ _ l2_2 t605 t608 t611 _ ?side1 ?side2 ?side3 ?side4 ?side5 ?side6 A21.out).mono ?_); (case side1 => repeat (first | exact (Kd.C_below HR2_0.out HB.out) | (with_reducible refine Kd.C_alloc ?_ _) | (with_reducible refine Kd.C_drewN ?_ _) | (with_reducible refine Kd.C_drew ?_))); (case side2 => exact HC2_0.out); (case side3 => repeat (first | exact (Kd.C_below HR2_1.out HB.out) | (with_reducible refine Kd.C_alloc ?_ _) | (with_reducible refine Kd.C_drewN ?_ _) | (with_reducible refine Kd.C_drew ?_))); (case side4 => exact HC2_1.out); (case side5 => repeat (first | exact (Kd.C_below HR2_2.out HB.out) | (with_reducible refine Kd.C_alloc ?_ _) | (with_reducible refine Kd.C_drewN ?_ _) | (with_reducible refine Kd.C_drew ?_))); (case side6 => exact HC2_2.out); rintro e w49 ⟨v606, v609, v612, rfl, ho0, ho1, ho2, hb⟩; refine ⟨_, rfl, ?_⟩; have n0_ := Aside0.mk (Kd.R_below (by (with_reducible repeat (first | apply Kd.R_alloc | apply Kd.R_drewN | apply Kd.R_drew)); exact HO585.out) hb); have n1_ := Aside0.mk (Kd.R_below (by (with_reducible repeat (first | apply Kd.R_alloc | apply Kd.R_drewN | apply Kd.R_drew)); exact HO588.out) hb); have n2_ := Aside0.mk (Kd.R_mono (Kd.R_told (Kd.R_told (Kd.R_told (Kd.R_old (by (with_reducible repeat (first | apply Kd.R_alloc | apply Kd.R_drewN | apply Kd.R_drew)); exact HO591.out) hb) (Kd.R_base ho0)) (Kd.R_base ho1)) (Kd.R_base ho2)) (fun _ h_ => h_.1)); have n3_ := Aside0.mk (Kd.R_mono (Kd.R_told (Kd.R_told (Kd.R_told (Kd.R_old (by (with_reducible repeat (first | apply Kd.R_alloc | apply Kd.R_drewN | apply Kd.R_drew)); exact HO594.out) hb) (Kd.R_base ho0)) (Kd.R_base ho1)) (Kd.R_base ho2)) (fun _ h_ => h_.1)); have n4_ := Aside0.mk (Kd.R_mono (Kd.R_told (Kd.R_told (Kd.R_told (Kd.R_old (by (with_reducible repeat (first | apply Kd.R_alloc | apply Kd.R_drewN | apply Kd.R_drew)); exact HO597.out) hb) (Kd.R_base ho0)) (Kd.R_base ho1)) (Kd.R_base ho2)) (fun _ h_ => h_.1)); have n5_ := Aside0.mk (Kd.R_below (by (with_reducible repeat (first | apply Kd.R_alloc | apply Kd.R_drewN | apply Kd.R_drew)); exact HO601.out) hb); have n6_ := Aside0.mk (Kd.R_below (by (with_reducible repeat (first | apply Kd.R_alloc | apply Kd.R_drewN | apply Kd.R_drew)); exact HO604.out) hb); have n7_ := Aside0.mk (Kd.R_lower (Kd.R_new' (Kd.R_new' (Kd.R_new' ho0 (Kd.R_lt (by (with_reducible repeat (first | apply Kd.R_alloc | apply Kd.R_drewN | apply Kd.R_drew)); exact HO591.out))) (Kd.R_lt (by (with_reducible repeat (first | apply Kd.R_alloc | apply Kd.R_drewN | apply Kd.R_drew)); exact HO594.out))) (Kd.R_lt (by (with_reducible repeat (first | apply Kd.R_alloc | apply Kd.R_drewN | apply Kd.R_drew)); exact HO597.out))) (below_size (by repeat (first | (with_reducible first | exact HB.out | apply below_alloc | apply pw_below_drewN | apply below_drew1 | refine below_set ?_ GE579.out) | exact HB.out)))); have n8_ := Aside0.mk (Kd.R_lower (Kd.R_new' (Kd.R_new' (Kd.R_new' ho1 (Kd.R_lt (by (with_reducible repeat (first | apply Kd.R_alloc | apply Kd.R_drewN | apply Kd.R_drew)); exact HO591.out))) (Kd.R_lt (by (with_reducible repeat (first | apply Kd.R_alloc | apply Kd.R_drewN | apply Kd.R_drew)); exact HO594.out))) (Kd.R_lt (by (with_reducible repeat (first | apply Kd.R_alloc | apply Kd.R_drewN | apply Kd.R_drew)); exact HO597.out))) (below_size (by repeat (first | (with_reducible first | exact HB.out | apply below_alloc | apply pw_below_drewN | apply below_drew1 | refine below_set ?_ GE579.out) | exact HB.out)))); have n9_ := Aside0.mk (Kd.R_lower (Kd.R_new' (Kd.R_new' (Kd.R_new' ho2 (Kd.R_lt (by (with_reducible repeat (first | apply Kd.R_alloc | apply Kd.R_drewN | apply Kd.R_drew)); exact HO591.out))) (Kd.R_lt (by (with_reducible repeat (first | apply Kd.R_alloc | apply Kd.R_drewN | apply Kd.R_drew)); exact HO594.out))) (Kd.R_lt (by (with_reducible repeat (first | apply Kd.R_alloc | apply Kd.R_drewN | apply Kd.R_drew)); exact HO597.out))) (below_size (by repeat (first | (with_reducible first | exact HB.out | apply below_alloc | apply pw_below_drewN | apply below_drew1 | refine below_set ?_ GE579.out) | exact HB.out)))); have n10_ := Aside0.mk (blk_below (g := gb579) (o := .cells #[.slice A2_0 l2_0.length c2_0, .slice A2_1 l2_1.length c2_1, .slice A2_2 l2_2.length c2_2] 25 (0, 0)) (by (with_reducible repeat (first | refine blk_drewN ?_ _ | refine blk_drew ?_ | refine blk_alloc ?_ _)); exact BK579.out) hb); have n11_ := Aside0.mk (below_step (by repeat (first | (with_reducible first | exact HB.out | apply below_alloc | apply pw_below_drewN | apply below_drew1 | refine below_set ?_ GE579.out) | exact HB.out)) hb); clear HO585; clear HO588; clear HO591; clear HO594; clear HO597; clear HO601; clear HO604; clear BK579; clear HB; have HO585 := n0_; have HO588 := n1_; have HO591 := n2_; have HO594 := n3_; have HO597 := n4_; have HO601 := n5_; have HO604 := n6_; have HO607 := n7_; have HO610 := n8_; have HO613 := n9_; have BK579 := n10_; have HB := n11_; clear n0_ n1_ n2_ n3_ n4_ n5_ n6_ n7_ n8_ n9_ n10_ n11_; (try clear hb); (try clear hb2); (try clear hk); (try clear hi); (try clear ho0); (try clear ho1); (try clear ho2)) | ((with_reducible refine gate_dst (N := 11) rfl ?_); refine box_event ?hg (N := 11) ?hd (cs := #[.slice none 0 0, .slice none 0 0, .slice none 0 0]) (t := 31) ?hr ?_; (case hd => rfl); (case hg => rfl); (case hr => first | (go_simp; done) | (go_simp; rfl)); intro gb614 hg w50 hbox hb; have n0_ := Aside0.mk (Kd.R_below (by (with_reducible repeat (first | apply Kd.R_alloc | apply Kd.R_drewN | apply Kd.R_drew)); exact HO585.out) hb); have n1_ := Aside0.mk (Kd.R_below (by (with_reducible repeat (first | apply Kd.R_alloc | apply Kd.R_drewN | apply Kd.R_drew)); exact HO588.out) hb); have n2_ := Aside0.mk (Kd.R_below (by (with_reducible repeat (first | apply Kd.R_alloc | apply Kd.R_drewN | apply Kd.R_drew)); exact HO591.out) hb); have n3_ := Aside0.mk (Kd.R_below (by (with_reducible repeat (first | apply Kd.R_alloc | apply Kd.R_drewN | apply Kd.R_drew)); exact HO594.out) hb); have n4_ := Aside0.mk (Kd.R_below (by (with_reducible repeat (first | apply Kd.R_alloc | apply Kd.R_drewN | apply Kd.R_drew)); exact HO597.out) hb); have n5_ := Aside0.mk (Kd.R_below (by (with_reducible repeat (first | apply Kd.R_alloc | apply Kd.R_drewN | apply Kd.R_drew)); exact HO601.out) hb); have n6_ := Aside0.mk (Kd.R_below (by (with_reducible repeat (first | apply Kd.R_alloc | apply Kd.R_drewN | apply Kd.R_drew)); exact HO604.out) hb); have n7_ := Aside0.mk (Kd.R_below (by (with_reducible repeat (first | apply Kd.R_alloc | apply Kd.R_drewN | apply Kd.R_drew)); exact HO607.out) hb); have n8_ := Aside0.mk (Kd.R_below (by (with_reducible repeat (first | apply Kd.R_alloc | apply Kd.R_drewN | apply Kd.R_drew)); exact HO610.out) hb); have n9_ := Aside0.mk (Kd.R_below (by (with_reducible repeat (first | apply Kd.R_alloc | apply Kd.R_drewN | apply Kd.R_drew)); exact HO613.out) hb); have n10_ := Aside0.mk (blk_below (g := gb579) (o := .cells #[.slice A2_0 l2_0.length c2_0, .slice A2_1 l2_1.length c2_1, .slice A2_2 l2_2.length c2_2] 25 (0, 0)) (by (with_reducible repeat (first | refine blk_drewN ?_ _ | refine blk_drew ?_ | refine blk_alloc ?_ _)); exact BK579.out) hb); have n11_ := Aside0.mk (below_step (by repeat (first | (with_reducible first | exact HB.out | apply below_alloc | apply pw_below_drewN | apply below_drew1 | refine below_set ?_ GE579.out) | exact HB.out)) hb); have n12_ := Aside0.mk (hbox); have n13_ := Aside0.mk ((by rw [hg]; exact (below_size (by repeat (first | (with_reducible first | exact HB.out | apply below_alloc | apply pw_below_drewN | apply below_drew1 | refine below_set ?_ GE579.out) | exact HB.out))) : w.heap.size ≤ gb614)); have n14_ := Aside0.mk ((by rw [hg]; exact (below_size (by repeat (first | (with_reducible first | exact HB.out | apply below_alloc | apply pw_below_drewN | apply below_drew1 | refine below_set ?_ GE579.out) | exact HB.out))) : w.heap.size ≤ gb614)); have n15_ := Aside0.mk ((by rw [hg]; exact Nat.ne_of_lt (blk_lt (g := gb579) (o := .cells #[.slice A2_0 l2_0.length c2_0, .slice A2_1 l2_1.length c2_1, .slice A2_2 l2_2.length c2_2] 25 (0, 0)) (by (with_reducible repeat (first | refine blk_drewN ?_ _ | refine blk_drew ?_ | refine blk_alloc ?_ _)); exact BK579.out)) : gb579 ≠ gb614)); have n16_ := Aside0.mk ((by rw [hg]; exact Nat.ne_of_gt (blk_lt (g := gb579) (o := .cells #[.slice A2_0 l2_0.length c2_0, .slice A2_1 l2_1.length c2_1, .slice A2_2 l2_2.length c2_2] 25 (0, 0)) (by (with_reducible repeat (first | refine blk_drewN ?_ _ | refine blk_drew ?_ | refine blk_alloc ?_ _)); exact BK579.out)) : gb614 ≠ gb579)); clear HO585; clear HO588; clear HO591; clear HO594; clear HO597; clear HO601; clear HO604; clear HO607; clear HO610; clear HO613; clear BK579; clear HB; have HO585 := n0_; have HO588 := n1_; have HO591 := n2_; have HO594 := n3_; have HO597 := n4_; have HO601 := n5_; have HO604 := n6_; have HO607 := n7_; have HO610 := n8_; have HO613 := n9_; have BK579 := n10_; have HB := n11_; have BK614 := n12_; have GW614 := n13_; have GE614 := n14_; have NB579_614 := n15_; have NB614_579 := n16_; clear n0_ n1_ n2_ n3_ n4_ n5_ n6_ n7_ n8_ n9_ n10_ n11_ n12_ n13_ n14_ n15_ n16_; clear hb hbox hg; obtain ⟨Ao51, co51, eo51⟩ := Kd.R_slice HO607.out; subst eo51; have hnb52 := NB614_579.out; have hnc52 := NB579_614.out; have hcz53_0 : w50.cell? ⟨gb614, 0, none⟩ = some (.slice none 0 0) := (blk_cell BK614.out 0).trans rfl; have hcz53_1 : w50.cell? ⟨gb614, 1, none⟩ = some (.slice none 0 0) := (blk_cell BK614.out 1).trans rfl; have hcz53_2 : w50.cell? ⟨gb614, 2, none⟩ = some (.slice none 0 0) := (blk_cell BK614.out 2).trans rfl; have hfz53_0 := blk_frozen BK614.out 0; have hfz53_1 := blk_frozen BK614.out 1; have hfz53_2 := blk_frozen BK614.out 2; obtain ⟨Ao54, co54, eo54⟩ := Kd.R_slice HO610.out; subst eo54; obtain ⟨Ao55, co55, eo55⟩ := Kd.R_slice HO613.out; subst eo55; obtain ⟨Ao56, co56, eo56⟩ := Kd.R_slice HO601.out; subst eo56; obtain ⟨Ao57, co57, eo57⟩ := Kd.R_slice HO604.out; subst eo57) | ((with_reducible refine gate_callee (f := 23) rfl ?_); refine goesL_ (some 44) rfl rfl Try.func23 (by kernel_rfl) rfl #[.slice Ao56 t599.length co56, .slice Ao57 t602.length co57, .agg #[.slice Ao51 t605.length co51, .slice Ao54 t608.length co54, .slice Ao55 t611.length co55]] rfl (by (try simp only [List.map_toArray, List.map_cons, List.map_nil]); first | done | rfl | (simp only [List.length_drop, List.length_take]; rfl)) ?_; (with_reducible refine (impl_RootDist.calls k _ _ t599 _ _ t602 _ _ t605 _ _ t608 _ _ t611 t615 _ ?side1 ?side2 ?side3 ?side4 ?side5 ?side6 ?side7 ?side8 ?side9 ?side10 A22.out).mono ?_); (case side1 => refine (Kd.R_reads' (e := 53) (base := w.heap.size) (ok := fun k_ => (((True ∧ some k_ ≠ (.slice Ao40 t583.length co40 : Value).ownBlock) ∧ some k_ ≠ (.slice Ao41 t586.length co41 : Value).ownBlock) ∧ some k_ ≠ (.slice Ao57 t602.length co57 : Value).ownBlock)) (n := t599.length) (c := co56) ?_).2.2; exact (by (with_reducible repeat (first | apply Kd.R_alloc | apply Kd.R_drewN | apply Kd.R_drew)); exact (Kd.R_mono (Kd.R_far (p := ⟨gb614, 2, none⟩) (Kd.R_far (p := ⟨gb614, 1, none⟩) (Kd.R_far (p := ⟨gb614, 0, none⟩) (Kd.R_types HO601.out BK614.out (by decide)) (fun _ hk => hk.2) (.slice Ao51 t605.length co51)) (fun _ hk => hk.2) (.slice Ao54 t608.length co54)) (fun _ hk => hk.2) (.slice Ao55 t611.length co55)) (fun _ h_ => h_.1)))); (case side2 => exact (Kd.R_reads' HO601.out).2.1); (case side3 => refine (Kd.R_reads' (e := 53) (base := w.heap.size) (ok := fun k_ => (((True ∧ some k_ ≠ (.slice Ao40 t583.length co40 : Value).ownBlock) ∧ some k_ ≠ (.slice Ao41 t586.length co41 : Value).ownBlock) ∧ some k_ ≠ (.slice Ao56 t599.length co56 : Value).ownBlock)) (n := t602.length) (c := co57) ?_).2.2; exact (by (with_reducible repeat (first | apply Kd.R_alloc | apply Kd.R_drewN | apply Kd.R_drew)); exact (Kd.R_mono (Kd.R_far (p := ⟨gb614, 2, none⟩) (Kd.R_far (p := ⟨gb614, 1, none⟩) (Kd.R_far (p := ⟨gb614, 0, none⟩) (Kd.R_types HO604.out BK614.out (by decide)) (fun _ hk => hk.2) (.slice Ao51 t605.length co51)) (fun _ hk => hk.2) (.slice Ao54 t608.length co54)) (fun _ hk => hk.2) (.slice Ao55 t611.length co55)) (fun _ h_ => h_.1)))); (case side4 => exact (Kd.R_reads' HO604.out).2.1); (case side5 => refine (Kd.R_reads' (e := 3) (base := w.heap.size) (ok := fun k_ => ((((some k_ ≠ (.slice Ao54 t608.length co54 : Value).ownBlock ∧ some k_ ≠ (.slice Ao55 t611.length co55 : Value).ownBlock) ∧ some k_ ≠ (.slice Ao42 t589.length co42 : Value).ownBlock) ∧ some k_ ≠ (.slice Ao43 t592.length co43 : Value).ownBlock) ∧ some k_ ≠ (.slice Ao44 t595.length co44 : Value).ownBlock)) (n := t605.length) (c := co51) ?_).2.2; exact (by (with_reducible repeat (first | apply Kd.R_alloc | apply Kd.R_drewN | apply Kd.R_drew)); exact (Kd.R_mono (Kd.R_far (p := ⟨gb614, 2, none⟩) (Kd.R_far (p := ⟨gb614, 1, none⟩) (Kd.R_far (p := ⟨gb614, 0, none⟩) (Kd.R_types HO607.out BK614.out (by decide)) (fun _ hk => hk.2) (.slice Ao51 t605.length co51)) (fun _ hk => hk.2) (.slice Ao54 t608.length co54)) (fun _ hk => hk.2) (.slice Ao55 t611.length co55)) (fun _ h_ => h_.1)))); (case side6 => exact (Kd.R_reads' HO607.out).2.1); (case side7 => refine (Kd.R_reads' (e := 3) (base := w.heap.size) (ok := fun k_ => ((((some k_ ≠ (.slice Ao51 t605.length co51 : Value).ownBlock ∧ some k_ ≠ (.slice Ao55 t611.length co55 : Value).ownBlock) ∧ some k_ ≠ (.slice Ao42 t589.length co42 : Value).ownBlock) ∧ some k_ ≠ (.slice Ao43 t592.length co43 : Value).ownBlock) ∧ some k_ ≠ (.slice Ao44 t595.length co44 : Value).ownBlock)) (n := t608.length) (c := co54) ?_).2.2; exact (by (with_reducible repeat (first | apply Kd.R_alloc | apply Kd.R_drewN | apply Kd.R_drew)); exact (Kd.R_mono (Kd.R_far (p := ⟨gb614, 2, none⟩) (Kd.R_far (p := ⟨gb614, 1, none⟩) (Kd.R_far (p := ⟨gb614, 0, none⟩) (Kd.R_types HO610.out BK614.out (by decide)) (fun _ hk => hk.2) (.slice Ao51 t605.length co51)) (fun _ hk => hk.2) (.slice Ao54 t608.length co54)) (fun _ hk => hk.2) (.slice Ao55 t611.length co55)) (fun _ h_ => h_.1)))); (case side8 => exact (Kd.R_reads' HO610.out).2.1); (case side9 => refine (Kd.R_reads' (e := 3) (base := w.heap.size) (ok := fun k_ => ((((some k_ ≠ (.slice Ao51 t605.length co51 : Value).ownBlock ∧ some k_ ≠ (.slice Ao54 t608.length co54 : Value).ownBlock) ∧ some k_ ≠ (.slice Ao42 t589.length co42 : Value).ownBlock) ∧ some k_ ≠ (.slice Ao43 t592.length co43 : Value).ownBlock) ∧ some k_ ≠ (.slice Ao44 t595.length co44 : Value).ownBlock)) (n := t611.length) (c := co55) ?_).2.2; exact (by (with_reducible repeat (first | apply Kd.R_alloc | apply Kd.R_drewN | apply Kd.R_drew)); exact (Kd.R_mono (Kd.R_far (p := ⟨gb614, 2, none⟩) (Kd.R_far (p := ⟨gb614, 1, none⟩) (Kd.R_far (p := ⟨gb614, 0, none⟩) (Kd.R_types HO613.out BK614.out (by decide)) (fun _ hk => hk.2) (.slice Ao51 t605.length co51)) (fun _ hk => hk.2) (.slice Ao54 t608.length co54)) (fun _ hk => hk.2) (.slice Ao55 t611.length co55)) (fun _ h_ => h_.1)))); (case side10 => exact (Kd.R_reads' HO613.out).2.1); rintro e w58 ⟨rfl, hb⟩; refine ⟨_, rfl, ?_⟩; have n0_ := Aside0.mk (Kd.R_below (by (with_reducible repeat (first | apply Kd.R_alloc | apply Kd.R_drewN | apply Kd.R_drew)); exact (Kd.R_mono (Kd.R_far (p := ⟨gb614, 2, none⟩) (Kd.R_far (p := ⟨gb614, 1, none⟩) (Kd.R_far (p := ⟨gb614, 0, none⟩) (Kd.R_types HO585.out BK614.out (by decide)) (fun _ hk => hk.2) (.slice Ao51 t605.length co51)) (fun _ hk => hk.2) (.slice Ao54 t608.length co54)) (fun _ hk => hk.2) (.slice Ao55 t611.length co55)) (fun _ h_ => h_.1))) hb); have n1_ := Aside0.mk (Kd.R_below (by (with_reducible repeat (first | apply Kd.R_alloc | apply Kd.R_drewN | apply Kd.R_drew)); exact (Kd.R_mono (Kd.R_far (p := ⟨gb614, 2, none⟩) (Kd.R_far (p := ⟨gb614, 1, none⟩) (Kd.R_far (p := ⟨gb614, 0, none⟩) (Kd.R_types HO588.out BK614.out (by decide)) (fun _ hk => hk.2) (.slice Ao51 t605.length co51)) (fun _ hk => hk.2) (.slice Ao54 t608.length co54)) (fun _ hk => hk.2) (.slice Ao55 t611.length co55)) (fun _ h_ => h_.1))) hb); have n2_ := Aside0.mk (Kd.R_below (by (with_reducible repeat (first | apply Kd.R_alloc | apply Kd.R_drewN | apply Kd.R_drew)); exact (Kd.R_mono (Kd.R_far (p := ⟨gb614, 2, none⟩) (Kd.R_far (p := ⟨gb614, 1, none⟩) (Kd.R_far (p := ⟨gb614, 0, none⟩) (Kd.R_types HO591.out BK614.out (by decide)) (fun _ hk => hk.2) (.slice Ao51 t605.length co51)) (fun _ hk => hk.2) (.slice Ao54 t608.length co54)) (fun _ hk => hk.2) (.slice Ao55 t611.length co55)) (fun _ h_ => h_.1))) hb); have n3_ := Aside0.mk (Kd.R_below (by (with_reducible repeat (first | apply Kd.R_alloc | apply Kd.R_drewN | apply Kd.R_drew)); exact (Kd.R_mono (Kd.R_far (p := ⟨gb614, 2, none⟩) (Kd.R_far (p := ⟨gb614, 1, none⟩) (Kd.R_far (p := ⟨gb614, 0, none⟩) (Kd.R_types HO594.out BK614.out (by decide)) (fun _ hk => hk.2) (.slice Ao51 t605.length co51)) (fun _ hk => hk.2) (.slice Ao54 t608.length co54)) (fun _ hk => hk.2) (.slice Ao55 t611.length co55)) (fun _ h_ => h_.1))) hb); have n4_ := Aside0.mk (Kd.R_below (by (with_reducible repeat (first | apply Kd.R_alloc | apply Kd.R_drewN | apply Kd.R_drew)); exact (Kd.R_mono (Kd.R_far (p := ⟨gb614, 2, none⟩) (Kd.R_far (p := ⟨gb614, 1, none⟩) (Kd.R_far (p := ⟨gb614, 0, none⟩) (Kd.R_types HO597.out BK614.out (by decide)) (fun _ hk => hk.2) (.slice Ao51 t605.length co51)) (fun _ hk => hk.2) (.slice Ao54 t608.length co54)) (fun _ hk => hk.2) (.slice Ao55 t611.length co55)) (fun _ h_ => h_.1))) hb); have n5_ := Aside0.mk (Kd.R_below (by (with_reducible repeat (first | apply Kd.R_alloc | apply Kd.R_drewN | apply Kd.R_drew)); exact (Kd.R_mono (Kd.R_far (p := ⟨gb614, 2, none⟩) (Kd.R_far (p := ⟨gb614, 1, none⟩) (Kd.R_far (p := ⟨gb614, 0, none⟩) (Kd.R_types HO601.out BK614.out (by decide)) (fun _ hk => hk.2) (.slice Ao51 t605.length co51)) (fun _ hk => hk.2) (.slice Ao54 t608.length co54)) (fun _ hk => hk.2) (.slice Ao55 t611.length co55)) (fun _ h_ => h_.1))) hb); have n6_ := Aside0.mk (Kd.R_below (by (with_reducible repeat (first | apply Kd.R_alloc | apply Kd.R_drewN | apply Kd.R_drew)); exact (Kd.R_mono (Kd.R_far (p := ⟨gb614, 2, none⟩) (Kd.R_far (p := ⟨gb614, 1, none⟩) (Kd.R_far (p := ⟨gb614, 0, none⟩) (Kd.R_types HO604.out BK614.out (by decide)) (fun _ hk => hk.2) (.slice Ao51 t605.length co51)) (fun _ hk => hk.2) (.slice Ao54 t608.length co54)) (fun _ hk => hk.2) (.slice Ao55 t611.length co55)) (fun _ h_ => h_.1))) hb); have n7_ := Aside0.mk (Kd.R_below (by (with_reducible repeat (first | apply Kd.R_alloc | apply Kd.R_drewN | apply Kd.R_drew)); exact (Kd.R_mono (Kd.R_far (p := ⟨gb614, 2, none⟩) (Kd.R_far (p := ⟨gb614, 1, none⟩) (Kd.R_far (p := ⟨gb614, 0, none⟩) (Kd.R_types HO607.out BK614.out (by decide)) (fun _ hk => hk.2) (.slice Ao51 t605.length co51)) (fun _ hk => hk.2) (.slice Ao54 t608.length co54)) (fun _ hk => hk.2) (.slice Ao55 t611.length co55)) (fun _ h_ => h_.1))) hb); have n8_ := Aside0.mk (Kd.R_below (by (with_reducible repeat (first | apply Kd.R_alloc | apply Kd.R_drewN | apply Kd.R_drew)); exact (Kd.R_mono (Kd.R_far (p := ⟨gb614, 2, none⟩) (Kd.R_far (p := ⟨gb614, 1, none⟩) (Kd.R_far (p := ⟨gb614, 0, none⟩) (Kd.R_types HO610.out BK614.out (by decide)) (fun _ hk => hk.2) (.slice Ao51 t605.length co51)) (fun _ hk => hk.2) (.slice Ao54 t608.length co54)) (fun _ hk => hk.2) (.slice Ao55 t611.length co55)) (fun _ h_ => h_.1))) hb); have n9_ := Aside0.mk (Kd.R_below (by (with_reducible repeat (first | apply Kd.R_alloc | apply Kd.R_drewN | apply Kd.R_drew)); exact (Kd.R_mono (Kd.R_far (p := ⟨gb614, 2, none⟩) (Kd.R_far (p := ⟨gb614, 1, none⟩) (Kd.R_far (p := ⟨gb614, 0, none⟩) (Kd.R_types HO613.out BK614.out (by decide)) (fun _ hk => hk.2) (.slice Ao51 t605.length co51)) (fun _ hk => hk.2) (.slice Ao54 t608.length co54)) (fun _ hk => hk.2) (.slice Ao55 t611.length co55)) (fun _ h_ => h_.1))) hb); have n10_ := Aside0.mk (blk_below (g := gb579) (o := .cells #[.slice A2_0 l2_0.length c2_0, .slice A2_1 l2_1.length c2_1, .slice A2_2 l2_2.length c2_2] 25 (0, 0)) (by (with_reducible repeat (first | refine blk_drewN ?_ _ | refine blk_drew ?_ | refine blk_alloc ?_ _)); refine blk_far ?_ NB579_614.out _; (with_reducible repeat (first | refine blk_drewN ?_ _ | refine blk_drew ?_ | refine blk_alloc ?_ _)); refine blk_far ?_ NB579_614.out _; (with_reducible repeat (first | refine blk_drewN ?_ _ | refine blk_drew ?_ | refine blk_alloc ?_ _)); refine blk_far ?_ NB579_614.out _; (with_reducible repeat (first | refine blk_drewN ?_ _ | refine blk_drew ?_ | refine blk_alloc ?_ _)); exact BK579.out) hb); have n11_ := Aside0.mk (blk_below (g := gb614) (o := .cells #[.slice Ao51 t605.length co51, .slice Ao54 t608.length co54, .slice Ao55 t611.length co55] 31 (0, 0)) (by (with_reducible repeat (first | refine blk_drewN ?_ _ | refine blk_drew ?_ | refine blk_alloc ?_ _)); refine blk_put (cs := #[.slice Ao51 t605.length co51, .slice Ao54 t608.length co54, .slice none 0 0]) ?_ 2 _ rfl; (with_reducible repeat (first | refine blk_drewN ?_ _ | refine blk_drew ?_ | refine blk_alloc ?_ _)); refine blk_put (cs := #[.slice Ao51 t605.length co51, .slice none 0 0, .slice none 0 0]) ?_ 1 _ rfl; (with_reducible repeat (first | refine blk_drewN ?_ _ | refine blk_drew ?_ | refine blk_alloc ?_ _)); refine blk_put (cs := #[.slice none 0 0, .slice none 0 0, .slice none 0 0]) ?_ 0 _ rfl; (with_reducible repeat (first | refine blk_drewN ?_ _ | refine blk_drew ?_ | refine blk_alloc ?_ _)); exact BK614.out) hb); have n12_ := Aside0.mk (below_step (by repeat (first | (with_reducible first | exact HB.out | apply below_alloc | apply pw_below_drewN | apply below_drew1 | refine below_set ?_ GE579.out | refine below_set ?_ GE614.out) | exact HB.out)) hb); clear HO585; clear HO588; clear HO591; clear HO594; clear HO597; clear HO601; clear HO604; clear HO607; clear HO610; clear HO613; clear BK579; clear BK614; clear HB; have HO585 := n0_; have HO588 := n1_; have HO591 := n2_; have HO594 := n3_; have HO597 := n4_; have HO601 := n5_; have HO604 := n6_; have HO607 := n7_; have HO610 := n8_; have HO613 := n9_; have BK579 := n10_; have BK614 := n11_; have HB := n12_; clear n0_ n1_ n2_ n3_ n4_ n5_ n6_ n7_ n8_ n9_ n10_ n11_ n12_; (try clear hb); (try clear hb2); (try clear hk); (try clear hi)) | ((with_reducible refine gate_callee (f := 15) rfl ?_); refine goesL_ (some 50) rfl rfl Try.func15 (by kernel_rfl) rfl #[.slice A0 l0.length c0] rfl (by (try simp only [List.map_toArray, List.map_cons, List.map_nil]); first | done | rfl | (simp only [List.length_drop, List.length_take]; rfl)) ?_; (with_reducible refine (laws_toNodeS.calls k _ _ l0 t616 _ ?side1 ?side2 A24.out).mono ?_); (case side1 => repeat (first | exact (Kd.C_below HR0.out HB.out) | (with_reducible refine Kd.C_alloc ?_ _) | (with_reducible refine Kd.C_drewN ?_ _) | (with_reducible refine Kd.C_drew ?_))); (case side2 => exact HC0.out); rintro e w59 ⟨v617, rfl, ho0, hb⟩; refine ⟨_, rfl, ?_⟩; have n0_ := Aside0.mk (Kd.R_elder' (by (with_reducible repeat (first | apply Kd.R_alloc | apply Kd.R_drewN | apply Kd.R_drew)); exact HO585.out) (Kd.R_base ho0) hb); have n1_ := Aside0.mk (Kd.R_elder' (by (with_reducible repeat (first | apply Kd.R_alloc | apply Kd.R_drewN | apply Kd.R_drew)); exact HO588.out) (Kd.R_base ho0) hb); have n2_ := Aside0.mk (Kd.R_below (by (with_reducible repeat (first | apply Kd.R_alloc | apply Kd.R_drewN | apply Kd.R_drew)); exact HO591.out) hb); have n3_ := Aside0.mk (Kd.R_below (by (with_reducible repeat (first | apply Kd.R_alloc | apply Kd.R_drewN | apply Kd.R_drew)); exact HO594.out) hb); have n4_ := Aside0.mk (Kd.R_below (by (with_reducible repeat (first | apply Kd.R_alloc | apply Kd.R_drewN | apply Kd.R_drew)); exact HO597.out) hb); have n5_ := Aside0.mk (Kd.R_elder' (by (with_reducible repeat (first | apply Kd.R_alloc | apply Kd.R_drewN | apply Kd.R_drew)); exact HO601.out) (Kd.R_base ho0) hb); have n6_ := Aside0.mk (Kd.R_elder' (by (with_reducible repeat (first | apply Kd.R_alloc | apply Kd.R_drewN | apply Kd.R_drew)); exact HO604.out) (Kd.R_base ho0) hb); have n7_ := Aside0.mk (Kd.R_below (by (with_reducible repeat (first | apply Kd.R_alloc | apply Kd.R_drewN | apply Kd.R_drew)); exact HO607.out) hb); have n8_ := Aside0.mk (Kd.R_below (by (with_reducible repeat (first | apply Kd.R_alloc | apply Kd.R_drewN | apply Kd.R_drew)); exact HO610.out) hb); have n9_ := Aside0.mk (Kd.R_below (by (with_reducible repeat (first | apply Kd.R_alloc | apply Kd.R_drewN | apply Kd.R_drew)); exact HO613.out) hb); have n10_ := Aside0.mk (Kd.R_lower (Kd.R_new' (Kd.R_new' (Kd.R_new' (Kd.R_new' ho0 (Kd.R_lt (by (with_reducible repeat (first | apply Kd.R_alloc | apply Kd.R_drewN | apply Kd.R_drew)); exact HO585.out))) (Kd.R_lt (by (with_reducible repeat (first | apply Kd.R_alloc | apply Kd.R_drewN | apply Kd.R_drew)); exact HO588.out))) (Kd.R_lt (by (with_reducible repeat (first | apply Kd.R_alloc | apply Kd.R_drewN | apply Kd.R_drew)); exact HO601.out))) (Kd.R_lt (by (with_reducible repeat (first | apply Kd.R_alloc | apply Kd.R_drewN | apply Kd.R_drew)); exact HO604.out))) (below_size (by repeat (first | (with_reducible first | exact HB.out | apply below_alloc | apply pw_below_drewN | apply below_drew1 | refine below_set ?_ GE579.out | refine below_set ?_ GE614.out) | exact HB.out)))); have n11_ := Aside0.mk (blk_below (g := gb579) (o := .cells #[.slice A2_0 l2_0.length c2_0, .slice A2_1 l2_1.length c2_1, .slice A2_2 l2_2.length c2_2] 25 (0, 0)) (by (with_reducible repeat (first | refine blk_drewN ?_ _ | refine blk_drew ?_ | refine blk_alloc ?_ _)); exact BK579.out) hb); have n12_ := Aside0.mk (blk_below (g := gb614) (o := .cells #[.slice Ao51 t605.length co51, .slice Ao54 t608.length co54, .slice Ao55 t611.length co55] 31 (0, 0)) (by (with_reducible repeat (first | refine blk_drewN ?_ _ | refine blk_drew ?_ | refine blk_alloc ?_ _)); exact BK614.out) hb); have n13_ := Aside0.mk (below_step (by repeat (first | (with_reducible first | exact HB.out | apply below_alloc | apply pw_below_drewN | apply below_drew1 | refine below_set ?_ GE579.out | refine below_set ?_ GE614.out) | exact HB.out)) hb); clear HO585; clear HO588; clear HO591; clear HO594; clear HO597; clear HO601; clear HO604; clear HO607; clear HO610; clear HO613; clear BK579; clear BK614; clear HB; have HO585 := n0_; have HO588 := n1_; have HO591 := n2_; have HO594 := n3_; have HO597 := n4_; have HO601 := n5_; have HO604 := n6_; have HO607 := n7_; have HO610 := n8_; have HO613 := n9_; have HO618 := n10_; have BK579 := n11_; have BK614 := n12_; have HB := n13_; clear n0_ n1_ n2_ n3_ n4_ n5_ n6_ n7_ n8_ n9_ n10_ n11_ n12_ n13_; (try clear hb); (try clear hb2); (try clear hk); (try clear hi); (try clear ho0); obtain ⟨Ao60, co60, eo60⟩ := Kd.R_slice HO618.out; subst eo60) | ((with_reducible refine gate_callee (f := 18) rfl ?_); refine goesL_ (some 51) rfl rfl Try.func18 (by kernel_rfl) rfl #[.slice Ao56 t599.length co56, .slice Ao60 t616.length co60] rfl (by (try simp only [List.map_toArray, List.map_cons, List.map_nil]); first | done | rfl | (simp only [List.length_drop, List.length_take]; rfl)) ?_; (with_reducible refine (laws_eqNodeS.calls k _ _ t599 _ _ t616 true _ ?side1 ?side2 ?side3 ?side4 A25.out).mono ?_); (case side1 => repeat (first | exact (Kd.R_reads' HO601.out).2.2 | (with_reducible refine Kd.C_alloc ?_ _) | (with_reducible refine Kd.C_drewN ?_ _) | (with_reducible refine Kd.C_drew ?_))); (case side2 => exact (Kd.R_reads' HO601.out).2.1); (case side3 => repeat (first | exact (Kd.R_reads' HO618.out).2.2 | (with_reducible refine Kd.C_alloc ?_ _) | (with_reducible refine Kd.C_drewN ?_ _) | (with_reducible refine Kd.C_drew ?_))); (case side4 => exact (Kd.R_reads' HO618.out).2.1); rintro e w61 ⟨rfl, hb⟩; refine ⟨_, rfl, ?_⟩; have n0_ := Aside0.mk (Kd.R_below (by (with_reducible repeat (first | apply Kd.R_alloc | apply Kd.R_drewN | apply Kd.R_drew)); exact HO585.out) hb); have n1_ := Aside0.mk (Kd.R_below (by (with_reducible repeat (first | apply Kd.R_alloc | apply Kd.R_drewN | apply Kd.R_drew)); exact HO588.out) hb); have n2_ := Aside0.mk (Kd.R_below (by (with_reducible repeat (first | apply Kd.R_alloc | apply Kd.R_drewN | apply Kd.R_drew)); exact HO591.out) hb); have n3_ := Aside0.mk (Kd.R_below (by (with_reducible repeat (first | apply Kd.R_alloc | apply Kd.R_drewN | apply Kd.R_drew)); exact HO594.out) hb); have n4_ := Aside0.mk (Kd.R_below (by (with_reducible repeat (first | apply Kd.R_alloc | apply Kd.R_drewN | apply Kd.R_drew)); exact HO597.out) hb); have n5_ := Aside0.mk (Kd.R_below (by (with_reducible repeat (first | apply Kd.R_alloc | apply Kd.R_drewN | apply Kd.R_drew)); exact HO601.out) hb); have n6_ := Aside0.mk (Kd.R_below (by (with_reducible repeat (first | apply Kd.R_alloc | apply Kd.R_drewN | apply Kd.R_drew)); exact HO604.out) hb); have n7_ := Aside0.mk (Kd.R_below (by (with_reducible repeat (first | apply Kd.R_alloc | apply Kd.R_drewN | apply Kd.R_drew)); exact HO607.out) hb); have n8_ := Aside0.mk (Kd.R_below (by (with_reducible repeat (first | apply Kd.R_alloc | apply Kd.R_drewN | apply Kd.R_drew)); exact HO610.out) hb); have n9_ := Aside0.mk (Kd.R_below (by (with_reducible repeat (first | apply Kd.R_alloc | apply Kd.R_drewN | apply Kd.R_drew)); exact HO613.out) hb); have n10_ := Aside0.mk (Kd.R_below (by (with_reducible repeat (first | apply Kd.R_alloc | apply Kd.R_drewN | apply Kd.R_drew)); exact HO618.out) hb); have n11_ := Aside0.mk (blk_below (g := gb579) (o := .cells #[.slice A2_0 l2_0.length c2_0, .slice A2_1 l2_1.length c2_1, .slice A2_2 l2_2.length c2_2] 25 (0, 0)) (by (with_reducible repeat (first | refine blk_drewN ?_ _ | refine blk_drew ?_ | refine blk_alloc ?_ _)); exact BK579.out) hb); have n12_ := Aside0.mk (blk_below (g := gb614) (o := .cells #[.slice Ao51 t605.length co51, .slice Ao54 t608.length co54, .slice Ao55 t611.length co55] 31 (0, 0)) (by (with_reducible repeat (first | refine blk_drewN ?_ _ | refine blk_drew ?_ | refine blk_alloc ?_ _)); exact BK614.out) hb); have n13_ := Aside0.mk (below_step (by repeat (first | (with_reducible first | exact HB.out | apply below_alloc | apply pw_below_drewN | apply below_drew1 | refine below_set ?_ GE579.out | refine below_set ?_ GE614.out) | exact HB.out)) hb); clear HO585; clear HO588; clear HO591; clear HO594; clear HO597; clear HO601; clear HO604; clear HO607; clear HO610; clear HO613; clear HO618; clear BK579; clear BK614; clear HB; have HO585 := n0_; have HO588 := n1_; have HO591 := n2_; have HO594 := n3_; have HO597 := n4_; have HO601 := n5_; have HO604 := n6_; have HO607 := n7_; have HO610 := n8_; have HO613 := n9_; have HO618 := n10_; have BK579 := n11_; have BK614 := n12_; have HB := n13_; clear n0_ n1_ n2_ n3_ n4_ n5_ n6_ n7_ n8_ n9_ n10_ n11_ n12_ n13_; (try clear hb); (try clear hb2); (try clear hk); (try clear hi)) | ((with_reducible refine gate_callee (f := 15) rfl ?_); refine goesL_ (some 55) rfl rfl Try.func15 (by kernel_rfl) rfl #[.slice A1 l1.length c1] rfl (by (try simp only [List.map_toArray, List.map_cons, List.map_nil]); first | done | rfl | (simp only [List.length_drop, List.length_take]; rfl)) ?_; (with_reducible refine (laws_toNodeS.calls k _ _ l1 t620 _ ?side1 ?side2 A27.out).mono ?_); (case side1 => repeat (first | exact (Kd.C_below HR1.out HB.out) | (with_reducible refine Kd.C_alloc ?_ _) | (with_reducible refine Kd.C_drewN ?_ _) | (with_reducible refine Kd.C_drew ?_))); (case side2 => exact HC1.out); rintro e w62 ⟨v621, rfl, ho0, hb⟩; refine ⟨_, rfl, ?_⟩; have n0_ := Aside0.mk (Kd.R_elder' (by (with_reducible repeat (first | apply Kd.R_alloc | apply Kd.R_drewN | apply Kd.R_drew)); exact HO585.out) (Kd.R_base ho0) hb); have n1_ := Aside0.mk (Kd.R_elder' (by (with_reducible repeat (first | apply Kd.R_alloc | apply Kd.R_drewN | apply Kd.R_drew)); exact HO588.out) (Kd.R_base ho0) hb); have n2_ := Aside0.mk (Kd.R_below (by (with_reducible repeat (first | apply Kd.R_alloc | apply Kd.R_drewN | apply Kd.R_drew)); exact HO591.out) hb); have n3_ := Aside0.mk (Kd.R_below (by (with_reducible repeat (first | apply Kd.R_alloc | apply Kd.R_drewN | apply Kd.R_drew)); exact HO594.out) hb); have n4_ := Aside0.mk (Kd.R_below (by (with_reducible repeat (first | apply Kd.R_alloc | apply Kd.R_drewN | apply Kd.R_drew)); exact HO597.out) hb); have n5_ := Aside0.mk (Kd.R_elder' (by (with_reducible repeat (first | apply Kd.R_alloc | apply Kd.R_drewN | apply Kd.R_drew)); exact HO601.out) (Kd.R_base ho0) hb); have n6_ := Aside0.mk (Kd.R_elder' (by (with_reducible repeat (first | apply Kd.R_alloc | apply Kd.R_drewN | apply Kd.R_drew)); exact HO604.out) (Kd.R_base ho0) hb); have n7_ := Aside0.mk (Kd.R_below (by (with_reducible repeat (first | apply Kd.R_alloc | apply Kd.R_drewN | apply Kd.R_drew)); exact HO607.out) hb); have n8_ := Aside0.mk (Kd.R_below (by (with_reducible repeat (first | apply Kd.R_alloc | apply Kd.R_drewN | apply Kd.R_drew)); exact HO610.out) hb); have n9_ := Aside0.mk (Kd.R_below (by (with_reducible repeat (first | apply Kd.R_alloc | apply Kd.R_drewN | apply Kd.R_drew)); exact HO613.out) hb); have n10_ := Aside0.mk (Kd.R_elder' (by (with_reducible repeat (first | apply Kd.R_alloc | apply Kd.R_drewN | apply Kd.R_drew)); exact HO618.out) (Kd.R_base ho0) hb); have n11_ := Aside0.mk (Kd.R_lower (Kd.R_new' (Kd.R_new' (Kd.R_new' (Kd.R_new' (Kd.R_new' ho0 (Kd.R_lt (by (with_reducible repeat (first | apply Kd.R_alloc | apply Kd.R_drewN | apply Kd.R_drew)); exact HO585.out))) (Kd.R_lt (by (with_reducible repeat (first | apply Kd.R_alloc | apply Kd.R_drewN | apply Kd.R_drew)); exact HO588.out))) (Kd.R_lt (by (with_reducible repeat (first | apply Kd.R_alloc | apply Kd.R_drewN | apply Kd.R_drew)); exact HO601.out))) (Kd.R_lt (by (with_reducible repeat (first | apply Kd.R_alloc | apply Kd.R_drewN | apply Kd.R_drew)); exact HO604.out))) (Kd.R_lt (by (with_reducible repeat (first | apply Kd.R_alloc | apply Kd.R_drewN | apply Kd.R_drew)); exact HO618.out))) (below_size (by repeat (first | (with_reducible first | exact HB.out | apply below_alloc | apply pw_below_drewN | apply below_drew1 | refine below_set ?_ GE579.out | refine below_set ?_ GE614.out) | exact HB.out)))); have n12_ := Aside0.mk (blk_below (g := gb579) (o := .cells #[.slice A2_0 l2_0.length c2_0, .slice A2_1 l2_1.length c2_1, .slice A2_2 l2_2.length c2_2] 25 (0, 0)) (by (with_reducible repeat (first | refine blk_drewN ?_ _ | refine blk_drew ?_ | refine blk_alloc ?_ _)); exact BK579.out) hb); have n13_ := Aside0.mk (blk_below (g := gb614) (o := .cells #[.slice Ao51 t605.length co51, .slice Ao54 t608.length co54, .slice Ao55 t611.length co55] 31 (0, 0)) (by (with_reducible repeat (first | refine blk_drewN ?_ _ | refine blk_drew ?_ | refine blk_alloc ?_ _)); exact BK614.out) hb); have n14_ := Aside0.mk (below_step (by repeat (first | (with_reducible first | exact HB.out | apply below_alloc | apply pw_below_drewN | apply below_drew1 | refine below_set ?_ GE579.out | refine below_set ?_ GE614.out) | exact HB.out)) hb); clear HO585; clear HO588; clear HO591; clear HO594; clear HO597; clear HO601; clear HO604; clear HO607; clear HO610; clear HO613; clear HO618; clear BK579; clear BK614; clear HB; have HO585 := n0_; have HO588 := n1_; have HO591 := n2_; have HO594 := n3_; have HO597 := n4_; have HO601 := n5_; have HO604 := n6_; have HO607 := n7_; have HO610 := n8_; have HO613 := n9_; have HO618 := n10_; have HO622 := n11_; have BK579 := n12_; have BK614 := n13_; have HB := n14_; clear n0_ n1_ n2_ n3_ n4_ n5_ n6_ n7_ n8_ n9_ n10_ n11_ n12_ n13_ n14_; (try clear hb); (try clear hb2); (try clear hk); (try clear hi); (try clear ho0); obtain ⟨Ao63, co63, eo63⟩ := Kd.R_slice HO622.out; subst eo63) | ((with_reducible refine gate_callee (f := 18) rfl ?_); refine goesL_ (some 56) rfl rfl Try.func18 (by kernel_rfl) rfl #[.slice Ao57 t602.length co57, .slice Ao63 t620.length co63] rfl (by (try simp only [List.map_toArray, List.map_cons, List.map_nil]); first | done | rfl | (simp only [List.length_drop, List.length_take]; rfl)) ?_; (with_reducible refine (laws_eqNodeS.calls k _ _ t602 _ _ t620 true _ ?side1 ?side2 ?side3 ?side4 A28.out).mono ?_); (case side1 => repeat (first | exact (Kd.R_reads' HO604.out).2.2 | (with_reducible refine Kd.C_alloc ?_ _) | (with_reducible refine Kd.C_drewN ?_ _) | (with_reducible refine Kd.C_drew ?_))); (case side2 => exact (Kd.R_reads' HO604.out).2.1); (case side3 => repeat (first | exact (Kd.R_reads' HO622.out).2.2 | (with_reducible refine Kd.C_alloc ?_ _) | (with_reducible refine Kd.C_drewN ?_ _) | (with_reducible refine Kd.C_drew ?_))); (case side4 => exact (Kd.R_reads' HO622.out).2.1); rintro e w64 ⟨rfl, hb⟩; refine ⟨_, rfl, ?_⟩; have n0_ := Aside0.mk (Kd.R_below (by (with_reducible repeat (first | apply Kd.R_alloc | apply Kd.R_drewN | apply Kd.R_drew)); exact HO585.out) hb); have n1_ := Aside0.mk (Kd.R_below (by (with_reducible repeat (first | apply Kd.R_alloc | apply Kd.R_drewN | apply Kd.R_drew)); exact HO588.out) hb); have n2_ := Aside0.mk (Kd.R_below (by (with_reducible repeat (first | apply Kd.R_alloc | apply Kd.R_drewN | apply Kd.R_drew)); exact HO591.out) hb); have n3_ := Aside0.mk (Kd.R_below (by (with_reducible repeat (first | apply Kd.R_alloc | apply Kd.R_drewN | apply Kd.R_drew)); exact HO594.out) hb); have n4_ := Aside0.mk (Kd.R_below (by (with_reducible repeat (first | apply Kd.R_alloc | apply Kd.R_drewN | apply Kd.R_drew)); exact HO597.out) hb); have n5_ := Aside0.mk (Kd.R_below (by (with_reducible repeat (first | apply Kd.R_alloc | apply Kd.R_drewN | apply Kd.R_drew)); exact HO601.out) hb); have n6_ := Aside0.mk (Kd.R_below (by (with_reducible repeat (first | apply Kd.R_alloc | apply Kd.R_drewN | apply Kd.R_drew)); exact HO604.out) hb); have n7_ := Aside0.mk (Kd.R_below (by (with_reducible repeat (first | apply Kd.R_alloc | apply Kd.R_drewN | apply Kd.R_drew)); exact HO607.out) hb); have n8_ := Aside0.mk (Kd.R_below (by (with_reducible repeat (first | apply Kd.R_alloc | apply Kd.R_drewN | apply Kd.R_drew)); exact HO610.out) hb); have n9_ := Aside0.mk (Kd.R_below (by (with_reducible repeat (first | apply Kd.R_alloc | apply Kd.R_drewN | apply Kd.R_drew)); exact HO613.out) hb); have n10_ := Aside0.mk (Kd.R_below (by (with_reducible repeat (first | apply Kd.R_alloc | apply Kd.R_drewN | apply Kd.R_drew)); exact HO618.out) hb); have n11_ := Aside0.mk (Kd.R_below (by (with_reducible repeat (first | apply Kd.R_alloc | apply Kd.R_drewN | apply Kd.R_drew)); exact HO622.out) hb); have n12_ := Aside0.mk (blk_below (g := gb579) (o := .cells #[.slice A2_0 l2_0.length c2_0, .slice A2_1 l2_1.length c2_1, .slice A2_2 l2_2.length c2_2] 25 (0, 0)) (by (with_reducible repeat (first | refine blk_drewN ?_ _ | refine blk_drew ?_ | refine blk_alloc ?_ _)); exact BK579.out) hb); have n13_ := Aside0.mk (blk_below (g := gb614) (o := .cells #[.slice Ao51 t605.length co51, .slice Ao54 t608.length co54, .slice Ao55 t611.length co55] 31 (0, 0)) (by (with_reducible repeat (first | refine blk_drewN ?_ _ | refine blk_drew ?_ | refine blk_alloc ?_ _)); exact BK614.out) hb); have n14_ := Aside0.mk (below_step (by repeat (first | (with_reducible first | exact HB.out | apply below_alloc | apply pw_below_drewN | apply below_drew1 | refine below_set ?_ GE579.out | refine below_set ?_ GE614.out) | exact HB.out)) hb); clear HO585; clear HO588; clear HO591; clear HO594; clear HO597; clear HO601; clear HO604; clear HO607; clear HO610; clear HO613; clear HO618; clear HO622; clear BK579; clear BK614; clear HB; have HO585 := n0_; have HO588 := n1_; have HO591 := n2_; have HO594 := n3_; have HO597 := n4_; have HO601 := n5_; have HO604 := n6_; have HO607 := n7_; have HO610 := n8_; have HO613 := n9_; have HO618 := n10_; have HO622 := n11_; have BK579 := n12_; have BK614 := n13_; have HB := n14_; clear n0_ n1_ n2_ n3_ n4_ n5_ n6_ n7_ n8_ n9_ n10_ n11_ n12_ n13_ n14_; (try clear hb); (try clear hb2); (try clear hk); (try clear hi)))
        have n0_ := Aside0.mk (Kd.R_drew HO585.out)
        have n1_ := Aside0.mk (Kd.R_drew HO588.out)
        have n2_ := Aside0.mk (Kd.R_drew HO591.out)
        have n3_ := Aside0.mk (Kd.R_drew HO594.out)
        have n4_ := Aside0.mk (Kd.R_drew HO597.out)
        have n5_ := Aside0.mk (Kd.R_drew HO601.out)
        have n6_ := Aside0.mk (Kd.R_drew HO604.out)
        have n7_ := Aside0.mk (Kd.R_drew HO607.out)
        have n8_ := Aside0.mk (Kd.R_drew HO610.out)
        have n9_ := Aside0.mk (Kd.R_drew HO613.out)
        have n10_ := Aside0.mk (Kd.R_drew HO618.out)
        have n11_ := Aside0.mk (Kd.R_drew HO622.out)
        have n12_ := Aside0.mk (blk_drew BK579.out)
        have n13_ := Aside0.mk (blk_drew BK614.out)
        have n14_ := Aside0.mk (below_drew1 HB.out)
        clear HO585
        clear HO588
        clear HO591
        clear HO594
        clear HO597
        clear HO601
        clear HO604
        clear HO607
        clear HO610
        clear HO613
        clear HO618
        clear HO622
        clear BK579
        clear BK614
        clear HB
        have HO585 := n0_
        have HO588 := n1_
        have HO591 := n2_
        have HO594 := n3_
        have HO597 := n4_
        have HO601 := n5_
        have HO604 := n6_
        have HO607 := n7_
        have HO610 := n8_
        have HO613 := n9_
        have HO618 := n10_
        have HO622 := n11_
        have BK579 := n12_
        have BK614 := n13_
        have HB := n14_
        clear n0_ n1_ n2_ n3_ n4_ n5_ n6_ n7_ n8_ n9_ n10_ n11_ n12_ n13_ n14_
        refine start_ (n := 5) (S := fun w' => w'.cell? ⟨gb614, 0, none⟩ = some (.slice Ao51 t605.length co51) ∧ w'.cell? ⟨gb614, 1, none⟩ = some (.slice Ao54 t608.length co54) ∧ w'.cell? ⟨gb614, 2, none⟩ = some (.slice Ao55 t611.length co55) ∧ w'.cell? ⟨gb579, 0, none⟩ = some (.slice A2_0 l2_0.length c2_0) ∧ w'.cell? ⟨gb579, 1, none⟩ = some (.slice A2_1 l2_1.length c2_1) ∧ w'.cell? ⟨gb579, 2, none⟩ = some (.slice A2_2 l2_2.length c2_2)) (ds := []) #[false, false, false, false, false] (by kernel_rfl) rfl rfl ⟨(blk_cell BK614.out 0).trans rfl, (blk_cell BK614.out 1).trans rfl, (blk_cell BK614.out 2).trans rfl, (blk_cell BK579.out 0).trans rfl, (blk_cell BK579.out 1).trans rfl, (blk_cell BK579.out 2).trans rfl⟩ (fun hHeld => ?_)
        generalize w64.drew = w65 at HO585 HO588 HO591 HO594 HO597 HO601 HO604 HO607 HO610 HO613 HO618 HO622 BK579 BK614 HB hHeld ⊢
        refine ta_ 0 (some 58) #[true, false, false, false, false] rfl rfl (by kernel_rfl) hHeld (by rintro w' ⟨s0, s1, s2, s3, s4, s5⟩; go_simp; with_reducible rfl) ?_
        refine ta_ 1 (some 59) #[true, true, false, false, false] rfl rfl (by kernel_rfl) hHeld (by rintro w' ⟨s0, s1, s2, s3, s4, s5⟩; go_simp; with_reducible rfl) ?_
        refine one_ (i := 2) (N := some 60) #[true, true, true, false, false] rfl rfl (by kernel_rfl) (by decide) (fun K hK => ?_)
        refine goes_ Try.func16 (by kernel_rfl) rfl #[.agg #[.slice A2_0 l2_0.length c2_0, .slice A2_1 l2_1.length c2_1, .slice A2_2 l2_2.length c2_2]] (by rfl) rfl rfl (by (try simp only [List.map_toArray, List.map_cons, List.map_nil]); first | done | rfl | (simp only [List.length_drop, List.length_take]; rfl)) ?_
        with_reducible refine (laws_toCost.calls k _ _ l2_0 _ _ l2_1 _ _ l2_2 t624 t627 t630 _ ?side1 ?side2 ?side3 ?side4 ?side5 ?side6 A30.out).mono ?_
        (case side1 => exact cx_ HR2_0 HB)
        (case side2 => exact HC2_0.out)
        (case side3 => exact cx_ HR2_1 HB)
        (case side4 => exact HC2_1.out)
        (case side5 => exact cx_ HR2_2 HB)
        (case side6 => exact HC2_2.out)
        rintro e w66 ⟨v625, v628, v631, rfl, ho0, ho1, ho2, hb⟩
        refine ⟨_, rfl, ?_⟩
        have n0_ := tR_ HO585 hb
        have n1_ := tR_ HO588 hb
        have n2_ := Aside0.mk (Kd.R_mono (Kd.R_told (Kd.R_told (Kd.R_told (Kd.R_old (rx_ HO591.out) hb) (Kd.R_base ho0)) (Kd.R_base ho1)) (Kd.R_base ho2)) (fun _ h_ => h_.1))
        have n3_ := Aside0.mk (Kd.R_mono (Kd.R_told (Kd.R_told (Kd.R_told (Kd.R_old (rx_ HO594.out) hb) (Kd.R_base ho0)) (Kd.R_base ho1)) (Kd.R_base ho2)) (fun _ h_ => h_.1))
        have n4_ := Aside0.mk (Kd.R_mono (Kd.R_told (Kd.R_told (Kd.R_told (Kd.R_old (rx_ HO597.out) hb) (Kd.R_base ho0)) (Kd.R_base ho1)) (Kd.R_base ho2)) (fun _ h_ => h_.1))
        have n5_ := tR_ HO601 hb
        have n6_ := tR_ HO604 hb
        have n7_ := Aside0.mk (Kd.R_mono (Kd.R_told (Kd.R_told (Kd.R_told (Kd.R_old (rx_ HO607.out) hb) (Kd.R_base ho0)) (Kd.R_base ho1)) (Kd.R_base ho2)) (fun _ h_ => h_.1))
        have n8_ := Aside0.mk (Kd.R_mono (Kd.R_told (Kd.R_told (Kd.R_told (Kd.R_old (rx_ HO610.out) hb) (Kd.R_base ho0)) (Kd.R_base ho1)) (Kd.R_base ho2)) (fun _ h_ => h_.1))
        have n9_ := Aside0.mk (Kd.R_mono (Kd.R_told (Kd.R_told (Kd.R_told (Kd.R_old (rx_ HO613.out) hb) (Kd.R_base ho0)) (Kd.R_base ho1)) (Kd.R_base ho2)) (fun _ h_ => h_.1))
        have n10_ := tR_ HO618 hb
        have n11_ := tR_ HO622 hb
        have n12_ := Aside0.mk (Kd.R_lower (Kd.R_new' (Kd.R_new' (Kd.R_new' (Kd.R_new' (Kd.R_new' (Kd.R_new' ho0 (Kd.R_lt (rx_ HO591.out))) (Kd.R_lt (rx_ HO594.out))) (Kd.R_lt (rx_ HO597.out))) (Kd.R_lt (rx_ HO607.out))) (Kd.R_lt (rx_ HO610.out))) (Kd.R_lt (rx_ HO613.out))) (bs_ HB))
        have n13_ := Aside0.mk (Kd.R_lower (Kd.R_new' (Kd.R_new' (Kd.R_new' (Kd.R_new' (Kd.R_new' (Kd.R_new' ho1 (Kd.R_lt (rx_ HO591.out))) (Kd.R_lt (rx_ HO594.out))) (Kd.R_lt (rx_ HO597.out))) (Kd.R_lt (rx_ HO607.out))) (Kd.R_lt (rx_ HO610.out))) (Kd.R_lt (rx_ HO613.out))) (bs_ HB))
        have n14_ := Aside0.mk (Kd.R_lower (Kd.R_new' (Kd.R_new' (Kd.R_new' (Kd.R_new' (Kd.R_new' (Kd.R_new' ho2 (Kd.R_lt (rx_ HO591.out))) (Kd.R_lt (rx_ HO594.out))) (Kd.R_lt (rx_ HO597.out))) (Kd.R_lt (rx_ HO607.out))) (Kd.R_lt (rx_ HO610.out))) (Kd.R_lt (rx_ HO613.out))) (bs_ HB))
        have n15_ := tK_ BK579 hb
        have n16_ := tK_ BK614 hb
        have n17_ := tB_ HB hb
        clear HO585
        clear HO588
        clear HO591
        clear HO594
        clear HO597
        clear HO601
        clear HO604
        clear HO607
        clear HO610
        clear HO613
        clear HO618
        clear HO622
        clear BK579
        clear BK614
        clear HB
        have HO585 := n0_
        have HO588 := n1_
        have HO591 := n2_
        have HO594 := n3_
        have HO597 := n4_
        have HO601 := n5_
        have HO604 := n6_
        have HO607 := n7_
        have HO610 := n8_
        have HO613 := n9_
        have HO618 := n10_
        have HO622 := n11_
        have HO626 := n12_
        have HO629 := n13_
        have HO632 := n14_
        have BK579 := n15_
        have BK614 := n16_
        have HB := n17_
        clear n0_ n1_ n2_ n3_ n4_ n5_ n6_ n7_ n8_ n9_ n10_ n11_ n12_ n13_ n14_ n15_ n16_ n17_
        (try clear hb)
        (try clear hb2)
        (try clear hk)
        (try clear hi)
        (try clear ho0)
        (try clear ho1)
        (try clear ho2)
        obtain ⟨Ao67, co67, eo67⟩ := Kd.R_slice HO626.out
        (first | subst eo67 | (injection eo67 with f1_ f2_ f3_; have f4_ := f1_.symm; have f5_ := f3_.symm; clear f1_ f2_ f3_; subst f4_; subst f5_))
        obtain ⟨Ao68, co68, eo68⟩ := Kd.R_slice HO629.out
        (first | subst eo68 | (injection eo68 with f1_ f2_ f3_; have f4_ := f1_.symm; have f5_ := f3_.symm; clear f1_ f2_ f3_; subst f4_; subst f5_))
        obtain ⟨Ao69, co69, eo69⟩ := Kd.R_slice HO632.out
        (first | subst eo69 | (injection eo69 with f1_ f2_ f3_; have f4_ := f1_.symm; have f5_ := f3_.symm; clear f1_ f2_ f3_; subst f4_; subst f5_))
        refine hK.out _ _ ⟨(blk_cell BK614.out 0).trans rfl, (blk_cell BK614.out 1).trans rfl, (blk_cell BK614.out 2).trans rfl, (blk_cell BK579.out 0).trans rfl, (blk_cell BK579.out 1).trans rfl, (blk_cell BK579.out 2).trans rfl⟩ (fun hHeld => ?_)
        clear hK K
        refine norm_ (a' := ?_) ?_ ?_
        rotate_left
        ·show Act.put _ (some 60) _ = _
         simp only [Act.put, List.setIfInBounds_toArray, List.set_cons_zero, List.set_cons_succ, i64_w, i32_w]
         rfl
        refine one_ (i := 3) (N := some 61) #[true, true, true, true, false] rfl rfl (by kernel_rfl) (by decide) (fun K hK => ?_)
        refine goes_ Try.func19 (by kernel_rfl) rfl #[.agg #[.slice Ao51 t605.length co51, .slice Ao54 t608.length co54, .slice Ao55 t611.length co55], .agg #[.slice Ao67 t624.length co67, .slice Ao68 t627.length co68, .slice Ao69 t630.length co69]] (by rfl) rfl rfl (by (try simp only [List.map_toArray, List.map_cons, List.map_nil]); first | done | rfl | (simp only [List.length_drop, List.length_take]; rfl)) ?_
        with_reducible refine (laws_eqCost.calls k _ _ t605 _ _ t608 _ _ t611 _ _ t624 _ _ t627 _ _ t630 true _ ?side1 ?side2 ?side3 ?side4 ?side5 ?side6 ?side7 ?side8 ?side9 ?side10 ?side11 ?side12 A31.out).mono ?_
        (case side1 => exact cc_ (Kd.R_reads' HO607.out).2.2)
        (case side2 => exact (Kd.R_reads' HO607.out).2.1)
        (case side3 => exact cc_ (Kd.R_reads' HO610.out).2.2)
        (case side4 => exact (Kd.R_reads' HO610.out).2.1)
        (case side5 => exact cc_ (Kd.R_reads' HO613.out).2.2)
        (case side6 => exact (Kd.R_reads' HO613.out).2.1)
        (case side7 => exact cc_ (Kd.R_reads' HO626.out).2.2)
        (case side8 => exact (Kd.R_reads' HO626.out).2.1)
        (case side9 => exact cc_ (Kd.R_reads' HO629.out).2.2)
        (case side10 => exact (Kd.R_reads' HO629.out).2.1)
        (case side11 => exact cc_ (Kd.R_reads' HO632.out).2.2)
        (case side12 => exact (Kd.R_reads' HO632.out).2.1)
        rintro e w70 ⟨rfl, hb⟩
        refine ⟨_, rfl, ?_⟩
        have n0_ := tR_ HO585 hb
        have n1_ := tR_ HO588 hb
        have n2_ := tR_ HO591 hb
        have n3_ := tR_ HO594 hb
        have n4_ := tR_ HO597 hb
        have n5_ := tR_ HO601 hb
        have n6_ := tR_ HO604 hb
        have n7_ := tR_ HO607 hb
        have n8_ := tR_ HO610 hb
        have n9_ := tR_ HO613 hb
        have n10_ := tR_ HO618 hb
        have n11_ := tR_ HO622 hb
        have n12_ := tR_ HO626 hb
        have n13_ := tR_ HO629 hb
        have n14_ := tR_ HO632 hb
        have n15_ := tK_ BK579 hb
        have n16_ := tK_ BK614 hb
        have n17_ := tB_ HB hb
        clear HO585
        clear HO588
        clear HO591
        clear HO594
        clear HO597
        clear HO601
        clear HO604
        clear HO607
        clear HO610
        clear HO613
        clear HO618
        clear HO622
        clear HO626
        clear HO629
        clear HO632
        clear BK579
        clear BK614
        clear HB
        have HO585 := n0_
        have HO588 := n1_
        have HO591 := n2_
        have HO594 := n3_
        have HO597 := n4_
        have HO601 := n5_
        have HO604 := n6_
        have HO607 := n7_
        have HO610 := n8_
        have HO613 := n9_
        have HO618 := n10_
        have HO622 := n11_
        have HO626 := n12_
        have HO629 := n13_
        have HO632 := n14_
        have BK579 := n15_
        have BK614 := n16_
        have HB := n17_
        clear n0_ n1_ n2_ n3_ n4_ n5_ n6_ n7_ n8_ n9_ n10_ n11_ n12_ n13_ n14_ n15_ n16_ n17_
        (try clear hb)
        (try clear hb2)
        (try clear hk)
        (try clear hi)
        refine hK.out _ _ ⟨(blk_cell BK614.out 0).trans rfl, (blk_cell BK614.out 1).trans rfl, (blk_cell BK614.out 2).trans rfl, (blk_cell BK579.out 0).trans rfl, (blk_cell BK579.out 1).trans rfl, (blk_cell BK579.out 2).trans rfl⟩ (fun hHeld => ?_)
        clear hK K
        refine norm_ (a' := ?_) ?_ ?_
        rotate_left
        ·show Act.put _ (some 61) _ = _
         simp only [Act.put, List.setIfInBounds_toArray, List.set_cons_zero, List.set_cons_succ, i64_w, i32_w]
         rfl
        refine pu_ 4 (some 62) #[true, true, true, true, true] rfl rfl (by kernel_rfl) ?_
        refine done_ (by kernel_rfl) ?_
        try go_wp2
        go_ret
        exact ⟨ea_, (bl_ HB).out⟩
       ·replace c32 := Bool.eq_false_iff.mpr c32
        subst c32
        have H1 : (some false) = some true := by rw [if_neg (show ¬ (false = true) by decide)] at H; exact H
        clear H
        have H := H1
        clear H1
        exact absurd H (by simp)
      ·replace c29 := Bool.eq_false_iff.mpr c29
       subst c29
       have H1 : (some false) = some true := by rw [if_neg (show ¬ (false = true) by decide)] at H; exact H
       clear H
       have H := H1
       clear H1
       exact absurd H (by simp)
     ·replace c26 := Bool.eq_false_iff.mpr c26
      subst c26
      have H1 : (some false) = some true := by rw [if_neg (show ¬ (false = true) by decide)] at H; exact H
      clear H
      have H := H1
      clear H1
      exact absurd H (by simp)
    ·rw [if_neg c23] at H
     have c23b0 : (t615 == t598) = false := beq_eq_false_iff_ne.mpr c23
     have c23b1 : (t615 != t598) = true := bne_iff_ne.mpr c23
     exact absurd H (by simp)
end Go.Proofs.Ytelglbebffdaaaa.X
namespace Go.Proofs.Ytelglbebffdaaaa.Q
open Go.RowKit Go.Proofs.YtelglbebffdaaaaW.PrintWords Go.Proofs.YtelglbebffdaaaaW.PrintLast Go.Proofs.YtelglbebffdaaaaW.PrintMore Go.Proofs.Ytelglbebffdaaaa.X Go.Proofs.Ytelglbebffdaaaa.Rd
set_option linter.unusedVariables false
set_option linter.unusedSimpArgs false
theorem FnExactRootDist (a : List NodeL) (wa : WF22 a) (b : List NodeL) (wb : WF22 b) (c : CostL) (wc : WF25 c) : ∃ k, laws_FnExactRootDist.f k a b c.f0 c.f1 c.f2 = some true := by
  refine Ev.rounds (g := fun k => laws_FnExactRootDist.f k a b c.f0 c.f1 c.f2) ?_
  have wd := wc.1.1
  have wi_ := wc.2.1.1
  have wr := wc.2.2.1
  unfold laws_FnExactRootDist.f
  refine Ev.bindC (szNodeS_eq a _ (by omega) (by omega) wa.1) ?_
  by_cases h : (1048576 : Int) < a.length
  · rw [if_pos h]
    exact Ev.ifT (by omega) (Ev.now _)
  rw [if_neg h]
  refine Ev.ifF (by omega) (Ev.bindC (szNodeS_eq b _ (by omega) (by omega) wb.1) ?_)
  by_cases h1 : (1048576 : Int) - a.length < b.length
  · rw [if_pos h1]
    exact Ev.ifT (by omega) (Ev.now _)
  rw [if_neg h1]
  obtain ⟨z, hz, hp⟩ := szCost_eq c.f0 c.f1 c.f2 ((1048576 : Int) - a.length - b.length) (by omega) (by omega) wd wi_ wr
  refine Ev.ifF (by omega) (Ev.bindC hz ?_)
  rcases hp with hp | ⟨hp, rfl⟩
  · exact Ev.ifT hp (Ev.now _)
  refine Ev.ifF (by omega) ?_
  have ta := toNodeS_ev a (by omega)
  have tb := toNodeS_ev b (by omega)
  have tc := toCost_ev c.f0 c.f1 c.f2 (by omega) (by omega) (by omega)
  have la : (a.map toNode).length = a.length := by simp
  have lb : (b.map toNode).length = b.length := by simp
  have fit : Fit (a.map toNode) (b.map toNode) c.f0 c.f1 c.f2 := ⟨by omega, by omega, by omega, by omega, by omega⟩
  have s := spec_RootDist.ev fit
  have i := implRootDist_ev (a.map toNode) (b.map toNode) c.f0 c.f1 c.f2
  refine Ev.bind ta (Ev.bind tb (Ev.bind tc (Ev.bind s (Ev.bind ta (Ev.bind tb (Ev.bind tc (Ev.bind i (Ev.ifT rfl ?_))))))))
  exact Ev.bind ta (Ev.bind (eqNodeS_ev _ (by omega)) (Ev.ifT rfl (Ev.bind tb (Ev.bind (eqNodeS_ev _ (by omega)) (Ev.ifT rfl (Ev.bind tc (Ev.bind (eqCost_ev _ _ _ (by omega) (by omega) (by omega)) (Ev.ifT rfl (Ev.now _)))))))))
end Go.Proofs.Ytelglbebffdaaaa.Q
