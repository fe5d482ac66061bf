/- Part 16 of the proof of FnDists: what it needs. -/
import Derived.Carry
import Derived.Test.YtelglbebffdaaaaKLDists11
import Derived.Test.YtelglbebffdaaaaKLDists14
import Derived.Test.YtelglbebffdaaaaKLDists15
namespace Go.Proofs.Ytelglbebffdaaaa.X
open Go.RowKit Go.Proofs.YtelglbebffdaaaaW.PrintWords Go.Proofs.YtelglbebffdaaaaW.PrintLast Go.Proofs.YtelglbebffdaaaaW.PrintMore Go.Proofs.Ytelglbebffdaaaa.Q
set_option linter.unusedVariables false
set_option linter.unusedSimpArgs false
noncomputable def fdB (a b : List NodeI) (i j k m : Int) (d n r : List Int) : Int :=
 if okAB a b d n r = true ∧ 0 ≤ i ∧ i ≤ j ∧ j ≤ (a.length : Int) ∧ 0 ≤ k ∧ k ≤ m ∧ m ≤ (b.length : Int) then Ted.D (msOf a b d n r) i.toNat j.toNat k.toNat m.toNat else -1
noncomputable def impl_ForestDist.f (q : Nat) (a : List NodeI) (i j : Int) (b : List NodeI) (k m : Int) (d n r : List Int) : Option Int := (impl_measureOf.f q a b d n r).bind fun _ => some (fdB a b i j k m d n r)
theorem impl_ForestDist.ev (a : List NodeI) (i j : Int) (b : List NodeI) (k m : Int) (d n r : List Int) : Ev (fun q => impl_ForestDist.f q a i j b k m d n r) (fdB a b i j k m d n r) := by
 unfold impl_ForestDist.f
 exact Ev.bind (implMeasure_ev a b d n r) (Ev.now _)
attribute [local go_sem] run_makeMap
set_option maxHeartbeats 4000000 in
set_option maxRecDepth 100000 in
theorem impl_ForestDist.calls (q : Nat) (A0 : Option Addr) (c0 : Nat) (l0 : List NodeI) (l1 l2 : Int) (A3 : Option Addr) (c3 : Nat) (l3 : List NodeI) (l4 l5 : Int) (A6 : Option Addr) (c6 : Nat) (d : List Int) (A7 : Option Addr) (c7 : Nat) (n : List Int) (A8 : Option Addr) (c8 : Nat) (r : List Int) (res : Int) (w : World)
  (hr0 : Kd.C k53 w A0 l0.length l0) (hc0 : l0.length ≤ c0) (hr3 : Kd.C k53 w A3 l3.length l3) (hc3 : l3.length ≤ c3) (hr6 : Kd.C (Kd.int .i64) w A6 d.length d) (hc6 : d.length ≤ c6) (hr7 : Kd.C (Kd.int .i64) w A7 n.length n) (hc7 : n.length ≤ c7) (hr8 : Kd.C (Kd.int .i64) w A8 r.length r) (hc8 : r.length ≤ c8)
  (h : impl_ForestDist.f q l0 l1 l2 l3 l4 l5 d n r = some res) :
  Calls Try.prog 17 #[.slice A0 l0.length c0, .int .i64 l1, .int .i64 l2, .slice A3 l3.length c3, .int .i64 l4, .int .i64 l5, .agg #[.slice A6 d.length c6, .slice A7 n.length c7, .slice A8 r.length c8]] w fun e w' => e = .returned (.int .i64 res) ∧ Below w.heap.size w w' := by
 unfold impl_ForestDist.f at h
 obtain ⟨t, ht, h⟩ := Option.bind_eq_some_iff.mp h
 obtain rfl := Option.some.inj h
 clear h
 have HM : Aside0 (∀ W, Below w.heap.size w W → _) := ⟨fun W hb => mea_ok (Kd.C_below hr0 hb) hc0 (Kd.C_below hr3 hb) hc3 (Kd.C_below hr6 hb) hc6 (Kd.C_below hr7 hb) hc7 (Kd.C_below hr8 hb) hc8 ht⟩
 clear hr0 hc0 hr3 hc3 hr6 hc6 hr7 hc7 hr8 hc8 ht
 by_cases hok : okAB l0 l3 d n r = true ∧ 0 ≤ l1 ∧ l1 ≤ l2 ∧ l2 ≤ (l0.length : Int) ∧ 0 ≤ l4 ∧ l4 ≤ l5 ∧ l5 ≤ (l3.length : Int)
 ·have HV := Aside0.mk (show fdB l0 l3 l1 l2 l4 l5 d n r = Ted.D (msOf l0 l3 d n r) l1.toNat l2.toNat l4.toNat l5.toNat from if_pos hok)
  obtain ⟨ho, h1, h2, h3, h4, h5, h6⟩ := hok
  have HOK := Aside0.mk ho
  rw [ho] at HM
  obtain ⟨i, rfl⟩ := Int.eq_ofNat_of_zero_le h1
  obtain ⟨j, rfl⟩ := Int.eq_ofNat_of_zero_le (Int.le_trans h1 h2)
  obtain ⟨k, rfl⟩ := Int.eq_ofNat_of_zero_le h4
  obtain ⟨m, rfl⟩ := Int.eq_ofNat_of_zero_le (Int.le_trans h4 h5)
  have z1 : ¬ (i : Int) < 0 := by omega
  have z2 : ¬ (j : Int) < (i : Int) := by omega
  have z3 : ¬ (l0.length : Int) < (j : Int) := by omega
  have z4 : ¬ (k : Int) < 0 := by omega
  have z5 : ¬ (m : Int) < (k : Int) := by omega
  have z6 : ¬ (l3.length : Int) < (m : Int) := by omega
  go_enter Try.func17, Try.ntmps17
  go_wp2_with (first | (go_at_call 57; refine (HM.out _ ((Below.refl _ _).alloc (Nat.le_refl _) _)).mono ?_; rintro e w6 ⟨v0, v1, v2, v3, v4, v5, v6, rfl, hb, ⟨⟨a0, n0, e0, rfl⟩, ⟨a1, n1, e1, rfl⟩, ⟨a2, n2, e2, rfl⟩, ⟨a3, n3, e3, rfl⟩, ⟨a4, n4, e4, rfl⟩, ⟨a5, n5, e5, rfl⟩, ⟨a6, n6, e6, rfl⟩⟩, hmea⟩))
  have hol0 : okAB l0 l3 d n r = true := HOK.out
  have hok2 := hol0
  unfold okAB at hok2
  rw [Bool.and_eq_true, Bool.and_eq_true] at hok2
  have ta := (trB_iff l0).1 hok2.1.1
  have tb := (trB_iff l3).1 hok2.1.2
  have hB6 := Aside0.mk (((Below.refl w.heap.size w).alloc (Nat.le_refl _) (.cells #[.slice A6 d.length c6, .slice A7 n.length c7, .slice A8 r.length c8] 31)).trans (hb.mono (by simp)))
  have hMemo := Memo.start (msOf l0 l3 d n r) (w6.alloc (Obj.cells #[.slice a0 n0 e0, .slice a1 n1 e1, .slice a2 n2 e2, .slice a3 n3 e3, .slice a4 n4 e4, .slice a5 n5 e5, .slice a6 n6 e6] 70))
  have hsz : (w6.alloc (Obj.cells #[.slice a0 n0 e0, .slice a1 n1 e1, .slice a2 n2 e2, .slice a3 n3 e3, .slice a4 n4 e4, .slice a5 n5 e5, .slice a6 n6 e6] 70)).heap.size = w6.heap.size + 1 := by simp
  rw [hsz] at hMemo
  have hMea := (hmea trivial (w6.heap.size + 1) (by omega)).below (((Below.refl w6.heap.size w6).alloc (Nat.le_refl _) (Obj.cells #[.slice a0 n0 e0, .slice a1 n1 e1, .slice a2 n2 e2, .slice a3 n3 e3, .slice a4 n4 e4, .slice a5 n5 e5, .slice a6 n6 e6] 70)).alloc (by simp) (.map #[] 0))
  refine (forest_calls (msOf_small (costB_iff.1 hok2.2)) ta.len24 tb.len24 (fun p hp => lfN_le ta hp) (fun p hp => lfN_le tb hp) _ i j k m rfl (by omega) (by omega) (by omega) (by omega) _ _ _ [] hMea hMemo).mono ?_
  rintro e w9 ⟨rfl, hol, _⟩
  go_wp2
  go_ret
  refine ⟨by rw [HV.out]; simp only [Int.toNat_natCast]; rfl, hB6.out.trans ?_⟩
  refine Below.mono ?_ (show w.heap.size ≤ w6.heap.size from hB6.out.size)
  refine (((Below.refl w6.heap.size w6).alloc (Nat.le_refl _) _).alloc (by simp) _).trans ⟨hol.os, hol.tape, hol.output, hol.size, fun x hx => hol.block x (by simp; omega) (by simp; omega)⟩
 ·have HV : fdB l0 l3 l1 l2 l4 l5 d n r = -1 := if_neg hok
  rw [HV]
  have hcase : okAB l0 l3 d n r = false ∨ (okAB l0 l3 d n r = true ∧ l1 < 0) ∨ (okAB l0 l3 d n r = true ∧ ¬ l1 < 0 ∧ l2 < l1) ∨ (okAB l0 l3 d n r = true ∧ ¬ l1 < 0 ∧ ¬ l2 < l1 ∧ (l0.length : Int) < l2) ∨ (okAB l0 l3 d n r = true ∧ ¬ l1 < 0 ∧ ¬ l2 < l1 ∧ ¬ (l0.length : Int) < l2 ∧ l4 < 0) ∨
    (okAB l0 l3 d n r = true ∧ ¬ l1 < 0 ∧ ¬ l2 < l1 ∧ ¬ (l0.length : Int) < l2 ∧ ¬ l4 < 0 ∧ l5 < l4) ∨ (okAB l0 l3 d n r = true ∧ ¬ l1 < 0 ∧ ¬ l2 < l1 ∧ ¬ (l0.length : Int) < l2 ∧ ¬ l4 < 0 ∧ ¬ l5 < l4 ∧ (l3.length : Int) < l5) := by
   cases ho : okAB l0 l3 d n r with
   | false => exact Or.inl rfl
   | true =>
    rw [ho] at hok
    simp only [true_and, Bool.true_eq_false, false_or] at hok ⊢
    omega
  clear hok HV
  rcases hcase with ho | ⟨ho, z1⟩ | ⟨ho, z1, z2⟩ | ⟨ho, z1, z2, z3⟩ | ⟨ho, z1, z2, z3, z4⟩ | ⟨ho, z1, z2, z3, z4, z5⟩ | ⟨ho, z1, z2, z3, z4, z5, z6⟩
  all_goals
   rw [ho] at HM
   clear ho
   go_enter Try.func17, Try.ntmps17
   go_wp2_with (first | (go_at_call 57; refine (HM.out _ ((Below.refl _ _).alloc (Nat.le_refl _) _)).mono ?_; rintro e w6 ⟨v0, v1, v2, v3, v4, v5, v6, rfl, hb, ⟨⟨a0, n0, e0, rfl⟩, ⟨a1, n1, e1, rfl⟩, ⟨a2, n2, e2, rfl⟩, ⟨a3, n3, e3, rfl⟩, ⟨a4, n4, e4, rfl⟩, ⟨a5, n5, e5, rfl⟩, ⟨a6, n6, e6, rfl⟩⟩, hmea⟩))
   go_ret
   have hB6 := ((Below.refl w.heap.size w).alloc (Nat.le_refl _) (.cells #[.slice A6 d.length c6, .slice A7 n.length c7, .slice A8 r.length c8] 31)).trans (hb.mono (by simp))
   exact ⟨rfl, hB6.trans (((Below.refl w6.heap.size w6).alloc (Nat.le_refl _) _).mono hB6.size)⟩
end Go.Proofs.Ytelglbebffdaaaa.X
namespace Go.Proofs.Ytelglbebffdaaaa.X
open Go.RowKit Go.Proofs.YtelglbebffdaaaaW.PrintWords Go.Proofs.YtelglbebffdaaaaW.PrintLast Go.Proofs.YtelglbebffdaaaaW.PrintMore Go.Proofs.Ytelglbebffdaaaa.Q
set_option linter.unusedVariables false
set_option linter.unusedSimpArgs false
theorem Row1.congr {W : World} {b n : Nat} {v : Value} {f g : Nat → Int} (h : Row1 W b v n f) (e : ∀ p, p < n → f p = g p) : Row1 W b v n g := by
 obtain ⟨ad, c, h1, h2, h3, h4⟩ := h.is
 exact ⟨ad, c, h1, h2, h3, fun p hp => by rw [← e p hp]; exact h4 p hp⟩
noncomputable def preF (q : Nat) (a b : List NodeI) (d n r : List Int) : Option Bool :=
 if Fit a b d n r then (spec_l8Three.f q a b d n r).bind fun t => if t = true then (spec_l8Labels.f q a).bind fun _ => (spec_l8Labels.f q b).bind fun _ => (spec_LeftLeaf.f q a).bind fun _ => (spec_LeftLeaf.f q b).bind fun _ => some true else some false else none
theorem preF_ev {a b : List NodeI} {d n r : List Int} (h : Fit a b d n r) : Ev (fun k => preF k a b d n r) (okAB a b d n r) := by
 unfold preF
 refine Ev.ifT h (Ev.bind (specThree_ev h) ?_)
 cases ho : okAB a b d n r with
 | false => exact Ev.ifF (by simp) (Ev.now _)
 | true =>
  obtain ⟨ta, tb, _⟩ := okAB_iff.1 ho
  exact Ev.ifT rfl (Ev.bind (specLabels_ev ta) (Ev.bind (specLabels_ev tb) (Ev.bind (specLeftLeaf_ev ta) (Ev.bind (specLeftLeaf_ev tb) (Ev.now _)))))
theorem preF_told {q : Nat} {a b : List NodeI} {d n r : List Int} {t : Bool} (h : preF q a b d n r = some t) : spec_l8Three.f q a b d n r = some t ∧ t = okAB a b d n r ∧
  (t = true → spec_l8Labels.f q a = some (labL a) ∧ spec_l8Labels.f q b = some (labL b) ∧ spec_LeftLeaf.f q a = some (lfL a) ∧ spec_LeftLeaf.f q b = some (lfL b)) := by
 unfold preF at h
 by_cases hf : Fit a b d n r
 ·rw [if_pos hf] at h
  obtain ⟨u, hu, h⟩ := Option.bind_eq_some_iff.mp h
  have eu : u = okAB a b d n r := ev_uniq (Ev.of (spec_l8Three.mono a b d n r) hu) (specThree_ev hf)
  by_cases c : u = true
  ·rw [if_pos c] at h
   obtain ⟨x1, h1, h⟩ := Option.bind_eq_some_iff.mp h
   obtain ⟨x2, h2, h⟩ := Option.bind_eq_some_iff.mp h
   obtain ⟨x3, h3, h⟩ := Option.bind_eq_some_iff.mp h
   obtain ⟨x4, h4, h⟩ := Option.bind_eq_some_iff.mp h
   obtain rfl := Option.some.inj h
   obtain ⟨ta, tb, _⟩ := okAB_iff.1 (eu.symm.trans c)
   refine ⟨by rw [hu, c], by rw [← eu, c], fun _ => ⟨?_, ?_, ?_, ?_⟩⟩
   ·rw [h1, ev_uniq (Ev.of (spec_l8Labels.mono a) h1) (specLabels_ev ta)]
   ·rw [h2, ev_uniq (Ev.of (spec_l8Labels.mono b) h2) (specLabels_ev tb)]
   ·rw [h3, ev_uniq (Ev.of (spec_LeftLeaf.mono a) h3) (specLeftLeaf_ev ta)]
   ·rw [h4, ev_uniq (Ev.of (spec_LeftLeaf.mono b) h4) (specLeftLeaf_ev tb)]
  ·rw [if_neg c] at h
   obtain rfl := Option.some.inj h
   have e : u = false := by simpa using c
   subst e
   exact ⟨hu, eu, fun h => by cases h⟩
 ·rw [if_neg hf] at h; cases h
theorem NS.start' {w : World} {ty : TypeId} (x0 x1 x2 : Value) : NS w w.heap.size x0 x1 x2 (w.alloc (.cells #[x0, x1, x2] ty)) :=
 have h : (w.alloc (.cells #[x0, x1, x2] ty)).heap[w.heap.size]? = some (.cells #[x0, x1, x2] ty (0, 0)) := (MapKept.heap_alloc w _).1
 ⟨(blk_cell h 0).trans rfl, (blk_cell h 1).trans rfl, (blk_cell h 2).trans rfl, below_alloc (Below.refl _ _) _⟩
end Go.Proofs.Ytelglbebffdaaaa.X
namespace Go.Proofs.Ytelglbebffdaaaa.X
open Go.RowKit Go.Proofs.YtelglbebffdaaaaW.PrintWords Go.Proofs.YtelglbebffdaaaaW.PrintLast Go.Proofs.YtelglbebffdaaaaW.PrintMore Go.Proofs.Ytelglbebffdaaaa.Q
set_option linter.unusedVariables false
set_option linter.unusedSimpArgs false
noncomputable def spec_ForestDist.f (q : Nat) (a : List NodeI) (i j : Int) (b : List NodeI) (k m : Int) (d n r : List Int) : Option Int := (preF q a b d n r).bind fun _ => some (fdB a b i j k m d n r)
theorem spec_ForestDist.ev {a b : List NodeI} {d n r : List Int} (h : Fit a b d n r) (i j k m : Int) : Ev (fun q => spec_ForestDist.f q a i j b k m d n r) (fdB a b i j k m d n r) := by
 unfold spec_ForestDist.f
 exact Ev.bind (preF_ev h) (Ev.now _)
noncomputable def spec_SlowDist.f (q : Nat) (a b : List NodeI) (d n r : List Int) : Option Int := (preF q a b d n r).bind fun _ => some (rdB a b d n r)
theorem spec_SlowDist.ev {a b : List NodeI} {d n r : List Int} (h : Fit a b d n r) : Ev (fun q => spec_SlowDist.f q a b d n r) (rdB a b d n r) := by
 unfold spec_SlowDist.f
 exact Ev.bind (preF_ev h) (Ev.now _)
end Go.Proofs.Ytelglbebffdaaaa.X
