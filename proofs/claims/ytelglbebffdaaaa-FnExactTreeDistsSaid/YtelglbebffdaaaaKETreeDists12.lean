/- Part 12 of the proof of FnExactTreeDists: what it needs. -/
import Derived.Carry
import Derived.Test.YtelglbebffdaaaaKETreeDists7
import Derived.Test.YtelglbebffdaaaaKETreeDists11
namespace Go.Proofs.Ytelglbebffdaaaa.X
open Go.RowKit Go.Proofs.YtelglbebffdaaaaW.PrintWords Go.Proofs.YtelglbebffdaaaaW.PrintLast Go.Proofs.YtelglbebffdaaaaW.PrintMore Go.Proofs.Ytelglbebffdaaaa.Q
set_option linter.unusedVariables false
set_option linter.unusedSimpArgs false
theorem row1_of {W : World} {A : Option Addr} {c b n : Nat} {f : Nat → Int} (hn : 0 < n) (hc : n ≤ c) (hb : W.heap.size ≤ b) (h : Kd.C (Kd.int .i64) W A n ((List.range n).map f)) : Row1 W b (.slice A n c) n f := by
 obtain ⟨ad, rfl, h0⟩ := Kd.at_int h 0 (by omega) (by omega)
 refine ⟨ad, c, rfl, hc, ?_, fun p hp => ?_⟩
 ·have := World.block_lt_of_cell? W _ h0
  rw [add_block] at this
  omega
 ·obtain ⟨ad', e, h1⟩ := Kd.at_int h (p : Int) (by omega) (by omega)
  cases e
  rw [Int.toNat_natCast, rd_map hp] at h1
  exact h1
theorem row2_of {W : World} {A : Option Addr} {c b n m : Nat} {f : Nat → Nat → Int} {e : Nat} (hn : 0 < n) (hm : 0 < m) (hc : n ≤ c) (hb : W.heap.size ≤ b) (h : Kd.C (Kd.slice e (Kd.int .i64)) W A n ((List.range n).map fun p => (List.range m).map (f p))) : Row2 W b (.slice A n c) n m f := by
 have key : ∀ p, p < n → ∃ ad u, A = some ad ∧ W.cell? (ad.add p) = some u ∧ Row1 W b u m (f p) := fun p hp => by
  obtain ⟨ad, cs, hA, hlen, hK, hcell⟩ := ReadsRow.get_ h [] (p : Int) (by omega) (by omega)
  obtain ⟨A', c', hcs, hc', hC⟩ := hK
  subst hcs
  have e1 : ((List.range n).map fun p => (List.range m).map (f p)).getD (p : Int).toNat [] = (List.range m).map (f p) := by
   rw [Int.toNat_natCast, List.getD_eq_getElem?_getD, List.getElem?_map, List.getElem?_range hp]; rfl
  rw [e1] at hcell hC hc'
  have hl : ((List.range m).map (f p)).length = m := by simp
  rw [hl] at hcell hC hc'
  have h1 := hcell 0 _ rfl
  refine ⟨ad, _, hA, ?_, row1_of hm hc' hb hC⟩
  have e2 : (p : Int).toNat * (Kd.slice e (Kd.int .i64)).sz + 0 = p := by
   rw [Int.toNat_natCast]
   show p * 1 + 0 = p
   omega
  rw [e2] at h1
  exact h1
 obtain ⟨ad, u, hA, hu, _⟩ := key 0 hn
 subst hA
 refine ⟨ad, c, rfl, hc, ?_, fun p hp => ?_⟩
 ·have := World.block_lt_of_cell? W _ hu
  rw [add_block] at this
  omega
 ·obtain ⟨ad', u', e, h1, h2⟩ := key p hp
  cases e
  exact ⟨u', h1, h2⟩
noncomputable def fdB (a b : List NodeI) (i j k m : Int) (d n r : List Int) : Int :=
 if okAB a b d n r = true ∧ 0 ≤ i ∧ i ≤ j ∧ j ≤ (a.length : Int) ∧ 0 ≤ k ∧ k ≤ m ∧ m ≤ (b.length : Int) then Ted.D (msOf a b d n r) i.toNat j.toNat k.toNat m.toNat else -1
noncomputable def impl_ForestDist.f (q : Nat) (a : List NodeI) (i j : Int) (b : List NodeI) (k m : Int) (d n r : List Int) : Option Int := (impl_measureOf.f q a b d n r).bind fun _ => some (fdB a b i j k m d n r)
theorem impl_ForestDist.ev (a : List NodeI) (i j : Int) (b : List NodeI) (k m : Int) (d n r : List Int) : Ev (fun q => impl_ForestDist.f q a i j b k m d n r) (fdB a b i j k m d n r) := by
 unfold impl_ForestDist.f
 exact Ev.bind (implMeasure_ev a b d n r) (Ev.now _)
theorem Row1.below {b : Nat} {W W1 : World} (h : Below W.heap.size W W1) {v : Value} {n : Nat} {f : Nat → Int} (r : Row1 W b v n f) : Row1 W1 b v n f := by
 obtain ⟨ad, c, e, hc, hb, hp⟩ := r.is
 exact ⟨ad, c, e, hc, hb, fun p hp' => (h.cell (World.block_lt_of_cell? _ _ (hp p hp'))).trans (hp p hp')⟩
theorem Row2.below {b : Nat} {W W1 : World} (h : Below W.heap.size W W1) {v : Value} {n m : Nat} {f : Nat → Nat → Int} (r : Row2 W b v n m f) : Row2 W1 b v n m f := by
 obtain ⟨ad, c, e, hc, hb, hp⟩ := r.is
 refine ⟨ad, c, e, hc, hb, fun p hp' => ?_⟩
 obtain ⟨u, hu, r1⟩ := hp p hp'
 exact ⟨u, (h.cell (World.block_lt_of_cell? _ _ hu)).trans hu, r1.below h⟩
theorem Mea.below {M : Ted.Ms} {A B : Nat} {b : Nat} {W W1 : World} (h : Below W.heap.size W W1) {v : Array Value} (r : Mea M A B W b v) : Mea M A B W1 b v := by
 obtain ⟨v0, v1, v2, v3, v4, v5, v6, e, h2, h3, h4, h5, h6⟩ := r.is
 exact ⟨v0, v1, v2, v3, v4, v5, v6, e, h2.below h, h3.below h, h4.below h, h5.below h, h6.below h⟩
theorem row1_R {W : World} {e base : Nat} {ok : Nat → Prop} {v : Value} {b n : Nat} {f : Nat → Int} (hn : 0 < n) (hb : W.heap.size ≤ b) (h : Kd.R (Kd.int .i64) e W base ok v ((List.range n).map f)) : Row1 W b v n f := by
 obtain ⟨A, c, rfl⟩ := Kd.R_slice h
 obtain ⟨_, h2, h3⟩ := Kd.R_reads' h
 have hl : ((List.range n).map f).length = n := by simp
 rw [hl] at h2 h3 ⊢
 exact row1_of hn h2 hb h3
theorem row2_S {W : World} {e e2 base : Nat} {ok : Nat → Prop} {v : Value} {b n m : Nat} {f : Nat → Nat → Int} (hn : 0 < n) (hm : 0 < m) (hb : W.heap.size ≤ b) (h : Kd.S (Kd.slice e2 (Kd.int .i64)) e W base ok v ((List.range n).map fun p => (List.range m).map (f p))) : Row2 W b v n m f := by
 obtain ⟨A, c, rfl, h2, h3⟩ := Kd.S_reads h
 have hl : ((List.range n).map fun p => (List.range m).map (f p)).length = n := by simp
 rw [hl] at h2 h3 ⊢
 exact row2_of hn hm h2 hb h3
def IsSl (v : Value) : Prop := ∃ A n c, v = .slice A n c
theorem sl_R {e base : Nat} {W : World} {ok : Nat → Prop} {v : Value} {xs : List Int} (h : Kd.R (Kd.int .i64) e W base ok v xs) : IsSl v := by
 obtain ⟨A, c, e⟩ := Kd.R_slice h
 exact ⟨_, _, _, e⟩
theorem mea_ok {q : Nat} {A0 : Option Addr} {c0 : Nat} {a : List NodeI} {A1 : Option Addr} {c1 : Nat} {b : List NodeI} {A2 : Option Addr} {c2 : Nat} {d : List Int} {A3 : Option Addr} {c3 : Nat} {i : List Int} {A4 : Option Addr} {c4 : Nat} {r : List Int} {t : _} {w : World}
  (hr0 : Kd.C k53 w A0 a.length a) (hc0 : a.length ≤ c0) (hr1 : Kd.C k53 w A1 b.length b) (hc1 : b.length ≤ c1) (hr2 : Kd.C (Kd.int .i64) w A2 d.length d) (hc2 : d.length ≤ c2) (hr3 : Kd.C (Kd.int .i64) w A3 i.length i) (hc3 : i.length ≤ c3) (hr4 : Kd.C (Kd.int .i64) w A4 r.length r) (hc4 : r.length ≤ c4)
  (ht : impl_measureOf.f q a b d i r = some t) :
  Calls Try.prog 57 #[.slice A0 a.length c0, .slice A1 b.length c1, .agg #[.slice A2 d.length c2, .slice A3 i.length c3, .slice A4 r.length c4]] w fun e w' =>
   ∃ v0 v1 v2 v3 v4 v5 v6 : Value, e = .returned (.tuple #[.agg #[v0, v1, v2, v3, v4, v5, v6], .bool (okAB a b d i r)]) ∧ Below w.heap.size w w' ∧ (IsSl v0 ∧ IsSl v1 ∧ IsSl v2 ∧ IsSl v3 ∧ IsSl v4 ∧ IsSl v5 ∧ IsSl v6) ∧ (okAB a b d i r = true → ∀ bk, w'.heap.size ≤ bk → Mea (msOf a b d i r) a.length b.length w' bk #[v0, v1, v2, v3, v4, v5, v6]) := by
 have he : t = _ := ev_uniq (Ev.of (impl_measureOf.mono a b d i r) ht) (implMeasure_ev a b d i r)
 obtain ⟨r1, r2, r3, r4, r5, r6, r7, r8⟩ := t
 refine (impl_measureOf.calls q A0 c0 a A1 c1 b A2 c2 d A3 c3 i A4 c4 r r1 r2 r3 r4 r5 r6 r7 r8 w hr0 hc0 hr1 hc1 hr2 hc2 hr3 hc3 hr4 hc4 ht).mono ?_
 rintro e w' ⟨v0, v1, v2, v3, v4, v5, v6, rfl, h0, h1, h2, h3, h4, h5, h6, hb⟩
 have hsl : IsSl v0 ∧ IsSl v1 ∧ IsSl v2 ∧ IsSl v3 ∧ IsSl v4 ∧ IsSl v5 ∧ IsSl v6 := ⟨sl_R h0, sl_R h1, sl_R h2, sl_R h3, sl_R h4, sl_R h5, by obtain ⟨A, c, e, _⟩ := Kd.S_reads h6; exact ⟨_, _, _, e⟩⟩
 by_cases hok : okAB a b d i r = true
 ·rw [if_pos hok] at he
  simp only [Prod.mk.injEq] at he
  obtain ⟨rfl, rfl, rfl, rfl, rfl, rfl, rfl, rfl⟩ := he
  have hok2 := hok
  unfold okAB at hok2
  rw [Bool.and_eq_true, Bool.and_eq_true] at hok2
  have ta := (trB_iff a).1 hok2.1.1
  have tb := (trB_iff b).1 hok2.1.2
  have la := ta.len1
  have lb := tb.len1
  refine ⟨v0, v1, v2, v3, v4, v5, v6, by rw [hok], hb, hsl, fun _ bk hbk => ⟨v0, v1, v2, v3, v4, v5, v6, rfl, ?_, ?_, ?_, ?_, ?_⟩⟩
  ·exact row1_R la hbk h2
  ·exact row1_R lb hbk h3
  ·exact row1_R la hbk h4
  ·exact row1_R lb hbk h5
  ·exact row2_S la lb hbk h6
 ·rw [if_neg hok] at he
  simp only [Prod.mk.injEq] at he
  obtain ⟨rfl, rfl, rfl, rfl, rfl, rfl, rfl, rfl⟩ := he
  have hf : okAB a b d i r = false := by simpa using hok
  exact ⟨v0, v1, v2, v3, v4, v5, v6, by rw [hf], hb, hsl, fun h => absurd h hok⟩
attribute [local go_sem] run_makeMap
end Go.Proofs.Ytelglbebffdaaaa.X
namespace Go.Proofs.Ytelglbebffdaaaa.X
open Go.RowKit Go.Proofs.YtelglbebffdaaaaW.PrintWords Go.Proofs.YtelglbebffdaaaaW.PrintLast Go.Proofs.YtelglbebffdaaaaW.PrintMore Go.Proofs.Ytelglbebffdaaaa.Q
set_option linter.unusedVariables false
set_option linter.unusedSimpArgs false
theorem Row1.congr {W : World} {b n : Nat} {v : Value} {f g : Nat → Int} (h : Row1 W b v n f) (e : ∀ p, p < n → f p = g p) : Row1 W b v n g := by
 obtain ⟨ad, c, h1, h2, h3, h4⟩ := h.is
 exact ⟨ad, c, h1, h2, h3, fun p hp => by rw [← e p hp]; exact h4 p hp⟩
noncomputable def preF (q : Nat) (a b : List NodeI) (d n r : List Int) : Option Bool :=
 if Fit a b d n r then (spec_l8Three.f q a b d n r).bind fun t => if t = true then (spec_l8Labels.f q a).bind fun _ => (spec_l8Labels.f q b).bind fun _ => (spec_LeftLeaf.f q a).bind fun _ => (spec_LeftLeaf.f q b).bind fun _ => some true else some false else none
theorem preF_ev {a b : List NodeI} {d n r : List Int} (h : Fit a b d n r) : Ev (fun k => preF k a b d n r) (okAB a b d n r) := by
 unfold preF
 refine Ev.ifT h (Ev.bind (specThree_ev h) ?_)
 cases ho : okAB a b d n r with
 | false => exact Ev.ifF (by simp) (Ev.now _)
 | true =>
  obtain ⟨ta, tb, _⟩ := okAB_iff.1 ho
  exact Ev.ifT rfl (Ev.bind (specLabels_ev ta) (Ev.bind (specLabels_ev tb) (Ev.bind (specLeftLeaf_ev ta) (Ev.bind (specLeftLeaf_ev tb) (Ev.now _)))))
theorem preF_told {q : Nat} {a b : List NodeI} {d n r : List Int} {t : Bool} (h : preF q a b d n r = some t) : spec_l8Three.f q a b d n r = some t ∧ t = okAB a b d n r ∧
  (t = true → spec_l8Labels.f q a = some (labL a) ∧ spec_l8Labels.f q b = some (labL b) ∧ spec_LeftLeaf.f q a = some (lfL a) ∧ spec_LeftLeaf.f q b = some (lfL b)) := by
 unfold preF at h
 by_cases hf : Fit a b d n r
 ·rw [if_pos hf] at h
  obtain ⟨u, hu, h⟩ := Option.bind_eq_some_iff.mp h
  have eu : u = okAB a b d n r := ev_uniq (Ev.of (spec_l8Three.mono a b d n r) hu) (specThree_ev hf)
  by_cases c : u = true
  ·rw [if_pos c] at h
   obtain ⟨x1, h1, h⟩ := Option.bind_eq_some_iff.mp h
   obtain ⟨x2, h2, h⟩ := Option.bind_eq_some_iff.mp h
   obtain ⟨x3, h3, h⟩ := Option.bind_eq_some_iff.mp h
   obtain ⟨x4, h4, h⟩ := Option.bind_eq_some_iff.mp h
   obtain rfl := Option.some.inj h
   obtain ⟨ta, tb, _⟩ := okAB_iff.1 (eu.symm.trans c)
   refine ⟨by rw [hu, c], by rw [← eu, c], fun _ => ⟨?_, ?_, ?_, ?_⟩⟩
   ·rw [h1, ev_uniq (Ev.of (spec_l8Labels.mono a) h1) (specLabels_ev ta)]
   ·rw [h2, ev_uniq (Ev.of (spec_l8Labels.mono b) h2) (specLabels_ev tb)]
   ·rw [h3, ev_uniq (Ev.of (spec_LeftLeaf.mono a) h3) (specLeftLeaf_ev ta)]
   ·rw [h4, ev_uniq (Ev.of (spec_LeftLeaf.mono b) h4) (specLeftLeaf_ev tb)]
  ·rw [if_neg c] at h
   obtain rfl := Option.some.inj h
   have e : u = false := by simpa using c
   subst e
   exact ⟨hu, eu, fun h => by cases h⟩
 ·rw [if_neg hf] at h; cases h
theorem NS.start' {w : World} {ty : TypeId} (x0 x1 x2 : Value) : NS w w.heap.size x0 x1 x2 (w.alloc (.cells #[x0, x1, x2] ty)) :=
 have h : (w.alloc (.cells #[x0, x1, x2] ty)).heap[w.heap.size]? = some (.cells #[x0, x1, x2] ty (0, 0)) := (MapKept.heap_alloc w _).1
 ⟨(blk_cell h 0).trans rfl, (blk_cell h 1).trans rfl, (blk_cell h 2).trans rfl, below_alloc (Below.refl _ _) _⟩
end Go.Proofs.Ytelglbebffdaaaa.X
