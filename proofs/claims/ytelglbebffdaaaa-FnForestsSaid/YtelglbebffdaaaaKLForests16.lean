/- Part 16 of the proof of FnForests: what it needs. -/
import Derived.Test.YtelglbebffdaaaaKLForests4
import Derived.Test.YtelglbebffdaaaaKLForests6
import Derived.Test.YtelglbebffdaaaaKLForests10
import Derived.Test.YtelglbebffdaaaaKLForests15
namespace Go.Proofs.Ytelglbebffdaaaa.X
open Go.RowKit Go.Proofs.YtelglbebffdaaaaW.PrintWords Go.Proofs.YtelglbebffdaaaaW.PrintLast Go.Proofs.YtelglbebffdaaaaW.PrintMore Go.Proofs.Ytelglbebffdaaaa.Q
set_option linter.unusedVariables false
set_option linter.unusedSimpArgs false
section
variable {w W1 : World} {p : Ad} {a b : List NdI} {d i r : List Int}
theorem fd_v (h : Ar w p a b d i r) (x1 x2 x3 x4 : Int) [c : Ch w W1] : Calls Try.prog 17 #[.slice p.Aa a.length p.ca, .int .i64 x1, .int .i64 x2, .slice p.Ab b.length p.cb, .int .i64 x3, .int .i64 x4, .agg #[.slice p.A0 d.length p.c0, .slice p.A1 i.length p.c1, .slice p.A2 r.length p.c2]] W1 fun e w' => e = .returned (.int .i64 (fdB a b x1 x2 x3 x4 d i r)) ∧ Below w.heap.size w w' := by
 obtain ⟨k, hk⟩ := (impl_ForestDist.ev a x1 x2 b x3 x4 d i r).rounds
 have g := h.ch (W' := W1)
 exact (impl_ForestDist.calls k p.Aa p.ca a x1 x2 p.Ab p.cb b x3 x4 p.A0 p.c0 d p.A1 p.c1 i p.A2 p.c2 r _ W1 g.ha g.ka g.hb g.kb g.h0 g.k0 g.h1 g.k1 g.h2 g.k2 hk).mono fun e w' ⟨he, hb⟩ => ⟨he, below_step c.out hb⟩
theorem sfd_v (h : Ar w p a b d i r) (x1 x2 x3 x4 : Int) [c : Ch w W1] : Calls Try.prog 14 #[.slice p.Aa a.length p.ca, .int .i64 x1, .int .i64 x2, .slice p.Ab b.length p.cb, .int .i64 x3, .int .i64 x4, .agg #[.slice p.A0 d.length p.c0, .slice p.A1 i.length p.c1, .slice p.A2 r.length p.c2]] W1 fun e w' => e = .returned (.int .i64 (fdB a b x1 x2 x3 x4 d i r)) ∧ Below w.heap.size w w' := by
 have g := h.ch (W' := W1)
 have la := h.la
 have lb := h.lb
 have l0 := h.l0
 have l1 := h.l1
 have l2 := h.l2
 obtain ⟨k, hk⟩ := (spec_ForestDist.ev (⟨by omega, by omega, by omega, by omega, by omega⟩ : Fit a b d i r) x1 x2 x3 x4).rounds
 exact (spec_ForestDist.calls k p.Aa p.ca a x1 x2 p.Ab p.cb b x3 x4 p.A0 p.c0 d p.A1 p.c1 i p.A2 p.c2 r _ W1 g.ha g.ka g.hb g.kb g.h0 g.k0 g.h1 g.k1 g.h2 g.k2 hk).mono fun e w' ⟨he, hb⟩ => ⟨he, below_step c.out hb⟩
theorem post_v {A : Option Addr} {c n : Nat} {l : List NdI} (t : Tr l) (hr : Kd.C k53 w A n l) (hc : n ≤ c) (hn : l.length = n) [ch : Ch w W1] : Calls Try.prog 40 #[.slice A n c] W1 fun e w' => ∃ (g k : Nat), e = .returned (.slice (some ⟨g, 0, none⟩) n k) ∧ (∀ x, x < n → w'.cell? ⟨g, x, none⟩ = some (.int .i64 (nodeN l x : Int))) ∧ Below w.heap.size w w' := by
 subst hn
 obtain ⟨k, hk⟩ := (specPost_tr t).rounds
 refine (spec_PostOrder.calls k A c l _ W1 (Kd.C_below hr ch.out) hc hk).mono ?_
 rintro e w' ⟨v, rfl, h1, h2⟩
 have hl : pst l = (List.range l.length).map fun x => (nodeN l x : Int) := by
  apply List.ext_getElem?
  intro x
  by_cases hx : x < l.length
  ·have e1 := rd_pst t hx
   unfold rd at e1
   rw [Int.toNat_natCast, List.getD_eq_getElem?_getD, List.getElem?_eq_getElem (by rw [pst_len t]; exact hx), Option.getD_some] at e1
   rw [List.getElem?_eq_getElem (by rw [pst_len t]; exact hx), List.getElem?_map, List.getElem?_range hx, e1]
   rfl
  ·rw [List.getElem?_eq_none (by rw [pst_len t]; omega), List.getElem?_eq_none (by simp; omega)]
 rw [hl] at h1
 obtain ⟨g, k, e, _, _, _, hq⟩ := (row_iv h1 t.len1).is
 subst e
 exact ⟨g, k, rfl, fun x hx => by have := hq x hx; rwa [add_plain] at this, below_step ch.out h2⟩
theorem del_v (h : Ar w p a b d i r) (hc : Co d i r) (x : Int) (x0 : 0 ≤ x) (x5 : x ≤ 5) [c : Ch w W1] : Calls Try.prog 41 #[.agg #[.slice p.A0 d.length p.c0, .slice p.A1 i.length p.c1, .slice p.A2 r.length p.c2], .int .i64 x] W1 fun e w' => e = .returned (.int .i64 (d.getD x.toNat 0)) ∧ Below w.heap.size w w' := by
 obtain ⟨k, hk⟩ := (implDel_ev hc x0 x5).rounds
 have g := h.ch (W' := W1)
 exact (impl_DelCost.calls k p.A0 p.c0 d p.A1 p.c1 i p.A2 p.c2 r x _ W1 g.h0 g.k0 g.h1 g.k1 g.h2 g.k2 hk).mono fun e w' ⟨he, hb⟩ => ⟨he, below_step c.out hb⟩
theorem ins_v (h : Ar w p a b d i r) (hc : Co d i r) (x : Int) (x0 : 0 ≤ x) (x5 : x ≤ 5) [c : Ch w W1] : Calls Try.prog 42 #[.agg #[.slice p.A0 d.length p.c0, .slice p.A1 i.length p.c1, .slice p.A2 r.length p.c2], .int .i64 x] W1 fun e w' => e = .returned (.int .i64 (i.getD x.toNat 0)) ∧ Below w.heap.size w w' := by
 obtain ⟨k, hk⟩ := (implIns_ev hc x0 x5).rounds
 have g := h.ch (W' := W1)
 exact (impl_InsCost.calls k p.A0 p.c0 d p.A1 p.c1 i p.A2 p.c2 r x _ W1 g.h0 g.k0 g.h1 g.k1 g.h2 g.k2 hk).mono fun e w' ⟨he, hb⟩ => ⟨he, below_step c.out hb⟩
theorem label_at {A : Option Addr} {n : Nat} {l : List NdI} (hr : Kd.C k53 w A n l) {x : Nat} (hx : x < n) (hn : l.length = n) : ∃ ad, A = some ad ∧ w.cell? (ad.add (x * 2)) = some (.int .i64 (lab l x)) := by
 obtain ⟨ad, h1, h2, _⟩ := at_T53 hr (x : Int) (by omega) (by omega)
 rw [rd_lab, Int.toNat_natCast] at h2
 exact ⟨ad, h1, h2⟩
end
theorem fdB_ok {a b : List NodeI} {x1 x2 x3 x4 : Int} {d i r : List Int} (h : 0 ≤ fdB a b x1 x2 x3 x4 d i r) : Tr a ∧ Tr b ∧ Co d i r ∧ ∃ s t k m : Nat, x1 = s ∧ x2 = t ∧ x3 = k ∧ x4 = m ∧ s ≤ t ∧ t ≤ a.length ∧ k ≤ m ∧ m ≤ b.length := by
 unfold fdB at h
 split at h
 ·rename_i hc
  obtain ⟨ho, h1, h2, h3, h4, h5, h6⟩ := hc
  obtain ⟨ta, tb, hco⟩ := okAB_iff.1 ho
  exact ⟨ta, tb, hco, x1.toNat, x2.toNat, x3.toNat, x4.toNat, by omega, by omega, by omega, by omega, by omega, by omega, by omega, by omega⟩
 ·omega
theorem fdB_eq {a b : List NodeI} {d i r : List Int} (ta : Tr a) (tb : Tr b) (hc : Co d i r) {s t k m : Nat} (h1 : s ≤ t) (h2 : t ≤ a.length) (h3 : k ≤ m) (h4 : m ≤ b.length) : fdB a b s t k m d i r = Ted.D (msOf a b d i r) s t k m := by
 unfold fdB
 rw [if_pos ⟨okAB_iff.2 ⟨ta, tb, hc⟩, by omega, by omega, by omega, by omega, by omega, by omega⟩]
 simp only [Int.toNat_natCast]
theorem fdB_neg {a b : List NodeI} {x1 x2 x3 x4 : Int} {d i r : List Int} (h : ¬ 0 ≤ fdB a b x1 x2 x3 x4 d i r) : fdB a b x1 x2 x3 x4 d i r < 0 := by omega
end Go.Proofs.Ytelglbebffdaaaa.X
