/- Part 17 of the proof of FnScaled: what it needs. -/
import Derived.Test.YtngphdmbjenkaaaKLScaled6
import Derived.Test.YtngphdmbjenkaaaKLScaled10
import Derived.Test.YtngphdmbjenkaaaKLScaled11
import Derived.Test.YtngphdmbjenkaaaKLScaled16
namespace Go.Proofs.Ytngphdmbjenkaaa.X
open Go.RowKit Go.Proofs.YtngphdmbjenkaaaW.PrintWords Go.Proofs.YtngphdmbjenkaaaW.PrintLast Go.Proofs.YtngphdmbjenkaaaW.PrintMore Go.Proofs.Ytngphdmbjenkaaa.Q
set_option linter.unusedVariables false
set_option linter.unusedSimpArgs false
abbrev one6 : List Int := List.replicate 6 1
theorem unit_uco : UCo one6 one6 unitRel := by
 refine ⟨costB_iff.1 (by decide), fun x hx => ?_, fun x hx => ?_, fun x y hx hy => ?_⟩
 ·have : ∀ x, x < 6 → one6.getD x 0 = 1 := by decide
  exact this x hx
 ·have : ∀ x, x < 6 → one6.getD x 0 = 1 := by decide
  exact this x hx
 ·have : ∀ x, x < 6 → ∀ y, y < 6 → unitRel.getD (6 * x + y) 0 = if x = y then 0 else 1 := by decide
  exact this x hx y hy
theorem unit_low {a b : List NodeI} (ta : Tr a) (tb : Tr b) : (a.length : Int) - b.length ≤ rootDist a b one6 one6 unitRel ∧ (b.length : Int) - a.length ≤ rootDist a b one6 one6 unitRel ∧ rootDist a b one6 one6 unitRel ≤ (a.length : Int) + b.length - 1 := by
 have a1 := ta.len1
 have b1 := tb.len1
 have h := Ted.root_low (unit_ms ta tb unit_uco) (lfN_lam ta) (lfN_lam tb) (by omega) (by omega) (lfN_last ta) (lfN_last tb)
 have h2 := Ted.root_high (unit_ms ta tb unit_uco) (n := a.length) (m := b.length) (by omega) (by omega)
 exact ⟨h.1, h.2, h2⟩
theorem rdB_unit {a b : List NodeI} (ta : Tr a) (tb : Tr b) : rdB a b one6 one6 unitRel = rootDist a b one6 one6 unitRel := if_pos (okAB_iff.2 ⟨ta, tb, unit_uco.co⟩)
theorem rdB_no {a b : List NodeI} {d i r : List Int} (h : ¬ (trB a = true ∧ trB b = true)) : rdB a b d i r = -1 := by
 refine if_neg (fun hk => h ?_)
 obtain ⟨ta, tb, _⟩ := okAB_iff.1 hk
 exact ⟨(trB_iff _).2 ta, (trB_iff _).2 tb⟩
structure Us (w0 : World) (kx : Nat) (A0 : Option Addr) (c0 : Nat) (A1 : Option Addr) (c1 : Nat) (A2 : Option Addr) (c2 : Nat) (w : World) : Prop where
 bk : w.heap[kx]? = some (.cells #[.slice A0 6 c0, .slice A1 6 c1, .slice A2 36 c2] 27 (0, 0))
 h0 : Kd.C (Kd.int .i64) w A0 6 one6
 k0 : 6 ≤ c0
 h1 : Kd.C (Kd.int .i64) w A1 6 one6
 k1 : 6 ≤ c1
 h2 : Kd.C (Kd.int .i64) w A2 36 unitRel
 k2 : 36 ≤ c2
 bel : Below w0.heap.size w0 w
theorem Us.below {w0 w w' : World} {kx : Nat} {A0 A1 A2 : Option Addr} {c0 c1 c2 : Nat} (h : Us w0 kx A0 c0 A1 c1 A2 c2 w) (k : Below w.heap.size w w') : Us w0 kx A0 c0 A1 c1 A2 c2 w' :=
 ⟨blk_below h.bk k, Kd.C_below h.h0 k, h.k0, Kd.C_below h.h1 k, h.k1, Kd.C_below h.h2 k, h.k2, below_then h.bel h.bel.size k⟩
theorem Us.ar {w0 w : World} {kx : Nat} {A0 A1 A2 : Option Addr} {c0 c1 c2 : Nat} (h : Us w0 kx A0 c0 A1 c1 A2 c2 w) {Aa Ab : Option Addr} {ca cb : Nat} {a b : List NodeI} (ha : Kd.C k77 w Aa a.length a) (ka : a.length ≤ ca) (la : a.length ≤ 200) (hb : Kd.C k77 w Ab b.length b) (kb : b.length ≤ cb) (lb : b.length ≤ 200) :
  Ar w ⟨Aa, ca, Ab, cb, A0, c0, A1, c1, A2, c2⟩ a b one6 one6 unitRel := ⟨ha, ka, hb, kb, h.h0, h.k0, h.h1, h.k1, h.h2, h.k2, la, lb, by decide, by decide, by decide⟩
end Go.Proofs.Ytngphdmbjenkaaa.X
namespace Go.Proofs.Ytngphdmbjenkaaa.X
open Go.RowKit Go.Proofs.YtngphdmbjenkaaaW.PrintWords Go.Proofs.YtngphdmbjenkaaaW.PrintLast Go.Proofs.YtngphdmbjenkaaaW.PrintMore Go.Proofs.Ytngphdmbjenkaaa.Q
set_option linter.unusedVariables false
set_option linter.unusedSimpArgs false
structure K6 (wA : World) (kb1 kb2 g0 c0 g1 c1 g2 c2 h0 e0 h1 e1 h2 e2 : Nat) (D I R D' I' R' : List Int) (w : World) : Prop where
 bel : Below wA.heap.size wA w
 b1 : w.heap[kb1]? = some (.cells #[.slice (some ⟨g0, 0, none⟩) 6 c0, .slice (some ⟨g1, 0, none⟩) 6 c1, .slice (some ⟨g2, 0, none⟩) 36 c2] 27 (0, 0))
 b2 : w.heap[kb2]? = some (.cells #[.slice (some ⟨h0, 0, none⟩) 6 e0, .slice (some ⟨h1, 0, none⟩) 6 e1, .slice (some ⟨h2, 0, none⟩) 36 e2] 27 (0, 0))
 r0 : IX w wA.heap.size (.slice (some ⟨g0, 0, none⟩) 6 c0) D
 r1 : IX w wA.heap.size (.slice (some ⟨g1, 0, none⟩) 6 c1) I
 r2 : IX w wA.heap.size (.slice (some ⟨g2, 0, none⟩) 36 c2) R
 s0 : IX w wA.heap.size (.slice (some ⟨h0, 0, none⟩) 6 e0) D'
 s1 : IX w wA.heap.size (.slice (some ⟨h1, 0, none⟩) 6 e1) I'
 s2 : IX w wA.heap.size (.slice (some ⟨h2, 0, none⟩) 36 e2) R'
 nd : g0 ≠ g1 ∧ g0 ≠ g2 ∧ g0 ≠ h0 ∧ g0 ≠ h1 ∧ g0 ≠ h2 ∧ g1 ≠ g2 ∧ g1 ≠ h0 ∧ g1 ≠ h1 ∧ g1 ≠ h2 ∧ g2 ≠ h0 ∧ g2 ≠ h1 ∧ g2 ≠ h2 ∧ h0 ≠ h1 ∧ h0 ≠ h2 ∧ h1 ≠ h2
theorem IX.far {w w' : World} {base g n c b : Nat} {l : List Int} (h : IX w base (.slice (some ⟨g, 0, none⟩) n c) l) (hne : g ≠ b) (hg : w.grownBy w' (some b)) : IX w' base (.slice (some ⟨g, 0, none⟩) n c) l :=
 h.grown1 hg (by simp only [Value.ownBlock]; intro e; exact hne (Option.some.inj e))
section
variable {wA w w' : World} {kb1 kb2 g0 c0 g1 c1 g2 c2 h0 e0 h1 e1 h2 e2 : Nat} {D I R D' I' R' : List Int}
theorem K6.below (h : K6 wA kb1 kb2 g0 c0 g1 c1 g2 c2 h0 e0 h1 e1 h2 e2 D I R D' I' R' w) (k : Below w.heap.size w w') : K6 wA kb1 kb2 g0 c0 g1 c1 g2 c2 h0 e0 h1 e1 h2 e2 D I R D' I' R' w' :=
 ⟨below_then h.bel h.bel.size k, blk_below h.b1 k, blk_below h.b2 k, Kd.R_below h.r0 k, Kd.R_below h.r1 k, Kd.R_below h.r2 k, Kd.R_below h.s0 k, Kd.R_below h.s1 k, Kd.R_below h.s2 k, h.nd⟩
theorem K6.put0 (h : K6 wA kb1 kb2 g0 c0 g1 c1 g2 c2 h0 e0 h1 e1 h2 e2 D I R D' I' R' w) (j : Nat) (x : Int) : K6 wA kb1 kb2 g0 c0 g1 c1 g2 c2 h0 e0 h1 e1 h2 e2 (D.set j x) I R D' I' R' (w.setCell ⟨g0, j, none⟩ (.int .i64 x)) := by
 have k := Kd.R_putg h.r0 (j : Int) x
 rw [Int.toNat_natCast] at k
 obtain ⟨n1, n2, n3, n4, n5, n6, n7, n8, n9, n10, n11, n12, n13, n14, n15⟩ := h.nd
 exact ⟨pw_below_grown h.bel (some g0) h.bel.size k.2 (fun b hb => by cases hb; exact Kd.R_base h.r0 g0 rfl), far_set h.r0 rfl h.b1 (by decide), far_set h.r0 rfl h.b2 (by decide), k.1, h.r1.far (by omega) k.2, h.r2.far (by omega) k.2, h.s0.far (by omega) k.2, h.s1.far (by omega) k.2, h.s2.far (by omega) k.2, h.nd⟩
theorem K6.put1 (h : K6 wA kb1 kb2 g0 c0 g1 c1 g2 c2 h0 e0 h1 e1 h2 e2 D I R D' I' R' w) (j : Nat) (x : Int) : K6 wA kb1 kb2 g0 c0 g1 c1 g2 c2 h0 e0 h1 e1 h2 e2 D (I.set j x) R D' I' R' (w.setCell ⟨g1, j, none⟩ (.int .i64 x)) := by
 have k := Kd.R_putg h.r1 (j : Int) x
 rw [Int.toNat_natCast] at k
 obtain ⟨n1, n2, n3, n4, n5, n6, n7, n8, n9, n10, n11, n12, n13, n14, n15⟩ := h.nd
 exact ⟨pw_below_grown h.bel (some g1) h.bel.size k.2 (fun b hb => by cases hb; exact Kd.R_base h.r1 g1 rfl), far_set h.r1 rfl h.b1 (by decide), far_set h.r1 rfl h.b2 (by decide), h.r0.far (by omega) k.2, k.1, h.r2.far (by omega) k.2, h.s0.far (by omega) k.2, h.s1.far (by omega) k.2, h.s2.far (by omega) k.2, h.nd⟩
theorem K6.put2 (h : K6 wA kb1 kb2 g0 c0 g1 c1 g2 c2 h0 e0 h1 e1 h2 e2 D I R D' I' R' w) (j : Nat) (x : Int) : K6 wA kb1 kb2 g0 c0 g1 c1 g2 c2 h0 e0 h1 e1 h2 e2 D I (R.set j x) D' I' R' (w.setCell ⟨g2, j, none⟩ (.int .i64 x)) := by
 have k := Kd.R_putg h.r2 (j : Int) x
 rw [Int.toNat_natCast] at k
 obtain ⟨n1, n2, n3, n4, n5, n6, n7, n8, n9, n10, n11, n12, n13, n14, n15⟩ := h.nd
 exact ⟨pw_below_grown h.bel (some g2) h.bel.size k.2 (fun b hb => by cases hb; exact Kd.R_base h.r2 g2 rfl), far_set h.r2 rfl h.b1 (by decide), far_set h.r2 rfl h.b2 (by decide), h.r0.far (by omega) k.2, h.r1.far (by omega) k.2, k.1, h.s0.far (by omega) k.2, h.s1.far (by omega) k.2, h.s2.far (by omega) k.2, h.nd⟩
theorem K6.put3 (h : K6 wA kb1 kb2 g0 c0 g1 c1 g2 c2 h0 e0 h1 e1 h2 e2 D I R D' I' R' w) (j : Nat) (x : Int) : K6 wA kb1 kb2 g0 c0 g1 c1 g2 c2 h0 e0 h1 e1 h2 e2 D I R (D'.set j x) I' R' (w.setCell ⟨h0, j, none⟩ (.int .i64 x)) := by
 have k := Kd.R_putg h.s0 (j : Int) x
 rw [Int.toNat_natCast] at k
 obtain ⟨n1, n2, n3, n4, n5, n6, n7, n8, n9, n10, n11, n12, n13, n14, n15⟩ := h.nd
 exact ⟨pw_below_grown h.bel (some h0) h.bel.size k.2 (fun b hb => by cases hb; exact Kd.R_base h.s0 h0 rfl), far_set h.s0 rfl h.b1 (by decide), far_set h.s0 rfl h.b2 (by decide), h.r0.far (by omega) k.2, h.r1.far (by omega) k.2, h.r2.far (by omega) k.2, k.1, h.s1.far (by omega) k.2, h.s2.far (by omega) k.2, h.nd⟩
theorem K6.put4 (h : K6 wA kb1 kb2 g0 c0 g1 c1 g2 c2 h0 e0 h1 e1 h2 e2 D I R D' I' R' w) (j : Nat) (x : Int) : K6 wA kb1 kb2 g0 c0 g1 c1 g2 c2 h0 e0 h1 e1 h2 e2 D I R D' (I'.set j x) R' (w.setCell ⟨h1, j, none⟩ (.int .i64 x)) := by
 have k := Kd.R_putg h.s1 (j : Int) x
 rw [Int.toNat_natCast] at k
 obtain ⟨n1, n2, n3, n4, n5, n6, n7, n8, n9, n10, n11, n12, n13, n14, n15⟩ := h.nd
 exact ⟨pw_below_grown h.bel (some h1) h.bel.size k.2 (fun b hb => by cases hb; exact Kd.R_base h.s1 h1 rfl), far_set h.s1 rfl h.b1 (by decide), far_set h.s1 rfl h.b2 (by decide), h.r0.far (by omega) k.2, h.r1.far (by omega) k.2, h.r2.far (by omega) k.2, h.s0.far (by omega) k.2, k.1, h.s2.far (by omega) k.2, h.nd⟩
theorem K6.put5 (h : K6 wA kb1 kb2 g0 c0 g1 c1 g2 c2 h0 e0 h1 e1 h2 e2 D I R D' I' R' w) (j : Nat) (x : Int) : K6 wA kb1 kb2 g0 c0 g1 c1 g2 c2 h0 e0 h1 e1 h2 e2 D I R D' I' (R'.set j x) (w.setCell ⟨h2, j, none⟩ (.int .i64 x)) := by
 have k := Kd.R_putg h.s2 (j : Int) x
 rw [Int.toNat_natCast] at k
 obtain ⟨n1, n2, n3, n4, n5, n6, n7, n8, n9, n10, n11, n12, n13, n14, n15⟩ := h.nd
 exact ⟨pw_below_grown h.bel (some h2) h.bel.size k.2 (fun b hb => by cases hb; exact Kd.R_base h.s2 h2 rfl), far_set h.s2 rfl h.b1 (by decide), far_set h.s2 rfl h.b2 (by decide), h.r0.far (by omega) k.2, h.r1.far (by omega) k.2, h.r2.far (by omega) k.2, h.s0.far (by omega) k.2, h.s1.far (by omega) k.2, k.1, h.nd⟩
end
theorem IX.at_ {w : World} {base g n c : Nat} {l : List Int} (h : IX w base (.slice (some ⟨g, 0, none⟩) n c) l) {j : Nat} (hj : j < n) : w.cell? ⟨g, j, none⟩ = some (.int .i64 (l.getD j 0)) ∧ w.frozen? ⟨g, j, none⟩ = false := by
 have h1 := Kd.R_celln 0 h (j : Int) (by omega) (by omega)
 rw [Int.toNat_natCast] at h1
 exact ⟨h1.1, h1.2⟩
theorem k6_new {wA w1 w2 : World} {v0 v1 v2 u0 u1 u2 : Value} (c1 : C3 w1 wA.heap.size v0 v1 v2 one6 one6 unitRel) (b1 : Below wA.heap.size wA w1)
  (c2 : C3 w2 (w1.alloc (.cells #[v0, v1, v2] 27)).heap.size u0 u1 u2 one6 one6 unitRel) (b2 : Below (w1.alloc (.cells #[v0, v1, v2] 27)).heap.size (w1.alloc (.cells #[v0, v1, v2] 27)) w2) :
  ∃ g0 c0 g1 c1 g2 c2 h0 e0 h1 e1 h2 e2, v0 = .slice (some ⟨g0, 0, none⟩) 6 c0 ∧ v1 = .slice (some ⟨g1, 0, none⟩) 6 c1 ∧ v2 = .slice (some ⟨g2, 0, none⟩) 36 c2 ∧ u0 = .slice (some ⟨h0, 0, none⟩) 6 e0 ∧ u1 = .slice (some ⟨h1, 0, none⟩) 6 e1 ∧ u2 = .slice (some ⟨h2, 0, none⟩) 36 e2 ∧
   K6 wA w1.heap.size w2.heap.size g0 c0 g1 c1 g2 c2 h0 e0 h1 e1 h2 e2 one6 one6 unitRel one6 one6 unitRel (w2.alloc (.cells #[u0, u1, u2] 27)) := by
 have s1 : w1.heap.size < (w1.alloc (.cells #[v0, v1, v2] 27)).heap.size := blk_lt (blk_new w1 _)
 obtain ⟨g0, c0, rfl, _⟩ := c1.a.form (n := 6) rfl (by decide)
 obtain ⟨g1, c1', rfl, _⟩ := c1.b.form (n := 6) rfl (by decide)
 obtain ⟨g2, c2', rfl, _⟩ := c1.c.form (n := 36) (by decide) (by decide)
 obtain ⟨h0, e0, rfl, x0⟩ := c2.a.form (n := 6) rfl (by decide)
 obtain ⟨h1, e1, rfl, x1⟩ := c2.b.form (n := 6) rfl (by decide)
 obtain ⟨h2, e2, rfl, x2⟩ := c2.c.form (n := 36) (by decide) (by decide)
 have y0 := Kd.R_lt c1.a g0 rfl
 have y1 := Kd.R_lt c1.b g1 rfl
 have y2 := Kd.R_lt c1.c g2 rfl
 have p1 : g0 ≠ g1 := fun e => c1.ab g0 rfl (by rw [e]; rfl)
 have p2 : g0 ≠ g2 := fun e => c1.ac g0 rfl (by rw [e]; rfl)
 have p3 : g1 ≠ g2 := fun e => c1.bc g1 rfl (by rw [e]; rfl)
 have q1 : h0 ≠ h1 := fun e => c2.ab h0 rfl (by rw [e]; rfl)
 have q2 : h0 ≠ h2 := fun e => c2.ac h0 rfl (by rw [e]; rfl)
 have q3 : h1 ≠ h2 := fun e => c2.bc h1 rfl (by rw [e]; rfl)
 have a1 : Below w1.heap.size w1 (w1.alloc (.cells #[.slice (some ⟨g0, 0, none⟩) 6 c0, .slice (some ⟨g1, 0, none⟩) 6 c1', .slice (some ⟨g2, 0, none⟩) 36 c2'] 27)) := below_alloc (Below.refl _ _) _
 have a2 : Below w2.heap.size w2 (w2.alloc (.cells #[.slice (some ⟨h0, 0, none⟩) 6 e0, .slice (some ⟨h1, 0, none⟩) 6 e1, .slice (some ⟨h2, 0, none⟩) 36 e2] 27)) := below_alloc (Below.refl _ _) _
 have lo : wA.heap.size ≤ (w1.alloc (.cells #[.slice (some ⟨g0, 0, none⟩) 6 c0, .slice (some ⟨g1, 0, none⟩) 6 c1', .slice (some ⟨g2, 0, none⟩) 36 c2'] 27)).heap.size := by have := b1.size; omega
 exact ⟨g0, c0, g1, c1', g2, c2', h0, e0, h1, e1, h2, e2, rfl, rfl, rfl, rfl, rfl, rfl, below_step (below_step (below_step b1 a1) b2) a2, blk_below (blk_below (blk_new _ _) b2) a2, blk_new _ _,
  Kd.R_below (Kd.R_below (Kd.R_below c1.a a1) b2) a2, Kd.R_below (Kd.R_below (Kd.R_below c1.b a1) b2) a2, Kd.R_below (Kd.R_below (Kd.R_below c1.c a1) b2) a2, Kd.R_below (Kd.R_lower c2.a lo) a2, Kd.R_below (Kd.R_lower c2.b lo) a2, Kd.R_below (Kd.R_lower c2.c lo) a2,
  p1, p2, by omega, by omega, by omega, p3, by omega, by omega, by omega, by omega, by omega, by omega, q1, q2, q3⟩
end Go.Proofs.Ytngphdmbjenkaaa.X
namespace Go.Proofs.Ytngphdmbjenkaaa.X
open Go.RowKit Go.Proofs.YtngphdmbjenkaaaW.PrintWords Go.Proofs.YtngphdmbjenkaaaW.PrintLast Go.Proofs.YtngphdmbjenkaaaW.PrintMore Go.Proofs.Ytngphdmbjenkaaa.Q
set_option linter.unusedVariables false
set_option linter.unusedSimpArgs false
abbrev three6 : List Int := List.replicate 6 3
abbrev threeRel : List Int := unitRel.map fun x => 3 * x
abbrev zero6 : List Int := List.replicate 6 0
abbrev zero36 : List Int := List.replicate 36 0
theorem three_co : Co three6 three6 threeRel := costB_iff.1 (by decide)
theorem zero_co : Co zero6 zero6 zero36 := costB_iff.1 (by decide)
theorem msOf_three {a b : List NodeI} (ta : Tr a) (tb : Tr b) : msOf a b three6 three6 threeRel = Ted.triple (msOf a b one6 one6 unitRel) := by
  have h1 : ∀ x, x < 6 → three6.getD x 0 = 3 * one6.getD x 0 := by decide
  have h2 : ∀ x, x < 6 → ∀ y, y < 6 → threeRel.getD (6 * x + y) 0 = 3 * unitRel.getD (6 * x + y) 0 := by decide
  unfold msOf Ted.triple
  simp only [Ted.Ms.mk.injEq, true_and]
  exact ⟨funext fun x => h1 _ (lab_any ta x), funext fun y => h1 _ (lab_any tb y), funext fun x => funext fun y => h2 _ (lab_any ta x) _ (lab_any tb y)⟩
theorem rdB_three {a b : List NodeI} (ta : Tr a) (tb : Tr b) : rdB a b three6 three6 threeRel = 3 * rdB a b one6 one6 unitRel := by
  unfold rdB
  rw [if_pos (okAB_iff.2 ⟨ta, tb, three_co⟩), if_pos (okAB_iff.2 ⟨ta, tb, unit_uco.co⟩), msOf_three ta tb]
  unfold Ted.rootD
  rw [Ted.D_triple _ _ 0 (a.length - 1) 0 (b.length - 1) (Nat.le_refl _)]
  show 3 * _ + 3 * _ = _
  omega
theorem rdB_zero {a b : List NodeI} (ta : Tr a) (tb : Tr b) : rdB a b zero6 zero6 zero36 = 0 := by
  have h1 : ∀ x, x < 6 → zero6.getD x 0 = 0 := by decide
  have h2 : ∀ x, x < 6 → ∀ y, y < 6 → zero36.getD (6 * x + y) 0 = 0 := by decide
  unfold rdB
  rw [if_pos (okAB_iff.2 ⟨ta, tb, zero_co⟩)]
  unfold Ted.rootD
  rw [Ted.D_zero _ (fun x => h1 _ (lab_any ta x)) (fun y => h1 _ (lab_any tb y)) (fun x y => h2 _ (lab_any ta x) _ (lab_any tb y)) _ 0 (a.length - 1) 0 (b.length - 1) (Nat.le_refl _), Int.zero_add]
  exact h2 _ (lab_any ta _) _ (lab_any tb _)
theorem rdB_unit_ge {a b : List NodeI} (ta : Tr a) (tb : Tr b) : 0 ≤ rdB a b one6 one6 unitRel ∧ rdB a b one6 one6 unitRel ≤ 100 := by
  rw [rdB_unit ta tb]
  have h := unit_low ta tb
  have := ta.len24
  have := tb.len24
  omega
def rel3 (n : Nat) : List Int := (unitRel.take n).map (fun x => 3 * x) ++ unitRel.drop n
def rel0z (n : Nat) : List Int := List.replicate n 0 ++ unitRel.drop n
def del3 (n : Nat) : List Int := List.replicate n 3 ++ List.replicate (6 - n) 1
def del0 (n : Nat) : List Int := List.replicate n 0 ++ List.replicate (6 - n) 1
theorem rel3_step : ∀ n, n < 36 → (rel3 n).length = 36 ∧ (rel3 n).getD n 0 = unitRel.getD n 0 ∧ (rel3 n).set n (3 * unitRel.getD n 0) = rel3 (n + 1) ∧ (rel0z n).length = 36 ∧ (rel0z n).set n 0 = rel0z (n + 1) ∧ 0 ≤ unitRel.getD n 0 ∧ unitRel.getD n 0 ≤ 1 := by decide
theorem del3_step : ∀ n, n < 6 → (del3 n).length = 6 ∧ (del3 n).set n 3 = del3 (n + 1) ∧ (del0 n).length = 6 ∧ (del0 n).set n 0 = del0 (n + 1) := by decide
theorem rel3_ends : rel3 0 = unitRel ∧ rel0z 0 = unitRel ∧ rel3 36 = threeRel ∧ rel0z 36 = zero36 ∧ del3 0 = one6 ∧ del0 0 = one6 ∧ del3 6 = three6 ∧ del0 6 = zero6 := by decide
end Go.Proofs.Ytngphdmbjenkaaa.X
namespace Go.Proofs.Ytngphdmbjenkaaa.X
open Go.RowKit Go.Proofs.YtngphdmbjenkaaaW.PrintWords Go.Proofs.YtngphdmbjenkaaaW.PrintLast Go.Proofs.YtngphdmbjenkaaaW.PrintMore Go.Proofs.Ytngphdmbjenkaaa.Q
set_option linter.unusedVariables false
set_option linter.unusedSimpArgs false
variable {w W1 : World} {p : Ad} {a b : List NdI} {d i r : List Int}
theorem rootDist_v (h : Ar w p a b d i r) [c : Ch w W1] : Calls Try.prog 18 #[.slice p.Aa a.length p.ca, .slice p.Ab b.length p.cb, .agg #[.slice p.A0 d.length p.c0, .slice p.A1 i.length p.c1, .slice p.A2 r.length p.c2]] W1 fun e w' => e = .returned (.int .i64 (rdB a b d i r)) ∧ Below w.heap.size w w' := by
 obtain ⟨k, hk⟩ := (implRootDist_ev a b d i r).rounds
 have g := h.ch (W' := W1)
 exact (impl_RootDist.calls k p.Aa p.ca a p.Ab p.cb b p.A0 p.c0 d p.A1 p.c1 i p.A2 p.c2 r _ W1 g.ha g.ka g.hb g.kb g.h0 g.k0 g.h1 g.k1 g.h2 g.k2 hk).mono fun e w' ⟨he, hb⟩ => ⟨he, below_step c.out hb⟩
end Go.Proofs.Ytngphdmbjenkaaa.X
