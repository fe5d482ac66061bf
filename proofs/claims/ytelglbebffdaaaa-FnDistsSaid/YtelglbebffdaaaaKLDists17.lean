/- Part 17 of the proof of FnDists: what it needs. -/
import Derived.Test.YtelglbebffdaaaaKLDists4
import Derived.Test.YtelglbebffdaaaaKLDists5
import Derived.Test.YtelglbebffdaaaaKLDists6
import Derived.Test.YtelglbebffdaaaaKLDists10
import Derived.Test.YtelglbebffdaaaaKLDists16
namespace Go.Proofs.Ytelglbebffdaaaa.X
open Go.RowKit Go.Proofs.YtelglbebffdaaaaW.PrintWords Go.Proofs.YtelglbebffdaaaaW.PrintLast Go.Proofs.YtelglbebffdaaaaW.PrintMore Go.Proofs.Ytelglbebffdaaaa.Q
set_option linter.unusedVariables false
set_option linter.unusedSimpArgs false
section
variable {w W1 : World} {p : Ad} {a b : List NdI} {d i r : List Int}
theorem fd_v (h : Ar w p a b d i r) (x1 x2 x3 x4 : Int) [c : Ch w W1] : Calls Try.prog 17 #[.slice p.Aa a.length p.ca, .int .i64 x1, .int .i64 x2, .slice p.Ab b.length p.cb, .int .i64 x3, .int .i64 x4, .agg #[.slice p.A0 d.length p.c0, .slice p.A1 i.length p.c1, .slice p.A2 r.length p.c2]] W1 fun e w' => e = .returned (.int .i64 (fdB a b x1 x2 x3 x4 d i r)) ∧ Below w.heap.size w w' := by
 obtain ⟨k, hk⟩ := (impl_ForestDist.ev a x1 x2 b x3 x4 d i r).rounds
 have g := h.ch (W' := W1)
 exact (impl_ForestDist.calls k p.Aa p.ca a x1 x2 p.Ab p.cb b x3 x4 p.A0 p.c0 d p.A1 p.c1 i p.A2 p.c2 r _ W1 g.ha g.ka g.hb g.kb g.h0 g.k0 g.h1 g.k1 g.h2 g.k2 hk).mono fun e w' ⟨he, hb⟩ => ⟨he, below_step c.out hb⟩
end
theorem fdB_eq {a b : List NodeI} {d i r : List Int} (ta : Tr a) (tb : Tr b) (hc : Co d i r) {s t k m : Nat} (h1 : s ≤ t) (h2 : t ≤ a.length) (h3 : k ≤ m) (h4 : m ≤ b.length) : fdB a b s t k m d i r = Ted.D (msOf a b d i r) s t k m := by
 unfold fdB
 rw [if_pos ⟨okAB_iff.2 ⟨ta, tb, hc⟩, by omega, by omega, by omega, by omega, by omega, by omega⟩]
 simp only [Int.toNat_natCast]
end Go.Proofs.Ytelglbebffdaaaa.X
