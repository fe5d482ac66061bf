/- Part 17 of the proof of FnBothWays: what it needs. -/
import Derived.Test.YtngphdmbjenkaaaKLBothWays10
import Derived.Test.YtngphdmbjenkaaaKLBothWays16
namespace Go.Proofs.Ytngphdmbjenkaaa.X
open Go.RowKit Go.Proofs.YtngphdmbjenkaaaW.PrintWords Go.Proofs.YtngphdmbjenkaaaW.PrintLast Go.Proofs.YtngphdmbjenkaaaW.PrintMore Go.Proofs.Ytngphdmbjenkaaa.Q
set_option linter.unusedVariables false
set_option linter.unusedSimpArgs false
variable {w W1 : World} {p : Ad} {a b : List NdI} {d i r : List Int}
theorem rootDist_v (h : Ar w p a b d i r) [c : Ch w W1] : Calls Try.prog 18 #[.slice p.Aa a.length p.ca,.slice p.Ab b.length p.cb,.agg #[.slice p.A0 d.length p.c0,.slice p.A1 i.length p.c1,.slice p.A2 r.length p.c2]] W1 fun e w' => e = .returned (.int .i64 (rdB a b d i r)) ∧ Below w.heap.size w w' := by
 obtain ⟨k,hk⟩ := (implRootDist_ev a b d i r).rounds
 have g := h.ch (W' := W1)
 exact (impl_RootDist.calls k p.Aa p.ca a p.Ab p.cb b p.A0 p.c0 d p.A1 p.c1 i p.A2 p.c2 r _ W1 g.ha g.ka g.hb g.kb g.h0 g.k0 g.h1 g.k1 g.h2 g.k2 hk).mono fun e w' ⟨he,hb⟩ => ⟨he,below_step c.out hb⟩
end Go.Proofs.Ytngphdmbjenkaaa.X
