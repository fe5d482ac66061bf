/- The plain law of FnExactRootsPaired. -/
import Derived.Test.YtlajjjcfgjpjoaaQPair
import Derived.Test.YtlajjjcfgjpjoaaXf5
namespace Go.Proofs.Ytlajjjcfgjpjoaa.Q
open Go.RowKit Go.Proofs.YtlajjjcfgjpjoaaW.PrintWords Go.Proofs.YtlajjjcfgjpjoaaW.PrintLast Go.Proofs.YtlajjjcfgjpjoaaW.PrintMore Go.Proofs.Ytlajjjcfgjpjoaa.X Go.Proofs.Ytlajjjcfgjpjoaa.Rd
theorem rootsPaired_some (x : List PairI) : ∃ b, spec_RootsPaired.f x = some b := by
  unfold spec_RootsPaired.f
  by_cases h : (x.length : Int) > 0
  · rw [if_pos h, if_pos (by omega)]; exact ⟨_, rfl⟩
  · rw [if_neg h]; exact ⟨_, rfl⟩
theorem FnExactRootsPaired (l : List PairL) (w : WF24 l) : ∃ k, laws_FnExactRootsPaired.f k l = some true := by
  refine Ev.rounds (g := fun k => laws_FnExactRootsPaired.f k l) ?_
  unfold laws_FnExactRootsPaired.f
  refine Ev.bindC (szPairS_eq l _ (by omega) (by omega) w.1) ?_
  by_cases h : (1048576 : Int) < l.length
  · rw [if_pos h]
    exact Ev.ifT (by omega) (Ev.now _)
  · rw [if_neg h]
    refine Ev.ifF (by omega) ?_
    have hl : l.length ≤ 1048576 := by omega
    have t := toPairS_ev l hl
    obtain ⟨b, hb⟩ := rootsPaired_some (l.map toPair)
    have hb' : impl_RootsPaired.f (l.map toPair) = some b := hb
    refine Ev.bind t (Ev.bindC hb (Ev.bind t (Ev.bindC hb' ?_)))
    refine Ev.ifF (by simp) (Ev.bind t (Ev.bind (eqPairS_ev _ (by simp; omega)) ?_))
    exact Ev.ifT rfl (Ev.now _)
end Go.Proofs.Ytlajjjcfgjpjoaa.Q
