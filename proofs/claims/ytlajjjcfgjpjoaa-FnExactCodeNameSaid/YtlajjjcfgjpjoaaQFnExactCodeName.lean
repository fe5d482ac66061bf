/- The plain law of FnExactCodeName. -/
import Derived.Test.YtlajjjcfgjpjoaaQBase
import Derived.Test.YtlajjjcfgjpjoaaXf3
namespace Go.Proofs.Ytlajjjcfgjpjoaa.Q
open Go.RowKit Go.Proofs.YtlajjjcfgjpjoaaW.PrintWords Go.Proofs.YtlajjjcfgjpjoaaW.PrintLast Go.Proofs.YtlajjjcfgjpjoaaW.PrintMore Go.Proofs.Ytlajjjcfgjpjoaa.X Go.Proofs.Ytlajjjcfgjpjoaa.Rd
set_option linter.unusedVariables false
theorem codeName_same (a : Int) : spec_CodeName.f a = impl_CodeName.f a := by
  unfold impl_CodeName.f
  by_cases c : 0 ≤ a ∧ a ≤ 7
  · have c8 : a = 0 ∨ a = 1 ∨ a = 2 ∨ a = 3 ∨ a = 4 ∨ a = 5 ∨ a = 6 ∨ a = 7 := by omega
    rcases c8 with rfl | rfl | rfl | rfl | rfl | rfl | rfl | rfl <;> rfl
  · rw [if_neg c]
    have e : spec_l1In.f a 0 7 = some false := by
      unfold spec_l1In.f
      by_cases c1 : a ≥ 0
      · rw [if_pos c1]; simp; omega
      · rw [if_neg c1]
    unfold spec_CodeName.f
    rw [e]; rfl
theorem FnExactCodeName (a : Int) (w : (Lit.int .i64 a).wf = true) : laws_FnExactCodeName.f a = some true := by
  unfold laws_FnExactCodeName.f
  rw [codeName_same]
  unfold impl_CodeName.f
  by_cases c : 0 ≤ a ∧ a ≤ 7
  · simp [c]
  · simp [c]
end Go.Proofs.Ytlajjjcfgjpjoaa.Q
