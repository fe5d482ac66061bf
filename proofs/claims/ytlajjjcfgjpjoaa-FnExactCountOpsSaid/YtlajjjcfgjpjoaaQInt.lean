/- Plain lemmas on the laws' helpers for lists of whole numbers. No claim by itself. -/
import Derived.Test.YtlajjjcfgjpjoaaQBase
import Derived.Test.YtlajjjcfgjpjoaaXf94
import Derived.Test.YtlajjjcfgjpjoaaXf98
namespace Go.Proofs.Ytlajjjcfgjpjoaa.Q
open Go.RowKit Go.Proofs.YtlajjjcfgjpjoaaW.PrintWords Go.Proofs.YtlajjjcfgjpjoaaW.PrintLast Go.Proofs.YtlajjjcfgjpjoaaW.PrintMore Go.Proofs.Ytlajjjcfgjpjoaa.X Go.Proofs.Ytlajjjcfgjpjoaa.Rd
set_option linter.unusedVariables false
set_option linter.unusedSimpArgs false
theorem toIntS_ev (l : List Int) (hl : l.length ≤ 1048576) : Ev (fun k => laws_toIntS.f k l) l := by
  have h := mapLoop0 laws_toIntS.l0 (fun _ x => some x) (fun x => x) 0 0 (fun k x acc i => by simp only [laws_toIntS.l0, Option.bind_some, rd]) l (by omega) (fun x _ => Ev.now x)
  rw [List.map_id'] at h
  refine Ev.congr (fun k => ?_) h
  unfold laws_toIntS.f
  rw [if_pos (by omega), if_pos (by omega), Int.toNat_natCast]
theorem eqIntS_ev (l : List Int) (hl : l.length ≤ 9223372036854775807) : Ev (fun k => laws_eqIntS.f k l l) true := by
  have h := eqLoop laws_eqIntS.l0 (fun _ x y => some (decide (x = y))) 0 (fun k x y i => by
    simp only [laws_eqIntS.l0, Option.bind_some, rd]
    by_cases h : x.getD i.toNat 0 = y.getD i.toNat 0
    · simp only [h, decide_true, if_true]
    · simp only [h, decide_false, if_false, Bool.false_eq_true]) l hl (fun x _ => by simpa using Ev.now true) l.length 0 (by omega)
  refine Ev.congr (fun k => ?_) h
  unfold laws_eqIntS.f
  rw [if_pos rfl]; rfl
end Go.Proofs.Ytlajjjcfgjpjoaa.Q
