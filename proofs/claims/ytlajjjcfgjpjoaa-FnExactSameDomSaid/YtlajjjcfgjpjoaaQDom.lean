/- Plain lemmas on the laws' helpers for linked trees. No claim by itself. -/
import Derived.Test.YtlajjjcfgjpjoaaQBase
import Derived.Test.YtlajjjcfgjpjoaaXf42
import Derived.Test.YtlajjjcfgjpjoaaXf44
import Derived.Test.YtlajjjcfgjpjoaaXf46
namespace Go.Proofs.Ytlajjjcfgjpjoaa.Q
open Go.RowKit Go.Proofs.YtlajjjcfgjpjoaaW.PrintWords Go.Proofs.YtlajjjcfgjpjoaaW.PrintLast Go.Proofs.YtlajjjcfgjpjoaaW.PrintMore Go.Proofs.Ytlajjjcfgjpjoaa.X Go.Proofs.Ytlajjjcfgjpjoaa.Rd
set_option linter.unusedVariables false
set_option linter.unusedSimpArgs false
abbrev DomNL := S133
abbrev DomNI := S103
abbrev DomL := S52
def toDomNode (x : DomNL) : DomNI := ⟨x.f0, x.f1, x.f2, x.f3, x.f4, x.f5, x.f6⟩
theorem szDom_eq (l : List DomNL) (a : Int) (ha : 0 ≤ a) (ha' : a ≤ 1048576) (hl : l.length ≤ 9223372036854775807) :
    laws_szDom.f l a = some (if a < l.length then -1 else a - l.length) := by
  unfold laws_szDom.f laws_szDomNodeS.f
  rw [wrap_id (by omega) (by omega)]
  by_cases h : a < l.length
  · rw [if_pos (by omega), if_pos h, Option.bind_some, if_pos (by omega)]
  · rw [if_neg (by omega), if_neg h, Option.bind_some, if_neg (by omega)]
theorem toDom_ev (l : List DomNL) (hl : l.length ≤ 1048576) : Ev (fun k => laws_toDom.f k l) (l.map toDomNode) := by
  have h := mapLoop0 laws_toDomNodeS.l0 (fun _ x => some (toDomNode x)) toDomNode z133 z103
    (fun k x acc i => by simp only [laws_toDomNodeS.l0, laws_toDomNode.f, Option.bind_some, rd_T133, toDomNode]) l (by omega) (fun x _ => Ev.now _)
  unfold laws_toDom.f
  refine Ev.bind (Ev.congr (fun k => ?_) h) (Ev.now _)
  unfold laws_toDomNodeS.f
  rw [if_pos (by omega), if_pos (by omega), Int.toNat_natCast]
theorem eqDomNode_some (x : DomNI) : laws_eqDomNode.f x.f0 x.f1 x.f2 x.f3 x.f4 x.f5 x.f6 x.f0 x.f1 x.f2 x.f3 x.f4 x.f5 x.f6 = some true := by
  unfold laws_eqDomNode.f
  simp
theorem eqDom_ev (l : List DomNI) (hl : l.length ≤ 9223372036854775807) : Ev (fun k => laws_eqDom.f k l l) true := by
  have h := eqLoop laws_eqDomNodeS.l0 (fun _ x y => laws_eqDomNode.f x.f0 x.f1 x.f2 x.f3 x.f4 x.f5 x.f6 y.f0 y.f1 y.f2 y.f3 y.f4 y.f5 y.f6) z103 (fun k x y i => by simp only [laws_eqDomNodeS.l0, rd_T103]) l hl
    (fun x _ => Ev.constOf (eqDomNode_some x)) l.length 0 (by omega)
  unfold laws_eqDom.f
  refine Ev.bind (a := true) (Ev.congr (fun k => ?_) h) (Ev.ifT rfl (Ev.now _))
  unfold laws_eqDomNodeS.f
  rw [if_pos rfl]; rfl
end Go.Proofs.Ytlajjjcfgjpjoaa.Q
