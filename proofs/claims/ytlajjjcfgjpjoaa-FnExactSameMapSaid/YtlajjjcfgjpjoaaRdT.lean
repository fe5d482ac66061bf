/- Readers for the types of the laws' parameters. No claim by itself. -/
import Derived.Test.YtlajjjcfgjpjoaaRd
namespace Go.Proofs.Ytlajjjcfgjpjoaa.Rd
open Go.ChangeShapes Go.WideShapes Go.ChangeAt Go.RowKit Go.Proofs.YtlajjjcfgjpjoaaW.PrintWords Go.Proofs.Ytlajjjcfgjpjoaa.X
theorem rdt3 : Rd Try.prog 3 (Kd.int .i64) (fun n => (Lit.int .i64 n).wf = true) := rd_int Try.underlying3 (by kernel_rfl)
def WF87 (x : S87) : Prop := (Lit.int .i64 x.f0).wf = true ∧ (Lit.int .i64 x.f1).wf = true
theorem rdt87 : Rd Try.prog 87 k87 WF87 := rd_struct (fun x : S87 => (x.f0, x.f1)) Try.underlying87 (by kernel_rfl) (fun y => ⟨⟨y.1, y.2⟩, rfl⟩) (rdf_cons rfl rdt3 (rdf_one rfl rdt3))
def WF24 (xs : (List S87)) : Prop := xs.length ≤ 9223372036854775807 ∧ ∀ x ∈ xs, WF87 x
instance : Inhabited S87 := ⟨z87⟩
theorem rdt24 : Rd Try.prog 24 (Kd.slice 87 k87) WF24 := rd_slice Try.underlying24 (by kernel_rfl) rdt87
end Go.Proofs.Ytlajjjcfgjpjoaa.Rd
