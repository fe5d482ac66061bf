/- Readers for the types of the laws' parameters. No claim by itself. -/
import Derived.Test.YtlajjjcfgjpjoaaRd
namespace Go.Proofs.Ytlajjjcfgjpjoaa.Rd
open Go.ChangeShapes Go.WideShapes Go.ChangeAt Go.RowKit Go.Proofs.YtlajjjcfgjpjoaaW.PrintWords Go.Proofs.Ytlajjjcfgjpjoaa.X
theorem rdt3 : Rd Try.prog 3 (Kd.int .i64) (fun n => (Lit.int .i64 n).wf = true) := rd_int Try.underlying3 (by kernel_rfl)
def WF87 (x : S87) : Prop := (Lit.int .i64 x.f0).wf = true ∧ (Lit.int .i64 x.f1).wf = true
theorem rdt87 : Rd Try.prog 87 k87 WF87 := rd_struct (fun x : S87 => (x.f0, x.f1)) Try.underlying87 (by kernel_rfl) (fun y => ⟨⟨y.1, y.2⟩, rfl⟩) (rdf_cons rfl rdt3 (rdf_one rfl rdt3))
def WF24 (xs : (List S87)) : Prop := xs.length ≤ 9223372036854775807 ∧ ∀ x ∈ xs, WF87 x
instance : Inhabited S87 := ⟨z87⟩
theorem rdt24 : Rd Try.prog 24 (Kd.slice 87 k87) WF24 := rd_slice Try.underlying24 (by kernel_rfl) rdt87
theorem rdt4 : Rd Try.prog 4 Kd.bool (fun _ => True) := rd_bool Try.underlying4 (by kernel_rfl)
def WF133 (x : S133) : Prop := True ∧ (Lit.int .i64 x.f1).wf = true ∧ (Lit.int .i64 x.f2).wf = true ∧ (Lit.int .i64 x.f3).wf = true ∧ (Lit.int .i64 x.f4).wf = true ∧ (Lit.int .i64 x.f5).wf = true ∧ (Lit.int .i64 x.f6).wf = true
theorem rdt133 : Rd Try.prog 133 k133 WF133 := rd_struct (fun x : S133 => (x.f0, x.f1, x.f2, x.f3, x.f4, x.f5, x.f6)) Try.underlying133 (by kernel_rfl) (fun y => ⟨⟨y.1, y.2.1, y.2.2.1, y.2.2.2.1, y.2.2.2.2.1, y.2.2.2.2.2.1, y.2.2.2.2.2.2⟩, rfl⟩) (rdf_cons rfl rdt4 (rdf_cons rfl rdt3 (rdf_cons rfl rdt3 (rdf_cons rfl rdt3 (rdf_cons rfl rdt3 (rdf_cons rfl rdt3 (rdf_one rfl rdt3)))))))
def WF50 (xs : (List S133)) : Prop := xs.length ≤ 9223372036854775807 ∧ ∀ x ∈ xs, WF133 x
instance : Inhabited S133 := ⟨z133⟩
theorem rdt50 : Rd Try.prog 50 (Kd.slice 133 k133) WF50 := rd_slice Try.underlying50 (by kernel_rfl) rdt133
structure S52 where
  f0 : (List S133)
def k52 : Kd S52 := Kd.iso (Kd.slice 133 k133) (fun x : S52 => x.f0)
theorem k52_open {w : World} {x : S52} {cs : List Value} (h : k52.K w x cs) : ∃ A0 c0, cs = [.slice A0 x.f0.length c0] ∧ x.f0.length ≤ c0 ∧ Kd.C k133 w A0 x.f0.length x.f0 := by
  obtain ⟨A0, c0, rfl, l0, g0⟩ := h
  exact ⟨A0, c0, rfl, l0, g0⟩
def WF52 (x : S52) : Prop := WF50 x.f0
theorem rdt52 : Rd Try.prog 52 k52 WF52 := rd_struct (fun x : S52 => x.f0) Try.underlying52 (by kernel_rfl) (fun y => ⟨⟨y⟩, rfl⟩) (rdf_one rfl rdt50)
def WF37 (xs : (List Int)) : Prop := xs.length ≤ 9223372036854775807 ∧ ∀ x ∈ xs, (Lit.int .i64 x).wf = true
theorem rdt37 : Rd Try.prog 37 (Kd.slice 3 (Kd.int .i64)) WF37 := rd_slice Try.underlying37 (by kernel_rfl) rdt3
def WF68 (x : S68) : Prop := (Lit.int .i64 x.f0).wf = true ∧ WF37 x.f1 ∧ (Lit.int .i64 x.f2).wf = true ∧ (Lit.int .i64 x.f3).wf = true ∧ (Lit.int .i64 x.f4).wf = true
theorem rdt68 : Rd Try.prog 68 k68 WF68 := rd_struct (fun x : S68 => (x.f0, x.f1, x.f2, x.f3, x.f4)) Try.underlying68 (by kernel_rfl) (fun y => ⟨⟨y.1, y.2.1, y.2.2.1, y.2.2.2.1, y.2.2.2.2⟩, rfl⟩) (rdf_cons rfl rdt3 (rdf_cons rfl rdt37 (rdf_cons rfl rdt3 (rdf_cons rfl rdt3 (rdf_one rfl rdt3)))))
def WF60 (xs : (List S68)) : Prop := xs.length ≤ 9223372036854775807 ∧ ∀ x ∈ xs, WF68 x
instance : Inhabited S68 := ⟨z68⟩
theorem rdt60 : Rd Try.prog 60 (Kd.slice 68 k68) WF60 := rd_slice Try.underlying60 (by kernel_rfl) rdt68
end Go.Proofs.Ytlajjjcfgjpjoaa.Rd
