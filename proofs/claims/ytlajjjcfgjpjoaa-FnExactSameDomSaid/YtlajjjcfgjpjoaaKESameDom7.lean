/- The law FnExactSameDom holds: for all arguments it returns true, and each argument reads afterwards as before. No condition. -/
import Derived.Test.YtlajjjcfgjpjoaaRows
import Derived.WalkKit
import Derived.ProofKit
import Derived.OpenShut
import Derived.ShutString
import Derived.ChangeOld
import Derived.Below
import Derived.SizedLaws
import Derived.Test.YtlajjjcfgjpjoaaKESameDom5
import Derived.Test.YtlajjjcfgjpjoaaKESameDom6
namespace Go.Proofs.Ytlajjjcfgjpjoaa.fnExactSameDom
open Go.ChangeShapes Go.WideShapes Go.ChangeAt Go.RowKit
open Go.ChangeMaps (open_string shut_string)
open Go.Proofs.YtlajjjcfgjpjoaaW.PrintWords Go.Proofs.Ytlajjjcfgjpjoaa.Rd Go.Proofs.Ytlajjjcfgjpjoaa.X
set_option linter.unusedVariables false
set_option maxRecDepth 100000 in
theorem lifted (os : Os) (started : os.Started) (H : Type) (enc : TypeId × Value → H) :
    ReturnsInHanded {} Try.checked os 10 .any (Rows.fnExactSameDomSpec.pre6 enc Try.prog Try.f10 Rows.fnExactSameDomRow.domain false) (Rows.fnExactSameDomSpec.post enc Try.prog Try.f10 false true false false) := by
  refine returnsInHanded_of_change_sized (C := Try.checked) own started (by kernel_rfl) Try.func10
    (ChangeSpec.witness6 (enc := enc) (C := Try.checked) false ⟨#[], #[.agg #[.slice none 0 0], .agg #[.slice none 0 0]], []⟩ 8 (by kernel_rfl) (by kernel_rfl) (by kernel_rfl) (by kernel_rfl)) ?_
  intro W base args ds gs before hval0 hW hcnd hsz0 _
  have hval : ∀ (j : Nat) t v, Try.f10.params[j]? = some t → args[j]? = some v → Value.okWide Try.prog W .any base t v := hval0
  have hW' := hW
  obtain ⟨p, q, hA0, hV, rfl, hfz, hnd⟩ := hW
  have hA : DataW.TrodAll enc Try.prog W 0 (fun _ => true) true Try.f10.params.toList args.toList ds p := hA0
  rw [Try.params10] at hA hval
  obtain ⟨v0, vs0, d0, ds0, p0, q0, hargs, rfl, rfl, h0, r0⟩ := trodAll_cons hA
  obtain ⟨v1, vs1, d1, ds1, p1, q1, rfl, rfl, rfl, h1, r1⟩ := trodAll_cons r0
  obtain ⟨rfl, rfl, rfl⟩ := trodAll_nil r1
  obtain rfl : args = #[v0, v1] := by cases args; simp_all
  obtain ⟨rfl, rfl⟩ := trodVars_none hV
  have b0 := h0
  have lt0 : ∀ x ∈ p0, x.block < W.heap.size := by obtain ⟨m, hm⟩ := b0; exact DataW.trod_lt m _ _ _ hm
  obtain ⟨fuel0, hf0⟩ := h0
  obtain ⟨cs0, rfl, hsz0⟩ := okWide_struct Try.underlying52 (hval 0 52 v0 rfl rfl)
  obtain ⟨x0, hK0, w0⟩ := rdt52.reads hf0
  obtain ⟨A0_0, c0_0, hcs0, hc0_0, hr0_0⟩ := k52_open hK0
  have hcq0 : cs0 = #[.slice A0_0 x0.f0.length c0_0] := by
    obtain ⟨l⟩ := cs0
    have : l = _ := hcs0
    rw [this]
  subst hcq0
  have b1 := h1
  have lt1 : ∀ x ∈ p1, x.block < W.heap.size := by obtain ⟨m, hm⟩ := b1; exact DataW.trod_lt m _ _ _ hm
  obtain ⟨fuel1, hf1⟩ := h1
  obtain ⟨cs1, rfl, hsz1⟩ := okWide_struct Try.underlying52 (hval 1 52 v1 rfl rfl)
  obtain ⟨x1, hK1, w1⟩ := rdt52.reads hf1
  obtain ⟨A1_0, c1_0, hcs1, hc1_0, hr1_0⟩ := k52_open hK1
  have hcq1 : cs1 = #[.slice A1_0 x1.f0.length c1_0] := by
    obtain ⟨l⟩ := cs1
    have : l = _ := hcs1
    rw [this]
  subst hcq1
  obtain ⟨k, hk⟩ := Go.Proofs.Ytlajjjcfgjpjoaa.Q.FnExactSameDom x0 w0 x1 w1
  clear hA0 hval0 hsz0
  refine (laws_FnExactSameDom.calls k A0_0 c0_0 x0.f0 A1_0 c1_0 x1.f0 true W hr0_0 hc0_0 hr1_0 hc1_0 hk).mono fun e W' ⟨he, bel⟩ => ?_
  subst he
  exact ⟨_, rfl, _, _, _, [], _, [], hW', trodAll_mk1 (shut_bool Try.underlying4 _), (trodAll_cons_mk (Below.trod laidOut (by kernel_rfl) (of_decide_eq_true (by kernel_rfl)) b0 bel lt0) (trodAll_cons_mk (Below.trod laidOut (by kernel_rfl) (of_decide_eq_true (by kernel_rfl)) b1 bel lt1) trodAll_mk0)), rfl, bel.frame _, fun h => by cases h⟩
theorem over : Rows.fnExactSameDomRow.holds Try.pinned (OpenSpec.ofChange Rows.fnExactSameDomSpec) :=
  OpenClaim.holds_of_wide 10 Try.f10 rfl rfl rfl rfl rfl rfl rfl ⟨rfl, rfl, rfl, rfl, rfl⟩ rfl rfl rfl rfl rfl (by kernel_rfl) Try.func10 (by kernel_rfl)
    (of_decide_eq_true (by kernel_rfl)) (by unfold Func.isWrapper; first | (rw [if_pos (by decide +kernel)]; kernel_rfl) | (rw [if_neg (by decide +kernel)]; exact ⟨rfl, rfl⟩))
    (fun os started H enc _ => lifted os started H enc)
theorem proved : Rows.FnExactSameDomSaid := over
end Go.Proofs.Ytlajjjcfgjpjoaa.fnExactSameDom
namespace Go.Proofs.Ytlajjjcfgjpjoaa
theorem fnExactSameDom_holds : Rows.FnExactSameDomSaid := fnExactSameDom.proved
end Go.Proofs.Ytlajjjcfgjpjoaa
