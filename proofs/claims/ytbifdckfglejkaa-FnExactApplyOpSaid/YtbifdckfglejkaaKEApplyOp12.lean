/- The law FnExactApplyOp holds: for all arguments it returns true, and each argument reads afterwards as before. No condition. -/
import Derived.Test.YtbifdckfglejkaaRows
import Derived.WalkKit
import Derived.ProofKit
import Derived.OpenShut
import Derived.ShutString
import Derived.ChangeOld
import Derived.Below
import Derived.SizedLaws
import Derived.Test.YtbifdckfglejkaaKEApplyOp6
import Derived.Test.YtbifdckfglejkaaKEApplyOp10
import Derived.Test.YtbifdckfglejkaaKEApplyOp11
namespace Go.Proofs.Ytbifdckfglejkaa.fnExactApplyOp
open Go.ChangeShapes Go.WideShapes Go.ChangeAt Go.RowKit
open Go.ChangeMaps (open_string shut_string)
open Go.Proofs.YtbifdckfglejkaaW.PrintWords Go.Proofs.Ytbifdckfglejkaa.Rd Go.Proofs.Ytbifdckfglejkaa.X
set_option linter.unusedVariables false
set_option maxRecDepth 100000 in
theorem lifted (os : Os) (started : os.Started) (H : Type) (enc : TypeId × Value → H) :
    ReturnsInHanded {} Try.checked os 9 .any (Rows.fnExactApplyOpSpec.pre6 enc Try.prog Try.f9 Rows.fnExactApplyOpRow.domain false) (Rows.fnExactApplyOpSpec.post enc Try.prog Try.f9 false true false false) := by
  refine returnsInHanded_of_change_sized (C := Try.checked) own started (by kernel_rfl) Try.func9
    (ChangeSpec.witness6 (enc := enc) (C := Try.checked) false ⟨#[], #[.slice none 0 0, .agg #[.int .i64 0, .slice none 0 0, .int .i64 0, .int .i64 0, .int .i64 0]], []⟩ 8 (by kernel_rfl) (by kernel_rfl) (by kernel_rfl) (by kernel_rfl)) ?_
  intro W base args ds gs before hval0 hW hcnd hsz0 _
  have hval : ∀ (j : Nat) t v, Try.f9.params[j]? = some t → args[j]? = some v → Value.okWide Try.prog W .any base t v := hval0
  have hW' := hW
  obtain ⟨p, q, hA0, hV, rfl, hfz, hnd⟩ := hW
  have hA : DataW.TrodAll enc Try.prog W 0 (fun _ => true) true Try.f9.params.toList args.toList ds p := hA0
  rw [Try.params9] at hA hval
  obtain ⟨v0, vs0, d0, ds0, p0, q0, hargs, rfl, rfl, h0, r0⟩ := trodAll_cons hA
  obtain ⟨v1, vs1, d1, ds1, p1, q1, rfl, rfl, rfl, h1, r1⟩ := trodAll_cons r0
  obtain ⟨rfl, rfl, rfl⟩ := trodAll_nil r1
  obtain rfl : args = #[v0, v1] := by cases args; simp_all
  obtain ⟨rfl, rfl⟩ := trodVars_none hV
  have b0 := h0
  have lt0 : ∀ x ∈ p0, x.block < W.heap.size := by obtain ⟨m, hm⟩ := b0; exact DataW.trod_lt m _ _ _ hm
  obtain ⟨fuel0, hf0⟩ := h0
  obtain ⟨aa0, len0, cap0, rfl⟩ := okWide_slice Try.underlying44 (hval 0 44 v0 rfl rfl)
  obtain ⟨l0, ⟨A0, c0, hcs0, hc0, hr0⟩, w0⟩ := rdt44.reads hf0
  obtain ⟨rfl, rfl, rfl⟩ : aa0 = A0 ∧ len0 = l0.length ∧ cap0 = c0 := by simpa [Value.cells] using hcs0
  have b1 := h1
  have lt1 : ∀ x ∈ p1, x.block < W.heap.size := by obtain ⟨m, hm⟩ := b1; exact DataW.trod_lt m _ _ _ hm
  obtain ⟨fuel1, hf1⟩ := h1
  obtain ⟨cs1, rfl, hsz1⟩ := okWide_struct Try.underlying63 (hval 1 63 v1 rfl rfl)
  obtain ⟨x1, hK1, w1⟩ := rdt63.reads hf1
  obtain ⟨A1_1, c1_1, hcs1, hc1_1, hr1_1⟩ := k63_open hK1
  have hcq1 : cs1 = #[.int .i64 x1.f0, .slice A1_1 x1.f1.length c1_1, .int .i64 x1.f2, .int .i64 x1.f3, .int .i64 x1.f4] := by
    obtain ⟨l⟩ := cs1
    have : l = _ := hcs1
    rw [this]
  subst hcq1
  obtain ⟨k, hk⟩ := Go.Proofs.Ytbifdckfglejkaa.Q.FnExactApplyOp l0 w0 x1 w1
  clear hA0 hval0 hsz0
  refine (laws_FnExactApplyOp.calls k aa0 cap0 l0 x1.f0 A1_1 c1_1 x1.f1 x1.f2 x1.f3 x1.f4 W hr0 hc0 hr1_1 hc1_1 hk).mono fun e W' ⟨he, bel⟩ => ?_
  subst he
  exact ⟨_, rfl, _, _, _, [], _, [], hW', trodAll_mk1 (shut_bool Try.underlying4 _), (trodAll_cons_mk (Below.trod laidOut (by kernel_rfl) (of_decide_eq_true (by kernel_rfl)) b0 bel lt0) (trodAll_cons_mk (Below.trod laidOut (by kernel_rfl) (of_decide_eq_true (by kernel_rfl)) b1 bel lt1) trodAll_mk0)), rfl, bel.frame _, fun h => by cases h⟩
theorem over : Rows.fnExactApplyOpRow.holds Try.pinned (OpenSpec.ofChange Rows.fnExactApplyOpSpec) :=
  OpenClaim.holds_of_wide 9 Try.f9 rfl rfl rfl rfl rfl rfl rfl ⟨rfl, rfl, rfl, rfl, rfl⟩ rfl rfl rfl rfl rfl (by kernel_rfl) Try.func9 (by kernel_rfl)
    (of_decide_eq_true (by kernel_rfl)) (by unfold Func.isWrapper; first | (rw [if_pos (by decide +kernel)]; kernel_rfl) | (rw [if_neg (by decide +kernel)]; exact ⟨rfl, rfl⟩))
    (fun os started H enc _ => lifted os started H enc)
theorem proved : Rows.FnExactApplyOpSaid := over
end Go.Proofs.Ytbifdckfglejkaa.fnExactApplyOp
namespace Go.Proofs.Ytbifdckfglejkaa
theorem fnExactApplyOp_holds : Rows.FnExactApplyOpSaid := fnExactApplyOp.proved
end Go.Proofs.Ytbifdckfglejkaa
