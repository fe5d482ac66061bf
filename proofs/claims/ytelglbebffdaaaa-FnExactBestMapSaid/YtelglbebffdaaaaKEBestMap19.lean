/- The law FnExactBestMap holds: for all arguments it returns true, and each argument reads afterwards as before. No condition. -/
import Derived.Test.YtelglbebffdaaaaRows
import Derived.WalkKit
import Derived.ProofKit
import Derived.OpenShut
import Derived.ShutString
import Derived.ChangeOld
import Derived.Below
import Derived.SizedLaws
import Derived.Test.YtelglbebffdaaaaKEBestMap6
import Derived.Test.YtelglbebffdaaaaKEBestMap18
namespace Go.Proofs.Ytelglbebffdaaaa.fnExactBestMap
open Go.ChangeShapes Go.WideShapes Go.ChangeAt Go.RowKit
open Go.ChangeMaps (open_string shut_string)
open Go.Proofs.YtelglbebffdaaaaW.PrintWords Go.Proofs.Ytelglbebffdaaaa.Rd Go.Proofs.Ytelglbebffdaaaa.X
set_option linter.unusedVariables false
set_option maxRecDepth 100000 in
theorem lifted (os : Os) (started : os.Started) (H : Type) (enc : TypeId × Value → H) :
    ReturnsInHanded {} Try.checked os 8 .any (Rows.fnExactBestMapSpec.pre6 enc Try.prog Try.f8 Rows.fnExactBestMapRow.domain false) (Rows.fnExactBestMapSpec.post enc Try.prog Try.f8 false true false false):=by
  refine returnsInHanded_of_change_sized (C:=Try.checked) own started (by kernel_rfl) Try.func8
    (ChangeSpec.witness6 (enc:=enc) (C:=Try.checked) false ⟨#[],#[.slice none 0 0,.slice none 0 0,.agg #[.slice none 0 0,.slice none 0 0,.slice none 0 0]],[]⟩ 8 (by kernel_rfl) (by kernel_rfl) (by kernel_rfl) (by kernel_rfl)) ?_
  intro W base args ds gs before hval0 hW hcnd hsz0 _
  have hval : ∀ (j : Nat) t v,Try.f8.params[j]? = some t → args[j]? = some v → Value.okWide Try.prog W .any base t v:=hval0
  have hW':=hW
  obtain ⟨p,q,hA0,hV,rfl,hfz,hnd⟩:=hW
  have hA : DataW.TrodAll enc Try.prog W 0 (fun _ => true) true Try.f8.params.toList args.toList ds p:=hA0
  rw [Try.params8] at hA hval
  obtain ⟨v0,vs0,d0,ds0,p0,q0,hargs,rfl,rfl,h0,r0⟩:=trodAll_cons hA
  obtain ⟨v1,vs1,d1,ds1,p1,q1,rfl,rfl,rfl,h1,r1⟩:=trodAll_cons r0
  obtain ⟨v2,vs2,d2,ds2,p2,q2,rfl,rfl,rfl,h2,r2⟩:=trodAll_cons r1
  obtain ⟨rfl,rfl,rfl⟩:=trodAll_nil r2
  obtain rfl : args = #[v0,v1,v2]:=by cases args;simp_all
  obtain ⟨rfl,rfl⟩:=trodVars_none hV
  have b0:=h0
  have lt0 : ∀ x ∈ p0,x.block < W.heap.size:=by obtain ⟨m,hm⟩:=b0;exact DataW.trod_lt m _ _ _ hm
  obtain ⟨fuel0,hf0⟩:=h0
  obtain ⟨aa0,len0,cap0,rfl⟩:=okWide_slice Try.underlying22 (hval 0 22 v0 rfl rfl)
  obtain ⟨l0,⟨A0,c0,hcs0,hc0,hr0⟩,w0⟩:=rdt22.reads hf0
  obtain ⟨rfl,rfl,rfl⟩ : aa0 = A0 ∧ len0 = l0.length ∧ cap0 = c0:=by simpa [Value.cells] using hcs0
  have b1:=h1
  have lt1 : ∀ x ∈ p1,x.block < W.heap.size:=by obtain ⟨m,hm⟩:=b1;exact DataW.trod_lt m _ _ _ hm
  obtain ⟨fuel1,hf1⟩:=h1
  obtain ⟨aa1,len1,cap1,rfl⟩:=okWide_slice Try.underlying22 (hval 1 22 v1 rfl rfl)
  obtain ⟨l1,⟨A1,c1,hcs1,hc1,hr1⟩,w1⟩:=rdt22.reads hf1
  obtain ⟨rfl,rfl,rfl⟩ : aa1 = A1 ∧ len1 = l1.length ∧ cap1 = c1:=by simpa [Value.cells] using hcs1
  have b2:=h2
  have lt2 : ∀ x ∈ p2,x.block < W.heap.size:=by obtain ⟨m,hm⟩:=b2;exact DataW.trod_lt m _ _ _ hm
  obtain ⟨fuel2,hf2⟩:=h2
  obtain ⟨cs2,rfl,hsz2⟩:=okWide_struct Try.underlying25 (hval 2 25 v2 rfl rfl)
  obtain ⟨x2,hK2,w2⟩:=rdt25.reads hf2
  obtain ⟨A2_0,c2_0,A2_1,c2_1,A2_2,c2_2,hcs2,hc2_0,hr2_0,hc2_1,hr2_1,hc2_2,hr2_2⟩:=k25_open hK2
  have hcq2 : cs2 = #[.slice A2_0 x2.f0.length c2_0,.slice A2_1 x2.f1.length c2_1,.slice A2_2 x2.f2.length c2_2]:=by
    obtain ⟨l⟩:=cs2
    have : l = _:=hcs2
    rw [this]
  subst hcq2
  obtain ⟨k,hk⟩:=Go.Proofs.Ytelglbebffdaaaa.Q.FnExactBestMap l0 w0 l1 w1 x2 w2
  clear hA0 hval0 hsz0
  refine (laws_FnExactBestMap.calls k aa0 cap0 l0 aa1 cap1 l1 A2_0 c2_0 x2.f0 A2_1 c2_1 x2.f1 A2_2 c2_2 x2.f2 W hr0 hc0 hr1 hc1 hr2_0 hc2_0 hr2_1 hc2_1 hr2_2 hc2_2 hk).mono fun e W' ⟨he,bel⟩ => ?_
  subst he
  exact ⟨_,rfl,_,_,_,[],_,[],hW',trodAll_mk1 (shut_bool Try.underlying4 _),(trodAll_cons_mk (Below.trod laidOut (by kernel_rfl) (of_decide_eq_true (by kernel_rfl)) b0 bel lt0) (trodAll_cons_mk (Below.trod laidOut (by kernel_rfl) (of_decide_eq_true (by kernel_rfl)) b1 bel lt1) (trodAll_cons_mk (Below.trod laidOut (by kernel_rfl) (of_decide_eq_true (by kernel_rfl)) b2 bel lt2) trodAll_mk0))),rfl,bel.frame _,fun h => by cases h⟩
theorem over : Rows.fnExactBestMapRow.holds Try.pinned (OpenSpec.ofChange Rows.fnExactBestMapSpec) :=
  OpenClaim.holds_of_wide 8 Try.f8 rfl rfl rfl rfl rfl rfl rfl ⟨rfl,rfl,rfl,rfl,rfl⟩ rfl rfl rfl rfl rfl (by kernel_rfl) Try.func8 (by kernel_rfl)
    (of_decide_eq_true (by kernel_rfl)) (by unfold Func.isWrapper;first | (rw [if_pos (by decide +kernel)];kernel_rfl) | (rw [if_neg (by decide +kernel)];exact ⟨rfl,rfl⟩))
    (fun os started H enc _ => lifted os started H enc)
theorem proved : Rows.FnExactBestMapSaid:=over
end Go.Proofs.Ytelglbebffdaaaa.fnExactBestMap
namespace Go.Proofs.Ytelglbebffdaaaa
theorem fnExactBestMap_holds : Rows.FnExactBestMapSaid:=fnExactBestMap.proved
end Go.Proofs.Ytelglbebffdaaaa
