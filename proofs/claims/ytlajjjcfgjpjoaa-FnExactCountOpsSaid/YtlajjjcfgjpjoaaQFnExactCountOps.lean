/- The plain law of FnExactCountOps. -/
import Derived.Test.YtlajjjcfgjpjoaaQOp
import Derived.Test.YtlajjjcfgjpjoaaXf11
namespace Go.Proofs.Ytlajjjcfgjpjoaa.Q
open Go.RowKit Go.Proofs.YtlajjjcfgjpjoaaW.PrintWords Go.Proofs.YtlajjjcfgjpjoaaW.PrintLast Go.Proofs.YtlajjjcfgjpjoaaW.PrintMore Go.Proofs.Ytlajjjcfgjpjoaa.X Go.Proofs.Ytlajjjcfgjpjoaa.Rd
set_option linter.unusedVariables false
set_option linter.unusedSimpArgs false
theorem countOps_same (l : List OpI) (a : Int) (k : Nat) : ∀ (c i : Int), impl_CountOps.l0 k a c l l.length i = spec_CountOps.l0 k l a c i := by
  induction k with
  | zero => intro c i; simp only [impl_CountOps.l0, spec_CountOps.l0]
  | succ k ih =>
    intro c i
    simp only [impl_CountOps.l0, spec_CountOps.l0, ih]
    by_cases h : i < (l.length : Int)
    · simp only [if_pos h]
    · simp only [if_neg h]
theorem specCountOps_ev (l : List OpI) (hl : l.length ≤ 1048576) (a : Int) : ∃ r, Ev (fun k => spec_CountOps.f k l a) r := by
  have h := upLoop (fun k s i => spec_CountOps.l0 k l a s i) l.length (fun _ _ => True) (fun i s hi _ => .inr (by
    by_cases c : l[i].f0 = a
    · refine ⟨wrap64 (s + 1), trivial, fun r hr => Ev.step (fun k => ?_) hr⟩
      simp only [spec_CountOps.l0]
      rw [if_pos (by omega), if_pos (by omega), wrap_succ hi (by omega)]
      simp only [rd_T71, Int.toNat_natCast, getD_lt l _ hi]
      rw [if_pos c]
    · refine ⟨s, trivial, fun r hr => Ev.step (fun k => ?_) hr⟩
      simp only [spec_CountOps.l0]
      rw [if_pos (by omega), if_pos (by omega), wrap_succ hi (by omega)]
      simp only [rd_T71, Int.toNat_natCast, getD_lt l _ hi]
      rw [if_neg c])) (fun s _ => ⟨s, Ev.step (f := fun _ => some s) (fun k => by simp only [spec_CountOps.l0]; rw [if_neg (by omega)]) (Ev.now _)⟩) l.length 0 0 (by omega) trivial
  exact h
theorem FnExactCountOps (l : List OpL) (w : WF60 l) (a : Int) (_ : (Lit.int .i64 a).wf = true) : ∃ k, laws_FnExactCountOps.f k l a = some true := by
  refine Ev.rounds (g := fun k => laws_FnExactCountOps.f k l a) ?_
  unfold laws_FnExactCountOps.f
  obtain ⟨r, hr, hp⟩ := szOpS_ev l 1048576 (by omega) (by omega) w.1 (fun x hx => (w.2 x hx).2.1.1)
  refine Ev.bind hr ?_
  rcases hp with rfl | ⟨p0, p1, p2⟩
  · exact Ev.ifT (by omega) (Ev.now _)
  · refine Ev.ifF (by omega) ?_
    have t := toOpS_ev l (by omega) p2
    have hm := toOp_mem l p2
    obtain ⟨c, s⟩ := specCountOps_ev (l.map toOp) (by simp; omega) a
    have i : Ev (fun k => impl_CountOps.f k (l.map toOp) a) c := Ev.congr (fun k => countOps_same _ _ k 0 0) s
    refine Ev.bind t (Ev.bind s (Ev.bind t (Ev.bind i (Ev.ifT rfl (Ev.bind t (Ev.bind (eqOpS_ev _ (by simp; omega) (fun x hx => by have := hm x hx; omega)) (Ev.ifT rfl (Ev.now _))))))))
end Go.Proofs.Ytlajjjcfgjpjoaa.Q
