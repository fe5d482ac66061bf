/- The plain law of FnExactSameDom. -/
import Derived.Test.YtlajjjcfgjpjoaaQDom
import Derived.Test.YtlajjjcfgjpjoaaXf10
namespace Go.Proofs.Ytlajjjcfgjpjoaa.Q
open Go.RowKit Go.Proofs.YtlajjjcfgjpjoaaW.PrintWords Go.Proofs.YtlajjjcfgjpjoaaW.PrintLast Go.Proofs.YtlajjjcfgjpjoaaW.PrintMore Go.Proofs.Ytlajjjcfgjpjoaa.X Go.Proofs.Ytlajjjcfgjpjoaa.Rd
set_option linter.unusedVariables false
set_option linter.unusedSimpArgs false
theorem sameDom_same (a b : List DomNI) (hl : (a.length : Int) = b.length) (k : Nat) : ∀ (i : Int), impl_DomNode.l0 k a b a.length i = spec_SameDom.l0 k i a b := by
  induction k with
  | zero => intro i; simp only [impl_DomNode.l0, spec_SameDom.l0]
  | succ k ih =>
    intro i
    simp only [impl_DomNode.l0, spec_SameDom.l0, ih]
    by_cases h : i < (a.length : Int)
    · simp only [if_pos h]
    · simp only [if_neg h]
theorem specSameDom_ev (a b : List DomNI) (hm : a.length ≤ 1048576) : ∃ r, Ev (fun k => spec_SameDom.f k a b) r := by
  unfold spec_SameDom.f
  by_cases hl : (a.length : Int) = b.length
  · have h := upLoop (fun k (_ : Unit) i => spec_SameDom.l0 k i a b) a.length (fun _ _ => True) (fun i s hi _ => by
      have e : ∀ k, spec_SameDom.l0 (k + 1) i a b = if (!(a[i].f0 == (b[i]'(by omega)).f0) || (!(a[i].f1 == (b[i]'(by omega)).f1) || (!(a[i].f2 == (b[i]'(by omega)).f2) || (!(a[i].f3 == (b[i]'(by omega)).f3) || (!(a[i].f4 == (b[i]'(by omega)).f4) || (!(a[i].f5 == (b[i]'(by omega)).f5) || (!(a[i].f6 == (b[i]'(by omega)).f6)))))))) = true then some false else spec_SameDom.l0 k ((i + 1 : Nat) : Int) a b := by
        intro k
        simp only [spec_SameDom.l0]
        rw [if_pos (by omega), if_pos (by omega), if_pos (by omega), wrap_succ hi (by omega)]
        simp only [rd_T103, Int.toNat_natCast, getD_lt a _ hi, getD_lt b _ (show i < b.length by omega)]
      by_cases c : (!(a[i].f0 == (b[i]'(by omega)).f0) || (!(a[i].f1 == (b[i]'(by omega)).f1) || (!(a[i].f2 == (b[i]'(by omega)).f2) || (!(a[i].f3 == (b[i]'(by omega)).f3) || (!(a[i].f4 == (b[i]'(by omega)).f4) || (!(a[i].f5 == (b[i]'(by omega)).f5) || (!(a[i].f6 == (b[i]'(by omega)).f6)))))))) = true
      · exact .inl ⟨false, Ev.step (f := fun _ => some false) (fun k => by rw [e, if_pos c]) (Ev.now _)⟩
      · exact .inr ⟨(), trivial, fun r hr => Ev.step (fun k => by rw [e, if_neg c]) hr⟩)
      (fun s _ => ⟨true, Ev.step (f := fun _ => some true) (fun k => by simp only [spec_SameDom.l0]; rw [if_neg (by omega)]) (Ev.now _)⟩) a.length 0 () (by omega) trivial
    obtain ⟨r, hr⟩ := h
    exact ⟨r, Ev.ifT hl hr⟩
  · exact ⟨false, Ev.ifF hl (Ev.now _)⟩
theorem implSameDom_f (a b : List DomNI) (k : Nat) : impl_SameDom.f k a b = spec_SameDom.f k a b := by
  unfold impl_SameDom.f impl_DomNode.f spec_SameDom.f
  by_cases h : (a.length : Int) = b.length
  · rw [if_pos h, if_pos h, sameDom_same a b h]
    cases spec_SameDom.l0 k 0 a b <;> rfl
  · rw [if_neg h, if_neg h]; rfl
theorem FnExactSameDom (x : DomL) (w : WF52 x) (y : DomL) (w1 : WF52 y) : ∃ k, laws_FnExactSameDom.f k x.f0 y.f0 = some true := by
  refine Ev.rounds (g := fun k => laws_FnExactSameDom.f k x.f0 y.f0) ?_
  unfold laws_FnExactSameDom.f
  refine Ev.bindC (szDom_eq x.f0 _ (by omega) (by omega) w.1) ?_
  by_cases h : (1048576 : Int) < x.f0.length
  · rw [if_pos h]
    exact Ev.ifT (by omega) (Ev.now _)
  · rw [if_neg h]
    refine Ev.ifF (by omega) ?_
    refine Ev.bindC (szDom_eq y.f0 _ (by omega) (by omega) w1.1) ?_
    by_cases h1 : (1048576 : Int) - x.f0.length < y.f0.length
    · rw [if_pos h1]
      exact Ev.ifT (by omega) (Ev.now _)
    · rw [if_neg h1]
      refine Ev.ifF (by omega) ?_
      have t := toDom_ev x.f0 (by omega)
      have t1 := toDom_ev y.f0 (by omega)
      obtain ⟨b, s⟩ := specSameDom_ev (x.f0.map toDomNode) (y.f0.map toDomNode) (by simp; omega)
      have i : Ev (fun k => impl_SameDom.f k (x.f0.map toDomNode) (y.f0.map toDomNode)) b := Ev.congr (fun k => implSameDom_f _ _ k) s
      refine Ev.bind t (Ev.bind t1 (Ev.bind s (Ev.bind t (Ev.bind t1 (Ev.bind i (Ev.ifF (by simp) ?_))))))
      exact Ev.bind t (Ev.bind (eqDom_ev _ (by simp; omega)) (Ev.ifT rfl (Ev.bind t1 (Ev.bind (eqDom_ev _ (by simp; omega)) (Ev.ifT rfl (Ev.now _))))))
end Go.Proofs.Ytlajjjcfgjpjoaa.Q
