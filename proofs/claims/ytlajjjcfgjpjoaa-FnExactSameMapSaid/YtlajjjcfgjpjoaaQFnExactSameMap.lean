/- The plain law of FnExactSameMap. -/
import Derived.Test.YtlajjjcfgjpjoaaQPair
import Derived.Test.YtlajjjcfgjpjoaaXf6
namespace Go.Proofs.Ytlajjjcfgjpjoaa.Q
open Go.RowKit Go.Proofs.YtlajjjcfgjpjoaaW.PrintWords Go.Proofs.YtlajjjcfgjpjoaaW.PrintLast Go.Proofs.YtlajjjcfgjpjoaaW.PrintMore Go.Proofs.Ytlajjjcfgjpjoaa.X Go.Proofs.Ytlajjjcfgjpjoaa.Rd
def eqPairL : List PairI → List PairI → Bool
  | x :: xs, y :: ys => if (!(x.f0 == y.f0) || (!(x.f1 == y.f1))) = true then false else eqPairL xs ys
  | [], [] => true
  | _, _ => false
theorem specSameMap_l (a b : List PairI) (hl : a.length = b.length) (hm : a.length ≤ 1048576) (d : Nat) : ∀ (i : Nat), i + d = a.length → Ev (fun k => spec_SameMap.l0 k a b i) (eqPairL (a.drop i) (b.drop i)) := by
  induction d with
  | zero =>
    intro i hi
    rw [List.drop_of_length_le (by omega), List.drop_of_length_le (by omega)]
    refine Ev.step (f := fun _ => some true) (fun k => ?_) (Ev.now _)
    simp only [spec_SameMap.l0]
    rw [if_neg (by omega)]
  | succ d ih =>
    intro i hi
    have hlt : i < a.length := by omega
    have hlt' : i < b.length := by omega
    rw [List.drop_eq_getElem_cons hlt, List.drop_eq_getElem_cons hlt', eqPairL]
    refine Ev.step (f := fun k => if (!(a[i].f0 == b[i].f0) || (!(a[i].f1 == b[i].f1))) = true then some false else spec_SameMap.l0 k a b ((i + 1 : Nat) : Int)) (fun k => ?_) ?_
    · simp only [spec_SameMap.l0]
      rw [if_pos (by omega), if_pos (by omega), if_pos (by omega), wrap_succ hlt (by omega)]
      simp only [rd_T85, getD_nat a i _ hlt, getD_nat b i _ hlt']
    · split
      · exact Ev.now _
      · exact ih (i + 1) (by omega)
theorem implSameMap_l (a b : List PairI) (hl : a.length = b.length) (hm : a.length ≤ 1048576) (d : Nat) : ∀ (i : Nat), i + d = a.length → Ev (fun k => impl_Pair_72.l0 k a b a.length i) (eqPairL (a.drop i) (b.drop i)) := by
  induction d with
  | zero =>
    intro i hi
    rw [List.drop_of_length_le (by omega), List.drop_of_length_le (by omega)]
    refine Ev.step (f := fun _ => some true) (fun k => ?_) (Ev.now _)
    simp only [impl_Pair_72.l0]
    rw [if_neg (by omega)]
  | succ d ih =>
    intro i hi
    have hlt : i < a.length := by omega
    have hlt' : i < b.length := by omega
    rw [List.drop_eq_getElem_cons hlt, List.drop_eq_getElem_cons hlt', eqPairL]
    refine Ev.step (f := fun k => if (!(a[i].f0 == b[i].f0) || (!(a[i].f1 == b[i].f1))) = true then some false else impl_Pair_72.l0 k a b a.length ((i + 1 : Nat) : Int)) (fun k => ?_) ?_
    · simp only [impl_Pair_72.l0]
      rw [if_pos (by omega), if_pos (by omega), if_pos (by omega), if_pos (by omega), wrap_succ hlt (by omega)]
      simp only [rd_T85, getD_nat a i _ hlt, getD_nat b i _ hlt']
    · split
      · exact Ev.now _
      · exact ih (i + 1) (by omega)
theorem sameMap_ev (a b : List PairI) (hm : a.length ≤ 1048576) : ∃ r, Ev (fun k => spec_SameMap.f k a b) r ∧ Ev (fun k => impl_SameMap.f k a b) r := by
  unfold spec_SameMap.f impl_SameMap.f impl_Pair_72.f
  by_cases h : a.length = b.length
  · exact ⟨_, Ev.ifT (by omega) (specSameMap_l a b h hm a.length 0 (by omega)), Ev.bind (Ev.ifT (by omega) (implSameMap_l a b h hm a.length 0 (by omega))) (Ev.now _)⟩
  · exact ⟨false, Ev.ifF (by omega) (Ev.now _), Ev.bind (Ev.ifF (by omega) (Ev.now false)) (Ev.now _)⟩
theorem FnExactSameMap (l : List PairL) (w : WF24 l) (l1 : List PairL) (w1 : WF24 l1) : ∃ k, laws_FnExactSameMap.f k l l1 = some true := by
  refine Ev.rounds (g := fun k => laws_FnExactSameMap.f k l l1) ?_
  unfold laws_FnExactSameMap.f
  refine Ev.bindC (szPairS_eq l _ (by omega) (by omega) w.1) ?_
  by_cases h : (1048576 : Int) < l.length
  · rw [if_pos h]
    exact Ev.ifT (by omega) (Ev.now _)
  · rw [if_neg h]
    refine Ev.ifF (by omega) ?_
    refine Ev.bindC (szPairS_eq l1 _ (by omega) (by omega) w1.1) ?_
    by_cases h1 : (1048576 : Int) - l.length < l1.length
    · rw [if_pos h1]
      exact Ev.ifT (by omega) (Ev.now _)
    · rw [if_neg h1]
      refine Ev.ifF (by omega) ?_
      have t := toPairS_ev l (by omega)
      have t1 := toPairS_ev l1 (by omega)
      obtain ⟨b, s, i⟩ := sameMap_ev (l.map toPair) (l1.map toPair) (by simp; omega)
      refine Ev.bind t (Ev.bind t1 (Ev.bind s (Ev.bind t (Ev.bind t1 (Ev.bind i (Ev.ifF (by simp) ?_))))))
      exact Ev.bind t (Ev.bind (eqPairS_ev _ (by simp; omega)) (Ev.ifT rfl (Ev.bind t1 (Ev.bind (eqPairS_ev _ (by simp; omega)) (Ev.ifT rfl (Ev.now _))))))
end Go.Proofs.Ytlajjjcfgjpjoaa.Q
