/- The plain law of FnExactTurned. -/
import Derived.Test.YtlajjjcfgjpjoaaQPair
import Derived.Test.YtlajjjcfgjpjoaaXf7
namespace Go.Proofs.Ytlajjjcfgjpjoaa.Q
open Go.RowKit Go.Proofs.YtlajjjcfgjpjoaaW.PrintWords Go.Proofs.YtlajjjcfgjpjoaaW.PrintLast Go.Proofs.YtlajjjcfgjpjoaaW.PrintMore Go.Proofs.Ytlajjjcfgjpjoaa.X Go.Proofs.Ytlajjjcfgjpjoaa.Rd
def flipPair (x : PairI) : PairI := ⟨x.f1, x.f0⟩
theorem specTurned_l (l : List PairI) (hl : l.length ≤ 1048576) (d : Nat) : ∀ (i : Nat) (acc : List PairI), i + d = l.length → acc = (l.take i).map flipPair → Ev (fun k => spec_Turned.l0 k l acc i) (l.map flipPair) := by
  induction d with
  | zero =>
    intro i acc hi ha
    rw [List.take_of_length_le (by omega)] at ha
    subst ha
    refine Ev.step (f := fun _ => some (l.map flipPair)) (fun k => ?_) (Ev.now _)
    simp only [spec_Turned.l0]
    rw [if_neg (by omega)]
  | succ d ih =>
    intro i acc hi ha
    have hlt : i < l.length := by omega
    have hal : acc.length = i := by rw [ha]; simp; omega
    refine Ev.step (f := fun k => spec_Turned.l0 k l (acc ++ [flipPair l[i]]) ((i + 1 : Nat) : Int)) (fun k => ?_) (ih (i + 1) (acc ++ [flipPair l[i]]) (by omega) (by rw [take_succ_map flipPair l i hlt, ha]))
    simp only [spec_Turned.l0]
    rw [if_pos (by omega), if_pos (by omega), if_pos (by omega), wrap_succ hlt (by omega)]
    simp only [rd_T85, getD_nat l i _ hlt]
    rfl
theorem implTurned_l (l : List PairI) (hl : l.length ≤ 1048576) (d : Nat) : ∀ (i : Nat) (acc : List PairI), i + d = l.length → acc = (l.take i).map flipPair → Ev (fun k => impl_Turned.l0 k acc l l.length i) (l.map flipPair) := by
  induction d with
  | zero =>
    intro i acc hi ha
    rw [List.take_of_length_le (by omega)] at ha
    subst ha
    refine Ev.step (f := fun _ => some (l.map flipPair)) (fun k => ?_) (Ev.now _)
    simp only [impl_Turned.l0]
    rw [if_neg (by omega)]
  | succ d ih =>
    intro i acc hi ha
    have hlt : i < l.length := by omega
    have hal : acc.length = i := by rw [ha]; simp; omega
    refine Ev.step (f := fun k => impl_Turned.l0 k (acc ++ [flipPair l[i]]) l l.length ((i + 1 : Nat) : Int)) (fun k => ?_) (ih (i + 1) (acc ++ [flipPair l[i]]) (by omega) (by rw [take_succ_map flipPair l i hlt, ha]))
    simp only [impl_Turned.l0]
    rw [if_pos (by omega), if_pos (by omega), if_pos (by omega), if_pos (by omega), wrap_succ hlt (by omega)]
    simp only [rd_T85, getD_nat l i _ hlt]
    rfl
theorem specTurned_ev (l : List PairI) (hl : l.length ≤ 1048576) : Ev (fun k => spec_Turned.f k l) (l.map flipPair) :=
  Ev.congr (fun _ => rfl) (specTurned_l l hl l.length 0 [] (by omega) rfl)
theorem implTurned_ev (l : List PairI) (hl : l.length ≤ 1048576) : Ev (fun k => impl_Turned.f k l) (l.map flipPair) :=
  Ev.congr (fun _ => rfl) (implTurned_l l hl l.length 0 [] (by omega) rfl)
theorem FnExactTurned (l : List PairL) (w : WF24 l) : ∃ k, laws_FnExactTurned.f k l = some true := by
  refine Ev.rounds (g := fun k => laws_FnExactTurned.f k l) ?_
  unfold laws_FnExactTurned.f
  refine Ev.bindC (szPairS_eq l _ (by omega) (by omega) w.1) ?_
  by_cases h : (1048576 : Int) < l.length
  · rw [if_pos h]
    exact Ev.ifT (by omega) (Ev.now _)
  · rw [if_neg h]
    refine Ev.ifF (by omega) ?_
    have hl : l.length ≤ 1048576 := by omega
    have t := toPairS_ev l hl
    have s := specTurned_ev (l.map toPair) (by simpa using hl)
    have i := implTurned_ev (l.map toPair) (by simpa using hl)
    have hr : ((l.map toPair).map flipPair).length = l.length := by simp
    have hx : (l.map toPair).length = l.length := by simp
    have e1 := eqPairS_ev ((l.map toPair).map flipPair) (by omega)
    have e2 := eqPairS_ev (l.map toPair) (by omega)
    obtain ⟨r1, _, m1, _⟩ := markPairS_ev 1 (l.map toPair) (by omega) (by omega)
    obtain ⟨r2, _, m2, h2⟩ := markPairS_ev 1 ((l.map toPair).map flipPair) (by omega) (by omega)
    refine Ev.bind t (Ev.bind s (Ev.bind t (Ev.bind i (Ev.bind e1 (Ev.ifT rfl (Ev.bind t (Ev.bind e2 (Ev.ifT rfl (Ev.bind m1 (Ev.ifF (by simp only; omega) (Ev.bind e1 ?_)))))))))))
    refine Ev.step (fun _ => rfl) ?_
    simp only [laws_FnExactTurned.j0]
    refine Ev.ifF (by simp) ?_
    refine Ev.bind m2 (Ev.bind h2 (Ev.ifF (by omega) (Ev.ifT rfl (Ev.bind t (Ev.bind i (Ev.bind e1 (Ev.ifT rfl (Ev.bind h2 (Ev.ifF (by omega) (Ev.ifT rfl (Ev.now _)))))))))))
end Go.Proofs.Ytlajjjcfgjpjoaa.Q
