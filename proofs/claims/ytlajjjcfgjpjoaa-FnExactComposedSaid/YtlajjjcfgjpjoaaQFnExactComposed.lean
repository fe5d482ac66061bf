/- The plain law of FnExactComposed. -/
import Derived.Test.YtlajjjcfgjpjoaaQPair
import Derived.Test.YtlajjjcfgjpjoaaXf9
namespace Go.Proofs.Ytlajjjcfgjpjoaa.Q
open Go.RowKit Go.Proofs.YtlajjjcfgjpjoaaW.PrintWords Go.Proofs.YtlajjjcfgjpjoaaW.PrintLast Go.Proofs.YtlajjjcfgjpjoaaW.PrintMore Go.Proofs.Ytlajjjcfgjpjoaa.X Go.Proofs.Ytlajjjcfgjpjoaa.Rd
/-- What one pair of the first list finds in the second. -/
def thenP (x : PairI) (n : List PairI) : List PairI := n.filterMap fun y => if x.f1 = y.f0 then some (⟨x.f0, y.f1⟩ : PairI) else none
def compP (m n : List PairI) : List PairI := m.flatMap fun x => thenP x n
theorem thenP_succ (x : PairI) (n : List PairI) (j : Nat) (h : j < n.length) : thenP x (n.take (j + 1)) = thenP x (n.take j) ++ (if x.f1 = n[j].f0 then [(⟨x.f0, n[j].f1⟩ : PairI)] else []) := by
  unfold thenP
  rw [take_succ_append n j h, List.filterMap_append]
  congr 1
  simp only [List.filterMap_cons, List.filterMap_nil]
  split <;> simp_all
theorem thenP_len (x : PairI) (n : List PairI) : (thenP x n).length ≤ n.length := List.length_filterMap_le _ _
theorem compP_len (m n : List PairI) : (compP m n).length ≤ m.length * n.length := by
  induction m with
  | nil => simp [compP]
  | cons x m ih =>
    have := thenP_len x n
    have e : (compP (x :: m) n).length = (thenP x n).length + (compP m n).length := by simp [compP]
    rw [e, List.length_cons, Nat.add_mul]
    omega
theorem compP_succ (m n : List PairI) (i : Nat) (h : i < m.length) : compP (m.take (i + 1)) n = compP (m.take i) n ++ thenP m[i] n := by
  unfold compP
  rw [take_succ_append m i h, List.flatMap_append]
  simp
theorem bound (m n : List PairI) (hm : m.length ≤ 1048576) (hn : n.length ≤ 1048576) (i : Nat) (hi : i < m.length) (j : Nat) : (compP (m.take i) n ++ thenP m[i] (n.take j)).length < 8796093022208 := by
  have h1 := compP_len (m.take i) n
  have h2 := thenP_len m[i] (n.take j)
  have h3 : (m.take i).length * n.length ≤ 1048576 * 1048576 := Nat.mul_le_mul (by simp; omega) hn
  rw [List.length_append]
  have : (n.take j).length ≤ n.length := by simp; omega
  omega
theorem specComp_l1 (m n : List PairI) (hm : m.length ≤ 1048576) (hn : n.length ≤ 1048576) (i : Nat) (hi : i < m.length) (R : List PairI) (hR : Ev (fun k => spec_Composed.l0 k m n (compP (m.take (i + 1)) n) ((i + 1 : Nat) : Int)) R) (d : Nat) :
    ∀ (j : Nat), j + d = n.length → Ev (fun k => spec_Composed.l1 k m n (compP (m.take i) n ++ thenP m[i] (n.take j)) i j) R := by
  induction d with
  | zero =>
    intro j hj
    refine Ev.step (f := fun k => spec_Composed.l0 k m n (compP (m.take (i + 1)) n) ((i + 1 : Nat) : Int)) (fun k => ?_) hR
    simp only [spec_Composed.l1]
    rw [if_neg (by omega), wrap_succ hi (by omega), compP_succ m n i hi, List.take_of_length_le (l := n) (by omega)]
  | succ d ih =>
    intro j hj
    have hlt : j < n.length := by omega
    have hb := bound m n hm hn i hi j
    have hs := thenP_succ m[i] n j hlt
    have hn' := ih (j + 1) (by omega)
    refine Ev.step (fun k => ?_) hn'
    simp only [spec_Composed.l1]
    rw [if_pos (by omega), if_pos (by omega), if_pos (by omega), if_pos (by omega), wrap_succ hlt (by omega)]
    simp only [rd_T85, getD_nat m i _ hi, getD_nat n j _ hlt]
    by_cases c : m[i].f1 = n[j].f0
    · rw [if_pos c, if_pos hb, hs, if_pos c, List.append_assoc]
    · rw [if_neg c, hs, if_neg c, List.append_nil]
theorem specComp_l0 (m n : List PairI) (hm : m.length ≤ 1048576) (hn : n.length ≤ 1048576) (d : Nat) : ∀ (i : Nat), i + d = m.length → Ev (fun k => spec_Composed.l0 k m n (compP (m.take i) n) i) (compP m n) := by
  induction d with
  | zero =>
    intro i hi
    rw [List.take_of_length_le (by omega)]
    refine Ev.step (f := fun _ => some (compP m n)) (fun k => ?_) (Ev.now _)
    simp only [spec_Composed.l0]
    rw [if_neg (by omega)]
  | succ d ih =>
    intro i hi
    have hlt : i < m.length := by omega
    have h := specComp_l1 m n hm hn i hlt _ (ih (i + 1) (by omega)) n.length 0 (by omega)
    refine Ev.step (fun k => ?_) h
    simp only [spec_Composed.l0]
    rw [if_pos (by omega)]
    simp [thenP]
theorem specComp_ev (m n : List PairI) (hm : m.length ≤ 1048576) (hn : n.length ≤ 1048576) : Ev (fun k => spec_Composed.f k m n) (compP m n) :=
  Ev.congr (fun _ => rfl) (specComp_l0 m n hm hn m.length 0 (by omega))
theorem implComp_l1 (m n : List PairI) (hm : m.length ≤ 1048576) (hn : n.length ≤ 1048576) (i : Nat) (hi : i < m.length) (R : List PairI) (hR : Ev (fun k => impl_Composed.l0 k n (compP (m.take (i + 1)) n) m m.length ((i + 1 : Nat) : Int)) R) (d : Nat) :
    ∀ (j : Nat), j + d = n.length → Ev (fun k => impl_Composed.l1 k n (compP (m.take i) n ++ thenP m[i] (n.take j)) m m.length i n n.length j m[i].f0 m[i].f1) R := by
  induction d with
  | zero =>
    intro j hj
    refine Ev.step (f := fun k => impl_Composed.l0 k n (compP (m.take (i + 1)) n) m m.length ((i + 1 : Nat) : Int)) (fun k => ?_) hR
    simp only [impl_Composed.l1]
    rw [if_neg (by omega), wrap_succ hi (by omega), compP_succ m n i hi, List.take_of_length_le (l := n) (by omega)]
  | succ d ih =>
    intro j hj
    have hlt : j < n.length := by omega
    have hb := bound m n hm hn i hi j
    have hs := thenP_succ m[i] n j hlt
    have hn' := ih (j + 1) (by omega)
    refine Ev.step (fun k => ?_) hn'
    simp only [impl_Composed.l1]
    rw [if_pos (by omega), if_pos (by omega), if_pos (by omega), wrap_succ hlt (by omega)]
    simp only [rd_T85, getD_nat n j _ hlt]
    by_cases c : m[i].f1 = n[j].f0
    · rw [if_pos c, if_pos hb, hs, if_pos c, List.append_assoc]
    · rw [if_neg c, hs, if_neg c, List.append_nil]
theorem implComp_l0 (m n : List PairI) (hm : m.length ≤ 1048576) (hn : n.length ≤ 1048576) (d : Nat) : ∀ (i : Nat), i + d = m.length → Ev (fun k => impl_Composed.l0 k n (compP (m.take i) n) m m.length i) (compP m n) := by
  induction d with
  | zero =>
    intro i hi
    rw [List.take_of_length_le (by omega)]
    refine Ev.step (f := fun _ => some (compP m n)) (fun k => ?_) (Ev.now _)
    simp only [impl_Composed.l0]
    rw [if_neg (by omega)]
  | succ d ih =>
    intro i hi
    have hlt : i < m.length := by omega
    have h := implComp_l1 m n hm hn i hlt _ (ih (i + 1) (by omega)) n.length 0 (by omega)
    refine Ev.step (fun k => ?_) h
    simp only [impl_Composed.l0]
    rw [if_pos (by omega), if_pos (by omega), if_pos (by omega)]
    simp only [rd_T85, getD_nat m i _ hlt]
    simp [thenP]
theorem implComp_ev (m n : List PairI) (hm : m.length ≤ 1048576) (hn : n.length ≤ 1048576) : Ev (fun k => impl_Composed.f k m n) (compP m n) :=
  Ev.congr (fun _ => rfl) (implComp_l0 m n hm hn m.length 0 (by omega))
theorem FnExactComposed (l : List PairL) (w : WF24 l) (l1 : List PairL) (w1 : WF24 l1) : ∃ k, laws_FnExactComposed.f k l l1 = some true := by
  refine Ev.rounds (g := fun k => laws_FnExactComposed.f k l l1) ?_
  unfold laws_FnExactComposed.f
  refine Ev.bindC (szPairS_eq l _ (by omega) (by omega) w.1) ?_
  by_cases h : (1048576 : Int) < l.length
  · rw [if_pos h]
    exact Ev.ifT (by omega) (Ev.now _)
  · rw [if_neg h]
    refine Ev.ifF (by omega) ?_
    refine Ev.bindC (szPairS_eq l1 _ (by omega) (by omega) w1.1) ?_
    by_cases h1 : (1048576 : Int) - l.length < l1.length
    · rw [if_pos h1]
      exact Ev.ifT (by omega) (Ev.now _)
    · rw [if_neg h1]
      refine Ev.ifF (by omega) ?_
      have t := toPairS_ev l (by omega)
      have t1 := toPairS_ev l1 (by omega)
      have hx : (l.map toPair).length = l.length := by simp
      have hx1 : (l1.map toPair).length = l1.length := by simp
      have s := specComp_ev (l.map toPair) (l1.map toPair) (by omega) (by omega)
      have i := implComp_ev (l.map toPair) (l1.map toPair) (by omega) (by omega)
      have hc := compP_len (l.map toPair) (l1.map toPair)
      have hc2 : (l.map toPair).length * (l1.map toPair).length ≤ 1048576 * 1048576 := Nat.mul_le_mul (by omega) (by omega)
      have ec := eqPairS_ev (compP (l.map toPair) (l1.map toPair)) (by omega)
      have e := eqPairS_ev (l.map toPair) (by omega)
      have e1 := eqPairS_ev (l1.map toPair) (by omega)
      obtain ⟨r1, _, m1, _⟩ := markPairS_ev 1 (l.map toPair) (by omega) (by omega)
      obtain ⟨r2, _, m2, _⟩ := markPairS_ev (1 + 2 * ((l.map toPair).length : Int)) (l1.map toPair) (by omega) (by omega)
      obtain ⟨r3, _, m3, h3⟩ := markPairS_ev 1 (compP (l.map toPair) (l1.map toPair)) (by omega) (by omega)
      refine Ev.bind t (Ev.bind t1 (Ev.bind s (Ev.bind t (Ev.bind t1 (Ev.bind i (Ev.bind ec (Ev.ifT rfl (Ev.bind t (Ev.bind e (Ev.ifT rfl (Ev.bind t1 (Ev.bind e1 (Ev.ifT rfl ?_)))))))))))))
      refine Ev.bind m1 (Ev.bind m2 (Ev.ifF (by simp only; omega) (Ev.bind ec ?_)))
      refine Ev.step (fun _ => rfl) ?_
      simp only [laws_FnExactComposed.j0]
      refine Ev.ifF (by simp) ?_
      refine Ev.bind m3 (Ev.bind h3 (Ev.ifF (by omega) (Ev.ifT rfl (Ev.bind t (Ev.bind t1 (Ev.bind i (Ev.bind ec (Ev.ifT rfl (Ev.bind h3 (Ev.ifF (by omega) (Ev.ifT rfl (Ev.now _))))))))))))
end Go.Proofs.Ytlajjjcfgjpjoaa.Q
