/- Part 12 of the proof of FnApplied: what it needs. -/
import Derived.Test.YtbifdckfglejkaaKLApplied4
import Derived.Test.YtbifdckfglejkaaKLApplied6
import Derived.Test.YtbifdckfglejkaaKLApplied7
import Derived.Test.YtbifdckfglejkaaKLApplied11
namespace Go.Proofs.Ytbifdckfglejkaa.Q
open Go.RowKit Go.Proofs.YtbifdckfglejkaaW.PrintWords Go.Proofs.YtbifdckfglejkaaW.PrintLast Go.Proofs.YtbifdckfglejkaaW.PrintMore Go.Proofs.Ytbifdckfglejkaa.X Go.Proofs.Ytbifdckfglejkaa.Rd
set_option linter.unusedVariables false
set_option linter.unusedSimpArgs false
def deepN (l : List NodeI) : Nat → Nat → Int → Int
  | 0, _, d => d
  | n + 1, k, d => deepN l n (k + 1) (mx d (dep l k + 1))
def bounds (l : List NodeI) (kids : List Int) (i : Nat) : List Int := kids ++ [(endN l i : Int)]
noncomputable def opB (l : List NodeI) (kind lb fr cnt i : Int) : Int × Int × Int :=
  if ¬ (1 ≤ kind ∧ kind ≤ 3) then (1, 0, 0) else if i < 0 then (2, 0, 0) else if kind ≠ 2 ∧ ¬ (0 ≤ lb ∧ lb ≤ 5) then (3, 0, 0)
  else if kind = 2 ∧ i = 0 then (4, 0, 0) else if kind ≠ 3 then (0, 0, 0)
  else if ¬ (0 ≤ fr ∧ fr ≤ (kidsOf l i).length ∧ 0 ≤ cnt ∧ cnt ≤ (kidsOf l i).length - fr) then (5, 0, 0)
  else
    if l.length = 24 then (6, 0, 0)
    else if deepN l (((bounds l (kidsOf l i) i.toNat).getD (fr + cnt).toNat 0).toNat - ((bounds l (kidsOf l i) i.toNat).getD fr.toNat 0).toNat) ((bounds l (kidsOf l i) i.toNat).getD fr.toNat 0).toNat (dep l i.toNat + 1) > 12 then (7, 0, 0)
    else (0, (bounds l (kidsOf l i) i.toNat).getD fr.toNat 0, (bounds l (kidsOf l i) i.toNat).getD (fr + cnt).toNat 0)
theorem mx_eq (a b : Int) : mx a b = max a b := by unfold mx; split <;> omega
theorem bounds_get {l : List NodeI} (t : Tr l) {i : Nat} (hi : i < l.length) {x : Nat} (hx : x ≤ (kidsOf l i).length) : ∃ e : Nat, (bounds l (kidsOf l i) i).getD x 0 = e ∧ i < e ∧ e ≤ endN l i := by
  unfold bounds
  have es := endN_spec l hi
  by_cases c : x < (kidsOf l i).length
  · have h := (kidsOf_mem t hi ((kidsOf l i)[x])).1 (List.getElem_mem c)
    obtain ⟨j, h1, h2, h3, _⟩ := h
    refine ⟨j, ?_, h2, by omega⟩
    rw [List.getD_eq_getElem?_getD, List.getElem?_append_left c, List.getElem?_eq_getElem c, h1]; rfl
  · have e : x = (kidsOf l i).length := by omega
    subst e
    refine ⟨endN l i, ?_, es.1, Nat.le_refl _⟩
    rw [List.getD_eq_getElem?_getD, List.getElem?_append_right (Nat.le_refl _)]; simp
theorem kids_pw {l : List NodeI} (t : Tr l) {i : Nat} (hi : i < l.length) : (kidsOf l i).Pairwise (· < ·) := by
  rw [kidsOf_eq t hi]
  unfold kidsL
  refine List.pairwise_map.2 ((List.Pairwise.filter _ List.pairwise_lt_range').imp ?_)
  intro a b h
  omega
theorem bounds_mono {l : List NodeI} (t : Tr l) {i : Nat} (hi : i < l.length) {x y : Nat} (hxy : x ≤ y) (hy : y ≤ (kidsOf l i).length) : (bounds l (kidsOf l i) i).getD x 0 ≤ (bounds l (kidsOf l i) i).getD y 0 := by
  by_cases e : x = y
  · subst e; exact Int.le_refl _
  · by_cases c : y < (kidsOf l i).length
    · have h := List.pairwise_iff_getElem.1 (kids_pw t hi) x y (by omega) c (by omega)
      unfold bounds
      rw [List.getD_eq_getElem?_getD, List.getD_eq_getElem?_getD, List.getElem?_append_left (by omega), List.getElem?_append_left c, List.getElem?_eq_getElem c, List.getElem?_eq_getElem (by omega)]
      show (kidsOf l i)[x] ≤ (kidsOf l i)[y]
      omega
    · have e2 : y = (kidsOf l i).length := by omega
      subst e2
      obtain ⟨a, h1, h2, h3⟩ := bounds_get t hi (x := x) (by omega)
      have h4 : (bounds l (kidsOf l i) i).getD (kidsOf l i).length 0 = (endN l i : Int) := by
        unfold bounds
        rw [List.getD_eq_getElem?_getD, List.getElem?_append_right (Nat.le_refl _)]; simp
      rw [h1, h4]; omega
theorem nodeGo_range {l : List NodeI} (t : Tr l) (path : List Int) : ∀ (i : Nat), i < l.length → nodeGo l path i = -1 ∨ ∃ j : Nat, nodeGo l path i = j ∧ i ≤ j ∧ j < l.length := by
  induction path with
  | nil => intro i hi; exact .inr ⟨i, rfl, Nat.le_refl _, hi⟩
  | cons p ps ih =>
    intro i hi
    unfold nodeGo
    by_cases c : 0 ≤ p ∧ p < (kidsOf l i).length
    · rw [if_pos c]
      have hp : p.toNat < (kidsOf l i).length := by omega
      obtain ⟨j, h1, h2, h3, _⟩ := (kidsOf_mem t hi ((kidsOf l i)[p.toNat])).1 (List.getElem_mem hp)
      rw [getD_lt _ _ hp, h1]
      have := endN_spec l hi
      rcases ih j (by omega) with h | ⟨q, q1, q2, q3⟩
      · exact .inl h
      · exact .inr ⟨q, q1, by omega, q3⟩
    · rw [if_neg c]; exact .inl rfl
theorem nodeAt_range {l : List NodeI} (t : Tr l) (path : List Int) : nodeAt l path = -1 ∨ ∃ j : Nat, nodeAt l path = j ∧ j < l.length := by
  unfold nodeAt
  rw [if_pos (trB_true t)]
  have h1 := t.len1
  rcases nodeGo_range t path 0 (by omega) with h | ⟨j, h1, _, h2⟩
  · exact .inl h
  · exact .inr ⟨j, h1, h2⟩
theorem implOp_l (l : List NodeI) (t : Tr l) (f e : Nat) (hfe : f ≤ e) (he : e ≤ l.length) (n : Nat) : ∀ (x : Nat) (d : Int), f + x + n = e → 0 ≤ d → d ≤ 13 →
    Ev (fun r => impl_opCode.l0 r l f e d ((l.take e).drop f) ((l.take e).drop f).length x) (if l.length = 24 then (6, 0, 0) else if deepN l n (f + x) d > 12 then (7, 0, 0) else (0, (f : Int), (e : Int))) := by
  have hlen : ((l.take e).drop f).length = e - f := by rw [List.length_drop, List.length_take]; omega
  have h24 := t.len24
  induction n with
  | zero =>
    intro x d hx h0 h1
    refine Ev.step (fun _ => rfl) ?_
    simp only [impl_opCode.l0, hlen]
    refine Ev.ifF (by omega) ?_
    by_cases c : l.length = 24
    · rw [if_pos c]; exact Ev.ifT (by omega) (Ev.now _)
    · rw [if_neg c]
      refine Ev.ifF (by omega) ?_
      show Ev _ (if d > 12 then ((7 : Int), (0 : Int), (0 : Int)) else (0, (f : Int), (e : Int)))
      by_cases c2 : d > 12
      · simp only [if_pos c2]; exact Ev.now _
      · simp only [if_neg c2]; exact Ev.now _
  | succ n ih =>
    intro x d hx h0 h1
    have c := t.chk (f + x) (by omega)
    have := c.d0; have := c.d12
    have erd : (rd_T90 ((l.take e).drop f) (x : Int)).f1 = dep l (f + x) := by
      simp only [rd_T90, Int.toNat_natCast, dep, nd, List.getD_eq_getElem?_getD]
      rw [List.getElem?_drop, List.getElem?_take_of_lt (by omega)]
    refine Ev.step (fun _ => rfl) ?_
    simp only [impl_opCode.l0]
    rw [hlen]
    refine Ev.ifT (by omega) (Ev.ifT (by omega) (Ev.ifT (by omega) ?_))
    rw [erd, wrap_id (x := dep l (f + x) + 1) (by omega) (by omega), wrapN (show x ≤ 1048576 by omega)]
    have h := ih (x + 1) (mx d (dep l (f + x) + 1)) (by omega) (by rw [mx_eq]; omega) (by rw [mx_eq]; omega)
    rw [hlen] at h
    exact h
theorem specOp_l (l : List NodeI) (t : Tr l) (f e : Nat) (he : e ≤ l.length) (n : Nat) : ∀ (x : Nat) (d : Int), x + n = e → 0 ≤ d → d ≤ 13 →
    Ev (fun r => spec_l13Code.l0 r l f e d x) (if deepN l n x d > 12 then (7, 0, 0) else (0, (f : Int), (e : Int))) := by
  have h24 := t.len24
  induction n with
  | zero =>
    intro x d hx h0 h1
    refine Ev.step (fun _ => rfl) ?_
    simp only [spec_l13Code.l0]
    refine Ev.ifF (by omega) ?_
    show Ev _ (if d > 12 then ((7 : Int), (0 : Int), (0 : Int)) else (0, (f : Int), (e : Int)))
    by_cases c2 : d > 12
    · simp only [if_pos c2]; exact Ev.now _
    · simp only [if_neg c2]; exact Ev.now _
  | succ n ih =>
    intro x d hx h0 h1
    have c := t.chk x (by omega)
    have := c.d0; have := c.d12
    refine Ev.step (fun _ => rfl) ?_
    simp only [spec_l13Code.l0, rd_dep]
    rw [wrap_id (x := dep l x + 1) (by omega) (by omega), wrapN (show x ≤ 1048576 by omega)]
    exact Ev.ifT (by omega) (Ev.ifT (by omega) (Ev.ifT (by omega) (ih (x + 1) (mx d (dep l x + 1)) (by omega) (by rw [mx_eq]; omega) (by rw [mx_eq]; omega))))
theorem implOp_j2 (l : List NodeI) (t : Tr l) (i : Nat) (hi : i < l.length) (kind : Int) (path : List Int) (lb fr cnt : Int) :
    Ev (fun r => impl_opCode.j2 r l i (kidsOf l i) (!(decide (0 ≤ fr ∧ fr ≤ (kidsOf l i).length ∧ 0 ≤ cnt ∧ cnt ≤ (kidsOf l i).length - fr))) kind path lb fr cnt)
      (if ¬ (0 ≤ fr ∧ fr ≤ (kidsOf l i).length ∧ 0 ≤ cnt ∧ cnt ≤ (kidsOf l i).length - fr) then (5, 0, 0) else if l.length = 24 then (6, 0, 0)
        else if deepN l (((bounds l (kidsOf l i) i).getD (fr + cnt).toNat 0).toNat - ((bounds l (kidsOf l i) i).getD fr.toNat 0).toNat) ((bounds l (kidsOf l i) i).getD fr.toNat 0).toNat (dep l i + 1) > 12 then (7, 0, 0)
        else (0, (bounds l (kidsOf l i) i).getD fr.toNat 0, (bounds l (kidsOf l i) i).getD (fr + cnt).toNat 0)) := by
  have h24 := t.len24
  have hk := kidsOf_len l i
  refine Ev.step (fun _ => rfl) ?_
  simp only [impl_opCode.j2]
  by_cases c : 0 ≤ fr ∧ fr ≤ (kidsOf l i).length ∧ 0 ≤ cnt ∧ cnt ≤ (kidsOf l i).length - fr
  · rw [if_neg (not_not_intro c)]
    refine Ev.ifF (by simp [c]) (Ev.bind (implEndOf_ev l (by omega) i hi) (Ev.ifT (by omega) ?_))
    simp only [Option.bind_some]
    obtain ⟨f, hf, f1, f2⟩ := bounds_get t hi (x := fr.toNat) (by omega)
    obtain ⟨e, he, e1, e2⟩ := bounds_get t hi (x := (fr + cnt).toNat) (by omega)
    have hm := bounds_mono t hi (x := fr.toNat) (y := (fr + cnt).toNat) (by omega) (by omega)
    have es := endN_spec l hi
    have ci := t.chk i hi
    have := ci.d0; have := ci.d12
    have hw : wrap64 (fr + cnt) = fr + cnt := wrap_id (by omega) (by omega)
    have hlen : (kidsOf l i ++ [(endN l i : Int)]).length = (kidsOf l i).length + 1 := by simp
    have ef : rd (kidsOf l i ++ [(endN l i : Int)]) fr = f := hf
    have ee : rd (kidsOf l i ++ [(endN l i : Int)]) (fr + cnt) = e := he
    rw [hw, hlen, ef, ee]
    rw [hf, he] at hm ⊢
    simp only [rd_dep, Int.toNat_natCast]
    have hfe : f ≤ e := by omega
    refine Ev.ifT (by omega) (Ev.ifT (by omega) (Ev.ifT (by omega) (Ev.ifT (by omega) (Ev.ifT (by omega) (Ev.ifT (by omega) (Ev.ifT (by omega) (Ev.ifT (by omega) (Ev.ifT (by omega) ?_))))))))
    rw [wrap_id (x := dep l i + 1) (by omega) (by omega)]
    have h := implOp_l l t f e hfe (by omega) (e - f) 0 (dep l i + 1) (by omega) (by omega) (by omega)
    rw [Nat.add_zero] at h
    exact h
  · rw [if_pos c]
    exact Ev.ifT (by simp [c]) (Ev.now _)
theorem specOp_j2 (l : List NodeI) (t : Tr l) (i : Nat) (hi : i < l.length) (kind : Int) (path : List Int) (lb fr cnt : Int) :
    Ev (fun r => spec_l13Code.j2 r l i (kidsOf l i) (!(decide (0 ≤ fr ∧ fr ≤ (kidsOf l i).length ∧ 0 ≤ cnt ∧ cnt ≤ (kidsOf l i).length - fr))) kind path lb fr cnt)
      (if ¬ (0 ≤ fr ∧ fr ≤ (kidsOf l i).length ∧ 0 ≤ cnt ∧ cnt ≤ (kidsOf l i).length - fr) then (5, 0, 0) else if l.length = 24 then (6, 0, 0)
        else if deepN l (((bounds l (kidsOf l i) i).getD (fr + cnt).toNat 0).toNat - ((bounds l (kidsOf l i) i).getD fr.toNat 0).toNat) ((bounds l (kidsOf l i) i).getD fr.toNat 0).toNat (dep l i + 1) > 12 then (7, 0, 0)
        else (0, (bounds l (kidsOf l i) i).getD fr.toNat 0, (bounds l (kidsOf l i) i).getD (fr + cnt).toNat 0)) := by
  have h24 := t.len24
  have hk := kidsOf_len l i
  refine Ev.step (fun _ => rfl) ?_
  simp only [spec_l13Code.j2]
  by_cases c : 0 ≤ fr ∧ fr ≤ (kidsOf l i).length ∧ 0 ≤ cnt ∧ cnt ≤ (kidsOf l i).length - fr
  · rw [if_neg (not_not_intro c)]
    refine Ev.ifF (by simp [c]) (Ev.bind (specEndOf_ev l t i hi) (Ev.ifT (by omega) ?_))
    simp only [Option.bind_some]
    obtain ⟨f, hf, f1, f2⟩ := bounds_get t hi (x := fr.toNat) (by omega)
    obtain ⟨e, he, e1, e2⟩ := bounds_get t hi (x := (fr + cnt).toNat) (by omega)
    have hm := bounds_mono t hi (x := fr.toNat) (y := (fr + cnt).toNat) (by omega) (by omega)
    have es := endN_spec l hi
    have ci := t.chk i hi
    have := ci.d0; have := ci.d12
    have hw : wrap64 (fr + cnt) = fr + cnt := wrap_id (by omega) (by omega)
    have hlen : (kidsOf l i ++ [(endN l i : Int)]).length = (kidsOf l i).length + 1 := by simp
    have ef : rd (kidsOf l i ++ [(endN l i : Int)]) fr = f := hf
    have ee : rd (kidsOf l i ++ [(endN l i : Int)]) (fr + cnt) = e := he
    rw [hw, hlen, ef, ee]
    rw [hf, he] at hm ⊢
    simp only [rd_dep, Int.toNat_natCast]
    have hfe : f ≤ e := by omega
    refine Ev.ifT (by omega) (Ev.ifT (by omega) (Ev.ifT (by omega) (Ev.ifT (by omega) ?_)))
    by_cases c2 : l.length = 24
    · rw [if_pos c2]; exact Ev.ifT (by omega) (Ev.now _)
    · rw [if_neg c2]
      refine Ev.ifF (by omega) (Ev.ifT (by omega) (Ev.ifT (by omega) ?_))
      rw [wrap_id (x := dep l i + 1) (by omega) (by omega)]
      exact specOp_l l t f e (by omega) (e - f) f (dep l i + 1) (by omega) (by omega) (by omega)
  · rw [if_pos c]
    exact Ev.ifT (by simp [c]) (Ev.now _)
theorem implOp_j1 (l : List NodeI) (t : Tr l) (i : Nat) (hi : i < l.length) (kind : Int) (path : List Int) (lb fr cnt : Int) :
    Ev (fun r => impl_opCode.j1 r l i (decide (kind = 2 ∧ (i : Int) = 0)) kind path lb fr cnt)
      (if kind = 2 ∧ (i : Int) = 0 then (4, 0, 0) else if kind ≠ 3 then (0, 0, 0) else if ¬ (0 ≤ fr ∧ fr ≤ (kidsOf l i).length ∧ 0 ≤ cnt ∧ cnt ≤ (kidsOf l i).length - fr) then (5, 0, 0) else if l.length = 24 then (6, 0, 0)
        else if deepN l (((bounds l (kidsOf l i) i).getD (fr + cnt).toNat 0).toNat - ((bounds l (kidsOf l i) i).getD fr.toNat 0).toNat) ((bounds l (kidsOf l i) i).getD fr.toNat 0).toNat (dep l i + 1) > 12 then (7, 0, 0)
        else (0, (bounds l (kidsOf l i) i).getD fr.toNat 0, (bounds l (kidsOf l i) i).getD (fr + cnt).toNat 0)) := by
  have hk := kidsOf_len l i
  refine Ev.step (fun _ => rfl) ?_
  simp only [impl_opCode.j1]
  by_cases c : kind = 2 ∧ (i : Int) = 0
  · rw [if_pos c]; exact Ev.ifT (by simpa using c) (Ev.now _)
  · rw [if_neg c]
    refine Ev.ifF (by simpa using c) ?_
    by_cases c3 : kind = 3
    · rw [if_neg (not_not_intro c3)]
      refine Ev.ifT c3 (Ev.bind (implKidsOf_ev l i) (Ev.bindC (within_eq _ _ _) ?_))
      have hj := implOp_j2 l t i hi kind path lb fr cnt
      by_cases cf : 0 ≤ fr ∧ fr ≤ ((kidsOf l i).length : Int)
      · refine Ev.ifT (by simpa using cf) (Ev.bindC (within_eq _ _ _) ?_)
        rw [wrap_id (x := ((kidsOf l i).length : Int) - fr) (by omega) (by omega)]
        have e : decide (0 ≤ fr ∧ fr ≤ ((kidsOf l i).length : Int) ∧ 0 ≤ cnt ∧ cnt ≤ (kidsOf l i).length - fr) = decide (0 ≤ cnt ∧ cnt ≤ ((kidsOf l i).length : Int) - fr) := by
          apply decide_eq_decide.2; exact ⟨fun h => ⟨h.2.2.1, h.2.2.2⟩, fun h => ⟨cf.1, cf.2, h.1, h.2⟩⟩
        rw [e] at hj
        exact hj
      · refine Ev.ifF (by simpa using cf) ?_
        have e : decide (0 ≤ fr ∧ fr ≤ ((kidsOf l i).length : Int) ∧ 0 ≤ cnt ∧ cnt ≤ (kidsOf l i).length - fr) = false := decide_eq_false (fun h => cf ⟨h.1, h.2.1⟩)
        rw [e] at hj
        exact hj
    · rw [if_pos c3]; exact Ev.ifF c3 (Ev.now _)
theorem specOp_j1 (l : List NodeI) (t : Tr l) (i : Nat) (hi : i < l.length) (kind : Int) (path : List Int) (lb fr cnt : Int) :
    Ev (fun r => spec_l13Code.j1 r l i (decide (kind = 2 ∧ (i : Int) = 0)) kind path lb fr cnt)
      (if kind = 2 ∧ (i : Int) = 0 then (4, 0, 0) else if kind ≠ 3 then (0, 0, 0) else if ¬ (0 ≤ fr ∧ fr ≤ (kidsOf l i).length ∧ 0 ≤ cnt ∧ cnt ≤ (kidsOf l i).length - fr) then (5, 0, 0) else if l.length = 24 then (6, 0, 0)
        else if deepN l (((bounds l (kidsOf l i) i).getD (fr + cnt).toNat 0).toNat - ((bounds l (kidsOf l i) i).getD fr.toNat 0).toNat) ((bounds l (kidsOf l i) i).getD fr.toNat 0).toNat (dep l i + 1) > 12 then (7, 0, 0)
        else (0, (bounds l (kidsOf l i) i).getD fr.toNat 0, (bounds l (kidsOf l i) i).getD (fr + cnt).toNat 0)) := by
  have hk := kidsOf_len l i
  have h24 := t.len24
  refine Ev.step (fun _ => rfl) ?_
  simp only [spec_l13Code.j1]
  by_cases c : kind = 2 ∧ (i : Int) = 0
  · rw [if_pos c]; exact Ev.ifT (by simpa using c) (Ev.now _)
  · rw [if_neg c]
    refine Ev.ifF (by simpa using c) ?_
    by_cases c3 : kind = 3
    · rw [if_neg (not_not_intro c3)]
      refine Ev.ifT c3 (Ev.bind (specKidsOf_ev l (by omega) i) (Ev.bindC (l1In_eq _ _ _) ?_))
      have hj := specOp_j2 l t i hi kind path lb fr cnt
      by_cases cf : 0 ≤ fr ∧ fr ≤ ((kidsOf l i).length : Int)
      · refine Ev.ifT (by simpa using cf) (Ev.bindC (l1In_eq _ _ _) ?_)
        rw [wrap_id (x := ((kidsOf l i).length : Int) - fr) (by omega) (by omega)]
        have e : decide (0 ≤ fr ∧ fr ≤ ((kidsOf l i).length : Int) ∧ 0 ≤ cnt ∧ cnt ≤ (kidsOf l i).length - fr) = decide (0 ≤ cnt ∧ cnt ≤ ((kidsOf l i).length : Int) - fr) := by
          apply decide_eq_decide.2; exact ⟨fun h => ⟨h.2.2.1, h.2.2.2⟩, fun h => ⟨cf.1, cf.2, h.1, h.2⟩⟩
        rw [e] at hj
        exact hj
      · refine Ev.ifF (by simpa using cf) ?_
        have e : decide (0 ≤ fr ∧ fr ≤ ((kidsOf l i).length : Int) ∧ 0 ≤ cnt ∧ cnt ≤ (kidsOf l i).length - fr) = false := decide_eq_false (fun h => cf ⟨h.1, h.2.1⟩)
        rw [e] at hj
        exact hj
    · rw [if_pos c3]; exact Ev.ifF c3 (Ev.now _)
theorem implOp_ev {l : List NodeI} (t : Tr l) (kind : Int) (path : List Int) (lb fr cnt : Int) (i : Int) (hi : i < 0 ∨ ∃ j : Nat, i = j ∧ j < l.length) : Ev (fun r => impl_opCode.f r l kind path lb fr cnt i) (opB l kind lb fr cnt i) := by
  unfold impl_opCode.f opB
  refine Ev.bindC (within_eq _ _ _) ?_
  by_cases c : 1 ≤ kind ∧ kind ≤ 3
  · rw [if_neg (not_not_intro c)]
    refine Ev.ifT (by simpa using c) ?_
    by_cases c0 : i < 0
    · rw [if_pos c0]; exact Ev.ifT c0 (Ev.now _)
    · rw [if_neg c0]
      refine Ev.ifF c0 ?_
      obtain ⟨j, rfl, hj⟩ := hi.resolve_left c0
      have h1 := implOp_j1 l t j hj kind path lb fr cnt
      rw [Int.toNat_natCast]
      by_cases c2 : kind = 2
      · rw [if_neg (fun h => h.1 c2)]
        refine Ev.ifT c2 ?_
        refine Ev.step (fun _ => rfl) ?_
        simp only [impl_opCode.j0]
        refine Ev.ifF (by simp) (Ev.ifT c2 ?_)
        have e : decide (kind = 2 ∧ (j : Int) = 0) = ((j : Int) == 0) := by rw [Bool.eq_iff_iff]; simp [c2]
        rw [e] at h1
        exact h1
      · refine Ev.ifF c2 (Ev.bindC (implLabelOk_eq _) ?_)
        refine Ev.step (fun _ => rfl) ?_
        simp only [impl_opCode.j0]
        by_cases cl : 0 ≤ lb ∧ lb ≤ 5
        · rw [if_neg (fun h => h.2 cl)]
          refine Ev.ifF (by simp [cl]) (Ev.ifF c2 ?_)
          have e : decide (kind = 2 ∧ (j : Int) = 0) = false := decide_eq_false (fun h => c2 h.1)
          rw [e] at h1
          exact h1
        · rw [if_pos ⟨c2, cl⟩]
          exact Ev.ifT (by simp [cl]) (Ev.now _)
  · rw [if_pos c]; exact Ev.ifF (by simpa using c) (Ev.now _)
theorem specOp_ev {l : List NodeI} (t : Tr l) (kind : Int) (path : List Int) (lb fr cnt : Int) (i : Int) (hi : i < 0 ∨ ∃ j : Nat, i = j ∧ j < l.length) : Ev (fun r => spec_l13Code.f r l kind path lb fr cnt i) (opB l kind lb fr cnt i) := by
  unfold spec_l13Code.f opB
  refine Ev.bindC (l1In_eq _ _ _) ?_
  by_cases c : 1 ≤ kind ∧ kind ≤ 3
  · rw [if_neg (not_not_intro c)]
    refine Ev.ifT (by simpa using c) ?_
    by_cases c0 : i < 0
    · rw [if_pos c0]; exact Ev.ifT c0 (Ev.now _)
    · rw [if_neg c0]
      refine Ev.ifF c0 ?_
      obtain ⟨j, rfl, hj⟩ := hi.resolve_left c0
      have h1 := specOp_j1 l t j hj kind path lb fr cnt
      rw [Int.toNat_natCast]
      by_cases c2 : kind = 2
      · rw [if_neg (fun h => h.1 c2)]
        refine Ev.ifT c2 ?_
        refine Ev.step (fun _ => rfl) ?_
        simp only [spec_l13Code.j0]
        refine Ev.ifF (by simp) (Ev.ifT c2 ?_)
        have e : decide (kind = 2 ∧ (j : Int) = 0) = ((j : Int) == 0) := by rw [Bool.eq_iff_iff]; simp [c2]
        rw [e] at h1
        exact h1
      · refine Ev.ifF c2 (Ev.bindC (specLabelOk_eq _) ?_)
        refine Ev.step (fun _ => rfl) ?_
        simp only [spec_l13Code.j0]
        by_cases cl : 0 ≤ lb ∧ lb ≤ 5
        · rw [if_neg (fun h => h.2 cl)]
          refine Ev.ifF (by simp [cl]) (Ev.ifF c2 ?_)
          have e : decide (kind = 2 ∧ (j : Int) = 0) = false := decide_eq_false (fun h => c2 h.1)
          rw [e] at h1
          exact h1
        · rw [if_pos ⟨c2, cl⟩]
          exact Ev.ifT (by simp [cl]) (Ev.now _)
  · rw [if_pos c]; exact Ev.ifF (by simpa using c) (Ev.now _)
def sh (d : Int) (l : List NodeI) : List NodeI := l.map fun x => ⟨x.f0, x.f1 + d⟩
def delN (l : List NodeI) (i : Nat) : List NodeI := l.take i ++ sh (-1) ((l.take (endN l i)).drop (i + 1)) ++ l.drop (endN l i)
def insN (l : List NodeI) (f e : Nat) (x : NodeI) : List NodeI := l.take f ++ [x] ++ sh 1 ((l.take e).drop f) ++ l.drop e
noncomputable def doneB (l : List NodeI) (kind lb : Int) (i : Nat) (c : Int × Int × Int) : List NodeI :=
  if kind = 1 then l.set i ⟨lb, dep l i⟩ else if kind = 2 then delN l i else insN l c.2.1.toNat c.2.2.toNat ⟨lb, dep l i + 1⟩
noncomputable def applyB (l : List NodeI) (kind : Int) (path : List Int) (lb fr cnt : Int) : List NodeI × Int :=
  if trB l = true then (if (opB l kind lb fr cnt (nodeAt l path)).1 = 0 then (doneB l kind lb (nodeAt l path).toNat (opB l kind lb fr cnt (nodeAt l path)), 0) else (l, (opB l kind lb fr cnt (nodeAt l path)).1)) else ([], 2)
theorem opB_ok {l : List NodeI} (t : Tr l) {kind lb fr cnt i : Int} (hi : i < 0 ∨ ∃ j : Nat, i = j ∧ j < l.length) (h : (opB l kind lb fr cnt i).1 = 0) :
    ∃ j : Nat, i = j ∧ j < l.length ∧ ((kind = 1 ∧ 0 ≤ lb ∧ lb ≤ 5) ∨ (kind = 2 ∧ 0 < j) ∨
      (kind = 3 ∧ 0 ≤ lb ∧ lb ≤ 5 ∧ l.length < 24 ∧ 0 ≤ fr ∧ 0 ≤ cnt ∧ fr + cnt ≤ (kidsOf l j).length ∧ ∃ f e : Nat, opB l kind lb fr cnt i = (0, (f : Int), (e : Int)) ∧ (bounds l (kidsOf l j) j).getD fr.toNat 0 = f ∧ (bounds l (kidsOf l j) j).getD (fr + cnt).toNat 0 = e ∧ j < f ∧ f ≤ e ∧ e ≤ endN l j ∧ deepN l (e - f) f (dep l j + 1) ≤ 12)) := by
  have h24 := t.len24
  unfold opB at h ⊢
  by_cases c : 1 ≤ kind ∧ kind ≤ 3
  case neg => rw [if_pos c] at h; simp at h
  rw [if_neg (not_not_intro c)] at h ⊢
  by_cases c0 : i < 0
  case pos => rw [if_pos c0] at h; simp at h
  rw [if_neg c0] at h ⊢
  obtain ⟨j, rfl, hj⟩ := hi.resolve_left c0
  refine ⟨j, rfl, hj, ?_⟩
  by_cases c1 : kind ≠ 2 ∧ ¬ (0 ≤ lb ∧ lb ≤ 5)
  case pos => rw [if_pos c1] at h; simp at h
  rw [if_neg c1] at h ⊢
  by_cases c2 : kind = 2 ∧ (j : Int) = 0
  case pos => rw [if_pos c2] at h; simp at h
  rw [if_neg c2] at h ⊢
  by_cases c3 : kind ≠ 3
  · by_cases k2 : kind = 2
    · exact .inr (.inl ⟨k2, by omega⟩)
    · exact .inl ⟨by omega, by omega⟩
  rw [if_neg c3] at h ⊢
  rw [Int.toNat_natCast] at h ⊢
  by_cases c4 : 0 ≤ fr ∧ fr ≤ (kidsOf l j).length ∧ 0 ≤ cnt ∧ cnt ≤ (kidsOf l j).length - fr
  case neg => rw [if_pos c4] at h; simp at h
  rw [if_neg (not_not_intro c4)] at h ⊢
  by_cases c5 : l.length = 24
  case pos => rw [if_pos c5] at h; simp at h
  rw [if_neg c5] at h ⊢
  obtain ⟨f, hf, f1, f2⟩ := bounds_get t hj (x := fr.toNat) (by omega)
  obtain ⟨e, he, e1, e2⟩ := bounds_get t hj (x := (fr + cnt).toNat) (by omega)
  have hm := bounds_mono t hj (x := fr.toNat) (y := (fr + cnt).toNat) (by omega) (by omega)
  rw [hf, he] at h hm ⊢
  rw [Int.toNat_natCast, Int.toNat_natCast] at h ⊢
  by_cases c6 : deepN l (e - f) f (dep l j + 1) > 12
  case pos => rw [if_pos c6] at h; simp at h
  rw [if_neg c6]
  exact .inr (.inr ⟨by omega, by omega, by omega, by omega, c4.1, c4.2.2.1, by omega, f, e, rfl, rfl, rfl, f1, by omega, e2, by omega⟩)
theorem sh_zero (l : List NodeI) : sh 0 l = l := by
  unfold sh
  conv => rhs; rw [← List.map_id l]
  refine List.map_congr_left fun x _ => ?_
  simp
theorem tr_mem {l : List NodeI} (t : Tr l) : ∀ x ∈ l, 0 ≤ x.f0 ∧ x.f0 ≤ 5 ∧ 0 ≤ x.f1 ∧ x.f1 ≤ 12 := by
  intro x hx
  obtain ⟨i, hi, rfl⟩ := List.getElem_of_mem hx
  have c := t.chk i hi
  have e : nd l i = l[i] := getD_lt l _ hi
  have := c.l0; have := c.l5; have := c.d0; have := c.d12
  unfold lab at *
  unfold dep at *
  rw [e] at *
  exact ⟨by assumption, by assumption, by assumption, by assumption⟩
theorem take_snoc' (l : List NodeI) (a x : Nat) (hx : x < l.length) (ha : a ≤ x) : (l.take (x + 1)).drop a = (l.take x).drop a ++ [l[x]] := by
  rw [take_succ_append l x hx, List.drop_append_of_le_length (by rw [List.length_take]; omega)]
theorem specShift_l {l : List NodeI} (t : Tr l) (a b : Nat) (by_ : Int) (h0 : -100 ≤ by_) (h1 : by_ ≤ 100) (hb : b ≤ l.length) (n : Nat) : ∀ x : Nat, a ≤ x → x + n = b → Ev (fun r => spec_l13Shift.l0 r l b by_ (sh by_ ((l.take x).drop a)) x) (sh by_ ((l.take b).drop a)) := by
  have h24 := t.len24
  induction n with
  | zero =>
    intro x ha hx
    obtain rfl : x = b := by omega
    refine Ev.step (fun _ => rfl) ?_
    simp only [spec_l13Shift.l0]
    exact Ev.ifF (by omega) (Ev.now _)
  | succ n ih =>
    intro x ha hx
    have hlt : x < l.length := by omega
    have m := tr_mem t _ (List.getElem_mem hlt)
    refine Ev.step (fun _ => rfl) ?_
    simp only [spec_l13Shift.l0]
    have e1 : rd_T90 l (x : Int) = l[x] := getD_nat l x _ hlt
    rw [e1, wrap_id (x := l[x].f1 + by_) (by omega) (by omega), wrapN (show x ≤ 1048576 by omega)]
    have h := ih (x + 1) (by omega) (by omega)
    rw [take_snoc' l a x hlt ha] at h
    have e2 : sh by_ ((l.take x).drop a ++ [l[x]]) = sh by_ ((l.take x).drop a) ++ [⟨l[x].f0, l[x].f1 + by_⟩] := by unfold sh; rw [List.map_append]; rfl
    rw [e2] at h
    refine Ev.ifT (by omega) (Ev.ifT (by omega) (Ev.ifT (by omega) (Ev.ifT ?_ h)))
    unfold sh
    rw [List.length_map, List.length_drop, List.length_take]
    omega
theorem specShift_ev {l : List NodeI} (t : Tr l) (a b : Nat) (by_ : Int) (h0 : -100 ≤ by_) (h1 : by_ ≤ 100) (hab : a ≤ b) (hb : b ≤ l.length) : Ev (fun r => spec_l13Shift.f r l a b by_) (sh by_ ((l.take b).drop a)) := by
  have h := specShift_l t a b by_ h0 h1 hb (b - a) a (Nat.le_refl _) (by omega)
  have e : (l.take a).drop a = [] := List.drop_eq_nil_of_le (by rw [List.length_take]; omega)
  rw [e] at h
  exact h
theorem shiftL_parts (h : NdI → NdI) (a b : Nat) (l : List NdI) (hab : a ≤ b) (hb : b ≤ l.length) : shiftL h a b l = l.take a ++ (((l.take b).drop a).map h ++ l.drop b) := by
  apply List.ext_getElem?
  intro j
  rw [shiftL_get]
  have la : (l.take a).length = a := by rw [List.length_take]; omega
  have lm : (((l.take b).drop a).map h).length = b - a := by rw [List.length_map, List.length_drop, List.length_take]; omega
  rcases Nat.lt_or_ge j a with c | c
  · rw [List.getElem?_append_left (by omega), List.getElem?_take_of_lt c]
    cases l[j]? with
    | none => rfl
    | some x => show some (if a ≤ j ∧ j < b then h x else x) = some x; rw [if_neg (by omega)]
  · rw [List.getElem?_append_right (by omega), la]
    rcases Nat.lt_or_ge j b with c2 | c2
    · rw [List.getElem?_append_left (by omega), List.getElem?_map, List.getElem?_drop, List.getElem?_take_of_lt (by omega), show a + (j - a) = j by omega]
      cases l[j]? with
      | none => rfl
      | some x => show some (if a ≤ j ∧ j < b then h x else x) = some (h x); rw [if_pos ⟨c, c2⟩]
    · rw [List.getElem?_append_right (by omega), lm, List.getElem?_drop, show b + (j - a - (b - a)) = j by omega]
      cases l[j]? with
      | none => rfl
      | some x => show some (if a ≤ j ∧ j < b then h x else x) = some x; rw [if_neg (by omega)]
theorem map_less {l : List NodeI} (t : Tr l) (a b : Nat) : ((l.take b).drop a).map lessDeep = sh (-1) ((l.take b).drop a) := by
  refine List.map_congr_left fun x hx => ?_
  have m := tr_mem t x (List.mem_of_mem_take (List.mem_of_mem_drop hx))
  show (⟨x.f0, wrap64 (x.f1 - 1)⟩ : NodeI) = ⟨x.f0, x.f1 + -1⟩
  rw [wrap_id (by omega) (by omega)]; rfl
theorem map_more {l : List NodeI} (t : Tr l) (a b : Nat) : ((l.take b).drop a).map moreDeep = sh 1 ((l.take b).drop a) := by
  refine List.map_congr_left fun x hx => ?_
  have m := tr_mem t x (List.mem_of_mem_take (List.mem_of_mem_drop hx))
  show (⟨x.f0, wrap64 (x.f1 + 1)⟩ : NodeI) = ⟨x.f0, x.f1 + 1⟩
  rw [wrap_id (by omega) (by omega)]
theorem implApplyOp_ev (l : List NodeI) (hl : l.length ≤ 9223372036854775807) (kind : Int) (path : List Int) (hp : path.length ≤ 1048576) (lb fr cnt : Int) : Ev (fun r => impl_ApplyOp.f r l kind path lb fr cnt) (applyB l kind path lb fr cnt) := by
  unfold impl_ApplyOp.f applyB
  refine Ev.bind (implTreeOk_ev l) ?_
  by_cases h : trB l = true
  · rw [if_pos h]
    have t := (trB_iff l).1 h
    have h24 := t.len24
    refine Ev.ifT h (Ev.ifT (by omega) (Ev.bind (implNodeAt_ev l hl path hp) ?_))
    have hr : nodeAt l path < 0 ∨ ∃ j : Nat, nodeAt l path = j ∧ j < l.length := by
      rcases nodeAt_range t path with h1 | h1
      · exact .inl (by omega)
      · exact .inr h1
    generalize nodeAt l path = i at hr ⊢
    refine Ev.bind (implOp_ev t kind path lb fr cnt i hr) ?_
    by_cases hc : (opB l kind lb fr cnt i).1 = 0
    · rw [if_pos hc]
      refine Ev.ifT hc ?_
      obtain ⟨j, rfl, hj, hk⟩ := opB_ok t hr hc
      refine Ev.ifT (by omega) (Ev.ifT (by omega) ?_)
      rw [Int.toNat_natCast]
      have erd : rd_T90 l (j : Int) = nd l j := rd_nd l j
      unfold doneB
      rcases hk with ⟨rfl, _⟩ | ⟨rfl, h0⟩ | ⟨rfl, _, _, _, _, _, _, f, e, hq, _, _, hf, hfe, hee, _⟩
      · rw [if_pos rfl, erd]
        exact Ev.ifT rfl (Ev.now _)
      · rw [if_neg (show ¬ (2 : Int) = 1 by decide), if_pos (show (2 : Int) = 2 from rfl)]
        have es := endN_spec l hj
        refine Ev.ifF (show ¬ (2 : Int) = 1 by decide) (Ev.ifT (show (2 : Int) = 2 from rfl) (Ev.bind (implEndOf_ev l (by omega) j hj) (Ev.ifT (by omega) (Ev.ifT (by omega) ?_))))
        rw [Int.toNat_natCast]
        have e1 := shiftL_parts lessDeep (j + 1) (endN l j) l (by omega) es.2.1
        have lt : (l.take (j + 1)).length = j + 1 := by rw [List.length_take]; omega
        have e2 : (shiftL lessDeep (j + 1) (endN l j) l).take j = l.take j := by
          rw [e1, List.take_append_of_le_length (by omega), List.take_take, Nat.min_eq_left (by omega)]
        have e3 : (shiftL lessDeep (j + 1) (endN l j) l).drop (j + 1) = ((l.take (endN l j)).drop (j + 1)).map lessDeep ++ l.drop (endN l j) := by
          rw [e1]; exact List.drop_left' lt
        rw [e2, e3, map_less t]
        unfold delN
        rw [List.append_assoc]
        exact Ev.now _
      · rw [if_neg (show ¬ (3 : Int) = 1 by decide), if_neg (show ¬ (3 : Int) = 2 by decide), hq]
        have es := endN_spec l hj
        refine Ev.ifF (show ¬ (3 : Int) = 1 by decide) (Ev.ifF (show ¬ (3 : Int) = 2 by decide) (Ev.ifT (by simp only; omega) (Ev.ifT (by simp only; omega) (Ev.ifT (by simp only; omega) ?_))))
        simp only [Int.toNat_natCast, rd_dep]
        have c := t.chk j hj
        have := c.d0; have := c.d12
        rw [wrap_id (x := dep l j + 1) (by omega) (by omega)]
        have e1 := shiftL_parts moreDeep f e l hfe (by omega)
        have lt : (l.take f).length = f := by rw [List.length_take]; omega
        have e2 : (shiftL moreDeep f e l).take f = l.take f := by rw [e1]; exact List.take_left' lt
        have e3 : (shiftL moreDeep f e l).drop f = ((l.take e).drop f).map moreDeep ++ l.drop e := by rw [e1]; exact List.drop_left' lt
        rw [e2, e3, map_more t]
        unfold insN
        rw [List.append_assoc (l.take f ++ _)]
        exact Ev.now _
    · rw [if_neg hc]
      exact Ev.ifF hc (Ev.now _)
  · rw [if_neg h]
    exact Ev.ifF h (Ev.now _)
theorem copy_eq (l : List NodeI) (hl : l.length < 8796093022208) : spec_l3Copy.f l = some l := by
  unfold spec_l3Copy.f
  simp [hl]
theorem specApplyOp_ev (l : List NodeI) (hl : l.length ≤ 9223372036854775807) (kind : Int) (path : List Int) (hp : path.length ≤ 1048576) (lb fr cnt : Int) : Ev (fun r => spec_ApplyOp.f r l kind path lb fr cnt) (applyB l kind path lb fr cnt) := by
  unfold spec_ApplyOp.f applyB
  refine Ev.bind (specTreeOk_ev l hl) ?_
  by_cases h : trB l = true
  · rw [if_pos h]
    have t := (trB_iff l).1 h
    have h24 := t.len24
    refine Ev.ifT h (Ev.bind (specNodeAt_ev l hl path hp) (Ev.bindC (copy_eq l (by omega)) ?_))
    have hr : nodeAt l path < 0 ∨ ∃ j : Nat, nodeAt l path = j ∧ j < l.length := by
      rcases nodeAt_range t path with h1 | h1
      · exact .inl (by omega)
      · exact .inr h1
    generalize nodeAt l path = i at hr ⊢
    refine Ev.bind (specOp_ev t kind path lb fr cnt i hr) ?_
    by_cases hc : (opB l kind lb fr cnt i).1 = 0
    · rw [if_pos hc]
      refine Ev.ifT hc ?_
      obtain ⟨j, rfl, hj, hk⟩ := opB_ok t hr hc
      rw [hc, Int.toNat_natCast]
      unfold doneB
      rcases hk with ⟨rfl, _⟩ | ⟨rfl, h0⟩ | ⟨rfl, _, _, _, _, _, _, f, e, hq, _, _, hf, hfe, hee, _⟩
      · rw [if_pos (show (1 : Int) = 1 from rfl)]
        simp only [rd_dep]
        refine Ev.ifT (by first | exact trivial | rfl) (Ev.ifT (by omega) (Ev.ifT (by omega) (Ev.now _)))
      · rw [if_neg (show ¬ (2 : Int) = 1 by decide), if_pos (show (2 : Int) = 2 from rfl)]
        have es := endN_spec l hj
        have s1 := specShift_ev t 0 j 0 (by decide) (by decide) (Nat.zero_le _) (by omega)
        have s2 := specShift_ev t (j + 1) (endN l j) (-1) (by decide) (by decide) (by omega) es.2.1
        have s3 := specShift_ev t (endN l j) l.length 0 (by decide) (by decide) es.2.1 (Nat.le_refl _)
        rw [sh_zero, List.drop_zero] at s1
        rw [sh_zero, List.take_length] at s3
        have l1 : (l.take j).length ≤ 24 := by rw [List.length_take]; omega
        have l2 : (sh (-1) ((l.take (endN l j)).drop (j + 1))).length ≤ 24 := by unfold sh; rw [List.length_map, List.length_drop, List.length_take]; omega
        have l3 : (l.drop (endN l j)).length ≤ 24 := by rw [List.length_drop]; omega
        refine Ev.ifF (show ¬ (2 : Int) = 1 by decide) (Ev.ifT (show (2 : Int) = 2 from rfl) (Ev.bind (specEndOf_ev l t j hj) (Ev.bind s1 ?_)))
        rw [wrapN (show j ≤ 1048576 by omega)]
        refine Ev.bind s2 (Ev.ifT (by omega) ?_)
        simp only [Option.bind_some]
        refine Ev.bind s3 (Ev.ifT (by rw [List.length_append]; omega) ?_)
        exact Ev.now _
      · rw [if_neg (show ¬ (3 : Int) = 1 by decide), if_neg (show ¬ (3 : Int) = 2 by decide), hq]
        have es := endN_spec l hj
        have c := t.chk j hj
        have := c.d0; have := c.d12
        have s1 := specShift_ev t 0 f 0 (by decide) (by decide) (Nat.zero_le _) (by omega)
        have s2 := specShift_ev t f e 1 (by decide) (by decide) hfe (by omega)
        have s3 := specShift_ev t e l.length 0 (by decide) (by decide) (by omega) (Nat.le_refl _)
        rw [sh_zero, List.drop_zero] at s1
        rw [sh_zero, List.take_length] at s3
        have l1 : (l.take f).length ≤ 24 := by rw [List.length_take]; omega
        have l2 : (sh 1 ((l.take e).drop f)).length ≤ 24 := by unfold sh; rw [List.length_map, List.length_drop, List.length_take]; omega
        have l3 : (l.drop e).length ≤ 24 := by rw [List.length_drop]; omega
        refine Ev.ifF (show ¬ (3 : Int) = 1 by decide) (Ev.ifF (show ¬ (3 : Int) = 2 by decide) (Ev.bind s1 (Ev.ifT (by omega) (Ev.ifT (by omega) ?_))))
        simp only [Option.bind_some, rd_dep, Int.toNat_natCast]
        rw [wrap_id (x := dep l j + 1) (by omega) (by omega)]
        refine Ev.ifT (by rw [List.length_singleton]; omega) (Ev.bind s2 (Ev.ifT (by rw [List.length_append, List.length_singleton]; omega) (Ev.bind s3 (Ev.ifT (by rw [List.length_append, List.length_append, List.length_singleton]; omega) ?_))))
        exact Ev.now _
    · rw [if_neg hc]
      exact Ev.ifF hc (Ev.now _)
  · rw [if_neg h]
    exact Ev.ifF h (Ev.now _)
theorem applyB_len (l : List NodeI) (kind : Int) (path : List Int) (lb fr cnt : Int) : (applyB l kind path lb fr cnt).1.length ≤ l.length + 1 := by
  unfold applyB
  by_cases h : trB l = true
  · rw [if_pos h]
    have t := (trB_iff l).1 h
    by_cases hc : (opB l kind lb fr cnt (nodeAt l path)).1 = 0
    · rw [if_pos hc]
      have hr : nodeAt l path < 0 ∨ ∃ j : Nat, nodeAt l path = j ∧ j < l.length := by
        rcases nodeAt_range t path with h1 | h1
        · exact .inl (by omega)
        · exact .inr h1
      obtain ⟨j, e, hj, hk⟩ := opB_ok t hr hc
      rw [e] at hc hk ⊢
      have es := endN_spec l hj
      rw [Int.toNat_natCast]
      unfold doneB
      rcases hk with ⟨rfl, _⟩ | ⟨rfl, h0⟩ | ⟨rfl, _, _, _, _, _, _, f, e, hq, _, _, hf, hfe, hee, _⟩
      · rw [if_pos (show (1 : Int) = 1 from rfl)]; simp
      · rw [if_neg (show ¬ (2 : Int) = 1 by decide), if_pos (show (2 : Int) = 2 from rfl)]
        unfold delN sh
        simp only [List.length_append, List.length_map, List.length_take, List.length_drop]
        omega
      · rw [if_neg (show ¬ (3 : Int) = 1 by decide), if_neg (show ¬ (3 : Int) = 2 by decide), hq]
        unfold insN sh
        simp only [List.length_append, List.length_map, List.length_take, List.length_drop, List.length_singleton, Int.toNat_natCast]
        omega
    · rw [if_neg hc]; exact Nat.le_succ _
  · rw [if_neg h]; simp
end Go.Proofs.Ytbifdckfglejkaa.Q
namespace Go.Proofs.Ytbifdckfglejkaa.Q
open Go.RowKit Go.Proofs.YtbifdckfglejkaaW.PrintWords Go.Proofs.YtbifdckfglejkaaW.PrintLast Go.Proofs.YtbifdckfglejkaaW.PrintMore Go.Proofs.Ytbifdckfglejkaa.X Go.Proofs.Ytbifdckfglejkaa.Rd
set_option linter.unusedVariables false
set_option linter.unusedSimpArgs false
structure Scr (n : Nat) (ops : List OpI) : Prop where
  len : ops.length ≤ n
  path : ∀ o ∈ ops, o.f1.length ≤ 26
theorem script_l {c : List Int} (d : Nat) : ∀ (ops : List OpI) (l : List NodeI) (i x : Int) (n m : Nat), Cur c i → Scr n ops → l.length ≤ m → m + d ≤ 90 → n + d ≤ 90 →
    ∃ r, Ev (fun k => spec_l13Script.l0 k ops l d c i x) r ∧ (Cur c r.2.1 ∧ Scr (n + d) r.1) := by
  induction d with
  | zero =>
    intro ops l i x n m hc hs hl _ _
    refine Ev.stepE (fun _ => rfl) ?_
    simp only [spec_l13Script.l0]
    exact Ev.ifE (fun h => absurd h (by decide)) (fun _ => ⟨_, Ev.now _, hc, hs⟩)
  | succ d ih =>
    intro ops l i x n m hc hs hl hm hn
    refine Ev.stepE (fun _ => rfl) ?_
    simp only [spec_l13Script.l0]
    refine Ev.ifP (by omega) ?_
    obtain ⟨r1, e1, c1, g1⟩ := op_ex hc x l (by omega)
    refine Ev.bindE e1 (Ev.bindE (specApplyOp_ev l (by omega) r1.1 r1.2.1 (by omega) r1.2.2.1 r1.2.2.2.1 r1.2.2.2.2.1) ?_)
    have hlen := applyB_len l r1.1 r1.2.1 r1.2.2.1 r1.2.2.2.1 r1.2.2.2.2.1
    generalize applyB l r1.1 r1.2.1 r1.2.2.1 r1.2.2.2.1 r1.2.2.2.2.1 = q at hlen
    have w : wrap64 (((d + 1 : Nat) : Int) - 1) = (d : Int) := by rw [wrap_id (by omega) (by omega)]; omega
    have hlo := hs.len
    have hs' : Scr (n + 1) (ops ++ [(⟨r1.1, r1.2.1, r1.2.2.1, r1.2.2.2.1, r1.2.2.2.2.1⟩ : OpI)]) := ⟨by rw [List.length_append, List.length_singleton]; omega, fun o ho => by
      rcases List.mem_append.1 ho with ho | ho
      · exact hs.path o ho
      · rw [List.mem_singleton.1 ho]; exact g1⟩
    have go : ∀ (b : Bool) (i' x' : Int), Cur c i' → ∃ r, Ev (fun k => spec_l13Script.j1 k ops l ((d + 1 : Nat) : Int) q.1 q.2 b c i' x' r1.1 r1.2.1 r1.2.2.1 r1.2.2.2.1 r1.2.2.2.2.1) r ∧ (Cur c r.2.1 ∧ Scr (n + (d + 1)) r.1) := fun b i' x' hc' => by
      refine Ev.stepE (fun _ => rfl) ?_
      simp only [spec_l13Script.j1, w, Option.bind_some]
      have k1 := ih (ops ++ [⟨r1.1, r1.2.1, r1.2.2.1, r1.2.2.2.1, r1.2.2.2.2.1⟩]) q.1 i' x' (n + 1) (m + 1) hc' hs' (by omega) (by omega) (by omega)
      have k2 := ih (ops ++ [⟨r1.1, r1.2.1, r1.2.2.1, r1.2.2.2.1, r1.2.2.2.2.1⟩]) l i' x' (n + 1) m hc' hs' hl (by omega) (by omega)
      have k3 := ih ops q.1 i' x' n (m + 1) hc' hs (by omega) (by omega) (by omega)
      have k4 := ih ops l i' x' n m hc' hs hl (by omega) (by omega)
      rw [show n + 1 + d = n + (d + 1) by omega] at k1 k2
      have up : ∀ {g : Nat → Option (List OpI × Int × Int)}, (∃ r, Ev g r ∧ (Cur c r.2.1 ∧ Scr (n + d) r.1)) → ∃ r, Ev g r ∧ (Cur c r.2.1 ∧ Scr (n + (d + 1)) r.1) := fun ⟨r, h1, h2, h3⟩ => ⟨r, h1, h2, ⟨Nat.le_trans h3.len (by omega), h3.path⟩⟩
      exact Ev.ifE (fun _ => Ev.ifP (by omega) (Ev.ifE (fun _ => k1) (fun _ => k2))) (fun _ => Ev.ifE (fun _ => up k3) (fun _ => up k4))
    refine Ev.ifE (fun _ => go true _ _ c1) (fun _ => ?_)
    obtain ⟨r2, j2, y2, e2, c2⟩ := once_ex c1 r1.2.2.2.2.2.2 3 (by omega)
    exact Ev.bindO e2 (go r2 j2 y2 c2)
theorem drawAll_ex (c : List Int) (hl : c.length ≤ 1048576) : ∃ r, Ev (fun k => spec_DrawApplyAll.f k c) r ∧ (r.1.length ≤ 26 ∧ Scr 7 r.2) := by
  unfold spec_DrawApplyAll.f
  obtain ⟨y, hy⟩ := new_ex c hl
  refine Ev.bindE hy ?_
  obtain ⟨r1, e1, c1, g1⟩ := l3Any_ex (cur0 hl) y 8 (by omega) (by omega)
  refine Ev.bindE e1 ?_
  have hlen := g1.len
  have hs : ∃ r, Ev (fun k => spec_l13Script.f k c r1.2.1 r1.2.2 r1.1 7) r ∧ (Cur c r.2.1 ∧ Scr 7 r.1) := by
    unfold spec_l13Script.f
    refine Ev.bindO (copy_eq r1.1 (by omega)) ?_
    obtain ⟨r2, j2, y2, e2, c2, q0, q1, _⟩ := below_ex c1 r1.2.2 7 (by omega)
    have q2 := q1 (by omega)
    refine Ev.bindO e2 ?_
    obtain ⟨d, rfl⟩ := Int.eq_ofNat_of_zero_le q0
    obtain ⟨r, h1, h2, h3⟩ := script_l d [] r1.1 j2 y2 0 26 c2 ⟨by simp, by simp⟩ hlen (by omega) (by omega)
    exact ⟨r, h1, h2, ⟨Nat.le_trans h3.len (by omega), h3.path⟩⟩
  obtain ⟨r3, e3, _, g3⟩ := hs
  exact Ev.bindE e3 ⟨_, Ev.now _, g1.len, g3⟩
end Go.Proofs.Ytbifdckfglejkaa.Q
namespace Go.Proofs.Ytbifdckfglejkaa.Q
open Go.RowKit Go.Proofs.YtbifdckfglejkaaW.PrintWords Go.Proofs.YtbifdckfglejkaaW.PrintLast Go.Proofs.YtbifdckfglejkaaW.PrintMore Go.Proofs.Ytbifdckfglejkaa.X Go.Proofs.Ytbifdckfglejkaa.Rd
set_option linter.unusedVariables false
set_option linter.unusedSimpArgs false
theorem nd_get {l : List NodeI} {p : Nat} {x : NodeI} (h : l[p]? = some x) : nd l p = x := by
  simp [nd, List.getD_eq_getElem?_getD, h]
theorem get_nd {l : List NodeI} {p : Nat} (h : p < l.length) : l[p]? = some (nd l p) := by
  rw [List.getElem?_eq_getElem h, nd, getD_lt l _ h]
theorem del_len {l : List NodeI} {i : Nat} (hi : i < l.length) : (delN l i).length + 1 = l.length := by
  have es := endN_spec l hi
  unfold delN sh
  simp only [List.length_append, List.length_map, List.length_take, List.length_drop]
  omega
theorem nd_del {l : List NodeI} {i : Nat} (hi : i < l.length) {p : Nat} (hp : p + 1 < l.length) :
    nd (delN l i) p = if p < i then nd l p else if p + 1 < endN l i then ⟨(nd l (p + 1)).f0, (nd l (p + 1)).f1 + -1⟩ else nd l (p + 1) := by
  have es := endN_spec l hi
  have l1 : (l.take i).length = i := by rw [List.length_take]; omega
  have l2 : (sh (-1) ((l.take (endN l i)).drop (i + 1))).length = endN l i - (i + 1) := by unfold sh; rw [List.length_map, List.length_drop, List.length_take]; omega
  apply nd_get
  unfold delN
  rw [List.append_assoc]
  by_cases c : p < i
  · rw [if_pos c, List.getElem?_append_left (by omega), List.getElem?_take_of_lt c]
    exact get_nd (by omega)
  · rw [if_neg c, List.getElem?_append_right (by omega), l1]
    by_cases c2 : p + 1 < endN l i
    · rw [if_pos c2, List.getElem?_append_left (by omega)]
      unfold sh
      rw [List.getElem?_map, List.getElem?_drop, List.getElem?_take_of_lt (by omega), show i + 1 + (p - i) = p + 1 by omega, get_nd hp]
      rfl
    · rw [if_neg c2, List.getElem?_append_right (by omega), l2, List.getElem?_drop, show endN l i + (p - i - (endN l i - (i + 1))) = p + 1 by omega]
      exact get_nd hp
theorem lab_del {l : List NodeI} {i : Nat} (hi : i < l.length) {p : Nat} (hp : p + 1 < l.length) : lab (delN l i) p = lab l (if p < i then p else p + 1) := by
  unfold lab
  rw [nd_del hi hp]
  by_cases c : p < i
  · rw [if_pos c, if_pos c]
  · rw [if_neg c, if_neg c]
    by_cases c2 : p + 1 < endN l i
    · rw [if_pos c2]
    · rw [if_neg c2]
theorem dep_del {l : List NodeI} {i : Nat} (hi : i < l.length) {p : Nat} (hp : p + 1 < l.length) : dep (delN l i) p = if p < i then dep l p else if p + 1 < endN l i then dep l (p + 1) - 1 else dep l (p + 1) := by
  unfold dep
  rw [nd_del hi hp]
  by_cases c : p < i
  · rw [if_pos c, if_pos c]
  · rw [if_neg c, if_neg c]
    by_cases c2 : p + 1 < endN l i
    · rw [if_pos c2, if_pos c2]; show _ + -1 = _; omega
    · rw [if_neg c2, if_neg c2]
theorem del_tr {l : List NodeI} (t : Tr l) {i : Nat} (hi : i < l.length) (h0 : 0 < i) : Tr (delN l i) := by
  have hl := del_len hi
  have h24 := t.len24
  have es := endN_spec l hi
  have ci := t.chk i hi
  have ip := ci.pos h0
  have ist := ci.step h0
  refine ⟨by omega, by omega, fun p hp => ?_⟩
  have hp' : p + 1 < l.length := by omega
  have c0 := t.chk p (by omega)
  have c1 := t.chk (p + 1) hp'
  have e := dep_del hi hp'
  have el := lab_del hi hp'
  have st1 := c1.step (by omega)
  have p1 := c1.pos (by omega)
  have a0 := c0.l0; have a1 := c0.l5; have a2 := c0.d0; have a3 := c0.d12
  have b0 := c1.l0; have b1 := c1.l5; have b2 := c1.d0; have b3 := c1.d12
  rw [Nat.add_sub_cancel] at st1
  refine ⟨?_, ?_, ?_, ?_, ?_, ?_, ?_⟩
  · rw [el]; split <;> assumption
  · rw [el]; split <;> assumption
  · rw [e]; split
    · exact a2
    · split
      · omega
      · exact b2
  · rw [e]; split
    · exact a3
    · split <;> omega
  · intro hz
    subst hz
    rw [e, if_pos h0]
    exact c0.root rfl
  · intro hpos
    rw [e]
    split
    · exact c0.pos hpos
    · split
      · have := es.2.2.1 (p + 1) (by omega) (by omega)
        omega
      · exact p1
  · intro hpos
    have e' := dep_del hi (p := p - 1) (by omega)
    rw [show p - 1 + 1 = p by omega] at e'
    rw [e, e']
    have st0 := c0.step hpos
    by_cases k1 : p < i
    · rw [if_pos k1, if_pos (by omega)]; exact st0
    · rw [if_neg k1]
      by_cases k2 : p = i
      · subst k2
        rw [if_pos (show p - 1 < p by omega)]
        by_cases k3 : p + 1 < endN l p
        · rw [if_pos k3]; omega
        · rw [if_neg k3]
          have k4 : endN l p = p + 1 := by omega
          have := es.2.2.2 (by omega)
          rw [k4] at this
          omega
      · rw [if_neg (show ¬ p - 1 < i by omega)]
        by_cases k3 : p + 1 < endN l i
        · rw [if_pos k3, if_pos (show p < endN l i by omega)]; omega
        · rw [if_neg k3]
          by_cases k4 : p < endN l i
          · rw [if_pos k4]
            have k5 : endN l i = p + 1 := by omega
            have k6 := es.2.2.2 (by omega)
            rw [k5] at k6
            have k7 := es.2.2.1 p (by omega) k4
            omega
          · rw [if_neg k4]; exact st1
theorem ins_len {l : List NodeI} {f e : Nat} (hfe : f ≤ e) (he : e ≤ l.length) (x : NodeI) : (insN l f e x).length = l.length + 1 := by
  unfold insN sh
  simp only [List.length_append, List.length_map, List.length_take, List.length_drop, List.length_singleton]
  omega
theorem nd_ins {l : List NodeI} {f e : Nat} (hfe : f ≤ e) (he : e ≤ l.length) (x : NodeI) {p : Nat} (hp : p ≤ l.length) :
    nd (insN l f e x) p = if p < f then nd l p else if p = f then x else if p ≤ e then ⟨(nd l (p - 1)).f0, (nd l (p - 1)).f1 + 1⟩ else nd l (p - 1) := by
  have l1 : (l.take f).length = f := by rw [List.length_take]; omega
  have l2 : (sh 1 ((l.take e).drop f)).length = e - f := by unfold sh; rw [List.length_map, List.length_drop, List.length_take]; omega
  apply nd_get
  unfold insN
  rw [List.append_assoc, List.append_assoc]
  by_cases c : p < f
  · rw [if_pos c, List.getElem?_append_left (by omega), List.getElem?_take_of_lt c]
    exact get_nd (by omega)
  · rw [if_neg c, List.getElem?_append_right (by omega), l1]
    by_cases c1 : p = f
    · rw [if_pos c1, show p - f = 0 by omega]; rfl
    · rw [if_neg c1, List.getElem?_append_right (by rw [List.length_singleton]; omega), List.length_singleton]
      by_cases c2 : p ≤ e
      · rw [if_pos c2, List.getElem?_append_left (by omega)]
        unfold sh
        rw [List.getElem?_map, List.getElem?_drop, List.getElem?_take_of_lt (by omega), show f + (p - f - 1) = p - 1 by omega, get_nd (by omega)]
        rfl
      · rw [if_neg c2, List.getElem?_append_right (by omega), l2, List.getElem?_drop, show e + (p - f - 1 - (e - f)) = p - 1 by omega]
        exact get_nd (by omega)
theorem lab_ins {l : List NodeI} {f e : Nat} (hfe : f ≤ e) (he : e ≤ l.length) (x : NodeI) {p : Nat} (hp : p ≤ l.length) : lab (insN l f e x) p = if p < f then lab l p else if p = f then x.f0 else lab l (p - 1) := by
  unfold lab
  rw [nd_ins hfe he x hp]
  by_cases c : p < f
  · rw [if_pos c, if_pos c]
  · rw [if_neg c, if_neg c]
    by_cases c1 : p = f
    · rw [if_pos c1, if_pos c1]
    · rw [if_neg c1, if_neg c1]
      split <;> rfl
theorem dep_ins {l : List NodeI} {f e : Nat} (hfe : f ≤ e) (he : e ≤ l.length) (x : NodeI) {p : Nat} (hp : p ≤ l.length) : dep (insN l f e x) p = if p < f then dep l p else if p = f then x.f1 else if p ≤ e then dep l (p - 1) + 1 else dep l (p - 1) := by
  unfold dep
  rw [nd_ins hfe he x hp]
  by_cases c : p < f
  · rw [if_pos c, if_pos c]
  · rw [if_neg c, if_neg c]
    by_cases c1 : p = f
    · rw [if_pos c1, if_pos c1]
    · rw [if_neg c1, if_neg c1]
      split <;> rfl
theorem deepN_le (l : List NodeI) (n : Nat) : ∀ (k : Nat) (d m : Int), deepN l n k d ≤ m → d ≤ m ∧ ∀ y, k ≤ y → y < k + n → dep l y + 1 ≤ m := by
  induction n with
  | zero => intro k d m h; exact ⟨h, fun y h1 h2 => by omega⟩
  | succ n ih =>
    intro k d m h
    obtain ⟨h1, h2⟩ := ih (k + 1) _ m h
    rw [mx_eq] at h1
    refine ⟨by omega, fun y h3 h4 => ?_⟩
    by_cases e : y = k
    · subst e; omega
    · exact h2 y (by omega) (by omega)
structure Adopts (l : List NodeI) (j f e : Nat) : Prop where
  lo : j < f
  mid : f ≤ e
  hi : e ≤ endN l j
  kf : f < endN l j → dep l f = dep l j + 1
  ke : e < endN l j → dep l e = dep l j + 1
theorem bounds_kid {l : List NodeI} (t : Tr l) {j : Nat} (hj : j < l.length) {x : Nat} (hx : x ≤ (kidsOf l j).length) {e : Nat} (he : (bounds l (kidsOf l j) j).getD x 0 = e) : e < endN l j → dep l e = dep l j + 1 := by
  intro hlt
  unfold bounds at he
  by_cases c : x < (kidsOf l j).length
  · rw [List.getD_eq_getElem?_getD, List.getElem?_append_left c, List.getElem?_eq_getElem c] at he
    obtain ⟨q, h1, h2, h3, h4⟩ := (kidsOf_mem t hj ((kidsOf l j)[x])).1 (List.getElem_mem c)
    have : (kidsOf l j)[x] = (e : Int) := he
    have : q = e := by omega
    subst this
    exact h4
  · have e2 : x = (kidsOf l j).length := by omega
    subst e2
    rw [List.getD_eq_getElem?_getD, List.getElem?_append_right (Nat.le_refl _)] at he
    simp at he
    omega
theorem ins_tr {l : List NodeI} (t : Tr l) {j f e : Nat} (hj : j < l.length) (ad : Adopts l j f e) (h24 : l.length < 24) {lb : Int} (l0 : 0 ≤ lb) (l5 : lb ≤ 5) (hd : deepN l (e - f) f (dep l j + 1) ≤ 12) : Tr (insN l f e ⟨lb, dep l j + 1⟩) := by
  have es := endN_spec l hj
  have hfe := ad.mid
  have hlo := ad.lo
  have hhi := ad.hi
  have he : e ≤ l.length := by omega
  have cj := t.chk j hj
  have j0 := cj.d0
  obtain ⟨hd1, hd2⟩ := deepN_le l _ _ _ _ hd
  have hl := ins_len hfe he ⟨lb, dep l j + 1⟩
  refine ⟨by omega, by omega, fun p hp => ?_⟩
  have hpl : p ≤ l.length := by omega
  have ed := dep_ins hfe he ⟨lb, dep l j + 1⟩ hpl
  have el := lab_ins hfe he ⟨lb, dep l j + 1⟩ hpl
  simp only at ed el
  have ch : ∀ q, q < l.length → (0 ≤ lab l q ∧ lab l q ≤ 5 ∧ 0 ≤ dep l q ∧ dep l q ≤ 12) := fun q hq => by
    have c := t.chk q hq
    exact ⟨c.l0, c.l5, c.d0, c.d12⟩
  refine ⟨?_, ?_, ?_, ?_, ?_, ?_, ?_⟩
  · rw [el]; split
    · exact (ch p (by omega)).1
    · split
      · exact l0
      · exact (ch (p - 1) (by omega)).1
  · rw [el]; split
    · exact (ch p (by omega)).2.1
    · split
      · exact l5
      · exact (ch (p - 1) (by omega)).2.1
  · rw [ed]; split
    · exact (ch p (by omega)).2.2.1
    · split
      · omega
      · have := (ch (p - 1) (by omega)).2.2.1
        split <;> omega
  · rw [ed]; split
    · exact (ch p (by omega)).2.2.2
    · split
      · omega
      · split
        · exact hd2 (p - 1) (by omega) (by omega)
        · exact (ch (p - 1) (by omega)).2.2.2
  · intro hz
    subst hz
    rw [ed, if_pos (by omega)]
    exact (t.chk 0 (by omega)).root rfl
  · intro hpos
    rw [ed]
    split
    · exact (t.chk p (by omega)).pos hpos
    · split
      · omega
      · split
        · have := (ch (p - 1) (by omega)).2.2.1; omega
        · exact (t.chk (p - 1) (by omega)).pos (by omega)
  · intro hpos
    have ed' := dep_ins hfe he ⟨lb, dep l j + 1⟩ (p := p - 1) (by omega)
    simp only at ed'
    rw [ed, ed']
    by_cases k1 : p < f
    · rw [if_pos k1, if_pos (by omega)]
      exact (t.chk p (by omega)).step hpos
    · rw [if_neg k1]
      by_cases k2 : p = f
      · rw [if_pos k2, if_pos (by omega)]
        by_cases k3 : p - 1 = j
        · rw [k3]; omega
        · have := es.2.2.1 (p - 1) (by omega) (by omega)
          omega
      · rw [if_neg k2]
        by_cases k3 : p = f + 1
        · subst k3
          rw [Nat.add_sub_cancel, if_neg (Nat.lt_irrefl f), if_pos (show f = f from rfl)]
          by_cases k4 : f + 1 ≤ e
          · rw [if_pos k4]
            have := ad.kf (by omega)
            omega
          · rw [if_neg k4]
            by_cases k5 : f < endN l j
            · have := ad.kf k5; omega
            · have k6 : endN l j = f := by omega
              have := es.2.2.2 (by omega)
              rw [k6] at this
              omega
        · rw [if_neg (show ¬ p - 1 < f by omega), if_neg (show ¬ p - 1 = f by omega)]
          have st := (t.chk (p - 1) (by omega)).step (by omega)
          by_cases k4 : p ≤ e
          · rw [if_pos k4, if_pos (by omega)]; omega
          · rw [if_neg k4]
            split <;> omega
theorem set_tr {l : List NodeI} (t : Tr l) {i : Nat} (hi : i < l.length) {lb : Int} (l0 : 0 ≤ lb) (l5 : lb ≤ 5) : Tr (l.set i ⟨lb, dep l i⟩) := by
  have e : ∀ p, p < l.length → dep (l.set i ⟨lb, dep l i⟩) p = dep l p ∧ (lab (l.set i ⟨lb, dep l i⟩) p = if p = i then lb else lab l p) := by
    intro p hp
    have h : nd (l.set i ⟨lb, dep l i⟩) p = if p = i then ⟨lb, dep l i⟩ else nd l p := by
      apply nd_get
      rw [List.getElem?_set]
      by_cases c : i = p
      · rw [if_pos c, if_pos hi, if_pos c.symm]
      · rw [if_neg c, if_neg (fun h => c h.symm)]; exact get_nd hp
    by_cases c : p = i
    · rw [if_pos c] at h ⊢
      refine ⟨?_, ?_⟩
      · show (nd _ p).f1 = _
        rw [h, c]
      · show (nd _ p).f0 = _
        rw [h]
    · rw [if_neg c] at h ⊢
      refine ⟨?_, ?_⟩
      · show (nd _ p).f1 = _
        rw [h]; rfl
      · show (nd _ p).f0 = _
        rw [h]; rfl
  have hl : (l.set i ⟨lb, dep l i⟩).length = l.length := List.length_set
  have h1 := t.len1
  refine ⟨by rw [hl]; exact t.len1, by rw [hl]; exact t.len24, fun p hp => ?_⟩
  rw [hl] at hp
  have c := t.chk p hp
  obtain ⟨e1, e2⟩ := e p hp
  refine ⟨?_, ?_, by rw [e1]; exact c.d0, by rw [e1]; exact c.d12, fun hz => by rw [(e 0 (by omega)).1]; exact c.root hz, fun hz => by rw [e1]; exact c.pos hz, fun hz => by rw [e1, (e (p - 1) (by omega)).1]; exact c.step hz⟩
  · rw [e2]; split
    · exact l0
    · exact c.l0
  · rw [e2]; split
    · exact l5
    · exact c.l5
inductive Did (l : List NodeI) (kind : Int) (path : List Int) (lb fr cnt : Int) (l' : List NodeI) : Prop where
  | set (j : Nat) (hn : nodeAt l path = j) (hj : j < l.length) (hk : kind = 1) (h0 : 0 ≤ lb) (h5 : lb ≤ 5) (e : l' = l.set j ⟨lb, dep l j⟩)
  | del (j : Nat) (hn : nodeAt l path = j) (hj : j < l.length) (hk : kind = 2) (h0 : 0 < j) (e : l' = delN l j)
  | ins (j f x : Nat) (hn : nodeAt l path = j) (hj : j < l.length) (hk : kind = 3) (h0 : 0 ≤ lb) (h5 : lb ≤ 5) (h24 : l.length < 24) (f0 : 0 ≤ fr) (c0 : 0 ≤ cnt) (fc : fr + cnt ≤ (kidsOf l j).length)
      (hf : (bounds l (kidsOf l j) j).getD fr.toNat 0 = f) (hx : (bounds l (kidsOf l j) j).getD (fr + cnt).toNat 0 = x) (ad : Adopts l j f x) (hd : deepN l (x - f) f (dep l j + 1) ≤ 12) (e : l' = insN l f x ⟨lb, dep l j + 1⟩)
theorem applyB_did {l : List NodeI} (t : Tr l) {kind : Int} {path : List Int} {lb fr cnt : Int} (h : (applyB l kind path lb fr cnt).2 = 0) : Did l kind path lb fr cnt (applyB l kind path lb fr cnt).1 := by
  unfold applyB at h ⊢
  rw [if_pos (trB_true t)] at h ⊢
  have hr : nodeAt l path < 0 ∨ ∃ j : Nat, nodeAt l path = j ∧ j < l.length := by
    rcases nodeAt_range t path with h1 | h1
    · exact .inl (by omega)
    · exact .inr h1
  by_cases hc : (opB l kind lb fr cnt (nodeAt l path)).1 = 0
  · rw [if_pos hc]
    obtain ⟨j, e, hj, hk⟩ := opB_ok t hr hc
    rw [e] at hc hk ⊢
    rw [Int.toNat_natCast]
    unfold doneB
    rcases hk with ⟨rfl, h0, h5⟩ | ⟨rfl, h0⟩ | ⟨rfl, h0, h5, h24, f0, c0, fc, f, x, hq, hf, hx, hlo, hmid, hhi, hd⟩
    · rw [if_pos (show (1 : Int) = 1 from rfl)]
      exact .set j e hj rfl h0 h5 rfl
    · rw [if_neg (show ¬ (2 : Int) = 1 by decide), if_pos (show (2 : Int) = 2 from rfl)]
      exact .del j e hj rfl h0 rfl
    · rw [if_neg (show ¬ (3 : Int) = 1 by decide), if_neg (show ¬ (3 : Int) = 2 by decide), hq]
      simp only [Int.toNat_natCast]
      exact .ins j f x e hj rfl h0 h5 h24 f0 c0 fc hf hx ⟨hlo, hmid, hhi, bounds_kid t hj (by omega) hf, bounds_kid t hj (by omega) hx⟩ hd rfl
  · rw [if_neg hc] at h
    exact absurd h hc
theorem Did.tr {l l' : List NodeI} (t : Tr l) {kind : Int} {path : List Int} {lb fr cnt : Int} (h : Did l kind path lb fr cnt l') : Tr l' := by
  cases h with
  | set j hn hj hk h0 h5 e => subst e; exact set_tr t hj h0 h5
  | del j hn hj hk h0 e => subst e; exact del_tr t hj h0
  | ins j f x hn hj hk h0 h5 h24 f0 c0 fc hf hx ad hd e => subst e; exact ins_tr t hj ad h24 h0 h5 hd
theorem applyB_tr {l : List NodeI} (t : Tr l) (kind : Int) (path : List Int) (lb fr cnt : Int) : Tr (applyB l kind path lb fr cnt).1 := by
  by_cases h : (applyB l kind path lb fr cnt).2 = 0
  · exact (applyB_did t h).tr t
  · have e : (applyB l kind path lb fr cnt).1 = l := by
      unfold applyB at h ⊢
      rw [if_pos (trB_true t)] at h ⊢
      by_cases hc : (opB l kind lb fr cnt (nodeAt l path)).1 = 0
      · rw [if_pos hc] at h; exact absurd rfl h
      · rw [if_neg hc]
    rw [e]; exact t
end Go.Proofs.Ytbifdckfglejkaa.Q
namespace Go.Proofs.Ytbifdckfglejkaa.Q
open Go.RowKit Go.Proofs.YtbifdckfglejkaaW.PrintWords Go.Proofs.YtbifdckfglejkaaW.PrintLast Go.Proofs.YtbifdckfglejkaaW.PrintMore Go.Proofs.Ytbifdckfglejkaa.X Go.Proofs.Ytbifdckfglejkaa.Rd
set_option linter.unusedVariables false
set_option linter.unusedSimpArgs false
noncomputable def ap1 (l : List NodeI) (o : OpI) : List NodeI × Int := applyB l o.f0 o.f1 o.f2 o.f3 o.f4
noncomputable def aaGo : List OpI → List NodeI → Nat → List NodeI × Int × Int
  | [], l, n => (l, (n : Int), 0)
  | o :: os, l, n => if (ap1 l o).2 = 0 then aaGo os (ap1 l o).1 (n + 1) else (l, (n : Int), (ap1 l o).2)
noncomputable def allB (l : List NodeI) (ops : List OpI) : List NodeI × Int × Int := if trB l = true then aaGo ops l 0 else ([], 0, 2)
theorem ap1_tr {l : List NodeI} (t : Tr l) (o : OpI) : Tr (ap1 l o).1 := applyB_tr t _ _ _ _ _
theorem implAll_l (ops : List OpI) (hops : ops.length ≤ 1048576) (hp : ∀ o ∈ ops, o.f1.length ≤ 1048576) (d : Nat) : ∀ (j : Nat) (l : List NodeI), Tr l → j + d = ops.length → Ev (fun k => impl_ApplyAll.l0 k ops l ops ops.length j) (aaGo (ops.drop j) l j) := by
  induction d with
  | zero =>
    intro j l t hj
    rw [List.drop_of_length_le (by omega)]
    refine Ev.step (fun _ => rfl) ?_
    simp only [impl_ApplyAll.l0, aaGo]
    rw [show (ops.length : Int) = (j : Int) by omega]
    exact Ev.ifF (by omega) (Ev.now _)
  | succ d ih =>
    intro j l t hj
    have hlt : j < ops.length := by omega
    have h24 := t.len24
    rw [List.drop_eq_getElem_cons hlt]
    have ero : rd_T67 ops (j : Int) = ops[j] := getD_nat ops j _ hlt
    refine Ev.step (fun _ => rfl) ?_
    simp only [impl_ApplyAll.l0, ero, aaGo]
    rw [wrapN (show j ≤ 1048576 by omega)]
    refine Ev.ifT (by omega) (Ev.ifT (by omega) (Ev.ifT (by omega) (Ev.bind (implApplyOp_ev l (by omega) _ _ (hp _ (List.getElem_mem hlt)) _ _ _) ?_)))
    by_cases hc : (ap1 l ops[j]).2 = 0
    · rw [if_pos hc]
      exact Ev.ifT hc (ih (j + 1) _ (ap1_tr t _) (by omega))
    · rw [if_neg hc]
      exact Ev.ifF hc (Ev.now _)
theorem implAll_ev (l : List NodeI) (ops : List OpI) (hops : ops.length ≤ 1048576) (hp : ∀ o ∈ ops, o.f1.length ≤ 1048576) : Ev (fun k => impl_ApplyAll.f k l ops) (allB l ops) := by
  unfold impl_ApplyAll.f allB
  refine Ev.bind (implTreeOk_ev l) ?_
  by_cases h : trB l = true
  · have t := (trB_iff l).1 h
    have h24 := t.len24
    rw [if_pos h]
    exact Ev.ifT h (Ev.bindC (by rw [clone_Node.f, if_pos (by omega)]) (implAll_l ops hops hp ops.length 0 l t (by omega)))
  · rw [if_neg h]
    exact Ev.ifF h (Ev.now _)
theorem specAll_l (ops : List OpI) (hops : ops.length ≤ 1048576) (hp : ∀ o ∈ ops, o.f1.length ≤ 1048576) (d : Nat) : ∀ (j : Nat) (l : List NodeI), Tr l → j + d = ops.length → Ev (fun k => spec_ApplyAll.l0 k ops l j) (aaGo (ops.drop j) l j) := by
  induction d with
  | zero =>
    intro j l t hj
    rw [List.drop_of_length_le (by omega)]
    refine Ev.step (fun _ => rfl) ?_
    simp only [spec_ApplyAll.l0, aaGo]
    rw [show (ops.length : Int) = (j : Int) by omega]
    exact Ev.ifF (by omega) (Ev.now _)
  | succ d ih =>
    intro j l t hj
    have hlt : j < ops.length := by omega
    have h24 := t.len24
    rw [List.drop_eq_getElem_cons hlt]
    have ero : rd_T67 ops (j : Int) = ops[j] := getD_nat ops j _ hlt
    refine Ev.step (fun _ => rfl) ?_
    simp only [spec_ApplyAll.l0, ero, aaGo]
    rw [wrapN (show j ≤ 1048576 by omega)]
    refine Ev.ifT (by omega) (Ev.ifT (by omega) (Ev.bind (specApplyOp_ev l (by omega) _ _ (hp _ (List.getElem_mem hlt)) _ _ _) ?_))
    by_cases hc : (ap1 l ops[j]).2 = 0
    · rw [if_pos hc]
      exact Ev.ifT hc (ih (j + 1) _ (ap1_tr t _) (by omega))
    · rw [if_neg hc]
      exact Ev.ifF hc (Ev.now _)
theorem specAll_ev (l : List NodeI) (hl : l.length ≤ 9223372036854775807) (ops : List OpI) (hops : ops.length ≤ 1048576) (hp : ∀ o ∈ ops, o.f1.length ≤ 1048576) : Ev (fun k => spec_ApplyAll.f k l ops) (allB l ops) := by
  unfold spec_ApplyAll.f allB
  refine Ev.bind (specTreeOk_ev l hl) ?_
  by_cases h : trB l = true
  · have t := (trB_iff l).1 h
    have h24 := t.len24
    rw [if_pos h]
    exact Ev.ifT h (Ev.bindC (copy_eq l (by omega)) (specAll_l ops hops hp ops.length 0 l t (by omega)))
  · rw [if_neg h]
    exact Ev.ifF h (Ev.now _)
theorem aaGo_n (ops : List OpI) : ∀ (l : List NodeI) (n : Nat), ∃ m : Nat, (aaGo ops l n).2.1 = m ∧ n ≤ m ∧ m ≤ n + ops.length ∧ (m = n + ops.length ↔ (aaGo ops l n).2.2 = 0) := by
  induction ops with
  | nil => intro l n; exact ⟨n, rfl, Nat.le_refl _, Nat.le_refl _, ⟨fun _ => rfl, fun _ => rfl⟩⟩
  | cons o os ih =>
    intro l n
    simp only [aaGo]
    by_cases hc : (ap1 l o).2 = 0
    · rw [if_pos hc]
      obtain ⟨m, h1, h2, h3, h4⟩ := ih (ap1 l o).1 (n + 1)
      refine ⟨m, h1, by omega, by simp only [List.length_cons]; omega, ?_⟩
      rw [← h4]; simp only [List.length_cons]; omega
    · rw [if_neg hc]
      refine ⟨n, rfl, Nat.le_refl _, by omega, ?_⟩
      simp only [List.length_cons]
      constructor
      · intro h; omega
      · intro h; exact absurd h hc
theorem aaGo_tr (ops : List OpI) : ∀ (l : List NodeI) (n : Nat), Tr l → Tr (aaGo ops l n).1 := by
  induction ops with
  | nil => intro l n t; exact t
  | cons o os ih =>
    intro l n t
    simp only [aaGo]
    by_cases hc : (ap1 l o).2 = 0
    · rw [if_pos hc]; exact ih _ _ (ap1_tr t o)
    · rw [if_neg hc]; exact t
theorem aaGo_split (k : Nat) : ∀ (ops : List OpI) (l : List NodeI) (n s : Nat), ((n + k : Nat) : Int) ≤ (aaGo ops l n).2.1 → ∃ z : List NodeI, aaGo (ops.take k) l n = (z, ((n + k : Nat) : Int), 0) ∧ (aaGo (ops.drop k) z s).1 = (aaGo ops l n).1 ∧ (aaGo (ops.drop k) z s).2.1 = (aaGo ops l n).2.1 - n - k + s ∧ (aaGo (ops.drop k) z s).2.2 = (aaGo ops l n).2.2 := by
  have shift : ∀ (ops : List OpI) (l : List NodeI) (n s : Nat), (aaGo ops l s).1 = (aaGo ops l n).1 ∧ (aaGo ops l s).2.1 = (aaGo ops l n).2.1 - n + s ∧ (aaGo ops l s).2.2 = (aaGo ops l n).2.2 := by
    intro ops
    induction ops with
    | nil => intro l n s; exact ⟨rfl, by simp only [aaGo]; omega, rfl⟩
    | cons o os ih =>
      intro l n s
      simp only [aaGo]
      by_cases hc : (ap1 l o).2 = 0
      · rw [if_pos hc, if_pos hc]
        obtain ⟨h1, h2, h3⟩ := ih (ap1 l o).1 (n + 1) (s + 1)
        exact ⟨h1, by rw [h2]; omega, h3⟩
      · rw [if_neg hc, if_neg hc]
        exact ⟨rfl, by simp only; omega, rfl⟩
  induction k with
  | zero =>
    intro ops l n s _
    refine ⟨l, rfl, ?_⟩
    obtain ⟨h1, h2, h3⟩ := shift ops l n s
    exact ⟨h1, by rw [List.drop_zero, h2]; omega, h3⟩
  | succ k ih =>
    intro ops l n s hk
    cases ops with
    | nil => simp only [aaGo] at hk; omega
    | cons o os =>
      simp only [aaGo] at hk
      by_cases hc : (ap1 l o).2 = 0
      · rw [if_pos hc] at hk
        obtain ⟨z, h1, h2, h3, h4⟩ := ih os (ap1 l o).1 (n + 1) s (by rw [show n + 1 + k = n + (k + 1) by omega]; exact hk)
        refine ⟨z, ?_, ?_, ?_, ?_⟩
        · simp only [List.take_succ_cons, aaGo]
          rw [if_pos hc, h1, show n + 1 + k = n + (k + 1) by omega]
        · simp only [List.drop_succ_cons, aaGo]
          rw [if_pos hc, h2]
        · simp only [List.drop_succ_cons, aaGo]
          rw [if_pos hc, h3]; omega
        · simp only [List.drop_succ_cons, aaGo]
          rw [if_pos hc, h4]
      · rw [if_neg hc] at hk
        simp only at hk
        omega
end Go.Proofs.Ytbifdckfglejkaa.Q
namespace Go.Proofs.Ytbifdckfglejkaa.Q
open Go.RowKit Go.Proofs.YtbifdckfglejkaaW.PrintWords Go.Proofs.YtbifdckfglejkaaW.PrintLast Go.Proofs.YtbifdckfglejkaaW.PrintMore Go.Proofs.Ytbifdckfglejkaa.X Go.Proofs.Ytbifdckfglejkaa.Rd
set_option linter.unusedVariables false
set_option linter.unusedSimpArgs false
theorem cutAt_ex (c : List Int) (hl : c.length ≤ 1048576) (hb : ∀ x ∈ c, 0 ≤ x ∧ x ≤ 255) (n : Nat) (hn : n ≤ 1000) : ∃ k : Nat, laws_cutAt.f c 0 n = some (k : Int) ∧ k ≤ n := by
  unfold laws_cutAt.f
  obtain ⟨r, e, r0, r1⟩ := at_ex c hl hb 0 (by omega) (by omega)
  rw [e]
  simp only [Option.bind_some]
  have hm : 0 ≤ r * ((n : Int) + 1) := Int.mul_nonneg r0 (by omega)
  have hm2 : r * ((n : Int) + 1) ≤ 255 * ((n : Int) + 1) := Int.mul_le_mul_of_nonneg_right r1 (by omega)
  rw [wrap_id (x := (n : Int) + 1) (by omega) (by omega), wrap_id (x := r * ((n : Int) + 1)) (by omega) (by omega), Int.tdiv_eq_ediv_of_nonneg hm]
  generalize r * ((n : Int) + 1) = z at hm hm2
  rw [wrap_id (by omega) (by omega)]
  exact ⟨(z / 256).toNat, by rw [Int.toNat_of_nonneg (by omega)], by omega⟩
theorem FnApplied (c : List Int) (w : WF83 c) : ∃ k, laws_FnApplied.f k c = some true := by
  refine Ev.rounds (g := fun k => laws_FnApplied.f k c) ?_
  have hb : ∀ x ∈ c, 0 ≤ x ∧ x ≤ 255 := fun x hx => byte_wf (w.2 x hx)
  unfold laws_FnApplied.f
  refine Ev.bindC (show laws_big.f c = some (decide ((c.length : Int) > 1048576)) from rfl) ?_
  by_cases h : (c.length : Int) > 1048576
  · exact Ev.ifT (by simpa using h) (Ev.now _)
  refine Ev.ifF (by simpa using h) ?_
  obtain ⟨⟨l, ops⟩, hd, hl, hs⟩ := drawAll_ex c (by omega)
  simp only at hl hs
  have ho := hs.len
  have hp : ∀ o ∈ ops, o.f1.length ≤ 1048576 := fun o hh => by have := hs.path o hh; omega
  have i := implAll_ev l ops (by omega) hp
  have s := specAll_ev l (by omega) ops (by omega) hp
  refine Ev.bind hd (Ev.bind i (Ev.bind s (Ev.ifT rfl (Ev.ifT rfl ?_))))
  by_cases ht : trB l = true
  · have t := (trB_iff l).1 ht
    have ea : allB l ops = aaGo ops l 0 := by unfold allB; rw [if_pos ht]
    obtain ⟨n, hn, _, hn2, hn3⟩ := aaGo_n ops l 0
    have tx := aaGo_tr ops l 0 t
    have h24 := tx.len24
    rw [ea]
    generalize hR : aaGo ops l 0 = R at hn hn3 tx h24
    obtain ⟨x, m, e⟩ := R
    simp only at hn hn3 tx h24 ⊢
    subst hn
    refine Ev.bind (same_ev x (by omega)) ?_
    refine Ev.step (fun _ => rfl) ?_
    simp only [laws_FnApplied.j0]
    refine Ev.ifF (by simp) (Ev.bind (specTreeOk_ev l (by omega)) (Ev.ifT ht ?_))
    obtain ⟨k, hk, hkn⟩ := cutAt_ex c (by omega) hb n (by omega)
    refine Ev.bindC hk (Ev.ifT (by omega) (Ev.ifT (by omega) ?_))
    obtain ⟨z, z1, z2, z3, z4⟩ := aaGo_split k ops l 0 0 (by rw [hR]; simp only; omega)
    have i1 := implAll_ev l (ops.take k) (by rw [List.length_take]; omega) (fun o hh => hp o (List.mem_of_mem_take hh))
    have e1 : allB l (ops.take k) = (z, ((0 + k : Nat) : Int), 0) := by unfold allB; rw [if_pos ht]; exact z1
    have tz : Tr z := by have := aaGo_tr (ops.take k) l 0 t; rw [z1] at this; exact this
    have i2 := implAll_ev z (ops.drop k) (by rw [List.length_drop]; omega) (fun o hh => hp o (List.mem_of_mem_drop hh))
    have e2 : allB z (ops.drop k) = aaGo (ops.drop k) z 0 := by unfold allB; rw [if_pos (trB_true tz)]
    rw [e1] at i1
    rw [e2] at i2
    rw [hR] at z2 z3 z4
    generalize aaGo (ops.drop k) z 0 = R2 at z2 z3 z4 i2
    obtain ⟨u, q1, q2⟩ := R2
    simp only at z2 z3 z4
    subst z2 z4
    rw [Int.toNat_natCast]
    have ww : wrap64 ((n : Int) - (k : Int)) = (n : Int) - k := wrap_id (by omega) (by omega)
    have st := specTreeOk_ev u (by omega)
    rw [trB_true tx] at st
    refine Ev.bind i1 (Ev.bind i2 (Ev.ifT rfl (Ev.bind (same_ev u (by omega)) (Ev.ifT rfl (Ev.ifT (by rw [ww]; show q1 = _; omega) (Ev.ifT rfl (Ev.ifT ?_ (Ev.bind st (Ev.now _)))))))))
    have a1 : (((n : Int) == (ops.length : Int)) = true) ↔ ((q2 == 0) = true) := by
      rw [beq_iff_eq, beq_iff_eq, ← hn3]; omega
    rw [beq_iff_eq, Bool.eq_iff_iff]
    exact a1
  · have ea : allB l ops = ([], 0, 2) := by unfold allB; rw [if_neg ht]
    rw [ea]
    refine Ev.bind (same_ev [] (by simp)) ?_
    refine Ev.step (fun _ => rfl) ?_
    simp only [laws_FnApplied.j0]
    refine Ev.ifF (by simp) (Ev.bind (specTreeOk_ev l (by omega)) (Ev.ifF ht (Ev.ifT rfl (Ev.now _))))
end Go.Proofs.Ytbifdckfglejkaa.Q
