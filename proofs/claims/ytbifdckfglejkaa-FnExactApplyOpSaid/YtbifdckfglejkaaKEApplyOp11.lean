/- Part 11 of the proof of FnExactApplyOp: what it needs. -/
import Derived.Test.YtbifdckfglejkaaKEApplyOp4
import Derived.Test.YtbifdckfglejkaaKEApplyOp6
import Derived.Test.YtbifdckfglejkaaKEApplyOp10
namespace Go.Proofs.Ytbifdckfglejkaa.Q
open Go.RowKit Go.Proofs.YtbifdckfglejkaaW.PrintWords Go.Proofs.YtbifdckfglejkaaW.PrintLast Go.Proofs.YtbifdckfglejkaaW.PrintMore Go.Proofs.Ytbifdckfglejkaa.X Go.Proofs.Ytbifdckfglejkaa.Rd
set_option linter.unusedVariables false
set_option linter.unusedSimpArgs false
def deepN (l : List NodeI) : Nat → Nat → Int → Int
  | 0, _, d => d
  | n + 1, k, d => deepN l n (k + 1) (mx d (dep l k + 1))
def bounds (l : List NodeI) (kids : List Int) (i : Nat) : List Int := kids ++ [(endN l i : Int)]
noncomputable def opB (l : List NodeI) (kind lb fr cnt i : Int) : Int × Int × Int :=
  if ¬ (1 ≤ kind ∧ kind ≤ 3) then (1, 0, 0) else if i < 0 then (2, 0, 0) else if kind ≠ 2 ∧ ¬ (0 ≤ lb ∧ lb ≤ 5) then (3, 0, 0)
  else if kind = 2 ∧ i = 0 then (4, 0, 0) else if kind ≠ 3 then (0, 0, 0)
  else if ¬ (0 ≤ fr ∧ fr ≤ (kidsOf l i).length ∧ 0 ≤ cnt ∧ cnt ≤ (kidsOf l i).length - fr) then (5, 0, 0)
  else
    if l.length = 24 then (6, 0, 0)
    else if deepN l (((bounds l (kidsOf l i) i.toNat).getD (fr + cnt).toNat 0).toNat - ((bounds l (kidsOf l i) i.toNat).getD fr.toNat 0).toNat) ((bounds l (kidsOf l i) i.toNat).getD fr.toNat 0).toNat (dep l i.toNat + 1) > 12 then (7, 0, 0)
    else (0, (bounds l (kidsOf l i) i.toNat).getD fr.toNat 0, (bounds l (kidsOf l i) i.toNat).getD (fr + cnt).toNat 0)
theorem mx_eq (a b : Int) : mx a b = max a b := by unfold mx; split <;> omega
theorem bounds_get {l : List NodeI} (t : Tr l) {i : Nat} (hi : i < l.length) {x : Nat} (hx : x ≤ (kidsOf l i).length) : ∃ e : Nat, (bounds l (kidsOf l i) i).getD x 0 = e ∧ i < e ∧ e ≤ endN l i := by
  unfold bounds
  have es := endN_spec l hi
  by_cases c : x < (kidsOf l i).length
  · have h := (kidsOf_mem t hi ((kidsOf l i)[x])).1 (List.getElem_mem c)
    obtain ⟨j, h1, h2, h3, _⟩ := h
    refine ⟨j, ?_, h2, by omega⟩
    rw [List.getD_eq_getElem?_getD, List.getElem?_append_left c, List.getElem?_eq_getElem c, h1]; rfl
  · have e : x = (kidsOf l i).length := by omega
    subst e
    refine ⟨endN l i, ?_, es.1, Nat.le_refl _⟩
    rw [List.getD_eq_getElem?_getD, List.getElem?_append_right (Nat.le_refl _)]; simp
theorem kids_pw {l : List NodeI} (t : Tr l) {i : Nat} (hi : i < l.length) : (kidsOf l i).Pairwise (· < ·) := by
  rw [kidsOf_eq t hi]
  unfold kidsL
  refine List.pairwise_map.2 ((List.Pairwise.filter _ List.pairwise_lt_range').imp ?_)
  intro a b h
  omega
theorem bounds_mono {l : List NodeI} (t : Tr l) {i : Nat} (hi : i < l.length) {x y : Nat} (hxy : x ≤ y) (hy : y ≤ (kidsOf l i).length) : (bounds l (kidsOf l i) i).getD x 0 ≤ (bounds l (kidsOf l i) i).getD y 0 := by
  by_cases e : x = y
  · subst e; exact Int.le_refl _
  · by_cases c : y < (kidsOf l i).length
    · have h := List.pairwise_iff_getElem.1 (kids_pw t hi) x y (by omega) c (by omega)
      unfold bounds
      rw [List.getD_eq_getElem?_getD, List.getD_eq_getElem?_getD, List.getElem?_append_left (by omega), List.getElem?_append_left c, List.getElem?_eq_getElem c, List.getElem?_eq_getElem (by omega)]
      show (kidsOf l i)[x] ≤ (kidsOf l i)[y]
      omega
    · have e2 : y = (kidsOf l i).length := by omega
      subst e2
      obtain ⟨a, h1, h2, h3⟩ := bounds_get t hi (x := x) (by omega)
      have h4 : (bounds l (kidsOf l i) i).getD (kidsOf l i).length 0 = (endN l i : Int) := by
        unfold bounds
        rw [List.getD_eq_getElem?_getD, List.getElem?_append_right (Nat.le_refl _)]; simp
      rw [h1, h4]; omega
theorem nodeGo_range {l : List NodeI} (t : Tr l) (path : List Int) : ∀ (i : Nat), i < l.length → nodeGo l path i = -1 ∨ ∃ j : Nat, nodeGo l path i = j ∧ i ≤ j ∧ j < l.length := by
  induction path with
  | nil => intro i hi; exact .inr ⟨i, rfl, Nat.le_refl _, hi⟩
  | cons p ps ih =>
    intro i hi
    unfold nodeGo
    by_cases c : 0 ≤ p ∧ p < (kidsOf l i).length
    · rw [if_pos c]
      have hp : p.toNat < (kidsOf l i).length := by omega
      obtain ⟨j, h1, h2, h3, _⟩ := (kidsOf_mem t hi ((kidsOf l i)[p.toNat])).1 (List.getElem_mem hp)
      rw [getD_lt _ _ hp, h1]
      have := endN_spec l hi
      rcases ih j (by omega) with h | ⟨q, q1, q2, q3⟩
      · exact .inl h
      · exact .inr ⟨q, q1, by omega, q3⟩
    · rw [if_neg c]; exact .inl rfl
theorem nodeAt_range {l : List NodeI} (t : Tr l) (path : List Int) : nodeAt l path = -1 ∨ ∃ j : Nat, nodeAt l path = j ∧ j < l.length := by
  unfold nodeAt
  rw [if_pos (trB_true t)]
  have h1 := t.len1
  rcases nodeGo_range t path 0 (by omega) with h | ⟨j, h1, _, h2⟩
  · exact .inl h
  · exact .inr ⟨j, h1, h2⟩
theorem implOp_l (l : List NodeI) (t : Tr l) (f e : Nat) (hfe : f ≤ e) (he : e ≤ l.length) (n : Nat) : ∀ (x : Nat) (d : Int), f + x + n = e → 0 ≤ d → d ≤ 13 →
    Ev (fun r => impl_opCode.l0 r l f e d ((l.take e).drop f) ((l.take e).drop f).length x) (if l.length = 24 then (6, 0, 0) else if deepN l n (f + x) d > 12 then (7, 0, 0) else (0, (f : Int), (e : Int))) := by
  have hlen : ((l.take e).drop f).length = e - f := by rw [List.length_drop, List.length_take]; omega
  have h24 := t.len24
  induction n with
  | zero =>
    intro x d hx h0 h1
    refine Ev.step (fun _ => rfl) ?_
    simp only [impl_opCode.l0, hlen]
    refine Ev.ifF (by omega) ?_
    by_cases c : l.length = 24
    · rw [if_pos c]; exact Ev.ifT (by omega) (Ev.now _)
    · rw [if_neg c]
      refine Ev.ifF (by omega) ?_
      show Ev _ (if d > 12 then ((7 : Int), (0 : Int), (0 : Int)) else (0, (f : Int), (e : Int)))
      by_cases c2 : d > 12
      · simp only [if_pos c2]; exact Ev.now _
      · simp only [if_neg c2]; exact Ev.now _
  | succ n ih =>
    intro x d hx h0 h1
    have c := t.chk (f + x) (by omega)
    have := c.d0; have := c.d12
    have erd : (rd_T90 ((l.take e).drop f) (x : Int)).f1 = dep l (f + x) := by
      simp only [rd_T90, Int.toNat_natCast, dep, nd, List.getD_eq_getElem?_getD]
      rw [List.getElem?_drop, List.getElem?_take_of_lt (by omega)]
    refine Ev.step (fun _ => rfl) ?_
    simp only [impl_opCode.l0]
    rw [hlen]
    refine Ev.ifT (by omega) (Ev.ifT (by omega) (Ev.ifT (by omega) ?_))
    rw [erd, wrap_id (x := dep l (f + x) + 1) (by omega) (by omega), wrapN (show x ≤ 1048576 by omega)]
    have h := ih (x + 1) (mx d (dep l (f + x) + 1)) (by omega) (by rw [mx_eq]; omega) (by rw [mx_eq]; omega)
    rw [hlen] at h
    exact h
theorem specOp_l (l : List NodeI) (t : Tr l) (f e : Nat) (he : e ≤ l.length) (n : Nat) : ∀ (x : Nat) (d : Int), x + n = e → 0 ≤ d → d ≤ 13 →
    Ev (fun r => spec_l13Code.l0 r l f e d x) (if deepN l n x d > 12 then (7, 0, 0) else (0, (f : Int), (e : Int))) := by
  have h24 := t.len24
  induction n with
  | zero =>
    intro x d hx h0 h1
    refine Ev.step (fun _ => rfl) ?_
    simp only [spec_l13Code.l0]
    refine Ev.ifF (by omega) ?_
    show Ev _ (if d > 12 then ((7 : Int), (0 : Int), (0 : Int)) else (0, (f : Int), (e : Int)))
    by_cases c2 : d > 12
    · simp only [if_pos c2]; exact Ev.now _
    · simp only [if_neg c2]; exact Ev.now _
  | succ n ih =>
    intro x d hx h0 h1
    have c := t.chk x (by omega)
    have := c.d0; have := c.d12
    refine Ev.step (fun _ => rfl) ?_
    simp only [spec_l13Code.l0, rd_dep]
    rw [wrap_id (x := dep l x + 1) (by omega) (by omega), wrapN (show x ≤ 1048576 by omega)]
    exact Ev.ifT (by omega) (Ev.ifT (by omega) (Ev.ifT (by omega) (ih (x + 1) (mx d (dep l x + 1)) (by omega) (by rw [mx_eq]; omega) (by rw [mx_eq]; omega))))
theorem implOp_j2 (l : List NodeI) (t : Tr l) (i : Nat) (hi : i < l.length) (kind : Int) (path : List Int) (lb fr cnt : Int) :
    Ev (fun r => impl_opCode.j2 r l i (kidsOf l i) (!(decide (0 ≤ fr ∧ fr ≤ (kidsOf l i).length ∧ 0 ≤ cnt ∧ cnt ≤ (kidsOf l i).length - fr))) kind path lb fr cnt)
      (if ¬ (0 ≤ fr ∧ fr ≤ (kidsOf l i).length ∧ 0 ≤ cnt ∧ cnt ≤ (kidsOf l i).length - fr) then (5, 0, 0) else if l.length = 24 then (6, 0, 0)
        else if deepN l (((bounds l (kidsOf l i) i).getD (fr + cnt).toNat 0).toNat - ((bounds l (kidsOf l i) i).getD fr.toNat 0).toNat) ((bounds l (kidsOf l i) i).getD fr.toNat 0).toNat (dep l i + 1) > 12 then (7, 0, 0)
        else (0, (bounds l (kidsOf l i) i).getD fr.toNat 0, (bounds l (kidsOf l i) i).getD (fr + cnt).toNat 0)) := by
  have h24 := t.len24
  have hk := kidsOf_len l i
  refine Ev.step (fun _ => rfl) ?_
  simp only [impl_opCode.j2]
  by_cases c : 0 ≤ fr ∧ fr ≤ (kidsOf l i).length ∧ 0 ≤ cnt ∧ cnt ≤ (kidsOf l i).length - fr
  · rw [if_neg (not_not_intro c)]
    refine Ev.ifF (by simp [c]) (Ev.bind (implEndOf_ev l (by omega) i hi) (Ev.ifT (by omega) ?_))
    simp only [Option.bind_some]
    obtain ⟨f, hf, f1, f2⟩ := bounds_get t hi (x := fr.toNat) (by omega)
    obtain ⟨e, he, e1, e2⟩ := bounds_get t hi (x := (fr + cnt).toNat) (by omega)
    have hm := bounds_mono t hi (x := fr.toNat) (y := (fr + cnt).toNat) (by omega) (by omega)
    have es := endN_spec l hi
    have ci := t.chk i hi
    have := ci.d0; have := ci.d12
    have hw : wrap64 (fr + cnt) = fr + cnt := wrap_id (by omega) (by omega)
    have hlen : (kidsOf l i ++ [(endN l i : Int)]).length = (kidsOf l i).length + 1 := by simp
    have ef : rd (kidsOf l i ++ [(endN l i : Int)]) fr = f := hf
    have ee : rd (kidsOf l i ++ [(endN l i : Int)]) (fr + cnt) = e := he
    rw [hw, hlen, ef, ee]
    rw [hf, he] at hm ⊢
    simp only [rd_dep, Int.toNat_natCast]
    have hfe : f ≤ e := by omega
    refine Ev.ifT (by omega) (Ev.ifT (by omega) (Ev.ifT (by omega) (Ev.ifT (by omega) (Ev.ifT (by omega) (Ev.ifT (by omega) (Ev.ifT (by omega) (Ev.ifT (by omega) (Ev.ifT (by omega) ?_))))))))
    rw [wrap_id (x := dep l i + 1) (by omega) (by omega)]
    have h := implOp_l l t f e hfe (by omega) (e - f) 0 (dep l i + 1) (by omega) (by omega) (by omega)
    rw [Nat.add_zero] at h
    exact h
  · rw [if_pos c]
    exact Ev.ifT (by simp [c]) (Ev.now _)
theorem specOp_j2 (l : List NodeI) (t : Tr l) (i : Nat) (hi : i < l.length) (kind : Int) (path : List Int) (lb fr cnt : Int) :
    Ev (fun r => spec_l13Code.j2 r l i (kidsOf l i) (!(decide (0 ≤ fr ∧ fr ≤ (kidsOf l i).length ∧ 0 ≤ cnt ∧ cnt ≤ (kidsOf l i).length - fr))) kind path lb fr cnt)
      (if ¬ (0 ≤ fr ∧ fr ≤ (kidsOf l i).length ∧ 0 ≤ cnt ∧ cnt ≤ (kidsOf l i).length - fr) then (5, 0, 0) else if l.length = 24 then (6, 0, 0)
        else if deepN l (((bounds l (kidsOf l i) i).getD (fr + cnt).toNat 0).toNat - ((bounds l (kidsOf l i) i).getD fr.toNat 0).toNat) ((bounds l (kidsOf l i) i).getD fr.toNat 0).toNat (dep l i + 1) > 12 then (7, 0, 0)
        else (0, (bounds l (kidsOf l i) i).getD fr.toNat 0, (bounds l (kidsOf l i) i).getD (fr + cnt).toNat 0)) := by
  have h24 := t.len24
  have hk := kidsOf_len l i
  refine Ev.step (fun _ => rfl) ?_
  simp only [spec_l13Code.j2]
  by_cases c : 0 ≤ fr ∧ fr ≤ (kidsOf l i).length ∧ 0 ≤ cnt ∧ cnt ≤ (kidsOf l i).length - fr
  · rw [if_neg (not_not_intro c)]
    refine Ev.ifF (by simp [c]) (Ev.bind (specEndOf_ev l t i hi) (Ev.ifT (by omega) ?_))
    simp only [Option.bind_some]
    obtain ⟨f, hf, f1, f2⟩ := bounds_get t hi (x := fr.toNat) (by omega)
    obtain ⟨e, he, e1, e2⟩ := bounds_get t hi (x := (fr + cnt).toNat) (by omega)
    have hm := bounds_mono t hi (x := fr.toNat) (y := (fr + cnt).toNat) (by omega) (by omega)
    have es := endN_spec l hi
    have ci := t.chk i hi
    have := ci.d0; have := ci.d12
    have hw : wrap64 (fr + cnt) = fr + cnt := wrap_id (by omega) (by omega)
    have hlen : (kidsOf l i ++ [(endN l i : Int)]).length = (kidsOf l i).length + 1 := by simp
    have ef : rd (kidsOf l i ++ [(endN l i : Int)]) fr = f := hf
    have ee : rd (kidsOf l i ++ [(endN l i : Int)]) (fr + cnt) = e := he
    rw [hw, hlen, ef, ee]
    rw [hf, he] at hm ⊢
    simp only [rd_dep, Int.toNat_natCast]
    have hfe : f ≤ e := by omega
    refine Ev.ifT (by omega) (Ev.ifT (by omega) (Ev.ifT (by omega) (Ev.ifT (by omega) ?_)))
    by_cases c2 : l.length = 24
    · rw [if_pos c2]; exact Ev.ifT (by omega) (Ev.now _)
    · rw [if_neg c2]
      refine Ev.ifF (by omega) (Ev.ifT (by omega) (Ev.ifT (by omega) ?_))
      rw [wrap_id (x := dep l i + 1) (by omega) (by omega)]
      exact specOp_l l t f e (by omega) (e - f) f (dep l i + 1) (by omega) (by omega) (by omega)
  · rw [if_pos c]
    exact Ev.ifT (by simp [c]) (Ev.now _)
theorem implOp_j1 (l : List NodeI) (t : Tr l) (i : Nat) (hi : i < l.length) (kind : Int) (path : List Int) (lb fr cnt : Int) :
    Ev (fun r => impl_opCode.j1 r l i (decide (kind = 2 ∧ (i : Int) = 0)) kind path lb fr cnt)
      (if kind = 2 ∧ (i : Int) = 0 then (4, 0, 0) else if kind ≠ 3 then (0, 0, 0) else if ¬ (0 ≤ fr ∧ fr ≤ (kidsOf l i).length ∧ 0 ≤ cnt ∧ cnt ≤ (kidsOf l i).length - fr) then (5, 0, 0) else if l.length = 24 then (6, 0, 0)
        else if deepN l (((bounds l (kidsOf l i) i).getD (fr + cnt).toNat 0).toNat - ((bounds l (kidsOf l i) i).getD fr.toNat 0).toNat) ((bounds l (kidsOf l i) i).getD fr.toNat 0).toNat (dep l i + 1) > 12 then (7, 0, 0)
        else (0, (bounds l (kidsOf l i) i).getD fr.toNat 0, (bounds l (kidsOf l i) i).getD (fr + cnt).toNat 0)) := by
  have hk := kidsOf_len l i
  refine Ev.step (fun _ => rfl) ?_
  simp only [impl_opCode.j1]
  by_cases c : kind = 2 ∧ (i : Int) = 0
  · rw [if_pos c]; exact Ev.ifT (by simpa using c) (Ev.now _)
  · rw [if_neg c]
    refine Ev.ifF (by simpa using c) ?_
    by_cases c3 : kind = 3
    · rw [if_neg (not_not_intro c3)]
      refine Ev.ifT c3 (Ev.bind (implKidsOf_ev l i) (Ev.bindC (within_eq _ _ _) ?_))
      have hj := implOp_j2 l t i hi kind path lb fr cnt
      by_cases cf : 0 ≤ fr ∧ fr ≤ ((kidsOf l i).length : Int)
      · refine Ev.ifT (by simpa using cf) (Ev.bindC (within_eq _ _ _) ?_)
        rw [wrap_id (x := ((kidsOf l i).length : Int) - fr) (by omega) (by omega)]
        have e : decide (0 ≤ fr ∧ fr ≤ ((kidsOf l i).length : Int) ∧ 0 ≤ cnt ∧ cnt ≤ (kidsOf l i).length - fr) = decide (0 ≤ cnt ∧ cnt ≤ ((kidsOf l i).length : Int) - fr) := by
          apply decide_eq_decide.2; exact ⟨fun h => ⟨h.2.2.1, h.2.2.2⟩, fun h => ⟨cf.1, cf.2, h.1, h.2⟩⟩
        rw [e] at hj
        exact hj
      · refine Ev.ifF (by simpa using cf) ?_
        have e : decide (0 ≤ fr ∧ fr ≤ ((kidsOf l i).length : Int) ∧ 0 ≤ cnt ∧ cnt ≤ (kidsOf l i).length - fr) = false := decide_eq_false (fun h => cf ⟨h.1, h.2.1⟩)
        rw [e] at hj
        exact hj
    · rw [if_pos c3]; exact Ev.ifF c3 (Ev.now _)
theorem specOp_j1 (l : List NodeI) (t : Tr l) (i : Nat) (hi : i < l.length) (kind : Int) (path : List Int) (lb fr cnt : Int) :
    Ev (fun r => spec_l13Code.j1 r l i (decide (kind = 2 ∧ (i : Int) = 0)) kind path lb fr cnt)
      (if kind = 2 ∧ (i : Int) = 0 then (4, 0, 0) else if kind ≠ 3 then (0, 0, 0) else if ¬ (0 ≤ fr ∧ fr ≤ (kidsOf l i).length ∧ 0 ≤ cnt ∧ cnt ≤ (kidsOf l i).length - fr) then (5, 0, 0) else if l.length = 24 then (6, 0, 0)
        else if deepN l (((bounds l (kidsOf l i) i).getD (fr + cnt).toNat 0).toNat - ((bounds l (kidsOf l i) i).getD fr.toNat 0).toNat) ((bounds l (kidsOf l i) i).getD fr.toNat 0).toNat (dep l i + 1) > 12 then (7, 0, 0)
        else (0, (bounds l (kidsOf l i) i).getD fr.toNat 0, (bounds l (kidsOf l i) i).getD (fr + cnt).toNat 0)) := by
  have hk := kidsOf_len l i
  have h24 := t.len24
  refine Ev.step (fun _ => rfl) ?_
  simp only [spec_l13Code.j1]
  by_cases c : kind = 2 ∧ (i : Int) = 0
  · rw [if_pos c]; exact Ev.ifT (by simpa using c) (Ev.now _)
  · rw [if_neg c]
    refine Ev.ifF (by simpa using c) ?_
    by_cases c3 : kind = 3
    · rw [if_neg (not_not_intro c3)]
      refine Ev.ifT c3 (Ev.bind (specKidsOf_ev l (by omega) i) (Ev.bindC (l1In_eq _ _ _) ?_))
      have hj := specOp_j2 l t i hi kind path lb fr cnt
      by_cases cf : 0 ≤ fr ∧ fr ≤ ((kidsOf l i).length : Int)
      · refine Ev.ifT (by simpa using cf) (Ev.bindC (l1In_eq _ _ _) ?_)
        rw [wrap_id (x := ((kidsOf l i).length : Int) - fr) (by omega) (by omega)]
        have e : decide (0 ≤ fr ∧ fr ≤ ((kidsOf l i).length : Int) ∧ 0 ≤ cnt ∧ cnt ≤ (kidsOf l i).length - fr) = decide (0 ≤ cnt ∧ cnt ≤ ((kidsOf l i).length : Int) - fr) := by
          apply decide_eq_decide.2; exact ⟨fun h => ⟨h.2.2.1, h.2.2.2⟩, fun h => ⟨cf.1, cf.2, h.1, h.2⟩⟩
        rw [e] at hj
        exact hj
      · refine Ev.ifF (by simpa using cf) ?_
        have e : decide (0 ≤ fr ∧ fr ≤ ((kidsOf l i).length : Int) ∧ 0 ≤ cnt ∧ cnt ≤ (kidsOf l i).length - fr) = false := decide_eq_false (fun h => cf ⟨h.1, h.2.1⟩)
        rw [e] at hj
        exact hj
    · rw [if_pos c3]; exact Ev.ifF c3 (Ev.now _)
theorem implOp_ev {l : List NodeI} (t : Tr l) (kind : Int) (path : List Int) (lb fr cnt : Int) (i : Int) (hi : i < 0 ∨ ∃ j : Nat, i = j ∧ j < l.length) : Ev (fun r => impl_opCode.f r l kind path lb fr cnt i) (opB l kind lb fr cnt i) := by
  unfold impl_opCode.f opB
  refine Ev.bindC (within_eq _ _ _) ?_
  by_cases c : 1 ≤ kind ∧ kind ≤ 3
  · rw [if_neg (not_not_intro c)]
    refine Ev.ifT (by simpa using c) ?_
    by_cases c0 : i < 0
    · rw [if_pos c0]; exact Ev.ifT c0 (Ev.now _)
    · rw [if_neg c0]
      refine Ev.ifF c0 ?_
      obtain ⟨j, rfl, hj⟩ := hi.resolve_left c0
      have h1 := implOp_j1 l t j hj kind path lb fr cnt
      rw [Int.toNat_natCast]
      by_cases c2 : kind = 2
      · rw [if_neg (fun h => h.1 c2)]
        refine Ev.ifT c2 ?_
        refine Ev.step (fun _ => rfl) ?_
        simp only [impl_opCode.j0]
        refine Ev.ifF (by simp) (Ev.ifT c2 ?_)
        have e : decide (kind = 2 ∧ (j : Int) = 0) = ((j : Int) == 0) := by rw [Bool.eq_iff_iff]; simp [c2]
        rw [e] at h1
        exact h1
      · refine Ev.ifF c2 (Ev.bindC (implLabelOk_eq _) ?_)
        refine Ev.step (fun _ => rfl) ?_
        simp only [impl_opCode.j0]
        by_cases cl : 0 ≤ lb ∧ lb ≤ 5
        · rw [if_neg (fun h => h.2 cl)]
          refine Ev.ifF (by simp [cl]) (Ev.ifF c2 ?_)
          have e : decide (kind = 2 ∧ (j : Int) = 0) = false := decide_eq_false (fun h => c2 h.1)
          rw [e] at h1
          exact h1
        · rw [if_pos ⟨c2, cl⟩]
          exact Ev.ifT (by simp [cl]) (Ev.now _)
  · rw [if_pos c]; exact Ev.ifF (by simpa using c) (Ev.now _)
theorem specOp_ev {l : List NodeI} (t : Tr l) (kind : Int) (path : List Int) (lb fr cnt : Int) (i : Int) (hi : i < 0 ∨ ∃ j : Nat, i = j ∧ j < l.length) : Ev (fun r => spec_l13Code.f r l kind path lb fr cnt i) (opB l kind lb fr cnt i) := by
  unfold spec_l13Code.f opB
  refine Ev.bindC (l1In_eq _ _ _) ?_
  by_cases c : 1 ≤ kind ∧ kind ≤ 3
  · rw [if_neg (not_not_intro c)]
    refine Ev.ifT (by simpa using c) ?_
    by_cases c0 : i < 0
    · rw [if_pos c0]; exact Ev.ifT c0 (Ev.now _)
    · rw [if_neg c0]
      refine Ev.ifF c0 ?_
      obtain ⟨j, rfl, hj⟩ := hi.resolve_left c0
      have h1 := specOp_j1 l t j hj kind path lb fr cnt
      rw [Int.toNat_natCast]
      by_cases c2 : kind = 2
      · rw [if_neg (fun h => h.1 c2)]
        refine Ev.ifT c2 ?_
        refine Ev.step (fun _ => rfl) ?_
        simp only [spec_l13Code.j0]
        refine Ev.ifF (by simp) (Ev.ifT c2 ?_)
        have e : decide (kind = 2 ∧ (j : Int) = 0) = ((j : Int) == 0) := by rw [Bool.eq_iff_iff]; simp [c2]
        rw [e] at h1
        exact h1
      · refine Ev.ifF c2 (Ev.bindC (specLabelOk_eq _) ?_)
        refine Ev.step (fun _ => rfl) ?_
        simp only [spec_l13Code.j0]
        by_cases cl : 0 ≤ lb ∧ lb ≤ 5
        · rw [if_neg (fun h => h.2 cl)]
          refine Ev.ifF (by simp [cl]) (Ev.ifF c2 ?_)
          have e : decide (kind = 2 ∧ (j : Int) = 0) = false := decide_eq_false (fun h => c2 h.1)
          rw [e] at h1
          exact h1
        · rw [if_pos ⟨c2, cl⟩]
          exact Ev.ifT (by simp [cl]) (Ev.now _)
  · rw [if_pos c]; exact Ev.ifF (by simpa using c) (Ev.now _)
def sh (d : Int) (l : List NodeI) : List NodeI := l.map fun x => ⟨x.f0, x.f1 + d⟩
def delN (l : List NodeI) (i : Nat) : List NodeI := l.take i ++ sh (-1) ((l.take (endN l i)).drop (i + 1)) ++ l.drop (endN l i)
def insN (l : List NodeI) (f e : Nat) (x : NodeI) : List NodeI := l.take f ++ [x] ++ sh 1 ((l.take e).drop f) ++ l.drop e
noncomputable def doneB (l : List NodeI) (kind lb : Int) (i : Nat) (c : Int × Int × Int) : List NodeI :=
  if kind = 1 then l.set i ⟨lb, dep l i⟩ else if kind = 2 then delN l i else insN l c.2.1.toNat c.2.2.toNat ⟨lb, dep l i + 1⟩
noncomputable def applyB (l : List NodeI) (kind : Int) (path : List Int) (lb fr cnt : Int) : List NodeI × Int :=
  if trB l = true then (if (opB l kind lb fr cnt (nodeAt l path)).1 = 0 then (doneB l kind lb (nodeAt l path).toNat (opB l kind lb fr cnt (nodeAt l path)), 0) else (l, (opB l kind lb fr cnt (nodeAt l path)).1)) else ([], 2)
theorem opB_ok {l : List NodeI} (t : Tr l) {kind lb fr cnt i : Int} (hi : i < 0 ∨ ∃ j : Nat, i = j ∧ j < l.length) (h : (opB l kind lb fr cnt i).1 = 0) :
    ∃ j : Nat, i = j ∧ j < l.length ∧ ((kind = 1 ∧ 0 ≤ lb ∧ lb ≤ 5) ∨ (kind = 2 ∧ 0 < j) ∨
      (kind = 3 ∧ 0 ≤ lb ∧ lb ≤ 5 ∧ l.length < 24 ∧ 0 ≤ fr ∧ 0 ≤ cnt ∧ fr + cnt ≤ (kidsOf l j).length ∧ ∃ f e : Nat, opB l kind lb fr cnt i = (0, (f : Int), (e : Int)) ∧ (bounds l (kidsOf l j) j).getD fr.toNat 0 = f ∧ (bounds l (kidsOf l j) j).getD (fr + cnt).toNat 0 = e ∧ j < f ∧ f ≤ e ∧ e ≤ endN l j ∧ deepN l (e - f) f (dep l j + 1) ≤ 12)) := by
  have h24 := t.len24
  unfold opB at h ⊢
  by_cases c : 1 ≤ kind ∧ kind ≤ 3
  case neg => rw [if_pos c] at h; simp at h
  rw [if_neg (not_not_intro c)] at h ⊢
  by_cases c0 : i < 0
  case pos => rw [if_pos c0] at h; simp at h
  rw [if_neg c0] at h ⊢
  obtain ⟨j, rfl, hj⟩ := hi.resolve_left c0
  refine ⟨j, rfl, hj, ?_⟩
  by_cases c1 : kind ≠ 2 ∧ ¬ (0 ≤ lb ∧ lb ≤ 5)
  case pos => rw [if_pos c1] at h; simp at h
  rw [if_neg c1] at h ⊢
  by_cases c2 : kind = 2 ∧ (j : Int) = 0
  case pos => rw [if_pos c2] at h; simp at h
  rw [if_neg c2] at h ⊢
  by_cases c3 : kind ≠ 3
  · by_cases k2 : kind = 2
    · exact .inr (.inl ⟨k2, by omega⟩)
    · exact .inl ⟨by omega, by omega⟩
  rw [if_neg c3] at h ⊢
  rw [Int.toNat_natCast] at h ⊢
  by_cases c4 : 0 ≤ fr ∧ fr ≤ (kidsOf l j).length ∧ 0 ≤ cnt ∧ cnt ≤ (kidsOf l j).length - fr
  case neg => rw [if_pos c4] at h; simp at h
  rw [if_neg (not_not_intro c4)] at h ⊢
  by_cases c5 : l.length = 24
  case pos => rw [if_pos c5] at h; simp at h
  rw [if_neg c5] at h ⊢
  obtain ⟨f, hf, f1, f2⟩ := bounds_get t hj (x := fr.toNat) (by omega)
  obtain ⟨e, he, e1, e2⟩ := bounds_get t hj (x := (fr + cnt).toNat) (by omega)
  have hm := bounds_mono t hj (x := fr.toNat) (y := (fr + cnt).toNat) (by omega) (by omega)
  rw [hf, he] at h hm ⊢
  rw [Int.toNat_natCast, Int.toNat_natCast] at h ⊢
  by_cases c6 : deepN l (e - f) f (dep l j + 1) > 12
  case pos => rw [if_pos c6] at h; simp at h
  rw [if_neg c6]
  exact .inr (.inr ⟨by omega, by omega, by omega, by omega, c4.1, c4.2.2.1, by omega, f, e, rfl, rfl, rfl, f1, by omega, e2, by omega⟩)
theorem sh_zero (l : List NodeI) : sh 0 l = l := by
  unfold sh
  conv => rhs; rw [← List.map_id l]
  refine List.map_congr_left fun x _ => ?_
  simp
theorem tr_mem {l : List NodeI} (t : Tr l) : ∀ x ∈ l, 0 ≤ x.f0 ∧ x.f0 ≤ 5 ∧ 0 ≤ x.f1 ∧ x.f1 ≤ 12 := by
  intro x hx
  obtain ⟨i, hi, rfl⟩ := List.getElem_of_mem hx
  have c := t.chk i hi
  have e : nd l i = l[i] := getD_lt l _ hi
  have := c.l0; have := c.l5; have := c.d0; have := c.d12
  unfold lab at *
  unfold dep at *
  rw [e] at *
  exact ⟨by assumption, by assumption, by assumption, by assumption⟩
theorem take_snoc' (l : List NodeI) (a x : Nat) (hx : x < l.length) (ha : a ≤ x) : (l.take (x + 1)).drop a = (l.take x).drop a ++ [l[x]] := by
  rw [take_succ_append l x hx, List.drop_append_of_le_length (by rw [List.length_take]; omega)]
theorem specShift_l {l : List NodeI} (t : Tr l) (a b : Nat) (by_ : Int) (h0 : -100 ≤ by_) (h1 : by_ ≤ 100) (hb : b ≤ l.length) (n : Nat) : ∀ x : Nat, a ≤ x → x + n = b → Ev (fun r => spec_l13Shift.l0 r l b by_ (sh by_ ((l.take x).drop a)) x) (sh by_ ((l.take b).drop a)) := by
  have h24 := t.len24
  induction n with
  | zero =>
    intro x ha hx
    obtain rfl : x = b := by omega
    refine Ev.step (fun _ => rfl) ?_
    simp only [spec_l13Shift.l0]
    exact Ev.ifF (by omega) (Ev.now _)
  | succ n ih =>
    intro x ha hx
    have hlt : x < l.length := by omega
    have m := tr_mem t _ (List.getElem_mem hlt)
    refine Ev.step (fun _ => rfl) ?_
    simp only [spec_l13Shift.l0]
    have e1 : rd_T90 l (x : Int) = l[x] := getD_nat l x _ hlt
    rw [e1, wrap_id (x := l[x].f1 + by_) (by omega) (by omega), wrapN (show x ≤ 1048576 by omega)]
    have h := ih (x + 1) (by omega) (by omega)
    rw [take_snoc' l a x hlt ha] at h
    have e2 : sh by_ ((l.take x).drop a ++ [l[x]]) = sh by_ ((l.take x).drop a) ++ [⟨l[x].f0, l[x].f1 + by_⟩] := by unfold sh; rw [List.map_append]; rfl
    rw [e2] at h
    refine Ev.ifT (by omega) (Ev.ifT (by omega) (Ev.ifT (by omega) (Ev.ifT ?_ h)))
    unfold sh
    rw [List.length_map, List.length_drop, List.length_take]
    omega
theorem specShift_ev {l : List NodeI} (t : Tr l) (a b : Nat) (by_ : Int) (h0 : -100 ≤ by_) (h1 : by_ ≤ 100) (hab : a ≤ b) (hb : b ≤ l.length) : Ev (fun r => spec_l13Shift.f r l a b by_) (sh by_ ((l.take b).drop a)) := by
  have h := specShift_l t a b by_ h0 h1 hb (b - a) a (Nat.le_refl _) (by omega)
  have e : (l.take a).drop a = [] := List.drop_eq_nil_of_le (by rw [List.length_take]; omega)
  rw [e] at h
  exact h
theorem shiftL_parts (h : NdI → NdI) (a b : Nat) (l : List NdI) (hab : a ≤ b) (hb : b ≤ l.length) : shiftL h a b l = l.take a ++ (((l.take b).drop a).map h ++ l.drop b) := by
  apply List.ext_getElem?
  intro j
  rw [shiftL_get]
  have la : (l.take a).length = a := by rw [List.length_take]; omega
  have lm : (((l.take b).drop a).map h).length = b - a := by rw [List.length_map, List.length_drop, List.length_take]; omega
  rcases Nat.lt_or_ge j a with c | c
  · rw [List.getElem?_append_left (by omega), List.getElem?_take_of_lt c]
    cases l[j]? with
    | none => rfl
    | some x => show some (if a ≤ j ∧ j < b then h x else x) = some x; rw [if_neg (by omega)]
  · rw [List.getElem?_append_right (by omega), la]
    rcases Nat.lt_or_ge j b with c2 | c2
    · rw [List.getElem?_append_left (by omega), List.getElem?_map, List.getElem?_drop, List.getElem?_take_of_lt (by omega), show a + (j - a) = j by omega]
      cases l[j]? with
      | none => rfl
      | some x => show some (if a ≤ j ∧ j < b then h x else x) = some (h x); rw [if_pos ⟨c, c2⟩]
    · rw [List.getElem?_append_right (by omega), lm, List.getElem?_drop, show b + (j - a - (b - a)) = j by omega]
      cases l[j]? with
      | none => rfl
      | some x => show some (if a ≤ j ∧ j < b then h x else x) = some x; rw [if_neg (by omega)]
theorem map_less {l : List NodeI} (t : Tr l) (a b : Nat) : ((l.take b).drop a).map lessDeep = sh (-1) ((l.take b).drop a) := by
  refine List.map_congr_left fun x hx => ?_
  have m := tr_mem t x (List.mem_of_mem_take (List.mem_of_mem_drop hx))
  show (⟨x.f0, wrap64 (x.f1 - 1)⟩ : NodeI) = ⟨x.f0, x.f1 + -1⟩
  rw [wrap_id (by omega) (by omega)]; rfl
theorem map_more {l : List NodeI} (t : Tr l) (a b : Nat) : ((l.take b).drop a).map moreDeep = sh 1 ((l.take b).drop a) := by
  refine List.map_congr_left fun x hx => ?_
  have m := tr_mem t x (List.mem_of_mem_take (List.mem_of_mem_drop hx))
  show (⟨x.f0, wrap64 (x.f1 + 1)⟩ : NodeI) = ⟨x.f0, x.f1 + 1⟩
  rw [wrap_id (by omega) (by omega)]
theorem implApplyOp_ev (l : List NodeI) (hl : l.length ≤ 9223372036854775807) (kind : Int) (path : List Int) (hp : path.length ≤ 1048576) (lb fr cnt : Int) : Ev (fun r => impl_ApplyOp.f r l kind path lb fr cnt) (applyB l kind path lb fr cnt) := by
  unfold impl_ApplyOp.f applyB
  refine Ev.bind (implTreeOk_ev l) ?_
  by_cases h : trB l = true
  · rw [if_pos h]
    have t := (trB_iff l).1 h
    have h24 := t.len24
    refine Ev.ifT h (Ev.ifT (by omega) (Ev.bind (implNodeAt_ev l hl path hp) ?_))
    have hr : nodeAt l path < 0 ∨ ∃ j : Nat, nodeAt l path = j ∧ j < l.length := by
      rcases nodeAt_range t path with h1 | h1
      · exact .inl (by omega)
      · exact .inr h1
    generalize nodeAt l path = i at hr ⊢
    refine Ev.bind (implOp_ev t kind path lb fr cnt i hr) ?_
    by_cases hc : (opB l kind lb fr cnt i).1 = 0
    · rw [if_pos hc]
      refine Ev.ifT hc ?_
      obtain ⟨j, rfl, hj, hk⟩ := opB_ok t hr hc
      refine Ev.ifT (by omega) (Ev.ifT (by omega) ?_)
      rw [Int.toNat_natCast]
      have erd : rd_T90 l (j : Int) = nd l j := rd_nd l j
      unfold doneB
      rcases hk with ⟨rfl, _⟩ | ⟨rfl, h0⟩ | ⟨rfl, _, _, _, _, _, _, f, e, hq, _, _, hf, hfe, hee, _⟩
      · rw [if_pos rfl, erd]
        exact Ev.ifT rfl (Ev.now _)
      · rw [if_neg (show ¬ (2 : Int) = 1 by decide), if_pos (show (2 : Int) = 2 from rfl)]
        have es := endN_spec l hj
        refine Ev.ifF (show ¬ (2 : Int) = 1 by decide) (Ev.ifT (show (2 : Int) = 2 from rfl) (Ev.bind (implEndOf_ev l (by omega) j hj) (Ev.ifT (by omega) (Ev.ifT (by omega) ?_))))
        rw [Int.toNat_natCast]
        have e1 := shiftL_parts lessDeep (j + 1) (endN l j) l (by omega) es.2.1
        have lt : (l.take (j + 1)).length = j + 1 := by rw [List.length_take]; omega
        have e2 : (shiftL lessDeep (j + 1) (endN l j) l).take j = l.take j := by
          rw [e1, List.take_append_of_le_length (by omega), List.take_take, Nat.min_eq_left (by omega)]
        have e3 : (shiftL lessDeep (j + 1) (endN l j) l).drop (j + 1) = ((l.take (endN l j)).drop (j + 1)).map lessDeep ++ l.drop (endN l j) := by
          rw [e1]; exact List.drop_left' lt
        rw [e2, e3, map_less t]
        unfold delN
        rw [List.append_assoc]
        exact Ev.now _
      · rw [if_neg (show ¬ (3 : Int) = 1 by decide), if_neg (show ¬ (3 : Int) = 2 by decide), hq]
        have es := endN_spec l hj
        refine Ev.ifF (show ¬ (3 : Int) = 1 by decide) (Ev.ifF (show ¬ (3 : Int) = 2 by decide) (Ev.ifT (by simp only; omega) (Ev.ifT (by simp only; omega) (Ev.ifT (by simp only; omega) ?_))))
        simp only [Int.toNat_natCast, rd_dep]
        have c := t.chk j hj
        have := c.d0; have := c.d12
        rw [wrap_id (x := dep l j + 1) (by omega) (by omega)]
        have e1 := shiftL_parts moreDeep f e l hfe (by omega)
        have lt : (l.take f).length = f := by rw [List.length_take]; omega
        have e2 : (shiftL moreDeep f e l).take f = l.take f := by rw [e1]; exact List.take_left' lt
        have e3 : (shiftL moreDeep f e l).drop f = ((l.take e).drop f).map moreDeep ++ l.drop e := by rw [e1]; exact List.drop_left' lt
        rw [e2, e3, map_more t]
        unfold insN
        rw [List.append_assoc (l.take f ++ _)]
        exact Ev.now _
    · rw [if_neg hc]
      exact Ev.ifF hc (Ev.now _)
  · rw [if_neg h]
    exact Ev.ifF h (Ev.now _)
theorem copy_eq (l : List NodeI) (hl : l.length < 8796093022208) : spec_l3Copy.f l = some l := by
  unfold spec_l3Copy.f
  simp [hl]
theorem specApplyOp_ev (l : List NodeI) (hl : l.length ≤ 9223372036854775807) (kind : Int) (path : List Int) (hp : path.length ≤ 1048576) (lb fr cnt : Int) : Ev (fun r => spec_ApplyOp.f r l kind path lb fr cnt) (applyB l kind path lb fr cnt) := by
  unfold spec_ApplyOp.f applyB
  refine Ev.bind (specTreeOk_ev l hl) ?_
  by_cases h : trB l = true
  · rw [if_pos h]
    have t := (trB_iff l).1 h
    have h24 := t.len24
    refine Ev.ifT h (Ev.bind (specNodeAt_ev l hl path hp) (Ev.bindC (copy_eq l (by omega)) ?_))
    have hr : nodeAt l path < 0 ∨ ∃ j : Nat, nodeAt l path = j ∧ j < l.length := by
      rcases nodeAt_range t path with h1 | h1
      · exact .inl (by omega)
      · exact .inr h1
    generalize nodeAt l path = i at hr ⊢
    refine Ev.bind (specOp_ev t kind path lb fr cnt i hr) ?_
    by_cases hc : (opB l kind lb fr cnt i).1 = 0
    · rw [if_pos hc]
      refine Ev.ifT hc ?_
      obtain ⟨j, rfl, hj, hk⟩ := opB_ok t hr hc
      rw [hc, Int.toNat_natCast]
      unfold doneB
      rcases hk with ⟨rfl, _⟩ | ⟨rfl, h0⟩ | ⟨rfl, _, _, _, _, _, _, f, e, hq, _, _, hf, hfe, hee, _⟩
      · rw [if_pos (show (1 : Int) = 1 from rfl)]
        simp only [rd_dep]
        refine Ev.ifT (by first | exact trivial | rfl) (Ev.ifT (by omega) (Ev.ifT (by omega) (Ev.now _)))
      · rw [if_neg (show ¬ (2 : Int) = 1 by decide), if_pos (show (2 : Int) = 2 from rfl)]
        have es := endN_spec l hj
        have s1 := specShift_ev t 0 j 0 (by decide) (by decide) (Nat.zero_le _) (by omega)
        have s2 := specShift_ev t (j + 1) (endN l j) (-1) (by decide) (by decide) (by omega) es.2.1
        have s3 := specShift_ev t (endN l j) l.length 0 (by decide) (by decide) es.2.1 (Nat.le_refl _)
        rw [sh_zero, List.drop_zero] at s1
        rw [sh_zero, List.take_length] at s3
        have l1 : (l.take j).length ≤ 24 := by rw [List.length_take]; omega
        have l2 : (sh (-1) ((l.take (endN l j)).drop (j + 1))).length ≤ 24 := by unfold sh; rw [List.length_map, List.length_drop, List.length_take]; omega
        have l3 : (l.drop (endN l j)).length ≤ 24 := by rw [List.length_drop]; omega
        refine Ev.ifF (show ¬ (2 : Int) = 1 by decide) (Ev.ifT (show (2 : Int) = 2 from rfl) (Ev.bind (specEndOf_ev l t j hj) (Ev.bind s1 ?_)))
        rw [wrapN (show j ≤ 1048576 by omega)]
        refine Ev.bind s2 (Ev.ifT (by omega) ?_)
        simp only [Option.bind_some]
        refine Ev.bind s3 (Ev.ifT (by rw [List.length_append]; omega) ?_)
        exact Ev.now _
      · rw [if_neg (show ¬ (3 : Int) = 1 by decide), if_neg (show ¬ (3 : Int) = 2 by decide), hq]
        have es := endN_spec l hj
        have c := t.chk j hj
        have := c.d0; have := c.d12
        have s1 := specShift_ev t 0 f 0 (by decide) (by decide) (Nat.zero_le _) (by omega)
        have s2 := specShift_ev t f e 1 (by decide) (by decide) hfe (by omega)
        have s3 := specShift_ev t e l.length 0 (by decide) (by decide) (by omega) (Nat.le_refl _)
        rw [sh_zero, List.drop_zero] at s1
        rw [sh_zero, List.take_length] at s3
        have l1 : (l.take f).length ≤ 24 := by rw [List.length_take]; omega
        have l2 : (sh 1 ((l.take e).drop f)).length ≤ 24 := by unfold sh; rw [List.length_map, List.length_drop, List.length_take]; omega
        have l3 : (l.drop e).length ≤ 24 := by rw [List.length_drop]; omega
        refine Ev.ifF (show ¬ (3 : Int) = 1 by decide) (Ev.ifF (show ¬ (3 : Int) = 2 by decide) (Ev.bind s1 (Ev.ifT (by omega) (Ev.ifT (by omega) ?_))))
        simp only [Option.bind_some, rd_dep, Int.toNat_natCast]
        rw [wrap_id (x := dep l j + 1) (by omega) (by omega)]
        refine Ev.ifT (by rw [List.length_singleton]; omega) (Ev.bind s2 (Ev.ifT (by rw [List.length_append, List.length_singleton]; omega) (Ev.bind s3 (Ev.ifT (by rw [List.length_append, List.length_append, List.length_singleton]; omega) ?_))))
        exact Ev.now _
    · rw [if_neg hc]
      exact Ev.ifF hc (Ev.now _)
  · rw [if_neg h]
    exact Ev.ifF h (Ev.now _)
theorem applyB_len (l : List NodeI) (kind : Int) (path : List Int) (lb fr cnt : Int) : (applyB l kind path lb fr cnt).1.length ≤ l.length + 1 := by
  unfold applyB
  by_cases h : trB l = true
  · rw [if_pos h]
    have t := (trB_iff l).1 h
    by_cases hc : (opB l kind lb fr cnt (nodeAt l path)).1 = 0
    · rw [if_pos hc]
      have hr : nodeAt l path < 0 ∨ ∃ j : Nat, nodeAt l path = j ∧ j < l.length := by
        rcases nodeAt_range t path with h1 | h1
        · exact .inl (by omega)
        · exact .inr h1
      obtain ⟨j, e, hj, hk⟩ := opB_ok t hr hc
      rw [e] at hc hk ⊢
      have es := endN_spec l hj
      rw [Int.toNat_natCast]
      unfold doneB
      rcases hk with ⟨rfl, _⟩ | ⟨rfl, h0⟩ | ⟨rfl, _, _, _, _, _, _, f, e, hq, _, _, hf, hfe, hee, _⟩
      · rw [if_pos (show (1 : Int) = 1 from rfl)]; simp
      · rw [if_neg (show ¬ (2 : Int) = 1 by decide), if_pos (show (2 : Int) = 2 from rfl)]
        unfold delN sh
        simp only [List.length_append, List.length_map, List.length_take, List.length_drop]
        omega
      · rw [if_neg (show ¬ (3 : Int) = 1 by decide), if_neg (show ¬ (3 : Int) = 2 by decide), hq]
        unfold insN sh
        simp only [List.length_append, List.length_map, List.length_take, List.length_drop, List.length_singleton, Int.toNat_natCast]
        omega
    · rw [if_neg hc]; exact Nat.le_succ _
  · rw [if_neg h]; simp
end Go.Proofs.Ytbifdckfglejkaa.Q
namespace Go.Proofs.Ytbifdckfglejkaa.Q
open Go.RowKit Go.Proofs.YtbifdckfglejkaaW.PrintWords Go.Proofs.YtbifdckfglejkaaW.PrintLast Go.Proofs.YtbifdckfglejkaaW.PrintMore Go.Proofs.Ytbifdckfglejkaa.X Go.Proofs.Ytbifdckfglejkaa.Rd
set_option linter.unusedVariables false
set_option linter.unusedSimpArgs false
theorem FnExactApplyOp (l : List NodeL) (w : WF44 l) (x : OpL) (w1 : WF63 x) : ∃ k, laws_FnExactApplyOp.f k l x.f0 x.f1 x.f2 x.f3 x.f4 = some true := by
  refine Ev.rounds (g := fun k => laws_FnExactApplyOp.f k l x.f0 x.f1 x.f2 x.f3 x.f4) ?_
  unfold laws_FnExactApplyOp.f
  refine Ev.bindC (szNodeS_eq l _ (by omega) (by omega) w.1) ?_
  by_cases h : (1048576 : Int) < l.length
  · rw [if_pos h]
    exact Ev.ifT (by omega) (Ev.now _)
  rw [if_neg h]
  refine Ev.ifF (by omega) (Ev.bindC (szOp_eq x _ (by omega) (by omega) w1.2.1.1) ?_)
  by_cases h2 : (1048576 - (l.length : Int)) < x.f1.length
  · rw [if_pos h2]
    exact Ev.ifT (by omega) (Ev.now _)
  · rw [if_neg h2]
    refine Ev.ifF (by omega) ?_
    have t := toNodeS_ev l (by omega)
    have q := toOp_ev x (by omega)
    have hl : (l.map toNode).length = l.length := by simp
    have s := specApplyOp_ev (l.map toNode) (by omega) x.f0 x.f1 (by omega) x.f2 x.f3 x.f4
    have i := implApplyOp_ev (l.map toNode) (by omega) x.f0 x.f1 (by omega) x.f2 x.f3 x.f4
    have hres := applyB_len (l.map toNode) x.f0 x.f1 x.f2 x.f3 x.f4
    generalize applyB (l.map toNode) x.f0 x.f1 x.f2 x.f3 x.f4 = res at s i hres
    obtain ⟨rs, code⟩ := res
    simp only at hres
    have e := eqNodeS_ev rs (by omega)
    have eo := eqOp_ev (toOp x) (by show x.f1.length ≤ _; omega)
    obtain ⟨r1, _, m1, _⟩ := markNodeS_ev 1 (l.map toNode) (by omega) (by omega)
    obtain ⟨r3, _, m3⟩ := markIntS_one (1 + 2 * (l.map toNode).length) x.f1 (by omega) (by omega)
    have mo : Ev (fun k => laws_markOp.f k x.f0 x.f1 x.f2 x.f3 x.f4 (1 + 2 * (l.map toNode).length)) ((1 : Int) + 2 * (l.map toNode).length + x.f1.length, r3) := by
      unfold laws_markOp.f
      exact Ev.bind m3 (Ev.now _)
    obtain ⟨r2, _, m2, h2⟩ := markNodeS_ev 1 rs (by omega) (by omega)
    refine Ev.bind t (Ev.bind q (Ev.bind s (Ev.bind t (Ev.bind q (Ev.bind i (Ev.bind e (Ev.ifT rfl ?_)))))))
    refine Ev.step (fun _ => rfl) ?_
    simp only [laws_FnExactApplyOp.j0]
    refine Ev.ifF (by simp) (Ev.bind t (Ev.bind (eqNodeS_ev _ (by omega)) (Ev.ifT rfl (Ev.bind q (Ev.bind eo (Ev.ifT rfl (Ev.bind m1 (Ev.bind mo (Ev.ifF (by simp only; omega) (Ev.bind e (Ev.ifT rfl ?_)))))))))))
    refine Ev.step (fun _ => rfl) ?_
    simp only [laws_FnExactApplyOp.j1]
    refine Ev.ifF (by simp) (Ev.bind m2 (Ev.bind h2 (Ev.ifF (by omega) (Ev.ifT rfl (Ev.bind t (Ev.bind q (Ev.bind i (Ev.bind e (Ev.ifT rfl ?_)))))))))
    refine Ev.step (fun _ => rfl) ?_
    simp only [laws_FnExactApplyOp.j2]
    exact Ev.ifF (by simp) (Ev.bind h2 (Ev.ifF (by omega) (Ev.ifT rfl (Ev.now _))))
end Go.Proofs.Ytbifdckfglejkaa.Q
