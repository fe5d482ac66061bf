/- Part 12 of the proof of FnExactScriptCost: what it needs. -/
import Derived.Test.YtbifdckfglejkaaKEScriptCost5
import Derived.Test.YtbifdckfglejkaaKEScriptCost6
import Derived.Test.YtbifdckfglejkaaKEScriptCost11
namespace Go.Proofs.Ytbifdckfglejkaa.Q
open Go.RowKit Go.Proofs.YtbifdckfglejkaaW.PrintWords Go.Proofs.YtbifdckfglejkaaW.PrintLast Go.Proofs.YtbifdckfglejkaaW.PrintMore Go.Proofs.Ytbifdckfglejkaa.X Go.Proofs.Ytbifdckfglejkaa.Rd
set_option linter.unusedVariables false
set_option linter.unusedSimpArgs false
def deepN (l : List NodeI) : Nat → Nat → Int → Int
  | 0, _, d => d
  | n + 1, k, d => deepN l n (k + 1) (mx d (dep l k + 1))
def bounds (l : List NodeI) (kids : List Int) (i : Nat) : List Int := kids ++ [(endN l i : Int)]
noncomputable def opB (l : List NodeI) (kind lb fr cnt i : Int) : Int × Int × Int :=
  if ¬ (1 ≤ kind ∧ kind ≤ 3) then (1, 0, 0) else if i < 0 then (2, 0, 0) else if kind ≠ 2 ∧ ¬ (0 ≤ lb ∧ lb ≤ 5) then (3, 0, 0)
  else if kind = 2 ∧ i = 0 then (4, 0, 0) else if kind ≠ 3 then (0, 0, 0)
  else if ¬ (0 ≤ fr ∧ fr ≤ (kidsOf l i).length ∧ 0 ≤ cnt ∧ cnt ≤ (kidsOf l i).length - fr) then (5, 0, 0)
  else
    if l.length = 24 then (6, 0, 0)
    else if deepN l (((bounds l (kidsOf l i) i.toNat).getD (fr + cnt).toNat 0).toNat - ((bounds l (kidsOf l i) i.toNat).getD fr.toNat 0).toNat) ((bounds l (kidsOf l i) i.toNat).getD fr.toNat 0).toNat (dep l i.toNat + 1) > 12 then (7, 0, 0)
    else (0, (bounds l (kidsOf l i) i.toNat).getD fr.toNat 0, (bounds l (kidsOf l i) i.toNat).getD (fr + cnt).toNat 0)
theorem mx_eq (a b : Int) : mx a b = max a b := by unfold mx; split <;> omega
theorem bounds_get {l : List NodeI} (t : Tr l) {i : Nat} (hi : i < l.length) {x : Nat} (hx : x ≤ (kidsOf l i).length) : ∃ e : Nat, (bounds l (kidsOf l i) i).getD x 0 = e ∧ i < e ∧ e ≤ endN l i := by
  unfold bounds
  have es := endN_spec l hi
  by_cases c : x < (kidsOf l i).length
  · have h := (kidsOf_mem t hi ((kidsOf l i)[x])).1 (List.getElem_mem c)
    obtain ⟨j, h1, h2, h3, _⟩ := h
    refine ⟨j, ?_, h2, by omega⟩
    rw [List.getD_eq_getElem?_getD, List.getElem?_append_left c, List.getElem?_eq_getElem c, h1]; rfl
  · have e : x = (kidsOf l i).length := by omega
    subst e
    refine ⟨endN l i, ?_, es.1, Nat.le_refl _⟩
    rw [List.getD_eq_getElem?_getD, List.getElem?_append_right (Nat.le_refl _)]; simp
theorem kids_pw {l : List NodeI} (t : Tr l) {i : Nat} (hi : i < l.length) : (kidsOf l i).Pairwise (· < ·) := by
  rw [kidsOf_eq t hi]
  unfold kidsL
  refine List.pairwise_map.2 ((List.Pairwise.filter _ List.pairwise_lt_range').imp ?_)
  intro a b h
  omega
theorem bounds_mono {l : List NodeI} (t : Tr l) {i : Nat} (hi : i < l.length) {x y : Nat} (hxy : x ≤ y) (hy : y ≤ (kidsOf l i).length) : (bounds l (kidsOf l i) i).getD x 0 ≤ (bounds l (kidsOf l i) i).getD y 0 := by
  by_cases e : x = y
  · subst e; exact Int.le_refl _
  · by_cases c : y < (kidsOf l i).length
    · have h := List.pairwise_iff_getElem.1 (kids_pw t hi) x y (by omega) c (by omega)
      unfold bounds
      rw [List.getD_eq_getElem?_getD, List.getD_eq_getElem?_getD, List.getElem?_append_left (by omega), List.getElem?_append_left c, List.getElem?_eq_getElem c, List.getElem?_eq_getElem (by omega)]
      show (kidsOf l i)[x] ≤ (kidsOf l i)[y]
      omega
    · have e2 : y = (kidsOf l i).length := by omega
      subst e2
      obtain ⟨a, h1, h2, h3⟩ := bounds_get t hi (x := x) (by omega)
      have h4 : (bounds l (kidsOf l i) i).getD (kidsOf l i).length 0 = (endN l i : Int) := by
        unfold bounds
        rw [List.getD_eq_getElem?_getD, List.getElem?_append_right (Nat.le_refl _)]; simp
      rw [h1, h4]; omega
theorem nodeGo_range {l : List NodeI} (t : Tr l) (path : List Int) : ∀ (i : Nat), i < l.length → nodeGo l path i = -1 ∨ ∃ j : Nat, nodeGo l path i = j ∧ i ≤ j ∧ j < l.length := by
  induction path with
  | nil => intro i hi; exact .inr ⟨i, rfl, Nat.le_refl _, hi⟩
  | cons p ps ih =>
    intro i hi
    unfold nodeGo
    by_cases c : 0 ≤ p ∧ p < (kidsOf l i).length
    · rw [if_pos c]
      have hp : p.toNat < (kidsOf l i).length := by omega
      obtain ⟨j, h1, h2, h3, _⟩ := (kidsOf_mem t hi ((kidsOf l i)[p.toNat])).1 (List.getElem_mem hp)
      rw [getD_lt _ _ hp, h1]
      have := endN_spec l hi
      rcases ih j (by omega) with h | ⟨q, q1, q2, q3⟩
      · exact .inl h
      · exact .inr ⟨q, q1, by omega, q3⟩
    · rw [if_neg c]; exact .inl rfl
theorem nodeAt_range {l : List NodeI} (t : Tr l) (path : List Int) : nodeAt l path = -1 ∨ ∃ j : Nat, nodeAt l path = j ∧ j < l.length := by
  unfold nodeAt
  rw [if_pos (trB_true t)]
  have h1 := t.len1
  rcases nodeGo_range t path 0 (by omega) with h | ⟨j, h1, _, h2⟩
  · exact .inl h
  · exact .inr ⟨j, h1, h2⟩
theorem implOp_l (l : List NodeI) (t : Tr l) (f e : Nat) (hfe : f ≤ e) (he : e ≤ l.length) (n : Nat) : ∀ (x : Nat) (d : Int), f + x + n = e → 0 ≤ d → d ≤ 13 →
    Ev (fun r => impl_opCode.l0 r l f e d ((l.take e).drop f) ((l.take e).drop f).length x) (if l.length = 24 then (6, 0, 0) else if deepN l n (f + x) d > 12 then (7, 0, 0) else (0, (f : Int), (e : Int))) := by
  have hlen : ((l.take e).drop f).length = e - f := by rw [List.length_drop, List.length_take]; omega
  have h24 := t.len24
  induction n with
  | zero =>
    intro x d hx h0 h1
    refine Ev.step (fun _ => rfl) ?_
    simp only [impl_opCode.l0, hlen]
    refine Ev.ifF (by omega) ?_
    by_cases c : l.length = 24
    · rw [if_pos c]; exact Ev.ifT (by omega) (Ev.now _)
    · rw [if_neg c]
      refine Ev.ifF (by omega) ?_
      show Ev _ (if d > 12 then ((7 : Int), (0 : Int), (0 : Int)) else (0, (f : Int), (e : Int)))
      by_cases c2 : d > 12
      · simp only [if_pos c2]; exact Ev.now _
      · simp only [if_neg c2]; exact Ev.now _
  | succ n ih =>
    intro x d hx h0 h1
    have c := t.chk (f + x) (by omega)
    have := c.d0; have := c.d12
    have erd : (rd_T90 ((l.take e).drop f) (x : Int)).f1 = dep l (f + x) := by
      simp only [rd_T90, Int.toNat_natCast, dep, nd, List.getD_eq_getElem?_getD]
      rw [List.getElem?_drop, List.getElem?_take_of_lt (by omega)]
    refine Ev.step (fun _ => rfl) ?_
    simp only [impl_opCode.l0]
    rw [hlen]
    refine Ev.ifT (by omega) (Ev.ifT (by omega) (Ev.ifT (by omega) ?_))
    rw [erd, wrap_id (x := dep l (f + x) + 1) (by omega) (by omega), wrapN (show x ≤ 1048576 by omega)]
    have h := ih (x + 1) (mx d (dep l (f + x) + 1)) (by omega) (by rw [mx_eq]; omega) (by rw [mx_eq]; omega)
    rw [hlen] at h
    exact h
theorem specOp_l (l : List NodeI) (t : Tr l) (f e : Nat) (he : e ≤ l.length) (n : Nat) : ∀ (x : Nat) (d : Int), x + n = e → 0 ≤ d → d ≤ 13 →
    Ev (fun r => spec_l13Code.l0 r l f e d x) (if deepN l n x d > 12 then (7, 0, 0) else (0, (f : Int), (e : Int))) := by
  have h24 := t.len24
  induction n with
  | zero =>
    intro x d hx h0 h1
    refine Ev.step (fun _ => rfl) ?_
    simp only [spec_l13Code.l0]
    refine Ev.ifF (by omega) ?_
    show Ev _ (if d > 12 then ((7 : Int), (0 : Int), (0 : Int)) else (0, (f : Int), (e : Int)))
    by_cases c2 : d > 12
    · simp only [if_pos c2]; exact Ev.now _
    · simp only [if_neg c2]; exact Ev.now _
  | succ n ih =>
    intro x d hx h0 h1
    have c := t.chk x (by omega)
    have := c.d0; have := c.d12
    refine Ev.step (fun _ => rfl) ?_
    simp only [spec_l13Code.l0, rd_dep]
    rw [wrap_id (x := dep l x + 1) (by omega) (by omega), wrapN (show x ≤ 1048576 by omega)]
    exact Ev.ifT (by omega) (Ev.ifT (by omega) (Ev.ifT (by omega) (ih (x + 1) (mx d (dep l x + 1)) (by omega) (by rw [mx_eq]; omega) (by rw [mx_eq]; omega))))
theorem implOp_j2 (l : List NodeI) (t : Tr l) (i : Nat) (hi : i < l.length) (kind : Int) (path : List Int) (lb fr cnt : Int) :
    Ev (fun r => impl_opCode.j2 r l i (kidsOf l i) (!(decide (0 ≤ fr ∧ fr ≤ (kidsOf l i).length ∧ 0 ≤ cnt ∧ cnt ≤ (kidsOf l i).length - fr))) kind path lb fr cnt)
      (if ¬ (0 ≤ fr ∧ fr ≤ (kidsOf l i).length ∧ 0 ≤ cnt ∧ cnt ≤ (kidsOf l i).length - fr) then (5, 0, 0) else if l.length = 24 then (6, 0, 0)
        else if deepN l (((bounds l (kidsOf l i) i).getD (fr + cnt).toNat 0).toNat - ((bounds l (kidsOf l i) i).getD fr.toNat 0).toNat) ((bounds l (kidsOf l i) i).getD fr.toNat 0).toNat (dep l i + 1) > 12 then (7, 0, 0)
        else (0, (bounds l (kidsOf l i) i).getD fr.toNat 0, (bounds l (kidsOf l i) i).getD (fr + cnt).toNat 0)) := by
  have h24 := t.len24
  have hk := kidsOf_len l i
  refine Ev.step (fun _ => rfl) ?_
  simp only [impl_opCode.j2]
  by_cases c : 0 ≤ fr ∧ fr ≤ (kidsOf l i).length ∧ 0 ≤ cnt ∧ cnt ≤ (kidsOf l i).length - fr
  · rw [if_neg (not_not_intro c)]
    refine Ev.ifF (by simp [c]) (Ev.bind (implEndOf_ev l (by omega) i hi) (Ev.ifT (by omega) ?_))
    simp only [Option.bind_some]
    obtain ⟨f, hf, f1, f2⟩ := bounds_get t hi (x := fr.toNat) (by omega)
    obtain ⟨e, he, e1, e2⟩ := bounds_get t hi (x := (fr + cnt).toNat) (by omega)
    have hm := bounds_mono t hi (x := fr.toNat) (y := (fr + cnt).toNat) (by omega) (by omega)
    have es := endN_spec l hi
    have ci := t.chk i hi
    have := ci.d0; have := ci.d12
    have hw : wrap64 (fr + cnt) = fr + cnt := wrap_id (by omega) (by omega)
    have hlen : (kidsOf l i ++ [(endN l i : Int)]).length = (kidsOf l i).length + 1 := by simp
    have ef : rd (kidsOf l i ++ [(endN l i : Int)]) fr = f := hf
    have ee : rd (kidsOf l i ++ [(endN l i : Int)]) (fr + cnt) = e := he
    rw [hw, hlen, ef, ee]
    rw [hf, he] at hm ⊢
    simp only [rd_dep, Int.toNat_natCast]
    have hfe : f ≤ e := by omega
    refine Ev.ifT (by omega) (Ev.ifT (by omega) (Ev.ifT (by omega) (Ev.ifT (by omega) (Ev.ifT (by omega) (Ev.ifT (by omega) (Ev.ifT (by omega) (Ev.ifT (by omega) (Ev.ifT (by omega) ?_))))))))
    rw [wrap_id (x := dep l i + 1) (by omega) (by omega)]
    have h := implOp_l l t f e hfe (by omega) (e - f) 0 (dep l i + 1) (by omega) (by omega) (by omega)
    rw [Nat.add_zero] at h
    exact h
  · rw [if_pos c]
    exact Ev.ifT (by simp [c]) (Ev.now _)
theorem specOp_j2 (l : List NodeI) (t : Tr l) (i : Nat) (hi : i < l.length) (kind : Int) (path : List Int) (lb fr cnt : Int) :
    Ev (fun r => spec_l13Code.j2 r l i (kidsOf l i) (!(decide (0 ≤ fr ∧ fr ≤ (kidsOf l i).length ∧ 0 ≤ cnt ∧ cnt ≤ (kidsOf l i).length - fr))) kind path lb fr cnt)
      (if ¬ (0 ≤ fr ∧ fr ≤ (kidsOf l i).length ∧ 0 ≤ cnt ∧ cnt ≤ (kidsOf l i).length - fr) then (5, 0, 0) else if l.length = 24 then (6, 0, 0)
        else if deepN l (((bounds l (kidsOf l i) i).getD (fr + cnt).toNat 0).toNat - ((bounds l (kidsOf l i) i).getD fr.toNat 0).toNat) ((bounds l (kidsOf l i) i).getD fr.toNat 0).toNat (dep l i + 1) > 12 then (7, 0, 0)
        else (0, (bounds l (kidsOf l i) i).getD fr.toNat 0, (bounds l (kidsOf l i) i).getD (fr + cnt).toNat 0)) := by
  have h24 := t.len24
  have hk := kidsOf_len l i
  refine Ev.step (fun _ => rfl) ?_
  simp only [spec_l13Code.j2]
  by_cases c : 0 ≤ fr ∧ fr ≤ (kidsOf l i).length ∧ 0 ≤ cnt ∧ cnt ≤ (kidsOf l i).length - fr
  · rw [if_neg (not_not_intro c)]
    refine Ev.ifF (by simp [c]) (Ev.bind (specEndOf_ev l t i hi) (Ev.ifT (by omega) ?_))
    simp only [Option.bind_some]
    obtain ⟨f, hf, f1, f2⟩ := bounds_get t hi (x := fr.toNat) (by omega)
    obtain ⟨e, he, e1, e2⟩ := bounds_get t hi (x := (fr + cnt).toNat) (by omega)
    have hm := bounds_mono t hi (x := fr.toNat) (y := (fr + cnt).toNat) (by omega) (by omega)
    have es := endN_spec l hi
    have ci := t.chk i hi
    have := ci.d0; have := ci.d12
    have hw : wrap64 (fr + cnt) = fr + cnt := wrap_id (by omega) (by omega)
    have hlen : (kidsOf l i ++ [(endN l i : Int)]).length = (kidsOf l i).length + 1 := by simp
    have ef : rd (kidsOf l i ++ [(endN l i : Int)]) fr = f := hf
    have ee : rd (kidsOf l i ++ [(endN l i : Int)]) (fr + cnt) = e := he
    rw [hw, hlen, ef, ee]
    rw [hf, he] at hm ⊢
    simp only [rd_dep, Int.toNat_natCast]
    have hfe : f ≤ e := by omega
    refine Ev.ifT (by omega) (Ev.ifT (by omega) (Ev.ifT (by omega) (Ev.ifT (by omega) ?_)))
    by_cases c2 : l.length = 24
    · rw [if_pos c2]; exact Ev.ifT (by omega) (Ev.now _)
    · rw [if_neg c2]
      refine Ev.ifF (by omega) (Ev.ifT (by omega) (Ev.ifT (by omega) ?_))
      rw [wrap_id (x := dep l i + 1) (by omega) (by omega)]
      exact specOp_l l t f e (by omega) (e - f) f (dep l i + 1) (by omega) (by omega) (by omega)
  · rw [if_pos c]
    exact Ev.ifT (by simp [c]) (Ev.now _)
theorem implOp_j1 (l : List NodeI) (t : Tr l) (i : Nat) (hi : i < l.length) (kind : Int) (path : List Int) (lb fr cnt : Int) :
    Ev (fun r => impl_opCode.j1 r l i (decide (kind = 2 ∧ (i : Int) = 0)) kind path lb fr cnt)
      (if kind = 2 ∧ (i : Int) = 0 then (4, 0, 0) else if kind ≠ 3 then (0, 0, 0) else if ¬ (0 ≤ fr ∧ fr ≤ (kidsOf l i).length ∧ 0 ≤ cnt ∧ cnt ≤ (kidsOf l i).length - fr) then (5, 0, 0) else if l.length = 24 then (6, 0, 0)
        else if deepN l (((bounds l (kidsOf l i) i).getD (fr + cnt).toNat 0).toNat - ((bounds l (kidsOf l i) i).getD fr.toNat 0).toNat) ((bounds l (kidsOf l i) i).getD fr.toNat 0).toNat (dep l i + 1) > 12 then (7, 0, 0)
        else (0, (bounds l (kidsOf l i) i).getD fr.toNat 0, (bounds l (kidsOf l i) i).getD (fr + cnt).toNat 0)) := by
  have hk := kidsOf_len l i
  refine Ev.step (fun _ => rfl) ?_
  simp only [impl_opCode.j1]
  by_cases c : kind = 2 ∧ (i : Int) = 0
  · rw [if_pos c]; exact Ev.ifT (by simpa using c) (Ev.now _)
  · rw [if_neg c]
    refine Ev.ifF (by simpa using c) ?_
    by_cases c3 : kind = 3
    · rw [if_neg (not_not_intro c3)]
      refine Ev.ifT c3 (Ev.bind (implKidsOf_ev l i) (Ev.bindC (within_eq _ _ _) ?_))
      have hj := implOp_j2 l t i hi kind path lb fr cnt
      by_cases cf : 0 ≤ fr ∧ fr ≤ ((kidsOf l i).length : Int)
      · refine Ev.ifT (by simpa using cf) (Ev.bindC (within_eq _ _ _) ?_)
        rw [wrap_id (x := ((kidsOf l i).length : Int) - fr) (by omega) (by omega)]
        have e : decide (0 ≤ fr ∧ fr ≤ ((kidsOf l i).length : Int) ∧ 0 ≤ cnt ∧ cnt ≤ (kidsOf l i).length - fr) = decide (0 ≤ cnt ∧ cnt ≤ ((kidsOf l i).length : Int) - fr) := by
          apply decide_eq_decide.2; exact ⟨fun h => ⟨h.2.2.1, h.2.2.2⟩, fun h => ⟨cf.1, cf.2, h.1, h.2⟩⟩
        rw [e] at hj
        exact hj
      · refine Ev.ifF (by simpa using cf) ?_
        have e : decide (0 ≤ fr ∧ fr ≤ ((kidsOf l i).length : Int) ∧ 0 ≤ cnt ∧ cnt ≤ (kidsOf l i).length - fr) = false := decide_eq_false (fun h => cf ⟨h.1, h.2.1⟩)
        rw [e] at hj
        exact hj
    · rw [if_pos c3]; exact Ev.ifF c3 (Ev.now _)
theorem specOp_j1 (l : List NodeI) (t : Tr l) (i : Nat) (hi : i < l.length) (kind : Int) (path : List Int) (lb fr cnt : Int) :
    Ev (fun r => spec_l13Code.j1 r l i (decide (kind = 2 ∧ (i : Int) = 0)) kind path lb fr cnt)
      (if kind = 2 ∧ (i : Int) = 0 then (4, 0, 0) else if kind ≠ 3 then (0, 0, 0) else if ¬ (0 ≤ fr ∧ fr ≤ (kidsOf l i).length ∧ 0 ≤ cnt ∧ cnt ≤ (kidsOf l i).length - fr) then (5, 0, 0) else if l.length = 24 then (6, 0, 0)
        else if deepN l (((bounds l (kidsOf l i) i).getD (fr + cnt).toNat 0).toNat - ((bounds l (kidsOf l i) i).getD fr.toNat 0).toNat) ((bounds l (kidsOf l i) i).getD fr.toNat 0).toNat (dep l i + 1) > 12 then (7, 0, 0)
        else (0, (bounds l (kidsOf l i) i).getD fr.toNat 0, (bounds l (kidsOf l i) i).getD (fr + cnt).toNat 0)) := by
  have hk := kidsOf_len l i
  have h24 := t.len24
  refine Ev.step (fun _ => rfl) ?_
  simp only [spec_l13Code.j1]
  by_cases c : kind = 2 ∧ (i : Int) = 0
  · rw [if_pos c]; exact Ev.ifT (by simpa using c) (Ev.now _)
  · rw [if_neg c]
    refine Ev.ifF (by simpa using c) ?_
    by_cases c3 : kind = 3
    · rw [if_neg (not_not_intro c3)]
      refine Ev.ifT c3 (Ev.bind (specKidsOf_ev l (by omega) i) (Ev.bindC (l1In_eq _ _ _) ?_))
      have hj := specOp_j2 l t i hi kind path lb fr cnt
      by_cases cf : 0 ≤ fr ∧ fr ≤ ((kidsOf l i).length : Int)
      · refine Ev.ifT (by simpa using cf) (Ev.bindC (l1In_eq _ _ _) ?_)
        rw [wrap_id (x := ((kidsOf l i).length : Int) - fr) (by omega) (by omega)]
        have e : decide (0 ≤ fr ∧ fr ≤ ((kidsOf l i).length : Int) ∧ 0 ≤ cnt ∧ cnt ≤ (kidsOf l i).length - fr) = decide (0 ≤ cnt ∧ cnt ≤ ((kidsOf l i).length : Int) - fr) := by
          apply decide_eq_decide.2; exact ⟨fun h => ⟨h.2.2.1, h.2.2.2⟩, fun h => ⟨cf.1, cf.2, h.1, h.2⟩⟩
        rw [e] at hj
        exact hj
      · refine Ev.ifF (by simpa using cf) ?_
        have e : decide (0 ≤ fr ∧ fr ≤ ((kidsOf l i).length : Int) ∧ 0 ≤ cnt ∧ cnt ≤ (kidsOf l i).length - fr) = false := decide_eq_false (fun h => cf ⟨h.1, h.2.1⟩)
        rw [e] at hj
        exact hj
    · rw [if_pos c3]; exact Ev.ifF c3 (Ev.now _)
theorem implOp_ev {l : List NodeI} (t : Tr l) (kind : Int) (path : List Int) (lb fr cnt : Int) (i : Int) (hi : i < 0 ∨ ∃ j : Nat, i = j ∧ j < l.length) : Ev (fun r => impl_opCode.f r l kind path lb fr cnt i) (opB l kind lb fr cnt i) := by
  unfold impl_opCode.f opB
  refine Ev.bindC (within_eq _ _ _) ?_
  by_cases c : 1 ≤ kind ∧ kind ≤ 3
  · rw [if_neg (not_not_intro c)]
    refine Ev.ifT (by simpa using c) ?_
    by_cases c0 : i < 0
    · rw [if_pos c0]; exact Ev.ifT c0 (Ev.now _)
    · rw [if_neg c0]
      refine Ev.ifF c0 ?_
      obtain ⟨j, rfl, hj⟩ := hi.resolve_left c0
      have h1 := implOp_j1 l t j hj kind path lb fr cnt
      rw [Int.toNat_natCast]
      by_cases c2 : kind = 2
      · rw [if_neg (fun h => h.1 c2)]
        refine Ev.ifT c2 ?_
        refine Ev.step (fun _ => rfl) ?_
        simp only [impl_opCode.j0]
        refine Ev.ifF (by simp) (Ev.ifT c2 ?_)
        have e : decide (kind = 2 ∧ (j : Int) = 0) = ((j : Int) == 0) := by rw [Bool.eq_iff_iff]; simp [c2]
        rw [e] at h1
        exact h1
      · refine Ev.ifF c2 (Ev.bindC (implLabelOk_eq _) ?_)
        refine Ev.step (fun _ => rfl) ?_
        simp only [impl_opCode.j0]
        by_cases cl : 0 ≤ lb ∧ lb ≤ 5
        · rw [if_neg (fun h => h.2 cl)]
          refine Ev.ifF (by simp [cl]) (Ev.ifF c2 ?_)
          have e : decide (kind = 2 ∧ (j : Int) = 0) = false := decide_eq_false (fun h => c2 h.1)
          rw [e] at h1
          exact h1
        · rw [if_pos ⟨c2, cl⟩]
          exact Ev.ifT (by simp [cl]) (Ev.now _)
  · rw [if_pos c]; exact Ev.ifF (by simpa using c) (Ev.now _)
theorem specOp_ev {l : List NodeI} (t : Tr l) (kind : Int) (path : List Int) (lb fr cnt : Int) (i : Int) (hi : i < 0 ∨ ∃ j : Nat, i = j ∧ j < l.length) : Ev (fun r => spec_l13Code.f r l kind path lb fr cnt i) (opB l kind lb fr cnt i) := by
  unfold spec_l13Code.f opB
  refine Ev.bindC (l1In_eq _ _ _) ?_
  by_cases c : 1 ≤ kind ∧ kind ≤ 3
  · rw [if_neg (not_not_intro c)]
    refine Ev.ifT (by simpa using c) ?_
    by_cases c0 : i < 0
    · rw [if_pos c0]; exact Ev.ifT c0 (Ev.now _)
    · rw [if_neg c0]
      refine Ev.ifF c0 ?_
      obtain ⟨j, rfl, hj⟩ := hi.resolve_left c0
      have h1 := specOp_j1 l t j hj kind path lb fr cnt
      rw [Int.toNat_natCast]
      by_cases c2 : kind = 2
      · rw [if_neg (fun h => h.1 c2)]
        refine Ev.ifT c2 ?_
        refine Ev.step (fun _ => rfl) ?_
        simp only [spec_l13Code.j0]
        refine Ev.ifF (by simp) (Ev.ifT c2 ?_)
        have e : decide (kind = 2 ∧ (j : Int) = 0) = ((j : Int) == 0) := by rw [Bool.eq_iff_iff]; simp [c2]
        rw [e] at h1
        exact h1
      · refine Ev.ifF c2 (Ev.bindC (specLabelOk_eq _) ?_)
        refine Ev.step (fun _ => rfl) ?_
        simp only [spec_l13Code.j0]
        by_cases cl : 0 ≤ lb ∧ lb ≤ 5
        · rw [if_neg (fun h => h.2 cl)]
          refine Ev.ifF (by simp [cl]) (Ev.ifF c2 ?_)
          have e : decide (kind = 2 ∧ (j : Int) = 0) = false := decide_eq_false (fun h => c2 h.1)
          rw [e] at h1
          exact h1
        · rw [if_pos ⟨c2, cl⟩]
          exact Ev.ifT (by simp [cl]) (Ev.now _)
  · rw [if_pos c]; exact Ev.ifF (by simpa using c) (Ev.now _)
def sh (d : Int) (l : List NodeI) : List NodeI := l.map fun x => ⟨x.f0, x.f1 + d⟩
def delN (l : List NodeI) (i : Nat) : List NodeI := l.take i ++ sh (-1) ((l.take (endN l i)).drop (i + 1)) ++ l.drop (endN l i)
def insN (l : List NodeI) (f e : Nat) (x : NodeI) : List NodeI := l.take f ++ [x] ++ sh 1 ((l.take e).drop f) ++ l.drop e
noncomputable def doneB (l : List NodeI) (kind lb : Int) (i : Nat) (c : Int × Int × Int) : List NodeI :=
  if kind = 1 then l.set i ⟨lb, dep l i⟩ else if kind = 2 then delN l i else insN l c.2.1.toNat c.2.2.toNat ⟨lb, dep l i + 1⟩
noncomputable def applyB (l : List NodeI) (kind : Int) (path : List Int) (lb fr cnt : Int) : List NodeI × Int :=
  if trB l = true then (if (opB l kind lb fr cnt (nodeAt l path)).1 = 0 then (doneB l kind lb (nodeAt l path).toNat (opB l kind lb fr cnt (nodeAt l path)), 0) else (l, (opB l kind lb fr cnt (nodeAt l path)).1)) else ([], 2)
theorem opB_ok {l : List NodeI} (t : Tr l) {kind lb fr cnt i : Int} (hi : i < 0 ∨ ∃ j : Nat, i = j ∧ j < l.length) (h : (opB l kind lb fr cnt i).1 = 0) :
    ∃ j : Nat, i = j ∧ j < l.length ∧ ((kind = 1 ∧ 0 ≤ lb ∧ lb ≤ 5) ∨ (kind = 2 ∧ 0 < j) ∨
      (kind = 3 ∧ 0 ≤ lb ∧ lb ≤ 5 ∧ l.length < 24 ∧ 0 ≤ fr ∧ 0 ≤ cnt ∧ fr + cnt ≤ (kidsOf l j).length ∧ ∃ f e : Nat, opB l kind lb fr cnt i = (0, (f : Int), (e : Int)) ∧ (bounds l (kidsOf l j) j).getD fr.toNat 0 = f ∧ (bounds l (kidsOf l j) j).getD (fr + cnt).toNat 0 = e ∧ j < f ∧ f ≤ e ∧ e ≤ endN l j ∧ deepN l (e - f) f (dep l j + 1) ≤ 12)) := by
  have h24 := t.len24
  unfold opB at h ⊢
  by_cases c : 1 ≤ kind ∧ kind ≤ 3
  case neg => rw [if_pos c] at h; simp at h
  rw [if_neg (not_not_intro c)] at h ⊢
  by_cases c0 : i < 0
  case pos => rw [if_pos c0] at h; simp at h
  rw [if_neg c0] at h ⊢
  obtain ⟨j, rfl, hj⟩ := hi.resolve_left c0
  refine ⟨j, rfl, hj, ?_⟩
  by_cases c1 : kind ≠ 2 ∧ ¬ (0 ≤ lb ∧ lb ≤ 5)
  case pos => rw [if_pos c1] at h; simp at h
  rw [if_neg c1] at h ⊢
  by_cases c2 : kind = 2 ∧ (j : Int) = 0
  case pos => rw [if_pos c2] at h; simp at h
  rw [if_neg c2] at h ⊢
  by_cases c3 : kind ≠ 3
  · by_cases k2 : kind = 2
    · exact .inr (.inl ⟨k2, by omega⟩)
    · exact .inl ⟨by omega, by omega⟩
  rw [if_neg c3] at h ⊢
  rw [Int.toNat_natCast] at h ⊢
  by_cases c4 : 0 ≤ fr ∧ fr ≤ (kidsOf l j).length ∧ 0 ≤ cnt ∧ cnt ≤ (kidsOf l j).length - fr
  case neg => rw [if_pos c4] at h; simp at h
  rw [if_neg (not_not_intro c4)] at h ⊢
  by_cases c5 : l.length = 24
  case pos => rw [if_pos c5] at h; simp at h
  rw [if_neg c5] at h ⊢
  obtain ⟨f, hf, f1, f2⟩ := bounds_get t hj (x := fr.toNat) (by omega)
  obtain ⟨e, he, e1, e2⟩ := bounds_get t hj (x := (fr + cnt).toNat) (by omega)
  have hm := bounds_mono t hj (x := fr.toNat) (y := (fr + cnt).toNat) (by omega) (by omega)
  rw [hf, he] at h hm ⊢
  rw [Int.toNat_natCast, Int.toNat_natCast] at h ⊢
  by_cases c6 : deepN l (e - f) f (dep l j + 1) > 12
  case pos => rw [if_pos c6] at h; simp at h
  rw [if_neg c6]
  exact .inr (.inr ⟨by omega, by omega, by omega, by omega, c4.1, c4.2.2.1, by omega, f, e, rfl, rfl, rfl, f1, by omega, e2, by omega⟩)
theorem sh_zero (l : List NodeI) : sh 0 l = l := by
  unfold sh
  conv => rhs; rw [← List.map_id l]
  refine List.map_congr_left fun x _ => ?_
  simp
theorem tr_mem {l : List NodeI} (t : Tr l) : ∀ x ∈ l, 0 ≤ x.f0 ∧ x.f0 ≤ 5 ∧ 0 ≤ x.f1 ∧ x.f1 ≤ 12 := by
  intro x hx
  obtain ⟨i, hi, rfl⟩ := List.getElem_of_mem hx
  have c := t.chk i hi
  have e : nd l i = l[i] := getD_lt l _ hi
  have := c.l0; have := c.l5; have := c.d0; have := c.d12
  unfold lab at *
  unfold dep at *
  rw [e] at *
  exact ⟨by assumption, by assumption, by assumption, by assumption⟩
theorem take_snoc' (l : List NodeI) (a x : Nat) (hx : x < l.length) (ha : a ≤ x) : (l.take (x + 1)).drop a = (l.take x).drop a ++ [l[x]] := by
  rw [take_succ_append l x hx, List.drop_append_of_le_length (by rw [List.length_take]; omega)]
theorem specShift_l {l : List NodeI} (t : Tr l) (a b : Nat) (by_ : Int) (h0 : -100 ≤ by_) (h1 : by_ ≤ 100) (hb : b ≤ l.length) (n : Nat) : ∀ x : Nat, a ≤ x → x + n = b → Ev (fun r => spec_l13Shift.l0 r l b by_ (sh by_ ((l.take x).drop a)) x) (sh by_ ((l.take b).drop a)) := by
  have h24 := t.len24
  induction n with
  | zero =>
    intro x ha hx
    obtain rfl : x = b := by omega
    refine Ev.step (fun _ => rfl) ?_
    simp only [spec_l13Shift.l0]
    exact Ev.ifF (by omega) (Ev.now _)
  | succ n ih =>
    intro x ha hx
    have hlt : x < l.length := by omega
    have m := tr_mem t _ (List.getElem_mem hlt)
    refine Ev.step (fun _ => rfl) ?_
    simp only [spec_l13Shift.l0]
    have e1 : rd_T90 l (x : Int) = l[x] := getD_nat l x _ hlt
    rw [e1, wrap_id (x := l[x].f1 + by_) (by omega) (by omega), wrapN (show x ≤ 1048576 by omega)]
    have h := ih (x + 1) (by omega) (by omega)
    rw [take_snoc' l a x hlt ha] at h
    have e2 : sh by_ ((l.take x).drop a ++ [l[x]]) = sh by_ ((l.take x).drop a) ++ [⟨l[x].f0, l[x].f1 + by_⟩] := by unfold sh; rw [List.map_append]; rfl
    rw [e2] at h
    refine Ev.ifT (by omega) (Ev.ifT (by omega) (Ev.ifT (by omega) (Ev.ifT ?_ h)))
    unfold sh
    rw [List.length_map, List.length_drop, List.length_take]
    omega
theorem specShift_ev {l : List NodeI} (t : Tr l) (a b : Nat) (by_ : Int) (h0 : -100 ≤ by_) (h1 : by_ ≤ 100) (hab : a ≤ b) (hb : b ≤ l.length) : Ev (fun r => spec_l13Shift.f r l a b by_) (sh by_ ((l.take b).drop a)) := by
  have h := specShift_l t a b by_ h0 h1 hb (b - a) a (Nat.le_refl _) (by omega)
  have e : (l.take a).drop a = [] := List.drop_eq_nil_of_le (by rw [List.length_take]; omega)
  rw [e] at h
  exact h
theorem shiftL_parts (h : NdI → NdI) (a b : Nat) (l : List NdI) (hab : a ≤ b) (hb : b ≤ l.length) : shiftL h a b l = l.take a ++ (((l.take b).drop a).map h ++ l.drop b) := by
  apply List.ext_getElem?
  intro j
  rw [shiftL_get]
  have la : (l.take a).length = a := by rw [List.length_take]; omega
  have lm : (((l.take b).drop a).map h).length = b - a := by rw [List.length_map, List.length_drop, List.length_take]; omega
  rcases Nat.lt_or_ge j a with c | c
  · rw [List.getElem?_append_left (by omega), List.getElem?_take_of_lt c]
    cases l[j]? with
    | none => rfl
    | some x => show some (if a ≤ j ∧ j < b then h x else x) = some x; rw [if_neg (by omega)]
  · rw [List.getElem?_append_right (by omega), la]
    rcases Nat.lt_or_ge j b with c2 | c2
    · rw [List.getElem?_append_left (by omega), List.getElem?_map, List.getElem?_drop, List.getElem?_take_of_lt (by omega), show a + (j - a) = j by omega]
      cases l[j]? with
      | none => rfl
      | some x => show some (if a ≤ j ∧ j < b then h x else x) = some (h x); rw [if_pos ⟨c, c2⟩]
    · rw [List.getElem?_append_right (by omega), lm, List.getElem?_drop, show b + (j - a - (b - a)) = j by omega]
      cases l[j]? with
      | none => rfl
      | some x => show some (if a ≤ j ∧ j < b then h x else x) = some x; rw [if_neg (by omega)]
theorem map_less {l : List NodeI} (t : Tr l) (a b : Nat) : ((l.take b).drop a).map lessDeep = sh (-1) ((l.take b).drop a) := by
  refine List.map_congr_left fun x hx => ?_
  have m := tr_mem t x (List.mem_of_mem_take (List.mem_of_mem_drop hx))
  show (⟨x.f0, wrap64 (x.f1 - 1)⟩ : NodeI) = ⟨x.f0, x.f1 + -1⟩
  rw [wrap_id (by omega) (by omega)]; rfl
theorem map_more {l : List NodeI} (t : Tr l) (a b : Nat) : ((l.take b).drop a).map moreDeep = sh 1 ((l.take b).drop a) := by
  refine List.map_congr_left fun x hx => ?_
  have m := tr_mem t x (List.mem_of_mem_take (List.mem_of_mem_drop hx))
  show (⟨x.f0, wrap64 (x.f1 + 1)⟩ : NodeI) = ⟨x.f0, x.f1 + 1⟩
  rw [wrap_id (by omega) (by omega)]
theorem implApplyOp_ev (l : List NodeI) (hl : l.length ≤ 9223372036854775807) (kind : Int) (path : List Int) (hp : path.length ≤ 1048576) (lb fr cnt : Int) : Ev (fun r => impl_ApplyOp.f r l kind path lb fr cnt) (applyB l kind path lb fr cnt) := by
  unfold impl_ApplyOp.f applyB
  refine Ev.bind (implTreeOk_ev l) ?_
  by_cases h : trB l = true
  · rw [if_pos h]
    have t := (trB_iff l).1 h
    have h24 := t.len24
    refine Ev.ifT h (Ev.ifT (by omega) (Ev.bind (implNodeAt_ev l hl path hp) ?_))
    have hr : nodeAt l path < 0 ∨ ∃ j : Nat, nodeAt l path = j ∧ j < l.length := by
      rcases nodeAt_range t path with h1 | h1
      · exact .inl (by omega)
      · exact .inr h1
    generalize nodeAt l path = i at hr ⊢
    refine Ev.bind (implOp_ev t kind path lb fr cnt i hr) ?_
    by_cases hc : (opB l kind lb fr cnt i).1 = 0
    · rw [if_pos hc]
      refine Ev.ifT hc ?_
      obtain ⟨j, rfl, hj, hk⟩ := opB_ok t hr hc
      refine Ev.ifT (by omega) (Ev.ifT (by omega) ?_)
      rw [Int.toNat_natCast]
      have erd : rd_T90 l (j : Int) = nd l j := rd_nd l j
      unfold doneB
      rcases hk with ⟨rfl, _⟩ | ⟨rfl, h0⟩ | ⟨rfl, _, _, _, _, _, _, f, e, hq, _, _, hf, hfe, hee, _⟩
      · rw [if_pos rfl, erd]
        exact Ev.ifT rfl (Ev.now _)
      · rw [if_neg (show ¬ (2 : Int) = 1 by decide), if_pos (show (2 : Int) = 2 from rfl)]
        have es := endN_spec l hj
        refine Ev.ifF (show ¬ (2 : Int) = 1 by decide) (Ev.ifT (show (2 : Int) = 2 from rfl) (Ev.bind (implEndOf_ev l (by omega) j hj) (Ev.ifT (by omega) (Ev.ifT (by omega) ?_))))
        rw [Int.toNat_natCast]
        have e1 := shiftL_parts lessDeep (j + 1) (endN l j) l (by omega) es.2.1
        have lt : (l.take (j + 1)).length = j + 1 := by rw [List.length_take]; omega
        have e2 : (shiftL lessDeep (j + 1) (endN l j) l).take j = l.take j := by
          rw [e1, List.take_append_of_le_length (by omega), List.take_take, Nat.min_eq_left (by omega)]
        have e3 : (shiftL lessDeep (j + 1) (endN l j) l).drop (j + 1) = ((l.take (endN l j)).drop (j + 1)).map lessDeep ++ l.drop (endN l j) := by
          rw [e1]; exact List.drop_left' lt
        rw [e2, e3, map_less t]
        unfold delN
        rw [List.append_assoc]
        exact Ev.now _
      · rw [if_neg (show ¬ (3 : Int) = 1 by decide), if_neg (show ¬ (3 : Int) = 2 by decide), hq]
        have es := endN_spec l hj
        refine Ev.ifF (show ¬ (3 : Int) = 1 by decide) (Ev.ifF (show ¬ (3 : Int) = 2 by decide) (Ev.ifT (by simp only; omega) (Ev.ifT (by simp only; omega) (Ev.ifT (by simp only; omega) ?_))))
        simp only [Int.toNat_natCast, rd_dep]
        have c := t.chk j hj
        have := c.d0; have := c.d12
        rw [wrap_id (x := dep l j + 1) (by omega) (by omega)]
        have e1 := shiftL_parts moreDeep f e l hfe (by omega)
        have lt : (l.take f).length = f := by rw [List.length_take]; omega
        have e2 : (shiftL moreDeep f e l).take f = l.take f := by rw [e1]; exact List.take_left' lt
        have e3 : (shiftL moreDeep f e l).drop f = ((l.take e).drop f).map moreDeep ++ l.drop e := by rw [e1]; exact List.drop_left' lt
        rw [e2, e3, map_more t]
        unfold insN
        rw [List.append_assoc (l.take f ++ _)]
        exact Ev.now _
    · rw [if_neg hc]
      exact Ev.ifF hc (Ev.now _)
  · rw [if_neg h]
    exact Ev.ifF h (Ev.now _)
theorem copy_eq (l : List NodeI) (hl : l.length < 8796093022208) : spec_l3Copy.f l = some l := by
  unfold spec_l3Copy.f
  simp [hl]
theorem specApplyOp_ev (l : List NodeI) (hl : l.length ≤ 9223372036854775807) (kind : Int) (path : List Int) (hp : path.length ≤ 1048576) (lb fr cnt : Int) : Ev (fun r => spec_ApplyOp.f r l kind path lb fr cnt) (applyB l kind path lb fr cnt) := by
  unfold spec_ApplyOp.f applyB
  refine Ev.bind (specTreeOk_ev l hl) ?_
  by_cases h : trB l = true
  · rw [if_pos h]
    have t := (trB_iff l).1 h
    have h24 := t.len24
    refine Ev.ifT h (Ev.bind (specNodeAt_ev l hl path hp) (Ev.bindC (copy_eq l (by omega)) ?_))
    have hr : nodeAt l path < 0 ∨ ∃ j : Nat, nodeAt l path = j ∧ j < l.length := by
      rcases nodeAt_range t path with h1 | h1
      · exact .inl (by omega)
      · exact .inr h1
    generalize nodeAt l path = i at hr ⊢
    refine Ev.bind (specOp_ev t kind path lb fr cnt i hr) ?_
    by_cases hc : (opB l kind lb fr cnt i).1 = 0
    · rw [if_pos hc]
      refine Ev.ifT hc ?_
      obtain ⟨j, rfl, hj, hk⟩ := opB_ok t hr hc
      rw [hc, Int.toNat_natCast]
      unfold doneB
      rcases hk with ⟨rfl, _⟩ | ⟨rfl, h0⟩ | ⟨rfl, _, _, _, _, _, _, f, e, hq, _, _, hf, hfe, hee, _⟩
      · rw [if_pos (show (1 : Int) = 1 from rfl)]
        simp only [rd_dep]
        refine Ev.ifT (by first | exact trivial | rfl) (Ev.ifT (by omega) (Ev.ifT (by omega) (Ev.now _)))
      · rw [if_neg (show ¬ (2 : Int) = 1 by decide), if_pos (show (2 : Int) = 2 from rfl)]
        have es := endN_spec l hj
        have s1 := specShift_ev t 0 j 0 (by decide) (by decide) (Nat.zero_le _) (by omega)
        have s2 := specShift_ev t (j + 1) (endN l j) (-1) (by decide) (by decide) (by omega) es.2.1
        have s3 := specShift_ev t (endN l j) l.length 0 (by decide) (by decide) es.2.1 (Nat.le_refl _)
        rw [sh_zero, List.drop_zero] at s1
        rw [sh_zero, List.take_length] at s3
        have l1 : (l.take j).length ≤ 24 := by rw [List.length_take]; omega
        have l2 : (sh (-1) ((l.take (endN l j)).drop (j + 1))).length ≤ 24 := by unfold sh; rw [List.length_map, List.length_drop, List.length_take]; omega
        have l3 : (l.drop (endN l j)).length ≤ 24 := by rw [List.length_drop]; omega
        refine Ev.ifF (show ¬ (2 : Int) = 1 by decide) (Ev.ifT (show (2 : Int) = 2 from rfl) (Ev.bind (specEndOf_ev l t j hj) (Ev.bind s1 ?_)))
        rw [wrapN (show j ≤ 1048576 by omega)]
        refine Ev.bind s2 (Ev.ifT (by omega) ?_)
        simp only [Option.bind_some]
        refine Ev.bind s3 (Ev.ifT (by rw [List.length_append]; omega) ?_)
        exact Ev.now _
      · rw [if_neg (show ¬ (3 : Int) = 1 by decide), if_neg (show ¬ (3 : Int) = 2 by decide), hq]
        have es := endN_spec l hj
        have c := t.chk j hj
        have := c.d0; have := c.d12
        have s1 := specShift_ev t 0 f 0 (by decide) (by decide) (Nat.zero_le _) (by omega)
        have s2 := specShift_ev t f e 1 (by decide) (by decide) hfe (by omega)
        have s3 := specShift_ev t e l.length 0 (by decide) (by decide) (by omega) (Nat.le_refl _)
        rw [sh_zero, List.drop_zero] at s1
        rw [sh_zero, List.take_length] at s3
        have l1 : (l.take f).length ≤ 24 := by rw [List.length_take]; omega
        have l2 : (sh 1 ((l.take e).drop f)).length ≤ 24 := by unfold sh; rw [List.length_map, List.length_drop, List.length_take]; omega
        have l3 : (l.drop e).length ≤ 24 := by rw [List.length_drop]; omega
        refine Ev.ifF (show ¬ (3 : Int) = 1 by decide) (Ev.ifF (show ¬ (3 : Int) = 2 by decide) (Ev.bind s1 (Ev.ifT (by omega) (Ev.ifT (by omega) ?_))))
        simp only [Option.bind_some, rd_dep, Int.toNat_natCast]
        rw [wrap_id (x := dep l j + 1) (by omega) (by omega)]
        refine Ev.ifT (by rw [List.length_singleton]; omega) (Ev.bind s2 (Ev.ifT (by rw [List.length_append, List.length_singleton]; omega) (Ev.bind s3 (Ev.ifT (by rw [List.length_append, List.length_append, List.length_singleton]; omega) ?_))))
        exact Ev.now _
    · rw [if_neg hc]
      exact Ev.ifF hc (Ev.now _)
  · rw [if_neg h]
    exact Ev.ifF h (Ev.now _)
end Go.Proofs.Ytbifdckfglejkaa.Q
namespace Go.Proofs.Ytbifdckfglejkaa.Q
open Go.RowKit Go.Proofs.YtbifdckfglejkaaW.PrintWords Go.Proofs.YtbifdckfglejkaaW.PrintLast Go.Proofs.YtbifdckfglejkaaW.PrintMore Go.Proofs.Ytbifdckfglejkaa.X Go.Proofs.Ytbifdckfglejkaa.Rd
set_option linter.unusedVariables false
set_option linter.unusedSimpArgs false
theorem nd_get {l : List NodeI} {p : Nat} {x : NodeI} (h : l[p]? = some x) : nd l p = x := by
  simp [nd, List.getD_eq_getElem?_getD, h]
theorem get_nd {l : List NodeI} {p : Nat} (h : p < l.length) : l[p]? = some (nd l p) := by
  rw [List.getElem?_eq_getElem h, nd, getD_lt l _ h]
theorem del_len {l : List NodeI} {i : Nat} (hi : i < l.length) : (delN l i).length + 1 = l.length := by
  have es := endN_spec l hi
  unfold delN sh
  simp only [List.length_append, List.length_map, List.length_take, List.length_drop]
  omega
theorem nd_del {l : List NodeI} {i : Nat} (hi : i < l.length) {p : Nat} (hp : p + 1 < l.length) :
    nd (delN l i) p = if p < i then nd l p else if p + 1 < endN l i then ⟨(nd l (p + 1)).f0, (nd l (p + 1)).f1 + -1⟩ else nd l (p + 1) := by
  have es := endN_spec l hi
  have l1 : (l.take i).length = i := by rw [List.length_take]; omega
  have l2 : (sh (-1) ((l.take (endN l i)).drop (i + 1))).length = endN l i - (i + 1) := by unfold sh; rw [List.length_map, List.length_drop, List.length_take]; omega
  apply nd_get
  unfold delN
  rw [List.append_assoc]
  by_cases c : p < i
  · rw [if_pos c, List.getElem?_append_left (by omega), List.getElem?_take_of_lt c]
    exact get_nd (by omega)
  · rw [if_neg c, List.getElem?_append_right (by omega), l1]
    by_cases c2 : p + 1 < endN l i
    · rw [if_pos c2, List.getElem?_append_left (by omega)]
      unfold sh
      rw [List.getElem?_map, List.getElem?_drop, List.getElem?_take_of_lt (by omega), show i + 1 + (p - i) = p + 1 by omega, get_nd hp]
      rfl
    · rw [if_neg c2, List.getElem?_append_right (by omega), l2, List.getElem?_drop, show endN l i + (p - i - (endN l i - (i + 1))) = p + 1 by omega]
      exact get_nd hp
theorem lab_del {l : List NodeI} {i : Nat} (hi : i < l.length) {p : Nat} (hp : p + 1 < l.length) : lab (delN l i) p = lab l (if p < i then p else p + 1) := by
  unfold lab
  rw [nd_del hi hp]
  by_cases c : p < i
  · rw [if_pos c, if_pos c]
  · rw [if_neg c, if_neg c]
    by_cases c2 : p + 1 < endN l i
    · rw [if_pos c2]
    · rw [if_neg c2]
theorem dep_del {l : List NodeI} {i : Nat} (hi : i < l.length) {p : Nat} (hp : p + 1 < l.length) : dep (delN l i) p = if p < i then dep l p else if p + 1 < endN l i then dep l (p + 1) - 1 else dep l (p + 1) := by
  unfold dep
  rw [nd_del hi hp]
  by_cases c : p < i
  · rw [if_pos c, if_pos c]
  · rw [if_neg c, if_neg c]
    by_cases c2 : p + 1 < endN l i
    · rw [if_pos c2, if_pos c2]; show _ + -1 = _; omega
    · rw [if_neg c2, if_neg c2]
theorem del_tr {l : List NodeI} (t : Tr l) {i : Nat} (hi : i < l.length) (h0 : 0 < i) : Tr (delN l i) := by
  have hl := del_len hi
  have h24 := t.len24
  have es := endN_spec l hi
  have ci := t.chk i hi
  have ip := ci.pos h0
  have ist := ci.step h0
  refine ⟨by omega, by omega, fun p hp => ?_⟩
  have hp' : p + 1 < l.length := by omega
  have c0 := t.chk p (by omega)
  have c1 := t.chk (p + 1) hp'
  have e := dep_del hi hp'
  have el := lab_del hi hp'
  have st1 := c1.step (by omega)
  have p1 := c1.pos (by omega)
  have a0 := c0.l0; have a1 := c0.l5; have a2 := c0.d0; have a3 := c0.d12
  have b0 := c1.l0; have b1 := c1.l5; have b2 := c1.d0; have b3 := c1.d12
  rw [Nat.add_sub_cancel] at st1
  refine ⟨?_, ?_, ?_, ?_, ?_, ?_, ?_⟩
  · rw [el]; split <;> assumption
  · rw [el]; split <;> assumption
  · rw [e]; split
    · exact a2
    · split
      · omega
      · exact b2
  · rw [e]; split
    · exact a3
    · split <;> omega
  · intro hz
    subst hz
    rw [e, if_pos h0]
    exact c0.root rfl
  · intro hpos
    rw [e]
    split
    · exact c0.pos hpos
    · split
      · have := es.2.2.1 (p + 1) (by omega) (by omega)
        omega
      · exact p1
  · intro hpos
    have e' := dep_del hi (p := p - 1) (by omega)
    rw [show p - 1 + 1 = p by omega] at e'
    rw [e, e']
    have st0 := c0.step hpos
    by_cases k1 : p < i
    · rw [if_pos k1, if_pos (by omega)]; exact st0
    · rw [if_neg k1]
      by_cases k2 : p = i
      · subst k2
        rw [if_pos (show p - 1 < p by omega)]
        by_cases k3 : p + 1 < endN l p
        · rw [if_pos k3]; omega
        · rw [if_neg k3]
          have k4 : endN l p = p + 1 := by omega
          have := es.2.2.2 (by omega)
          rw [k4] at this
          omega
      · rw [if_neg (show ¬ p - 1 < i by omega)]
        by_cases k3 : p + 1 < endN l i
        · rw [if_pos k3, if_pos (show p < endN l i by omega)]; omega
        · rw [if_neg k3]
          by_cases k4 : p < endN l i
          · rw [if_pos k4]
            have k5 : endN l i = p + 1 := by omega
            have k6 := es.2.2.2 (by omega)
            rw [k5] at k6
            have k7 := es.2.2.1 p (by omega) k4
            omega
          · rw [if_neg k4]; exact st1
theorem ins_len {l : List NodeI} {f e : Nat} (hfe : f ≤ e) (he : e ≤ l.length) (x : NodeI) : (insN l f e x).length = l.length + 1 := by
  unfold insN sh
  simp only [List.length_append, List.length_map, List.length_take, List.length_drop, List.length_singleton]
  omega
theorem nd_ins {l : List NodeI} {f e : Nat} (hfe : f ≤ e) (he : e ≤ l.length) (x : NodeI) {p : Nat} (hp : p ≤ l.length) :
    nd (insN l f e x) p = if p < f then nd l p else if p = f then x else if p ≤ e then ⟨(nd l (p - 1)).f0, (nd l (p - 1)).f1 + 1⟩ else nd l (p - 1) := by
  have l1 : (l.take f).length = f := by rw [List.length_take]; omega
  have l2 : (sh 1 ((l.take e).drop f)).length = e - f := by unfold sh; rw [List.length_map, List.length_drop, List.length_take]; omega
  apply nd_get
  unfold insN
  rw [List.append_assoc, List.append_assoc]
  by_cases c : p < f
  · rw [if_pos c, List.getElem?_append_left (by omega), List.getElem?_take_of_lt c]
    exact get_nd (by omega)
  · rw [if_neg c, List.getElem?_append_right (by omega), l1]
    by_cases c1 : p = f
    · rw [if_pos c1, show p - f = 0 by omega]; rfl
    · rw [if_neg c1, List.getElem?_append_right (by rw [List.length_singleton]; omega), List.length_singleton]
      by_cases c2 : p ≤ e
      · rw [if_pos c2, List.getElem?_append_left (by omega)]
        unfold sh
        rw [List.getElem?_map, List.getElem?_drop, List.getElem?_take_of_lt (by omega), show f + (p - f - 1) = p - 1 by omega, get_nd (by omega)]
        rfl
      · rw [if_neg c2, List.getElem?_append_right (by omega), l2, List.getElem?_drop, show e + (p - f - 1 - (e - f)) = p - 1 by omega]
        exact get_nd (by omega)
theorem lab_ins {l : List NodeI} {f e : Nat} (hfe : f ≤ e) (he : e ≤ l.length) (x : NodeI) {p : Nat} (hp : p ≤ l.length) : lab (insN l f e x) p = if p < f then lab l p else if p = f then x.f0 else lab l (p - 1) := by
  unfold lab
  rw [nd_ins hfe he x hp]
  by_cases c : p < f
  · rw [if_pos c, if_pos c]
  · rw [if_neg c, if_neg c]
    by_cases c1 : p = f
    · rw [if_pos c1, if_pos c1]
    · rw [if_neg c1, if_neg c1]
      split <;> rfl
theorem dep_ins {l : List NodeI} {f e : Nat} (hfe : f ≤ e) (he : e ≤ l.length) (x : NodeI) {p : Nat} (hp : p ≤ l.length) : dep (insN l f e x) p = if p < f then dep l p else if p = f then x.f1 else if p ≤ e then dep l (p - 1) + 1 else dep l (p - 1) := by
  unfold dep
  rw [nd_ins hfe he x hp]
  by_cases c : p < f
  · rw [if_pos c, if_pos c]
  · rw [if_neg c, if_neg c]
    by_cases c1 : p = f
    · rw [if_pos c1, if_pos c1]
    · rw [if_neg c1, if_neg c1]
      split <;> rfl
theorem deepN_le (l : List NodeI) (n : Nat) : ∀ (k : Nat) (d m : Int), deepN l n k d ≤ m → d ≤ m ∧ ∀ y, k ≤ y → y < k + n → dep l y + 1 ≤ m := by
  induction n with
  | zero => intro k d m h; exact ⟨h, fun y h1 h2 => by omega⟩
  | succ n ih =>
    intro k d m h
    obtain ⟨h1, h2⟩ := ih (k + 1) _ m h
    rw [mx_eq] at h1
    refine ⟨by omega, fun y h3 h4 => ?_⟩
    by_cases e : y = k
    · subst e; omega
    · exact h2 y (by omega) (by omega)
structure Adopts (l : List NodeI) (j f e : Nat) : Prop where
  lo : j < f
  mid : f ≤ e
  hi : e ≤ endN l j
  kf : f < endN l j → dep l f = dep l j + 1
  ke : e < endN l j → dep l e = dep l j + 1
theorem bounds_kid {l : List NodeI} (t : Tr l) {j : Nat} (hj : j < l.length) {x : Nat} (hx : x ≤ (kidsOf l j).length) {e : Nat} (he : (bounds l (kidsOf l j) j).getD x 0 = e) : e < endN l j → dep l e = dep l j + 1 := by
  intro hlt
  unfold bounds at he
  by_cases c : x < (kidsOf l j).length
  · rw [List.getD_eq_getElem?_getD, List.getElem?_append_left c, List.getElem?_eq_getElem c] at he
    obtain ⟨q, h1, h2, h3, h4⟩ := (kidsOf_mem t hj ((kidsOf l j)[x])).1 (List.getElem_mem c)
    have : (kidsOf l j)[x] = (e : Int) := he
    have : q = e := by omega
    subst this
    exact h4
  · have e2 : x = (kidsOf l j).length := by omega
    subst e2
    rw [List.getD_eq_getElem?_getD, List.getElem?_append_right (Nat.le_refl _)] at he
    simp at he
    omega
theorem ins_tr {l : List NodeI} (t : Tr l) {j f e : Nat} (hj : j < l.length) (ad : Adopts l j f e) (h24 : l.length < 24) {lb : Int} (l0 : 0 ≤ lb) (l5 : lb ≤ 5) (hd : deepN l (e - f) f (dep l j + 1) ≤ 12) : Tr (insN l f e ⟨lb, dep l j + 1⟩) := by
  have es := endN_spec l hj
  have hfe := ad.mid
  have hlo := ad.lo
  have hhi := ad.hi
  have he : e ≤ l.length := by omega
  have cj := t.chk j hj
  have j0 := cj.d0
  obtain ⟨hd1, hd2⟩ := deepN_le l _ _ _ _ hd
  have hl := ins_len hfe he ⟨lb, dep l j + 1⟩
  refine ⟨by omega, by omega, fun p hp => ?_⟩
  have hpl : p ≤ l.length := by omega
  have ed := dep_ins hfe he ⟨lb, dep l j + 1⟩ hpl
  have el := lab_ins hfe he ⟨lb, dep l j + 1⟩ hpl
  simp only at ed el
  have ch : ∀ q, q < l.length → (0 ≤ lab l q ∧ lab l q ≤ 5 ∧ 0 ≤ dep l q ∧ dep l q ≤ 12) := fun q hq => by
    have c := t.chk q hq
    exact ⟨c.l0, c.l5, c.d0, c.d12⟩
  refine ⟨?_, ?_, ?_, ?_, ?_, ?_, ?_⟩
  · rw [el]; split
    · exact (ch p (by omega)).1
    · split
      · exact l0
      · exact (ch (p - 1) (by omega)).1
  · rw [el]; split
    · exact (ch p (by omega)).2.1
    · split
      · exact l5
      · exact (ch (p - 1) (by omega)).2.1
  · rw [ed]; split
    · exact (ch p (by omega)).2.2.1
    · split
      · omega
      · have := (ch (p - 1) (by omega)).2.2.1
        split <;> omega
  · rw [ed]; split
    · exact (ch p (by omega)).2.2.2
    · split
      · omega
      · split
        · exact hd2 (p - 1) (by omega) (by omega)
        · exact (ch (p - 1) (by omega)).2.2.2
  · intro hz
    subst hz
    rw [ed, if_pos (by omega)]
    exact (t.chk 0 (by omega)).root rfl
  · intro hpos
    rw [ed]
    split
    · exact (t.chk p (by omega)).pos hpos
    · split
      · omega
      · split
        · have := (ch (p - 1) (by omega)).2.2.1; omega
        · exact (t.chk (p - 1) (by omega)).pos (by omega)
  · intro hpos
    have ed' := dep_ins hfe he ⟨lb, dep l j + 1⟩ (p := p - 1) (by omega)
    simp only at ed'
    rw [ed, ed']
    by_cases k1 : p < f
    · rw [if_pos k1, if_pos (by omega)]
      exact (t.chk p (by omega)).step hpos
    · rw [if_neg k1]
      by_cases k2 : p = f
      · rw [if_pos k2, if_pos (by omega)]
        by_cases k3 : p - 1 = j
        · rw [k3]; omega
        · have := es.2.2.1 (p - 1) (by omega) (by omega)
          omega
      · rw [if_neg k2]
        by_cases k3 : p = f + 1
        · subst k3
          rw [Nat.add_sub_cancel, if_neg (Nat.lt_irrefl f), if_pos (show f = f from rfl)]
          by_cases k4 : f + 1 ≤ e
          · rw [if_pos k4]
            have := ad.kf (by omega)
            omega
          · rw [if_neg k4]
            by_cases k5 : f < endN l j
            · have := ad.kf k5; omega
            · have k6 : endN l j = f := by omega
              have := es.2.2.2 (by omega)
              rw [k6] at this
              omega
        · rw [if_neg (show ¬ p - 1 < f by omega), if_neg (show ¬ p - 1 = f by omega)]
          have st := (t.chk (p - 1) (by omega)).step (by omega)
          by_cases k4 : p ≤ e
          · rw [if_pos k4, if_pos (by omega)]; omega
          · rw [if_neg k4]
            split <;> omega
theorem set_tr {l : List NodeI} (t : Tr l) {i : Nat} (hi : i < l.length) {lb : Int} (l0 : 0 ≤ lb) (l5 : lb ≤ 5) : Tr (l.set i ⟨lb, dep l i⟩) := by
  have e : ∀ p, p < l.length → dep (l.set i ⟨lb, dep l i⟩) p = dep l p ∧ (lab (l.set i ⟨lb, dep l i⟩) p = if p = i then lb else lab l p) := by
    intro p hp
    have h : nd (l.set i ⟨lb, dep l i⟩) p = if p = i then ⟨lb, dep l i⟩ else nd l p := by
      apply nd_get
      rw [List.getElem?_set]
      by_cases c : i = p
      · rw [if_pos c, if_pos hi, if_pos c.symm]
      · rw [if_neg c, if_neg (fun h => c h.symm)]; exact get_nd hp
    by_cases c : p = i
    · rw [if_pos c] at h ⊢
      refine ⟨?_, ?_⟩
      · show (nd _ p).f1 = _
        rw [h, c]
      · show (nd _ p).f0 = _
        rw [h]
    · rw [if_neg c] at h ⊢
      refine ⟨?_, ?_⟩
      · show (nd _ p).f1 = _
        rw [h]; rfl
      · show (nd _ p).f0 = _
        rw [h]; rfl
  have hl : (l.set i ⟨lb, dep l i⟩).length = l.length := List.length_set
  have h1 := t.len1
  refine ⟨by rw [hl]; exact t.len1, by rw [hl]; exact t.len24, fun p hp => ?_⟩
  rw [hl] at hp
  have c := t.chk p hp
  obtain ⟨e1, e2⟩ := e p hp
  refine ⟨?_, ?_, by rw [e1]; exact c.d0, by rw [e1]; exact c.d12, fun hz => by rw [(e 0 (by omega)).1]; exact c.root hz, fun hz => by rw [e1]; exact c.pos hz, fun hz => by rw [e1, (e (p - 1) (by omega)).1]; exact c.step hz⟩
  · rw [e2]; split
    · exact l0
    · exact c.l0
  · rw [e2]; split
    · exact l5
    · exact c.l5
inductive Did (l : List NodeI) (kind : Int) (path : List Int) (lb fr cnt : Int) (l' : List NodeI) : Prop where
  | set (j : Nat) (hn : nodeAt l path = j) (hj : j < l.length) (hk : kind = 1) (h0 : 0 ≤ lb) (h5 : lb ≤ 5) (e : l' = l.set j ⟨lb, dep l j⟩)
  | del (j : Nat) (hn : nodeAt l path = j) (hj : j < l.length) (hk : kind = 2) (h0 : 0 < j) (e : l' = delN l j)
  | ins (j f x : Nat) (hn : nodeAt l path = j) (hj : j < l.length) (hk : kind = 3) (h0 : 0 ≤ lb) (h5 : lb ≤ 5) (h24 : l.length < 24) (f0 : 0 ≤ fr) (c0 : 0 ≤ cnt) (fc : fr + cnt ≤ (kidsOf l j).length)
      (hf : (bounds l (kidsOf l j) j).getD fr.toNat 0 = f) (hx : (bounds l (kidsOf l j) j).getD (fr + cnt).toNat 0 = x) (ad : Adopts l j f x) (hd : deepN l (x - f) f (dep l j + 1) ≤ 12) (e : l' = insN l f x ⟨lb, dep l j + 1⟩)
theorem applyB_did {l : List NodeI} (t : Tr l) {kind : Int} {path : List Int} {lb fr cnt : Int} (h : (applyB l kind path lb fr cnt).2 = 0) : Did l kind path lb fr cnt (applyB l kind path lb fr cnt).1 := by
  unfold applyB at h ⊢
  rw [if_pos (trB_true t)] at h ⊢
  have hr : nodeAt l path < 0 ∨ ∃ j : Nat, nodeAt l path = j ∧ j < l.length := by
    rcases nodeAt_range t path with h1 | h1
    · exact .inl (by omega)
    · exact .inr h1
  by_cases hc : (opB l kind lb fr cnt (nodeAt l path)).1 = 0
  · rw [if_pos hc]
    obtain ⟨j, e, hj, hk⟩ := opB_ok t hr hc
    rw [e] at hc hk ⊢
    rw [Int.toNat_natCast]
    unfold doneB
    rcases hk with ⟨rfl, h0, h5⟩ | ⟨rfl, h0⟩ | ⟨rfl, h0, h5, h24, f0, c0, fc, f, x, hq, hf, hx, hlo, hmid, hhi, hd⟩
    · rw [if_pos (show (1 : Int) = 1 from rfl)]
      exact .set j e hj rfl h0 h5 rfl
    · rw [if_neg (show ¬ (2 : Int) = 1 by decide), if_pos (show (2 : Int) = 2 from rfl)]
      exact .del j e hj rfl h0 rfl
    · rw [if_neg (show ¬ (3 : Int) = 1 by decide), if_neg (show ¬ (3 : Int) = 2 by decide), hq]
      simp only [Int.toNat_natCast]
      exact .ins j f x e hj rfl h0 h5 h24 f0 c0 fc hf hx ⟨hlo, hmid, hhi, bounds_kid t hj (by omega) hf, bounds_kid t hj (by omega) hx⟩ hd rfl
  · rw [if_neg hc] at h
    exact absurd h hc
theorem Did.tr {l l' : List NodeI} (t : Tr l) {kind : Int} {path : List Int} {lb fr cnt : Int} (h : Did l kind path lb fr cnt l') : Tr l' := by
  cases h with
  | set j hn hj hk h0 h5 e => subst e; exact set_tr t hj h0 h5
  | del j hn hj hk h0 e => subst e; exact del_tr t hj h0
  | ins j f x hn hj hk h0 h5 h24 f0 c0 fc hf hx ad hd e => subst e; exact ins_tr t hj ad h24 h0 h5 hd
theorem applyB_tr {l : List NodeI} (t : Tr l) (kind : Int) (path : List Int) (lb fr cnt : Int) : Tr (applyB l kind path lb fr cnt).1 := by
  by_cases h : (applyB l kind path lb fr cnt).2 = 0
  · exact (applyB_did t h).tr t
  · have e : (applyB l kind path lb fr cnt).1 = l := by
      unfold applyB at h ⊢
      rw [if_pos (trB_true t)] at h ⊢
      by_cases hc : (opB l kind lb fr cnt (nodeAt l path)).1 = 0
      · rw [if_pos hc] at h; exact absurd rfl h
      · rw [if_neg hc]
    rw [e]; exact t
end Go.Proofs.Ytbifdckfglejkaa.Q
namespace Go.Proofs.Ytbifdckfglejkaa.Q
open Go.RowKit Go.Proofs.YtbifdckfglejkaaW.PrintWords Go.Proofs.YtbifdckfglejkaaW.PrintLast Go.Proofs.YtbifdckfglejkaaW.PrintMore Go.Proofs.Ytbifdckfglejkaa.X Go.Proofs.Ytbifdckfglejkaa.Rd
set_option linter.unusedVariables false
set_option linter.unusedSimpArgs false
noncomputable def ap (l : List NodeI) (o : OpI) : List NodeI × Int := applyB l o.f0 o.f1 o.f2 o.f3 o.f4
noncomputable def opCost (d i r : List Int) (l : List NodeI) (o : OpI) : Int :=
  if o.f0 = 1 then r.getD (6 * (lab l (nodeAt l o.f1).toNat).toNat + o.f2.toNat) 0 else if o.f0 = 2 then d.getD (lab l (nodeAt l o.f1).toNat).toNat 0 else i.getD o.f2.toNat 0
noncomputable def scGo (d i r : List Int) : List OpI → List NodeI → Int → Int
  | [], _, n => n
  | o :: os, l, n => if (ap l o).2 = 0 then scGo d i r os (ap l o).1 (n + opCost d i r l o) else -1
noncomputable def scCost (l : List NodeI) (ops : List OpI) (d i r : List Int) : Int := if trB l = true then (if costB d i r = true then scGo d i r ops l 0 else -1) else -1
theorem opCost_bd {d i r : List Int} (c : Co d i r) (l : List NodeI) (o : OpI) : 0 ≤ opCost d i r l o ∧ opCost d i r l o ≤ 1000 := by
  unfold opCost
  split
  · exact price_at c.rp _
  · split
    · exact price_at c.dp _
    · exact price_at c.ip _
theorem ap_tr {l : List NodeI} (t : Tr l) (o : OpI) : Tr (ap l o).1 := applyB_tr t _ _ _ _ _
theorem implSc_l {d i r : List Int} (co : Co d i r) (ops : List OpI) (hops : ops.length ≤ 1048576) (hp : ∀ o ∈ ops, o.f1.length ≤ 1048576) (n : Nat) : ∀ (j : Nat) (l : List NodeI) (s : Int), Tr l → j + n = ops.length → 0 ≤ s → s ≤ 1000 * j →
    Ev (fun k => impl_ScriptCost.l0 k s l ops ops.length j d i r) (scGo d i r (ops.drop j) l s) := by
  induction n with
  | zero =>
    intro j l s t hj h0 h1
    rw [List.drop_of_length_le (by omega)]
    refine Ev.step (fun _ => rfl) ?_
    simp only [impl_ScriptCost.l0]
    exact Ev.ifF (by omega) (Ev.now _)
  | succ n ih =>
    intro j l s t hj h0 h1
    have hlt : j < ops.length := by omega
    have h24 := t.len24
    rw [List.drop_eq_getElem_cons hlt]
    have ero : rd_T67 ops (j : Int) = ops[j] := getD_nat ops j _ hlt
    have hb := opCost_bd co l ops[j]
    refine Ev.step (fun _ => rfl) ?_
    simp only [impl_ScriptCost.l0, ero, scGo]
    refine Ev.ifT (by omega) (Ev.ifT (by omega) (Ev.ifT (by omega) (Ev.bind (implNodeAt_ev l (by omega) _ (hp _ (List.getElem_mem hlt))) (Ev.bind (implApplyOp_ev l (by omega) _ _ (hp _ (List.getElem_mem hlt)) _ _ _) ?_))))
    by_cases hc : (ap l ops[j]).2 = 0
    · rw [if_pos hc]
      have hn := ih (j + 1) (ap l ops[j]).1 (s + opCost d i r l ops[j]) (ap_tr t _) (by omega) (by omega) (by omega)
      have hw : wrap64 (s + opCost d i r l ops[j]) = s + opCost d i r l ops[j] := wrap_id (by omega) (by omega)
      rw [wrapN (show j ≤ 1048576 by omega)]
      refine Ev.ifT hc (?_)
      have dd := applyB_did t hc
      have fin : ∀ v : Int, v = opCost d i r l ops[j] → Ev (fun k => impl_ScriptCost.l0 k (wrap64 (s + v)) (ap l ops[j]).1 ops ops.length ((j + 1 : Nat) : Int) d i r) (scGo d i r (ops.drop (j + 1)) (ap l ops[j]).1 (s + opCost d i r l ops[j])) := fun v hv => by
        subst hv; rw [hw]; exact hn
      cases dd with
      | set q hq hj' hk l0 l5 e =>
        have c := t.chk q hj'
        have hv : r.getD (6 * (lab l q).toNat + ops[j].f2.toNat) 0 = opCost d i r l ops[j] := by unfold opCost; rw [if_pos hk, hq, Int.toNat_natCast]
        rw [hq]
        simp only [rd_lab]
        exact Ev.ifT hk (Ev.ifT (by omega) (Ev.ifT (by omega) (Ev.bind (implRel_ev co c.l0 c.l5 l0 l5) (fin _ hv))))
      | del q hq hj' hk l0 e =>
        have c := t.chk q hj'
        have hv : d.getD (lab l q).toNat 0 = opCost d i r l ops[j] := by unfold opCost; rw [if_neg (by omega), if_pos hk, hq, Int.toNat_natCast]
        rw [hq]
        simp only [rd_lab]
        exact Ev.ifF (by omega) (Ev.ifT hk (Ev.ifT (by omega) (Ev.ifT (by omega) (Ev.bind (implDel_ev co c.l0 c.l5) (fin _ hv)))))
      | ins q f x hq hj' hk l0 l5 _ _ _ _ _ _ _ _ _ =>
        have hv : i.getD ops[j].f2.toNat 0 = opCost d i r l ops[j] := by unfold opCost; rw [if_neg (by omega), if_neg (by omega)]
        exact Ev.ifF (by omega) (Ev.ifF (by omega) (Ev.bind (implIns_ev co l0 l5) (fin _ hv)))
    · rw [if_neg hc]
      exact Ev.ifF hc (Ev.now _)
theorem implSc_ev (l : List NodeI) (hl : l.length ≤ 9223372036854775807) (ops : List OpI) (hops : ops.length ≤ 1048576) (hp : ∀ o ∈ ops, o.f1.length ≤ 1048576) (d i r : List Int) (hd : d.length ≤ 9223372036854775807) (hi : i.length ≤ 9223372036854775807) (hr : r.length ≤ 9223372036854775807) :
    Ev (fun k => impl_ScriptCost.f k l ops d i r) (scCost l ops d i r) := by
  unfold impl_ScriptCost.f scCost
  refine Ev.bind (implTreeOk_ev l) ?_
  by_cases h : trB l = true
  · rw [if_pos h]
    have t := (trB_iff l).1 h
    have h24 := t.len24
    refine Ev.ifT h (Ev.bind (implCostOk_ev d i r) ?_)
    refine Ev.step (fun _ => rfl) ?_
    simp only [impl_ScriptCost.j0]
    by_cases hc : costB d i r = true
    · rw [if_pos hc]
      refine Ev.ifF (by simp [hc]) (Ev.bindC (by rw [clone_Node.f, if_pos (by omega)]) ?_)
      exact implSc_l (costB_iff.1 hc) ops hops hp ops.length 0 l 0 t (by omega) (by omega) (by omega)
    · rw [if_neg hc]
      exact Ev.ifT (by simp [hc]) (Ev.now _)
  · rw [if_neg h]
    refine Ev.ifF h ?_
    refine Ev.step (fun _ => rfl) ?_
    simp only [impl_ScriptCost.j0]
    exact Ev.ifT trivial (Ev.now _)
theorem specSc_l {d i r : List Int} (co : Co d i r) (ops : List OpI) (hops : ops.length ≤ 1048576) (hp : ∀ o ∈ ops, o.f1.length ≤ 1048576) (n : Nat) : ∀ (j : Nat) (l : List NodeI) (s : Int), Tr l → j + n = ops.length → 0 ≤ s → s ≤ 1000 * j →
    Ev (fun k => spec_ScriptCost.l0 k ops s l j d i r) (scGo d i r (ops.drop j) l s) := by
  induction n with
  | zero =>
    intro j l s t hj h0 h1
    rw [List.drop_of_length_le (by omega)]
    refine Ev.step (fun _ => rfl) ?_
    simp only [spec_ScriptCost.l0]
    exact Ev.ifF (by omega) (Ev.now _)
  | succ n ih =>
    intro j l s t hj h0 h1
    have hlt : j < ops.length := by omega
    have h24 := t.len24
    rw [List.drop_eq_getElem_cons hlt]
    have ero : rd_T67 ops (j : Int) = ops[j] := getD_nat ops j _ hlt
    have hb := opCost_bd co l ops[j]
    refine Ev.step (fun _ => rfl) ?_
    simp only [spec_ScriptCost.l0, ero, scGo]
    refine Ev.ifT (by omega) (Ev.ifT (by omega) (Ev.bind (specApplyOp_ev l (by omega) _ _ (hp _ (List.getElem_mem hlt)) _ _ _) ?_))
    by_cases hc : (ap l ops[j]).2 = 0
    · rw [if_pos hc]
      have hn := ih (j + 1) (ap l ops[j]).1 (s + opCost d i r l ops[j]) (ap_tr t _) (by omega) (by omega) (by omega)
      have hw : wrap64 (s + opCost d i r l ops[j]) = s + opCost d i r l ops[j] := wrap_id (by omega) (by omega)
      rw [wrapN (show j ≤ 1048576 by omega)]
      refine Ev.ifT hc (Ev.bind (specNodeAt_ev l (by omega) _ (hp _ (List.getElem_mem hlt))) (?_))
      have dd := applyB_did t hc
      have fin : ∀ v : Int, v = opCost d i r l ops[j] → Ev (fun k => spec_ScriptCost.l0 k ops (wrap64 (s + v)) (ap l ops[j]).1 ((j + 1 : Nat) : Int) d i r) (scGo d i r (ops.drop (j + 1)) (ap l ops[j]).1 (s + opCost d i r l ops[j])) := fun v hv => by
        subst hv; rw [hw]; exact hn
      cases dd with
      | set q hq hj' hk l0 l5 e =>
        have c := t.chk q hj'
        have hv : r.getD (6 * (lab l q).toNat + ops[j].f2.toNat) 0 = opCost d i r l ops[j] := by unfold opCost; rw [if_pos hk, hq, Int.toNat_natCast]
        rw [hq]
        simp only [rd_lab]
        exact Ev.ifT hk (Ev.ifT (by omega) (Ev.ifT (by omega) (Ev.bind (specRel_ev co c.l0 c.l5 l0 l5) (fin _ hv))))
      | del q hq hj' hk l0 e =>
        have c := t.chk q hj'
        have hv : d.getD (lab l q).toNat 0 = opCost d i r l ops[j] := by unfold opCost; rw [if_neg (by omega), if_pos hk, hq, Int.toNat_natCast]
        rw [hq]
        simp only [rd_lab]
        exact Ev.ifF (by omega) (Ev.ifT hk (Ev.ifT (by omega) (Ev.ifT (by omega) (Ev.bind (specDel_ev co c.l0 c.l5) (fin _ hv)))))
      | ins q f x hq hj' hk l0 l5 _ _ _ _ _ _ _ _ _ =>
        have hv : i.getD ops[j].f2.toNat 0 = opCost d i r l ops[j] := by unfold opCost; rw [if_neg (by omega), if_neg (by omega)]
        exact Ev.ifF (by omega) (Ev.ifF (by omega) (Ev.bind (specIns_ev co l0 l5) (fin _ hv)))
    · rw [if_neg hc]
      exact Ev.ifF hc (Ev.now _)
theorem specSc_ev (l : List NodeI) (hl : l.length ≤ 9223372036854775807) (ops : List OpI) (hops : ops.length ≤ 1048576) (hp : ∀ o ∈ ops, o.f1.length ≤ 1048576) (d i r : List Int) (hd : d.length ≤ 9223372036854775807) (hi : i.length ≤ 9223372036854775807) (hr : r.length ≤ 9223372036854775807) :
    Ev (fun k => spec_ScriptCost.f k l ops d i r) (scCost l ops d i r) := by
  unfold spec_ScriptCost.f scCost
  refine Ev.bind (specTreeOk_ev l hl) ?_
  by_cases h : trB l = true
  · rw [if_pos h]
    have t := (trB_iff l).1 h
    have h24 := t.len24
    refine Ev.ifT h (Ev.bind (specCostOk_ev d i r hd hi hr) ?_)
    refine Ev.step (fun _ => rfl) ?_
    simp only [spec_ScriptCost.j0]
    by_cases hc : costB d i r = true
    · rw [if_pos hc]
      refine Ev.ifF (by simp [hc]) (Ev.bindC (copy_eq l (by omega)) ?_)
      exact specSc_l (costB_iff.1 hc) ops hops hp ops.length 0 l 0 t (by omega) (by omega) (by omega)
    · rw [if_neg hc]
      exact Ev.ifT (by simp [hc]) (Ev.now _)
  · rw [if_neg h]
    refine Ev.ifF h ?_
    refine Ev.step (fun _ => rfl) ?_
    simp only [spec_ScriptCost.j0]
    exact Ev.ifT trivial (Ev.now _)
end Go.Proofs.Ytbifdckfglejkaa.Q
namespace Go.Proofs.Ytbifdckfglejkaa.Q
open Go.RowKit Go.Proofs.YtbifdckfglejkaaW.PrintWords Go.Proofs.YtbifdckfglejkaaW.PrintLast Go.Proofs.YtbifdckfglejkaaW.PrintMore Go.Proofs.Ytbifdckfglejkaa.X Go.Proofs.Ytbifdckfglejkaa.Rd
set_option linter.unusedVariables false
set_option linter.unusedSimpArgs false
theorem FnExactScriptCost (l : List NodeL) (w : WF44 l) (ops : List OpL) (w1 : WF72 ops) (c : CostL) (w2 : WF46 c) : ∃ k, laws_FnExactScriptCost.f k l ops c.f0 c.f1 c.f2 = some true := by
  refine Ev.rounds (g := fun k => laws_FnExactScriptCost.f k l ops c.f0 c.f1 c.f2) ?_
  obtain ⟨d, i, r⟩ := c
  have wd := w2.1.1
  have wi := w2.2.1.1
  have wr := w2.2.2.1
  simp only at wd wi wr ⊢
  unfold laws_FnExactScriptCost.f
  refine Ev.bindC (szNodeS_eq l _ (by omega) (by omega) w.1) ?_
  by_cases h : (1048576 : Int) < l.length
  · rw [if_pos h]
    exact Ev.ifT (by omega) (Ev.now _)
  rw [if_neg h]
  refine Ev.ifF (by omega) ?_
  obtain ⟨z, hz, hz2⟩ := szOpS_ev ops (1048576 - (l.length : Int)) (by omega) (by omega) w1.1 (fun x hx => (w1.2 x hx).2.1.1)
  refine Ev.bind hz ?_
  rcases hz2 with hz2 | ⟨z0, z1, hz3⟩
  · exact Ev.ifT (by omega) (Ev.now _)
  refine Ev.ifF (by omega) ?_
  obtain ⟨z2, hz4, hz5⟩ := szCost_eq d i r z (by omega) (by omega) wd wi wr
  refine Ev.bindC hz4 ?_
  rcases hz5 with hz5 | ⟨z3, z4⟩
  · exact Ev.ifT (by omega) (Ev.now _)
  refine Ev.ifF (by omega) ?_
  have t := toNodeS_ev l (by omega)
  have q := toOpS_ev ops (by omega) hz3
  have c := toCost_ev d i r (by omega) (by omega) (by omega)
  have hl : (l.map toNode).length = l.length := by simp
  have ho : (ops.map toOp).length = ops.length := by simp
  have hm := toOp_mem ops hz3
  have s := specSc_ev (l.map toNode) (by omega) (ops.map toOp) (by omega) hm d i r wd wi wr
  have p := implSc_ev (l.map toNode) (by omega) (ops.map toOp) (by omega) hm d i r wd wi wr
  have eo := eqOpS_ev (ops.map toOp) (by omega) (fun x hx => by have := hm x hx; omega)
  refine Ev.bind t (Ev.bind q (Ev.bind c (Ev.bind s (Ev.bind t (Ev.bind q (Ev.bind c (Ev.bind p (Ev.ifT rfl (Ev.bind t (Ev.bind (eqNodeS_ev _ (by omega)) (Ev.ifT rfl (Ev.bind q (Ev.bind eo (Ev.ifT rfl (Ev.bind c (Ev.bind (eqCost_ev d i r (by omega) (by omega) (by omega)) (Ev.ifT rfl (Ev.now _))))))))))))))))))
end Go.Proofs.Ytbifdckfglejkaa.Q
