/- Part 18 of the proof of FnLeast: what it needs. -/
import Derived.Test.YtngphdmbjenkaaaKLLeast6
import Derived.Test.YtngphdmbjenkaaaKLLeast7
import Derived.Test.YtngphdmbjenkaaaKLLeast17
namespace Go.Proofs.Ytngphdmbjenkaaa.Q
open Go.RowKit Go.Proofs.YtngphdmbjenkaaaW.PrintWords Go.Proofs.YtngphdmbjenkaaaW.PrintLast Go.Proofs.YtngphdmbjenkaaaW.PrintMore Go.Proofs.Ytngphdmbjenkaaa.X Go.Proofs.Ytngphdmbjenkaaa.Rd
set_option linter.unusedVariables false
set_option linter.unusedSimpArgs false
noncomputable def more (a b : List NodeI) : Nat → List PairI → Nat → List (List PairI)
  | 0, m, _ => [m]
  | n + 1, m, i => more a b n m (i + 1) ++ (List.range' 1 (b.length - 1)).flatMap fun k => if mapB a b (m ++ [⟨(i : Int), (k : Int)⟩]) = true then more a b n (m ++ [⟨(i : Int), (k : Int)⟩]) (i + 1) else []
theorem flat_le {α β : Type} (l : List α) (g : α → List β) (c : Nat) (h : ∀ x ∈ l, (g x).length ≤ c) : (l.flatMap g).length ≤ l.length * c := by
  induction l with
  | nil => simp
  | cons x l ih =>
    rw [List.flatMap_cons, List.length_append, List.length_cons, Nat.succ_mul]
    have h1 := h x List.mem_cons_self
    have h2 := ih (fun y hy => h y (List.mem_cons_of_mem _ hy))
    omega
theorem more_len (a b : List NodeI) (hb : b.length ≤ 5) (n : Nat) : ∀ m i, (more a b n m i).length ≤ 5 ^ n := by
  induction n with
  | zero => intro m i; simp [more]
  | succ n ih =>
    intro m i
    simp only [more]
    rw [List.length_append, Nat.pow_succ]
    have h1 := ih m (i + 1)
    have h2 := flat_le (List.range' 1 (b.length - 1)) (fun k => if mapB a b (m ++ [⟨(i : Int), (k : Int)⟩]) = true then more a b n (m ++ [⟨(i : Int), (k : Int)⟩]) (i + 1) else []) (5 ^ n) (fun k _ => by
      split
      · exact ih _ _
      · simp)
    rw [List.length_range'] at h2
    have h3 : (b.length - 1) * 5 ^ n ≤ 4 * 5 ^ n := Nat.mul_le_mul_right _ (by omega)
    omega
theorem more_ok {a b : List NodeI} (n : Nat) : ∀ m i, MOk a b m → ∀ x ∈ more a b n m i, MOk a b x := by
  induction n with
  | zero => intro m i h x hx; simp only [more, List.mem_singleton] at hx; subst hx; exact h
  | succ n ih =>
    intro m i h x hx
    simp only [more] at hx
    rcases List.mem_append.1 hx with hx | hx
    · exact ih m (i + 1) h x hx
    · obtain ⟨k, _, hk⟩ := List.mem_flatMap.1 hx
      by_cases c : mapB a b (m ++ [⟨(i : Int), (k : Int)⟩]) = true
      · rw [if_pos c] at hk
        exact ih _ _ ((mapB_iff _ _ _).1 c) x hk
      · rw [if_neg c] at hk
        exact absurd hk List.not_mem_nil
theorem pow5 {n : Nat} (h : n ≤ 5) : 5 ^ n ≤ 3125 := Nat.le_trans (Nat.pow_le_pow_right (by decide) h) (by decide)
set_option maxRecDepth 100000 in
theorem implExt_ev {a b : List NodeI} (ha : a.length ≤ 5) (hb : b.length ≤ 5) (n : Nat) : ∀ (m : List PairI) (i : Nat), i + n = a.length → m.length + n ≤ 100 → Ev (fun r => impl_extended.f r a b m i) (more a b n m i) := by
  induction n with
  | zero =>
    intro m i hi hm
    refine Ev.step (fun _ => rfl) ?_
    simp only [impl_extended.f, more]
    refine Ev.ifT (by omega) (Ev.bindC (show clone_Pair.f m = some m from if_pos (by omega)) (Ev.now _))
  | succ n ih =>
    intro m i hi hm
    have hlt : i < a.length := by omega
    have hn := pow5 (show n ≤ 5 by omega)
    have loop : ∀ (d j : Nat) (out : List (List PairI)), j + d = b.length → out.length + d * 3125 ≤ 100000 →
        Ev (fun r => impl_extended.l0 r a b m i out j) (out ++ (List.range' j d).flatMap fun k => if mapB a b (m ++ [⟨(i : Int), (k : Int)⟩]) = true then more a b n (m ++ [⟨(i : Int), (k : Int)⟩]) (i + 1) else []) := by
      intro d
      induction d with
      | zero =>
        intro j out hj ho
        refine Ev.step (fun _ => rfl) ?_
        simp only [impl_extended.l0, List.range'_zero, List.flatMap_nil, List.append_nil]
        exact Ev.ifF (by omega) (Ev.now _)
      | succ d ihd =>
        intro j out hj ho
        have hj2 : j < b.length := by omega
        refine Ev.step (fun _ => rfl) ?_
        simp only [impl_extended.l0]
        rw [List.range'_succ, List.flatMap_cons, wrap_succ hj2 (by omega), wrap_succ hlt (by omega)]
        refine Ev.ifT (by omega) (Ev.bindC (show clone_Pair.f m = some m from if_pos (by omega)) (Ev.ifT (by omega) (Ev.bindC rfl (Ev.bind (implMapOk_ev a b _ (by simp; omega)) ?_))))
        by_cases c : mapB a b (m ++ [⟨(i : Int), (j : Int)⟩]) = true
        · have hl := Nat.le_trans (more_len a b hb n (m ++ [⟨(i : Int), (j : Int)⟩]) (i + 1)) hn
          clear hn
          rw [if_pos c, ← List.append_assoc]
          refine Ev.ifT c (Ev.bind (ih _ (i + 1) (by omega) (by simp; omega)) (Ev.ifT (by omega) ?_))
          exact ihd (j + 1) _ (by omega) (by rw [List.length_append]; omega)
        · rw [if_neg c, List.nil_append]
          exact Ev.ifF c (ihd (j + 1) out (by omega) (by omega))
    have hl := Nat.le_trans (more_len a b hb n m (i + 1)) hn
    clear hn
    have h1 := ih m (i + 1) (by omega) (by omega)
    refine Ev.step (fun _ => rfl) ?_
    simp only [impl_extended.f, more]
    rw [wrap_succ hlt (by omega)]
    refine Ev.ifF (by omega) (Ev.bind h1 ?_)
    by_cases z : b.length = 0
    · rw [show b.length - 1 = 0 by omega, List.range'_zero, List.flatMap_nil, List.append_nil]
      refine Ev.step (fun _ => rfl) ?_
      simp only [impl_extended.l0]
      exact Ev.ifF (by omega) (Ev.now _)
    · exact loop (b.length - 1) 1 _ (by omega) (by omega)
set_option maxRecDepth 100000 in
theorem specMore_ev {a b : List NodeI} (ha : a.length ≤ 5) (hb : b.length ≤ 5) (n : Nat) : ∀ (m : List PairI) (i : Nat), i + n = a.length → m.length + n ≤ 100 → Ev (fun r => spec_l12More.f r a b m i) (more a b n m i) := by
  induction n with
  | zero =>
    intro m i hi hm
    refine Ev.step (fun _ => rfl) ?_
    simp only [spec_l12More.f, more]
    refine Ev.ifT (by omega) (Ev.bindC rfl (Ev.ifT (by simp; omega) ?_))
    rw [List.nil_append]
    exact Ev.now _
  | succ n ih =>
    intro m i hi hm
    have hlt : i < a.length := by omega
    have hn := pow5 (show n ≤ 5 by omega)
    have loop : ∀ (d j : Nat) (out : List (List PairI)), j + d = b.length → out.length + d * 3125 ≤ 100000 →
        Ev (fun r => spec_l12More.l0 r a b m i out j) (out ++ (List.range' j d).flatMap fun k => if mapB a b (m ++ [⟨(i : Int), (k : Int)⟩]) = true then more a b n (m ++ [⟨(i : Int), (k : Int)⟩]) (i + 1) else []) := by
      intro d
      induction d with
      | zero =>
        intro j out hj ho
        refine Ev.step (fun _ => rfl) ?_
        simp only [spec_l12More.l0, List.range'_zero, List.flatMap_nil, List.append_nil]
        exact Ev.ifF (by omega) (Ev.now _)
      | succ d ihd =>
        intro j out hj ho
        have hj2 : j < b.length := by omega
        refine Ev.step (fun _ => rfl) ?_
        simp only [spec_l12More.l0]
        rw [List.range'_succ, List.flatMap_cons, wrap_succ hj2 (by omega), wrap_succ hlt (by omega)]
        refine Ev.ifT (by omega) (Ev.bindC rfl (Ev.ifT (by simp; omega) (Ev.bindC rfl (Ev.ifT (by simp; omega) (Ev.bindC rfl ?_)))))
        rw [List.nil_append]
        refine Ev.bind (specMapOk_ev a b _ (by omega) (by omega) (by simp; omega)) ?_
        by_cases c : mapB a b (m ++ [⟨(i : Int), (j : Int)⟩]) = true
        · have hl := Nat.le_trans (more_len a b hb n (m ++ [⟨(i : Int), (j : Int)⟩]) (i + 1)) hn
          clear hn
          rw [if_pos c, ← List.append_assoc]
          refine Ev.ifT c (Ev.bind (ih _ (i + 1) (by omega) (by simp; omega)) (Ev.ifT (by omega) ?_))
          exact ihd (j + 1) _ (by omega) (by rw [List.length_append]; omega)
        · rw [if_neg c, List.nil_append]
          exact Ev.ifF c (ihd (j + 1) out (by omega) (by omega))
    have hl := Nat.le_trans (more_len a b hb n m (i + 1)) hn
    clear hn
    have h1 := ih m (i + 1) (by omega) (by omega)
    refine Ev.step (fun _ => rfl) ?_
    simp only [spec_l12More.f, more]
    rw [wrap_succ hlt (by omega)]
    refine Ev.ifF (by omega) (Ev.bind h1 ?_)
    by_cases z : b.length = 0
    · rw [show b.length - 1 = 0 by omega, List.range'_zero, List.flatMap_nil, List.append_nil]
      refine Ev.step (fun _ => rfl) ?_
      simp only [spec_l12More.l0]
      exact Ev.ifF (by omega) (Ev.now _)
    · exact loop (b.length - 1) 1 _ (by omega) (by omega)
def root : List PairI := [⟨0, 0⟩]
noncomputable def mapsOf (a b : List NodeI) : List (List PairI) := if trB a = true ∧ trB b = true ∧ a.length ≤ 5 ∧ b.length ≤ 5 then more a b (a.length - 1) root 1 else []
theorem mapsOf_len (a b : List NodeI) : (mapsOf a b).length ≤ 3125 := by
  unfold mapsOf
  split
  · rename_i h
    exact Nat.le_trans (more_len a b h.2.2.2 _ _ _) (pow5 (by omega))
  · simp
theorem root_ok {a b : List NodeI} (ta : Tr a) (tb : Tr b) : MOk a b root := by
  refine ⟨ta, tb, fun i hi => ?_⟩
  obtain rfl : i = 0 := by simp [root] at hi; exact hi
  have h1 := ta.len1
  have h2 := tb.len1
  exact ⟨(hasB_iff _ _).2 ⟨ta, by simp [pA, pr, root], by simp [pA, pr, root]; omega⟩, (hasB_iff _ _).2 ⟨tb, by simp [pB, pr, root], by simp [pB, pr, root]; omega⟩, fun k hk => by omega, fun k hk => by omega, fun k hk => by omega⟩
theorem mapsOf_ok (a b : List NodeI) : ∀ m ∈ mapsOf a b, MOk a b m := by
  unfold mapsOf
  intro m hm
  by_cases c : trB a = true ∧ trB b = true ∧ a.length ≤ 5 ∧ b.length ≤ 5
  · rw [if_pos c] at hm
    exact more_ok _ _ _ (root_ok ((trB_iff a).1 c.1) ((trB_iff b).1 c.2.1)) m hm
  · rw [if_neg c] at hm
    exact absurd hm List.not_mem_nil
theorem implMapsOf_ev (a b : List NodeI) : Ev (fun k => impl_MapsOf.f k a b) (mapsOf a b) := by
  unfold impl_MapsOf.f mapsOf
  refine Ev.bind (implTreeOk_ev a) ?_
  by_cases h1 : trB a = true
  · refine Ev.ifT h1 (Ev.bind (implTreeOk_ev b) ?_)
    by_cases h2 : trB b = true
    · refine Ev.ifT h2 ?_
      by_cases h3 : (a.length : Int) > 5
      · rw [if_neg fun z => by omega]
        exact Ev.ifT h3 (Ev.now _)
      · refine Ev.ifF h3 ?_
        by_cases h4 : (b.length : Int) > 5
        · rw [if_neg fun z => by omega]
          exact Ev.ifT h4 (Ev.now _)
        · have l1 := ((trB_iff a).1 h1).len1
          rw [if_pos ⟨h1, h2, by omega, by omega⟩]
          exact Ev.ifF h4 (Ev.bind (implExt_ev (by omega) (by omega) (a.length - 1) root 1 (by omega) (by simp [root]; omega)) (Ev.now _))
    · rw [if_neg fun z => h2 z.2.1]
      exact Ev.ifF h2 (Ev.now _)
  · rw [if_neg fun z => h1 z.1]
    exact Ev.ifF h1 (Ev.now _)
theorem specMapsOf_ev (a b : List NodeI) (ha : a.length ≤ 9223372036854775807) (hb : b.length ≤ 9223372036854775807) : Ev (fun k => spec_MapsOf.f k a b) (mapsOf a b) := by
  unfold spec_MapsOf.f mapsOf
  refine Ev.bind (specTreeOk_ev a ha) ?_
  by_cases h1 : trB a = true
  · refine Ev.ifT h1 (Ev.bind (specTreeOk_ev b hb) ?_)
    by_cases h2 : trB b = true
    · refine Ev.ifT h2 ?_
      by_cases h3 : (a.length : Int) > 5
      · rw [if_neg fun z => by omega]
        exact Ev.ifT h3 (Ev.now _)
      · refine Ev.ifF h3 ?_
        by_cases h4 : (b.length : Int) > 5
        · rw [if_neg fun z => by omega]
          exact Ev.ifT h4 (Ev.now _)
        · have l1 := ((trB_iff a).1 h1).len1
          rw [if_pos ⟨h1, h2, by omega, by omega⟩]
          exact Ev.ifF h4 (Ev.bind (specMore_ev (by omega) (by omega) (a.length - 1) root 1 (by omega) (by simp [root]; omega)) (Ev.now _))
    · rw [if_neg fun z => h2 z.2.1]
      exact Ev.ifF h2 (Ev.now _)
  · rw [if_neg fun z => h1 z.1]
    exact Ev.ifF h1 (Ev.now _)
end Go.Proofs.Ytngphdmbjenkaaa.Q
namespace Go.Proofs.Ytngphdmbjenkaaa.Q
open Go.RowKit Go.Proofs.YtngphdmbjenkaaaW.PrintWords Go.Proofs.YtngphdmbjenkaaaW.PrintLast Go.Proofs.YtngphdmbjenkaaaW.PrintMore Go.Proofs.Ytngphdmbjenkaaa.X Go.Proofs.Ytngphdmbjenkaaa.Rd
set_option linter.unusedVariables false
set_option linter.unusedSimpArgs false
def lessI (x n : Int) : Int := if x < 0 then n else if n < x then n else x
def lessS (x n : Int) : Int := if n < x then n else x
def leastOf : List Int → Int
  | [] => -1
  | x :: l => l.foldl lessS x
theorem lessS_fold_neg (l : List Int) (h : ∀ x ∈ l, x = -1) : l.foldl lessS (-1) = -1 := by
  induction l with
  | nil => rfl
  | cons x l ih =>
    rw [List.foldl_cons, h x List.mem_cons_self]
    exact ih (fun y hy => h y (List.mem_cons_of_mem _ hy))
theorem lessI_fold_neg (l : List Int) (h : ∀ x ∈ l, x = -1) : l.foldl lessI (-1) = -1 := by
  induction l with
  | nil => rfl
  | cons x l ih =>
    rw [List.foldl_cons, h x List.mem_cons_self]
    exact ih (fun y hy => h y (List.mem_cons_of_mem _ hy))
theorem less_fold (l : List Int) (h : ∀ x ∈ l, 0 ≤ x) : ∀ x, 0 ≤ x → l.foldl lessI x = l.foldl lessS x := by
  induction l with
  | nil => intro x _; rfl
  | cons y l ih =>
    intro x hx
    have hy := h y List.mem_cons_self
    rw [List.foldl_cons, List.foldl_cons, show lessI x y = lessS x y from by unfold lessI lessS; rw [if_neg (by omega)]]
    exact ih (fun z hz => h z (List.mem_cons_of_mem _ hz)) _ (by unfold lessS; split <;> omega)
theorem least_impl (l : List Int) (h : (∀ x ∈ l, 0 ≤ x) ∨ ∀ x ∈ l, x = -1) : l.foldl lessI (-1) = leastOf l := by
  cases l with
  | nil => rfl
  | cons x l =>
    rcases h with h | h
    · rw [List.foldl_cons, show lessI (-1) x = x from rfl]
      exact less_fold l (fun y hy => h y (List.mem_cons_of_mem _ hy)) x (h x List.mem_cons_self)
    · rw [lessI_fold_neg _ h, h x List.mem_cons_self]
      exact (lessS_fold_neg l (fun y hy => h y (List.mem_cons_of_mem _ hy))).symm
noncomputable def costs (a b : List NodeI) (d i r : List Int) : List Int := (mapsOf a b).map (mapCost a b d i r)
noncomputable def leastCost (a b : List NodeI) (d i r : List Int) : Int := leastOf (costs a b d i r)
theorem costs_sign (a b : List NodeI) (d i r : List Int) : (∀ x ∈ costs a b d i r, 0 ≤ x) ∨ ∀ x ∈ costs a b d i r, x = -1 := by
  by_cases c : Co d i r
  · refine .inl fun x hx => ?_
    obtain ⟨m, hm, rfl⟩ := List.mem_map.1 hx
    have h := mapsOf_ok a b m hm
    unfold mapCost
    rw [if_pos ((mapB_iff _ _ _).2 h), if_pos (costB_iff.2 c)]
    have b1 := mDel_bd (l := a) c.dp m a.length
    have b2 := mIns_bd (l := b) c.ip m b.length
    have b3 := mRel_bd (a := a) (b := b) c.rp m
    unfold mCost
    omega
  · refine .inr fun x hx => ?_
    obtain ⟨m, hm, rfl⟩ := List.mem_map.1 hx
    unfold mapCost
    have e : ¬ costB d i r = true := fun h => c (costB_iff.1 h)
    rw [if_neg e]
    split <;> rfl
theorem getD_map (L : List (List PairI)) {j : Nat} (h : j < L.length) : L.getD (j : Int).toNat [] = L[j] := getD_nat L j _ h
theorem implLeast_l (a b : List NodeI) (d i r : List Int) (L : List (List PairI)) (hL : L.length ≤ 1048576) (hm : ∀ m ∈ L, m.length ≤ 1048576) (e : Nat) : ∀ (j : Nat) (x : Int), j + e = L.length → Ev (fun k => impl_LeastCost.l0 k a b x L L.length j d i r) (((L.drop j).map (mapCost a b d i r)).foldl lessI x) := by
  induction e with
  | zero =>
    intro j x hj
    refine Ev.step (fun _ => rfl) ?_
    simp only [impl_LeastCost.l0]
    rw [List.drop_of_length_le (by omega)]
    exact Ev.ifF (by omega) (Ev.now _)
  | succ e ih =>
    intro j x hj
    have hlt : j < L.length := by omega
    refine Ev.step (fun _ => rfl) ?_
    simp only [impl_LeastCost.l0]
    have h0 : Ev (fun k => impl_MapCost.f k a b d i r (L.getD (j : Int).toNat [])) (mapCost a b d i r L[j]) := by
      rw [getD_map L hlt]
      exact implMapCost_ev a b d i r _ (hm _ (List.getElem_mem hlt))
    rw [List.drop_eq_getElem_cons hlt, List.map_cons, List.foldl_cons, wrap_succ hlt (by omega)]
    refine Ev.ifT (by omega) (Ev.ifT (by omega) (Ev.ifT (by omega) (Ev.bind h0 ?_)))
    unfold lessI
    by_cases c : x < 0
    · rw [if_pos c]; exact Ev.ifT c (ih (j + 1) _ (by omega))
    · rw [if_neg c]
      refine Ev.ifF c ?_
      by_cases c2 : mapCost a b d i r L[j] < x
      · rw [if_pos c2]; exact Ev.ifT c2 (ih (j + 1) _ (by omega))
      · rw [if_neg c2]; exact Ev.ifF c2 (ih (j + 1) _ (by omega))
theorem implLeast_ev (a b : List NodeI) (d i r : List Int) : Ev (fun k => impl_LeastCost.f k a b d i r) (leastCost a b d i r) := by
  have hl := mapsOf_len a b
  unfold impl_LeastCost.f
  refine Ev.bind (implMapsOf_ev a b) ?_
  have h := implLeast_l a b d i r (mapsOf a b) (by omega) (fun m hm => by have := mok_len (mapsOf_ok a b m hm); omega) _ 0 (-1) (Nat.zero_add _)
  rw [List.drop_zero] at h
  rw [show leastCost a b d i r = ((mapsOf a b).map (mapCost a b d i r)).foldl lessI (-1) from (least_impl _ (costs_sign a b d i r)).symm]
  exact h
end Go.Proofs.Ytngphdmbjenkaaa.Q
namespace Go.Proofs.Ytngphdmbjenkaaa.Q
open Go.RowKit Go.Proofs.YtngphdmbjenkaaaW.PrintWords Go.Proofs.YtngphdmbjenkaaaW.PrintLast Go.Proofs.YtngphdmbjenkaaaW.PrintMore Go.Proofs.Ytngphdmbjenkaaa.X Go.Proofs.Ytngphdmbjenkaaa.Rd Go.Proofs.Ytngphdmbjenkaaa
set_option linter.unusedVariables false
set_option linter.unusedSimpArgs false
theorem mok_take {a b : List NodeI} {m r : List PairI} (h : MOk a b (m ++ r)) : MOk a b m := by
  obtain ⟨ta, tb, hin, hpw⟩ := mok_iff.1 h
  exact mok_iff.2 ⟨ta, tb, fun p hp => hin p (List.mem_append_left _ hp), (List.pairwise_append.1 hpw).1⟩
theorem more_all {a b : List NodeI} (n : Nat) : ∀ (m : List PairI) (i : Nat) (r : List PairI), i + n = a.length → (⟨0, 0⟩ : PairI) ∈ m → MOk a b (m ++ r) → (∀ p ∈ r, (i : Int) ≤ p.f0) → m ++ r ∈ more a b n m i := by
  induction n with
  | zero =>
    intro m i r hi hm h hr
    cases r with
    | nil => rw [List.append_nil]; exact List.mem_singleton.2 rfl
    | cons p r =>
      exfalso
      obtain ⟨_, _, hin, _⟩ := mok_iff.1 h
      have h1 := (hin p (List.mem_append_right _ List.mem_cons_self)).a1
      have h2 := hr p List.mem_cons_self
      omega
  | succ n ih =>
    intro m i r hi hm h hr
    simp only [more]
    refine List.mem_append.2 ?_
    by_cases c : ∃ p r', r = p :: r' ∧ p.f0 = (i : Int)
    · obtain ⟨p, r', rfl, hp⟩ := c
      obtain ⟨ta, tb, hin, hpw⟩ := mok_iff.1 h
      have pin := hin p (List.mem_append_right _ List.mem_cons_self)
      have hpw2 := List.pairwise_append.1 hpw
      have f := hpw2.2.2 _ hm p List.mem_cons_self
      have f1 := f.lB
      simp only at f1
      have := pin.b1
      have e : p = ⟨(i : Int), ((p.f1.toNat : Nat) : Int)⟩ := by
        obtain ⟨x, y⟩ := p
        simp only at hp f1 ⊢
        subst hp
        congr 1
        omega
      have h' : MOk a b ((m ++ [p]) ++ r') := by rw [List.append_assoc]; exact h
      refine .inr (List.mem_flatMap.2 ⟨p.f1.toNat, List.mem_range'_1.2 ⟨by omega, by omega⟩, ?_⟩)
      rw [← e, if_pos ((mapB_iff _ _ _).2 (mok_take h'))]
      have k := ih (m ++ [p]) (i + 1) r' (by omega) (List.mem_append_left _ hm) h' (fun q hq => by
        have := ((List.pairwise_cons.1 hpw2.2.1).1 q hq).lA
        omega)
      rw [List.append_assoc] at k
      exact k
    · refine .inl (ih m (i + 1) r (by omega) hm h (fun q hq => ?_))
      have h1 := hr q hq
      cases r with
      | nil => cases hq
      | cons p r' =>
        have h2 := hr p List.mem_cons_self
        have h3 : p.f0 ≠ (i : Int) := fun e => c ⟨p, r', rfl, e⟩
        rcases List.mem_cons.1 hq with rfl | hq
        · omega
        · obtain ⟨_, _, _, hpw⟩ := mok_iff.1 h
          have := ((List.pairwise_cons.1 (List.pairwise_append.1 hpw).2.1).1 q hq).lA
          omega
theorem more_pre {a b : List NodeI} (n : Nat) : ∀ m i, ∀ x ∈ more a b n m i, ∃ r, x = m ++ r := by
  induction n with
  | zero => intro m i x hx; simp only [more, List.mem_singleton] at hx; exact ⟨[], by rw [hx, List.append_nil]⟩
  | succ n ih =>
    intro m i x hx
    simp only [more] at hx
    rcases List.mem_append.1 hx with hx | hx
    · exact ih m (i + 1) x hx
    · obtain ⟨k, _, hk⟩ := List.mem_flatMap.1 hx
      by_cases c : mapB a b (m ++ [⟨(i : Int), (k : Int)⟩]) = true
      · rw [if_pos c] at hk
        obtain ⟨r, e⟩ := ih _ _ x hk
        exact ⟨⟨(i : Int), (k : Int)⟩ :: r, by rw [e, List.append_assoc]; rfl⟩
      · rw [if_neg c] at hk
        exact absurd hk List.not_mem_nil
theorem root_first {a b : List NodeI} {m : List PairI} (h : MOk a b m) (hr : (⟨0, 0⟩ : PairI) ∈ m) : ∃ r, m = ⟨0, 0⟩ :: r := by
  cases m with
  | nil => cases hr
  | cons p r =>
    obtain ⟨_, _, hin, hpw⟩ := mok_iff.1 h
    rcases List.mem_cons.1 hr with e | hr
    · exact ⟨r, by rw [e]⟩
    · exfalso
      have h1 := ((List.pairwise_cons.1 hpw).1 _ hr).lA
      have h2 := (hin p List.mem_cons_self).a0
      simp only at h1
      omega
theorem mapsOf_all {a b : List NodeI} {m : List PairI} (h : MOk a b m) (ha : a.length ≤ 5) (hb : b.length ≤ 5) (hr : (⟨0, 0⟩ : PairI) ∈ m) : m ∈ mapsOf a b := by
  have l1 := h.ta.len1
  unfold mapsOf
  rw [if_pos ⟨trB_true h.ta, trB_true h.tb, ha, hb⟩]
  obtain ⟨r, rfl⟩ := root_first h hr
  obtain ⟨_, _, _, hpw⟩ := mok_iff.1 h
  exact more_all (a.length - 1) root 1 r (by omega) (by simp [root]) h (fun p hp => by
    have := ((List.pairwise_cons.1 hpw).1 p hp).lA
    simp only at this
    omega)
theorem mapsOf_root {a b : List NodeI} {m : List PairI} (h : m ∈ mapsOf a b) : ∃ r, m = ⟨0, 0⟩ :: r := by
  unfold mapsOf at h
  split at h
  · obtain ⟨r, e⟩ := more_pre _ _ _ m h
    exact ⟨r, e⟩
  · cases h
theorem lessS_fold (l : List Int) : ∀ x, l.foldl lessS x ≤ x ∧ (∀ y ∈ l, l.foldl lessS x ≤ y) ∧ (l.foldl lessS x = x ∨ l.foldl lessS x ∈ l) := by
  induction l with
  | nil => intro x; exact ⟨Int.le_refl _, fun y hy => absurd hy List.not_mem_nil, .inl rfl⟩
  | cons z l ih =>
    intro x
    rw [List.foldl_cons]
    obtain ⟨h1, h2, h3⟩ := ih (lessS x z)
    have hz : lessS x z ≤ x ∧ lessS x z ≤ z ∧ (lessS x z = x ∨ lessS x z = z) := by unfold lessS; split <;> omega
    refine ⟨by omega, fun y hy => ?_, ?_⟩
    · rcases List.mem_cons.1 hy with rfl | hy
      · omega
      · exact h2 y hy
    · rcases h3 with h3 | h3
      · rcases hz.2.2 with e | e
        · exact .inl (h3.trans e)
        · exact .inr (by rw [h3, e]; exact List.mem_cons_self)
      · exact .inr (List.mem_cons_of_mem _ h3)
theorem leastOf_min {l : List Int} {x : Int} (hx : x ∈ l) (h : ∀ y ∈ l, x ≤ y) : leastOf l = x := by
  cases l with
  | nil => cases hx
  | cons z l =>
    show l.foldl lessS z = x
    obtain ⟨h1, h2, h3⟩ := lessS_fold l z
    have hz := h z List.mem_cons_self
    have a1 : l.foldl lessS z ≤ x := by
      rcases List.mem_cons.1 hx with rfl | hx
      · exact h1
      · exact h2 x hx
    have a2 : x ≤ l.foldl lessS z := by
      rcases h3 with e | e
      · omega
      · exact h _ (List.mem_cons_of_mem _ e)
    omega
theorem mapCost_ok {a b : List NodeI} {d i r : List Int} {m : List PairI} (h : MOk a b m) (c : Co d i r) : mapCost a b d i r m = mCost a b d i r m := by
  unfold mapCost
  rw [if_pos ((mapB_iff _ _ _).2 h), if_pos (costB_iff.2 c)]
theorem mapCost_no {a b : List NodeI} {d i r : List Int} {m : List PairI} (c : ¬ Co d i r) : mapCost a b d i r m = -1 := by
  unfold mapCost
  rw [if_neg (fun h => c (costB_iff.1 h))]
  split <;> rfl
theorem mapsOf_least {a b : List NodeI} {d i r : List Int} (c : Co d i r) {m : List PairI} (h : m ∈ mapsOf a b) : rootDist a b d i r ≤ mapCost a b d i r m := by
  have ok := mapsOf_ok a b m h
  obtain ⟨s, e⟩ := mapsOf_root h
  rw [mapCost_ok ok c]
  exact root_least ok (by rw [e]; exact List.mem_cons_self)
theorem mapsOf_met {a b : List NodeI} (ta : Tr a) (tb : Tr b) (ha : a.length ≤ 5) (hb : b.length ≤ 5) {d i r : List Int} (c : Co d i r) : ∃ m ∈ mapsOf a b, mapCost a b d i r m = rootDist a b d i r := by
  obtain ⟨m, ok, hr, e⟩ := root_attained ta tb d i r
  exact ⟨m, mapsOf_all ok ha hb hr, by rw [mapCost_ok ok c]; exact e⟩
theorem leastCost_eq {a b : List NodeI} (ta : Tr a) (tb : Tr b) (ha : a.length ≤ 5) (hb : b.length ≤ 5) {d i r : List Int} (c : Co d i r) : leastCost a b d i r = rootDist a b d i r := by
  obtain ⟨m, hm, e⟩ := mapsOf_met ta tb ha hb c
  refine leastOf_min (List.mem_map.2 ⟨m, hm, e⟩) (fun y hy => ?_)
  obtain ⟨m', hm', rfl⟩ := List.mem_map.1 hy
  exact mapsOf_least c hm'
theorem leastCost_no {a b : List NodeI} (ta : Tr a) (tb : Tr b) (ha : a.length ≤ 5) (hb : b.length ≤ 5) {d i r : List Int} (c : ¬ Co d i r) : leastCost a b d i r = -1 := by
  have hm := mapsOf_all (root_ok ta tb) ha hb (List.mem_singleton.2 rfl)
  refine leastOf_min (List.mem_map.2 ⟨_, hm, mapCost_no c⟩) (fun y hy => ?_)
  obtain ⟨m', _, rfl⟩ := List.mem_map.1 hy
  rw [mapCost_no c]
  exact Int.le_refl _
theorem mapsOf_pos {a b : List NodeI} (ta : Tr a) (tb : Tr b) (ha : a.length ≤ 5) (hb : b.length ≤ 5) : 0 < (mapsOf a b).length :=
  List.length_pos_of_mem (mapsOf_all (root_ok ta tb) ha hb (List.mem_singleton.2 rfl))
end Go.Proofs.Ytngphdmbjenkaaa.Q
