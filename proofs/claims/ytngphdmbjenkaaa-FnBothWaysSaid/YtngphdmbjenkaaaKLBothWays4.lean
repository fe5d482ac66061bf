/- Part 4 of the proof of FnBothWays: what it needs. -/
namespace Go.Proofs.Ytngphdmbjenkaaa.Ted
set_option linter.unusedVariables false
set_option linter.unusedSimpArgs false
structure Ms where
  la : Nat → Nat
  lb : Nat → Nat
  del : Nat → Int
  ins : Nat → Int
  rel : Nat → Nat → Int
def cut (l : Nat → Nat) (i j : Nat) : Nat := max i (min (l (j - 1)) (j - 1))
def D (M : Ms) (i j k m : Nat) : Int :=
  if h1 : i < j then
    if h2 : k < m then
      min (D M i (j - 1) k m + M.del (j - 1)) (min (D M i j k (m - 1) + M.ins (m - 1))
        (D M (cut M.la i j) (j - 1) (cut M.lb k m) (m - 1) + D M i (cut M.la i j) k (cut M.lb k m) + M.rel (j - 1) (m - 1)))
    else D M i (j - 1) k m + M.del (j - 1)
  else if h2 : k < m then D M i j k (m - 1) + M.ins (m - 1) else 0
  termination_by (j - i) + (m - k)
  decreasing_by all_goals (first | omega | (simp only [cut];omega))
theorem D_none (M : Ms) {i j k m : Nat} (h1 : ¬ i < j) (h2 : ¬ k < m) : D M i j k m = 0 := by
  rw [D,dif_neg h1,dif_neg h2]
theorem D_a (M : Ms) {i j k m : Nat} (h1 : i < j) (h2 : ¬ k < m) : D M i j k m = D M i (j - 1) k m + M.del (j - 1) := by
  rw [D,dif_pos h1,dif_neg h2]
theorem D_b (M : Ms) {i j k m : Nat} (h1 : ¬ i < j) (h2 : k < m) : D M i j k m = D M i j k (m - 1) + M.ins (m - 1) := by
  rw [D,dif_neg h1,dif_pos h2]
theorem D_ab (M : Ms) {i j k m : Nat} (h1 : i < j) (h2 : k < m) : D M i j k m =
    min (D M i (j - 1) k m + M.del (j - 1)) (min (D M i j k (m - 1) + M.ins (m - 1))
        (D M (cut M.la i j) (j - 1) (cut M.lb k m) (m - 1) + D M i (cut M.la i j) k (cut M.lb k m) + M.rel (j - 1) (m - 1))) := by
  rw [D,dif_pos h1,dif_pos h2]
def sm (f : Nat → Int) (i : Nat) : Nat → Int
  | 0 => 0
  | j + 1 => if i ≤ j then sm f i j + f j else 0
theorem sm_none (f : Nat → Int) {i j : Nat} (h : j ≤ i) : sm f i j = 0 := by
  cases j with
  | zero => rfl
  | succ j => simp only [sm];rw [if_neg (by omega)]
theorem sm_last (f : Nat → Int) {i j : Nat} (h : i < j) : sm f i j = sm f i (j - 1) + f (j - 1) := by
  cases j with
  | zero => omega
  | succ j => simp only [sm,Nat.add_sub_cancel];rw [if_pos (by omega)]
theorem sm_split (f : Nat → Int) {i u j : Nat} (h1 : i ≤ u) (h2 : u ≤ j) : sm f i j = sm f i u + sm f u j := by
  induction j with
  | zero => have : u = 0 := by omega
            subst this
            have : i = 0 := by omega
            subst this
            rfl
  | succ j ih =>
    by_cases e : u = j + 1
    · subst e;rw [sm_none f (Nat.le_refl (j + 1))];omega
    · rw [sm_last f (show i < j + 1 by omega),sm_last f (show u < j + 1 by omega)]
      simp only [Nat.add_sub_cancel]
      rw [ih (by omega)];omega
def wt (M : Ms) (p : Nat × Nat) : Int := M.rel p.1 p.2 - M.del p.1 - M.ins p.2
def tot (M : Ms) (L : List (Nat × Nat)) : Int := (L.map (wt M)).sum
theorem tot_nil (M : Ms) : tot M [] = 0 := rfl
theorem tot_cons (M : Ms) (p : Nat × Nat) (L : List (Nat × Nat)) : tot M (p :: L) = wt M p + tot M L := by simp [tot]
theorem tot_append (M : Ms) (L1 L2 : List (Nat × Nat)) : tot M (L1 ++ L2) = tot M L1 + tot M L2 := by simp [tot]
theorem tot_perm (M : Ms) {L1 L2 : List (Nat × Nat)} (h : L1.Perm L2) : tot M L1 = tot M L2 := by
  induction h with
  | nil => rfl
  | cons x _ ih => rw [tot_cons,tot_cons,ih]
  | swap x y l => simp only [tot_cons];omega
  | trans _ _ h1 h2 => rw [h1,h2]
theorem tot_filter (M : Ms) (f : Nat × Nat → Bool) (L : List (Nat × Nat)) : tot M L = tot M (L.filter f) + tot M (L.filter fun p => !f p) := by
  induction L with
  | nil => rfl
  | cons p L ih =>
    cases h : f p with
    | true => rw [List.filter_cons_of_pos h,List.filter_cons_of_neg (by simp [h]),tot_cons,tot_cons,ih];omega
    | false => rw [List.filter_cons_of_neg (by simp [h]),List.filter_cons_of_pos (by simp [h]),tot_cons,tot_cons,ih];omega
structure Valid (M : Ms) (i j k m : Nat) (L : List (Nat × Nat)) : Prop where
  nodup : L.Nodup
  inr : ∀ p ∈ L,i ≤ p.1 ∧ p.1 < j ∧ k ≤ p.2 ∧ p.2 < m
  ord : ∀ p ∈ L,∀ q ∈ L,p.1 < q.1 ↔ p.2 < q.2
  anc : ∀ p ∈ L,∀ q ∈ L,p.1 < q.1 → (M.la q.1 ≤ p.1 ↔ M.lb q.2 ≤ p.2)
theorem Valid.nil (M : Ms) (i j k m : Nat) : Valid M i j k m [] := ⟨List.nodup_nil,by simp,by simp,by simp⟩
theorem Valid.sub {M : Ms} {i j k m i' j' k' m' : Nat} {L L' : List (Nat × Nat)} (h : Valid M i j k m L) (hs : L'.Sublist L)
    (hr : ∀ p ∈ L',i' ≤ p.1 ∧ p.1 < j' ∧ k' ≤ p.2 ∧ p.2 < m') : Valid M i' j' k' m' L' :=
  ⟨h.nodup.sublist hs,hr,fun p hp q hq => h.ord p (hs.subset hp) q (hs.subset hq),fun p hp q hq => h.anc p (hs.subset hp) q (hs.subset hq)⟩
theorem Valid.perm {M : Ms} {i j k m : Nat} {L L' : List (Nat × Nat)} (h : Valid M i j k m L) (hs : L.Perm L') : Valid M i j k m L' :=
  ⟨hs.nodup_iff.1 h.nodup,fun p hp => h.inr p (hs.mem_iff.2 hp),fun p hp q hq => h.ord p (hs.mem_iff.2 hp) q (hs.mem_iff.2 hq),fun p hp q hq => h.anc p (hs.mem_iff.2 hp) q (hs.mem_iff.2 hq)⟩
def cost (M : Ms) (i j k m : Nat) (L : List (Nat × Nat)) : Int := sm M.del i j + sm M.ins k m + tot M L
theorem lower (M : Ms) (N : Nat) : ∀ (i j k m : Nat) (L : List (Nat × Nat)),(j - i) + (m - k) ≤ N → Valid M i j k m L → D M i j k m ≤ cost M i j k m L := by
  induction N with
  | zero =>
    intro i j k m L hN hv
    rw [D_none M (by omega) (by omega)]
    have : L = [] := by
      cases L with
      | nil => rfl
      | cons p L => have := hv.inr p List.mem_cons_self;omega
    subst this
    simp only [cost,tot_nil]
    rw [sm_none _ (by omega),sm_none _ (by omega)];omega
  | succ N ih =>
    intro i j k m L hN hv
    by_cases h1 : i < j
    · by_cases h2 : k < m
      · rw [D_ab M h1 h2]
        by_cases ha : ∃ y,(j - 1,y) ∈ L
        · by_cases hb : ∃ x,(x,m - 1) ∈ L
          · obtain ⟨y,hy⟩ := ha
            obtain ⟨x,hx⟩ := hb
            have ry := hv.inr _ hy
            have rx := hv.inr _ hx
            have o := hv.ord _ hy _ hx
            simp only at ry rx o
            have ey : y = m - 1 := by
              by_cases e : y < m - 1
              · have := o.2 e;omega
              · omega
            subst ey
            have hp := List.perm_cons_erase hy
            have hv' := hv.perm hp
            have hnot : (j - 1,m - 1) ∉ L.erase (j - 1,m - 1) := (List.nodup_cons.1 hv'.nodup).1
            generalize hL' : L.erase (j - 1,m - 1) = L' at hp hv' hnot
            have hlt : ∀ p ∈ L',p.1 < j - 1 ∧ p.2 < m - 1 := by
              intro p hpm
              have r := hv'.inr p (List.mem_cons_of_mem _ hpm)
              have o1 := hv'.ord p (List.mem_cons_of_mem _ hpm) (j - 1,m - 1) List.mem_cons_self
              have ne : p ≠ (j - 1,m - 1) := fun e => hnot (e ▸ hpm)
              simp only at o1
              by_cases e : p.1 < j - 1
              · exact ⟨e,o1.1 e⟩
              · have e2 : ¬ p.2 < m - 1 := fun e' => e (o1.2 e')
                exact absurd (Prod.ext (by simp only;omega) (by simp only;omega)) ne
            have han : ∀ p ∈ L',M.la (j - 1) ≤ p.1 ↔ M.lb (m - 1) ≤ p.2 := fun p hpm =>
              hv'.anc p (List.mem_cons_of_mem _ hpm) (j - 1,m - 1) List.mem_cons_self (hlt p hpm).1
            have hcut : ∀ p ∈ L',p.1 < cut M.la i j ↔ p.2 < cut M.lb k m := by
              intro p hpm
              have r := hv'.inr p (List.mem_cons_of_mem _ hpm)
              have l := hlt p hpm
              have a := han p hpm
              simp only [cut]
              omega
            have hvL' : ∀ p ∈ L',p ∈ (j - 1,m - 1) :: L' := fun p h => List.mem_cons_of_mem _ h
            have v1 : Valid M i (cut M.la i j) k (cut M.lb k m) (L'.filter fun p => decide (p.1 < cut M.la i j)) := by
              refine hv'.sub ((List.filter_sublist).trans (List.sublist_cons_self _ _)) ?_
              intro p hpm
              have hpm' := List.mem_filter.1 hpm
              have r := hv'.inr p (hvL' p hpm'.1)
              have d : p.1 < cut M.la i j := of_decide_eq_true hpm'.2
              have c := (hcut p hpm'.1).1 d
              omega
            have v2 : Valid M (cut M.la i j) (j - 1) (cut M.lb k m) (m - 1) (L'.filter fun p => !decide (p.1 < cut M.la i j)) := by
              refine hv'.sub ((List.filter_sublist).trans (List.sublist_cons_self _ _)) ?_
              intro p hpm
              have hpm' := List.mem_filter.1 hpm
              have l := hlt p hpm'.1
              have d : ¬ p.1 < cut M.la i j := by
                have := hpm'.2
                simpa using this
              have c : ¬ p.2 < cut M.lb k m := fun e => d ((hcut p hpm'.1).2 e)
              omega
            have b1 : i ≤ cut M.la i j ∧ cut M.la i j ≤ j - 1 := by simp only [cut];omega
            have b2 : k ≤ cut M.lb k m ∧ cut M.lb k m ≤ m - 1 := by simp only [cut];omega
            have i1 := ih _ _ _ _ _ (by omega) v1
            have i2 := ih _ _ _ _ _ (by omega) v2
            have t1 := tot_perm M hp
            rw [tot_cons] at t1
            have t2 := tot_filter M (fun p => decide (p.1 < cut M.la i j)) L'
            have s1 := sm_split M.del b1.1 b1.2
            have s2 := sm_split M.ins b2.1 b2.2
            have s3 := sm_last M.del h1
            have s4 := sm_last M.ins h2
            simp only [cost] at i1 i2 ⊢
            simp only [wt] at t1
            omega
          · have hv' : Valid M i j k (m - 1) L := hv.sub (List.Sublist.refl _) (fun p hp => by
              have r := hv.inr p hp
              have : p.2 ≠ m - 1 := fun e => hb ⟨p.1,by rw [← e];exact hp⟩
              omega)
            have i1 := ih _ _ _ _ _ (by omega) hv'
            have s4 := sm_last M.ins h2
            simp only [cost] at i1 ⊢
            omega
        · have hv' : Valid M i (j - 1) k m L := hv.sub (List.Sublist.refl _) (fun p hp => by
            have r := hv.inr p hp
            have : p.1 ≠ j - 1 := fun e => ha ⟨p.2,by rw [← e];exact hp⟩
            omega)
          have i1 := ih _ _ _ _ _ (by omega) hv'
          have s4 := sm_last M.del h1
          simp only [cost] at i1 ⊢
          omega
      · rw [D_a M h1 h2]
        have hv' : Valid M i (j - 1) k m L := hv.sub (List.Sublist.refl _) (fun p hp => by
          have r := hv.inr p hp
          omega)
        have i1 := ih _ _ _ _ _ (by omega) hv'
        have s4 := sm_last M.del h1
        simp only [cost] at i1 ⊢
        omega
    · by_cases h2 : k < m
      · rw [D_b M h1 h2]
        have hv' : Valid M i j k (m - 1) L := hv.sub (List.Sublist.refl _) (fun p hp => by
          have r := hv.inr p hp
          omega)
        have i1 := ih _ _ _ _ _ (by omega) hv'
        have s4 := sm_last M.ins h2
        simp only [cost] at i1 ⊢
        omega
      · rw [D_none M h1 h2]
        have : L = [] := by
          cases L with
          | nil => rfl
          | cons p L => have := hv.inr p List.mem_cons_self;omega
        subst this
        simp only [cost,tot_nil]
        rw [sm_none _ (by omega),sm_none _ (by omega)];omega
theorem D_le (M : Ms) {i j k m : Nat} {L : List (Nat × Nat)} (h : Valid M i j k m L) : D M i j k m ≤ cost M i j k m L := lower M _ i j k m L (Nat.le_refl _) h
def Lam (l : Nat → Nat) (n : Nat) : Prop := ∀ p x,p < n → l p ≤ x → x ≤ p → l p ≤ l x
theorem Valid.join {M : Ms} {i u j k v m : Nat} {L1 L2 : List (Nat × Nat)} (h1 : Valid M i u k v L1) (h2 : Valid M u j v m L2) (hu : u ≤ j) (hv : v ≤ m) (hi : i ≤ u) (hk : k ≤ v)
    (ha : ∀ x,u ≤ x → x < j → i < u → u ≤ M.la x) (hb : ∀ y,v ≤ y → y < m → k < v → v ≤ M.lb y) : Valid M i j k m (L1 ++ L2) := by
  have key : ∀ p ∈ L1,∀ q ∈ L2,p.1 < q.1 ∧ p.2 < q.2 ∧ ¬ M.la q.1 ≤ p.1 ∧ ¬ M.lb q.2 ≤ p.2 := by
    intro p hp q hq
    have r1 := h1.inr p hp
    have r2 := h2.inr q hq
    have a := ha q.1 (by omega) (by omega) (by omega)
    have b := hb q.2 (by omega) (by omega) (by omega)
    omega
  refine ⟨?_,?_,?_,?_⟩
  · rw [List.nodup_append]
    refine ⟨h1.nodup,h2.nodup,?_⟩
    intro p hp q hq e
    subst e
    have := key p hp p hq
    omega
  · intro p hp
    rcases List.mem_append.1 hp with hp | hp
    · have := h1.inr p hp;omega
    · have := h2.inr p hp;omega
  · intro p hp q hq
    rcases List.mem_append.1 hp with hp | hp <;> rcases List.mem_append.1 hq with hq | hq
    · exact h1.ord p hp q hq
    · have := key p hp q hq;omega
    · have := key q hq p hp;omega
    · exact h2.ord p hp q hq
  · intro p hp q hq hlt
    rcases List.mem_append.1 hp with hp | hp <;> rcases List.mem_append.1 hq with hq | hq
    · exact h1.anc p hp q hq hlt
    · have := key p hp q hq;omega
    · have := key q hq p hp;omega
    · exact h2.anc p hp q hq hlt
theorem Valid.top {M : Ms} {i j k m : Nat} {L : List (Nat × Nat)} (h1 : i < j) (h2 : k < m) (h : Valid M i (j - 1) k (m - 1) L) (ha : ∀ p ∈ L,M.la (j - 1) ≤ p.1 ↔ M.lb (m - 1) ≤ p.2) :
    Valid M i j k m ((j - 1,m - 1) :: L) := by
  have key : ∀ p ∈ L,p.1 < j - 1 ∧ p.2 < m - 1 := fun p hp => by have := h.inr p hp;omega
  refine ⟨?_,?_,?_,?_⟩
  · refine List.nodup_cons.2 ⟨fun hm => ?_,h.nodup⟩
    have := key _ hm
    simp only at this
    omega
  · intro p hp
    rcases List.mem_cons.1 hp with rfl | hp
    · simp only;omega
    · have := h.inr p hp;omega
  · intro p hp q hq
    rcases List.mem_cons.1 hp with rfl | hp <;> rcases List.mem_cons.1 hq with rfl | hq
    · simp
    · have := key q hq;simp only;omega
    · have := key p hp;simp only;omega
    · exact h.ord p hp q hq
  · intro p hp q hq hlt
    rcases List.mem_cons.1 hp with rfl | hp <;> rcases List.mem_cons.1 hq with rfl | hq
    · simp only at hlt;omega
    · have := key q hq;simp only at hlt;omega
    · exact ha p hp
    · exact h.anc p hp q hq hlt
theorem attained (M : Ms) (A B : Nat) (hA : Lam M.la A) (hB : Lam M.lb B) (N : Nat) : ∀ (i j k m : Nat),(j - i) + (m - k) ≤ N → j ≤ A → m ≤ B →
    ∃ L,Valid M i j k m L ∧ cost M i j k m L = D M i j k m := by
  induction N with
  | zero =>
    intro i j k m hN _ _
    refine ⟨[],Valid.nil M _ _ _ _,?_⟩
    rw [D_none M (by omega) (by omega)]
    simp only [cost,tot_nil]
    rw [sm_none _ (by omega),sm_none _ (by omega)];omega
  | succ N ih =>
    intro i j k m hN hjA hmB
    by_cases h1 : i < j
    · by_cases h2 : k < m
      · have e := D_ab M h1 h2
        have s3 := sm_last M.del h1
        have s4 := sm_last M.ins h2
        by_cases c1 : D M i j k m = D M i (j - 1) k m + M.del (j - 1)
        · obtain ⟨L,hv,hc⟩ := ih i (j - 1) k m (by omega) (by omega) hmB
          refine ⟨L,hv.sub (List.Sublist.refl _) (fun p hp => by have := hv.inr p hp;omega),?_⟩
          simp only [cost] at hc ⊢
          omega
        · by_cases c2 : D M i j k m = D M i j k (m - 1) + M.ins (m - 1)
          · obtain ⟨L,hv,hc⟩ := ih i j k (m - 1) (by omega) hjA (by omega)
            refine ⟨L,hv.sub (List.Sublist.refl _) (fun p hp => by have := hv.inr p hp;omega),?_⟩
            simp only [cost] at hc ⊢
            omega
          · have b1 : i ≤ cut M.la i j ∧ cut M.la i j ≤ j - 1 := by simp only [cut];omega
            have b2 : k ≤ cut M.lb k m ∧ cut M.lb k m ≤ m - 1 := by simp only [cut];omega
            obtain ⟨L2,v2,hc2⟩ := ih (cut M.la i j) (j - 1) (cut M.lb k m) (m - 1) (by omega) (by omega) (by omega)
            obtain ⟨L1,v1,hc1⟩ := ih i (cut M.la i j) k (cut M.lb k m) (by omega) (by omega) (by omega)
            have hcA : i < cut M.la i j → cut M.la i j = min (M.la (j - 1)) (j - 1) := by simp only [cut];omega
            have hcB : k < cut M.lb k m → cut M.lb k m = min (M.lb (m - 1)) (m - 1) := by simp only [cut];omega
            have vj := v1.join v2 b1.2 b2.2 b1.1 b2.1 (fun x hx1 hx2 hlt => by
              have e1 := hcA hlt
              have := hA (j - 1) x (by omega) (by omega) (by omega)
              omega) (fun y hy1 hy2 hlt => by
              have e1 := hcB hlt
              have := hB (m - 1) y (by omega) (by omega) (by omega)
              omega)
            have vt := Valid.top h1 h2 vj (fun p hp => by
              rcases List.mem_append.1 hp with hp | hp
              · have r := v1.inr p hp
                have e1 := hcA (by omega)
                have e2 := hcB (by omega)
                omega
              · have r := v2.inr p hp
                have : M.la (j - 1) ≤ p.1 := by simp only [cut] at r;omega
                have : M.lb (m - 1) ≤ p.2 := by simp only [cut] at r;omega
                omega)
            refine ⟨_,vt,?_⟩
            have s1 := sm_split M.del b1.1 b1.2
            have s2 := sm_split M.ins b2.1 b2.2
            simp only [cost,tot_cons,tot_append,wt] at hc1 hc2 ⊢
            omega
      · obtain ⟨L,hv,hc⟩ := ih i (j - 1) k m (by omega) (by omega) hmB
        refine ⟨L,hv.sub (List.Sublist.refl _) (fun p hp => by have := hv.inr p hp;omega),?_⟩
        have s3 := sm_last M.del h1
        rw [D_a M h1 h2]
        simp only [cost] at hc ⊢
        omega
    · by_cases h2 : k < m
      · obtain ⟨L,hv,hc⟩ := ih i j k (m - 1) (by omega) hjA (by omega)
        refine ⟨L,hv.sub (List.Sublist.refl _) (fun p hp => by have := hv.inr p hp;omega),?_⟩
        have s3 := sm_last M.ins h2
        rw [D_b M h1 h2]
        simp only [cost] at hc ⊢
        omega
      · refine ⟨[],Valid.nil M _ _ _ _,?_⟩
        rw [D_none M h1 h2]
        simp only [cost,tot_nil]
        rw [sm_none _ (by omega),sm_none _ (by omega)];omega
theorem D_best (M : Ms) {A B : Nat} (hA : Lam M.la A) (hB : Lam M.lb B) {i j k m : Nat} (hj : j ≤ A) (hm : m ≤ B) : ∃ L,Valid M i j k m L ∧ cost M i j k m L = D M i j k m :=
  attained M A B hA hB _ i j k m (Nat.le_refl _) hj hm
theorem D_split (M : Ms) {A B : Nat} (hA : Lam M.la A) (hB : Lam M.lb B) {i u j k v m : Nat} (hj : j ≤ A) (hm : m ≤ B) (hi : i ≤ u) (hu : u ≤ j) (hk : k ≤ v) (hv : v ≤ m)
    (ha : ∀ x,u ≤ x → x < j → u ≤ M.la x) (hb : ∀ y,v ≤ y → y < m → v ≤ M.lb y) : D M i j k m ≤ D M i u k v + D M u j v m := by
  obtain ⟨L1,v1,c1⟩ := D_best M hA hB (i := i) (j := u) (k := k) (m := v) (by omega) (by omega)
  obtain ⟨L2,v2,c2⟩ := D_best M hA hB (i := u) (j := j) (k := v) (m := m) hj hm
  have h := D_le M (v1.join v2 hu hv hi hk (fun x h1 h2 _ => ha x h1 h2) (fun y h1 h2 _ => hb y h1 h2))
  have s1 := sm_split M.del hi hu
  have s2 := sm_split M.ins hk hv
  simp only [cost,tot_append] at h c1 c2
  omega
def rootD (M : Ms) (n m : Nat) : Int := D M 0 (n - 1) 0 (m - 1) + M.rel (n - 1) (m - 1)
def turn (M : Ms) : Ms := ⟨M.lb,M.la,M.ins,M.del,fun y x => M.rel x y⟩
theorem D_turn (M : Ms) (N : Nat) : ∀ (i j k m : Nat),(j - i) + (m - k) ≤ N → D (turn M) k m i j = D M i j k m := by
  induction N with
  | zero => intro i j k m hN;rw [D_none M (by omega) (by omega),D_none _ (by omega) (by omega)]
  | succ N ih =>
    intro i j k m hN
    by_cases h1 : i < j
    · by_cases h2 : k < m
      · have b1 : i ≤ cut M.la i j ∧ cut M.la i j ≤ j - 1 := by simp only [cut];omega
        have b2 : k ≤ cut M.lb k m ∧ cut M.lb k m ≤ m - 1 := by simp only [cut];omega
        rw [D_ab M h1 h2,D_ab _ h2 h1]
        have e1 := ih i (j - 1) k m (by omega)
        have e2 := ih i j k (m - 1) (by omega)
        have e3 := ih (cut M.la i j) (j - 1) (cut M.lb k m) (m - 1) (by omega)
        have e4 := ih i (cut M.la i j) k (cut M.lb k m) (by omega)
        show min (D (turn M) k (m - 1) i j + M.ins (m - 1)) (min (D (turn M) k m i (j - 1) + M.del (j - 1)) (D (turn M) (cut M.lb k m) (m - 1) (cut M.la i j) (j - 1) + D (turn M) k (cut M.lb k m) i (cut M.la i j) + M.rel (j - 1) (m - 1))) = _
        rw [e1,e2,e3,e4]
        omega
      · rw [D_a M h1 h2,D_b _ h2 h1,ih i (j - 1) k m (by omega)];rfl
    · by_cases h2 : k < m
      · rw [D_b M h1 h2,D_a _ h2 h1,ih i j k (m - 1) (by omega)];rfl
      · rw [D_none M h1 h2,D_none _ h2 h1]
theorem D_nonneg (M : Ms) (hd : ∀ x,0 ≤ M.del x) (hi : ∀ x,0 ≤ M.ins x) (hr : ∀ x y,0 ≤ M.rel x y) (N : Nat) : ∀ (i j k m : Nat),(j - i) + (m - k) ≤ N → 0 ≤ D M i j k m := by
  induction N with
  | zero => intro i j k m hN;rw [D_none M (by omega) (by omega)];omega
  | succ N ih =>
    intro i j k m hN
    have d1 := hd (j - 1)
    have d2 := hi (m - 1)
    have d3 := hr (j - 1) (m - 1)
    by_cases h1 : i < j
    · by_cases h2 : k < m
      · have b1 : i ≤ cut M.la i j ∧ cut M.la i j ≤ j - 1 := by simp only [cut];omega
        have b2 : k ≤ cut M.lb k m ∧ cut M.lb k m ≤ m - 1 := by simp only [cut];omega
        rw [D_ab M h1 h2]
        have e1 := ih i (j - 1) k m (by omega)
        have e2 := ih i j k (m - 1) (by omega)
        have e3 := ih (cut M.la i j) (j - 1) (cut M.lb k m) (m - 1) (by omega)
        have e4 := ih i (cut M.la i j) k (cut M.lb k m) (by omega)
        omega
      · have e1 := ih i (j - 1) k m (by omega)
        rw [D_a M h1 h2];omega
    · by_cases h2 : k < m
      · have e2 := ih i j k (m - 1) (by omega)
        rw [D_b M h1 h2];omega
      · rw [D_none M h1 h2];omega
end Go.Proofs.Ytngphdmbjenkaaa.Ted
namespace Go.Proofs.Ytngphdmbjenkaaa.Ted
set_option linter.unusedVariables false
set_option linter.unusedSimpArgs false
def TD (M : Ms) (p q : Nat) : Int := D M (M.la p) (p + 1) (M.lb q) (q + 1)
theorem cut_in {l : Nat → Nat} {x p : Nat} (hx : x ≤ l p) (hl : l p ≤ p) : cut l x (p + 1) = l p := by
  simp only [cut,Nat.add_sub_cancel];omega
theorem zs_cell (M : Ms) {A B : Nat} (hA : Lam M.la A) (hB : Lam M.lb B) {x p y q : Nat} (hp : p < A) (hq : q < B) (hlp : M.la p ≤ p) (hlq : M.lb q ≤ q) (hx : x ≤ M.la p) (hy : y ≤ M.lb q) :
    D M x (p + 1) y (q + 1) = min (D M x p y (q + 1) + M.del p) (min (D M x (p + 1) y q + M.ins q)
      (if M.la p = x ∧ M.lb q = y then D M x p y q + M.rel p q else D M x (M.la p) y (M.lb q) + TD M p q)) := by
  have e := D_ab M (i := x) (j := p + 1) (k := y) (m := q + 1) (by omega) (by omega)
  rw [cut_in hx hlp,cut_in hy hlq] at e
  simp only [Nat.add_sub_cancel] at e
  by_cases c : M.la p = x ∧ M.lb q = y
  · rw [if_pos c,e,c.1,c.2,D_none M (i := x) (j := x) (k := y) (m := y) (by omega) (by omega),Int.add_zero]
  · rw [if_neg c]
    have e2 := D_ab M (i := M.la p) (j := p + 1) (k := M.lb q) (m := q + 1) (by omega) (by omega)
    rw [cut_in (Nat.le_refl _) hlp,cut_in (Nat.le_refl _) hlq,D_none M (i := M.la p) (j := M.la p) (k := M.lb q) (m := M.lb q) (by omega) (by omega)] at e2
    simp only [Nat.add_sub_cancel] at e2
    have e3 := D_split M hA hB (i := x) (u := M.la p) (j := p + 1) (k := y) (v := M.lb q) (m := q + 1) (by omega) (by omega) hx (by omega) hy (by omega)
      (fun z h1 h2 => hA p z hp h1 (by omega)) (fun z h1 h2 => hB q z hq h1 (by omega))
    have e4 : TD M p q = D M (M.la p) (p + 1) (M.lb q) (q + 1) := rfl
    omega
structure Rep (l : Nat → Nat) (n p i : Nat) : Prop where
  lt : i < n
  same : l i = l p
  last : ∀ r,i < r → r < n → l r ≠ l p
theorem Rep.ge {l : Nat → Nat} {n p i : Nat} (h : Rep l n p i) (hp : p < n) : p ≤ i := by
  by_cases c : i < p
  · exact absurd rfl (h.last p c hp)
  · omega
theorem Rep.uniq {l : Nat → Nat} {n p i j : Nat} (h : Rep l n p i) (k : Rep l n p j) : i = j := by
  rcases Nat.lt_trichotomy i j with c | c | c
  · exact absurd k.same (h.last j c k.lt)
  · exact c
  · exact absurd h.same (k.last i c h.lt)
theorem Rep.self {l : Nat → Nat} {n p i : Nat} (h : Rep l n p i) : Rep l n i i := ⟨h.lt,rfl,fun r h1 h2 => by rw [h.same];exact h.last r h1 h2⟩
theorem rep_ex (l : Nat → Nat) (n p : Nat) (hp : p < n) : ∃ i,Rep l n p i := by
  have key : ∀ d r,r + d = n → p < r → (∃ i,Rep l n p i) ∨ ∀ s,r ≤ s → s < n → l s ≠ l p := by
    intro d
    induction d with
    | zero => intro r h1 h2;exact .inr fun s h3 h4 => by omega
    | succ d ih =>
      intro r h1 h2
      rcases ih (r + 1) (by omega) (by omega) with h | h
      · exact .inl h
      · by_cases c : l r = l p
        · exact .inl ⟨r,by omega,c,fun s h3 h4 => h s h3 h4⟩
        · exact .inr fun s h3 h4 => by
            by_cases e : s = r
            · rw [e];exact c
            · exact h s (by omega) h4
  rcases key (n - (p + 1)) (p + 1) (by omega) (by omega) with h | h
  · exact h
  · exact ⟨p,hp,rfl,fun r h1 h2 => h r h1 h2⟩
theorem rep_less {l : Nat → Nat} {n i p j : Nat} (hl : Lam l n) (hle : l p ≤ p) (h1 : l i ≤ p) (h2 : p ≤ i) (hi : i < n) (hne : l p ≠ l i) (h : Rep l n p j) : j < i := by
  rcases Nat.lt_trichotomy j i with c | c | c
  · exact c
  · subst c;exact absurd h.same.symm hne
  · have a1 := hl j i h.lt
    have a2 := hl i p hi h1 h2
    have a3 := h.same
    by_cases e : l j ≤ i
    · have a4 := a1 e (by omega)
      omega
    · omega
theorem rep_of {l : Nat → Nat} {n i p : Nat} (h : Rep l n i i) (e : l p = l i) : Rep l n p i := ⟨h.lt,e.symm,fun r h1 h2 => by rw [e];exact h.last r h1 h2⟩
def Done (M : Ms) (A B : Nat) (o : Nat → Nat → Int) (I K : Nat) : Prop :=
  ∀ p q i k,p < A → q < B → Rep M.la A p i → Rep M.lb B q k → i < I ∨ i = I ∧ k < K → o p q = TD M p q
theorem Done.start (M : Ms) (A B : Nat) (o : Nat → Nat → Int) : Done M A B o 0 0 := fun p q i k _ _ _ _ h => by omega
theorem Done.fill {M : Ms} {A B : Nat} {o : Nat → Nat → Int} {I K : Nat} (hA : Lam M.la A) (hB : Lam M.lb B) (lA : ∀ p,p < A → M.la p ≤ p) (lB : ∀ q,q < B → M.lb q ≤ q) (h : Done M A B o I K) (hI : Rep M.la A I I) (hK : Rep M.lb B K K) {p q : Nat}
    (h1 : M.la I ≤ p) (h2 : p ≤ I) (h3 : M.lb K ≤ q) (h4 : q ≤ K) (hne : ¬ (M.la p = M.la I ∧ M.lb q = M.lb K)) : o p q = TD M p q := by
  have a1 := hI.lt
  have a2 := hK.lt
  obtain ⟨i,hi⟩ := rep_ex M.la A p (by omega)
  obtain ⟨k,hk⟩ := rep_ex M.lb B q (by omega)
  refine h p q i k (by omega) (by omega) hi hk ?_
  by_cases c : M.la p = M.la I
  · have e1 := hi.uniq (rep_of hI c)
    have := rep_less hB (lB q (by omega)) h3 h4 hK.lt (fun e => hne ⟨c,e⟩) hk
    omega
  · have := rep_less hA (lA p (by omega)) h1 h2 hI.lt c hi
    omega
theorem Done.next {M : Ms} {A B : Nat} {o o' : Nat → Nat → Int} {I K K' : Nat} (h : Done M A B o I K)
    (hI : Rep M.la A I I) (hK : Rep M.lb B K K) (lI : ∀ p,p < A → M.la p = M.la I → p ≤ I → M.la I ≤ p) (lK : ∀ q,q < B → M.lb q = M.lb K → q ≤ K → M.lb K ≤ q)
    (ho : ∀ p q,p < A → q < B → o' p q = if M.la I ≤ p ∧ p ≤ I ∧ M.lb K ≤ q ∧ q ≤ K ∧ M.la p = M.la I ∧ M.lb q = M.lb K then TD M p q else o p q)
    (hK' : ∀ k,Rep M.lb B k k → k < K' → k ≤ K) : Done M A B o' I K' := by
  intro p q i k hp hq hi hk hlt
  rw [ho p q hp hq]
  by_cases c : M.la I ≤ p ∧ p ≤ I ∧ M.lb K ≤ q ∧ q ≤ K ∧ M.la p = M.la I ∧ M.lb q = M.lb K
  · rw [if_pos c]
  · rw [if_neg c]
    refine h p q i k hp hq hi hk ?_
    rcases hlt with hlt | ⟨rfl,hlt⟩
    · exact .inl hlt
    · by_cases e : k = K
      · subst e
        have e1 := hi.same
        have e2 := hk.same
        exact absurd ⟨lI p hp e1.symm (hi.ge hp),hi.ge hp,lK q hq e2.symm (hk.ge hq),hk.ge hq,e1.symm,e2.symm⟩ c
      · have := hK' k hk.self hlt
        exact .inr ⟨rfl,by omega⟩
theorem Done.round {M : Ms} {A B : Nat} {o : Nat → Nat → Int} {I I' K : Nat} (h : Done M A B o I K) (hK : ∀ k,Rep M.lb B k k → k < K) (hI' : ∀ i,Rep M.la A i i → i < I' → i ≤ I) : Done M A B o I' 0 := by
  intro p q i k hp hq hi hk hlt
  have h1 := hK k hk.self
  refine h p q i k hp hq hi hk ?_
  rcases hlt with hlt | ⟨_,hlt⟩
  · have := hI' i hi.self hlt
    omega
  · omega
theorem Done.all {M : Ms} {A B : Nat} {o : Nat → Nat → Int} {I : Nat} (h : Done M A B o I 0) (hI : ∀ i,Rep M.la A i i → i < I) {p q : Nat} (hp : p < A) (hq : q < B) : o p q = TD M p q := by
  obtain ⟨i,hi⟩ := rep_ex M.la A p hp
  obtain ⟨k,hk⟩ := rep_ex M.lb B q hq
  exact h p q i k hp hq hi hk (.inl (hI i hi.self))
end Go.Proofs.Ytngphdmbjenkaaa.Ted
namespace Go.Proofs.Ytngphdmbjenkaaa.Ted
set_option linter.unusedVariables false
set_option linter.unusedSimpArgs false
theorem one_of {α : Type} (f : α → Nat) (L : List α) (hn : L.Pairwise fun x y => f x ≠ f y) (i : Nat) : L.filter (fun p => f p == i) = [] ∨ ∃ q,q ∈ L ∧ f q = i ∧ L.filter (fun p => f p == i) = [q] := by
  induction L with
  | nil => exact .inl rfl
  | cons x L ih =>
    obtain ⟨h1,h2⟩ := List.pairwise_cons.1 hn
    by_cases c : f x = i
    · refine .inr ⟨x,List.mem_cons_self,c,?_⟩
      rw [List.filter_cons_of_pos (by simpa using c)]
      have : L.filter (fun p => f p == i) = [] := by
        rw [List.filter_eq_nil_iff]
        intro y hy
        have := h1 y hy
        simp only [beq_iff_eq]
        omega
      rw [this]
    · rw [List.filter_cons_of_neg (by simpa using c)]
      rcases ih h2 with h | ⟨q,h3,h4,h5⟩
      · exact .inl h
      · exact .inr ⟨q,List.mem_cons_of_mem _ h3,h4,h5⟩
def comp (L1 L2 : List (Nat × Nat)) : List (Nat × Nat) := L1.flatMap fun p => (L2.filter fun q => q.1 == p.2).map fun q => (p.1,q.2)
end Go.Proofs.Ytngphdmbjenkaaa.Ted
