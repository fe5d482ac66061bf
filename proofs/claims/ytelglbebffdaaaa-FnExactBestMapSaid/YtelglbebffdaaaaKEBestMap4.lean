/- Part 4 of the proof of FnExactBestMap: what it needs. -/
namespace Go.Proofs.Ytelglbebffdaaaa.Ted
set_option linter.unusedVariables false
set_option linter.unusedSimpArgs false
structure Ms where
  la : Nat → Nat
  lb : Nat → Nat
  del : Nat → Int
  ins : Nat → Int
  rel : Nat → Nat → Int
def cut (l : Nat → Nat) (i j : Nat) : Nat:=max i (min (l (j - 1)) (j - 1))
def D (M : Ms) (i j k m : Nat) : Int :=
  if h1 : i < j then
    if h2 : k < m then
      min (D M i (j - 1) k m + M.del (j - 1)) (min (D M i j k (m - 1) + M.ins (m - 1))
        (D M (cut M.la i j) (j - 1) (cut M.lb k m) (m - 1) + D M i (cut M.la i j) k (cut M.lb k m) + M.rel (j - 1) (m - 1)))
    else D M i (j - 1) k m + M.del (j - 1)
  else if h2 : k < m then D M i j k (m - 1) + M.ins (m - 1) else 0
  termination_by (j - i) + (m - k)
  decreasing_by all_goals (first | omega | (simp only [cut];omega))
theorem D_none (M : Ms) {i j k m : Nat} (h1 : ¬ i < j) (h2 : ¬ k < m) : D M i j k m = 0:=by
  rw [D,dif_neg h1,dif_neg h2]
theorem D_a (M : Ms) {i j k m : Nat} (h1 : i < j) (h2 : ¬ k < m) : D M i j k m = D M i (j - 1) k m + M.del (j - 1):=by
  rw [D,dif_pos h1,dif_neg h2]
theorem D_b (M : Ms) {i j k m : Nat} (h1 : ¬ i < j) (h2 : k < m) : D M i j k m = D M i j k (m - 1) + M.ins (m - 1):=by
  rw [D,dif_neg h1,dif_pos h2]
theorem D_ab (M : Ms) {i j k m : Nat} (h1 : i < j) (h2 : k < m) : D M i j k m =
    min (D M i (j - 1) k m + M.del (j - 1)) (min (D M i j k (m - 1) + M.ins (m - 1))
        (D M (cut M.la i j) (j - 1) (cut M.lb k m) (m - 1) + D M i (cut M.la i j) k (cut M.lb k m) + M.rel (j - 1) (m - 1))):=by
  rw [D,dif_pos h1,dif_pos h2]
def sm (f : Nat → Int) (i : Nat) : Nat → Int
  | 0 => 0
  | j + 1 => if i ≤ j then sm f i j + f j else 0
theorem sm_none (f : Nat → Int) {i j : Nat} (h : j ≤ i) : sm f i j = 0:=by
  cases j with
  | zero => rfl
  | succ j => simp only [sm];rw [if_neg (by omega)]
theorem sm_last (f : Nat → Int) {i j : Nat} (h : i < j) : sm f i j = sm f i (j - 1) + f (j - 1):=by
  cases j with
  | zero => omega
  | succ j => simp only [sm,Nat.add_sub_cancel];rw [if_pos (by omega)]
theorem sm_split (f : Nat → Int) {i u j : Nat} (h1 : i ≤ u) (h2 : u ≤ j) : sm f i j = sm f i u + sm f u j:=by
  induction j with
  | zero => have : u = 0:=by omega
            subst this
            have : i = 0:=by omega
            subst this
            rfl
  | succ j ih =>
    by_cases e : u = j + 1
    · subst e;rw [sm_none f (Nat.le_refl (j + 1))];omega
    · rw [sm_last f (show i < j + 1 by omega),sm_last f (show u < j + 1 by omega)]
      simp only [Nat.add_sub_cancel]
      rw [ih (by omega)];omega
def wt (M : Ms) (p : Nat × Nat) : Int:=M.rel p.1 p.2 - M.del p.1 - M.ins p.2
def tot (M : Ms) (L : List (Nat × Nat)) : Int:=(L.map (wt M)).sum
theorem tot_nil (M : Ms) : tot M [] = 0:=rfl
theorem tot_cons (M : Ms) (p : Nat × Nat) (L : List (Nat × Nat)) : tot M (p :: L) = wt M p + tot M L:=by simp [tot]
theorem tot_perm (M : Ms) {L1 L2 : List (Nat × Nat)} (h : L1.Perm L2) : tot M L1 = tot M L2:=by
  induction h with
  | nil => rfl
  | cons x _ ih => rw [tot_cons,tot_cons,ih]
  | swap x y l => simp only [tot_cons];omega
  | trans _ _ h1 h2 => rw [h1,h2]
theorem tot_filter (M : Ms) (f : Nat × Nat → Bool) (L : List (Nat × Nat)) : tot M L = tot M (L.filter f) + tot M (L.filter fun p => !f p):=by
  induction L with
  | nil => rfl
  | cons p L ih =>
    cases h : f p with
    | true => rw [List.filter_cons_of_pos h,List.filter_cons_of_neg (by simp [h]),tot_cons,tot_cons,ih];omega
    | false => rw [List.filter_cons_of_neg (by simp [h]),List.filter_cons_of_pos (by simp [h]),tot_cons,tot_cons,ih];omega
structure Valid (M : Ms) (i j k m : Nat) (L : List (Nat × Nat)) : Prop where
  nodup : L.Nodup
  inr : ∀ p ∈ L,i ≤ p.1 ∧ p.1 < j ∧ k ≤ p.2 ∧ p.2 < m
  ord : ∀ p ∈ L,∀ q ∈ L,p.1 < q.1 ↔ p.2 < q.2
  anc : ∀ p ∈ L,∀ q ∈ L,p.1 < q.1 → (M.la q.1 ≤ p.1 ↔ M.lb q.2 ≤ p.2)
theorem Valid.nil (M : Ms) (i j k m : Nat) : Valid M i j k m []:=⟨List.nodup_nil,by simp,by simp,by simp⟩
theorem Valid.sub {M : Ms} {i j k m i' j' k' m' : Nat} {L L' : List (Nat × Nat)} (h : Valid M i j k m L) (hs : L'.Sublist L)
    (hr : ∀ p ∈ L',i' ≤ p.1 ∧ p.1 < j' ∧ k' ≤ p.2 ∧ p.2 < m') : Valid M i' j' k' m' L' :=
  ⟨h.nodup.sublist hs,hr,fun p hp q hq => h.ord p (hs.subset hp) q (hs.subset hq),fun p hp q hq => h.anc p (hs.subset hp) q (hs.subset hq)⟩
theorem Valid.perm {M : Ms} {i j k m : Nat} {L L' : List (Nat × Nat)} (h : Valid M i j k m L) (hs : L.Perm L') : Valid M i j k m L' :=
  ⟨hs.nodup_iff.1 h.nodup,fun p hp => h.inr p (hs.mem_iff.2 hp),fun p hp q hq => h.ord p (hs.mem_iff.2 hp) q (hs.mem_iff.2 hq),fun p hp q hq => h.anc p (hs.mem_iff.2 hp) q (hs.mem_iff.2 hq)⟩
def cost (M : Ms) (i j k m : Nat) (L : List (Nat × Nat)) : Int:=sm M.del i j + sm M.ins k m + tot M L
theorem lower (M : Ms) (N : Nat) : ∀ (i j k m : Nat) (L : List (Nat × Nat)),(j - i) + (m - k) ≤ N → Valid M i j k m L → D M i j k m ≤ cost M i j k m L:=by
  induction N with
  | zero =>
    intro i j k m L hN hv
    rw [D_none M (by omega) (by omega)]
    have : L = []:=by
      cases L with
      | nil => rfl
      | cons p L => have:=hv.inr p List.mem_cons_self;omega
    subst this
    simp only [cost,tot_nil]
    rw [sm_none _ (by omega),sm_none _ (by omega)];omega
  | succ N ih =>
    intro i j k m L hN hv
    by_cases h1 : i < j
    · by_cases h2 : k < m
      · rw [D_ab M h1 h2]
        by_cases ha : ∃ y,(j - 1,y) ∈ L
        · by_cases hb : ∃ x,(x,m - 1) ∈ L
          · obtain ⟨y,hy⟩:=ha
            obtain ⟨x,hx⟩:=hb
            have ry:=hv.inr _ hy
            have rx:=hv.inr _ hx
            have o:=hv.ord _ hy _ hx
            simp only at ry rx o
            have ey : y = m - 1:=by
              by_cases e : y < m - 1
              · have:=o.2 e;omega
              · omega
            subst ey
            have hp:=List.perm_cons_erase hy
            have hv':=hv.perm hp
            have hnot : (j - 1,m - 1) ∉ L.erase (j - 1,m - 1):=(List.nodup_cons.1 hv'.nodup).1
            generalize hL' : L.erase (j - 1,m - 1) = L' at hp hv' hnot
            have hlt : ∀ p ∈ L',p.1 < j - 1 ∧ p.2 < m - 1:=by
              intro p hpm
              have r:=hv'.inr p (List.mem_cons_of_mem _ hpm)
              have o1:=hv'.ord p (List.mem_cons_of_mem _ hpm) (j - 1,m - 1) List.mem_cons_self
              have ne : p ≠ (j - 1,m - 1):=fun e => hnot (e ▸ hpm)
              simp only at o1
              by_cases e : p.1 < j - 1
              · exact ⟨e,o1.1 e⟩
              · have e2 : ¬ p.2 < m - 1:=fun e' => e (o1.2 e')
                exact absurd (Prod.ext (by simp only;omega) (by simp only;omega)) ne
            have han : ∀ p ∈ L',M.la (j - 1) ≤ p.1 ↔ M.lb (m - 1) ≤ p.2:=fun p hpm =>
              hv'.anc p (List.mem_cons_of_mem _ hpm) (j - 1,m - 1) List.mem_cons_self (hlt p hpm).1
            have hcut : ∀ p ∈ L',p.1 < cut M.la i j ↔ p.2 < cut M.lb k m:=by
              intro p hpm
              have r:=hv'.inr p (List.mem_cons_of_mem _ hpm)
              have l:=hlt p hpm
              have a:=han p hpm
              simp only [cut]
              omega
            have hvL' : ∀ p ∈ L',p ∈ (j - 1,m - 1) :: L':=fun p h => List.mem_cons_of_mem _ h
            have v1 : Valid M i (cut M.la i j) k (cut M.lb k m) (L'.filter fun p => decide (p.1 < cut M.la i j)):=by
              refine hv'.sub ((List.filter_sublist).trans (List.sublist_cons_self _ _)) ?_
              intro p hpm
              have hpm':=List.mem_filter.1 hpm
              have r:=hv'.inr p (hvL' p hpm'.1)
              have d : p.1 < cut M.la i j:=of_decide_eq_true hpm'.2
              have c:=(hcut p hpm'.1).1 d
              omega
            have v2 : Valid M (cut M.la i j) (j - 1) (cut M.lb k m) (m - 1) (L'.filter fun p => !decide (p.1 < cut M.la i j)):=by
              refine hv'.sub ((List.filter_sublist).trans (List.sublist_cons_self _ _)) ?_
              intro p hpm
              have hpm':=List.mem_filter.1 hpm
              have l:=hlt p hpm'.1
              have d : ¬ p.1 < cut M.la i j:=by
                have:=hpm'.2
                simpa using this
              have c : ¬ p.2 < cut M.lb k m:=fun e => d ((hcut p hpm'.1).2 e)
              omega
            have b1 : i ≤ cut M.la i j ∧ cut M.la i j ≤ j - 1:=by simp only [cut];omega
            have b2 : k ≤ cut M.lb k m ∧ cut M.lb k m ≤ m - 1:=by simp only [cut];omega
            have i1:=ih _ _ _ _ _ (by omega) v1
            have i2:=ih _ _ _ _ _ (by omega) v2
            have t1:=tot_perm M hp
            rw [tot_cons] at t1
            have t2:=tot_filter M (fun p => decide (p.1 < cut M.la i j)) L'
            have s1:=sm_split M.del b1.1 b1.2
            have s2:=sm_split M.ins b2.1 b2.2
            have s3:=sm_last M.del h1
            have s4:=sm_last M.ins h2
            simp only [cost] at i1 i2 ⊢
            simp only [wt] at t1
            omega
          · have hv' : Valid M i j k (m - 1) L:=hv.sub (List.Sublist.refl _) (fun p hp => by
              have r:=hv.inr p hp
              have : p.2 ≠ m - 1:=fun e => hb ⟨p.1,by rw [← e];exact hp⟩
              omega)
            have i1:=ih _ _ _ _ _ (by omega) hv'
            have s4:=sm_last M.ins h2
            simp only [cost] at i1 ⊢
            omega
        · have hv' : Valid M i (j - 1) k m L:=hv.sub (List.Sublist.refl _) (fun p hp => by
            have r:=hv.inr p hp
            have : p.1 ≠ j - 1:=fun e => ha ⟨p.2,by rw [← e];exact hp⟩
            omega)
          have i1:=ih _ _ _ _ _ (by omega) hv'
          have s4:=sm_last M.del h1
          simp only [cost] at i1 ⊢
          omega
      · rw [D_a M h1 h2]
        have hv' : Valid M i (j - 1) k m L:=hv.sub (List.Sublist.refl _) (fun p hp => by
          have r:=hv.inr p hp
          omega)
        have i1:=ih _ _ _ _ _ (by omega) hv'
        have s4:=sm_last M.del h1
        simp only [cost] at i1 ⊢
        omega
    · by_cases h2 : k < m
      · rw [D_b M h1 h2]
        have hv' : Valid M i j k (m - 1) L:=hv.sub (List.Sublist.refl _) (fun p hp => by
          have r:=hv.inr p hp
          omega)
        have i1:=ih _ _ _ _ _ (by omega) hv'
        have s4:=sm_last M.ins h2
        simp only [cost] at i1 ⊢
        omega
      · rw [D_none M h1 h2]
        have : L = []:=by
          cases L with
          | nil => rfl
          | cons p L => have:=hv.inr p List.mem_cons_self;omega
        subst this
        simp only [cost,tot_nil]
        rw [sm_none _ (by omega),sm_none _ (by omega)];omega
theorem D_le (M : Ms) {i j k m : Nat} {L : List (Nat × Nat)} (h : Valid M i j k m L) : D M i j k m ≤ cost M i j k m L:=lower M _ i j k m L (Nat.le_refl _) h
def Lam (l : Nat → Nat) (n : Nat) : Prop:=∀ p x,p < n → l p ≤ x → x ≤ p → l p ≤ l x
theorem D_nonneg (M : Ms) (hd : ∀ x,0 ≤ M.del x) (hi : ∀ x,0 ≤ M.ins x) (hr : ∀ x y,0 ≤ M.rel x y) (N : Nat) : ∀ (i j k m : Nat),(j - i) + (m - k) ≤ N → 0 ≤ D M i j k m:=by
  induction N with
  | zero => intro i j k m hN;rw [D_none M (by omega) (by omega)];omega
  | succ N ih =>
    intro i j k m hN
    have d1:=hd (j - 1)
    have d2:=hi (m - 1)
    have d3:=hr (j - 1) (m - 1)
    by_cases h1 : i < j
    · by_cases h2 : k < m
      · have b1 : i ≤ cut M.la i j ∧ cut M.la i j ≤ j - 1:=by simp only [cut];omega
        have b2 : k ≤ cut M.lb k m ∧ cut M.lb k m ≤ m - 1:=by simp only [cut];omega
        rw [D_ab M h1 h2]
        have e1:=ih i (j - 1) k m (by omega)
        have e2:=ih i j k (m - 1) (by omega)
        have e3:=ih (cut M.la i j) (j - 1) (cut M.lb k m) (m - 1) (by omega)
        have e4:=ih i (cut M.la i j) k (cut M.lb k m) (by omega)
        omega
      · have e1:=ih i (j - 1) k m (by omega)
        rw [D_a M h1 h2];omega
    · by_cases h2 : k < m
      · have e2:=ih i j k (m - 1) (by omega)
        rw [D_b M h1 h2];omega
      · rw [D_none M h1 h2];omega
end Go.Proofs.Ytelglbebffdaaaa.Ted
namespace Go.Proofs.Ytelglbebffdaaaa.Ted
set_option linter.unusedVariables false
set_option linter.unusedSimpArgs false
def TD (M : Ms) (p q : Nat) : Int:=D M (M.la p) (p + 1) (M.lb q) (q + 1)
structure Rep (l : Nat → Nat) (n p i : Nat) : Prop where
  lt : i < n
  same : l i = l p
  last : ∀ r,i < r → r < n → l r ≠ l p
theorem Rep.ge {l : Nat → Nat} {n p i : Nat} (h : Rep l n p i) (hp : p < n) : p ≤ i:=by
  by_cases c : i < p
  · exact absurd rfl (h.last p c hp)
  · omega
theorem Rep.self {l : Nat → Nat} {n p i : Nat} (h : Rep l n p i) : Rep l n i i:=⟨h.lt,rfl,fun r h1 h2 => by rw [h.same];exact h.last r h1 h2⟩
theorem rep_ex (l : Nat → Nat) (n p : Nat) (hp : p < n) : ∃ i,Rep l n p i:=by
  have key : ∀ d r,r + d = n → p < r → (∃ i,Rep l n p i) ∨ ∀ s,r ≤ s → s < n → l s ≠ l p:=by
    intro d
    induction d with
    | zero => intro r h1 h2;exact .inr fun s h3 h4 => by omega
    | succ d ih =>
      intro r h1 h2
      rcases ih (r + 1) (by omega) (by omega) with h | h
      · exact .inl h
      · by_cases c : l r = l p
        · exact .inl ⟨r,by omega,c,fun s h3 h4 => h s h3 h4⟩
        · exact .inr fun s h3 h4 => by
            by_cases e : s = r
            · rw [e];exact c
            · exact h s (by omega) h4
  rcases key (n - (p + 1)) (p + 1) (by omega) (by omega) with h | h
  · exact h
  · exact ⟨p,hp,rfl,fun r h1 h2 => h r h1 h2⟩
def Done (M : Ms) (A B : Nat) (o : Nat → Nat → Int) (I K : Nat) : Prop :=
  ∀ p q i k,p < A → q < B → Rep M.la A p i → Rep M.lb B q k → i < I ∨ i = I ∧ k < K → o p q = TD M p q
theorem Done.start (M : Ms) (A B : Nat) (o : Nat → Nat → Int) : Done M A B o 0 0:=fun p q i k _ _ _ _ h => by omega
theorem Done.next {M : Ms} {A B : Nat} {o o' : Nat → Nat → Int} {I K K' : Nat} (h : Done M A B o I K)
    (hI : Rep M.la A I I) (hK : Rep M.lb B K K) (lI : ∀ p,p < A → M.la p = M.la I → p ≤ I → M.la I ≤ p) (lK : ∀ q,q < B → M.lb q = M.lb K → q ≤ K → M.lb K ≤ q)
    (ho : ∀ p q,p < A → q < B → o' p q = if M.la I ≤ p ∧ p ≤ I ∧ M.lb K ≤ q ∧ q ≤ K ∧ M.la p = M.la I ∧ M.lb q = M.lb K then TD M p q else o p q)
    (hK' : ∀ k,Rep M.lb B k k → k < K' → k ≤ K) : Done M A B o' I K':=by
  intro p q i k hp hq hi hk hlt
  rw [ho p q hp hq]
  by_cases c : M.la I ≤ p ∧ p ≤ I ∧ M.lb K ≤ q ∧ q ≤ K ∧ M.la p = M.la I ∧ M.lb q = M.lb K
  · rw [if_pos c]
  · rw [if_neg c]
    refine h p q i k hp hq hi hk ?_
    rcases hlt with hlt | ⟨rfl,hlt⟩
    · exact .inl hlt
    · by_cases e : k = K
      · subst e
        have e1:=hi.same
        have e2:=hk.same
        exact absurd ⟨lI p hp e1.symm (hi.ge hp),hi.ge hp,lK q hq e2.symm (hk.ge hq),hk.ge hq,e1.symm,e2.symm⟩ c
      · have:=hK' k hk.self hlt
        exact .inr ⟨rfl,by omega⟩
theorem Done.round {M : Ms} {A B : Nat} {o : Nat → Nat → Int} {I I' K : Nat} (h : Done M A B o I K) (hK : ∀ k,Rep M.lb B k k → k < K) (hI' : ∀ i,Rep M.la A i i → i < I' → i ≤ I) : Done M A B o I' 0:=by
  intro p q i k hp hq hi hk hlt
  have h1:=hK k hk.self
  refine h p q i k hp hq hi hk ?_
  rcases hlt with hlt | ⟨_,hlt⟩
  · have:=hI' i hi.self hlt
    omega
  · omega
theorem Done.all {M : Ms} {A B : Nat} {o : Nat → Nat → Int} {I : Nat} (h : Done M A B o I 0) (hI : ∀ i,Rep M.la A i i → i < I) {p q : Nat} (hp : p < A) (hq : q < B) : o p q = TD M p q:=by
  obtain ⟨i,hi⟩:=rep_ex M.la A p hp
  obtain ⟨k,hk⟩:=rep_ex M.lb B q hq
  exact h p q i k hp hq hi hk (.inl (hI i hi.self))
end Go.Proofs.Ytelglbebffdaaaa.Ted
namespace Go.Proofs.Ytelglbebffdaaaa.Ted
set_option linter.unusedVariables false
set_option linter.unusedSimpArgs false
theorem one_of {α : Type} (f : α → Nat) (L : List α) (hn : L.Pairwise fun x y => f x ≠ f y) (i : Nat) : L.filter (fun p => f p == i) = [] ∨ ∃ q,q ∈ L ∧ f q = i ∧ L.filter (fun p => f p == i) = [q]:=by
  induction L with
  | nil => exact .inl rfl
  | cons x L ih =>
    obtain ⟨h1,h2⟩:=List.pairwise_cons.1 hn
    by_cases c : f x = i
    · refine .inr ⟨x,List.mem_cons_self,c,?_⟩
      rw [List.filter_cons_of_pos (by simpa using c)]
      have : L.filter (fun p => f p == i) = []:=by
        rw [List.filter_eq_nil_iff]
        intro y hy
        have:=h1 y hy
        simp only [beq_iff_eq]
        omega
      rw [this]
    · rw [List.filter_cons_of_neg (by simpa using c)]
      rcases ih h2 with h | ⟨q,h3,h4,h5⟩
      · exact .inl h
      · exact .inr ⟨q,List.mem_cons_of_mem _ h3,h4,h5⟩
end Go.Proofs.Ytelglbebffdaaaa.Ted
namespace Go.Proofs.Ytelglbebffdaaaa.Ted
set_option linter.unusedVariables false
set_option linter.unusedSimpArgs false
theorem cut_ge (l : Nat → Nat) (i j : Nat) : i ≤ cut l i j:=by simp only [cut];omega
theorem cut_le (l : Nat → Nat) {i j : Nat} (h : i < j) : cut l i j ≤ j - 1:=by simp only [cut];omega
def way (M : Ms) (i j k m : Nat) : List (Nat × Nat) :=
  if h1 : i < j then
    if h2 : k < m then
      if D M i j k m = D M i (j - 1) k m + M.del (j - 1) then way M i (j - 1) k m
      else if D M i j k m = D M i j k (m - 1) + M.ins (m - 1) then way M i j k (m - 1)
      else way M i (cut M.la i j) k (cut M.lb k m) ++ (j - 1,m - 1) :: way M (cut M.la i j) (j - 1) (cut M.lb k m) (m - 1)
    else []
  else []
  termination_by (j - i) + (m - k)
  decreasing_by all_goals (first | omega | (simp only [cut];omega))
def wayM (M : Ms) (i j k m : Nat) : List (Nat × Nat):=way M i (cut M.la i j) k (cut M.lb k m) ++ (j - 1,m - 1) :: way M (cut M.la i j) (j - 1) (cut M.lb k m) (m - 1)
def wayS (M : Ms) (i j k m : Nat) : List (Nat × Nat) :=
  if h1 : i < j then
    if h2 : k < m then
      if D M i j k m = D M i (j - 1) k m + M.del (j - 1) then wayS M i (j - 1) k m
      else if D M i j k m = D M i j k (m - 1) + M.ins (m - 1) then wayS M i j k (m - 1)
      else wayS M i (cut M.la i j) k (cut M.lb k m) ++ wayS M (cut M.la i j) (j - 1) (cut M.lb k m) (m - 1) ++ [(j - 1,m - 1)]
    else []
  else []
  termination_by (j - i) + (m - k)
  decreasing_by all_goals (first | omega | (simp only [cut];omega))
def wayN (M : Ms) (i j k m : Nat) : List (Nat × Nat):=wayS M i (cut M.la i j) k (cut M.lb k m) ++ wayS M (cut M.la i j) (j - 1) (cut M.lb k m) (m - 1) ++ [(j - 1,m - 1)]
section
variable {M : Ms} {i j k m : Nat}
theorem way_none (h : ¬ (i < j ∧ k < m)) : way M i j k m = []:=by
  rw [way]
  by_cases h1 : i < j
  · rw [dif_pos h1,dif_neg fun h2 => h ⟨h1,h2⟩]
  · rw [dif_neg h1]
theorem way_del (h1 : i < j) (h2 : k < m) (h3 : D M i j k m = D M i (j - 1) k m + M.del (j - 1)) : way M i j k m = way M i (j - 1) k m:=by rw [way,dif_pos h1,dif_pos h2,if_pos h3]
theorem way_ins (h1 : i < j) (h2 : k < m) (h3 : ¬ D M i j k m = D M i (j - 1) k m + M.del (j - 1)) (h4 : D M i j k m = D M i j k (m - 1) + M.ins (m - 1)) : way M i j k m = way M i j k (m - 1):=by rw [way,dif_pos h1,dif_pos h2,if_neg h3,if_pos h4]
theorem way_rel (h1 : i < j) (h2 : k < m) (h3 : ¬ D M i j k m = D M i (j - 1) k m + M.del (j - 1)) (h4 : ¬ D M i j k m = D M i j k (m - 1) + M.ins (m - 1)) : way M i j k m = wayM M i j k m:=by rw [way,dif_pos h1,dif_pos h2,if_neg h3,if_neg h4];rfl
theorem wayS_none (h : ¬ (i < j ∧ k < m)) : wayS M i j k m = []:=by
  rw [wayS]
  by_cases h1 : i < j
  · rw [dif_pos h1,dif_neg fun h2 => h ⟨h1,h2⟩]
  · rw [dif_neg h1]
theorem wayS_del (h1 : i < j) (h2 : k < m) (h3 : D M i j k m = D M i (j - 1) k m + M.del (j - 1)) : wayS M i j k m = wayS M i (j - 1) k m:=by rw [wayS,dif_pos h1,dif_pos h2,if_pos h3]
theorem wayS_ins (h1 : i < j) (h2 : k < m) (h3 : ¬ D M i j k m = D M i (j - 1) k m + M.del (j - 1)) (h4 : D M i j k m = D M i j k (m - 1) + M.ins (m - 1)) : wayS M i j k m = wayS M i j k (m - 1):=by rw [wayS,dif_pos h1,dif_pos h2,if_neg h3,if_pos h4]
theorem wayS_rel (h1 : i < j) (h2 : k < m) (h3 : ¬ D M i j k m = D M i (j - 1) k m + M.del (j - 1)) (h4 : ¬ D M i j k m = D M i j k (m - 1) + M.ins (m - 1)) : wayS M i j k m = wayN M i j k m:=by rw [wayS,dif_pos h1,dif_pos h2,if_neg h3,if_neg h4];rfl
end
theorem way_perm (M : Ms) (N : Nat) : ∀ (i j k m : Nat),(j - i) + (m - k) ≤ N → (wayS M i j k m).Perm (way M i j k m):=by
  induction N with
  | zero => intro i j k m hN;rw [way_none (by omega),wayS_none (by omega)]
  | succ N ih =>
    intro i j k m hN
    by_cases h : i < j ∧ k < m
    · obtain ⟨h1,h2⟩:=h
      by_cases c1 : D M i j k m = D M i (j - 1) k m + M.del (j - 1)
      · rw [way_del h1 h2 c1,wayS_del h1 h2 c1]
        exact ih _ _ _ _ (by omega)
      · by_cases c2 : D M i j k m = D M i j k (m - 1) + M.ins (m - 1)
        · rw [way_ins h1 h2 c1 c2,wayS_ins h1 h2 c1 c2]
          exact ih _ _ _ _ (by omega)
        · have a1:=cut_ge M.la i j
          have a2:=cut_le M.la h1
          have b1:=cut_ge M.lb k m
          have b2:=cut_le M.lb h2
          rw [way_rel h1 h2 c1 c2,wayS_rel h1 h2 c1 c2]
          unfold wayM wayN
          rw [List.append_assoc]
          refine List.Perm.append (ih _ _ _ _ (by omega)) ?_
          refine (List.perm_append_comm).trans ?_
          exact List.Perm.cons _ (ih _ _ _ _ (by omega))
    · rw [way_none h,wayS_none h]
theorem wayN_perm (M : Ms) (i j k m : Nat) : (wayN M i j k m).Perm (wayM M i j k m):=by
  unfold wayM wayN
  rw [List.append_assoc]
  refine List.Perm.append (way_perm M _ _ _ _ _ (Nat.le_refl _)) ?_
  refine (List.perm_append_comm).trans ?_
  exact List.Perm.cons _ (way_perm M _ _ _ _ _ (Nat.le_refl _))
theorem way_len (M : Ms) (N : Nat) : ∀ (i j k m : Nat),(j - i) + (m - k) ≤ N → (way M i j k m).length ≤ j - i:=by
  induction N with
  | zero => intro i j k m hN;rw [way_none (by omega)];exact Nat.zero_le _
  | succ N ih =>
    intro i j k m hN
    by_cases h : i < j ∧ k < m
    · obtain ⟨h1,h2⟩:=h
      by_cases c1 : D M i j k m = D M i (j - 1) k m + M.del (j - 1)
      · have:=ih i (j - 1) k m (by omega)
        rw [way_del h1 h2 c1]
        omega
      · by_cases c2 : D M i j k m = D M i j k (m - 1) + M.ins (m - 1)
        · have:=ih i j k (m - 1) (by omega)
          rw [way_ins h1 h2 c1 c2]
          omega
        · have a1:=cut_ge M.la i j
          have a2:=cut_le M.la h1
          have b1:=cut_ge M.lb k m
          have b2:=cut_le M.lb h2
          have e1:=ih i (cut M.la i j) k (cut M.lb k m) (by omega)
          have e2:=ih (cut M.la i j) (j - 1) (cut M.lb k m) (m - 1) (by omega)
          rw [way_rel h1 h2 c1 c2]
          unfold wayM
          rw [List.length_append,List.length_cons]
          omega
    · rw [way_none h];exact Nat.zero_le _
structure Ord (l : Nat → Nat) (o : Nat → Nat) (n : Nat) : Prop where
  left : ∀ x y,y < n → x < l y → x < y → o x < o y
  under : ∀ x y,y < n → l y ≤ x → x < y → o y < o x
theorem way_asc {M : Ms} {A B : Nat} (hA : Lam M.la A) {o : Nat → Nat} (ho : Ord M.la o A) (N : Nat) : ∀ (i j k m : Nat),(j - i) + (m - k) ≤ N → j ≤ A → (way M i j k m).Pairwise (fun p q => o p.1 < o q.1) ∧ ∀ p ∈ way M i j k m,i ≤ p.1 ∧ p.1 < j ∧ k ≤ p.2 ∧ p.2 < m:=by
  induction N with
  | zero => intro i j k m hN _;rw [way_none (by omega)];exact ⟨List.Pairwise.nil,fun p hp => by simp at hp⟩
  | succ N ih =>
    intro i j k m hN hjA
    by_cases h : i < j ∧ k < m
    · obtain ⟨h1,h2⟩:=h
      by_cases c1 : D M i j k m = D M i (j - 1) k m + M.del (j - 1)
      · obtain ⟨p1,p2⟩:=ih i (j - 1) k m (by omega) (by omega)
        rw [way_del h1 h2 c1]
        exact ⟨p1,fun p hp => by have:=p2 p hp;omega⟩
      · by_cases c2 : D M i j k m = D M i j k (m - 1) + M.ins (m - 1)
        · obtain ⟨p1,p2⟩:=ih i j k (m - 1) (by omega) hjA
          rw [way_ins h1 h2 c1 c2]
          exact ⟨p1,fun p hp => by have:=p2 p hp;omega⟩
        · have a1:=cut_ge M.la i j
          have a2:=cut_le M.la h1
          have b1:=cut_ge M.lb k m
          have b2:=cut_le M.lb h2
          obtain ⟨p1,p2⟩:=ih i (cut M.la i j) k (cut M.lb k m) (by omega) (by omega)
          obtain ⟨q1,q2⟩:=ih (cut M.la i j) (j - 1) (cut M.lb k m) (m - 1) (by omega) (by omega)
          have hcA : i < cut M.la i j → cut M.la i j = min (M.la (j - 1)) (j - 1):=by simp only [cut];omega
          have hcB : min (M.la (j - 1)) (j - 1) ≤ cut M.la i j:=by simp only [cut];omega
          rw [way_rel h1 h2 c1 c2]
          unfold wayM
          refine ⟨List.pairwise_append.2 ⟨p1,List.pairwise_cons.2 ⟨fun q hq => ?_,q1⟩,fun p hp q hq => ?_⟩,fun p hp => ?_⟩
          · have r:=q2 q hq
            exact ho.under q.1 (j - 1) (by omega) (by omega) (by omega)
          · have r:=p2 p hp
            have e:=hcA (by omega)
            rcases List.mem_cons.1 hq with rfl | hq
            · exact ho.left p.1 (j - 1) (by omega) (by omega) (by omega)
            · have s:=q2 q hq
              have:=hA (j - 1) q.1 (by omega) (by omega) (by omega)
              exact ho.left p.1 q.1 (by omega) (by omega) (by omega)
          · rcases List.mem_append.1 hp with hp | hp
            · have:=p2 p hp;omega
            · rcases List.mem_cons.1 hp with rfl | hp
              · simp only;omega
              · have:=q2 p hp;omega
    · rw [way_none h];exact ⟨List.Pairwise.nil,fun p hp => by simp at hp⟩
theorem wayM_asc {M : Ms} {A B : Nat} (hA : Lam M.la A) {o : Nat → Nat} (ho : Ord M.la o A) {i j k m : Nat} (h1 : i < j) (h2 : k < m) (hjA : j ≤ A) : (wayM M i j k m).Pairwise (fun p q => o p.1 < o q.1) ∧ ∀ p ∈ wayM M i j k m,i ≤ p.1 ∧ p.1 < j ∧ k ≤ p.2 ∧ p.2 < m:=by
  have a1:=cut_ge M.la i j
  have a2:=cut_le M.la h1
  have b1:=cut_ge M.lb k m
  have b2:=cut_le M.lb h2
  obtain ⟨p1,p2⟩:=way_asc (B:=B) hA ho _ i (cut M.la i j) k (cut M.lb k m) (Nat.le_refl _) (by omega)
  obtain ⟨q1,q2⟩:=way_asc (B:=B) hA ho _ (cut M.la i j) (j - 1) (cut M.lb k m) (m - 1) (Nat.le_refl _) (by omega)
  have hcA : i < cut M.la i j → cut M.la i j = min (M.la (j - 1)) (j - 1):=by simp only [cut];omega
  have hcB : min (M.la (j - 1)) (j - 1) ≤ cut M.la i j:=by simp only [cut];omega
  unfold wayM
  refine ⟨List.pairwise_append.2 ⟨p1,List.pairwise_cons.2 ⟨fun q hq => ?_,q1⟩,fun p hp q hq => ?_⟩,fun p hp => ?_⟩
  · have r:=q2 q hq
    exact ho.under q.1 (j - 1) (by omega) (by omega) (by omega)
  · have r:=p2 p hp
    have e:=hcA (by omega)
    rcases List.mem_cons.1 hq with rfl | hq
    · exact ho.left p.1 (j - 1) (by omega) (by omega) (by omega)
    · have s:=q2 q hq
      have:=hA (j - 1) q.1 (by omega) (by omega) (by omega)
      exact ho.left p.1 q.1 (by omega) (by omega) (by omega)
  · rcases List.mem_append.1 hp with hp | hp
    · have:=p2 p hp;omega
    · rcases List.mem_cons.1 hp with rfl | hp
      · simp only;omega
      · have:=q2 p hp;omega
end Go.Proofs.Ytelglbebffdaaaa.Ted
