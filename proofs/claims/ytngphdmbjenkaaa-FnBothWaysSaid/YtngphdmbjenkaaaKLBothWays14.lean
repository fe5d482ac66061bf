/- Part 14 of the proof of FnBothWays: what it needs. -/
import Derived.Test.YtngphdmbjenkaaaKLBothWays4
import Derived.Test.YtngphdmbjenkaaaKLBothWays5
import Derived.Test.YtngphdmbjenkaaaKLBothWays6
import Derived.Test.YtngphdmbjenkaaaKLBothWays12
import Derived.Test.YtngphdmbjenkaaaKLBothWays13
namespace Go.Proofs.Ytngphdmbjenkaaa.Q
open Go.RowKit Go.Proofs.YtngphdmbjenkaaaW.PrintWords Go.Proofs.YtngphdmbjenkaaaW.PrintLast Go.Proofs.YtngphdmbjenkaaaW.PrintMore Go.Proofs.Ytngphdmbjenkaaa.X Go.Proofs.Ytngphdmbjenkaaa.Rd Go.Proofs.Ytngphdmbjenkaaa
set_option linter.unusedVariables false
set_option linter.unusedSimpArgs false
theorem rd_map {f : Nat → Int} {n j : Nat} (h : j < n) : rd ((List.range n).map f) (j : Int) = f j := by
  unfold rd
  rw [Int.toNat_natCast,List.getD_eq_getElem?_getD,List.getElem?_map,List.getElem?_range h];rfl
theorem range_up (f : Nat → Int) (r : Nat) : (List.range (r + 1)).map f = (List.range r).map f ++ [f r] := by rw [List.range_succ,List.map_append];rfl
theorem rd_pst {l : List NodeI} (t : Tr l) {r : Nat} (hr : r < l.length) : rd (pst l) (r : Int) = (nodeN l r : Int) := by
  rw [pst_eq_map t];exact rd_map (f := fun r => (nodeN l r : Int)) hr
def rkUp (l : List NodeI) (r : Nat) : List Int := (List.range l.length).map fun j => if rk l j < r then (rk l j : Int) else 0
theorem rkUp_len (l : List NodeI) (r : Nat) : (rkUp l r).length = l.length := by simp [rkUp]
theorem rkUp_set {l : List NodeI} (t : Tr l) {r : Nat} (hr : r < l.length) : (rkUp l r).set (nodeN l r) (r : Int) = rkUp l (r + 1) := by
  apply List.ext_getElem?
  intro j
  by_cases hj : j < l.length
  · rw [List.getElem?_set]
    by_cases e : nodeN l r = j
    · have h1 : rk l j = r := by rw [← e];exact rk_nodeN t hr
      rw [if_pos e,if_pos (by rw [rkUp_len];omega)]
      simp only [rkUp,List.getElem?_map,List.getElem?_range hj,Option.map_some]
      rw [if_pos (by omega),h1]
    · have h1 : rk l j ≠ r := fun z => e (by rw [← z];exact nodeN_rk t hj)
      rw [if_neg e]
      simp only [rkUp,List.getElem?_map,List.getElem?_range hj,Option.map_some]
      by_cases c : rk l j < r
      · rw [if_pos c,if_pos (by omega)]
      · rw [if_neg c,if_neg (by omega)]
  · rw [List.getElem?_eq_none (by rw [List.length_set,rkUp_len];omega),List.getElem?_eq_none (by rw [rkUp_len];omega)]
theorem implRank_l {l : List NodeI} (t : Tr l) (e : Nat) : ∀ r : Nat,r + e = l.length → Ev (fun k => impl_RankOf.l0 k (rkUp l r) (pst l) (l.length : Int) (r : Int)) (rkUp l l.length) := by
  have h24 := t.len24
  induction e with
  | zero =>
    intro r hr
    obtain rfl : r = l.length := by omega
    refine Ev.step (fun _ => rfl) ?_
    simp only [impl_RankOf.l0]
    exact Ev.ifF (by omega) (Ev.now _)
  | succ e ih =>
    intro r hr
    have hl : r < l.length := by omega
    have hn := nodeN_lt t hl
    refine Ev.step (fun _ => rfl) ?_
    simp only [impl_RankOf.l0,rd_pst t hl,Int.toNat_natCast,rkUp_set t hl,wrap_succ hl (by omega)]
    exact Ev.ifT (by omega) (Ev.ifT (by omega) (Ev.ifT (by rw [pst_len t];omega) (Ev.ifT (by omega) (Ev.ifT (by rw [rkUp_len];omega) (ih (r + 1) (by omega))))))
theorem implRankOf_ev {l : List NodeI} (t : Tr l) : Ev (fun k => impl_RankOf.f k l) (rkUp l l.length) := by
  have h24 := t.len24
  unfold impl_RankOf.f
  have hp := impl_PostOrder.ev l
  rw [if_pos (trB_true t)] at hp
  refine Ev.bind hp ?_
  have hl := pst_len t
  have e0 : List.replicate l.length (0 : Int) = rkUp l 0 := by
    apply List.ext_getElem?
    intro j
    by_cases hj : j < l.length
    · rw [List.getElem?_replicate,if_pos hj];simp only [rkUp,List.getElem?_map,List.getElem?_range hj,Option.map_some];rw [if_neg (by omega)]
    · rw [List.getElem?_eq_none (by simp;omega),List.getElem?_eq_none (by rw [rkUp_len];omega)]
  simp only [hl,Int.toNat_natCast,e0]
  exact Ev.ifT (by omega) (Ev.ifT (by omega) (implRank_l t l.length 0 (by omega)))
theorem rd_rk {l : List NodeI} (t : Tr l) {j : Nat} (hj : j < l.length) : rd (rkUp l l.length) (j : Int) = (rk l j : Int) := by
  unfold rkUp
  rw [rd_map (f := fun j => if rk l j < l.length then (rk l j : Int) else 0) hj,if_pos (rk_lt t hj)]
def lfL (l : List NodeI) : List Int := (List.range l.length).map fun r => (lfN l r : Int)
theorem lfL_len (l : List NodeI) : (lfL l).length = l.length := by simp [lfL]
theorem implLeaf_l {l : List NodeI} (t : Tr l) (e : Nat) : ∀ r : Nat,r + e = l.length →
    Ev (fun k => impl_LeftLeaf.l0 k l ((List.range r).map fun r => (lfN l r : Int)) (rkUp l l.length) (pst l) (l.length : Int) (r : Int)) (lfL l) := by
  have h24 := t.len24
  induction e with
  | zero =>
    intro r hr
    obtain rfl : r = l.length := by omega
    refine Ev.step (fun _ => rfl) ?_
    simp only [impl_LeftLeaf.l0]
    exact Ev.ifF (by omega) (Ev.now _)
  | succ e ih =>
    intro r hr
    have hl : r < l.length := by omega
    have hn := nodeN_lt t hl
    have h1 := lfN_eq t hl
    have h2 := rk_eq t hn
    rw [rk_nodeN t hl] at h2
    have h3 := endN_spec l hn
    have hw : wrap64 ((r : Int) - wrap64 (wrap64 ((endN l (nodeN l r) : Int) - (nodeN l r : Int)) - 1)) = (lfN l r : Int) := by
      rw [wrap_id (x := (endN l (nodeN l r) : Int) - (nodeN l r : Int)) (by omega) (by omega),wrap_id (x := (endN l (nodeN l r) : Int) - (nodeN l r : Int) - 1) (by omega) (by omega),wrap_id (by omega) (by omega)]
      omega
    refine Ev.step (fun _ => rfl) ?_
    simp only [impl_LeftLeaf.l0,rd_pst t hl,rd_rk t hn,rk_nodeN t hl,wrap_succ hl (by omega)]
    refine Ev.ifT (by omega) (Ev.ifT (by omega) (Ev.ifT (by rw [pst_len t];omega) (Ev.ifT (by omega) (Ev.ifT (by rw [rkUp_len];omega) (Ev.bind (implEndOf_ev l (by omega) _ hn) (Ev.ifT (by simp;omega) ?_))))))
    rw [hw,← range_up (fun r => (lfN l r : Int))]
    exact ih (r + 1) (by omega)
theorem implLeftLeaf_ev {l : List NodeI} (t : Tr l) : Ev (fun k => impl_LeftLeaf.f k l) (lfL l) := by
  unfold impl_LeftLeaf.f
  have hp := impl_PostOrder.ev l
  rw [if_pos (trB_true t)] at hp
  refine Ev.bind (implRankOf_ev t) (Ev.bind hp ?_)
  rw [pst_len t]
  exact implLeaf_l t l.length 0 (by omega)
theorem rd_lf {l : List NodeI} {r : Nat} (hr : r < l.length) : rd (lfL l) (r : Int) = (lfN l r : Int) := rd_map (f := fun r => (lfN l r : Int)) hr
theorem msOf_small {a b : List NodeI} {d i r : List Int} (h : Co d i r) : Small (msOf a b d i r) where
  del x := by have := price_at h.dp (lab a (nodeN a x)).toNat;simp only [msOf];omega
  ins y := by have := price_at h.ip (lab b (nodeN b y)).toNat;simp only [msOf];omega
  rel x y := by have := price_at h.rp (6 * (lab a (nodeN a x)).toNat + (lab b (nodeN b y)).toNat);simp only [msOf];omega
noncomputable def okAB (a b : List NodeI) (d i r : List Int) : Bool := trB a && trB b && costB d i r
end Go.Proofs.Ytngphdmbjenkaaa.Q
namespace Go.Proofs.Ytngphdmbjenkaaa.Q
open Go.RowKit Go.Proofs.YtngphdmbjenkaaaW.PrintWords Go.Proofs.YtngphdmbjenkaaaW.PrintLast Go.Proofs.YtngphdmbjenkaaaW.PrintMore Go.Proofs.Ytngphdmbjenkaaa.X Go.Proofs.Ytngphdmbjenkaaa.Rd Go.Proofs.Ytngphdmbjenkaaa
set_option linter.unusedVariables false
set_option linter.unusedSimpArgs false
theorem specPost_tr {l : List NodeI} (t : Tr l) : Ev (fun r => spec_PostOrder.f r l) (pst l) := by
  have h24 := t.len24
  have h := specPost_ev l (by omega)
  rw [if_pos (trB_true t)] at h
  exact h
theorem rkUp_zero (l : List NodeI) : List.replicate l.length 0 = rkUp l 0 := by
  apply List.ext_getElem?
  intro j
  by_cases hj : j < l.length
  · simp only [rkUp,List.getElem?_map,List.getElem?_range hj,Option.map_some,List.getElem?_replicate]
    rw [if_pos hj,if_neg (by omega)]
  · rw [List.getElem?_eq_none (by simp;omega),List.getElem?_eq_none (by rw [rkUp_len];omega)]
theorem specRank_l {l : List NodeI} (t : Tr l) (e : Nat) : ∀ r : Nat,r + e = l.length → Ev (fun k => spec_RankOf.l0 k (pst l) (rkUp l r) (r : Int)) (rkUp l l.length) := by
  have h24 := t.len24
  induction e with
  | zero =>
    intro r hr
    obtain rfl : r = l.length := by omega
    refine Ev.step (fun _ => rfl) ?_
    simp only [spec_RankOf.l0]
    exact Ev.ifF (by rw [pst_len t];omega) (Ev.now _)
  | succ e ih =>
    intro r hr
    have hl : r < l.length := by omega
    have hn := nodeN_lt t hl
    refine Ev.step (fun _ => rfl) ?_
    simp only [spec_RankOf.l0,rd_pst t hl,Int.toNat_natCast,rkUp_set t hl,wrap_succ hl (by omega)]
    exact Ev.ifT (by rw [pst_len t];omega) (Ev.ifT (by omega) (Ev.ifT (by omega) (Ev.ifT (by rw [rkUp_len];omega) (ih (r + 1) (by omega)))))
theorem specRankOf_ev {l : List NodeI} (t : Tr l) : Ev (fun k => spec_RankOf.f k l) (rkUp l l.length) := by
  have h24 := t.len24
  unfold spec_RankOf.f
  refine Ev.bind (specPost_tr t) (Ev.ifT (by omega) (Ev.ifT (by rw [pst_len t];omega) ?_))
  rw [Int.toNat_natCast,pst_len t,rkUp_zero]
  exact specRank_l t l.length 0 (Nat.zero_add _)
theorem leaf_rk {l : List NodeI} (t : Tr l) {r x : Nat} (hr : r < l.length) (h1 : nodeN l r ≤ x) (hx : x < l.length) (hd : dep l x = dep l (nodeN l r) + ((x : Int) - nodeN l r)) (he : endN l x = x + 1) : (rk l x : Int) = (lfN l r : Int) := by
  have e1 := rk_eq t hx
  have e2 := lfN_eq t hr
  omega
theorem specLeft_l1 {l : List NodeI} (t : Tr l) {r : Nat} (hr : r < l.length) (acc : List Int) (hacc : acc.length ≤ 24) {R : List Int} (hnext : Ev (fun k => spec_LeftLeaf.l0 k l (acc ++ [(lfN l r : Int)]) (pst l) (rkUp l l.length) ((r + 1 : Nat) : Int)) R) (d : Nat) :
    ∀ x : Nat,nodeN l r ≤ x → x + d + 1 = endN l (nodeN l r) → dep l x = dep l (nodeN l r) + ((x : Int) - nodeN l r) → Ev (fun k => spec_LeftLeaf.l1 k l acc (pst l) (rkUp l l.length) (r : Int) (x : Int)) R := by
  have h24 := t.len24
  have hn := nodeN_lt t hr
  have en := endN_spec l hn
  have stop : ∀ x : Nat,nodeN l r ≤ x → x < l.length → dep l x = dep l (nodeN l r) + ((x : Int) - nodeN l r) → endN l x = x + 1 →
      Ev (fun k => if (x : Int) < ((rkUp l l.length).length : Int) then (if acc.length < 17592186044416 then (spec_LeftLeaf.l0 k l (acc ++ [rd (rkUp l l.length) (x : Int)]) (pst l) (rkUp l l.length) (wrap64 ((r : Int) + 1))) else none) else none) R := by
    intro x h1 hx hd he
    rw [rd_rk t hx,leaf_rk t hr h1 hx hd he,wrap_succ hr (by omega)]
    exact Ev.ifT (by rw [rkUp_len];omega) (Ev.ifT (by omega) hnext)
  induction d with
  | zero =>
    intro x h1 h2 hd
    have hx : x < l.length := by omega
    refine Ev.step (fun _ => rfl) ?_
    simp only [spec_LeftLeaf.l1,rd_pst t hr]
    refine Ev.ifT (by omega) (Ev.ifT (by rw [pst_len t];omega) (Ev.bind (specEndOf_ev l t _ hn) ?_))
    have w : wrap64 ((x : Int) + 1) = (x : Int) + 1 := wrap_id (by omega) (by omega)
    rw [w]
    refine Ev.ifF (by omega) (Ev.ifT (by omega) (stop x h1 hx hd ?_))
    have ex := endN_spec l hx
    by_cases c : x = nodeN l r
    · subst c;omega
    · have := end_nest hn (show nodeN l r < x by omega) (by omega);omega
  | succ d ih =>
    intro x h1 h2 hd
    have hx : x + 1 < l.length := by omega
    refine Ev.step (fun _ => rfl) ?_
    simp only [spec_LeftLeaf.l1,rd_pst t hr]
    have w : wrap64 ((x : Int) + 1) = ((x + 1 : Nat) : Int) := by rw [wrap_id (by omega) (by omega)];omega
    have d1 := dep_nonneg t (show x < l.length by omega)
    have d2 := dep_le t (show x < l.length by omega)
    have w2 : wrap64 (dep l x + 1) = dep l x + 1 := wrap_id (by omega) (by omega)
    rw [w]
    refine Ev.ifT (by omega) (Ev.ifT (by rw [pst_len t];omega) (Ev.bind (specEndOf_ev l t _ hn) (Ev.ifT (by omega) (Ev.ifT (by omega) (Ev.ifT (by omega) (Ev.ifT (by omega) (Ev.ifT (by omega) ?_)))))))
    rw [rd_dep,rd_dep,w2]
    by_cases c : dep l (x + 1) = dep l x + 1
    · refine Ev.ifT c (ih (x + 1) (by omega) (by omega) ?_)
      rw [c,hd];omega
    · refine Ev.ifF c ?_
      have s := dep_slope' t (show x ≤ x + 1 by omega) hx
      exact stop x h1 (by omega) hd (endN_unique l (by omega) (by omega) (by omega) (fun j a b => by omega) (fun _ => by omega))
def labL (l : List NodeI) : List Int := (List.range l.length).map fun r => lab l (nodeN l r)
theorem specLeft_l {l : List NodeI} (t : Tr l) (e : Nat) : ∀ r : Nat,r + e = l.length → Ev (fun k => spec_LeftLeaf.l0 k l ((List.range r).map fun x => (lfN l x : Int)) (pst l) (rkUp l l.length) (r : Int)) (lfL l) := by
  have h24 := t.len24
  induction e with
  | zero =>
    intro r hr
    obtain rfl : r = l.length := by omega
    refine Ev.step (fun _ => rfl) ?_
    simp only [spec_LeftLeaf.l0]
    exact Ev.ifF (by rw [pst_len t];omega) (Ev.now _)
  | succ e ih =>
    intro r hr
    have hl : r < l.length := by omega
    have hn := nodeN_lt t hl
    refine Ev.step (fun _ => rfl) ?_
    simp only [spec_LeftLeaf.l0,rd_pst t hl]
    have h := ih (r + 1) (by omega)
    rw [range_up (fun x => (lfN l x : Int)) r] at h
    refine Ev.ifT (by rw [pst_len t];omega) (Ev.ifT (by omega) ?_)
    have en := endN_spec l hn
    exact specLeft_l1 t hl _ (by simp;omega) h (endN l (nodeN l r) - nodeN l r - 1) (nodeN l r) (Nat.le_refl _) (by omega) (by omega)
theorem specLeftLeaf_ev {l : List NodeI} (t : Tr l) : Ev (fun k => spec_LeftLeaf.f k l) (lfL l) := by
  unfold spec_LeftLeaf.f
  exact Ev.bind (specPost_tr t) (Ev.bind (specRankOf_ev t) (specLeft_l t l.length 0 (Nat.zero_add _)))
theorem specLabels_l {l : List NodeI} (t : Tr l) (e : Nat) : ∀ r : Nat,r + e = l.length → Ev (fun k => spec_l8Labels.l0 k l ((List.range r).map fun x => lab l (nodeN l x)) (pst l) (r : Int)) (labL l) := by
  have h24 := t.len24
  induction e with
  | zero =>
    intro r hr
    obtain rfl : r = l.length := by omega
    refine Ev.step (fun _ => rfl) ?_
    simp only [spec_l8Labels.l0]
    exact Ev.ifF (by rw [pst_len t];omega) (Ev.now _)
  | succ e ih =>
    intro r hr
    have hl : r < l.length := by omega
    have hn := nodeN_lt t hl
    refine Ev.step (fun _ => rfl) ?_
    simp only [spec_l8Labels.l0,rd_pst t hl,rd_lab,wrap_succ hl (by omega)]
    have h := ih (r + 1) (by omega)
    rw [range_up (fun x => lab l (nodeN l x)) r] at h
    exact Ev.ifT (by rw [pst_len t];omega) (Ev.ifT (by omega) (Ev.ifT (by omega) (Ev.ifT (by omega) (Ev.ifT (by simp;omega) h))))
theorem specLabels_ev {l : List NodeI} (t : Tr l) : Ev (fun k => spec_l8Labels.f k l) (labL l) := by
  unfold spec_l8Labels.f
  exact Ev.bind (specPost_tr t) (specLabels_l t l.length 0 (Nat.zero_add _))
end Go.Proofs.Ytngphdmbjenkaaa.Q
namespace Go.Proofs.Ytngphdmbjenkaaa.Q
open Go.RowKit Go.Proofs.YtngphdmbjenkaaaW.PrintWords Go.Proofs.YtngphdmbjenkaaaW.PrintLast Go.Proofs.YtngphdmbjenkaaaW.PrintMore Go.Proofs.Ytngphdmbjenkaaa.X Go.Proofs.Ytngphdmbjenkaaa.Rd Go.Proofs.Ytngphdmbjenkaaa
set_option linter.unusedVariables false
set_option linter.unusedSimpArgs false
def noneF (l : Nat → Nat) (r : Nat) : Nat → Nat → Bool
  | _,0 => true
  | j,d + 1 => decide (l j ≠ l r) && noneF l r (j + 1) d
theorem noneF_iff (l : Nat → Nat) (r : Nat) : ∀ d j,noneF l r j d = true ↔ ∀ x,j ≤ x → x < j + d → l x ≠ l r := by
  intro d
  induction d with
  | zero => intro j;exact ⟨fun _ x h1 h2 => by omega,fun _ => rfl⟩
  | succ d ih =>
    intro j
    unfold noneF
    rw [Bool.and_eq_true,decide_eq_true_iff,ih]
    constructor
    · rintro ⟨h1,h2⟩ x h3 h4
      by_cases e : x = j
      · rw [e];exact h1
      · exact h2 x (by omega) (by omega)
    · intro h
      exact ⟨h j (by omega) (by omega),fun x h3 h4 => h x (by omega) (by omega)⟩
def isK (l : Nat → Nat) (n r : Nat) : Bool := noneF l r (r + 1) (n - (r + 1))
theorem isK_iff {l : Nat → Nat} {n r : Nat} (h : r < n) : isK l n r = true ↔ Ted.Rep l n r r := by
  unfold isK
  rw [noneF_iff]
  constructor
  · intro k
    exact ⟨h,rfl,fun x h1 h2 => k x (by omega) (by omega)⟩
  · intro k x h1 h2
    exact k.last x (by omega) (by omega)
def kR (l : Nat → Nat) (n m : Nat) : List Nat := (List.range m).filter (isK l n)
theorem kR_succ (l : Nat → Nat) (n m : Nat) : kR l n (m + 1) = if isK l n m = true then kR l n m ++ [m] else kR l n m := by
  unfold kR
  rw [List.range_succ,List.filter_append]
  by_cases h : isK l n m = true
  · rw [if_pos h,List.filter_cons_of_pos h];rfl
  · rw [if_neg h,List.filter_cons_of_neg h];simp
theorem kR_len (l : Nat → Nat) (n m : Nat) : (kR l n m).length ≤ m := by
  unfold kR
  refine Nat.le_trans (List.length_filter_le _ _) ?_
  rw [List.length_range];exact Nat.le_refl _
theorem kR_mem {l : Nat → Nat} {n x : Nat} : x ∈ kR l n n ↔ Ted.Rep l n x x := by
  unfold kR
  rw [List.mem_filter,List.mem_range]
  constructor
  · rintro ⟨h1,h2⟩;exact (isK_iff h1).1 h2
  · intro h;exact ⟨h.lt,(isK_iff h.lt).2 h⟩
theorem kR_sorted (l : Nat → Nat) (n m : Nat) : (kR l n m).Pairwise (· < ·) := List.Pairwise.filter _ List.pairwise_lt_range
def natsI (l : List Nat) : List Int := l.map fun x : Nat => (x : Int)
theorem natsI_len (l : List Nat) : (natsI l).length = l.length := by unfold natsI;rw [List.length_map]
theorem natsI_app (l : List Nat) (x : Nat) : natsI (l ++ [x]) = natsI l ++ [(x : Int)] := by unfold natsI;rw [List.map_append];rfl
def krL (l : List NodeI) : List Int := natsI (kR (lfN l) l.length l.length)
theorem specKey_l1 {l : List NodeI} (t : Tr l) {r : Nat} (hr : r < l.length) (acc : List Int) (hacc : acc.length ≤ 24) {R : List Int} (d : Nat) : ∀ (j : Nat) (b : Bool),j + d = l.length → r < j →
    Ev (fun k => spec_KeyRoots.l0 k (if (b && noneF (lfN l) r j d) = true then acc ++ [(r : Int)] else acc) (lfL l) ((r + 1 : Nat) : Int)) R → Ev (fun k => spec_KeyRoots.l1 k acc (lfL l) (r : Int) b (j : Int)) R := by
  have h24 := t.len24
  have hl := lfL_len l
  induction d with
  | zero =>
    intro j b hj hrj h
    refine Ev.step (fun _ => rfl) ?_
    simp only [spec_KeyRoots.l1,wrap_succ hr (by omega)]
    unfold noneF at h
    rw [Bool.and_true] at h
    refine Ev.ifF (by omega) ?_
    cases b with
    | true => exact Ev.ifT rfl (Ev.ifT (by omega) h)
    | false => exact Ev.ifF (by decide) h
  | succ d ih =>
    intro j b hj hrj h
    have hjl : j < l.length := by omega
    refine Ev.step (fun _ => rfl) ?_
    simp only [spec_KeyRoots.l1,wrap_succ hjl (by omega),rd_lf hjl,rd_lf hr]
    refine Ev.ifT (by omega) ?_
    cases b with
    | true =>
      refine Ev.ifT rfl (Ev.ifT (by omega) (Ev.ifT (by omega) (Ev.ifT (by omega) (ih (j + 1) _ (by omega) (by omega) ?_))))
      rw [Bool.true_and] at h
      unfold noneF at h
      have e : ((lfN l j : Int) != (lfN l r : Int)) = decide (lfN l j ≠ lfN l r) := by
        by_cases c : lfN l j = lfN l r
        · rw [c];simp
        · have c' : (lfN l j : Int) ≠ (lfN l r : Int) := by omega
          rw [decide_eq_true c]
          simpa using c'
      rw [e]
      exact h
    | false =>
      refine Ev.ifF (by decide) (ih (j + 1) _ (by omega) (by omega) ?_)
      rw [Bool.false_and] at h ⊢
      exact h
theorem specKey_l {l : List NodeI} (t : Tr l) (e : Nat) : ∀ r : Nat,r + e = l.length → Ev (fun k => spec_KeyRoots.l0 k (natsI (kR (lfN l) l.length r)) (lfL l) (r : Int)) (krL l) := by
  have h24 := t.len24
  have hl := lfL_len l
  induction e with
  | zero =>
    intro r hr
    obtain rfl : r = l.length := by omega
    refine Ev.step (fun _ => rfl) ?_
    simp only [spec_KeyRoots.l0]
    exact Ev.ifF (by omega) (Ev.now _)
  | succ e ih =>
    intro r hr
    have hrl : r < l.length := by omega
    refine Ev.step (fun _ => rfl) ?_
    simp only [spec_KeyRoots.l0,wrap_succ hrl (by omega)]
    refine Ev.ifT (by omega) (specKey_l1 t hrl _ ?_ (l.length - (r + 1)) (r + 1) true (by omega) (by omega) ?_)
    · rw [natsI_len]
      have := kR_len (lfN l) l.length r
      omega
    · have h := ih (r + 1) (by omega)
      rw [kR_succ] at h
      rw [Bool.true_and]
      show Ev (fun k => spec_KeyRoots.l0 k (if isK (lfN l) l.length r = true then _ else _) _ _) _
      by_cases c : isK (lfN l) l.length r = true
      · rw [if_pos c] at h ⊢
        rw [natsI_app] at h
        exact h
      · rw [if_neg c] at h ⊢
        exact h
theorem specKeyRoots_ev {l : List NodeI} (t : Tr l) : Ev (fun k => spec_KeyRoots.f k l) (krL l) := by
  unfold spec_KeyRoots.f
  exact Ev.bind (specLeftLeaf_ev t) (specKey_l t l.length 0 (Nat.zero_add _))
def kAt (l : Nat → Nat) (n x : Nat) : Nat := (kR l n n).getD x n
theorem kAt_rep {l : Nat → Nat} {n x : Nat} (h : x < (kR l n n).length) : Ted.Rep l n (kAt l n x) (kAt l n x) := by
  refine kR_mem.1 ?_
  unfold kAt
  rw [List.getD_eq_getElem?_getD,List.getElem?_eq_getElem h]
  exact List.getElem_mem h
theorem kAt_end {l : Nat → Nat} {n x : Nat} (h : (kR l n n).length ≤ x) : kAt l n x = n := by
  unfold kAt
  rw [List.getD_eq_getElem?_getD,List.getElem?_eq_none h]
  rfl
theorem kAt_next {l : Nat → Nat} {n x i : Nat} (h : x < (kR l n n).length) (hi : Ted.Rep l n i i) (hl : i < kAt l n (x + 1)) : i ≤ kAt l n x := by
  obtain ⟨y,hy,e⟩ := List.getElem_of_mem (kR_mem.2 hi)
  have hs := kR_sorted l n n
  have key : ∀ {a b : Nat} (ha : a < (kR l n n).length) (hb : b < (kR l n n).length),a < b → (kR l n n)[a] < (kR l n n)[b] := fun ha hb hab => List.pairwise_iff_getElem.1 hs _ _ ha hb hab
  have ex : kAt l n x = (kR l n n)[x] := by unfold kAt;rw [List.getD_eq_getElem?_getD,List.getElem?_eq_getElem h];rfl
  by_cases c : y ≤ x
  · rcases Nat.lt_or_eq_of_le c with c | c
    · have := key hy h c
      omega
    · subst c;omega
  · by_cases d : x + 1 < (kR l n n).length
    · have ey : kAt l n (x + 1) = (kR l n n)[x + 1] := by unfold kAt;rw [List.getD_eq_getElem?_getD,List.getElem?_eq_getElem d];rfl
      rcases Nat.lt_or_eq_of_le (show x + 1 ≤ y by omega) with f | f
      · have := key d hy f
        omega
      · subst f;omega
    · omega
theorem kR_pos {l : Nat → Nat} {n : Nat} (hn : 0 < n) : 0 < (kR l n n).length := by
  obtain ⟨i,hi⟩ := Ted.rep_ex l n 0 hn
  exact List.length_pos_of_mem (kR_mem.2 hi.self)
theorem kAt_last {l : Nat → Nat} {n x : Nat} (hn : 0 < n) (hx : x + 1 = (kR l n n).length) : kAt l n x = n - 1 := by
  have h1 := kAt_rep (l := l) (n := n) (x := x) (by omega)
  have h2 : Ted.Rep l n (n - 1) (n - 1) := ⟨by omega,rfl,fun r a b => by omega⟩
  have h3 := kAt_next (x := x) (by omega) h2 (by rw [kAt_end (by omega)];omega)
  have := h1.lt
  omega
end Go.Proofs.Ytngphdmbjenkaaa.Q
namespace Go.Proofs.Ytngphdmbjenkaaa.Q
open Go.RowKit Go.Proofs.YtngphdmbjenkaaaW.PrintWords Go.Proofs.YtngphdmbjenkaaaW.PrintLast Go.Proofs.YtngphdmbjenkaaaW.PrintMore Go.Proofs.Ytngphdmbjenkaaa.X Go.Proofs.Ytngphdmbjenkaaa.Rd Go.Proofs.Ytngphdmbjenkaaa
set_option linter.unusedVariables false
set_option linter.unusedSimpArgs false
theorem lf_mem (l : List NodeI) {r : Nat} (hr : r < l.length) : decide ((lfN l r : Int) ∈ (lfL l).drop (r + 1)) = !isK (lfN l) l.length r := by
  have h : (lfN l r : Int) ∈ (lfL l).drop (r + 1) ↔ ¬ isK (lfN l) l.length r = true := by
    rw [show isK (lfN l) l.length r = noneF (lfN l) r (r + 1) (l.length - (r + 1)) from rfl,noneF_iff]
    constructor
    · intro hm hk
      obtain ⟨j,hj,e⟩ := List.getElem_of_mem hm
      rw [List.length_drop,lfL_len] at hj
      rw [List.getElem_drop] at e
      have e2 : (lfL l)[r + 1 + j]'(by rw [lfL_len];omega) = (lfN l (r + 1 + j) : Int) := by
        unfold lfL
        rw [List.getElem_map,List.getElem_range]
      rw [e2] at e
      exact hk (r + 1 + j) (by omega) (by omega) (by omega)
    · intro hk
      by_cases hm : (lfN l r : Int) ∈ (lfL l).drop (r + 1)
      · exact hm
      · exfalso
        refine hk fun x h1 h2 e => hm ?_
        rw [List.mem_iff_getElem]
        refine ⟨x - (r + 1),by rw [List.length_drop,lfL_len];omega,?_⟩
        rw [List.getElem_drop]
        unfold lfL
        rw [List.getElem_map,List.getElem_range,show r + 1 + (x - (r + 1)) = x by omega,e]
  cases hc : isK (lfN l) l.length r with
  | true => exact decide_eq_false (fun hm => h.1 hm hc)
  | false => exact decide_eq_true (h.2 (by rw [hc];simp))
theorem implKey_l {l : List NodeI} (t : Tr l) (e : Nat) : ∀ r : Nat,r + e = l.length → Ev (fun k => impl_KeyRoots.l0 k (natsI (kR (lfN l) l.length r)) (lfL l) (lfL l) (l.length : Int) (r : Int)) (krL l) := by
  have h24 := t.len24
  have hl := lfL_len l
  induction e with
  | zero =>
    intro r hr
    obtain rfl : r = l.length := by omega
    refine Ev.step (fun _ => rfl) ?_
    simp only [impl_KeyRoots.l0]
    exact Ev.ifF (by omega) (Ev.now _)
  | succ e ih =>
    intro r hr
    have hrl : r < l.length := by omega
    refine Ev.step (fun _ => rfl) ?_
    simp only [impl_KeyRoots.l0,wrap_succ hrl (by omega),rd_lf hrl,Int.toNat_natCast]
    have hc := implContains_ev ((lfL l).drop (r + 1)) (by rw [List.length_drop];omega) (lfN l r : Int)
    rw [lf_mem l hrl] at hc
    have h := ih (r + 1) (by omega)
    rw [kR_succ] at h
    refine Ev.ifT (by omega) (Ev.ifT (by omega) (Ev.ifT (by omega) (Ev.ifT (by omega) (Ev.ifT (by omega) (Ev.bind hc ?_)))))
    by_cases c : isK (lfN l) l.length r = true
    · rw [if_pos c,natsI_app] at h
      exact Ev.ifF (by simp [c]) (Ev.ifT (by rw [natsI_len];have := kR_len (lfN l) l.length r;omega) h)
    · rw [if_neg c] at h
      exact Ev.ifT (by simpa using c) h
theorem implKeyRoots_ev {l : List NodeI} (t : Tr l) : Ev (fun k => impl_KeyRoots.f k l) (krL l) := by
  unfold impl_KeyRoots.f
  refine Ev.bind (implLeftLeaf_ev t) ?_
  rw [lfL_len]
  exact implKey_l t l.length 0 (Nat.zero_add _)
end Go.Proofs.Ytngphdmbjenkaaa.Q
