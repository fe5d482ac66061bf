/- Part 11 of the proof of FnExactBestMap: what it needs. -/
import Derived.Test.YtelglbebffdaaaaKEBestMap5
import Derived.Test.YtelglbebffdaaaaKEBestMap6
import Derived.Test.YtelglbebffdaaaaKEBestMap7
import Derived.Test.YtelglbebffdaaaaKEBestMap10
namespace Go.Proofs.Ytelglbebffdaaaa.Q
open Go.RowKit Go.Proofs.YtelglbebffdaaaaW.PrintWords Go.Proofs.YtelglbebffdaaaaW.PrintLast Go.Proofs.YtelglbebffdaaaaW.PrintMore Go.Proofs.Ytelglbebffdaaaa.X Go.Proofs.Ytelglbebffdaaaa.Rd Go.Proofs.Ytelglbebffdaaaa
set_option linter.unusedVariables false
set_option linter.unusedSimpArgs false
theorem rd_map {f : Nat → Int} {n j : Nat} (h : j < n) : rd ((List.range n).map f) (j : Int) = f j:=by
  unfold rd
  rw [Int.toNat_natCast,List.getD_eq_getElem?_getD,List.getElem?_map,List.getElem?_range h];rfl
theorem range_up (f : Nat → Int) (r : Nat) : (List.range (r + 1)).map f = (List.range r).map f ++ [f r]:=by rw [List.range_succ,List.map_append];rfl
theorem rd_pst {l : List NodeI} (t : Tr l) {r : Nat} (hr : r < l.length) : rd (pst l) (r : Int) = (nodeN l r : Int):=by
  rw [pst_eq_map t];exact rd_map (f:=fun r => (nodeN l r : Int)) hr
def rkUp (l : List NodeI) (r : Nat) : List Int:=(List.range l.length).map fun j => if rk l j < r then (rk l j : Int) else 0
theorem rkUp_len (l : List NodeI) (r : Nat) : (rkUp l r).length = l.length:=by simp [rkUp]
theorem rkUp_set {l : List NodeI} (t : Tr l) {r : Nat} (hr : r < l.length) : (rkUp l r).set (nodeN l r) (r : Int) = rkUp l (r + 1):=by
  apply List.ext_getElem?
  intro j
  by_cases hj : j < l.length
  · rw [List.getElem?_set]
    by_cases e : nodeN l r = j
    · have h1 : rk l j = r:=by rw [← e];exact rk_nodeN t hr
      rw [if_pos e,if_pos (by rw [rkUp_len];omega)]
      simp only [rkUp,List.getElem?_map,List.getElem?_range hj,Option.map_some]
      rw [if_pos (by omega),h1]
    · have h1 : rk l j ≠ r:=fun z => e (by rw [← z];exact nodeN_rk t hj)
      rw [if_neg e]
      simp only [rkUp,List.getElem?_map,List.getElem?_range hj,Option.map_some]
      by_cases c : rk l j < r
      · rw [if_pos c,if_pos (by omega)]
      · rw [if_neg c,if_neg (by omega)]
  · rw [List.getElem?_eq_none (by rw [List.length_set,rkUp_len];omega),List.getElem?_eq_none (by rw [rkUp_len];omega)]
theorem implRank_l {l : List NodeI} (t : Tr l) (e : Nat) : ∀ r : Nat,r + e = l.length → Ev (fun k => impl_RankOf.l0 k (rkUp l r) (pst l) (l.length : Int) (r : Int)) (rkUp l l.length):=by
  have h24:=t.len24
  induction e with
  | zero =>
    intro r hr
    obtain rfl : r = l.length:=by omega
    refine Ev.step (fun _ => rfl) ?_
    simp only [impl_RankOf.l0]
    exact Ev.ifF (by omega) (Ev.now _)
  | succ e ih =>
    intro r hr
    have hl : r < l.length:=by omega
    have hn:=nodeN_lt t hl
    refine Ev.step (fun _ => rfl) ?_
    simp only [impl_RankOf.l0,rd_pst t hl,Int.toNat_natCast,rkUp_set t hl,wrap_succ hl (by omega)]
    exact Ev.ifT (by omega) (Ev.ifT (by omega) (Ev.ifT (by rw [pst_len t];omega) (Ev.ifT (by omega) (Ev.ifT (by rw [rkUp_len];omega) (ih (r + 1) (by omega))))))
theorem implRankOf_ev {l : List NodeI} (t : Tr l) : Ev (fun k => impl_RankOf.f k l) (rkUp l l.length):=by
  have h24:=t.len24
  unfold impl_RankOf.f
  have hp:=impl_PostOrder.ev l
  rw [if_pos (trB_true t)] at hp
  refine Ev.bind hp ?_
  have hl:=pst_len t
  have e0 : List.replicate l.length (0 : Int) = rkUp l 0:=by
    apply List.ext_getElem?
    intro j
    by_cases hj : j < l.length
    · rw [List.getElem?_replicate,if_pos hj];simp only [rkUp,List.getElem?_map,List.getElem?_range hj,Option.map_some];rw [if_neg (by omega)]
    · rw [List.getElem?_eq_none (by simp;omega),List.getElem?_eq_none (by rw [rkUp_len];omega)]
  simp only [hl,Int.toNat_natCast,e0]
  exact Ev.ifT (by omega) (Ev.ifT (by omega) (implRank_l t l.length 0 (by omega)))
theorem rd_rk {l : List NodeI} (t : Tr l) {j : Nat} (hj : j < l.length) : rd (rkUp l l.length) (j : Int) = (rk l j : Int):=by
  unfold rkUp
  rw [rd_map (f:=fun j => if rk l j < l.length then (rk l j : Int) else 0) hj,if_pos (rk_lt t hj)]
def lfL (l : List NodeI) : List Int:=(List.range l.length).map fun r => (lfN l r : Int)
theorem implLeaf_l {l : List NodeI} (t : Tr l) (e : Nat) : ∀ r : Nat,r + e = l.length →
    Ev (fun k => impl_LeftLeaf.l0 k l ((List.range r).map fun r => (lfN l r : Int)) (rkUp l l.length) (pst l) (l.length : Int) (r : Int)) (lfL l):=by
  have h24:=t.len24
  induction e with
  | zero =>
    intro r hr
    obtain rfl : r = l.length:=by omega
    refine Ev.step (fun _ => rfl) ?_
    simp only [impl_LeftLeaf.l0]
    exact Ev.ifF (by omega) (Ev.now _)
  | succ e ih =>
    intro r hr
    have hl : r < l.length:=by omega
    have hn:=nodeN_lt t hl
    have h1:=lfN_eq t hl
    have h2:=rk_eq t hn
    rw [rk_nodeN t hl] at h2
    have h3:=endN_spec l hn
    have hw : wrap64 ((r : Int) - wrap64 (wrap64 ((endN l (nodeN l r) : Int) - (nodeN l r : Int)) - 1)) = (lfN l r : Int):=by
      rw [wrap_id (x:=(endN l (nodeN l r) : Int) - (nodeN l r : Int)) (by omega) (by omega),wrap_id (x:=(endN l (nodeN l r) : Int) - (nodeN l r : Int) - 1) (by omega) (by omega),wrap_id (by omega) (by omega)]
      omega
    refine Ev.step (fun _ => rfl) ?_
    simp only [impl_LeftLeaf.l0,rd_pst t hl,rd_rk t hn,rk_nodeN t hl,wrap_succ hl (by omega)]
    refine Ev.ifT (by omega) (Ev.ifT (by omega) (Ev.ifT (by rw [pst_len t];omega) (Ev.ifT (by omega) (Ev.ifT (by rw [rkUp_len];omega) (Ev.bind (implEndOf_ev l (by omega) _ hn) (Ev.ifT (by simp;omega) ?_))))))
    rw [hw,← range_up (fun r => (lfN l r : Int))]
    exact ih (r + 1) (by omega)
theorem implLeftLeaf_ev {l : List NodeI} (t : Tr l) : Ev (fun k => impl_LeftLeaf.f k l) (lfL l):=by
  unfold impl_LeftLeaf.f
  have hp:=impl_PostOrder.ev l
  rw [if_pos (trB_true t)] at hp
  refine Ev.bind (implRankOf_ev t) (Ev.bind hp ?_)
  rw [pst_len t]
  exact implLeaf_l t l.length 0 (by omega)
theorem msOf_small {a b : List NodeI} {d i r : List Int} (h : Co d i r) : Small (msOf a b d i r) where
  del x:=by have:=price_at h.dp (lab a (nodeN a x)).toNat;simp only [msOf];omega
  ins y:=by have:=price_at h.ip (lab b (nodeN b y)).toNat;simp only [msOf];omega
  rel x y:=by have:=price_at h.rp (6 * (lab a (nodeN a x)).toNat + (lab b (nodeN b y)).toNat);simp only [msOf];omega
noncomputable def okAB (a b : List NodeI) (d i r : List Int) : Bool:=trB a && trB b && costB d i r
end Go.Proofs.Ytelglbebffdaaaa.Q
namespace Go.Proofs.Ytelglbebffdaaaa.Q
open Go.RowKit Go.Proofs.YtelglbebffdaaaaW.PrintWords Go.Proofs.YtelglbebffdaaaaW.PrintLast Go.Proofs.YtelglbebffdaaaaW.PrintMore Go.Proofs.Ytelglbebffdaaaa.X Go.Proofs.Ytelglbebffdaaaa.Rd Go.Proofs.Ytelglbebffdaaaa
set_option linter.unusedVariables false
set_option linter.unusedSimpArgs false
theorem specPost_tr {l : List NodeI} (t : Tr l) : Ev (fun r => spec_PostOrder.f r l) (pst l):=by
  have h24:=t.len24
  have h:=specPost_ev l (by omega)
  rw [if_pos (trB_true t)] at h
  exact h
theorem rkUp_zero (l : List NodeI) : List.replicate l.length 0 = rkUp l 0:=by
  apply List.ext_getElem?
  intro j
  by_cases hj : j < l.length
  · simp only [rkUp,List.getElem?_map,List.getElem?_range hj,Option.map_some,List.getElem?_replicate]
    rw [if_pos hj,if_neg (by omega)]
  · rw [List.getElem?_eq_none (by simp;omega),List.getElem?_eq_none (by rw [rkUp_len];omega)]
theorem specRank_l {l : List NodeI} (t : Tr l) (e : Nat) : ∀ r : Nat,r + e = l.length → Ev (fun k => spec_RankOf.l0 k (pst l) (rkUp l r) (r : Int)) (rkUp l l.length):=by
  have h24:=t.len24
  induction e with
  | zero =>
    intro r hr
    obtain rfl : r = l.length:=by omega
    refine Ev.step (fun _ => rfl) ?_
    simp only [spec_RankOf.l0]
    exact Ev.ifF (by rw [pst_len t];omega) (Ev.now _)
  | succ e ih =>
    intro r hr
    have hl : r < l.length:=by omega
    have hn:=nodeN_lt t hl
    refine Ev.step (fun _ => rfl) ?_
    simp only [spec_RankOf.l0,rd_pst t hl,Int.toNat_natCast,rkUp_set t hl,wrap_succ hl (by omega)]
    exact Ev.ifT (by rw [pst_len t];omega) (Ev.ifT (by omega) (Ev.ifT (by omega) (Ev.ifT (by rw [rkUp_len];omega) (ih (r + 1) (by omega)))))
theorem specRankOf_ev {l : List NodeI} (t : Tr l) : Ev (fun k => spec_RankOf.f k l) (rkUp l l.length):=by
  have h24:=t.len24
  unfold spec_RankOf.f
  refine Ev.bind (specPost_tr t) (Ev.ifT (by omega) (Ev.ifT (by rw [pst_len t];omega) ?_))
  rw [Int.toNat_natCast,pst_len t,rkUp_zero]
  exact specRank_l t l.length 0 (Nat.zero_add _)
theorem leaf_rk {l : List NodeI} (t : Tr l) {r x : Nat} (hr : r < l.length) (h1 : nodeN l r ≤ x) (hx : x < l.length) (hd : dep l x = dep l (nodeN l r) + ((x : Int) - nodeN l r)) (he : endN l x = x + 1) : (rk l x : Int) = (lfN l r : Int):=by
  have e1:=rk_eq t hx
  have e2:=lfN_eq t hr
  omega
theorem specLeft_l1 {l : List NodeI} (t : Tr l) {r : Nat} (hr : r < l.length) (acc : List Int) (hacc : acc.length ≤ 24) {R : List Int} (hnext : Ev (fun k => spec_LeftLeaf.l0 k l (acc ++ [(lfN l r : Int)]) (pst l) (rkUp l l.length) ((r + 1 : Nat) : Int)) R) (d : Nat) :
    ∀ x : Nat,nodeN l r ≤ x → x + d + 1 = endN l (nodeN l r) → dep l x = dep l (nodeN l r) + ((x : Int) - nodeN l r) → Ev (fun k => spec_LeftLeaf.l1 k l acc (pst l) (rkUp l l.length) (r : Int) (x : Int)) R:=by
  have h24:=t.len24
  have hn:=nodeN_lt t hr
  have en:=endN_spec l hn
  have stop : ∀ x : Nat,nodeN l r ≤ x → x < l.length → dep l x = dep l (nodeN l r) + ((x : Int) - nodeN l r) → endN l x = x + 1 →
      Ev (fun k => if (x : Int) < ((rkUp l l.length).length : Int) then (if acc.length < 17592186044416 then (spec_LeftLeaf.l0 k l (acc ++ [rd (rkUp l l.length) (x : Int)]) (pst l) (rkUp l l.length) (wrap64 ((r : Int) + 1))) else none) else none) R:=by
    intro x h1 hx hd he
    rw [rd_rk t hx,leaf_rk t hr h1 hx hd he,wrap_succ hr (by omega)]
    exact Ev.ifT (by rw [rkUp_len];omega) (Ev.ifT (by omega) hnext)
  induction d with
  | zero =>
    intro x h1 h2 hd
    have hx : x < l.length:=by omega
    refine Ev.step (fun _ => rfl) ?_
    simp only [spec_LeftLeaf.l1,rd_pst t hr]
    refine Ev.ifT (by omega) (Ev.ifT (by rw [pst_len t];omega) (Ev.bind (specEndOf_ev l t _ hn) ?_))
    have w : wrap64 ((x : Int) + 1) = (x : Int) + 1:=wrap_id (by omega) (by omega)
    rw [w]
    refine Ev.ifF (by omega) (Ev.ifT (by omega) (stop x h1 hx hd ?_))
    have ex:=endN_spec l hx
    by_cases c : x = nodeN l r
    · subst c;omega
    · have:=end_nest hn (show nodeN l r < x by omega) (by omega);omega
  | succ d ih =>
    intro x h1 h2 hd
    have hx : x + 1 < l.length:=by omega
    refine Ev.step (fun _ => rfl) ?_
    simp only [spec_LeftLeaf.l1,rd_pst t hr]
    have w : wrap64 ((x : Int) + 1) = ((x + 1 : Nat) : Int):=by rw [wrap_id (by omega) (by omega)];omega
    have d1:=dep_nonneg t (show x < l.length by omega)
    have d2:=dep_le t (show x < l.length by omega)
    have w2 : wrap64 (dep l x + 1) = dep l x + 1:=wrap_id (by omega) (by omega)
    rw [w]
    refine Ev.ifT (by omega) (Ev.ifT (by rw [pst_len t];omega) (Ev.bind (specEndOf_ev l t _ hn) (Ev.ifT (by omega) (Ev.ifT (by omega) (Ev.ifT (by omega) (Ev.ifT (by omega) (Ev.ifT (by omega) ?_)))))))
    rw [rd_dep,rd_dep,w2]
    by_cases c : dep l (x + 1) = dep l x + 1
    · refine Ev.ifT c (ih (x + 1) (by omega) (by omega) ?_)
      rw [c,hd];omega
    · refine Ev.ifF c ?_
      have s:=dep_slope' t (show x ≤ x + 1 by omega) hx
      exact stop x h1 (by omega) hd (endN_unique l (by omega) (by omega) (by omega) (fun j a b => by omega) (fun _ => by omega))
def labL (l : List NodeI) : List Int:=(List.range l.length).map fun r => lab l (nodeN l r)
theorem specLeft_l {l : List NodeI} (t : Tr l) (e : Nat) : ∀ r : Nat,r + e = l.length → Ev (fun k => spec_LeftLeaf.l0 k l ((List.range r).map fun x => (lfN l x : Int)) (pst l) (rkUp l l.length) (r : Int)) (lfL l):=by
  have h24:=t.len24
  induction e with
  | zero =>
    intro r hr
    obtain rfl : r = l.length:=by omega
    refine Ev.step (fun _ => rfl) ?_
    simp only [spec_LeftLeaf.l0]
    exact Ev.ifF (by rw [pst_len t];omega) (Ev.now _)
  | succ e ih =>
    intro r hr
    have hl : r < l.length:=by omega
    have hn:=nodeN_lt t hl
    refine Ev.step (fun _ => rfl) ?_
    simp only [spec_LeftLeaf.l0,rd_pst t hl]
    have h:=ih (r + 1) (by omega)
    rw [range_up (fun x => (lfN l x : Int)) r] at h
    refine Ev.ifT (by rw [pst_len t];omega) (Ev.ifT (by omega) ?_)
    have en:=endN_spec l hn
    exact specLeft_l1 t hl _ (by simp;omega) h (endN l (nodeN l r) - nodeN l r - 1) (nodeN l r) (Nat.le_refl _) (by omega) (by omega)
theorem specLeftLeaf_ev {l : List NodeI} (t : Tr l) : Ev (fun k => spec_LeftLeaf.f k l) (lfL l):=by
  unfold spec_LeftLeaf.f
  exact Ev.bind (specPost_tr t) (Ev.bind (specRankOf_ev t) (specLeft_l t l.length 0 (Nat.zero_add _)))
theorem specLabels_l {l : List NodeI} (t : Tr l) (e : Nat) : ∀ r : Nat,r + e = l.length → Ev (fun k => spec_l8Labels.l0 k l ((List.range r).map fun x => lab l (nodeN l x)) (pst l) (r : Int)) (labL l):=by
  have h24:=t.len24
  induction e with
  | zero =>
    intro r hr
    obtain rfl : r = l.length:=by omega
    refine Ev.step (fun _ => rfl) ?_
    simp only [spec_l8Labels.l0]
    exact Ev.ifF (by rw [pst_len t];omega) (Ev.now _)
  | succ e ih =>
    intro r hr
    have hl : r < l.length:=by omega
    have hn:=nodeN_lt t hl
    refine Ev.step (fun _ => rfl) ?_
    simp only [spec_l8Labels.l0,rd_pst t hl,rd_lab,wrap_succ hl (by omega)]
    have h:=ih (r + 1) (by omega)
    rw [range_up (fun x => lab l (nodeN l x)) r] at h
    exact Ev.ifT (by rw [pst_len t];omega) (Ev.ifT (by omega) (Ev.ifT (by omega) (Ev.ifT (by omega) (Ev.ifT (by simp;omega) h))))
theorem specLabels_ev {l : List NodeI} (t : Tr l) : Ev (fun k => spec_l8Labels.f k l) (labL l):=by
  unfold spec_l8Labels.f
  exact Ev.bind (specPost_tr t) (specLabels_l t l.length 0 (Nat.zero_add _))
end Go.Proofs.Ytelglbebffdaaaa.Q
