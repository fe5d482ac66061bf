/- Part 13 of the proof of FnScaled: what it needs. -/
import Derived.Test.YtngphdmbjenkaaaKLScaled3
import Derived.Test.YtngphdmbjenkaaaKLScaled6
import Derived.Test.YtngphdmbjenkaaaKLScaled12
namespace Go.Proofs.Ytngphdmbjenkaaa.X
open Go.RowKit Go.Proofs.YtngphdmbjenkaaaW.PrintWords Go.Proofs.YtngphdmbjenkaaaW.PrintLast Go.Proofs.YtngphdmbjenkaaaW.PrintMore Go.Proofs.Ytngphdmbjenkaaa.Q
set_option linter.unusedVariables false
set_option linter.unusedSimpArgs false
theorem ev_uniq {α : Type} {g : Nat → Option α} {a b : α} (h : Ev g a) (k : Ev g b) : a = b := by
 obtain ⟨K, hK⟩ := h
 obtain ⟨J, hJ⟩ := k
 have e1 := hK (max K J) (Nat.le_max_left _ _)
 have e2 := hJ (max K J) (Nat.le_max_right _ _)
 rw [e1] at e2
 exact Option.some.inj e2
theorem treeOk_told {k : Nat} {l : List NodeI} {b : Bool} (h : impl_TreeOk.f k l = some b) : b = trB l := ev_uniq (Ev.of (impl_TreeOk.mono l) h) (implTreeOk_ev l)
def impl_PostOrder.f (k : Nat) (l0 : List NodeI) : Option (List Int) := (impl_TreeOk.f k l0).bind fun t => if t = true then some (pst l0) else some []
theorem impl_PostOrder.mono : ∀ l0 k, LeO (impl_PostOrder.f k l0) (impl_PostOrder.f (k + 1) l0) := by
 intro l0 k
 unfold impl_PostOrder.f
 exact LeO.bind (impl_TreeOk.mono _ _) (fun _ => LeO.refl _)
theorem impl_PostOrder.ev (l : List NodeI) : Ev (fun k => impl_PostOrder.f k l) (if trB l = true then pst l else []) := by
 unfold impl_PostOrder.f
 refine Ev.bind (implTreeOk_ev l) ?_
 by_cases h : trB l = true
 ·simp only [if_pos h]; exact Ev.now _
 ·simp only [if_neg h]; exact Ev.now _
def cfN (l : List NodeI) (i j : Nat) : Int := if rk l j < rk l i then 1 else if rk l i < rk l j then -1 else 0
theorem cfN_down {l : List NodeI} (t : Tr l) {i j : Nat} (hi : i < l.length) (h1 : i < j) (h2 : j < endN l i) : cfN l i j = 1 := by
 have := rk_under t hi h1 h2
 unfold cfN; rw [if_pos this]
theorem cfN_ahead {l : List NodeI} (t : Tr l) {i j : Nat} (hi : i < l.length) (hj : j < l.length) (h2 : endN l i ≤ j) : cfN l i j = -1 := by
 have := rk_ahead t hj hi h2
 unfold cfN; rw [if_neg (by omega), if_pos this]
theorem cfN_up {l : List NodeI} (t : Tr l) {i j : Nat} (hj : j < l.length) (h1 : j < i) (h2 : i < endN l j) : cfN l i j = -1 := by
 have := rk_under t hj h1 h2
 unfold cfN; rw [if_neg (by omega), if_pos this]
theorem cfN_behind {l : List NodeI} (t : Tr l) {i j : Nat} (hi : i < l.length) (hj : j < l.length) (h2 : endN l j ≤ i) : cfN l i j = 1 := by
 have := rk_ahead t hi hj h2
 unfold cfN; rw [if_pos this]
theorem cfN_same (l : List NodeI) (i : Nat) : cfN l i i = 0 := by
 unfold cfN; rw [if_neg (Nat.lt_irrefl _), if_neg (Nat.lt_irrefl _)]
set_option maxHeartbeats 4000000 in
set_option maxRecDepth 100000 in
theorem closure_calls {l : List NodeI} (t : Tr l) {A0 : Option Addr} {c0 b : Nat} {i j : Nat} (hi : i < l.length) (hj : j < l.length) (W : World) (hcell : W.cell? ⟨b, 0, none⟩ = some (.slice A0 l.length c0)) (hC : Kd.C k77 W A0 l.length l) (hc : l.length ≤ c0) :
  Calls Try.prog 151 #[.int .i64 i, .int .i64 j, .pointer (some ⟨b, 0, none⟩)] W fun e w' => e = .returned (.int .i64 (cfN l i j)) ∧ ∃ q, w' = W.drewN q := by
 have h24 := t.len24
 have HE : Aside0 (∀ x : Nat, x < l.length → Calls Try.prog 85 #[.slice A0 l.length c0, .int .i64 x] W fun e w' => e = .returned (.int .i64 (endN l x : Nat)) ∧ Drawn0 W w') := ⟨fun x hx => by
  obtain ⟨k, hk⟩ := Ev.rounds (implEndOf_ev l (by omega) x hx)
  exact impl_endOf.calls k A0 c0 l x _ W hC hc hk⟩
 clear hC
 rcases Nat.lt_trichotomy i j with c | c | c
 ·have z1 : (i : Int) < (j : Int) := by omega
  have z2 : ¬ (j : Int) < (i : Int) := by omega
  by_cases d : j < endN l i
  ·have z3 : (j : Int) < (endN l i : Int) := by omega
   have HR := Aside0.mk (cfN_down t hi c d)
   rw [HR.out]
   go_enter Try.func151, Try.ntmps151
   go_wp2_with (first | (go_at_call 85; refine (HE.out _ hi).mono ?_; rintro e w4 ⟨rfl, hd⟩; obtain ⟨⟨nd, rfl⟩⟩ := hd))
   go_ret
   exact ⟨rfl, _, rfl⟩
  ·have z3 : ¬ (j : Int) < (endN l i : Int) := by omega
   have HR := Aside0.mk (cfN_ahead t hi hj (by omega))
   rw [HR.out]
   have z4 : ¬ (i : Int) = (j : Int) := by omega
   go_enter Try.func151, Try.ntmps151
   go_wp2_with (first | (go_at_call 85; refine (HE.out _ hi).mono ?_; rintro e w4 ⟨rfl, hd⟩; obtain ⟨⟨nd, rfl⟩⟩ := hd))
   go_ret
   exact ⟨rfl, _, rfl⟩
 ·subst c
  rw [cfN_same]
  go_enter Try.func151, Try.ntmps151
  go_wp2
  go_ret
  exact ⟨rfl, 0, rfl⟩
 ·have z1 : ¬ (i : Int) < (j : Int) := by omega
  have z2 : (j : Int) < (i : Int) := by omega
  by_cases d : i < endN l j
  ·have z3 : ¬ (endN l j : Int) ≤ (i : Int) := by omega
   have z4 : ¬ (i : Int) = (j : Int) := by omega
   have HR := Aside0.mk (cfN_up t hj c d)
   rw [HR.out]
   go_enter Try.func151, Try.ntmps151
   go_wp2_with (first | (go_at_call 85; refine (HE.out _ hj).mono ?_; rintro e w4 ⟨rfl, hd⟩; obtain ⟨⟨nd, rfl⟩⟩ := hd))
   go_ret
   exact ⟨rfl, _, rfl⟩
  ·have z3 : (endN l j : Int) ≤ (i : Int) := by omega
   have HR := Aside0.mk (cfN_behind t hi hj (by omega))
   rw [HR.out]
   go_enter Try.func151, Try.ntmps151
   go_wp2_with (first | (go_at_call 85; refine (HE.out _ hj).mono ?_; rintro e w4 ⟨rfl, hd⟩; obtain ⟨⟨nd, rfl⟩⟩ := hd))
   go_ret
   exact ⟨rfl, _, rfl⟩
theorem sortWorld_block {α : Type} [Inhabited α] (enc : α → Value) (w : World) (blk m : Nat) (d : Array α) (os : Array Obj) {i : Nat} (hi : i < w.heap.size) (hne : i ≠ blk) : (sortWorld enc w blk 0 m d os).heap[i]? = w.heap[i]? := by
 unfold sortWorld
 rw [Sort.heap_grow_old _ _ (by simp; exact hi)]
 simp only [Sort.putRow, Sort.mapBlock, Sort.ahead, Array.getElem?_modify]
 rw [if_neg (fun h => hne h.symm)]
theorem sortWorld_row {α : Type} [Inhabited α] (enc : α → Value) (w : World) (blk m : Nat) (d : Array α) (os : Array Obj) {cur : Array Value} {t : TypeId} (hb : w.heap[blk]? = some (.cells cur t (0, 0))) : (sortWorld enc w blk 0 m d os).heap[blk]? = some (.cells (Sort.putCells enc 0 d cur) t (0, 0)) := by
 unfold sortWorld
 rw [Sort.heap_grow_old _ _ (by simp; exact (Array.getElem?_eq_some_iff.1 hb).1)]
 simp only [Sort.putRow, Sort.mapBlock, Sort.ahead, Array.getElem?_modify, if_true, hb, Option.map_some, Sort.onCells]
theorem sortWorld_size {α : Type} [Inhabited α] (enc : α → Value) (w : World) (blk m : Nat) (d : Array α) (os : Array Obj) : w.heap.size ≤ (sortWorld enc w blk 0 m d os).heap.size := by
 unfold sortWorld; simp
theorem sortWorld_below {α : Type} [Inhabited α] {w0 w : World} (h : Below w0.heap.size w0 w) (enc : α → Value) (blk m : Nat) (hblk : w0.heap.size ≤ blk) (d : Array α) (os : Array Obj) : Below w0.heap.size w0 (sortWorld enc w blk 0 m d os) :=
 ⟨h.os, h.tape, h.output, Nat.le_trans h.size (sortWorld_size _ _ _ _ _ _), fun i hi => (sortWorld_block enc w blk m d os (Nat.lt_of_lt_of_le hi h.size) (by omega)).trans (h.block i hi)⟩
theorem putCells_take {α : Type} [Inhabited α] (enc : α → Value) (d : Array α) (c : Array Value) (h : d.size ≤ c.size) : (Sort.putCells enc 0 d c).toList.take d.size = d.toList.map enc := by
 apply List.ext_getElem?
 intro k
 rw [List.getElem?_take]
 by_cases hk : k < d.size
 ·rw [if_pos hk, Array.getElem?_toList]
  simp only [Sort.putCells, Array.getElem?_mapIdx, List.getElem?_map, Array.getElem?_toList]
  rw [Array.getElem?_eq_getElem (show k < c.size by omega), Array.getElem?_eq_getElem hk]
  simp only [Option.map_some]
  rw [if_pos ⟨Nat.zero_le _, by omega⟩, Nat.sub_zero, getElem!_pos d k hk]
 ·rw [if_neg hk, List.getElem?_eq_none (by simp; omega)]
theorem putCells_size {α : Type} [Inhabited α] (enc : α → Value) (d : Array α) (c : Array Value) : (Sort.putCells enc 0 d c).size = c.size := by simp [Sort.putCells]
theorem sorted_eq {α : Type} (f : α → Nat) : ∀ {m n : List α}, (m.Pairwise fun x y => f x < f y) → (n.Pairwise fun x y => f x < f y) → (∀ x, x ∈ m ↔ x ∈ n) → m = n := by
 intro m
 induction m with
 | nil =>
  intro n _ _ h
  cases n with
  | nil => rfl
  | cons y n => exact absurd ((h y).2 List.mem_cons_self) List.not_mem_nil
 | cons x m ih =>
  intro n hm hn h
  cases n with
  | nil => exact absurd ((h x).1 List.mem_cons_self) List.not_mem_nil
  | cons y n =>
   obtain ⟨m1, m2⟩ := List.pairwise_cons.1 hm
   obtain ⟨n1, n2⟩ := List.pairwise_cons.1 hn
   have e : x = y := by
    rcases List.mem_cons.1 ((h x).1 List.mem_cons_self) with c | c
    ·exact c
    ·rcases List.mem_cons.1 ((h y).2 List.mem_cons_self) with c2 | c2
     ·exact c2.symm
     ·have := n1 x c; have := m1 y c2; omega
   subst e
   congr 1
   refine ih m2 n2 fun z => ?_
   constructor
   ·intro hz
    rcases List.mem_cons.1 ((h z).1 (List.mem_cons_of_mem _ hz)) with c | c
    ·subst c; have := m1 z hz; omega
    ·exact c
   ·intro hz
    rcases List.mem_cons.1 ((h z).2 (List.mem_cons_of_mem _ hz)) with c | c
    ·subst c; have := n1 z hz; omega
    ·exact c
def encF {n : Nat} (x : Fin n) : Value := .int .i64 (x.val : Int)
def cfF (l : List NodeI) (n : Nat) (x y : Fin n) : Int := cfN l x.val y.val
theorem ltF {l : List NodeI} (t : Tr l) (x y : Fin l.length) : ltOf (cfF l l.length) x y = decide (rk l x.val < rk l y.val) := by
 unfold ltOf cfF cfN
 by_cases h1 : rk l y.val < rk l x.val
 ·rw [if_pos h1, decide_eq_false (show ¬ rk l x.val < rk l y.val by omega)]; rfl
 ·rw [if_neg h1]
  by_cases h2 : rk l x.val < rk l y.val
  ·rw [if_pos h2, decide_eq_true h2]; rfl
  ·rw [if_neg h2, decide_eq_false h2]; rfl
theorem swoF {l : List NodeI} (t : Tr l) : Sort.SWO (ltOf (cfF l l.length)) where
 irrefl x := by rw [ltF t]; simp
 trans x y z h1 h2 := by rw [ltF t] at *; simp at *; omega
 ntrans x y z h1 h2 := by rw [ltF t] at *; simp at *; omega
theorem totF {l : List NodeI} (t : Tr l) (x y : Fin l.length) (h1 : ltOf (cfF l l.length) x y = false) (h2 : ltOf (cfF l l.length) y x = false) : x = y := by
 rw [ltF t] at h1 h2
 simp at h1 h2
 exact Fin.ext (rk_inj t x.isLt y.isLt (by omega))
theorem sorted_pst {l : List NodeI} (t : Tr l) : ((List.finRange l.length).mergeSort fun x y => !(ltOf (cfF l l.length)) y x).map encF = (pst l).map (Value.int .i64) := by
 have e : (fun x y : Fin l.length => !(ltOf (cfF l l.length)) y x) = fun x y => decide (rk l x.val ≤ rk l y.val) := by
  funext x y
  rw [ltF t]
  by_cases h : rk l y.val < rk l x.val
  ·rw [decide_eq_true h, decide_eq_false (by omega)]; rfl
  ·rw [decide_eq_false h, decide_eq_true (by omega)]; rfl
 rw [e]
 have hp := List.mergeSort_perm (List.finRange l.length) (fun x y : Fin l.length => decide (rk l x.val ≤ rk l y.val))
 have hs := List.pairwise_mergeSort (le := fun x y : Fin l.length => decide (rk l x.val ≤ rk l y.val)) (fun a b c h1 h2 => by simp at *; omega) (fun a b => by simp; omega) (List.finRange l.length)
 generalize (List.finRange l.length).mergeSort (fun x y : Fin l.length => decide (rk l x.val ≤ rk l y.val)) = L at hp hs
 have hnd : L.Nodup := hp.nodup_iff.2 (List.nodup_finRange _)
 have h1 : L.Pairwise fun x y => rk l x.val < rk l y.val := by
  refine (hs.and hnd).imp fun {x y} h => ?_
  have h1 : rk l x.val ≤ rk l y.val := by simpa using h.1
  have h2 : rk l x.val ≠ rk l y.val := fun z => h.2 (Fin.ext (rk_inj t x.isLt y.isLt z))
  omega
 have h2 : (L.map Fin.val) = (List.range l.length).map (nodeN l) := by
  refine sorted_eq (rk l) (List.pairwise_map.2 h1) (List.pairwise_map.2 ?_) (fun x => ?_)
  ·refine List.pairwise_lt_range.imp_of_mem fun {a b} ha hb h => ?_
   rw [rk_nodeN t (List.mem_range.1 ha), rk_nodeN t (List.mem_range.1 hb)]; exact h
  ·rw [List.mem_map, List.mem_map]
   constructor
   ·rintro ⟨y, _, rfl⟩
    exact ⟨rk l y.val, List.mem_range.2 (rk_lt t y.isLt), nodeN_rk t y.isLt⟩
   ·rintro ⟨r, hr, rfl⟩
    exact ⟨⟨nodeN l r, nodeN_lt t (List.mem_range.1 hr)⟩, hp.mem_iff.2 (List.mem_finRange _), rfl⟩
 rw [pst_eq_map t, List.map_map]
 have h3 := congrArg (List.map fun x : Nat => Value.int .i64 (x : Int)) h2
 rw [List.map_map, List.map_map] at h3
 exact h3
theorem holds_range {n : Nat} [Inhabited (Fin n)] {W : World} {g cap : Nat} {cur : Array Value} (hb : W.heap[g]? = some (.cells cur 3 (0, 0))) (hn : n ≤ cap) (hc : cur.toList.length = cap * 1) (ht : cur.toList.take (n * 1) = encs (Value.int .i64) ((List.range n).map fun j : Nat => (j : Int))) :
  Sort.Holds encF W g 0 (List.finRange n).toArray := by
 intro j hj
 have hj' : j < n := by simpa using hj
 refine ⟨(blk_cell hb _).trans ?_, blk_frozen hb _⟩
 have e := congrArg (fun l => l[j]?) ht
 simp only [Nat.mul_one] at e
 rw [List.getElem?_take_of_lt hj'] at e
 rw [Nat.zero_add, ← Array.getElem?_toList, e]
 simp only [encs, List.getElem?_map, List.getElem?_range hj', Option.map_some]
 rw [getElem!_pos _ j hj]
 simp [encF]
theorem own_sorted {l : List NodeI} (t : Tr l) [Inhabited (Fin l.length)] {W : World} {base g cap m : Nat} {os : Array Obj} {cur : Array Value} (hb : W.heap[g]? = some (.cells cur 3 (0, 0))) (hg : base ≤ g) (hn : l.length ≤ cap) (hm : cap ≤ maxLen) (hc : cur.toList.length = cap * 1) :
  Kd.R (Kd.int .i64) 3 (sortWorld encF W g 0 m ((List.finRange l.length).mergeSort fun x y => !(ltOf (cfF l l.length)) y x).toArray os) base (fun _ => True) (.slice (some ⟨g, 0, none⟩) l.length cap) (pst l) := by
 have hl : ((List.finRange l.length).mergeSort fun x y => !(ltOf (cfF l l.length)) y x).length = l.length := by simp
 have ho : World.ownsRow (sortWorld encF W g 0 m ((List.finRange l.length).mergeSort fun x y => !(ltOf (cfF l l.length)) y x).toArray os) base 3 1 (.slice (some ⟨g, 0, none⟩) l.length cap) (pst l).length (encs (Value.int .i64) (pst l)) := by
  rw [pst_len t]
  refine ⟨by simp [encs, pst_len t], .inr ⟨g, cap, _, rfl, hg, sortWorld_row encF W g m _ os hb, hn, hm, ?_, ?_⟩⟩
  ·exact Array.length_toList.trans ((putCells_size _ _ _).trans (Array.length_toList.symm.trans hc))
  ·have h := putCells_take encF ((List.finRange l.length).mergeSort fun x y => !(ltOf (cfF l l.length)) y x).toArray cur (by rw [List.size_toArray, hl, ← Array.length_toList, hc]; omega)
   rw [List.size_toArray, hl] at h
   rw [Nat.mul_one, h]
   exact sorted_pst t
 have hr := Kd.R_of_own (h1 := fun _ => rfl) ho (fun _ _ => (trivial : (fun _ : Nat => True) _))
 exact hr
theorem range_snoc (n : Nat) : ((List.range (n + 1)).map fun j : Nat => (j : Int)) = ((List.range n).map fun j : Nat => (j : Int)) ++ [(n : Int)] := by rw [List.range_succ, List.map_append]; rfl
theorem box1 {W w1 : World} {c0 : Value} {ty : TypeId} (hb : Below (W.alloc (Obj.cells #[c0] ty)).heap.size (W.alloc (Obj.cells #[c0] ty)) w1) : w1.heap[W.heap.size]? = some (.cells #[c0] ty (0, 0)) :=
 (hb.block W.heap.size (by simp)).trans (heap_alloc_new W _)
set_option maxHeartbeats 4000000 in
set_option maxRecDepth 100000 in
theorem impl_PostOrder.calls (k : Nat) (A0 : Option Addr) (c0 : Nat) (l0 : List NodeI) (r : List Int) (w : World) (hr0 : Kd.C k77 w A0 l0.length l0) (hc0 : l0.length ≤ c0) (h : impl_PostOrder.f k l0 = some r) :
  Calls Try.prog 126 #[.slice A0 l0.length c0] w fun e w' => ∃ v0_ : Value, e = .returned (v0_) ∧ Kd.R (Kd.int .i64) 3 w' w.heap.size (fun _ => True) v0_ r ∧ Below w.heap.size w w' := by
 have hm := hr0.2.1
 have HTr : Aside0 (∀ (b : Bool) W, impl_TreeOk.f k l0 = some b → Below w.heap.size w W → Calls Try.prog 59 #[.slice A0 l0.length c0] W fun e w' => e = .returned (.bool b) ∧ Below W.heap.size W w') :=
  ⟨fun b W ht hb => impl_TreeOk.calls k A0 c0 l0 b W (Kd.C_below hr0 hb) hc0 ht⟩
 have HR0 := Aside0.mk hr0
 have HC0 := Aside0.mk hc0
 clear hr0 hc0
 unfold impl_PostOrder.f at h
 obtain ⟨b, hb, h⟩ := Option.bind_eq_some_iff.mp h
 have HT := Aside0.mk hb
 have HE0 := Aside0.mk (treeOk_told hb)
 clear hb
 cases b with
 | false =>
  rw [if_neg (by decide)] at h
  obtain rfl := Option.some.inj h
  clear h
  go_enter Try.func126, Try.ntmps126
  go_wp2_with (first | ((with_reducible refine gate_dst (N := 5) rfl ?_); refine Kd.R_lit (Kd.int .i64) _ 3 ?hg (N := 5) ?hd (xs := ([] : List Int)) (inner := []) (ok := fun _ => True) (okp := fun _ => True) ?hr ?hp (fun _ hk => hk) trivial (Below.refl _ _) (Nat.le_refl _) (by simp) ?_; (case hd => rfl); (case hg => rfl); (case hr => first | (go_simp; done) | (go_simp; rfl)); (case hp => exact (Reps.none _ _)); intro v7 w5 ho4 hb hg_ hnew_; clear hg_ hnew_; have HBX := Aside0.mk (box1 hb); have HB := Aside0.mk (((Below.refl w.heap.size w).alloc (Nat.le_refl _) _).trans (hb.mono (by simp))); have HO := Aside0.mk (Kd.R_lower ho4 ((Below.refl w.heap.size w).alloc (Nat.le_refl _) _).size); have hz := (blk_cell HBX.out 0).trans (show _ = some (.slice A0 l0.length c0) from rfl); clear hb ho4) | (go_at_call 59; refine (HTr.out false _ HT.out HB.out).mono ?_; rintro e w6 ⟨rfl, hb⟩; have HO2 := Aside0.mk (Kd.R_below HO.out hb); have HB2 := Aside0.mk (HB.out.trans (hb.mono HB.out.size)); clear hb))
  obtain ⟨Ao, co, eo⟩ := Kd.R_slice HO2.out
  subst eo
  go_wp2
  go_ret
  exact ⟨_, rfl, HO2.out, HB2.out⟩
 | true =>
  rw [if_pos rfl] at h
  obtain rfl := Option.some.inj h
  clear h
  have t : Tr l0 := (trB_iff l0).1 HE0.out.symm
  have hlen1 := t.len1
  have hlen := t.len24
  have TT := Aside0.mk t
  clear t HE0
  go_enter Try.func126, Try.ntmps126
  go_wp2_with (first | ((with_reducible refine gate_dst (N := 5) rfl ?_); refine Kd.R_lit (Kd.int .i64) _ 3 ?hg (N := 5) ?hd (xs := ([] : List Int)) (inner := []) (ok := fun _ => True) (okp := fun _ => True) ?hr ?hp (fun _ hk => hk) trivial (Below.refl _ _) (Nat.le_refl _) (by simp) ?_; (case hd => rfl); (case hg => rfl); (case hr => first | (go_simp; done) | (go_simp; rfl)); (case hp => exact (Reps.none _ _)); intro v7 w5 ho4 hb hg_ hnew_; clear hg_ hnew_; have HBX := Aside0.mk (box1 hb); have HB := Aside0.mk (((Below.refl w.heap.size w).alloc (Nat.le_refl _) _).trans (hb.mono (by simp))); have HO := Aside0.mk (Kd.R_lower ho4 (show w.heap.size + 1 ≤ _ by simp)); have hz := (blk_cell HBX.out 0).trans (show _ = some (.slice A0 l0.length c0) from rfl); clear hb ho4) | (go_at_call 59; refine (HTr.out true _ HT.out HB.out).mono ?_; rintro e w6 ⟨rfl, hb⟩; have HO2 := Aside0.mk (Kd.R_below HO.out hb); have HB2 := Aside0.mk (HB.out.trans (hb.mono HB.out.size)); have HBX2 := Aside0.mk ((hb.block w.heap.size (blk_lt HBX.out)).trans HBX.out); have hz2 := (blk_cell HBX2.out 0).trans (show _ = some (.slice A0 l0.length c0) from rfl); clear hb))
  have hsz6 : w.heap.size + 1 ≤ w6.heap.size := Nat.succ_le_of_lt (blk_lt HBX2.out)
  have HS6 := Aside0.mk hsz6
  clear hsz6
  go_loopw [3, 12] (fun v x wr => ∃ n : Nat, n ≤ l0.length ∧ x = .int .i64 n ∧ Aside0 (Kd.R (Kd.int .i64) 3 wr (w.heap.size + 1) (fun _ => True) v ((List.range n).map fun j : Nat => (j : Int))) ∧ Aside0 (Below (w.heap.size + 1) w6 wr)) (fun _ x _ => l0.length - (intOf x).toNat)
  case atStart => exact ⟨0, Nat.zero_le _, rfl, HO2, ⟨Below.refl _ _⟩⟩
  case round =>
   obtain ⟨n, hn, rfl, HOr, HBr⟩ := hrel
   have hBX := (HBr.out.block w.heap.size (Nat.lt_succ_self _)).trans HBX2.out
   have HBX3 := Aside0.mk hBX
   have HB3 := Aside0.mk (HB2.out.trans (HBr.out.mono (Nat.le_succ _)))
   have hzr := (blk_cell HBX3.out 0).trans (show _ = some (.slice A0 l0.length c0) from rfl)
   clear hBX
   by_cases hlt : n < l0.length
   ·have LM := Aside0.mk (show ((List.range n).map fun j : Nat => (j : Int)).length ≤ 24 by simp; omega)
    go_wp2_with (first | ((with_reducible refine gate_builtin (b := .append) (xs := #[.tmp 15, .tmp 17]) rfl ?_); at_builtin; refine Kd.R_append (Kd.int .i64) (w0 := w6) (w.heap.size + 1) rfl (.tmp 15) (.tmp 17) 25 3 (.int .i64 0) 8 rfl Try.underlying25 info3 rfl (by decide) (by omega) _ ((List.range n).map fun j : Nat => (j : Int)) (n : Int) [.int .i64 (n : Int)] (fun _ => True) (fun _ => False) rfl rfl ?aP (fun _ hk => hk.elim) ?aF ?aO ?aB ?aS ?aL ?_; (case aP => exact rfl); (case aF => exact fun _ _ => trivial); (case aO => exact HOr.out); (case aB => exact HBr.out); (case aS => exact Nat.le_trans HS6.out HBr.out.size); (case aL => have := LM.out; omega); intro v12 w12 ho hb hg hat; have HO5 := Aside0.mk ho; have HB5 := Aside0.mk hb; clear ho hb hg hat))
    go_roundw
    case rel => exact ⟨n + 1, by omega, by go_num, ⟨by rw [range_snoc]; exact HO5.out⟩, HB5⟩
    case measure => simp [intOf]; omega
   ·obtain rfl : n = l0.length := by omega
    haveI : Inhabited (Fin l0.length) := ⟨⟨0, by omega⟩⟩
    have hown := Kd.own_of_R HOr.out
    rcases hown.2 with ⟨_, h0⟩ | ⟨g, cap, cur, he, hb1, hh, hcn, hcm, hcl, hct⟩
    ·rw [List.length_map, List.length_range] at h0
     omega
    have hln : ((List.range l0.length).map fun j : Nat => (j : Int)).length = l0.length := by simp
    rw [hln] at he hcn hct
    subst he
    have hgs : w.heap.size ≤ g := by omega
    have hgl : g < wr.heap.size := (Array.getElem?_eq_some_iff.1 hh).1
    have eg : ∀ args w, (callFunc 151 args).run Try.prog w = .ok (.enter 151 args) w := enters_of Try.func151 (by kernel_rfl) rfl
    have hcmp : CmpReads Try.prog 151 #[.pointer (some ⟨w.heap.size, 0, none⟩)] encF (cfF l0 l0.length) g 0 (List.finRange l0.length).toArray.size wr := fun m os dk hs x y =>
     closure_calls TT.out x.isLt y.isLt _ ((blk_cell ((sortWorld_block encF wr g m dk os (by omega) (by omega)).trans HBX3.out) 0).trans rfl) (Kd.C_below HR0.out (sortWorld_below HB3.out encF g m hgs dk os)) HC0.out
    have hS := Any.slices_SortFunc_total Try.sortL encF (fun _ => rfl) (cfF l0 l0.length) (swoF TT.out) 151 #[.pointer (some ⟨w.heap.size, 0, none⟩)] g 0 cap (List.finRange l0.length).toArray wr eg hcmp.lays (holds_range hh hcn hcl hct) hgl (by simp; omega) (totF TT.out)
    have hsz : (List.finRange l0.length).toArray.size = l0.length := by simp
    rw [hsz] at hS
    change Calls Try.prog 150 _ _ _ at hS
    have HS := Aside0.mk hS
    have HH := Aside0.mk (fun m os => own_sorted (m := m) (os := os) TT.out hh hb1 hcn hcm hcl)
    have HBs := Aside0.mk (fun m os => sortWorld_below HB3.out encF g m hgs ((List.finRange l0.length).mergeSort fun x y => !(ltOf (cfF l0 l0.length)) y x).toArray os)
    clear hS eg hcmp hown hh hct hcl hsz hln
    go_wp2_with (first | (go_at_call 150; refine HS.out.mono ?_; rintro e w9 ⟨rfl, m, os, rfl⟩))
    go_ret
    exact ⟨_, rfl, Kd.R_lower (HH.out m os) (Nat.le_succ _), HBs.out m os⟩
end Go.Proofs.Ytngphdmbjenkaaa.X
namespace Go.Proofs.Ytngphdmbjenkaaa.X
open Go.RowKit Go.Proofs.YtngphdmbjenkaaaW.PrintWords Go.Proofs.YtngphdmbjenkaaaW.PrintLast Go.Proofs.YtngphdmbjenkaaaW.PrintMore
attribute [local go_sem] max2_int min2_int max_two min_two max_three min_three max_four min_four   -- for this text's walks alone
set_option linter.unusedVariables false
set_option linter.unusedSimpArgs false
def impl_RankOf.l0 : Nat → List Int → List Int → Int → Int → Option (List Int)
 | 0, _, _, _, _ => none
 | k + 1, x4, x12, x13, x14 => if x14 < x13 then (if 0 ≤ x14 then (if x14 < (x12.length : Int) then (if 0 ≤ (rd x12 x14) then (if (rd x12 x14) < (x4.length : Int) then (impl_RankOf.l0 k (x4.set ((rd x12 x14) : Int).toNat x14) x12 x13 (wrap64 (x14 + 1))) else (none)) else (none)) else (none)) else (none)) else (some x4)
def impl_RankOf.f (k : Nat) (l0 : List (S77)) : Option (List Int) := (impl_PostOrder.f k l0).bind fun t530 => (if 0 ≤ (t530.length : Int) then (if ((t530.length : Int) : Int).toNat ≤ 35184372088832 then (impl_RankOf.l0 k (List.replicate ((t530.length : Int) : Int).toNat 0) t530 (t530.length : Int) 0) else (none)) else (none))
theorem impl_RankOf.mono_l : ∀ k, (∀ y0 y1 y2 y3, LeO (impl_RankOf.l0 k y0 y1 y2 y3) (impl_RankOf.l0 (k + 1) y0 y1 y2 y3))
 | 0 => fun _ _ _ _ r h => by simp [impl_RankOf.l0] at h
 | k + 1 => by
  have ih0 := impl_RankOf.mono_l k
  ·intro y0 y1 y2 y3
   unfold impl_RankOf.l0
   repeat' first
   | (with_reducible exact ih0 _ _ _ _)
   | (with_reducible exact impl_PostOrder.mono _ _)
   | (with_reducible exact LeO.refl _)
   | (with_reducible exact LeO.none _)
   | (with_reducible refine LeO.ite ?_ ?_)
   | (with_reducible refine LeO.bind ?_ (fun _ => ?_))
   | exact ih0 _ _ _ _
   | exact impl_PostOrder.mono _ _
   | exact LeO.none _
   | refine LeO.ite ?_ ?_
   | refine LeO.bind ?_ (fun _ => ?_)
theorem impl_RankOf.mono : ∀ a0 k, LeO (impl_RankOf.f k a0) (impl_RankOf.f (k + 1) a0) := by
 intro a0 k
 have ih0 := impl_RankOf.mono_l k
 unfold impl_RankOf.f
 repeat' first
   | (with_reducible exact ih0 _ _ _ _)
   | (with_reducible exact impl_PostOrder.mono _ _)
   | (with_reducible exact LeO.refl _)
   | (with_reducible exact LeO.none _)
   | (with_reducible refine LeO.ite ?_ ?_)
   | (with_reducible refine LeO.bind ?_ (fun _ => ?_))
   | exact ih0 _ _ _ _
   | exact impl_PostOrder.mono _ _
   | exact LeO.none _
   | refine LeO.ite ?_ ?_
   | refine LeO.bind ?_ (fun _ => ?_)
set_option maxHeartbeats 8000000 in
set_option maxRecDepth 100000 in
theorem impl_RankOf.calls (k : Nat) (A0 : Option Addr) (c0 : Nat) (l0 : List (S77)) (r : List Int) (w : World) (hr0 : Kd.C k77 w A0 l0.length l0) (hc0 : l0.length ≤ c0) (h : impl_RankOf.f k l0 = some r) :
  Calls Try.prog 152 #[.slice A0 l0.length c0] w fun e w' => ∃ v0_ : Value, e = .returned (v0_) ∧ Kd.R (Kd.int .i64) 3 w' w.heap.size (fun _ => True) v0_ r ∧ Below w.heap.size w w' := by
 have HR0 := Aside0.mk hr0
 have HC0 := Aside0.mk hc0
 clear hr0 hc0
 have HB := Aside0.mk (Below.refl w.heap.size w)
 have H : ((impl_PostOrder.f k l0).bind fun t530 => (if 0 ≤ (t530.length : Int) then (if ((t530.length : Int) : Int).toNat ≤ 35184372088832 then (impl_RankOf.l0 k (List.replicate ((t530.length : Int) : Int).toNat 0) t530 (t530.length : Int) 0) else (none)) else (none))) = some r := h
 clear h
 replace H := Option.bind_eq_some_iff.mp H
 obtain ⟨t530, A20, H⟩ := H
 try dsimp only at H
 have A2 := Aside0.mk A20
 clear A20
 by_cases c3 : 0 ≤ (t530.length : Int)
 ·rw [if_pos c3] at H
  have c3b0 := eq_true c3
  have c3b1 : decide (0 ≤ (t530.length : Int)) = true := decide_eq_true c3
  clear c3
  by_cases c4 : ((t530.length : Int) : Int).toNat ≤ 35184372088832
  ·rw [if_pos c4] at H
   have c4b0 := eq_true c4
   have c4b1 : decide (((t530.length : Int) : Int).toNat ≤ 35184372088832) = true := decide_eq_true c4
   clear c4
   obtain ⟨y533, hy533⟩ : ∃ y_ : List Int, y_ = (List.replicate ((t530.length : Int) : Int).toNat 0) := ⟨_, rfl⟩
   replace H : (impl_RankOf.l0 k y533 t530 (t530.length : Int) 0) = some r := by first | (rw [hy533]; with_reducible exact H) | (have H2_ := (Option.bind_some _ _).symm.trans H; rw [hy533]; with_reducible exact H2_) | (have H2_ := (Option.bind_some _ _).symm.trans H; with_reducible exact H2_) | with_reducible exact H | (rw [hy533]; exact H) | exact H
   have Ny533 := Aside0.mk hy533
   clear hy533
   have H' := Aside0.mk H
   clear H
   go_enter Try.func152, Try.ntmps152
   go_wp2_with (first | ((with_reducible refine gate_callee (f := 126) rfl ?_); refine gL_ (some 8) Try.func126 #[.slice A0 l0.length c0] ?_; (with_reducible refine (impl_PostOrder.calls k _ _ l0 t530 _ (cc_ HR0.out) HC0.out A2.out).mono ?_); rintro e w5 ⟨v531, rfl, ho0, hb⟩; refine ⟨_, rfl, ?_⟩; have HO532 := Aside0.mk (Kd.R_lower ho0 (bs_ HB)); replace HB := tB_ HB hb; (try clear hb); (try clear ho0); obtain ⟨Ao6, co6, eo6⟩ := Kd.R_slice HO532.out; subst eo6) | ((with_reducible refine gate_dst (N := 11) rfl ?_); refine Kd.R_make (Kd.int .i64) _ 3 rfl (N := 11) rfl 25 _ _ rfl (t530.length : Int) rfl rfl Try.underlying25 (.int .i64 0) 8 info3 rfl (by decide) (by omega) 0 (ok := fun _ => True) (okp := fun _ => True) rfl (fun _ hk => hk) trivial (od_) (Nat.le_trans (Nat.mul_le_mul_right _ (od_ : (t530.length : Int).toNat ≤ 35184372088832)) (by omega)) (Below.refl _ _) (Nat.le_refl _) ?_; intro v534 w7 ho8 hb hg_ hnew_; clear hg_ hnew_; (first | rw [← Ny533.out] at ho8 | (simp only [Int.reduceToNat] at ho8; rw [← Ny533.out] at ho8)); have HO535 := Aside0.mk (Kd.R_lower (Kd.R_new' ho8 (Kd.R_lt (rx_ HO532.out))) (bs_ HB)); replace HO532 := Aside0.mk (Kd.R_elder' (rx_ HO532.out) (Kd.R_base ho8) hb); replace HB := tB_ HB hb; clear hb ho8))
   go_loopg [14] k (fun kq v14 w' => ∃ (x4_1 : List Int) (x14_1 : Int), v14 = .int .i64 x14_1 ∧ Aside0 (impl_RankOf.l0 kq x4_1 t530 (t530.length : Int) x14_1 = some r) ∧ Aside0 (kq ≤ k) ∧ Aside0 (Kd.R (Kd.int .i64) 3 w' w.heap.size (fun k_ => some k_ ≠ ((.slice Ao6 t530.length co6) : Value).ownBlock) v534 x4_1) ∧ Aside0 (Kd.R (Kd.int .i64) 3 w' w.heap.size (fun k_ => some k_ ≠ (v534 : Value).ownBlock) (.slice Ao6 t530.length co6) t530) ∧ Aside0 (Below w.heap.size w w'))
   case atStart => exact ⟨(y533), (0), eb_, H', ⟨Nat.le_refl _⟩, ⟨rx_ (Kd.R_mono HO535.out (fun _ hk => hk.2))⟩, ⟨rx_ (Kd.R_mono HO532.out (fun _ hk => hk.2))⟩, bl_ HB⟩
   case round =>
    clear H'
    try clear c1
    try clear p2
    try clear c3
    try clear c3b0
    try clear c3b1
    try clear c4
    try clear c4b0
    try clear c4b1
    obtain ⟨x4_1, x14_1, rfl, HA, HK1, HO_4, HO_12, HB⟩ := hrel
    cases gk with
    | zero => exact absurd HA.out (by simp [impl_RankOf.l0])
    | succ k1 =>
     have H := HA.out
     clear HA
     simp only [impl_RankOf.l0] at H
     by_cases c9 : x14_1 < (t530.length : Int)
     ·rw [if_pos c9] at H
      have c9b0 : decide (x14_1 < (t530.length : Int)) = true := decide_eq_true c9
      clear c9
      by_cases c10 : 0 ≤ x14_1
      ·rw [if_pos c10] at H
       have c10b0 : decide (0 ≤ x14_1) = true := decide_eq_true c10
       clear c10
       by_cases c11 : x14_1 < (t530.length : Int)
       ·rw [if_pos c11] at H
        have c11b0 : decide (x14_1 < (t530.length : Int)) = true := decide_eq_true c11
        clear c11
        by_cases c12 : 0 ≤ (rd t530 x14_1)
        ·rw [if_pos c12] at H
         have c12b0 : decide (0 ≤ (rd t530 x14_1)) = true := decide_eq_true c12
         clear c12
         by_cases c13 : (rd t530 x14_1) < (x4_1.length : Int)
         ·rw [if_pos c13] at H
          have c13b0 : decide ((rd t530 x14_1) < (x4_1.length : Int)) = true := decide_eq_true c13
          clear c13
          obtain ⟨y537, hy537⟩ : ∃ y_ : List Int, y_ = (x4_1.set ((rd t530 x14_1) : Int).toNat x14_1) := ⟨_, rfl⟩
          replace H : (impl_RankOf.l0 k1 y537 t530 (t530.length : Int) (wrap64 (x14_1 + 1))) = some r := by first | (rw [hy537]; with_reducible exact H) | (have H2_ := (Option.bind_some _ _).symm.trans H; rw [hy537]; with_reducible exact H2_) | (have H2_ := (Option.bind_some _ _).symm.trans H; with_reducible exact H2_) | with_reducible exact H | (rw [hy537]; exact H) | exact H
          have Ny537 := Aside0.mk hy537
          clear hy537
          have H' := Aside0.mk H
          clear H
          have p536 : 0 ≤ (x14_1 : Int) := od_
          have q536 : x14_1 < (t530.length : Int) := od_
          obtain ⟨ad536, e536, hx536_0⟩ := Kd.at_int (Kd.R_reads' HO_12.out).2.2 x14_1 p536 q536
          cases e536
          replace p536 := eq_true p536
          replace q536 := eq_true q536
          have p14 : 0 ≤ ((rd t530 x14_1) : Int) := od_
          have q14 : ((rd t530 x14_1) : Int) < ((x4_1.length : Int) : Int) := od_
          obtain ⟨go14, co14, eo14, gb14, gl14, cl14, HG14⟩ := Kd.R_form HO_4.out (by omega)
          (first | cases eo14 | (injection eo14 with ea_ en_ ec_; (first | subst ea_ | (injection ea_ with ea_; subst ea_)); subst ec_; clear en_))
          have GB14 := Aside0.mk gb14
          have GG14 := Aside0.mk HG14
          clear gb14 gl14 HG14
          obtain ⟨hx14_0, hf14_0⟩ := Kd.R_celln 0 HO_4.out ((rd t530 x14_1) : Int) p14 q14
          replace p14 := eq_true p14
          replace q14 := eq_true q14
          have HP15 := Kd.R_putg HO_4.out ((rd t530 x14_1) : Int) x14_1
          go_wp2_with (first | ((with_reducible refine gate_store (t := 3) (p := 22) rfl ?_); refine store_event (t := 3) (p := 22) (v := ?vo_w16) (w1 := (wr.setCell ⟨go14, ((rd t530 x14_1) : Int).toNat, none⟩ (.int .i64 x14_1))) ?hg ?ho ?hn ?hr ?_; (case ho => rfl); (case hg => rfl); (case hn => rfl); (case hr => first | (go_simp; done) | (go_simp; rfl)); intro w16 hw; have hg : wr.grownBy w16 (some go14) := (by rw [hw]; exact HP15.2); have hp_ : Kd.R (Kd.int .i64) 3 w16 w.heap.size (fun k_ => some k_ ≠ (.slice (some ad536) t530.length co6 : Value).ownBlock) (.slice (some ⟨go14, 0, none⟩) x4_1.length co14) y537 := (by rw [hw, Ny537.out]; exact HP15.1); clear HP15; replace HO_4 := Aside0.mk (hp_); replace HO_12 := Aside0.mk (Kd.R_after (v := (.slice (some ⟨go14, 0, none⟩) x4_1.length co14)) (v1 := (.slice (some ⟨go14, 0, none⟩) x4_1.length co14)) (ok := (fun _ => True)) (rx_ (Kd.R_mono HO_12.out (fun _ hk => ⟨trivial, hk⟩))) hg (.inl rfl)); replace HB := Aside0.mk ((by rw [hw]; exact below_set (HB.out) GB14.out : Below w.heap.size w w16)); clear hg hw hp_))
          go_roundg k1
          case measure => have := HK1.out; omega
          case rel => exact ⟨(y537), (wrap64 (x14_1 + 1)), eb_, H', ⟨by have := HK1.out; omega⟩, ⟨rx_ HO_4.out⟩, ⟨rx_ (Kd.R_mono HO_12.out (fun _ hk => hk.2))⟩, bl_ HB⟩
         ·rw [if_neg c13] at H
          exact absurd H (by simp)
        ·rw [if_neg c12] at H
         exact absurd H (by simp)
       ·rw [if_neg c11] at H
        exact absurd H (by simp)
      ·rw [if_neg c10] at H
       exact absurd H (by simp)
     ·rw [if_neg c9] at H
      have c9b0 : decide (x14_1 < (t530.length : Int)) = false := decide_eq_false c9
      clear c9
      obtain rfl := Option.some.inj H
      go_wp2
      go_ret
      exact ⟨_, ea_, rx_ (Kd.R_mono HO_4.out (fun _ hk => trivial)), (bl_ HB).out⟩
  ·rw [if_neg c4] at H
   exact absurd H (by simp)
 ·rw [if_neg c3] at H
  exact absurd H (by simp)
end Go.Proofs.Ytngphdmbjenkaaa.X
namespace Go.Proofs.Ytngphdmbjenkaaa.X
open Go.RowKit Go.Proofs.YtngphdmbjenkaaaW.PrintWords Go.Proofs.YtngphdmbjenkaaaW.PrintLast Go.Proofs.YtngphdmbjenkaaaW.PrintMore
attribute [local go_sem] max2_int min2_int max_two min_two max_three min_three max_four min_four   -- for this text's walks alone
set_option linter.unusedVariables false
set_option linter.unusedSimpArgs false
def impl_LeftLeaf.l0 : Nat → List (S77) → List Int → List Int → List Int → Int → Int → Option (List Int)
 | 0, _, _, _, _, _, _ => none
 | k + 1, x0, x3, x4, x11, x12, x13 => if x13 < x12 then (if 0 ≤ x13 then (if x13 < (x11.length : Int) then (if 0 ≤ (rd x11 x13) then (if (rd x11 x13) < (x4.length : Int) then ((impl_endOf.f k x0 (rd x11 x13)).bind fun t549 => (if x3.length < 17592186044416 then (impl_LeftLeaf.l0 k x0 (x3 ++ [wrap64 ((rd x4 (rd x11 x13)) - (wrap64 ((wrap64 (t549 - (rd x11 x13))) - 1)))]) x4 x11 x12 (wrap64 (x13 + 1))) else (none))) else (none)) else (none)) else (none)) else (none)) else (some x3)
def impl_LeftLeaf.f (k : Nat) (l0 : List (S77)) : Option (List Int) := (impl_RankOf.f k l0).bind fun t541 => ((impl_PostOrder.f k l0).bind fun t544 => (impl_LeftLeaf.l0 k l0 (([] : List Int)) t541 t544 (t544.length : Int) 0))
theorem impl_LeftLeaf.mono_l : ∀ k, (∀ y0 y1 y2 y3 y4 y5, LeO (impl_LeftLeaf.l0 k y0 y1 y2 y3 y4 y5) (impl_LeftLeaf.l0 (k + 1) y0 y1 y2 y3 y4 y5))
 | 0 => fun _ _ _ _ _ _ r h => by simp [impl_LeftLeaf.l0] at h
 | k + 1 => by
  have ih0 := impl_LeftLeaf.mono_l k
  ·intro y0 y1 y2 y3 y4 y5
   unfold impl_LeftLeaf.l0
   repeat' first
   | (with_reducible exact ih0 _ _ _ _ _ _)
   | (with_reducible exact impl_PostOrder.mono _ _)
   | (with_reducible exact impl_RankOf.mono _ _)
   | (with_reducible exact impl_endOf.mono _ _ _)
   | (with_reducible exact LeO.refl _)
   | (with_reducible exact LeO.none _)
   | (with_reducible refine LeO.ite ?_ ?_)
   | (with_reducible refine LeO.bind ?_ (fun _ => ?_))
   | exact ih0 _ _ _ _ _ _
   | exact impl_PostOrder.mono _ _
   | exact impl_RankOf.mono _ _
   | exact impl_endOf.mono _ _ _
   | exact LeO.none _
   | refine LeO.ite ?_ ?_
   | refine LeO.bind ?_ (fun _ => ?_)
theorem impl_LeftLeaf.mono : ∀ a0 k, LeO (impl_LeftLeaf.f k a0) (impl_LeftLeaf.f (k + 1) a0) := by
 intro a0 k
 have ih0 := impl_LeftLeaf.mono_l k
 unfold impl_LeftLeaf.f
 repeat' first
   | (with_reducible exact ih0 _ _ _ _ _ _)
   | (with_reducible exact impl_PostOrder.mono _ _)
   | (with_reducible exact impl_RankOf.mono _ _)
   | (with_reducible exact impl_endOf.mono _ _ _)
   | (with_reducible exact LeO.refl _)
   | (with_reducible exact LeO.none _)
   | (with_reducible refine LeO.ite ?_ ?_)
   | (with_reducible refine LeO.bind ?_ (fun _ => ?_))
   | exact ih0 _ _ _ _ _ _
   | exact impl_PostOrder.mono _ _
   | exact impl_RankOf.mono _ _
   | exact impl_endOf.mono _ _ _
   | exact LeO.none _
   | refine LeO.ite ?_ ?_
   | refine LeO.bind ?_ (fun _ => ?_)
def impl_LeftLeaf.T5 : Bool × List (List Nat × List Nat) := (true, [([], []), ([], []), ([], []), ([1, 2], [1, 2]), ([3], [3]), ([], []), ([], []), ([5, 6], [5, 6]), ([], []), ([7, 8], [7, 8]), ([9], [9]), ([4, 10], [4, 10]), ([11], [11]), ([0, 12, 7], [0, 12]), ([13, 13, 0, 1, 2, 3, 4, 5, 6, 7, 8, 9, 10, 11, 12, 13], [0, 13])])
def impl_LeftLeaf.B5 : List Nat := [0, 0, 0, 6, 14, 0, 0, 96, 0, 480, 992, 2046, 4094, 8191, 16383]
theorem impl_LeftLeaf.tab5 : rtab .any (opsOf Try.f127 5) = impl_LeftLeaf.T5 := by kernel_rfl
theorem impl_LeftLeaf.bits5 : waitsOk impl_LeftLeaf.T5.2 impl_LeftLeaf.B5 = true := by kernel_rfl
set_option maxHeartbeats 8000000 in
set_option maxRecDepth 100000 in
theorem impl_LeftLeaf.calls (k : Nat) (A0 : Option Addr) (c0 : Nat) (l0 : List (S77)) (r : List Int) (w : World) (hr0 : Kd.C k77 w A0 l0.length l0) (hc0 : l0.length ≤ c0) (h : impl_LeftLeaf.f k l0 = some r) :
  Calls Try.prog 127 #[.slice A0 l0.length c0] w fun e w' => ∃ v0_ : Value, e = .returned (v0_) ∧ Kd.R (Kd.int .i64) 3 w' w.heap.size (fun _ => True) v0_ r ∧ Below w.heap.size w w' := by
 have HR0 := Aside0.mk hr0
 have HC0 := Aside0.mk hc0
 clear hr0 hc0
 have HB := Aside0.mk (Below.refl w.heap.size w)
 have H : ((impl_RankOf.f k l0).bind fun t541 => ((impl_PostOrder.f k l0).bind fun t544 => (impl_LeftLeaf.l0 k l0 (([] : List Int)) t541 t544 (t544.length : Int) 0))) = some r := h
 clear h
 obtain ⟨y538, hy538⟩ : ∃ y_ : List Int, y_ = (([] : List Int)) := ⟨_, rfl⟩
 replace H : ((impl_RankOf.f k l0).bind fun t541 => ((impl_PostOrder.f k l0).bind fun t544 => (impl_LeftLeaf.l0 k l0 y538 t541 t544 (t544.length : Int) 0))) = some r := by first | (rw [hy538]; with_reducible exact H) | (have H2_ := (Option.bind_some _ _).symm.trans H; rw [hy538]; with_reducible exact H2_) | (have H2_ := (Option.bind_some _ _).symm.trans H; with_reducible exact H2_) | with_reducible exact H | (rw [hy538]; exact H) | exact H
 have Ny538 := Aside0.mk hy538
 clear hy538
 replace H := Option.bind_eq_some_iff.mp H
 obtain ⟨t541, A20, H⟩ := H
 try dsimp only at H
 have A2 := Aside0.mk A20
 clear A20
 replace H := Option.bind_eq_some_iff.mp H
 obtain ⟨t544, A30, H⟩ := H
 replace H : (impl_LeftLeaf.l0 k l0 y538 t541 t544 (t544.length : Int) 0) = some r := H
 have A3 := Aside0.mk A30
 clear A30
 have H' := Aside0.mk H
 clear H
 go_enter Try.func127, Try.ntmps127
 go_wp2_with (first | ((with_reducible refine gate_dst (N := 7) rfl ?_); refine Kd.R_lit (Kd.int .i64) _ 3 ?hg (N := 7) ?hd (xs := ([] : List Int)) (inner := []) (ok := fun _ => True) (okp := fun _ => True) ?hr ?hp (fun _ hk => hk) trivial (Below.refl _ _) (Nat.le_refl _) (by simp) ?_; (case hd => rfl); (case hg => rfl); (case hr => first | (go_simp; done) | (go_simp; rfl)); (case hp => exact (Reps.none _ _)); intro v539 w4 ho5 hb hg_ hnew_; clear hg_ hnew_; (first | rw [← Ny538.out] at ho5 | (simp only [Int.reduceToNat] at ho5; rw [← Ny538.out] at ho5)); have HO540 := Aside0.mk (Kd.R_lower ho5 (bs_ HB)); replace HB := tB_ HB hb; clear hb ho5) | ((with_reducible refine gate_callee (f := 152) rfl ?_); refine gL_ (some 9) Try.func152 #[.slice A0 l0.length c0] ?_; (with_reducible refine (impl_RankOf.calls k _ _ l0 t541 _ (cx_ HR0 HB) HC0.out A2.out).mono ?_); rintro e w6 ⟨v542, rfl, ho0, hb⟩; refine ⟨_, rfl, ?_⟩; have HO543 := Aside0.mk (Kd.R_lower (Kd.R_new' ho0 (Kd.R_lt (rx_ HO540.out))) (bs_ HB)); replace HO540 := Aside0.mk (Kd.R_elder' (rx_ HO540.out) (Kd.R_base ho0) hb); replace HB := tB_ HB hb; (try clear hb); (try clear ho0)) | ((with_reducible refine gate_callee (f := 126) rfl ?_); refine gL_ (some 11) Try.func126 #[.slice A0 l0.length c0] ?_; (with_reducible refine (impl_PostOrder.calls k _ _ l0 t544 _ (cx_ HR0 HB) HC0.out A3.out).mono ?_); rintro e w7 ⟨v545, rfl, ho0, hb⟩; refine ⟨_, rfl, ?_⟩; have HO546 := Aside0.mk (Kd.R_lower (Kd.R_new' (Kd.R_new' ho0 (Kd.R_lt (rx_ HO540.out))) (Kd.R_lt (rx_ HO543.out))) (bs_ HB)); replace HO540 := Aside0.mk (Kd.R_elder' (rx_ HO540.out) (Kd.R_base ho0) hb); replace HO543 := Aside0.mk (Kd.R_elder' (rx_ HO543.out) (Kd.R_base ho0) hb); replace HB := tB_ HB hb; (try clear hb); (try clear ho0); obtain ⟨Ao8, co8, eo8⟩ := Kd.R_slice HO546.out; subst eo8))
 go_loopg [3, 13] k (fun kq v3 v13 w' => ∃ (x3_1 : List Int) (x13_1 : Int), v13 = .int .i64 x13_1 ∧ Aside0 (impl_LeftLeaf.l0 kq l0 x3_1 t541 t544 (t544.length : Int) x13_1 = some r) ∧ Aside0 (kq ≤ k) ∧ Aside0 (Kd.R (Kd.int .i64) 3 w' w.heap.size (fun k_ => some k_ ≠ (v542 : Value).ownBlock ∧ some k_ ≠ ((.slice Ao8 t544.length co8) : Value).ownBlock) v3 x3_1) ∧ Aside0 (Kd.R (Kd.int .i64) 3 w' w.heap.size (fun k_ => some k_ ≠ (v3 : Value).ownBlock ∧ some k_ ≠ ((.slice Ao8 t544.length co8) : Value).ownBlock) v542 t541) ∧ Aside0 (Kd.R (Kd.int .i64) 3 w' w.heap.size (fun k_ => some k_ ≠ (v3 : Value).ownBlock ∧ some k_ ≠ (v542 : Value).ownBlock) (.slice Ao8 t544.length co8) t544) ∧ Aside0 (Below w.heap.size w w'))
 case atStart => exact ⟨(y538), (0), eb_, H', ⟨Nat.le_refl _⟩, ⟨rx_ (Kd.R_mono HO540.out (fun _ hk => ⟨hk.1.2, hk.2⟩))⟩, ⟨rx_ (Kd.R_mono HO543.out (fun _ hk => ⟨hk.1.2, hk.2⟩))⟩, ⟨rx_ (Kd.R_mono HO546.out (fun _ hk => ⟨hk.1.2, hk.2⟩))⟩, bl_ HB⟩
 case round =>
  clear H'
  try clear c1
  try clear p2
  obtain ⟨x3_1, x13_1, rfl, HA, HK1, HO_3, HO_4, HO_11, HB⟩ := hrel
  cases gk with
  | zero => exact absurd HA.out (by simp [impl_LeftLeaf.l0])
  | succ k1 =>
   have H := HA.out
   clear HA
   simp only [impl_LeftLeaf.l0] at H
   by_cases c9 : x13_1 < (t544.length : Int)
   ·rw [if_pos c9] at H
    have c9b0 : decide (x13_1 < (t544.length : Int)) = true := decide_eq_true c9
    clear c9
    by_cases c10 : 0 ≤ x13_1
    ·rw [if_pos c10] at H
     have c10b0 : decide (0 ≤ x13_1) = true := decide_eq_true c10
     clear c10
     by_cases c11 : x13_1 < (t544.length : Int)
     ·rw [if_pos c11] at H
      have c11b0 : decide (x13_1 < (t544.length : Int)) = true := decide_eq_true c11
      clear c11
      by_cases c12 : 0 ≤ (rd t544 x13_1)
      ·rw [if_pos c12] at H
       have c12b0 : decide (0 ≤ (rd t544 x13_1)) = true := decide_eq_true c12
       clear c12
       by_cases c13 : (rd t544 x13_1) < (t541.length : Int)
       ·rw [if_pos c13] at H
        have c13b0 : decide ((rd t544 x13_1) < (t541.length : Int)) = true := decide_eq_true c13
        clear c13
        replace H := Option.bind_eq_some_iff.mp H
        obtain ⟨t549, A140, H⟩ := H
        try dsimp only at H
        have A14 := Aside0.mk A140
        clear A140
        by_cases c15 : x3_1.length < 17592186044416
        ·rw [if_pos c15] at H
         have LMc15 := Aside0.mk c15
         clear c15
         obtain ⟨y550, hy550⟩ : ∃ y_ : List Int, y_ = (x3_1 ++ [wrap64 ((rd t541 (rd t544 x13_1)) - (wrap64 ((wrap64 (t549 - (rd t544 x13_1))) - 1)))]) := ⟨_, rfl⟩
         replace H : (impl_LeftLeaf.l0 k1 l0 y550 t541 t544 (t544.length : Int) (wrap64 (x13_1 + 1))) = some r := by first | (rw [hy550]; with_reducible exact H) | (have H2_ := (Option.bind_some _ _).symm.trans H; rw [hy550]; with_reducible exact H2_) | (have H2_ := (Option.bind_some _ _).symm.trans H; with_reducible exact H2_) | with_reducible exact H | (rw [hy550]; exact H) | exact H
         have Ny550 := Aside0.mk hy550
         clear hy550
         have H' := Aside0.mk H
         clear H
         have p547 : 0 ≤ (x13_1 : Int) := od_
         have q547 : x13_1 < (t544.length : Int) := od_
         obtain ⟨ad547, e547, hx547_0⟩ := Kd.at_int (Kd.R_reads' HO_11.out).2.2 x13_1 p547 q547
         cases e547
         replace p547 := eq_true p547
         replace q547 := eq_true q547
         try go_wp2
         have n0_ := Aside0.mk (Kd.R_drew HO_3.out)
         have n1_ := Aside0.mk (Kd.R_drew HO_4.out)
         have n2_ := Aside0.mk (Kd.R_drew HO_11.out)
         have n3_ := Aside0.mk (below_drew1 HB.out)
         clear HO_3
         clear HO_4
         clear HO_11
         clear HB
         have HO_3 := n0_
         have HO_4 := n1_
         have HO_11 := n2_
         have HB := n3_
         clear n0_ n1_ n2_ n3_
         obtain ⟨Ao17, co17, eo17⟩ := Kd.R_slice HO_4.out
         (first | subst eo17 | (injection eo17 with f1_ f2_ f3_; have f4_ := f1_.symm; have f5_ := f3_.symm; clear f1_ f2_ f3_; subst f4_; subst f5_))
         have p548 : 0 ≤ ((rd t544 x13_1) : Int) := od_
         have q548 : (rd t544 x13_1) < (t541.length : Int) := od_
         obtain ⟨ad548, e548, hx548_0⟩ := Kd.at_int (Kd.R_reads' HO_4.out).2.2 (rd t544 x13_1) p548 q548
         cases e548
         replace p548 := eq_true p548
         replace q548 := eq_true q548
         refine start_ (n := 15) (S := fun w' => w'.cell? (ad548.add ((rd t544 x13_1)).toNat) = some (.int .i64 (rd t541 (rd t544 x13_1)))) (ds := [12, 13]) (ba_ 15 0) (by kernel_rfl) rfl rfl (hx548_0) (fun hHeld => ?_); refine with_tabW impl_LeftLeaf.tab5 impl_LeftLeaf.bits5 (fun HT_ HW_ => ?_)
         generalize wr.drew = w16 at HO_3 HO_4 HO_11 HB hx548_0 hHeld ⊢
         refine pu_ 0 (some 17) (ba_ 15 1) rfl rfl (any_of HT_.out (by kernel_rfl)) ?_
         refine pu_ 1 (some 18) (ba_ 15 3) rfl rfl (any_of HT_.out (by kernel_rfl)) ?_
         refine pu_ 2 (some 19) (ba_ 15 7) rfl rfl (any_of HT_.out (by kernel_rfl)) ?_
         refine pu_ 3 (some 20) (ba_ 15 15) rfl rfl (any_of HT_.out (by kernel_rfl)) ?_
         refine pu_ 5 (some 22) (ba_ 15 47) rfl rfl (any_of HT_.out (by kernel_rfl)) ?_
         refine pu_ 6 (some 23) (ba_ 15 111) rfl rfl (any_of HT_.out (by kernel_rfl)) ?_
         refine pu_ 8 (some 25) (ba_ 15 367) rfl rfl (any_of HT_.out (by kernel_rfl)) ?_
         refine take_ (i := 4) (N := some 21) (v := ?_) (a' := ?_) (ba_ 15 383) rfl rfl (take_ofW HT_.out HW_.out (by kernel_rfl)) (fun _ _ _ h => h) (Or.inl ⟨by rfl, ?_⟩) hHeld ?_ ?_
         rotate_left
         ·intro w' s0
          go_simp
          with_reducible rfl
         rotate_left
         ·simp only [Act.put, List.setIfInBounds_toArray, List.set_cons_zero, List.set_cons_succ, i64_w, i32_w]
          rfl
         refine one_ (i := 7) (N := some 24) (ba_ 15 511) rfl rfl (one_of HT_.out (by kernel_rfl)) (by decide) (fun K hK => ?_)
         refine goes_ Try.func85 (by kernel_rfl) rfl #[.slice A0 l0.length c0, .int .i64 (rd t544 x13_1)] (by rfl) rfl rfl (by (try simp only [List.map_toArray, List.map_cons, List.map_nil]); first | done | rfl | (simp only [List.length_drop, List.length_take]; rfl)) ?_
         with_reducible refine (impl_endOf.calls k1 _ _ l0 (rd t544 x13_1) t549 _ ?side1 ?side2 A14.out).mono ?_
         (case side1 => exact cx_ HR0 HB)
         (case side2 => exact HC0.out)
         rintro e w' ⟨rfl, ⟨nd, rfl⟩⟩
         refine ⟨_, rfl, ?_⟩
         refine hK.out _ _ (hHeld) (fun hHeld => ?_)
         clear hK K
         refine norm_ (a' := ?_) ?_ ?_
         rotate_left
         ·show Act.put _ (some 24) _ = _
          simp only [Act.put, List.setIfInBounds_toArray, List.set_cons_zero, List.set_cons_succ, i64_w, i32_w]
          rfl
         refine pu_ 9 (some 26) (ba_ 15 1023) rfl rfl (any_of HT_.out (by kernel_rfl)) ?_
         refine pu_ 10 (some 27) (ba_ 15 2047) rfl rfl (any_of HT_.out (by kernel_rfl)) ?_
         refine pu_ 11 (some 28) (ba_ 15 4095) rfl rfl (any_of HT_.out (by kernel_rfl)) ?_
         refine last_ (i := 12) (N := some 29) (ba_ 15 8191) rfl rfl (one_of HT_.out (by kernel_rfl)) (by decide) (fun K hK => ?_)
         refine value_ (w1 := ?_) (v := ?_) (by rfl) rfl ?_ ?_
         rotate_left 2
         ·go_simp
          constructor
          ·rfl
          ·rfl
         refine hK.out _ _ ?_
         clear hK K
         refine norm_ (a' := ?_) ?_ ?_
         rotate_left
         ·show Act.put _ (some 29) _ = _
          simp only [Act.put, List.setIfInBounds_toArray, List.set_cons_zero, List.set_cons_succ, i64_w, i32_w]
          rfl
         refine last_ (i := 13) (N := some 30) (ba_ 15 16383) rfl rfl (one_of HT_.out (by kernel_rfl)) (by decide) (fun K hK => ?_)
         refine Kd.R_append_step (Kd.int .i64) (w0 := w) w.heap.size (by rfl) (.tmp 17) (.tmp 29) 25 3 (.int .i64 0) 8 rfl Try.underlying25 info3 rfl (by decide) (by omega) u3 x3_1 (wrap64 ((rd t541 (rd t544 x13_1)) - (wrap64 ((wrap64 (t549 - (rd t544 x13_1))) - 1)))) [.int .i64 (wrap64 ((rd t541 (rd t544 x13_1)) - (wrap64 ((wrap64 (t549 - (rd t544 x13_1))) - 1))))] (fun k_ => some k_ ≠ (.slice (some ad548) t541.length co17 : Value).ownBlock ∧ some k_ ≠ (.slice (some ad547) t544.length co8 : Value).ownBlock) (fun _ => False) rfl rfl ?aP (fun _ hk => hk.elim) ?aF ?aO ?aB ?aS ?aL ?_
         (case aP => exact rfl)
         (case aB => exact ((bl_ HB).out))
         (case aF => exact (fun k_ hk => ⟨Kd.fresh' (Kd.R_lt (rx_ HO_4.out)) k_ hk, Kd.fresh' (Kd.R_lt (rx_ HO_11.out)) k_ hk⟩))
         (case aO => exact (rx_ HO_3.out))
         (case aS => exact (bs_ HB))
         (case aL => have := LMc15.out; omega)
         intro v551 w18 ho hb hg hat
         rw [← Ny550.out] at ho
         have n0_ := Aside0.mk (Kd.R_after (ok := (fun k_ => some k_ ≠ (.slice (some ad547) t544.length co8 : Value).ownBlock)) (rx_ (Kd.R_mono HO_4.out (fun _ hk => ⟨hk.2, hk.1⟩))) hg hat)
         have n1_ := Aside0.mk (Kd.R_after (ok := (fun k_ => some k_ ≠ (.slice (some ad548) t541.length co17 : Value).ownBlock)) (rx_ (Kd.R_mono HO_11.out (fun _ hk => ⟨hk.2, hk.1⟩))) hg hat)
         have n2_ := Aside0.mk (hb)
         have n3_ := Aside0.mk (ho)
         clear HO_4
         clear HO_11
         clear HB
         clear HO_3
         have HO_4 := n0_
         have HO_11 := n1_
         have HB := n2_
         have HO552 := n3_
         clear n0_ n1_ n2_ n3_
         clear ho hb hg hat
         refine hK.out _ _ ?_
         clear hK K
         refine norm_ (a' := ?_) ?_ ?_
         rotate_left
         ·show Act.put _ (some 30) _ = _
          simp only [Act.put, List.setIfInBounds_toArray, List.set_cons_zero, List.set_cons_succ, i64_w, i32_w]
          rfl
         refine pu_ 14 (some 3) (ba_ 15 32767) rfl rfl (any_of HT_.out (by kernel_rfl)) ?_
         refine done_ (done_of HT_.out (by kernel_rfl)) ?_
         try go_wp2
         go_roundg k1
         case measure => have := HK1.out; omega
         case rel => exact ⟨(y550), (wrap64 (x13_1 + 1)), eb_, H', ⟨by have := HK1.out; omega⟩, ⟨rx_ HO552.out⟩, ⟨rx_ (Kd.R_mono HO_4.out (fun _ hk => ⟨hk.2, hk.1⟩))⟩, ⟨rx_ (Kd.R_mono HO_11.out (fun _ hk => ⟨hk.2, hk.1⟩))⟩, bl_ HB⟩
        ·rw [if_neg c15] at H
         exact absurd H (by simp)
       ·rw [if_neg c13] at H
        exact absurd H (by simp)
      ·rw [if_neg c12] at H
       exact absurd H (by simp)
     ·rw [if_neg c11] at H
      exact absurd H (by simp)
    ·rw [if_neg c10] at H
     exact absurd H (by simp)
   ·rw [if_neg c9] at H
    have c9b0 : decide (x13_1 < (t544.length : Int)) = false := decide_eq_false c9
    clear c9
    obtain rfl := Option.some.inj H
    go_wp2
    go_ret
    exact ⟨_, ea_, rx_ (Kd.R_mono HO_3.out (fun _ hk => trivial)), (bl_ HB).out⟩
end Go.Proofs.Ytngphdmbjenkaaa.X
namespace Go.Proofs.Ytngphdmbjenkaaa.X
open Go.RowKit Go.Proofs.YtngphdmbjenkaaaW.PrintWords Go.Proofs.YtngphdmbjenkaaaW.PrintLast Go.Proofs.YtngphdmbjenkaaaW.PrintMore
attribute [local go_sem] max2_int min2_int max_two min_two max_three min_three max_four min_four   -- for this text's walks alone
set_option linter.unusedVariables false
set_option linter.unusedSimpArgs false
mutual
def impl_measureOf.j0 : Nat → List (S77) → List (S77) → Bool → List Int → List Int → List Int → Option (List Int × List Int × List Int × List Int × List Int × List Int × (List (List Int)) × Bool)
 | 0, _, _, _, _, _, _ => none
 | k + 1, x0, x1, x28, x554000, x554001, x554002 => if x28 = true then (some (([] : List Int), ([] : List Int), ([] : List Int), ([] : List Int), ([] : List Int), ([] : List Int), ([] : List (List Int)), false)) else ((impl_PostOrder.f k x0).bind fun t558 => ((impl_PostOrder.f k x1).bind fun t561 => ((impl_LeftLeaf.f k x0).bind fun t564 => ((impl_LeftLeaf.f k x1).bind fun t567 => (impl_measureOf.l0 k x0 x1 t561 (t561.length : Int) 0 x554000 x554001 x554002 t558 t561 t564 t567 ([] : List Int))))))
def impl_measureOf.l0 : Nat → List (S77) → List (S77) → List Int → Int → Int → List Int → List Int → List Int → List Int → List Int → List Int → List Int → List Int → Option (List Int × List Int × List Int × List Int × List Int × List Int × (List (List Int)) × Bool)
 | 0, _, _, _, _, _, _, _, _, _, _, _, _, _ => none
 | k + 1, x0, x1, x40, x41, x42, x554000, x554001, x554002, x571000, x571001, x571002, x571003, x571005 => if x42 < x41 then (if 0 ≤ x42 then (if x42 < (x40.length : Int) then (if 0 ≤ (rd x40 x42) then (if (rd x40 x42) < (x1.length : Int) then (if 0 ≤ ((rd_T77 x1 (rd x40 x42)).f0) then (if ((rd_T77 x1 (rd x40 x42)).f0) < (x554001.length : Int) then (if x571005.length < 17592186044416 then (impl_measureOf.l0 k x0 x1 x40 x41 (wrap64 (x42 + 1)) x554000 x554001 x554002 x571000 x571001 x571002 x571003 (x571005 ++ [rd x554001 ((rd_T77 x1 (rd x40 x42)).f0)])) else (none)) else (none)) else (none)) else (none)) else (none)) else (none)) else (none)) else (impl_measureOf.l1 k x0 x1 x571000 (x571000.length : Int) 0 x554000 x554001 x554002 x571000 x571001 x571002 x571003 ([] : List Int) x571005 ([] : List (List Int)))
def impl_measureOf.l1 : Nat → List (S77) → List (S77) → List Int → Int → Int → List Int → List Int → List Int → List Int → List Int → List Int → List Int → List Int → List Int → List (List Int) → Option (List Int × List Int × List Int × List Int × List Int × List Int × (List (List Int)) × Bool)
 | 0, _, _, _, _, _, _, _, _, _, _, _, _, _, _, _ => none
 | k + 1, x0, x1, x62, x63, x64, x554000, x554001, x554002, x571000, x571001, x571002, x571003, x571004, x571005, x571006 => if x64 < x63 then (if 0 ≤ x64 then (if x64 < (x62.length : Int) then (if 0 ≤ (rd x62 x64) then (if (rd x62 x64) < (x0.length : Int) then (if 0 ≤ ((rd_T77 x0 (rd x62 x64)).f0) then (if ((rd_T77 x0 (rd x62 x64)).f0) < (x554000.length : Int) then (if x571004.length < 17592186044416 then (impl_measureOf.l2 k x0 x1 (rd x62 x64) (([] : List Int)) x62 x63 x64 x571001 (x571001.length : Int) 0 x554000 x554001 x554002 x571000 x571001 x571002 x571003 (x571004 ++ [rd x554000 ((rd_T77 x0 (rd x62 x64)).f0)]) x571005 x571006) else (none)) else (none)) else (none)) else (none)) else (none)) else (none)) else (none)) else (some (x571000, x571001, x571002, x571003, x571004, x571005, x571006, true))
def impl_measureOf.l2 : Nat → List (S77) → List (S77) → Int → List Int → List Int → Int → Int → List Int → Int → Int → List Int → List Int → List Int → List Int → List Int → List Int → List Int → List Int → List Int → List (List Int) → Option (List Int × List Int × List Int × List Int × List Int × List Int × (List (List Int)) × Bool)
 | 0, _, _, _, _, _, _, _, _, _, _, _, _, _, _, _, _, _, _, _, _ => none
 | k + 1, x0, x1, x12, x13, x62, x63, x64, x84, x85, x86, x554000, x554001, x554002, x571000, x571001, x571002, x571003, x571004, x571005, x571006 => if x86 < x85 then (if 0 ≤ x86 then (if x86 < (x84.length : Int) then (if 0 ≤ x12 then (if x12 < (x0.length : Int) then (if 0 ≤ (rd x84 x86) then (if (rd x84 x86) < (x1.length : Int) then (if 0 ≤ (wrap64 ((wrap64 (((rd_T77 x0 x12).f0) * 6)) + ((rd_T77 x1 (rd x84 x86)).f0))) then (if (wrap64 ((wrap64 (((rd_T77 x0 x12).f0) * 6)) + ((rd_T77 x1 (rd x84 x86)).f0))) < (x554002.length : Int) then (if x13.length < 17592186044416 then (impl_measureOf.l2 k x0 x1 x12 (x13 ++ [rd x554002 (wrap64 ((wrap64 (((rd_T77 x0 x12).f0) * 6)) + ((rd_T77 x1 (rd x84 x86)).f0)))]) x62 x63 x64 x84 x85 (wrap64 (x86 + 1)) x554000 x554001 x554002 x571000 x571001 x571002 x571003 x571004 x571005 x571006) else (none)) else (none)) else (none)) else (none)) else (none)) else (none)) else (none)) else (none)) else (none)) else (if x571006.length < 5864062014805 then (impl_measureOf.l1 k x0 x1 x62 x63 (wrap64 (x64 + 1)) x554000 x554001 x554002 x571000 x571001 x571002 x571003 x571004 x571005 (x571006 ++ [x13])) else (none))
end
def impl_measureOf.f (k : Nat) (l0 : List (S77)) (l1 : List (S77)) (l2_0 : List Int) (l2_1 : List Int) (l2_2 : List Int) : Option (List Int × List Int × List Int × List Int × List Int × List Int × (List (List Int)) × Bool) := (impl_TreeOk.f k l0).bind fun t555 => (if t555 = true then ((impl_TreeOk.f k l1).bind fun t556 => (if t556 = true then ((impl_CostOk.f k l2_0 l2_1 l2_2).bind fun t557 => (impl_measureOf.j0 k l0 l1 (!t557) l2_0 l2_1 l2_2)) else (impl_measureOf.j0 k l0 l1 true l2_0 l2_1 l2_2))) else (impl_measureOf.j0 k l0 l1 true l2_0 l2_1 l2_2))
theorem impl_measureOf.mono_l : ∀ k, (∀ y0 y1 y2 y3 y4 y5, LeO (impl_measureOf.j0 k y0 y1 y2 y3 y4 y5) (impl_measureOf.j0 (k + 1) y0 y1 y2 y3 y4 y5)) ∧ (∀ y0 y1 y2 y3 y4 y5 y6 y7 y8 y9 y10 y11 y12, LeO (impl_measureOf.l0 k y0 y1 y2 y3 y4 y5 y6 y7 y8 y9 y10 y11 y12) (impl_measureOf.l0 (k + 1) y0 y1 y2 y3 y4 y5 y6 y7 y8 y9 y10 y11 y12)) ∧ (∀ y0 y1 y2 y3 y4 y5 y6 y7 y8 y9 y10 y11 y12 y13 y14, LeO (impl_measureOf.l1 k y0 y1 y2 y3 y4 y5 y6 y7 y8 y9 y10 y11 y12 y13 y14) (impl_measureOf.l1 (k + 1) y0 y1 y2 y3 y4 y5 y6 y7 y8 y9 y10 y11 y12 y13 y14)) ∧ (∀ y0 y1 y2 y3 y4 y5 y6 y7 y8 y9 y10 y11 y12 y13 y14 y15 y16 y17 y18 y19, LeO (impl_measureOf.l2 k y0 y1 y2 y3 y4 y5 y6 y7 y8 y9 y10 y11 y12 y13 y14 y15 y16 y17 y18 y19) (impl_measureOf.l2 (k + 1) y0 y1 y2 y3 y4 y5 y6 y7 y8 y9 y10 y11 y12 y13 y14 y15 y16 y17 y18 y19))
 | 0 => ⟨fun _ _ _ _ _ _ r h => by simp [impl_measureOf.j0] at h, fun _ _ _ _ _ _ _ _ _ _ _ _ _ r h => by simp [impl_measureOf.l0] at h, fun _ _ _ _ _ _ _ _ _ _ _ _ _ _ _ r h => by simp [impl_measureOf.l1] at h, fun _ _ _ _ _ _ _ _ _ _ _ _ _ _ _ _ _ _ _ _ r h => by simp [impl_measureOf.l2] at h⟩
 | k + 1 => by
  obtain ⟨ih0, ih1, ih2, ih3⟩ := impl_measureOf.mono_l k
  refine ⟨?_, ?_, ?_, ?_⟩
  ·intro y0 y1 y2 y3 y4 y5
   unfold impl_measureOf.j0
   repeat' first
   | (with_reducible exact ih0 _ _ _ _ _ _)
   | (with_reducible exact ih1 _ _ _ _ _ _ _ _ _ _ _ _ _)
   | (with_reducible exact ih2 _ _ _ _ _ _ _ _ _ _ _ _ _ _ _)
   | (with_reducible exact ih3 _ _ _ _ _ _ _ _ _ _ _ _ _ _ _ _ _ _ _ _)
   | (with_reducible exact impl_CostOk.mono _ _ _ _)
   | (with_reducible exact impl_LeftLeaf.mono _ _)
   | (with_reducible exact impl_PostOrder.mono _ _)
   | (with_reducible exact impl_TreeOk.mono _ _)
   | (with_reducible exact LeO.refl _)
   | (with_reducible exact LeO.none _)
   | (with_reducible refine LeO.ite ?_ ?_)
   | (with_reducible refine LeO.bind ?_ (fun _ => ?_))
   | exact ih0 _ _ _ _ _ _
   | exact ih1 _ _ _ _ _ _ _ _ _ _ _ _ _
   | exact ih2 _ _ _ _ _ _ _ _ _ _ _ _ _ _ _
   | exact ih3 _ _ _ _ _ _ _ _ _ _ _ _ _ _ _ _ _ _ _ _
   | exact impl_CostOk.mono _ _ _ _
   | exact impl_LeftLeaf.mono _ _
   | exact impl_PostOrder.mono _ _
   | exact impl_TreeOk.mono _ _
   | exact LeO.none _
   | refine LeO.ite ?_ ?_
   | refine LeO.bind ?_ (fun _ => ?_)
  ·intro y0 y1 y2 y3 y4 y5 y6 y7 y8 y9 y10 y11 y12
   unfold impl_measureOf.l0
   repeat' first
   | (with_reducible exact ih0 _ _ _ _ _ _)
   | (with_reducible exact ih1 _ _ _ _ _ _ _ _ _ _ _ _ _)
   | (with_reducible exact ih2 _ _ _ _ _ _ _ _ _ _ _ _ _ _ _)
   | (with_reducible exact ih3 _ _ _ _ _ _ _ _ _ _ _ _ _ _ _ _ _ _ _ _)
   | (with_reducible exact impl_CostOk.mono _ _ _ _)
   | (with_reducible exact impl_LeftLeaf.mono _ _)
   | (with_reducible exact impl_PostOrder.mono _ _)
   | (with_reducible exact impl_TreeOk.mono _ _)
   | (with_reducible exact LeO.refl _)
   | (with_reducible exact LeO.none _)
   | (with_reducible refine LeO.ite ?_ ?_)
   | (with_reducible refine LeO.bind ?_ (fun _ => ?_))
   | exact ih0 _ _ _ _ _ _
   | exact ih1 _ _ _ _ _ _ _ _ _ _ _ _ _
   | exact ih2 _ _ _ _ _ _ _ _ _ _ _ _ _ _ _
   | exact ih3 _ _ _ _ _ _ _ _ _ _ _ _ _ _ _ _ _ _ _ _
   | exact impl_CostOk.mono _ _ _ _
   | exact impl_LeftLeaf.mono _ _
   | exact impl_PostOrder.mono _ _
   | exact impl_TreeOk.mono _ _
   | exact LeO.none _
   | refine LeO.ite ?_ ?_
   | refine LeO.bind ?_ (fun _ => ?_)
  ·intro y0 y1 y2 y3 y4 y5 y6 y7 y8 y9 y10 y11 y12 y13 y14
   unfold impl_measureOf.l1
   repeat' first
   | (with_reducible exact ih0 _ _ _ _ _ _)
   | (with_reducible exact ih1 _ _ _ _ _ _ _ _ _ _ _ _ _)
   | (with_reducible exact ih2 _ _ _ _ _ _ _ _ _ _ _ _ _ _ _)
   | (with_reducible exact ih3 _ _ _ _ _ _ _ _ _ _ _ _ _ _ _ _ _ _ _ _)
   | (with_reducible exact impl_CostOk.mono _ _ _ _)
   | (with_reducible exact impl_LeftLeaf.mono _ _)
   | (with_reducible exact impl_PostOrder.mono _ _)
   | (with_reducible exact impl_TreeOk.mono _ _)
   | (with_reducible exact LeO.refl _)
   | (with_reducible exact LeO.none _)
   | (with_reducible refine LeO.ite ?_ ?_)
   | (with_reducible refine LeO.bind ?_ (fun _ => ?_))
   | exact ih0 _ _ _ _ _ _
   | exact ih1 _ _ _ _ _ _ _ _ _ _ _ _ _
   | exact ih2 _ _ _ _ _ _ _ _ _ _ _ _ _ _ _
   | exact ih3 _ _ _ _ _ _ _ _ _ _ _ _ _ _ _ _ _ _ _ _
   | exact impl_CostOk.mono _ _ _ _
   | exact impl_LeftLeaf.mono _ _
   | exact impl_PostOrder.mono _ _
   | exact impl_TreeOk.mono _ _
   | exact LeO.none _
   | refine LeO.ite ?_ ?_
   | refine LeO.bind ?_ (fun _ => ?_)
  ·intro y0 y1 y2 y3 y4 y5 y6 y7 y8 y9 y10 y11 y12 y13 y14 y15 y16 y17 y18 y19
   unfold impl_measureOf.l2
   repeat' first
   | (with_reducible exact ih0 _ _ _ _ _ _)
   | (with_reducible exact ih1 _ _ _ _ _ _ _ _ _ _ _ _ _)
   | (with_reducible exact ih2 _ _ _ _ _ _ _ _ _ _ _ _ _ _ _)
   | (with_reducible exact ih3 _ _ _ _ _ _ _ _ _ _ _ _ _ _ _ _ _ _ _ _)
   | (with_reducible exact impl_CostOk.mono _ _ _ _)
   | (with_reducible exact impl_LeftLeaf.mono _ _)
   | (with_reducible exact impl_PostOrder.mono _ _)
   | (with_reducible exact impl_TreeOk.mono _ _)
   | (with_reducible exact LeO.refl _)
   | (with_reducible exact LeO.none _)
   | (with_reducible refine LeO.ite ?_ ?_)
   | (with_reducible refine LeO.bind ?_ (fun _ => ?_))
   | exact ih0 _ _ _ _ _ _
   | exact ih1 _ _ _ _ _ _ _ _ _ _ _ _ _
   | exact ih2 _ _ _ _ _ _ _ _ _ _ _ _ _ _ _
   | exact ih3 _ _ _ _ _ _ _ _ _ _ _ _ _ _ _ _ _ _ _ _
   | exact impl_CostOk.mono _ _ _ _
   | exact impl_LeftLeaf.mono _ _
   | exact impl_PostOrder.mono _ _
   | exact impl_TreeOk.mono _ _
   | exact LeO.none _
   | refine LeO.ite ?_ ?_
   | refine LeO.bind ?_ (fun _ => ?_)
theorem impl_measureOf.mono : ∀ a0 a1 a2 a3 a4 k, LeO (impl_measureOf.f k a0 a1 a2 a3 a4) (impl_measureOf.f (k + 1) a0 a1 a2 a3 a4) := by
 intro a0 a1 a2 a3 a4 k
 obtain ⟨ih0, ih1, ih2, ih3⟩ := impl_measureOf.mono_l k
 unfold impl_measureOf.f
 repeat' first
   | (with_reducible exact ih0 _ _ _ _ _ _)
   | (with_reducible exact ih1 _ _ _ _ _ _ _ _ _ _ _ _ _)
   | (with_reducible exact ih2 _ _ _ _ _ _ _ _ _ _ _ _ _ _ _)
   | (with_reducible exact ih3 _ _ _ _ _ _ _ _ _ _ _ _ _ _ _ _ _ _ _ _)
   | (with_reducible exact impl_CostOk.mono _ _ _ _)
   | (with_reducible exact impl_LeftLeaf.mono _ _)
   | (with_reducible exact impl_PostOrder.mono _ _)
   | (with_reducible exact impl_TreeOk.mono _ _)
   | (with_reducible exact LeO.refl _)
   | (with_reducible exact LeO.none _)
   | (with_reducible refine LeO.ite ?_ ?_)
   | (with_reducible refine LeO.bind ?_ (fun _ => ?_))
   | exact ih0 _ _ _ _ _ _
   | exact ih1 _ _ _ _ _ _ _ _ _ _ _ _ _
   | exact ih2 _ _ _ _ _ _ _ _ _ _ _ _ _ _ _
   | exact ih3 _ _ _ _ _ _ _ _ _ _ _ _ _ _ _ _ _ _ _ _
   | exact impl_CostOk.mono _ _ _ _
   | exact impl_LeftLeaf.mono _ _
   | exact impl_PostOrder.mono _ _
   | exact impl_TreeOk.mono _ _
   | exact LeO.none _
   | refine LeO.ite ?_ ?_
   | refine LeO.bind ?_ (fun _ => ?_)
def impl_measureOf.T7 : Bool × List (List Nat × List Nat) := (true, [([], []), ([0], [0]), ([], []), ([2], [2]), ([], []), ([], []), ([4, 5], [4, 5]), ([6], [6]), ([7], [7]), ([3, 8], [3, 8]), ([9], [9]), ([10], [10]), ([1, 11], [1, 11]), ([0, 1, 2, 3, 4, 5, 6, 7, 8, 9, 10, 11, 12], []), ([13, 12, 12, 0, 1, 2, 3, 4, 5, 6, 7, 8, 9, 10, 11, 12], [12, 13])])
def impl_measureOf.B7 : List Nat := [0, 1, 0, 4, 0, 0, 48, 112, 240, 508, 1020, 2044, 4095, 8191, 16383]
theorem impl_measureOf.tab7 : rtab .any (opsOf Try.f77 7) = impl_measureOf.T7 := by kernel_rfl
theorem impl_measureOf.bits7 : waitsOk impl_measureOf.T7.2 impl_measureOf.B7 = true := by kernel_rfl
def impl_measureOf.T12 : Bool × List (List Nat × List Nat) := (true, [([], []), ([0], [0]), ([], []), ([2], [2]), ([], []), ([], []), ([4, 5], [4, 5]), ([6], [6]), ([7], [7]), ([3, 8], [3, 8]), ([9], [9]), ([10], [10]), ([1, 11], [1, 11]), ([0, 1, 2, 3, 4, 5, 6, 7, 8, 9, 10, 11, 12], []), ([13, 12, 12, 0, 1, 2, 3, 4, 5, 6, 7, 8, 9, 10, 11, 12], [12, 13])])
def impl_measureOf.B12 : List Nat := [0, 1, 0, 4, 0, 0, 48, 112, 240, 508, 1020, 2044, 4095, 8191, 16383]
theorem impl_measureOf.tab12 : rtab .any (opsOf Try.f77 12) = impl_measureOf.T12 := by kernel_rfl
theorem impl_measureOf.bits12 : waitsOk impl_measureOf.T12.2 impl_measureOf.B12 = true := by kernel_rfl
def impl_measureOf.T17 : Bool × List (List Nat × List Nat) := (true, [([], []), ([], []), ([1], [1]), ([], []), ([], []), ([3, 4], [3, 4]), ([5], [5]), ([6], [6]), ([7], [7]), ([], []), ([], []), ([9, 10], [9, 10]), ([11], [11]), ([12], [12]), ([8, 13], [8, 13]), ([2, 14], [2, 14]), ([15], [15]), ([16], [16]), ([0, 17], [0, 17]), ([18, 18, 0, 1, 2, 3, 4, 5, 6, 7, 8, 9, 10, 11, 12, 13, 14, 15, 16, 17, 18], [0, 18])])
def impl_measureOf.B17 : List Nat := [0, 0, 2, 0, 0, 24, 56, 120, 248, 0, 0, 1536, 3584, 7680, 16376, 32766, 65534, 131070, 262143, 524287]
theorem impl_measureOf.tab17 : rtab .any (opsOf Try.f77 17) = impl_measureOf.T17 := by kernel_rfl
theorem impl_measureOf.bits17 : waitsOk impl_measureOf.T17.2 impl_measureOf.B17 = true := by kernel_rfl
set_option maxHeartbeats 8000000 in
set_option maxRecDepth 100000 in
theorem impl_measureOf.calls (k : Nat) (A0 : Option Addr) (c0 : Nat) (l0 : List (S77)) (A1 : Option Addr) (c1 : Nat) (l1 : List (S77)) (A2_0 : Option Addr) (c2_0 : Nat) (l2_0 : List Int) (A2_1 : Option Addr) (c2_1 : Nat) (l2_1 : List Int) (A2_2 : Option Addr) (c2_2 : Nat) (l2_2 : List Int) (r1 : List Int) (r2 : List Int) (r3 : List Int) (r4 : List Int) (r5 : List Int) (r6 : List Int) (r7 : List (List Int)) (r8 : Bool) (w : World) (hr0 : Kd.C k77 w A0 l0.length l0) (hc0 : l0.length ≤ c0) (hr1 : Kd.C k77 w A1 l1.length l1) (hc1 : l1.length ≤ c1) (hr2_0 : Kd.C (Kd.int .i64) w A2_0 l2_0.length l2_0) (hc2_0 : l2_0.length ≤ c2_0) (hr2_1 : Kd.C (Kd.int .i64) w A2_1 l2_1.length l2_1) (hc2_1 : l2_1.length ≤ c2_1) (hr2_2 : Kd.C (Kd.int .i64) w A2_2 l2_2.length l2_2) (hc2_2 : l2_2.length ≤ c2_2) (h : impl_measureOf.f k l0 l1 l2_0 l2_1 l2_2 = some (r1, r2, r3, r4, r5, r6, r7, r8)) :
  Calls Try.prog 77 #[.slice A0 l0.length c0, .slice A1 l1.length c1, .agg #[.slice A2_0 l2_0.length c2_0, .slice A2_1 l2_1.length c2_1, .slice A2_2 l2_2.length c2_2]] w fun e w' => ∃ v0_ v1_ v2_ v3_ v4_ v5_ v6_ : Value, e = .returned (.tuple #[.agg #[v0_, v1_, v2_, v3_, v4_, v5_, v6_], .bool r8]) ∧ Kd.R (Kd.int .i64) 3 w' w.heap.size (fun k_ => some k_ ≠ (v1_ : Value).ownBlock ∧ some k_ ≠ (v2_ : Value).ownBlock ∧ some k_ ≠ (v3_ : Value).ownBlock ∧ some k_ ≠ (v4_ : Value).ownBlock ∧ some k_ ≠ (v5_ : Value).ownBlock) v0_ r1 ∧ Kd.R (Kd.int .i64) 3 w' w.heap.size (fun k_ => some k_ ≠ (v0_ : Value).ownBlock ∧ some k_ ≠ (v2_ : Value).ownBlock ∧ some k_ ≠ (v3_ : Value).ownBlock ∧ some k_ ≠ (v4_ : Value).ownBlock ∧ some k_ ≠ (v5_ : Value).ownBlock) v1_ r2 ∧ Kd.R (Kd.int .i64) 3 w' w.heap.size (fun k_ => some k_ ≠ (v0_ : Value).ownBlock ∧ some k_ ≠ (v1_ : Value).ownBlock ∧ some k_ ≠ (v3_ : Value).ownBlock ∧ some k_ ≠ (v4_ : Value).ownBlock ∧ some k_ ≠ (v5_ : Value).ownBlock) v2_ r3 ∧ Kd.R (Kd.int .i64) 3 w' w.heap.size (fun k_ => some k_ ≠ (v0_ : Value).ownBlock ∧ some k_ ≠ (v1_ : Value).ownBlock ∧ some k_ ≠ (v2_ : Value).ownBlock ∧ some k_ ≠ (v4_ : Value).ownBlock ∧ some k_ ≠ (v5_ : Value).ownBlock) v3_ r4 ∧ Kd.R (Kd.int .i64) 3 w' w.heap.size (fun k_ => some k_ ≠ (v0_ : Value).ownBlock ∧ some k_ ≠ (v1_ : Value).ownBlock ∧ some k_ ≠ (v2_ : Value).ownBlock ∧ some k_ ≠ (v3_ : Value).ownBlock ∧ some k_ ≠ (v5_ : Value).ownBlock) v4_ r5 ∧ Kd.R (Kd.int .i64) 3 w' w.heap.size (fun k_ => some k_ ≠ (v0_ : Value).ownBlock ∧ some k_ ≠ (v1_ : Value).ownBlock ∧ some k_ ≠ (v2_ : Value).ownBlock ∧ some k_ ≠ (v3_ : Value).ownBlock ∧ some k_ ≠ (v4_ : Value).ownBlock) v5_ r6 ∧ Kd.S (Kd.slice 3 (Kd.int .i64)) 25 w' w.heap.size (fun k_ => some k_ ≠ (v0_ : Value).ownBlock ∧ some k_ ≠ (v1_ : Value).ownBlock ∧ some k_ ≠ (v2_ : Value).ownBlock ∧ some k_ ≠ (v3_ : Value).ownBlock ∧ some k_ ≠ (v4_ : Value).ownBlock ∧ some k_ ≠ (v5_ : Value).ownBlock) v6_ r7 ∧ Below w.heap.size w w' := by
 have hu27 := Try.underlying27
 have hu92 := Try.underlying92
 have HR0 := Aside0.mk hr0
 have HC0 := Aside0.mk hc0
 clear hr0 hc0
 have HR1 := Aside0.mk hr1
 have HC1 := Aside0.mk hc1
 clear hr1 hc1
 have HR2_0 := Aside0.mk hr2_0
 have HC2_0 := Aside0.mk hc2_0
 clear hr2_0 hc2_0
 have HR2_1 := Aside0.mk hr2_1
 have HC2_1 := Aside0.mk hc2_1
 clear hr2_1 hc2_1
 have HR2_2 := Aside0.mk hr2_2
 have HC2_2 := Aside0.mk hc2_2
 clear hr2_2 hc2_2
 have HB := Aside0.mk (Below.refl w.heap.size w)
 have H : ((impl_TreeOk.f k l0).bind fun t555 => (if t555 = true then ((impl_TreeOk.f k l1).bind fun t556 => (if t556 = true then ((impl_CostOk.f k l2_0 l2_1 l2_2).bind fun t557 => (impl_measureOf.j0 k l0 l1 (!t557) l2_0 l2_1 l2_2)) else (impl_measureOf.j0 k l0 l1 true l2_0 l2_1 l2_2))) else (impl_measureOf.j0 k l0 l1 true l2_0 l2_1 l2_2))) = some (r1, r2, r3, r4, r5, r6, r7, r8) := h
 clear h
 have HC4 := Aside0.mk H
 clear H
 go_enter Try.func77, Try.ntmps77
 go_upto_region 1 with (first | ((with_reducible refine gate_dst (N := 5) rfl ?_); refine bx_ 5 #[.slice A2_0 l2_0.length c2_0, .slice A2_1 l2_1.length c2_1, .slice A2_2 l2_2.length c2_2] 27 ?_; intro gb553 hg w5 hbox hb; have BK553 := Aside0.mk (hbox); have GW553 := Aside0.mk ((by rw [hg]; exact (bs_ HB) : w.heap.size ≤ gb553)); have GE553 := Aside0.mk ((by rw [hg]; exact (bs_ HB) : w.heap.size ≤ gb553)); replace HB := tB_ HB hb; clear hb hbox hg) | ((with_reducible refine gate_dst (N := 6) rfl ?_); refine bx_ 6 #[.slice none 0 0, .slice none 0 0, .slice none 0 0, .slice none 0 0, .slice none 0 0, .slice none 0 0, .slice none 0 0] 92 ?_; intro gb554 hg w6 hbox hb; have BK554 := Aside0.mk (hbox); have GW554 := Aside0.mk ((by rw [hg]; exact (bs_ HB) : w.heap.size ≤ gb554)); have GE554 := Aside0.mk ((by rw [hg]; exact (bs_ HB) : w.heap.size ≤ gb554)); replace HB := tB_ HB hb; have NB553_554 := Aside0.mk ((by rw [hg]; exact Nat.ne_of_lt (blk_lt (g := gb553) (o := .cells #[.slice A2_0 l2_0.length c2_0, .slice A2_1 l2_1.length c2_1, .slice A2_2 l2_2.length c2_2] 27 (0, 0)) (kx_ BK553.out)) : gb553 ≠ gb554)); have NB554_553 := Aside0.mk ((by rw [hg]; exact Nat.ne_of_gt (blk_lt (g := gb553) (o := .cells #[.slice A2_0 l2_0.length c2_0, .slice A2_1 l2_1.length c2_1, .slice A2_2 l2_2.length c2_2] 27 (0, 0)) (kx_ BK553.out)) : gb554 ≠ gb553)); replace BK553 := tK_ BK553 hb; clear hb hbox hg))
 (try simp only [Act.put, List.setIfInBounds_toArray, List.set_cons_zero, List.set_cons_succ])
 go_cut [28] (fun v28 wc => ∃ (kq : Nat) (x28_3 : Bool), v28 = .bool x28_3 ∧ Aside0 (impl_measureOf.j0 kq l0 l1 x28_3 l2_0 l2_1 l2_2 = some (r1, r2, r3, r4, r5, r6, r7, r8)) ∧ Aside0 (kq ≤ k) ∧ Aside0 (wc.heap[gb553]? = some (.cells #[(.slice A2_0 l2_0.length c2_0), (.slice A2_1 l2_1.length c2_1), (.slice A2_2 l2_2.length c2_2)] 27 (0, 0))) ∧ Aside0 (wc.heap[gb554]? = some (.cells #[(.slice none 0 0), (.slice none 0 0), (.slice none 0 0), (.slice none 0 0), (.slice none 0 0), (.slice none 0 0), (.slice none 0 0)] 92 (0, 0))) ∧ Aside0 (Below w.heap.size w wc))
 case first =>
  have H := HC4.out
  clear HC4
  replace H := Option.bind_eq_some_iff.mp H
  obtain ⟨t555, A70, H⟩ := H
  try dsimp only at H
  have A7 := Aside0.mk A70
  clear A70
  by_cases c8 : t555 = true
  ·subst c8
   have H1 : ((impl_TreeOk.f k l1).bind fun t556 => (if t556 = true then ((impl_CostOk.f k l2_0 l2_1 l2_2).bind fun t557 => (impl_measureOf.j0 k l0 l1 (!t557) l2_0 l2_1 l2_2)) else (impl_measureOf.j0 k l0 l1 true l2_0 l2_1 l2_2))) = some (r1, r2, r3, r4, r5, r6, r7, r8) := by rw [if_pos rfl] at H; exact H
   clear H
   have H := H1
   clear H1
   replace H := Option.bind_eq_some_iff.mp H
   obtain ⟨t556, A90, H⟩ := H
   try dsimp only at H
   have A9 := Aside0.mk A90
   clear A90
   by_cases c10 : t556 = true
   ·subst c10
    have H1 : ((impl_CostOk.f k l2_0 l2_1 l2_2).bind fun t557 => (impl_measureOf.j0 k l0 l1 (!t557) l2_0 l2_1 l2_2)) = some (r1, r2, r3, r4, r5, r6, r7, r8) := by rw [if_pos rfl] at H; exact H
    clear H
    have H := H1
    clear H1
    replace H := Option.bind_eq_some_iff.mp H
    obtain ⟨t557, A110, H⟩ := H
    replace H : (impl_measureOf.j0 k l0 l1 (!t557) l2_0 l2_1 l2_2) = some (r1, r2, r3, r4, r5, r6, r7, r8) := H
    have A11 := Aside0.mk A110
    clear A110
    have H' := Aside0.mk H
    clear H
    go_wp2_with (first | ((with_reducible refine gate_callee (f := 59) rfl ?_); refine gL_ (some 17) Try.func59 #[.slice A0 l0.length c0] ?_; (with_reducible refine (impl_TreeOk.calls k _ _ l0 true _ (cx_ HR0 HB) HC0.out A7.out).mono ?_); rintro e w12 ⟨rfl, hb⟩; refine ⟨_, rfl, ?_⟩; replace BK553 := tK_ BK553 hb; replace BK554 := tK_ BK554 hb; replace HB := tB_ HB hb; (try clear hb)) | (go_at_call 59; (with_reducible refine (impl_TreeOk.calls k _ _ l1 true _ (cx_ HR1 HB) HC1.out A9.out).mono ?_); rintro e w13 ⟨rfl, hb⟩; replace BK553 := tK_ BK553 hb; replace BK554 := tK_ BK554 hb; replace HB := tB_ HB hb; (try clear hb); have hnb14 := NB553_554.out; have hnc14 := NB554_553.out; obtain ⟨hcz15_0, hcz15_1, hcz15_2, hfz15_0, hfz15_1, hfz15_2⟩ := bk3_ BK553) | (go_at_call 66; (with_reducible refine (impl_CostOk.calls k _ _ l2_0 _ _ l2_1 _ _ l2_2 t557 _ (cx_ HR2_0 HB) HC2_0.out (cx_ HR2_1 HB) HC2_1.out (cx_ HR2_2 HB) HC2_2.out A11.out).mono ?_); rintro e w16 ⟨rfl, hb⟩; replace BK553 := tK_ BK553 hb; replace BK554 := tK_ BK554 hb; replace HB := tB_ HB hb; (try clear hb)))
    go_meet
    case rel => exact ⟨_, (!t557), eb_, H', ⟨by first | omega | exact Nat.le_refl _⟩, ⟨kx_ BK553.out⟩, ⟨kx_ BK554.out⟩, bl_ HB⟩
   ·replace c10 := Bool.eq_false_iff.mpr c10
    subst c10
    have H1 : (impl_measureOf.j0 k l0 l1 true l2_0 l2_1 l2_2) = some (r1, r2, r3, r4, r5, r6, r7, r8) := by rw [if_neg (show ¬ (false = true) by decide)] at H; exact H
    clear H
    have H := H1
    clear H1
    have H' := Aside0.mk H
    clear H
    go_wp2_with (first | ((with_reducible refine gate_callee (f := 59) rfl ?_); refine gL_ (some 17) Try.func59 #[.slice A0 l0.length c0] ?_; (with_reducible refine (impl_TreeOk.calls k _ _ l0 true _ (cx_ HR0 HB) HC0.out A7.out).mono ?_); rintro e w17 ⟨rfl, hb⟩; refine ⟨_, rfl, ?_⟩; replace BK553 := tK_ BK553 hb; replace BK554 := tK_ BK554 hb; replace HB := tB_ HB hb; (try clear hb)) | (go_at_call 59; (with_reducible refine (impl_TreeOk.calls k _ _ l1 false _ (cx_ HR1 HB) HC1.out A9.out).mono ?_); rintro e w18 ⟨rfl, hb⟩; replace BK553 := tK_ BK553 hb; replace BK554 := tK_ BK554 hb; replace HB := tB_ HB hb; (try clear hb)))
    go_meet
    case rel => exact ⟨_, (true), eb_, H', ⟨by first | omega | exact Nat.le_refl _⟩, ⟨kx_ BK553.out⟩, ⟨kx_ BK554.out⟩, bl_ HB⟩
  ·replace c8 := Bool.eq_false_iff.mpr c8
   subst c8
   have H1 : (impl_measureOf.j0 k l0 l1 true l2_0 l2_1 l2_2) = some (r1, r2, r3, r4, r5, r6, r7, r8) := by rw [if_neg (show ¬ (false = true) by decide)] at H; exact H
   clear H
   have H := H1
   clear H1
   have H' := Aside0.mk H
   clear H
   go_wp2_with (first | ((with_reducible refine gate_callee (f := 59) rfl ?_); refine gL_ (some 17) Try.func59 #[.slice A0 l0.length c0] ?_; (with_reducible refine (impl_TreeOk.calls k _ _ l0 false _ (cx_ HR0 HB) HC0.out A7.out).mono ?_); rintro e w19 ⟨rfl, hb⟩; refine ⟨_, rfl, ?_⟩; replace BK553 := tK_ BK553 hb; replace BK554 := tK_ BK554 hb; replace HB := tB_ HB hb; (try clear hb)))
   go_meet
   case rel => exact ⟨_, (true), eb_, H', ⟨by first | omega | exact Nat.le_refl _⟩, ⟨kx_ BK553.out⟩, ⟨kx_ BK554.out⟩, bl_ HB⟩
 case rest =>
  clear HC4
  try clear c1
  try clear c2
  try clear p2
  try clear c5
  try clear c7
  try clear c8
  try clear c10
  try clear c14
  try clear hcz15_0
  try clear hcz15_1
  try clear hcz15_2
  try clear hfz15_0
  try clear hfz15_1
  try clear hfz15_2
  obtain ⟨kq, x28_3, rfl, HA, HJ3, BK553, BK554, HB⟩ := hcut
  cases kq with
  | zero => exact absurd HA.out (by simp [impl_measureOf.j0])
  | succ kj3 =>
   have H := HA.out
   clear HA
   simp only [impl_measureOf.j0] at H
   by_cases c20 : x28_3 = true
   ·subst c20
    have H1 : (some (([] : List Int), ([] : List Int), ([] : List Int), ([] : List Int), ([] : List Int), ([] : List Int), ([] : List (List Int)), false)) = some (r1, r2, r3, r4, r5, r6, r7, r8) := by rw [if_pos rfl] at H; exact H
    clear H
    have H := H1
    clear H1
    simp only [Option.some.injEq, Prod.mk.injEq] at H
    obtain ⟨rfl, rfl, rfl, rfl, rfl, rfl, rfl, rfl⟩ := H
    have hnb21 := NB554_553.out
    have hnc21 := NB553_554.out
    have hcz22_0 : wc.cell? ⟨gb554, 0, none⟩ = some (.slice none 0 0) := (blk_cell BK554.out 0).trans rfl
    have hcz22_1 : wc.cell? ⟨gb554, 1, none⟩ = some (.slice none 0 0) := (blk_cell BK554.out 1).trans rfl
    have hcz22_2 : wc.cell? ⟨gb554, 2, none⟩ = some (.slice none 0 0) := (blk_cell BK554.out 2).trans rfl
    have hcz22_3 : wc.cell? ⟨gb554, 3, none⟩ = some (.slice none 0 0) := (blk_cell BK554.out 3).trans rfl
    have hcz22_4 : wc.cell? ⟨gb554, 4, none⟩ = some (.slice none 0 0) := (blk_cell BK554.out 4).trans rfl
    have hcz22_5 : wc.cell? ⟨gb554, 5, none⟩ = some (.slice none 0 0) := (blk_cell BK554.out 5).trans rfl
    have hcz22_6 : wc.cell? ⟨gb554, 6, none⟩ = some (.slice none 0 0) := (blk_cell BK554.out 6).trans rfl
    have hfz22_0 := blk_frozen BK554.out 0
    have hfz22_1 := blk_frozen BK554.out 1
    have hfz22_2 := blk_frozen BK554.out 2
    have hfz22_3 := blk_frozen BK554.out 3
    have hfz22_4 := blk_frozen BK554.out 4
    have hfz22_5 := blk_frozen BK554.out 5
    have hfz22_6 := blk_frozen BK554.out 6
    go_wp2
    refine bodyPost_ret (results_ct rfl _ _ gb554 92 #[.slice none 0 0, .slice none 0 0, .slice none 0 0, .slice none 0 0, .slice none 0 0, .slice none 0 0, .slice none 0 0] (0, 0) _ rfl (by (with_reducible repeat (first | refine blk_drewN ?_ _ | refine blk_drew ?_ | refine blk_alloc ?_ _)); refine blk_put (cs := #[.slice none 0 0, .slice none 0 0, .slice none 0 0, .slice none 0 0, .slice none 0 0, .slice none 0 0, .slice none 0 0]) ?_ 6 _ rfl; (with_reducible repeat (first | refine blk_drewN ?_ _ | refine blk_drew ?_ | refine blk_alloc ?_ _)); refine blk_put (cs := #[.slice none 0 0, .slice none 0 0, .slice none 0 0, .slice none 0 0, .slice none 0 0, .slice none 0 0, .slice none 0 0]) ?_ 5 _ rfl; (with_reducible repeat (first | refine blk_drewN ?_ _ | refine blk_drew ?_ | refine blk_alloc ?_ _)); refine blk_put (cs := #[.slice none 0 0, .slice none 0 0, .slice none 0 0, .slice none 0 0, .slice none 0 0, .slice none 0 0, .slice none 0 0]) ?_ 4 _ rfl; (with_reducible repeat (first | refine blk_drewN ?_ _ | refine blk_drew ?_ | refine blk_alloc ?_ _)); refine blk_put (cs := #[.slice none 0 0, .slice none 0 0, .slice none 0 0, .slice none 0 0, .slice none 0 0, .slice none 0 0, .slice none 0 0]) ?_ 3 _ rfl; (with_reducible repeat (first | refine blk_drewN ?_ _ | refine blk_drew ?_ | refine blk_alloc ?_ _)); refine blk_put (cs := #[.slice none 0 0, .slice none 0 0, .slice none 0 0, .slice none 0 0, .slice none 0 0, .slice none 0 0, .slice none 0 0]) ?_ 2 _ rfl; (with_reducible repeat (first | refine blk_drewN ?_ _ | refine blk_drew ?_ | refine blk_alloc ?_ _)); refine blk_put (cs := #[.slice none 0 0, .slice none 0 0, .slice none 0 0, .slice none 0 0, .slice none 0 0, .slice none 0 0, .slice none 0 0]) ?_ 1 _ rfl; (with_reducible repeat (first | refine blk_drewN ?_ _ | refine blk_drew ?_ | refine blk_alloc ?_ _)); refine blk_put (cs := #[.slice none 0 0, .slice none 0 0, .slice none 0 0, .slice none 0 0, .slice none 0 0, .slice none 0 0, .slice none 0 0]) ?_ 0 _ rfl; (with_reducible repeat (first | refine blk_drewN ?_ _ | refine blk_drew ?_ | refine blk_alloc ?_ _)); exact BK554.out) Try.underlying92 rfl (by kernel_rfl)) rfl ?_
    exact ⟨_, _, _, _, _, _, _, by first | rfl | (simp [errW_none, errW_some] <;> rfl) | (simp [*, errW_none, errW_some] <;> rfl), by first | exact Kd.R_nil _ _ _ _ _ | exact Kd.N_nil _ _ _ _ _ | exact Kd.V_nil _ _ _ _ _ | exact Kd.Q_nil _ _ _ _ _ | exact Kd.S_nil _ _ _ _ _, by first | exact Kd.R_nil _ _ _ _ _ | exact Kd.N_nil _ _ _ _ _ | exact Kd.V_nil _ _ _ _ _ | exact Kd.Q_nil _ _ _ _ _ | exact Kd.S_nil _ _ _ _ _, by first | exact Kd.R_nil _ _ _ _ _ | exact Kd.N_nil _ _ _ _ _ | exact Kd.V_nil _ _ _ _ _ | exact Kd.Q_nil _ _ _ _ _ | exact Kd.S_nil _ _ _ _ _, by first | exact Kd.R_nil _ _ _ _ _ | exact Kd.N_nil _ _ _ _ _ | exact Kd.V_nil _ _ _ _ _ | exact Kd.Q_nil _ _ _ _ _ | exact Kd.S_nil _ _ _ _ _, by first | exact Kd.R_nil _ _ _ _ _ | exact Kd.N_nil _ _ _ _ _ | exact Kd.V_nil _ _ _ _ _ | exact Kd.Q_nil _ _ _ _ _ | exact Kd.S_nil _ _ _ _ _, by first | exact Kd.R_nil _ _ _ _ _ | exact Kd.N_nil _ _ _ _ _ | exact Kd.V_nil _ _ _ _ _ | exact Kd.Q_nil _ _ _ _ _ | exact Kd.S_nil _ _ _ _ _, by first | exact Kd.S_nil _ _ _ _ _ | exact Kd.N_nil _ _ _ _ _ | exact Kd.V_nil _ _ _ _ _ | exact Kd.Q_nil _ _ _ _ _ | exact Kd.R_nil _ _ _ _ _, by repeat (first | (with_reducible first | exact HB.out | apply below_alloc | apply pw_below_drewN | apply below_drew1 | refine below_set ?_ GE553.out | refine below_set ?_ GE554.out) | exact HB.out)⟩
   ·replace c20 := Bool.eq_false_iff.mpr c20
    subst c20
    have H1 : ((impl_PostOrder.f kj3 l0).bind fun t558 => ((impl_PostOrder.f kj3 l1).bind fun t561 => ((impl_LeftLeaf.f kj3 l0).bind fun t564 => ((impl_LeftLeaf.f kj3 l1).bind fun t567 => (impl_measureOf.l0 kj3 l0 l1 t561 (t561.length : Int) 0 l2_0 l2_1 l2_2 t558 t561 t564 t567 ([] : List Int)))))) = some (r1, r2, r3, r4, r5, r6, r7, r8) := by rw [if_neg (show ¬ (false = true) by decide)] at H; exact H
    clear H
    have H := H1
    clear H1
    replace H := Option.bind_eq_some_iff.mp H
    obtain ⟨t558, A230, H⟩ := H
    try dsimp only at H
    have A23 := Aside0.mk A230
    clear A230
    replace H := Option.bind_eq_some_iff.mp H
    obtain ⟨t561, A240, H⟩ := H
    try dsimp only at H
    have A24 := Aside0.mk A240
    clear A240
    replace H := Option.bind_eq_some_iff.mp H
    obtain ⟨t564, A250, H⟩ := H
    try dsimp only at H
    have A25 := Aside0.mk A250
    clear A250
    replace H := Option.bind_eq_some_iff.mp H
    obtain ⟨t567, A260, H⟩ := H
    try dsimp only at H
    have A26 := Aside0.mk A260
    clear A260
    have H' := Aside0.mk H
    clear H
    go_wp2_with (first | ((with_reducible refine gate_callee (f := 126) rfl ?_); refine gL_ (some 31) Try.func126 #[.slice A0 l0.length c0] ?_; (with_reducible refine (impl_PostOrder.calls kj3 _ _ l0 t558 _ (cx_ HR0 HB) HC0.out A23.out).mono ?_); rintro e w27 ⟨v559, rfl, ho0, hb⟩; refine ⟨_, rfl, ?_⟩; have HO560 := Aside0.mk (Kd.R_lower ho0 (bs_ HB)); replace BK553 := tK_ BK553 hb; replace BK554 := tK_ BK554 hb; replace HB := tB_ HB hb; (try clear hb); (try clear ho0)) | ((with_reducible refine gate_callee (f := 126) rfl ?_); refine gL_ (some 33) Try.func126 #[.slice A1 l1.length c1] ?_; (with_reducible refine (impl_PostOrder.calls kj3 _ _ l1 t561 _ (cx_ HR1 HB) HC1.out A24.out).mono ?_); rintro e w28 ⟨v562, rfl, ho0, hb⟩; refine ⟨_, rfl, ?_⟩; have HO563 := Aside0.mk (Kd.R_lower (Kd.R_new' ho0 (Kd.R_lt (rx_ HO560.out))) (bs_ HB)); replace HO560 := Aside0.mk (Kd.R_elder' (rx_ HO560.out) (Kd.R_base ho0) hb); replace BK553 := tK_ BK553 hb; replace BK554 := tK_ BK554 hb; replace HB := tB_ HB hb; (try clear hb); (try clear ho0)) | ((with_reducible refine gate_callee (f := 127) rfl ?_); refine gL_ (some 35) Try.func127 #[.slice A0 l0.length c0] ?_; (with_reducible refine (impl_LeftLeaf.calls kj3 _ _ l0 t564 _ (cx_ HR0 HB) HC0.out A25.out).mono ?_); rintro e w29 ⟨v565, rfl, ho0, hb⟩; refine ⟨_, rfl, ?_⟩; have HO566 := Aside0.mk (Kd.R_lower (Kd.R_new' (Kd.R_new' ho0 (Kd.R_lt (rx_ HO560.out))) (Kd.R_lt (rx_ HO563.out))) (bs_ HB)); replace HO560 := Aside0.mk (Kd.R_elder' (rx_ HO560.out) (Kd.R_base ho0) hb); replace HO563 := Aside0.mk (Kd.R_elder' (rx_ HO563.out) (Kd.R_base ho0) hb); replace BK553 := tK_ BK553 hb; replace BK554 := tK_ BK554 hb; replace HB := tB_ HB hb; (try clear hb); (try clear ho0)) | ((with_reducible refine gate_callee (f := 127) rfl ?_); refine gL_ (some 37) Try.func127 #[.slice A1 l1.length c1] ?_; (with_reducible refine (impl_LeftLeaf.calls kj3 _ _ l1 t567 _ (cx_ HR1 HB) HC1.out A26.out).mono ?_); rintro e w30 ⟨v568, rfl, ho0, hb⟩; refine ⟨_, rfl, ?_⟩; have HO569 := Aside0.mk (Kd.R_lower (Kd.R_new' (Kd.R_new' (Kd.R_new' ho0 (Kd.R_lt (rx_ HO560.out))) (Kd.R_lt (rx_ HO563.out))) (Kd.R_lt (rx_ HO566.out))) (bs_ HB)); replace HO560 := Aside0.mk (Kd.R_elder' (rx_ HO560.out) (Kd.R_base ho0) hb); replace HO563 := Aside0.mk (Kd.R_elder' (rx_ HO563.out) (Kd.R_base ho0) hb); replace HO566 := Aside0.mk (Kd.R_elder' (rx_ HO566.out) (Kd.R_base ho0) hb); replace BK553 := tK_ BK553 hb; replace BK554 := tK_ BK554 hb; replace HB := tB_ HB hb; (try clear hb); (try clear ho0); obtain ⟨Ao31, co31, eo31⟩ := Kd.R_slice HO569.out; subst eo31; obtain ⟨Ao32, co32, eo32⟩ := Kd.R_slice HO566.out; subst eo32; obtain ⟨Ao33, co33, eo33⟩ := Kd.R_slice HO563.out; subst eo33; obtain ⟨Ao34, co34, eo34⟩ := Kd.R_slice HO560.out; subst eo34) | ((with_reducible refine gate_dst (N := 8) rfl ?_); refine bx_ 8 #[.slice none 0 0, .slice none 0 0, .slice none 0 0, .slice none 0 0, .slice none 0 0, .slice none 0 0, .slice none 0 0] 92 ?_; intro gb570 hg w35 hbox hb; replace HO560 := tR_ HO560 hb; replace HO563 := tR_ HO563 hb; replace HO566 := tR_ HO566 hb; replace HO569 := tR_ HO569 hb; have BK570 := Aside0.mk (hbox); have GW570 := Aside0.mk ((by rw [hg]; exact (bs_ HB) : w.heap.size ≤ gb570)); have GE570 := Aside0.mk ((by rw [hg]; exact (bs_ HB) : w.heap.size ≤ gb570)); replace HB := tB_ HB hb; have NB553_570 := Aside0.mk ((by rw [hg]; exact Nat.ne_of_lt (blk_lt (g := gb553) (o := .cells #[.slice A2_0 l2_0.length c2_0, .slice A2_1 l2_1.length c2_1, .slice A2_2 l2_2.length c2_2] 27 (0, 0)) (kx_ BK553.out)) : gb553 ≠ gb570)); have NB570_553 := Aside0.mk ((by rw [hg]; exact Nat.ne_of_gt (blk_lt (g := gb553) (o := .cells #[.slice A2_0 l2_0.length c2_0, .slice A2_1 l2_1.length c2_1, .slice A2_2 l2_2.length c2_2] 27 (0, 0)) (kx_ BK553.out)) : gb570 ≠ gb553)); replace BK553 := tK_ BK553 hb; have NB554_570 := Aside0.mk ((by rw [hg]; exact Nat.ne_of_lt (blk_lt (g := gb554) (o := .cells #[.slice none 0 0, .slice none 0 0, .slice none 0 0, .slice none 0 0, .slice none 0 0, .slice none 0 0, .slice none 0 0] 92 (0, 0)) (kx_ BK554.out)) : gb554 ≠ gb570)); have NB570_554 := Aside0.mk ((by rw [hg]; exact Nat.ne_of_gt (blk_lt (g := gb554) (o := .cells #[.slice none 0 0, .slice none 0 0, .slice none 0 0, .slice none 0 0, .slice none 0 0, .slice none 0 0, .slice none 0 0] 92 (0, 0)) (kx_ BK554.out)) : gb570 ≠ gb554)); replace BK554 := tK_ BK554 hb; clear hb hbox hg; have hnb36 := NB570_553.out; have hnc36 := NB553_570.out; have hnb37 := NB570_554.out; have hnc37 := NB554_570.out; have hcz38_0 : w35.cell? ⟨gb570, 0, none⟩ = some (.slice none 0 0) := (blk_cell BK570.out 0).trans rfl; have hcz38_1 : w35.cell? ⟨gb570, 1, none⟩ = some (.slice none 0 0) := (blk_cell BK570.out 1).trans rfl; have hcz38_2 : w35.cell? ⟨gb570, 2, none⟩ = some (.slice none 0 0) := (blk_cell BK570.out 2).trans rfl; have hcz38_3 : w35.cell? ⟨gb570, 3, none⟩ = some (.slice none 0 0) := (blk_cell BK570.out 3).trans rfl; have hcz38_4 : w35.cell? ⟨gb570, 4, none⟩ = some (.slice none 0 0) := (blk_cell BK570.out 4).trans rfl; have hcz38_5 : w35.cell? ⟨gb570, 5, none⟩ = some (.slice none 0 0) := (blk_cell BK570.out 5).trans rfl; have hcz38_6 : w35.cell? ⟨gb570, 6, none⟩ = some (.slice none 0 0) := (blk_cell BK570.out 6).trans rfl; have hfz38_0 := blk_frozen BK570.out 0; have hfz38_1 := blk_frozen BK570.out 1; have hfz38_2 := blk_frozen BK570.out 2; have hfz38_3 := blk_frozen BK570.out 3; have hfz38_4 := blk_frozen BK570.out 4; have hfz38_5 := blk_frozen BK570.out 5; have hfz38_6 := blk_frozen BK570.out 6))
    go_loopg [42] kj3 (fun kq v42 w' => ∃ (x42_2 : Int) (x571005_2 : List Int) (u571005 : Value), v42 = .int .i64 x42_2 ∧ Aside0 (impl_measureOf.l0 kq l0 l1 t561 (t561.length : Int) x42_2 l2_0 l2_1 l2_2 t558 t561 t564 t567 x571005_2 = some (r1, r2, r3, r4, r5, r6, r7, r8)) ∧ Aside0 (kq ≤ kj3) ∧ Aside0 (Kd.R (Kd.int .i64) 3 w' w.heap.size (fun k_ => some k_ ≠ ((.slice Ao34 t558.length co34) : Value).ownBlock ∧ some k_ ≠ ((.slice Ao32 t564.length co32) : Value).ownBlock ∧ some k_ ≠ ((.slice Ao31 t567.length co31) : Value).ownBlock ∧ some k_ ≠ (u571005 : Value).ownBlock) (.slice Ao33 t561.length co33) t561) ∧ Aside0 (Kd.R (Kd.int .i64) 3 w' w.heap.size (fun k_ => some k_ ≠ ((.slice Ao33 t561.length co33) : Value).ownBlock ∧ some k_ ≠ ((.slice Ao33 t561.length co33) : Value).ownBlock ∧ some k_ ≠ ((.slice Ao32 t564.length co32) : Value).ownBlock ∧ some k_ ≠ ((.slice Ao31 t567.length co31) : Value).ownBlock ∧ some k_ ≠ (u571005 : Value).ownBlock) (.slice Ao34 t558.length co34) t558) ∧ Aside0 (Kd.R (Kd.int .i64) 3 w' w.heap.size (fun k_ => some k_ ≠ ((.slice Ao34 t558.length co34) : Value).ownBlock ∧ some k_ ≠ ((.slice Ao32 t564.length co32) : Value).ownBlock ∧ some k_ ≠ ((.slice Ao31 t567.length co31) : Value).ownBlock ∧ some k_ ≠ (u571005 : Value).ownBlock) (.slice Ao33 t561.length co33) t561) ∧ Aside0 (Kd.R (Kd.int .i64) 3 w' w.heap.size (fun k_ => some k_ ≠ ((.slice Ao33 t561.length co33) : Value).ownBlock ∧ some k_ ≠ ((.slice Ao34 t558.length co34) : Value).ownBlock ∧ some k_ ≠ ((.slice Ao33 t561.length co33) : Value).ownBlock ∧ some k_ ≠ ((.slice Ao31 t567.length co31) : Value).ownBlock ∧ some k_ ≠ (u571005 : Value).ownBlock) (.slice Ao32 t564.length co32) t564) ∧ Aside0 (Kd.R (Kd.int .i64) 3 w' w.heap.size (fun k_ => some k_ ≠ ((.slice Ao33 t561.length co33) : Value).ownBlock ∧ some k_ ≠ ((.slice Ao34 t558.length co34) : Value).ownBlock ∧ some k_ ≠ ((.slice Ao33 t561.length co33) : Value).ownBlock ∧ some k_ ≠ ((.slice Ao32 t564.length co32) : Value).ownBlock ∧ some k_ ≠ (u571005 : Value).ownBlock) (.slice Ao31 t567.length co31) t567) ∧ Aside0 (Kd.R (Kd.int .i64) 3 w' w.heap.size (fun k_ => some k_ ≠ ((.slice Ao33 t561.length co33) : Value).ownBlock ∧ some k_ ≠ ((.slice Ao34 t558.length co34) : Value).ownBlock ∧ some k_ ≠ ((.slice Ao33 t561.length co33) : Value).ownBlock ∧ some k_ ≠ ((.slice Ao32 t564.length co32) : Value).ownBlock ∧ some k_ ≠ ((.slice Ao31 t567.length co31) : Value).ownBlock) u571005 x571005_2) ∧ Aside0 (w'.heap[gb553]? = some (.cells #[(.slice A2_0 l2_0.length c2_0), (.slice A2_1 l2_1.length c2_1), (.slice A2_2 l2_2.length c2_2)] 27 (0, 0))) ∧ Aside0 (w'.heap[gb554]? = some (.cells #[(.slice none 0 0), (.slice none 0 0), (.slice none 0 0), (.slice none 0 0), (.slice none 0 0), (.slice none 0 0), (.slice none 0 0)] 92 (0, 0))) ∧ Aside0 (w'.heap[gb570]? = some (.cells #[(.slice Ao34 t558.length co34), (.slice Ao33 t561.length co33), (.slice Ao32 t564.length co32), (.slice Ao31 t567.length co31), (.slice none 0 0), u571005, (.slice none 0 0)] 92 (0, 0))) ∧ Aside0 (Below w.heap.size w w'))
    case atStart => exact ⟨(0), (([] : List Int)), (.slice none 0 0), (by first | rfl | (simp; done) | (simp [*]; done)), H', ⟨Nat.le_refl _⟩, ⟨by (with_reducible repeat (first | apply Kd.R_alloc | apply Kd.R_drewN | apply Kd.R_drew)); exact Kd.R_mono (Kd.R_far (p := ⟨gb570, 6, none⟩) (Kd.R_far (p := ⟨gb570, 5, none⟩) (Kd.R_far (p := ⟨gb570, 4, none⟩) (Kd.R_far (p := ⟨gb570, 3, none⟩) (Kd.R_far (p := ⟨gb570, 2, none⟩) (Kd.R_far (p := ⟨gb570, 1, none⟩) (Kd.R_far (p := ⟨gb570, 0, none⟩) (Kd.R_types HO563.out BK570.out (by decide)) (fun _ hk => hk.2) (.slice Ao34 t558.length co34)) (fun _ hk => hk.2) (.slice Ao33 t561.length co33)) (fun _ hk => hk.2) (.slice Ao32 t564.length co32)) (fun _ hk => hk.2) (.slice Ao31 t567.length co31)) (fun _ hk => hk.2) (.slice none 0 0)) (fun _ hk => hk.2) (.slice none 0 0)) (fun _ hk => hk.2) (.slice none 0 0)) (fun _ hk => ⟨hk.1.1.1.2, ⟨hk.1.1.2, ⟨hk.1.2, (by simp [Value.ownBlock])⟩⟩⟩)⟩, ⟨by (with_reducible repeat (first | apply Kd.R_alloc | apply Kd.R_drewN | apply Kd.R_drew)); exact Kd.R_mono (Kd.R_far (p := ⟨gb570, 6, none⟩) (Kd.R_far (p := ⟨gb570, 5, none⟩) (Kd.R_far (p := ⟨gb570, 4, none⟩) (Kd.R_far (p := ⟨gb570, 3, none⟩) (Kd.R_far (p := ⟨gb570, 2, none⟩) (Kd.R_far (p := ⟨gb570, 1, none⟩) (Kd.R_far (p := ⟨gb570, 0, none⟩) (Kd.R_types HO560.out BK570.out (by decide)) (fun _ hk => hk.2) (.slice Ao34 t558.length co34)) (fun _ hk => hk.2) (.slice Ao33 t561.length co33)) (fun _ hk => hk.2) (.slice Ao32 t564.length co32)) (fun _ hk => hk.2) (.slice Ao31 t567.length co31)) (fun _ hk => hk.2) (.slice none 0 0)) (fun _ hk => hk.2) (.slice none 0 0)) (fun _ hk => hk.2) (.slice none 0 0)) (fun _ hk => ⟨hk.1.1.1.2, ⟨hk.1.1.1.2, ⟨hk.1.1.2, ⟨hk.1.2, (by simp [Value.ownBlock])⟩⟩⟩⟩)⟩, ⟨by (with_reducible repeat (first | apply Kd.R_alloc | apply Kd.R_drewN | apply Kd.R_drew)); exact Kd.R_mono (Kd.R_far (p := ⟨gb570, 6, none⟩) (Kd.R_far (p := ⟨gb570, 5, none⟩) (Kd.R_far (p := ⟨gb570, 4, none⟩) (Kd.R_far (p := ⟨gb570, 3, none⟩) (Kd.R_far (p := ⟨gb570, 2, none⟩) (Kd.R_far (p := ⟨gb570, 1, none⟩) (Kd.R_far (p := ⟨gb570, 0, none⟩) (Kd.R_types HO563.out BK570.out (by decide)) (fun _ hk => hk.2) (.slice Ao34 t558.length co34)) (fun _ hk => hk.2) (.slice Ao33 t561.length co33)) (fun _ hk => hk.2) (.slice Ao32 t564.length co32)) (fun _ hk => hk.2) (.slice Ao31 t567.length co31)) (fun _ hk => hk.2) (.slice none 0 0)) (fun _ hk => hk.2) (.slice none 0 0)) (fun _ hk => hk.2) (.slice none 0 0)) (fun _ hk => ⟨hk.1.1.1.2, ⟨hk.1.1.2, ⟨hk.1.2, (by simp [Value.ownBlock])⟩⟩⟩)⟩, ⟨by (with_reducible repeat (first | apply Kd.R_alloc | apply Kd.R_drewN | apply Kd.R_drew)); exact Kd.R_mono (Kd.R_far (p := ⟨gb570, 6, none⟩) (Kd.R_far (p := ⟨gb570, 5, none⟩) (Kd.R_far (p := ⟨gb570, 4, none⟩) (Kd.R_far (p := ⟨gb570, 3, none⟩) (Kd.R_far (p := ⟨gb570, 2, none⟩) (Kd.R_far (p := ⟨gb570, 1, none⟩) (Kd.R_far (p := ⟨gb570, 0, none⟩) (Kd.R_types HO566.out BK570.out (by decide)) (fun _ hk => hk.2) (.slice Ao34 t558.length co34)) (fun _ hk => hk.2) (.slice Ao33 t561.length co33)) (fun _ hk => hk.2) (.slice Ao32 t564.length co32)) (fun _ hk => hk.2) (.slice Ao31 t567.length co31)) (fun _ hk => hk.2) (.slice none 0 0)) (fun _ hk => hk.2) (.slice none 0 0)) (fun _ hk => hk.2) (.slice none 0 0)) (fun _ hk => ⟨hk.1.1.2, ⟨hk.1.1.1.2, ⟨hk.1.1.2, ⟨hk.1.2, (by simp [Value.ownBlock])⟩⟩⟩⟩)⟩, ⟨by (with_reducible repeat (first | apply Kd.R_alloc | apply Kd.R_drewN | apply Kd.R_drew)); exact Kd.R_mono (Kd.R_far (p := ⟨gb570, 6, none⟩) (Kd.R_far (p := ⟨gb570, 5, none⟩) (Kd.R_far (p := ⟨gb570, 4, none⟩) (Kd.R_far (p := ⟨gb570, 3, none⟩) (Kd.R_far (p := ⟨gb570, 2, none⟩) (Kd.R_far (p := ⟨gb570, 1, none⟩) (Kd.R_far (p := ⟨gb570, 0, none⟩) (Kd.R_types HO569.out BK570.out (by decide)) (fun _ hk => hk.2) (.slice Ao34 t558.length co34)) (fun _ hk => hk.2) (.slice Ao33 t561.length co33)) (fun _ hk => hk.2) (.slice Ao32 t564.length co32)) (fun _ hk => hk.2) (.slice Ao31 t567.length co31)) (fun _ hk => hk.2) (.slice none 0 0)) (fun _ hk => hk.2) (.slice none 0 0)) (fun _ hk => hk.2) (.slice none 0 0)) (fun _ hk => ⟨hk.1.1.2, ⟨hk.1.1.1.2, ⟨hk.1.1.2, ⟨hk.1.2, (by simp [Value.ownBlock])⟩⟩⟩⟩)⟩, ⟨by first | exact Kd.R_nil _ _ _ _ _ | exact Kd.N_nil _ _ _ _ _ | exact Kd.V_nil _ _ _ _ _ | exact Kd.Q_nil _ _ _ _ _ | exact Kd.S_nil _ _ _ _ _⟩, ⟨by (with_reducible repeat (first | refine blk_drewN ?_ _ | refine blk_drew ?_ | refine blk_alloc ?_ _)); refine blk_far ?_ NB553_570.out _; (with_reducible repeat (first | refine blk_drewN ?_ _ | refine blk_drew ?_ | refine blk_alloc ?_ _)); refine blk_far ?_ NB553_570.out _; (with_reducible repeat (first | refine blk_drewN ?_ _ | refine blk_drew ?_ | refine blk_alloc ?_ _)); refine blk_far ?_ NB553_570.out _; (with_reducible repeat (first | refine blk_drewN ?_ _ | refine blk_drew ?_ | refine blk_alloc ?_ _)); refine blk_far ?_ NB553_570.out _; (with_reducible repeat (first | refine blk_drewN ?_ _ | refine blk_drew ?_ | refine blk_alloc ?_ _)); refine blk_far ?_ NB553_570.out _; (with_reducible repeat (first | refine blk_drewN ?_ _ | refine blk_drew ?_ | refine blk_alloc ?_ _)); refine blk_far ?_ NB553_570.out _; (with_reducible repeat (first | refine blk_drewN ?_ _ | refine blk_drew ?_ | refine blk_alloc ?_ _)); refine blk_far ?_ NB553_570.out _; (with_reducible repeat (first | refine blk_drewN ?_ _ | refine blk_drew ?_ | refine blk_alloc ?_ _)); exact BK553.out⟩, ⟨by (with_reducible repeat (first | refine blk_drewN ?_ _ | refine blk_drew ?_ | refine blk_alloc ?_ _)); refine blk_far ?_ NB554_570.out _; (with_reducible repeat (first | refine blk_drewN ?_ _ | refine blk_drew ?_ | refine blk_alloc ?_ _)); refine blk_far ?_ NB554_570.out _; (with_reducible repeat (first | refine blk_drewN ?_ _ | refine blk_drew ?_ | refine blk_alloc ?_ _)); refine blk_far ?_ NB554_570.out _; (with_reducible repeat (first | refine blk_drewN ?_ _ | refine blk_drew ?_ | refine blk_alloc ?_ _)); refine blk_far ?_ NB554_570.out _; (with_reducible repeat (first | refine blk_drewN ?_ _ | refine blk_drew ?_ | refine blk_alloc ?_ _)); refine blk_far ?_ NB554_570.out _; (with_reducible repeat (first | refine blk_drewN ?_ _ | refine blk_drew ?_ | refine blk_alloc ?_ _)); refine blk_far ?_ NB554_570.out _; (with_reducible repeat (first | refine blk_drewN ?_ _ | refine blk_drew ?_ | refine blk_alloc ?_ _)); refine blk_far ?_ NB554_570.out _; (with_reducible repeat (first | refine blk_drewN ?_ _ | refine blk_drew ?_ | refine blk_alloc ?_ _)); exact BK554.out⟩, ⟨by (with_reducible repeat (first | refine blk_drewN ?_ _ | refine blk_drew ?_ | refine blk_alloc ?_ _)); refine blk_put (cs := #[.slice Ao34 t558.length co34, .slice Ao33 t561.length co33, .slice Ao32 t564.length co32, .slice Ao31 t567.length co31, .slice none 0 0, .slice none 0 0, .slice none 0 0]) ?_ 6 _ rfl; (with_reducible repeat (first | refine blk_drewN ?_ _ | refine blk_drew ?_ | refine blk_alloc ?_ _)); refine blk_put (cs := #[.slice Ao34 t558.length co34, .slice Ao33 t561.length co33, .slice Ao32 t564.length co32, .slice Ao31 t567.length co31, .slice none 0 0, .slice none 0 0, .slice none 0 0]) ?_ 5 _ rfl; (with_reducible repeat (first | refine blk_drewN ?_ _ | refine blk_drew ?_ | refine blk_alloc ?_ _)); refine blk_put (cs := #[.slice Ao34 t558.length co34, .slice Ao33 t561.length co33, .slice Ao32 t564.length co32, .slice Ao31 t567.length co31, .slice none 0 0, .slice none 0 0, .slice none 0 0]) ?_ 4 _ rfl; (with_reducible repeat (first | refine blk_drewN ?_ _ | refine blk_drew ?_ | refine blk_alloc ?_ _)); refine blk_put (cs := #[.slice Ao34 t558.length co34, .slice Ao33 t561.length co33, .slice Ao32 t564.length co32, .slice none 0 0, .slice none 0 0, .slice none 0 0, .slice none 0 0]) ?_ 3 _ rfl; (with_reducible repeat (first | refine blk_drewN ?_ _ | refine blk_drew ?_ | refine blk_alloc ?_ _)); refine blk_put (cs := #[.slice Ao34 t558.length co34, .slice Ao33 t561.length co33, .slice none 0 0, .slice none 0 0, .slice none 0 0, .slice none 0 0, .slice none 0 0]) ?_ 2 _ rfl; (with_reducible repeat (first | refine blk_drewN ?_ _ | refine blk_drew ?_ | refine blk_alloc ?_ _)); refine blk_put (cs := #[.slice Ao34 t558.length co34, .slice none 0 0, .slice none 0 0, .slice none 0 0, .slice none 0 0, .slice none 0 0, .slice none 0 0]) ?_ 1 _ rfl; (with_reducible repeat (first | refine blk_drewN ?_ _ | refine blk_drew ?_ | refine blk_alloc ?_ _)); refine blk_put (cs := #[.slice none 0 0, .slice none 0 0, .slice none 0 0, .slice none 0 0, .slice none 0 0, .slice none 0 0, .slice none 0 0]) ?_ 0 _ rfl; (with_reducible repeat (first | refine blk_drewN ?_ _ | refine blk_drew ?_ | refine blk_alloc ?_ _)); exact BK570.out⟩, ⟨by repeat (first | (with_reducible first | exact HB.out | apply below_alloc | apply pw_below_drewN | apply below_drew1 | refine below_set ?_ GE553.out | refine below_set ?_ GE554.out | refine below_set ?_ GE570.out) | exact HB.out)⟩⟩
    case round =>
     clear H'
     try clear c1
     try clear c2
     try clear p2
     try clear c3
     try clear c5
     try clear c7
     try clear c8
     try clear c10
     try clear c12
     try clear c14
     try clear c20
     try clear c21
     try clear c36
     try clear c37
     try clear hcz15_0
     try clear hcz15_1
     try clear hcz15_2
     try clear hcz22_0
     try clear hcz22_1
     try clear hcz22_2
     try clear hcz22_3
     try clear hcz22_4
     try clear hcz22_5
     try clear hcz22_6
     try clear hcz38_0
     try clear hcz38_1
     try clear hcz38_2
     try clear hcz38_3
     try clear hcz38_4
     try clear hcz38_5
     try clear hcz38_6
     try clear hfz15_0
     try clear hfz15_1
     try clear hfz15_2
     try clear hfz22_0
     try clear hfz22_1
     try clear hfz22_2
     try clear hfz22_3
     try clear hfz22_4
     try clear hfz22_5
     try clear hfz22_6
     try clear hfz38_0
     try clear hfz38_1
     try clear hfz38_2
     try clear hfz38_3
     try clear hfz38_4
     try clear hfz38_5
     try clear hfz38_6
     try clear p2
     obtain ⟨x42_2, x571005_2, u571005, rfl, HA, HK2, HO_40, HO_571000, HO_571001, HO_571002, HO_571003, HO_571005, BK553, BK554, BK570, HB⟩ := hrel
     cases gk with
     | zero => exact absurd HA.out (by simp [impl_measureOf.l0])
     | succ k2 =>
      have H := HA.out
      clear HA
      simp only [impl_measureOf.l0] at H
      by_cases c39 : x42_2 < (t561.length : Int)
      ·rw [if_pos c39] at H
       have c39b0 : decide (x42_2 < (t561.length : Int)) = true := decide_eq_true c39
       clear c39
       by_cases c40 : 0 ≤ x42_2
       ·rw [if_pos c40] at H
        have c40b0 : decide (0 ≤ x42_2) = true := decide_eq_true c40
        clear c40
        by_cases c41 : x42_2 < (t561.length : Int)
        ·rw [if_pos c41] at H
         have c41b0 : decide (x42_2 < (t561.length : Int)) = true := decide_eq_true c41
         clear c41
         by_cases c42 : 0 ≤ (rd t561 x42_2)
         ·rw [if_pos c42] at H
          have c42b0 : decide (0 ≤ (rd t561 x42_2)) = true := decide_eq_true c42
          clear c42
          by_cases c43 : (rd t561 x42_2) < (l1.length : Int)
          ·rw [if_pos c43] at H
           have c43b0 : decide ((rd t561 x42_2) < (l1.length : Int)) = true := decide_eq_true c43
           clear c43
           by_cases c44 : 0 ≤ ((rd_T77 l1 (rd t561 x42_2)).f0)
           ·rw [if_pos c44] at H
            have c44b0 : decide (0 ≤ ((rd_T77 l1 (rd t561 x42_2)).f0)) = true := decide_eq_true c44
            clear c44
            by_cases c45 : ((rd_T77 l1 (rd t561 x42_2)).f0) < (l2_1.length : Int)
            ·rw [if_pos c45] at H
             have c45b0 : decide (((rd_T77 l1 (rd t561 x42_2)).f0) < (l2_1.length : Int)) = true := decide_eq_true c45
             clear c45
             by_cases c46 : x571005_2.length < 17592186044416
             ·rw [if_pos c46] at H
              have LMc46 := Aside0.mk c46
              clear c46
              obtain ⟨y574, hy574⟩ : ∃ y_ : List Int, y_ = (x571005_2 ++ [rd l2_1 ((rd_T77 l1 (rd t561 x42_2)).f0)]) := ⟨_, rfl⟩
              replace H : (impl_measureOf.l0 k2 l0 l1 t561 (t561.length : Int) (wrap64 (x42_2 + 1)) l2_0 l2_1 l2_2 t558 t561 t564 t567 y574) = some (r1, r2, r3, r4, r5, r6, r7, r8) := by first | (rw [hy574]; with_reducible exact H) | (have H2_ := (Option.bind_some _ _).symm.trans H; rw [hy574]; with_reducible exact H2_) | (have H2_ := (Option.bind_some _ _).symm.trans H; with_reducible exact H2_) | with_reducible exact H | (rw [hy574]; exact H) | exact H
              have Ny574 := Aside0.mk hy574
              clear hy574
              have H' := Aside0.mk H
              clear H
              have p571 : 0 ≤ (x42_2 : Int) := od_
              have q571 : x42_2 < (t561.length : Int) := od_
              obtain ⟨ad571, e571, hx571_0⟩ := Kd.at_int (Kd.R_reads' HO_40.out).2.2 x42_2 p571 q571
              cases e571
              replace p571 := eq_true p571
              replace q571 := eq_true q571
              try go_wp2
              have n0_ := Aside0.mk (Kd.R_drew HO_40.out)
              have n1_ := Aside0.mk (Kd.R_drew HO_571000.out)
              have n2_ := Aside0.mk (Kd.R_drew HO_571001.out)
              have n3_ := Aside0.mk (Kd.R_drew HO_571002.out)
              have n4_ := Aside0.mk (Kd.R_drew HO_571003.out)
              have n5_ := Aside0.mk (Kd.R_drew HO_571005.out)
              have n6_ := Aside0.mk (blk_drew BK553.out)
              have n7_ := Aside0.mk (blk_drew BK554.out)
              have n8_ := Aside0.mk (blk_drew BK570.out)
              have n9_ := Aside0.mk (below_drew1 HB.out)
              clear HO_40
              clear HO_571000
              clear HO_571001
              clear HO_571002
              clear HO_571003
              clear HO_571005
              clear BK553
              clear BK554
              clear BK570
              clear HB
              have HO_40 := n0_
              have HO_571000 := n1_
              have HO_571001 := n2_
              have HO_571002 := n3_
              have HO_571003 := n4_
              have HO_571005 := n5_
              have BK553 := n6_
              have BK554 := n7_
              have BK570 := n8_
              have HB := n9_
              clear n0_ n1_ n2_ n3_ n4_ n5_ n6_ n7_ n8_ n9_
              have p572 : 0 ≤ ((rd t561 x42_2) : Int) := od_
              have q572 : (rd t561 x42_2) < (l1.length : Int) := od_
              obtain ⟨ad572, e572, hx572_0, hx572_1⟩ := at_T77 HR1.out (rd t561 x42_2) p572 q572
              have hw572_1 := hx572_1
              have hw572_0 := hx572_0
              cases e572
              replace hx572_0 := ce_ HB hx572_0
              replace hx572_1 := ce_ HB hx572_1
              replace p572 := eq_true p572
              replace q572 := eq_true q572
              have p573 : 0 ≤ (((rd_T77 l1 (rd t561 x42_2)).f0) : Int) := od_
              have q573 : ((rd_T77 l1 (rd t561 x42_2)).f0) < (l2_1.length : Int) := od_
              obtain ⟨ad573, e573, hx573_0⟩ := Kd.at_int HR2_1.out ((rd_T77 l1 (rd t561 x42_2)).f0) p573 q573
              have hw573_0 := hx573_0
              cases e573
              replace hx573_0 := ce_ HB hx573_0
              replace p573 := eq_true p573
              replace q573 := eq_true q573
              refine start_ (n := 15) (S := fun w' => w'.cell? ⟨gb570, 0, none⟩ = some (.slice Ao34 t558.length co34) ∧ w'.cell? ⟨gb570, 1, none⟩ = some (.slice (some ad571) t561.length co33) ∧ w'.cell? ⟨gb570, 2, none⟩ = some (.slice Ao32 t564.length co32) ∧ w'.cell? ⟨gb570, 3, none⟩ = some (.slice Ao31 t567.length co31) ∧ w'.cell? ⟨gb570, 4, none⟩ = some (.slice none 0 0) ∧ w'.cell? ⟨gb570, 5, none⟩ = some (u571005) ∧ w'.cell? ⟨gb570, 6, none⟩ = some (.slice none 0 0) ∧ w'.cell? ⟨gb553, 0, none⟩ = some (.slice A2_0 l2_0.length c2_0) ∧ w'.cell? ⟨gb553, 1, none⟩ = some (.slice (some ad573) l2_1.length c2_1) ∧ w'.cell? ⟨gb553, 2, none⟩ = some (.slice A2_2 l2_2.length c2_2) ∧ w'.cell? (ad572.add (((rd t561 x42_2)).toNat * 2)) = some (.int .i64 ((rd_T77 l1 (rd t561 x42_2)).f0)) ∧ w'.cell? ⟨(ad572.add (((rd t561 x42_2)).toNat * 2)).block, (ad572.add (((rd t561 x42_2)).toNat * 2)).off + 1, none⟩ = some (.int .i64 ((rd_T77 l1 (rd t561 x42_2)).f1)) ∧ w'.cell? (ad573.add (((rd_T77 l1 (rd t561 x42_2)).f0)).toNat) = some (.int .i64 (rd l2_1 ((rd_T77 l1 (rd t561 x42_2)).f0)))) (ds := [14]) (ba_ 15 0) (by kernel_rfl) rfl rfl ⟨(blk_cell BK570.out 0).trans rfl, (blk_cell BK570.out 1).trans rfl, (blk_cell BK570.out 2).trans rfl, (blk_cell BK570.out 3).trans rfl, (blk_cell BK570.out 4).trans rfl, (blk_cell BK570.out 5).trans rfl, (blk_cell BK570.out 6).trans rfl, (blk_cell BK553.out 0).trans rfl, (blk_cell BK553.out 1).trans rfl, (blk_cell BK553.out 2).trans rfl, (ce_ HB hw572_0), (ce_ HB hw572_1), (ce_ HB hw573_0)⟩ (fun hHeld => ?_); refine with_tabW impl_measureOf.tab7 impl_measureOf.bits7 (fun HT_ HW_ => ?_)
              generalize wr.drew = w47 at HO_40 HO_571000 HO_571001 HO_571002 HO_571003 HO_571005 BK553 BK554 BK570 HB hx572_0 hx572_1 hx573_0 hHeld ⊢
              refine pu_ 0 (some 46) (ba_ 15 1) rfl rfl (any_of HT_.out (by kernel_rfl)) ?_
              refine pu_ 2 (some 48) (ba_ 15 5) rfl rfl (any_of HT_.out (by kernel_rfl)) ?_
              refine pu_ 4 (some 50) (ba_ 15 21) rfl rfl (any_of HT_.out (by kernel_rfl)) ?_
              refine pu_ 5 (some 51) (ba_ 15 53) rfl rfl (any_of HT_.out (by kernel_rfl)) ?_
              refine pu_ 6 (some 52) (ba_ 15 117) rfl rfl (any_of HT_.out (by kernel_rfl)) ?_
              refine pu_ 7 (some 53) (ba_ 15 245) rfl rfl (any_of HT_.out (by kernel_rfl)) ?_
              refine ta_ 1 (some 47) (ba_ 15 247) rfl rfl (take_ofW HT_.out HW_.out (by kernel_rfl)) hHeld (by rintro w' ⟨s0, s1, s2, s3, s4, s5, s6, s7, s8, s9, s10, s11, s12⟩; go_simp; with_reducible rfl) ?_
              refine ta_ 3 (some 49) (ba_ 15 255) rfl rfl (take_ofW HT_.out HW_.out (by kernel_rfl)) hHeld (by rintro w' ⟨s0, s1, s2, s3, s4, s5, s6, s7, s8, s9, s10, s11, s12⟩; go_simp; with_reducible rfl) ?_
              refine ta_ 8 (some 54) (ba_ 15 511) rfl rfl (take_ofW HT_.out HW_.out (by kernel_rfl)) hHeld (by rintro w' ⟨s0, s1, s2, s3, s4, s5, s6, s7, s8, s9, s10, s11, s12⟩; go_simp; with_reducible rfl) ?_
              refine pu_ 9 (some 55) (ba_ 15 1023) rfl rfl (any_of HT_.out (by kernel_rfl)) ?_
              refine ta_ 10 (some 56) (ba_ 15 2047) rfl rfl (take_ofW HT_.out HW_.out (by kernel_rfl)) hHeld (by rintro w' ⟨s0, s1, s2, s3, s4, s5, s6, s7, s8, s9, s10, s11, s12⟩; go_simp; with_reducible rfl) ?_
              refine one_ (i := 11) (N := some 57) (ba_ 15 4095) rfl rfl (one_of HT_.out (by kernel_rfl)) (by decide) (fun K hK => ?_)
              refine value_ (w1 := ?_) (v := ?_) (by rfl) rfl ?_ ?_
              rotate_left 2
              ·go_simp
               constructor
               ·rfl
               ·rfl
              refine hK.out _ _ ⟨(blk_cell (blk_alloc BK570.out _) 0).trans rfl, (blk_cell (blk_alloc BK570.out _) 1).trans rfl, (blk_cell (blk_alloc BK570.out _) 2).trans rfl, (blk_cell (blk_alloc BK570.out _) 3).trans rfl, (blk_cell (blk_alloc BK570.out _) 4).trans rfl, (blk_cell (blk_alloc BK570.out _) 5).trans rfl, (blk_cell (blk_alloc BK570.out _) 6).trans rfl, (blk_cell (blk_alloc BK553.out _) 0).trans rfl, (blk_cell (blk_alloc BK553.out _) 1).trans rfl, (blk_cell (blk_alloc BK553.out _) 2).trans rfl, (World.cell?_alloc_lt _ _ _ (World.block_lt_of_cell? _ _ ((ce_ HB hw572_0)))).trans ((ce_ HB hw572_0)), (World.cell?_alloc_lt _ _ _ (World.block_lt_of_cell? _ _ ((ce_ HB hw572_1)))).trans ((ce_ HB hw572_1)), (World.cell?_alloc_lt _ _ _ (World.block_lt_of_cell? _ _ ((ce_ HB hw573_0)))).trans ((ce_ HB hw573_0))⟩ (fun hHeld => ?_)
              clear hK K
              refine norm_ (a' := ?_) ?_ ?_
              rotate_left
              ·show Act.put _ (some 57) _ = _
               simp only [Act.put, List.setIfInBounds_toArray, List.set_cons_zero, List.set_cons_succ, i64_w, i32_w]
               rfl
              refine one_ (i := 12) (N := some 58) (ba_ 15 8191) rfl rfl (one_of HT_.out (by kernel_rfl)) (by decide) (fun K hK => ?_)
              refine Kd.R_append_step (Kd.int .i64) (w0 := w) w.heap.size (by rfl) (.tmp 47) (.tmp 57) 25 3 (.int .i64 0) 8 rfl Try.underlying25 info3 rfl (by decide) (by omega) u571005 x571005_2 (rd l2_1 ((rd_T77 l1 (rd t561 x42_2)).f0)) [.int .i64 (rd l2_1 ((rd_T77 l1 (rd t561 x42_2)).f0))] (fun k_ => some k_ ≠ (.slice (some ad571) t561.length co33 : Value).ownBlock ∧ some k_ ≠ (.slice Ao34 t558.length co34 : Value).ownBlock ∧ some k_ ≠ (.slice (some ad571) t561.length co33 : Value).ownBlock ∧ some k_ ≠ (.slice Ao32 t564.length co32 : Value).ownBlock ∧ some k_ ≠ (.slice Ao31 t567.length co31 : Value).ownBlock) (fun _ => False) rfl rfl ?aP (fun _ hk => hk.elim) ?aF ?aO ?aB ?aS ?aL ?_
              (case aP => exact rfl)
              (case aB => exact ((bl_ HB).out))
              (case aF => exact (fun k_ hk => ⟨Kd.fresh' (Kd.R_lt (rx_ HO_40.out)) k_ hk, Kd.fresh' (Kd.R_lt (rx_ HO_571000.out)) k_ hk, Kd.fresh' (Kd.R_lt (rx_ HO_571001.out)) k_ hk, Kd.fresh' (Kd.R_lt (rx_ HO_571002.out)) k_ hk, Kd.fresh' (Kd.R_lt (rx_ HO_571003.out)) k_ hk⟩))
              (case aO => exact (rx_ HO_571005.out))
              (case aS => exact (bs_ HB))
              (case aL => have := LMc46.out; omega)
              intro v575 w48 ho hb hg hat
              rw [← Ny574.out] at ho
              have n0_ := Aside0.mk (Kd.R_after (ok := (fun k_ => some k_ ≠ (.slice Ao34 t558.length co34 : Value).ownBlock ∧ some k_ ≠ (.slice Ao32 t564.length co32 : Value).ownBlock ∧ some k_ ≠ (.slice Ao31 t567.length co31 : Value).ownBlock)) (rx_ (Kd.R_mono HO_40.out (fun _ hk => ⟨⟨hk.1, ⟨hk.2.1, hk.2.2.1⟩⟩, hk.2.2.2⟩))) hg hat)
              have n1_ := Aside0.mk (Kd.R_after (ok := (fun k_ => some k_ ≠ (.slice (some ad571) t561.length co33 : Value).ownBlock ∧ some k_ ≠ (.slice (some ad571) t561.length co33 : Value).ownBlock ∧ some k_ ≠ (.slice Ao32 t564.length co32 : Value).ownBlock ∧ some k_ ≠ (.slice Ao31 t567.length co31 : Value).ownBlock)) (rx_ (Kd.R_mono HO_571000.out (fun _ hk => ⟨⟨hk.1, ⟨hk.2.1, ⟨hk.2.2.1, hk.2.2.2.1⟩⟩⟩, hk.2.2.2.2⟩))) hg hat)
              have n2_ := Aside0.mk (Kd.R_after (ok := (fun k_ => some k_ ≠ (.slice Ao34 t558.length co34 : Value).ownBlock ∧ some k_ ≠ (.slice Ao32 t564.length co32 : Value).ownBlock ∧ some k_ ≠ (.slice Ao31 t567.length co31 : Value).ownBlock)) (rx_ (Kd.R_mono HO_571001.out (fun _ hk => ⟨⟨hk.1, ⟨hk.2.1, hk.2.2.1⟩⟩, hk.2.2.2⟩))) hg hat)
              have n3_ := Aside0.mk (Kd.R_after (ok := (fun k_ => some k_ ≠ (.slice (some ad571) t561.length co33 : Value).ownBlock ∧ some k_ ≠ (.slice Ao34 t558.length co34 : Value).ownBlock ∧ some k_ ≠ (.slice (some ad571) t561.length co33 : Value).ownBlock ∧ some k_ ≠ (.slice Ao31 t567.length co31 : Value).ownBlock)) (rx_ (Kd.R_mono HO_571002.out (fun _ hk => ⟨⟨hk.1, ⟨hk.2.1, ⟨hk.2.2.1, hk.2.2.2.1⟩⟩⟩, hk.2.2.2.2⟩))) hg hat)
              have n4_ := Aside0.mk (Kd.R_after (ok := (fun k_ => some k_ ≠ (.slice (some ad571) t561.length co33 : Value).ownBlock ∧ some k_ ≠ (.slice Ao34 t558.length co34 : Value).ownBlock ∧ some k_ ≠ (.slice (some ad571) t561.length co33 : Value).ownBlock ∧ some k_ ≠ (.slice Ao32 t564.length co32 : Value).ownBlock)) (rx_ (Kd.R_mono HO_571003.out (fun _ hk => ⟨⟨hk.1, ⟨hk.2.1, ⟨hk.2.2.1, hk.2.2.2.1⟩⟩⟩, hk.2.2.2.2⟩))) hg hat)
              have n5_ := Aside0.mk (blk_grown (g := gb553) (o := .cells #[.slice A2_0 l2_0.length c2_0, .slice (some ad573) l2_1.length c2_1, .slice A2_2 l2_2.length c2_2] 27 (0, 0)) (kx_ BK553.out) hg (Kd.R_ne HO_571005.out BK553.out (by decide)))
              have n6_ := Aside0.mk (blk_grown (g := gb554) (o := .cells #[.slice none 0 0, .slice none 0 0, .slice none 0 0, .slice none 0 0, .slice none 0 0, .slice none 0 0, .slice none 0 0] 92 (0, 0)) (kx_ BK554.out) hg (Kd.R_ne HO_571005.out BK554.out (by decide)))
              have n7_ := Aside0.mk (blk_grown (g := gb570) (o := .cells #[.slice Ao34 t558.length co34, .slice (some ad571) t561.length co33, .slice Ao32 t564.length co32, .slice Ao31 t567.length co31, .slice none 0 0, u571005, .slice none 0 0] 92 (0, 0)) (kx_ BK570.out) hg (Kd.R_ne HO_571005.out BK570.out (by decide)))
              have n8_ := Aside0.mk (hb)
              have n9_ := Aside0.mk (ho)
              clear HO_40
              clear HO_571000
              clear HO_571001
              clear HO_571002
              clear HO_571003
              clear BK553
              clear BK554
              clear BK570
              clear HB
              clear HO_571005
              have HO_40 := n0_
              have HO_571000 := n1_
              have HO_571001 := n2_
              have HO_571002 := n3_
              have HO_571003 := n4_
              have BK553 := n5_
              have BK554 := n6_
              have BK570 := n7_
              have HB := n8_
              have HO576 := n9_
              clear n0_ n1_ n2_ n3_ n4_ n5_ n6_ n7_ n8_ n9_
              clear ho hb hg hat
              obtain ⟨Ao49, co49, eo49⟩ := Kd.R_slice HO576.out
              (first | subst eo49 | (injection eo49 with f1_ f2_ f3_; have f4_ := f1_.symm; have f5_ := f3_.symm; clear f1_ f2_ f3_; subst f4_; subst f5_))
              refine hK.out _ _ ⟨(blk_cell BK570.out 0).trans rfl, (blk_cell BK570.out 1).trans rfl, (blk_cell BK570.out 2).trans rfl, (blk_cell BK570.out 3).trans rfl, (blk_cell BK570.out 4).trans rfl, (blk_cell BK570.out 5).trans rfl, (blk_cell BK570.out 6).trans rfl, (blk_cell BK553.out 0).trans rfl, (blk_cell BK553.out 1).trans rfl, (blk_cell BK553.out 2).trans rfl, (ce_ HB hw572_0), (ce_ HB hw572_1), (ce_ HB hw573_0)⟩ (fun hHeld => ?_)
              clear hK K
              refine norm_ (a' := ?_) ?_ ?_
              rotate_left
              ·show Act.put _ (some 58) _ = _
               simp only [Act.put, List.setIfInBounds_toArray, List.set_cons_zero, List.set_cons_succ, i64_w, i32_w]
               rfl
              refine pu_ 13 (some 59) (ba_ 15 16383) rfl rfl (any_of HT_.out (by kernel_rfl)) ?_
              refine last_ (i := 14) (N := none) (ba_ 15 32767) rfl rfl (one_of HT_.out (by kernel_rfl)) (by decide) (fun K hK => ?_)
              have hs50 : w48.cell? ⟨gb570, 5, none⟩ = some (u571005) := (blk_cell BK570.out 5).trans rfl
              have hfs50 := blk_frozen BK570.out 5
              have hns50_0 := NB553_570.out
              have hns50_1 := NB554_570.out
              have hms50_0 := NB570_553.out
              have hms50_1 := NB570_554.out
              refine skip_ (w1 := ?_) (by rfl) rfl ?_ ?_
              rotate_left
              ·go_simp
               rfl
              refine hK.out _ _ ?_
              clear hK K
              refine done_ (done_of HT_.out (by kernel_rfl)) ?_
              try go_wp2
              go_roundg k2
              case measure => have := HJ3.out; have := HK2.out; omega
              case rel => exact ⟨(wrap64 (x42_2 + 1)), (y574), (.slice Ao49 y574.length co49), (by first | rfl | (simp; done) | (simp [*]; done)), H', ⟨by have := HJ3.out; have := HK2.out; omega⟩, ⟨by (with_reducible repeat (first | apply Kd.R_alloc | apply Kd.R_drewN | apply Kd.R_drew)); exact Kd.R_mono (Kd.R_far (p := ⟨gb570, 5, none⟩) (Kd.R_types HO_40.out BK570.out (by decide)) (fun _ hk => hk.2) (.slice Ao49 y574.length co49)) (fun _ hk => ⟨hk.1.1.1, ⟨hk.1.1.2.1, ⟨hk.1.1.2.2, hk.1.2⟩⟩⟩)⟩, ⟨by (with_reducible repeat (first | apply Kd.R_alloc | apply Kd.R_drewN | apply Kd.R_drew)); exact Kd.R_mono (Kd.R_far (p := ⟨gb570, 5, none⟩) (Kd.R_types HO_571000.out BK570.out (by decide)) (fun _ hk => hk.2) (.slice Ao49 y574.length co49)) (fun _ hk => ⟨hk.1.1.1, ⟨hk.1.1.2.1, ⟨hk.1.1.2.2.1, ⟨hk.1.1.2.2.2, hk.1.2⟩⟩⟩⟩)⟩, ⟨by (with_reducible repeat (first | apply Kd.R_alloc | apply Kd.R_drewN | apply Kd.R_drew)); exact Kd.R_mono (Kd.R_far (p := ⟨gb570, 5, none⟩) (Kd.R_types HO_571001.out BK570.out (by decide)) (fun _ hk => hk.2) (.slice Ao49 y574.length co49)) (fun _ hk => ⟨hk.1.1.1, ⟨hk.1.1.2.1, ⟨hk.1.1.2.2, hk.1.2⟩⟩⟩)⟩, ⟨by (with_reducible repeat (first | apply Kd.R_alloc | apply Kd.R_drewN | apply Kd.R_drew)); exact Kd.R_mono (Kd.R_far (p := ⟨gb570, 5, none⟩) (Kd.R_types HO_571002.out BK570.out (by decide)) (fun _ hk => hk.2) (.slice Ao49 y574.length co49)) (fun _ hk => ⟨hk.1.1.1, ⟨hk.1.1.2.1, ⟨hk.1.1.2.2.1, ⟨hk.1.1.2.2.2, hk.1.2⟩⟩⟩⟩)⟩, ⟨by (with_reducible repeat (first | apply Kd.R_alloc | apply Kd.R_drewN | apply Kd.R_drew)); exact Kd.R_mono (Kd.R_far (p := ⟨gb570, 5, none⟩) (Kd.R_types HO_571003.out BK570.out (by decide)) (fun _ hk => hk.2) (.slice Ao49 y574.length co49)) (fun _ hk => ⟨hk.1.1.1, ⟨hk.1.1.2.1, ⟨hk.1.1.2.2.1, ⟨hk.1.1.2.2.2, hk.1.2⟩⟩⟩⟩)⟩, ⟨by (with_reducible repeat (first | apply Kd.R_alloc | apply Kd.R_drewN | apply Kd.R_drew)); exact Kd.R_mono (Kd.R_far (p := ⟨gb570, 5, none⟩) (Kd.R_types HO576.out BK570.out (by decide)) (fun _ hk => hk.2) (.slice Ao49 y574.length co49)) (fun _ hk => ⟨hk.1.1, ⟨hk.1.2.1, ⟨hk.1.2.2.1, ⟨hk.1.2.2.2.1, hk.1.2.2.2.2⟩⟩⟩⟩)⟩, ⟨by (with_reducible repeat (first | refine blk_drewN ?_ _ | refine blk_drew ?_ | refine blk_alloc ?_ _)); refine blk_far ?_ NB553_570.out _; (with_reducible repeat (first | refine blk_drewN ?_ _ | refine blk_drew ?_ | refine blk_alloc ?_ _)); exact BK553.out⟩, ⟨by (with_reducible repeat (first | refine blk_drewN ?_ _ | refine blk_drew ?_ | refine blk_alloc ?_ _)); refine blk_far ?_ NB554_570.out _; (with_reducible repeat (first | refine blk_drewN ?_ _ | refine blk_drew ?_ | refine blk_alloc ?_ _)); exact BK554.out⟩, ⟨by (with_reducible repeat (first | refine blk_drewN ?_ _ | refine blk_drew ?_ | refine blk_alloc ?_ _)); refine blk_put (cs := #[.slice Ao34 t558.length co34, .slice (some ad571) t561.length co33, .slice Ao32 t564.length co32, .slice Ao31 t567.length co31, .slice none 0 0, u571005, .slice none 0 0]) ?_ 5 _ rfl; (with_reducible repeat (first | refine blk_drewN ?_ _ | refine blk_drew ?_ | refine blk_alloc ?_ _)); exact BK570.out⟩, ⟨by repeat (first | (with_reducible first | exact HB.out | apply below_alloc | apply pw_below_drewN | apply below_drew1 | refine below_set ?_ GE553.out | refine below_set ?_ GE554.out | refine below_set ?_ GE570.out) | exact HB.out)⟩⟩
             ·rw [if_neg c46] at H
              exact absurd H (by simp)
            ·rw [if_neg c45] at H
             exact absurd H (by simp)
           ·rw [if_neg c44] at H
            exact absurd H (by simp)
          ·rw [if_neg c43] at H
           exact absurd H (by simp)
         ·rw [if_neg c42] at H
          exact absurd H (by simp)
        ·rw [if_neg c41] at H
         exact absurd H (by simp)
       ·rw [if_neg c40] at H
        exact absurd H (by simp)
      ·rw [if_neg c39] at H
       have c39b0 : decide (x42_2 < (t561.length : Int)) = false := decide_eq_false c39
       clear c39
       have H' := Aside0.mk H
       clear H
       have hnb51 := NB570_553.out
       have hnc51 := NB553_570.out
       have hnb52 := NB570_554.out
       have hnc52 := NB554_570.out
       have hcz53_0 : wr.cell? ⟨gb570, 0, none⟩ = some (.slice Ao34 t558.length co34) := (blk_cell BK570.out 0).trans rfl
       have hcz53_1 : wr.cell? ⟨gb570, 1, none⟩ = some (.slice Ao33 t561.length co33) := (blk_cell BK570.out 1).trans rfl
       have hcz53_2 : wr.cell? ⟨gb570, 2, none⟩ = some (.slice Ao32 t564.length co32) := (blk_cell BK570.out 2).trans rfl
       have hcz53_3 : wr.cell? ⟨gb570, 3, none⟩ = some (.slice Ao31 t567.length co31) := (blk_cell BK570.out 3).trans rfl
       have hcz53_4 : wr.cell? ⟨gb570, 4, none⟩ = some (.slice none 0 0) := (blk_cell BK570.out 4).trans rfl
       have hcz53_5 : wr.cell? ⟨gb570, 5, none⟩ = some (u571005) := (blk_cell BK570.out 5).trans rfl
       have hcz53_6 : wr.cell? ⟨gb570, 6, none⟩ = some (.slice none 0 0) := (blk_cell BK570.out 6).trans rfl
       have hfz53_0 := blk_frozen BK570.out 0
       have hfz53_1 := blk_frozen BK570.out 1
       have hfz53_2 := blk_frozen BK570.out 2
       have hfz53_3 := blk_frozen BK570.out 3
       have hfz53_4 := blk_frozen BK570.out 4
       have hfz53_5 := blk_frozen BK570.out 5
       have hfz53_6 := blk_frozen BK570.out 6
       go_wp2
       go_loopg [64] k2 (fun kq v64 w' => ∃ (x64_3 : Int) (x571004_3 : List Int) (x571006_3 : List (List Int)) (u571004 : Value) (u571006 : Value), v64 = .int .i64 x64_3 ∧ Aside0 (impl_measureOf.l1 kq l0 l1 t558 (t558.length : Int) x64_3 l2_0 l2_1 l2_2 t558 t561 t564 t567 x571004_3 x571005_2 x571006_3 = some (r1, r2, r3, r4, r5, r6, r7, r8)) ∧ Aside0 (kq ≤ k2) ∧ Aside0 (Kd.R (Kd.int .i64) 3 w' w.heap.size (fun k_ => some k_ ≠ ((.slice Ao33 t561.length co33) : Value).ownBlock ∧ some k_ ≠ ((.slice Ao32 t564.length co32) : Value).ownBlock ∧ some k_ ≠ ((.slice Ao31 t567.length co31) : Value).ownBlock ∧ some k_ ≠ (u571004 : Value).ownBlock ∧ some k_ ≠ (u571005 : Value).ownBlock) (.slice Ao34 t558.length co34) t558) ∧ Aside0 (Kd.R (Kd.int .i64) 3 w' w.heap.size (fun k_ => some k_ ≠ ((.slice Ao33 t561.length co33) : Value).ownBlock ∧ some k_ ≠ ((.slice Ao32 t564.length co32) : Value).ownBlock ∧ some k_ ≠ ((.slice Ao31 t567.length co31) : Value).ownBlock ∧ some k_ ≠ (u571004 : Value).ownBlock ∧ some k_ ≠ (u571005 : Value).ownBlock) (.slice Ao34 t558.length co34) t558) ∧ Aside0 (Kd.R (Kd.int .i64) 3 w' w.heap.size (fun k_ => some k_ ≠ ((.slice Ao34 t558.length co34) : Value).ownBlock ∧ some k_ ≠ ((.slice Ao34 t558.length co34) : Value).ownBlock ∧ some k_ ≠ ((.slice Ao32 t564.length co32) : Value).ownBlock ∧ some k_ ≠ ((.slice Ao31 t567.length co31) : Value).ownBlock ∧ some k_ ≠ (u571004 : Value).ownBlock ∧ some k_ ≠ (u571005 : Value).ownBlock) (.slice Ao33 t561.length co33) t561) ∧ Aside0 (Kd.R (Kd.int .i64) 3 w' w.heap.size (fun k_ => some k_ ≠ ((.slice Ao34 t558.length co34) : Value).ownBlock ∧ some k_ ≠ ((.slice Ao34 t558.length co34) : Value).ownBlock ∧ some k_ ≠ ((.slice Ao33 t561.length co33) : Value).ownBlock ∧ some k_ ≠ ((.slice Ao31 t567.length co31) : Value).ownBlock ∧ some k_ ≠ (u571004 : Value).ownBlock ∧ some k_ ≠ (u571005 : Value).ownBlock) (.slice Ao32 t564.length co32) t564) ∧ Aside0 (Kd.R (Kd.int .i64) 3 w' w.heap.size (fun k_ => some k_ ≠ ((.slice Ao34 t558.length co34) : Value).ownBlock ∧ some k_ ≠ ((.slice Ao34 t558.length co34) : Value).ownBlock ∧ some k_ ≠ ((.slice Ao33 t561.length co33) : Value).ownBlock ∧ some k_ ≠ ((.slice Ao32 t564.length co32) : Value).ownBlock ∧ some k_ ≠ (u571004 : Value).ownBlock ∧ some k_ ≠ (u571005 : Value).ownBlock) (.slice Ao31 t567.length co31) t567) ∧ Aside0 (Kd.R (Kd.int .i64) 3 w' w.heap.size (fun k_ => some k_ ≠ ((.slice Ao34 t558.length co34) : Value).ownBlock ∧ some k_ ≠ ((.slice Ao34 t558.length co34) : Value).ownBlock ∧ some k_ ≠ ((.slice Ao33 t561.length co33) : Value).ownBlock ∧ some k_ ≠ ((.slice Ao32 t564.length co32) : Value).ownBlock ∧ some k_ ≠ ((.slice Ao31 t567.length co31) : Value).ownBlock ∧ some k_ ≠ (u571005 : Value).ownBlock) u571004 x571004_3) ∧ Aside0 (Kd.R (Kd.int .i64) 3 w' w.heap.size (fun k_ => some k_ ≠ ((.slice Ao34 t558.length co34) : Value).ownBlock ∧ some k_ ≠ ((.slice Ao34 t558.length co34) : Value).ownBlock ∧ some k_ ≠ ((.slice Ao33 t561.length co33) : Value).ownBlock ∧ some k_ ≠ ((.slice Ao32 t564.length co32) : Value).ownBlock ∧ some k_ ≠ ((.slice Ao31 t567.length co31) : Value).ownBlock ∧ some k_ ≠ (u571004 : Value).ownBlock) u571005 x571005_2) ∧ Aside0 (Kd.S (Kd.slice 3 (Kd.int .i64)) 25 w' w.heap.size (fun k_ => some k_ ≠ ((.slice Ao34 t558.length co34) : Value).ownBlock ∧ some k_ ≠ ((.slice Ao34 t558.length co34) : Value).ownBlock ∧ some k_ ≠ ((.slice Ao33 t561.length co33) : Value).ownBlock ∧ some k_ ≠ ((.slice Ao32 t564.length co32) : Value).ownBlock ∧ some k_ ≠ ((.slice Ao31 t567.length co31) : Value).ownBlock ∧ some k_ ≠ (u571004 : Value).ownBlock ∧ some k_ ≠ (u571005 : Value).ownBlock) u571006 x571006_3) ∧ Aside0 (w'.heap[gb553]? = some (.cells #[(.slice A2_0 l2_0.length c2_0), (.slice A2_1 l2_1.length c2_1), (.slice A2_2 l2_2.length c2_2)] 27 (0, 0))) ∧ Aside0 (w'.heap[gb554]? = some (.cells #[(.slice none 0 0), (.slice none 0 0), (.slice none 0 0), (.slice none 0 0), (.slice none 0 0), (.slice none 0 0), (.slice none 0 0)] 92 (0, 0))) ∧ Aside0 (w'.heap[gb570]? = some (.cells #[(.slice Ao34 t558.length co34), (.slice Ao33 t561.length co33), (.slice Ao32 t564.length co32), (.slice Ao31 t567.length co31), u571004, u571005, u571006] 92 (0, 0))) ∧ Aside0 (Below w.heap.size w w'))
       case atStart => exact ⟨(0), (([] : List Int)), (([] : List (List Int))), (.slice none 0 0), (.slice none 0 0), eb_, H', ⟨Nat.le_refl _⟩, ⟨rx_ (Kd.R_mono HO_571000.out (fun _ hk => ⟨hk.2.1, ⟨hk.2.2.1, ⟨hk.2.2.2.1, ⟨(by simp [Value.ownBlock]), hk.2.2.2.2⟩⟩⟩⟩))⟩, ⟨rx_ (Kd.R_mono HO_571000.out (fun _ hk => ⟨hk.2.1, ⟨hk.2.2.1, ⟨hk.2.2.2.1, ⟨(by simp [Value.ownBlock]), hk.2.2.2.2⟩⟩⟩⟩))⟩, ⟨rx_ (Kd.R_mono HO_571001.out (fun _ hk => ⟨hk.1, ⟨hk.1, ⟨hk.2.1, ⟨hk.2.2.1, ⟨(by simp [Value.ownBlock]), hk.2.2.2⟩⟩⟩⟩⟩))⟩, ⟨rx_ (Kd.R_mono HO_571002.out (fun _ hk => ⟨hk.2.1, ⟨hk.2.1, ⟨hk.2.2.1, ⟨hk.2.2.2.1, ⟨(by simp [Value.ownBlock]), hk.2.2.2.2⟩⟩⟩⟩⟩))⟩, ⟨rx_ (Kd.R_mono HO_571003.out (fun _ hk => ⟨hk.2.1, ⟨hk.2.1, ⟨hk.2.2.1, ⟨hk.2.2.2.1, ⟨(by simp [Value.ownBlock]), hk.2.2.2.2⟩⟩⟩⟩⟩))⟩, ⟨by first | exact Kd.R_nil _ _ _ _ _ | exact Kd.N_nil _ _ _ _ _ | exact Kd.V_nil _ _ _ _ _ | exact Kd.Q_nil _ _ _ _ _ | exact Kd.S_nil _ _ _ _ _⟩, ⟨rx_ (Kd.R_mono HO_571005.out (fun _ hk => ⟨hk.2.1, ⟨hk.2.1, ⟨hk.2.2.1, ⟨hk.2.2.2.1, ⟨hk.2.2.2.2, (by simp [Value.ownBlock])⟩⟩⟩⟩⟩))⟩, ⟨by first | exact Kd.S_nil _ _ _ _ _ | exact Kd.N_nil _ _ _ _ _ | exact Kd.V_nil _ _ _ _ _ | exact Kd.Q_nil _ _ _ _ _ | exact Kd.R_nil _ _ _ _ _⟩, ⟨kx_ BK553.out⟩, ⟨kx_ BK554.out⟩, ⟨kx_ BK570.out⟩, bl_ HB⟩
       case round =>
        clear H'
        try clear c1
        try clear c2
        try clear p2
        try clear c3
        try clear c4
        try clear c5
        try clear p5
        try clear q5
        try clear hx5
        try clear p6
        try clear c7
        try clear c8
        try clear c10
        try clear c12
        try clear c14
        try clear c20
        try clear c21
        try clear c36
        try clear c37
        try clear c39
        try clear c39b0
        try clear c40
        try clear c40b0
        try clear c41
        try clear c41b0
        try clear c42
        try clear c42b0
        try clear c43
        try clear c43b0
        try clear c44
        try clear c44b0
        try clear c45
        try clear c45b0
        try clear c46
        try clear c51
        try clear c52
        try clear hcz15_0
        try clear hcz15_1
        try clear hcz15_2
        try clear hcz22_0
        try clear hcz22_1
        try clear hcz22_2
        try clear hcz22_3
        try clear hcz22_4
        try clear hcz22_5
        try clear hcz22_6
        try clear hcz38_0
        try clear hcz38_1
        try clear hcz38_2
        try clear hcz38_3
        try clear hcz38_4
        try clear hcz38_5
        try clear hcz38_6
        try clear hcz53_0
        try clear hcz53_1
        try clear hcz53_2
        try clear hcz53_3
        try clear hcz53_4
        try clear hcz53_5
        try clear hcz53_6
        try clear hfz15_0
        try clear hfz15_1
        try clear hfz15_2
        try clear hfz22_0
        try clear hfz22_1
        try clear hfz22_2
        try clear hfz22_3
        try clear hfz22_4
        try clear hfz22_5
        try clear hfz22_6
        try clear hfz38_0
        try clear hfz38_1
        try clear hfz38_2
        try clear hfz38_3
        try clear hfz38_4
        try clear hfz38_5
        try clear hfz38_6
        try clear hfz53_0
        try clear hfz53_1
        try clear hfz53_2
        try clear hfz53_3
        try clear hfz53_4
        try clear hfz53_5
        try clear hfz53_6
        try clear hx571_0
        try clear hx572_0
        try clear hx572_1
        try clear hx573_0
        try clear p2
        try clear p571
        try clear p572
        try clear p573
        try clear q571
        try clear q572
        try clear q573
        obtain ⟨x64_3, x571004_3, x571006_3, u571004, u571006, rfl, HA, HK3, HO_62, HO_571000, HO_571001, HO_571002, HO_571003, HO_571004, HO_571005, HO_571006, BK553, BK554, BK570, HB⟩ := hrel
        cases gk with
        | zero => exact absurd HA.out (by simp [impl_measureOf.l1])
        | succ k3 =>
         have H := HA.out
         clear HA
         simp only [impl_measureOf.l1] at H
         by_cases c54 : x64_3 < (t558.length : Int)
         ·rw [if_pos c54] at H
          have c54b0 : decide (x64_3 < (t558.length : Int)) = true := decide_eq_true c54
          clear c54
          by_cases c55 : 0 ≤ x64_3
          ·rw [if_pos c55] at H
           have c55b0 : decide (0 ≤ x64_3) = true := decide_eq_true c55
           clear c55
           by_cases c56 : x64_3 < (t558.length : Int)
           ·rw [if_pos c56] at H
            have c56b0 : decide (x64_3 < (t558.length : Int)) = true := decide_eq_true c56
            clear c56
            by_cases c57 : 0 ≤ (rd t558 x64_3)
            ·rw [if_pos c57] at H
             have c57b0 : decide (0 ≤ (rd t558 x64_3)) = true := decide_eq_true c57
             clear c57
             by_cases c58 : (rd t558 x64_3) < (l0.length : Int)
             ·rw [if_pos c58] at H
              have c58b0 : decide ((rd t558 x64_3) < (l0.length : Int)) = true := decide_eq_true c58
              clear c58
              by_cases c59 : 0 ≤ ((rd_T77 l0 (rd t558 x64_3)).f0)
              ·rw [if_pos c59] at H
               have c59b0 : decide (0 ≤ ((rd_T77 l0 (rd t558 x64_3)).f0)) = true := decide_eq_true c59
               clear c59
               by_cases c60 : ((rd_T77 l0 (rd t558 x64_3)).f0) < (l2_0.length : Int)
               ·rw [if_pos c60] at H
                have c60b0 : decide (((rd_T77 l0 (rd t558 x64_3)).f0) < (l2_0.length : Int)) = true := decide_eq_true c60
                clear c60
                by_cases c61 : x571004_3.length < 17592186044416
                ·rw [if_pos c61] at H
                 have LMc61 := Aside0.mk c61
                 clear c61
                 obtain ⟨y580, hy580⟩ : ∃ y_ : List Int, y_ = (x571004_3 ++ [rd l2_0 ((rd_T77 l0 (rd t558 x64_3)).f0)]) := ⟨_, rfl⟩
                 replace H : (impl_measureOf.l2 k3 l0 l1 (rd t558 x64_3) (([] : List Int)) t558 (t558.length : Int) x64_3 t561 (t561.length : Int) 0 l2_0 l2_1 l2_2 t558 t561 t564 t567 y580 x571005_2 x571006_3) = some (r1, r2, r3, r4, r5, r6, r7, r8) := by first | (rw [hy580]; with_reducible exact H) | (have H2_ := (Option.bind_some _ _).symm.trans H; rw [hy580]; with_reducible exact H2_) | (have H2_ := (Option.bind_some _ _).symm.trans H; with_reducible exact H2_) | with_reducible exact H | (rw [hy580]; exact H) | exact H
                 have Ny580 := Aside0.mk hy580
                 clear hy580
                 obtain ⟨y583, hy583⟩ : ∃ y_ : List Int, y_ = (([] : List Int)) := ⟨_, rfl⟩
                 replace H : (impl_measureOf.l2 k3 l0 l1 (rd t558 x64_3) y583 t558 (t558.length : Int) x64_3 t561 (t561.length : Int) 0 l2_0 l2_1 l2_2 t558 t561 t564 t567 y580 x571005_2 x571006_3) = some (r1, r2, r3, r4, r5, r6, r7, r8) := by first | (rw [hy583]; with_reducible exact H) | (have H2_ := (Option.bind_some _ _).symm.trans H; rw [hy583]; with_reducible exact H2_) | (have H2_ := (Option.bind_some _ _).symm.trans H; with_reducible exact H2_) | with_reducible exact H | (rw [hy583]; exact H) | exact H
                 have Ny583 := Aside0.mk hy583
                 clear hy583
                 have H' := Aside0.mk H
                 clear H
                 have p577 : 0 ≤ (x64_3 : Int) := od_
                 have q577 : x64_3 < (t558.length : Int) := od_
                 obtain ⟨ad577, e577, hx577_0⟩ := Kd.at_int (Kd.R_reads' HO_62.out).2.2 x64_3 p577 q577
                 cases e577
                 replace p577 := eq_true p577
                 replace q577 := eq_true q577
                 try go_wp2
                 have n0_ := Aside0.mk (Kd.R_drew HO_62.out)
                 have n1_ := Aside0.mk (Kd.R_drew HO_571000.out)
                 have n2_ := Aside0.mk (Kd.R_drew HO_571001.out)
                 have n3_ := Aside0.mk (Kd.R_drew HO_571002.out)
                 have n4_ := Aside0.mk (Kd.R_drew HO_571003.out)
                 have n5_ := Aside0.mk (Kd.R_drew HO_571004.out)
                 have n6_ := Aside0.mk (Kd.R_drew HO_571005.out)
                 have n7_ := Aside0.mk (Kd.S_drew HO_571006.out)
                 have n8_ := Aside0.mk (blk_drew BK553.out)
                 have n9_ := Aside0.mk (blk_drew BK554.out)
                 have n10_ := Aside0.mk (blk_drew BK570.out)
                 have n11_ := Aside0.mk (below_drew1 HB.out)
                 clear HO_62
                 clear HO_571000
                 clear HO_571001
                 clear HO_571002
                 clear HO_571003
                 clear HO_571004
                 clear HO_571005
                 clear HO_571006
                 clear BK553
                 clear BK554
                 clear BK570
                 clear HB
                 have HO_62 := n0_
                 have HO_571000 := n1_
                 have HO_571001 := n2_
                 have HO_571002 := n3_
                 have HO_571003 := n4_
                 have HO_571004 := n5_
                 have HO_571005 := n6_
                 have HO_571006 := n7_
                 have BK553 := n8_
                 have BK554 := n9_
                 have BK570 := n10_
                 have HB := n11_
                 clear n0_ n1_ n2_ n3_ n4_ n5_ n6_ n7_ n8_ n9_ n10_ n11_
                 have p578 : 0 ≤ ((rd t558 x64_3) : Int) := od_
                 have q578 : (rd t558 x64_3) < (l0.length : Int) := od_
                 obtain ⟨ad578, e578, hx578_0, hx578_1⟩ := at_T77 HR0.out (rd t558 x64_3) p578 q578
                 have hw578_1 := hx578_1
                 have hw578_0 := hx578_0
                 cases e578
                 replace hx578_0 := ce_ HB hx578_0
                 replace hx578_1 := ce_ HB hx578_1
                 replace p578 := eq_true p578
                 replace q578 := eq_true q578
                 have p579 : 0 ≤ (((rd_T77 l0 (rd t558 x64_3)).f0) : Int) := od_
                 have q579 : ((rd_T77 l0 (rd t558 x64_3)).f0) < (l2_0.length : Int) := od_
                 obtain ⟨ad579, e579, hx579_0⟩ := Kd.at_int HR2_0.out ((rd_T77 l0 (rd t558 x64_3)).f0) p579 q579
                 have hw579_0 := hx579_0
                 cases e579
                 replace hx579_0 := ce_ HB hx579_0
                 replace p579 := eq_true p579
                 replace q579 := eq_true q579
                 refine start_ (n := 15) (S := fun w' => w'.cell? ⟨gb570, 0, none⟩ = some (.slice (some ad577) t558.length co34) ∧ w'.cell? ⟨gb570, 1, none⟩ = some (.slice Ao33 t561.length co33) ∧ w'.cell? ⟨gb570, 2, none⟩ = some (.slice Ao32 t564.length co32) ∧ w'.cell? ⟨gb570, 3, none⟩ = some (.slice Ao31 t567.length co31) ∧ w'.cell? ⟨gb570, 4, none⟩ = some (u571004) ∧ w'.cell? ⟨gb570, 5, none⟩ = some (u571005) ∧ w'.cell? ⟨gb570, 6, none⟩ = some (u571006) ∧ w'.cell? ⟨gb553, 0, none⟩ = some (.slice (some ad579) l2_0.length c2_0) ∧ w'.cell? ⟨gb553, 1, none⟩ = some (.slice A2_1 l2_1.length c2_1) ∧ w'.cell? ⟨gb553, 2, none⟩ = some (.slice A2_2 l2_2.length c2_2) ∧ w'.cell? (ad578.add (((rd t558 x64_3)).toNat * 2)) = some (.int .i64 ((rd_T77 l0 (rd t558 x64_3)).f0)) ∧ w'.cell? ⟨(ad578.add (((rd t558 x64_3)).toNat * 2)).block, (ad578.add (((rd t558 x64_3)).toNat * 2)).off + 1, none⟩ = some (.int .i64 ((rd_T77 l0 (rd t558 x64_3)).f1)) ∧ w'.cell? (ad579.add (((rd_T77 l0 (rd t558 x64_3)).f0)).toNat) = some (.int .i64 (rd l2_0 ((rd_T77 l0 (rd t558 x64_3)).f0)))) (ds := [14]) (ba_ 15 0) (by kernel_rfl) rfl rfl ⟨(blk_cell BK570.out 0).trans rfl, (blk_cell BK570.out 1).trans rfl, (blk_cell BK570.out 2).trans rfl, (blk_cell BK570.out 3).trans rfl, (blk_cell BK570.out 4).trans rfl, (blk_cell BK570.out 5).trans rfl, (blk_cell BK570.out 6).trans rfl, (blk_cell BK553.out 0).trans rfl, (blk_cell BK553.out 1).trans rfl, (blk_cell BK553.out 2).trans rfl, (ce_ HB hw578_0), (ce_ HB hw578_1), (ce_ HB hw579_0)⟩ (fun hHeld => ?_); refine with_tabW impl_measureOf.tab12 impl_measureOf.bits12 (fun HT_ HW_ => ?_)
                 generalize wr.drew = w62 at HO_62 HO_571000 HO_571001 HO_571002 HO_571003 HO_571004 HO_571005 HO_571006 BK553 BK554 BK570 HB hx578_0 hx578_1 hx579_0 hHeld ⊢
                 refine pu_ 0 (some 68) (ba_ 15 1) rfl rfl (any_of HT_.out (by kernel_rfl)) ?_
                 refine pu_ 2 (some 70) (ba_ 15 5) rfl rfl (any_of HT_.out (by kernel_rfl)) ?_
                 refine pu_ 4 (some 72) (ba_ 15 21) rfl rfl (any_of HT_.out (by kernel_rfl)) ?_
                 refine pu_ 5 (some 73) (ba_ 15 53) rfl rfl (any_of HT_.out (by kernel_rfl)) ?_
                 refine pu_ 6 (some 74) (ba_ 15 117) rfl rfl (any_of HT_.out (by kernel_rfl)) ?_
                 refine pu_ 7 (some 75) (ba_ 15 245) rfl rfl (any_of HT_.out (by kernel_rfl)) ?_
                 refine ta_ 1 (some 69) (ba_ 15 247) rfl rfl (take_ofW HT_.out HW_.out (by kernel_rfl)) hHeld (by rintro w' ⟨s0, s1, s2, s3, s4, s5, s6, s7, s8, s9, s10, s11, s12⟩; go_simp; with_reducible rfl) ?_
                 refine ta_ 3 (some 71) (ba_ 15 255) rfl rfl (take_ofW HT_.out HW_.out (by kernel_rfl)) hHeld (by rintro w' ⟨s0, s1, s2, s3, s4, s5, s6, s7, s8, s9, s10, s11, s12⟩; go_simp; with_reducible rfl) ?_
                 refine ta_ 8 (some 76) (ba_ 15 511) rfl rfl (take_ofW HT_.out HW_.out (by kernel_rfl)) hHeld (by rintro w' ⟨s0, s1, s2, s3, s4, s5, s6, s7, s8, s9, s10, s11, s12⟩; go_simp; with_reducible rfl) ?_
                 refine pu_ 9 (some 77) (ba_ 15 1023) rfl rfl (any_of HT_.out (by kernel_rfl)) ?_
                 refine ta_ 10 (some 78) (ba_ 15 2047) rfl rfl (take_ofW HT_.out HW_.out (by kernel_rfl)) hHeld (by rintro w' ⟨s0, s1, s2, s3, s4, s5, s6, s7, s8, s9, s10, s11, s12⟩; go_simp; with_reducible rfl) ?_
                 refine one_ (i := 11) (N := some 79) (ba_ 15 4095) rfl rfl (one_of HT_.out (by kernel_rfl)) (by decide) (fun K hK => ?_)
                 refine value_ (w1 := ?_) (v := ?_) (by rfl) rfl ?_ ?_
                 rotate_left 2
                 ·go_simp
                  constructor
                  ·rfl
                  ·rfl
                 refine hK.out _ _ ⟨(blk_cell (blk_alloc BK570.out _) 0).trans rfl, (blk_cell (blk_alloc BK570.out _) 1).trans rfl, (blk_cell (blk_alloc BK570.out _) 2).trans rfl, (blk_cell (blk_alloc BK570.out _) 3).trans rfl, (blk_cell (blk_alloc BK570.out _) 4).trans rfl, (blk_cell (blk_alloc BK570.out _) 5).trans rfl, (blk_cell (blk_alloc BK570.out _) 6).trans rfl, (blk_cell (blk_alloc BK553.out _) 0).trans rfl, (blk_cell (blk_alloc BK553.out _) 1).trans rfl, (blk_cell (blk_alloc BK553.out _) 2).trans rfl, (World.cell?_alloc_lt _ _ _ (World.block_lt_of_cell? _ _ ((ce_ HB hw578_0)))).trans ((ce_ HB hw578_0)), (World.cell?_alloc_lt _ _ _ (World.block_lt_of_cell? _ _ ((ce_ HB hw578_1)))).trans ((ce_ HB hw578_1)), (World.cell?_alloc_lt _ _ _ (World.block_lt_of_cell? _ _ ((ce_ HB hw579_0)))).trans ((ce_ HB hw579_0))⟩ (fun hHeld => ?_)
                 clear hK K
                 refine norm_ (a' := ?_) ?_ ?_
                 rotate_left
                 ·show Act.put _ (some 79) _ = _
                  simp only [Act.put, List.setIfInBounds_toArray, List.set_cons_zero, List.set_cons_succ, i64_w, i32_w]
                  rfl
                 refine one_ (i := 12) (N := some 80) (ba_ 15 8191) rfl rfl (one_of HT_.out (by kernel_rfl)) (by decide) (fun K hK => ?_)
                 refine Kd.R_append_step (Kd.int .i64) (w0 := w) w.heap.size (by rfl) (.tmp 69) (.tmp 79) 25 3 (.int .i64 0) 8 rfl Try.underlying25 info3 rfl (by decide) (by omega) u571004 x571004_3 (rd l2_0 ((rd_T77 l0 (rd t558 x64_3)).f0)) [.int .i64 (rd l2_0 ((rd_T77 l0 (rd t558 x64_3)).f0))] (fun k_ => some k_ ≠ (.slice (some ad577) t558.length co34 : Value).ownBlock ∧ some k_ ≠ (.slice (some ad577) t558.length co34 : Value).ownBlock ∧ some k_ ≠ (.slice Ao33 t561.length co33 : Value).ownBlock ∧ some k_ ≠ (.slice Ao32 t564.length co32 : Value).ownBlock ∧ some k_ ≠ (.slice Ao31 t567.length co31 : Value).ownBlock ∧ some k_ ≠ (u571005 : Value).ownBlock) (fun _ => False) rfl rfl ?aP (fun _ hk => hk.elim) ?aF ?aO ?aB ?aS ?aL ?_
                 (case aP => exact rfl)
                 (case aB => exact ((bl_ HB).out))
                 (case aF => exact (fun k_ hk => ⟨Kd.fresh' (Kd.R_lt (rx_ HO_62.out)) k_ hk, Kd.fresh' (Kd.R_lt (rx_ HO_571000.out)) k_ hk, Kd.fresh' (Kd.R_lt (rx_ HO_571001.out)) k_ hk, Kd.fresh' (Kd.R_lt (rx_ HO_571002.out)) k_ hk, Kd.fresh' (Kd.R_lt (rx_ HO_571003.out)) k_ hk, Kd.fresh' (Kd.R_lt (rx_ HO_571005.out)) k_ hk⟩))
                 (case aO => exact (rx_ HO_571004.out))
                 (case aS => exact (bs_ HB))
                 (case aL => have := LMc61.out; omega)
                 intro v581 w63 ho hb hg hat
                 rw [← Ny580.out] at ho
                 have n0_ := Aside0.mk (Kd.R_after (ok := (fun k_ => some k_ ≠ (.slice Ao33 t561.length co33 : Value).ownBlock ∧ some k_ ≠ (.slice Ao32 t564.length co32 : Value).ownBlock ∧ some k_ ≠ (.slice Ao31 t567.length co31 : Value).ownBlock ∧ some k_ ≠ (u571005 : Value).ownBlock)) (rx_ (Kd.R_mono HO_62.out (fun _ hk => ⟨⟨hk.1, ⟨hk.2.1, ⟨hk.2.2.1, hk.2.2.2.2⟩⟩⟩, hk.2.2.2.1⟩))) hg hat)
                 have n1_ := Aside0.mk (Kd.R_after (ok := (fun k_ => some k_ ≠ (.slice Ao33 t561.length co33 : Value).ownBlock ∧ some k_ ≠ (.slice Ao32 t564.length co32 : Value).ownBlock ∧ some k_ ≠ (.slice Ao31 t567.length co31 : Value).ownBlock ∧ some k_ ≠ (u571005 : Value).ownBlock)) (rx_ (Kd.R_mono HO_571000.out (fun _ hk => ⟨⟨hk.1, ⟨hk.2.1, ⟨hk.2.2.1, hk.2.2.2.2⟩⟩⟩, hk.2.2.2.1⟩))) hg hat)
                 have n2_ := Aside0.mk (Kd.R_after (ok := (fun k_ => some k_ ≠ (.slice (some ad577) t558.length co34 : Value).ownBlock ∧ some k_ ≠ (.slice (some ad577) t558.length co34 : Value).ownBlock ∧ some k_ ≠ (.slice Ao32 t564.length co32 : Value).ownBlock ∧ some k_ ≠ (.slice Ao31 t567.length co31 : Value).ownBlock ∧ some k_ ≠ (u571005 : Value).ownBlock)) (rx_ (Kd.R_mono HO_571001.out (fun _ hk => ⟨⟨hk.1, ⟨hk.2.1, ⟨hk.2.2.1, ⟨hk.2.2.2.1, hk.2.2.2.2.2⟩⟩⟩⟩, hk.2.2.2.2.1⟩))) hg hat)
                 have n3_ := Aside0.mk (Kd.R_after (ok := (fun k_ => some k_ ≠ (.slice (some ad577) t558.length co34 : Value).ownBlock ∧ some k_ ≠ (.slice (some ad577) t558.length co34 : Value).ownBlock ∧ some k_ ≠ (.slice Ao33 t561.length co33 : Value).ownBlock ∧ some k_ ≠ (.slice Ao31 t567.length co31 : Value).ownBlock ∧ some k_ ≠ (u571005 : Value).ownBlock)) (rx_ (Kd.R_mono HO_571002.out (fun _ hk => ⟨⟨hk.1, ⟨hk.2.1, ⟨hk.2.2.1, ⟨hk.2.2.2.1, hk.2.2.2.2.2⟩⟩⟩⟩, hk.2.2.2.2.1⟩))) hg hat)
                 have n4_ := Aside0.mk (Kd.R_after (ok := (fun k_ => some k_ ≠ (.slice (some ad577) t558.length co34 : Value).ownBlock ∧ some k_ ≠ (.slice (some ad577) t558.length co34 : Value).ownBlock ∧ some k_ ≠ (.slice Ao33 t561.length co33 : Value).ownBlock ∧ some k_ ≠ (.slice Ao32 t564.length co32 : Value).ownBlock ∧ some k_ ≠ (u571005 : Value).ownBlock)) (rx_ (Kd.R_mono HO_571003.out (fun _ hk => ⟨⟨hk.1, ⟨hk.2.1, ⟨hk.2.2.1, ⟨hk.2.2.2.1, hk.2.2.2.2.2⟩⟩⟩⟩, hk.2.2.2.2.1⟩))) hg hat)
                 have n5_ := Aside0.mk (Kd.R_after (ok := (fun k_ => some k_ ≠ (.slice (some ad577) t558.length co34 : Value).ownBlock ∧ some k_ ≠ (.slice (some ad577) t558.length co34 : Value).ownBlock ∧ some k_ ≠ (.slice Ao33 t561.length co33 : Value).ownBlock ∧ some k_ ≠ (.slice Ao32 t564.length co32 : Value).ownBlock ∧ some k_ ≠ (.slice Ao31 t567.length co31 : Value).ownBlock)) (rx_ (Kd.R_mono HO_571005.out (fun _ hk => ⟨⟨hk.1, ⟨hk.2.1, ⟨hk.2.2.1, ⟨hk.2.2.2.1, hk.2.2.2.2.1⟩⟩⟩⟩, hk.2.2.2.2.2⟩))) hg hat)
                 have n6_ := Aside0.mk (Kd.S_after (ok := (fun k_ => some k_ ≠ (.slice (some ad577) t558.length co34 : Value).ownBlock ∧ some k_ ≠ (.slice (some ad577) t558.length co34 : Value).ownBlock ∧ some k_ ≠ (.slice Ao33 t561.length co33 : Value).ownBlock ∧ some k_ ≠ (.slice Ao32 t564.length co32 : Value).ownBlock ∧ some k_ ≠ (.slice Ao31 t567.length co31 : Value).ownBlock ∧ some k_ ≠ (u571005 : Value).ownBlock)) (sx_ (Kd.S_mono HO_571006.out (fun _ hk => ⟨⟨hk.1, ⟨hk.2.1, ⟨hk.2.2.1, ⟨hk.2.2.2.1, ⟨hk.2.2.2.2.1, hk.2.2.2.2.2.2⟩⟩⟩⟩⟩, hk.2.2.2.2.2.1⟩))) hg hat)
                 have n7_ := Aside0.mk (blk_grown (g := gb553) (o := .cells #[.slice (some ad579) l2_0.length c2_0, .slice A2_1 l2_1.length c2_1, .slice A2_2 l2_2.length c2_2] 27 (0, 0)) (kx_ BK553.out) hg (Kd.R_ne HO_571004.out BK553.out (by decide)))
                 have n8_ := Aside0.mk (blk_grown (g := gb554) (o := .cells #[.slice none 0 0, .slice none 0 0, .slice none 0 0, .slice none 0 0, .slice none 0 0, .slice none 0 0, .slice none 0 0] 92 (0, 0)) (kx_ BK554.out) hg (Kd.R_ne HO_571004.out BK554.out (by decide)))
                 have n9_ := Aside0.mk (blk_grown (g := gb570) (o := .cells #[.slice (some ad577) t558.length co34, .slice Ao33 t561.length co33, .slice Ao32 t564.length co32, .slice Ao31 t567.length co31, u571004, u571005, u571006] 92 (0, 0)) (by (with_reducible repeat (first | refine blk_drewN ?_ _ | refine blk_drew ?_ | refine blk_alloc ?_ _)); exact BK570.out) hg (Kd.R_ne HO_571004.out BK570.out (by decide)))
                 have n10_ := Aside0.mk (hb)
                 have n11_ := Aside0.mk (ho)
                 clear HO_62
                 clear HO_571000
                 clear HO_571001
                 clear HO_571002
                 clear HO_571003
                 clear HO_571005
                 clear HO_571006
                 clear BK553
                 clear BK554
                 clear BK570
                 clear HB
                 clear HO_571004
                 have HO_62 := n0_
                 have HO_571000 := n1_
                 have HO_571001 := n2_
                 have HO_571002 := n3_
                 have HO_571003 := n4_
                 have HO_571005 := n5_
                 have HO_571006 := n6_
                 have BK553 := n7_
                 have BK554 := n8_
                 have BK570 := n9_
                 have HB := n10_
                 have HO582 := n11_
                 clear n0_ n1_ n2_ n3_ n4_ n5_ n6_ n7_ n8_ n9_ n10_ n11_
                 clear ho hb hg hat
                 obtain ⟨Ao64, co64, eo64⟩ := Kd.R_slice HO582.out
                 (first | subst eo64 | (injection eo64 with f1_ f2_ f3_; have f4_ := f1_.symm; have f5_ := f3_.symm; clear f1_ f2_ f3_; subst f4_; subst f5_))
                 refine hK.out _ _ ⟨(blk_cell BK570.out 0).trans rfl, (blk_cell BK570.out 1).trans rfl, (blk_cell BK570.out 2).trans rfl, (blk_cell BK570.out 3).trans rfl, (blk_cell BK570.out 4).trans rfl, (blk_cell BK570.out 5).trans rfl, (blk_cell BK570.out 6).trans rfl, (blk_cell BK553.out 0).trans rfl, (blk_cell BK553.out 1).trans rfl, (blk_cell BK553.out 2).trans rfl, ((HB.out.cell (World.block_lt_of_cell? w _ hw578_0)).trans hw578_0), ((HB.out.cell (World.block_lt_of_cell? w _ hw578_1)).trans hw578_1), ((HB.out.cell (World.block_lt_of_cell? w _ hw579_0)).trans hw579_0)⟩ (fun hHeld => ?_)
                 clear hK K
                 refine norm_ (a' := ?_) ?_ ?_
                 rotate_left
                 ·show Act.put _ (some 80) _ = _
                  simp only [Act.put, List.setIfInBounds_toArray, List.set_cons_zero, List.set_cons_succ, i64_w, i32_w]
                  rfl
                 refine pu_ 13 (some 81) (ba_ 15 16383) rfl rfl (any_of HT_.out (by kernel_rfl)) ?_
                 refine last_ (i := 14) (N := none) (ba_ 15 32767) rfl rfl (one_of HT_.out (by kernel_rfl)) (by decide) (fun K hK => ?_)
                 have hs65 : w63.cell? ⟨gb570, 4, none⟩ = some (u571004) := (blk_cell BK570.out 4).trans rfl
                 have hfs65 := blk_frozen BK570.out 4
                 have hns65_0 := NB553_570.out
                 have hns65_1 := NB554_570.out
                 have hms65_0 := NB570_553.out
                 have hms65_1 := NB570_554.out
                 refine skip_ (w1 := ?_) (by rfl) rfl ?_ ?_
                 rotate_left
                 ·go_simp
                  rfl
                 refine hK.out _ _ ?_
                 clear hK K
                 refine done_ (done_of HT_.out (by kernel_rfl)) ?_
                 try go_wp2_with (first | ((with_reducible refine gate_dst (N := 82) rfl ?_); refine Kd.R_lit (Kd.int .i64) _ 3 ?hg (N := 82) ?hd (xs := ([] : List Int)) (inner := []) (ok := fun _ => True) (okp := fun _ => True) ?hr ?hp (fun _ hk => hk) trivial (Below.refl _ _) (Nat.le_refl _) (by simp) ?_; (case hd => rfl); (case hg => rfl); (case hr => first | (go_simp; done) | (go_simp; rfl)); (case hp => exact (Reps.none _ _)); intro v584 w66 ho67 hb hg_ hnew_; clear hg_ hnew_; (first | rw [← Ny583.out] at ho67 | (simp only [Int.reduceToNat] at ho67; rw [← Ny583.out] at ho67)); have n0_ := Aside0.mk (Kd.R_elder' (by (with_reducible repeat (first | apply Kd.R_alloc | apply Kd.R_drewN | apply Kd.R_drew)); exact (Kd.R_mono (Kd.R_far (p := ⟨gb570, 4, none⟩) (Kd.R_types HO_62.out BK570.out (by decide)) (fun _ hk => hk.2) (.slice Ao64 y580.length co64)) (fun _ h_ => h_.1))) (Kd.R_base ho67) hb); have n1_ := Aside0.mk (Kd.R_elder' (by (with_reducible repeat (first | apply Kd.R_alloc | apply Kd.R_drewN | apply Kd.R_drew)); exact (Kd.R_mono (Kd.R_far (p := ⟨gb570, 4, none⟩) (Kd.R_types HO_571000.out BK570.out (by decide)) (fun _ hk => hk.2) (.slice Ao64 y580.length co64)) (fun _ h_ => h_.1))) (Kd.R_base ho67) hb); have n2_ := Aside0.mk (Kd.R_elder' (by (with_reducible repeat (first | apply Kd.R_alloc | apply Kd.R_drewN | apply Kd.R_drew)); exact (Kd.R_mono (Kd.R_far (p := ⟨gb570, 4, none⟩) (Kd.R_types HO_571001.out BK570.out (by decide)) (fun _ hk => hk.2) (.slice Ao64 y580.length co64)) (fun _ h_ => h_.1))) (Kd.R_base ho67) hb); have n3_ := Aside0.mk (Kd.R_elder' (by (with_reducible repeat (first | apply Kd.R_alloc | apply Kd.R_drewN | apply Kd.R_drew)); exact (Kd.R_mono (Kd.R_far (p := ⟨gb570, 4, none⟩) (Kd.R_types HO_571002.out BK570.out (by decide)) (fun _ hk => hk.2) (.slice Ao64 y580.length co64)) (fun _ h_ => h_.1))) (Kd.R_base ho67) hb); have n4_ := Aside0.mk (Kd.R_elder' (by (with_reducible repeat (first | apply Kd.R_alloc | apply Kd.R_drewN | apply Kd.R_drew)); exact (Kd.R_mono (Kd.R_far (p := ⟨gb570, 4, none⟩) (Kd.R_types HO_571003.out BK570.out (by decide)) (fun _ hk => hk.2) (.slice Ao64 y580.length co64)) (fun _ h_ => h_.1))) (Kd.R_base ho67) hb); have n5_ := Aside0.mk (Kd.R_elder' (by (with_reducible repeat (first | apply Kd.R_alloc | apply Kd.R_drewN | apply Kd.R_drew)); exact (Kd.R_mono (Kd.R_far (p := ⟨gb570, 4, none⟩) (Kd.R_types HO_571005.out BK570.out (by decide)) (fun _ hk => hk.2) (.slice Ao64 y580.length co64)) (fun _ h_ => h_.1))) (Kd.R_base ho67) hb); have n6_ := Aside0.mk (Kd.S_elder' (by (with_reducible repeat (first | apply Kd.S_alloc | apply Kd.S_drewN | apply Kd.S_drew)); exact (Kd.S_mono (Kd.S_far (p := ⟨gb570, 4, none⟩) (Kd.S_types HO_571006.out BK570.out (by decide)) (fun _ hk => hk.2) (.slice Ao64 y580.length co64)) (fun _ h_ => h_.1))) (Kd.R_base ho67) hb); have n7_ := Aside0.mk (Kd.R_elder' (by (with_reducible repeat (first | apply Kd.R_alloc | apply Kd.R_drewN | apply Kd.R_drew)); exact (Kd.R_mono (Kd.R_far (p := ⟨gb570, 4, none⟩) (Kd.R_types HO582.out BK570.out (by decide)) (fun _ hk => hk.2) (.slice Ao64 y580.length co64)) (fun _ h_ => h_.1))) (Kd.R_base ho67) hb); have n8_ := Aside0.mk (Kd.R_lower (Kd.R_new' (Kd.R_new' (Kd.R_new' (Kd.R_new' (Kd.R_new' (Kd.R_new' (Kd.R_new' ho67 (Kd.R_lt (by (with_reducible repeat (first | apply Kd.R_alloc | apply Kd.R_drewN | apply Kd.R_drew)); exact (Kd.R_mono (Kd.R_far (p := ⟨gb570, 4, none⟩) (Kd.R_types HO_62.out BK570.out (by decide)) (fun _ hk => hk.2) (.slice Ao64 y580.length co64)) (fun _ h_ => h_.1))))) (Kd.R_lt (by (with_reducible repeat (first | apply Kd.R_alloc | apply Kd.R_drewN | apply Kd.R_drew)); exact (Kd.R_mono (Kd.R_far (p := ⟨gb570, 4, none⟩) (Kd.R_types HO_571000.out BK570.out (by decide)) (fun _ hk => hk.2) (.slice Ao64 y580.length co64)) (fun _ h_ => h_.1))))) (Kd.R_lt (by (with_reducible repeat (first | apply Kd.R_alloc | apply Kd.R_drewN | apply Kd.R_drew)); exact (Kd.R_mono (Kd.R_far (p := ⟨gb570, 4, none⟩) (Kd.R_types HO_571001.out BK570.out (by decide)) (fun _ hk => hk.2) (.slice Ao64 y580.length co64)) (fun _ h_ => h_.1))))) (Kd.R_lt (by (with_reducible repeat (first | apply Kd.R_alloc | apply Kd.R_drewN | apply Kd.R_drew)); exact (Kd.R_mono (Kd.R_far (p := ⟨gb570, 4, none⟩) (Kd.R_types HO_571002.out BK570.out (by decide)) (fun _ hk => hk.2) (.slice Ao64 y580.length co64)) (fun _ h_ => h_.1))))) (Kd.R_lt (by (with_reducible repeat (first | apply Kd.R_alloc | apply Kd.R_drewN | apply Kd.R_drew)); exact (Kd.R_mono (Kd.R_far (p := ⟨gb570, 4, none⟩) (Kd.R_types HO_571003.out BK570.out (by decide)) (fun _ hk => hk.2) (.slice Ao64 y580.length co64)) (fun _ h_ => h_.1))))) (Kd.R_lt (by (with_reducible repeat (first | apply Kd.R_alloc | apply Kd.R_drewN | apply Kd.R_drew)); exact (Kd.R_mono (Kd.R_far (p := ⟨gb570, 4, none⟩) (Kd.R_types HO_571005.out BK570.out (by decide)) (fun _ hk => hk.2) (.slice Ao64 y580.length co64)) (fun _ h_ => h_.1))))) (Kd.R_lt (by (with_reducible repeat (first | apply Kd.R_alloc | apply Kd.R_drewN | apply Kd.R_drew)); exact (Kd.R_mono (Kd.R_far (p := ⟨gb570, 4, none⟩) (Kd.R_types HO582.out BK570.out (by decide)) (fun _ hk => hk.2) (.slice Ao64 y580.length co64)) (fun _ h_ => h_.1))))) (below_size (by repeat (first | (with_reducible first | exact HB.out | apply below_alloc | apply pw_below_drewN | apply below_drew1 | refine below_set ?_ GE553.out | refine below_set ?_ GE554.out | refine below_set ?_ GE570.out) | exact HB.out)))); have n9_ := Aside0.mk (blk_below (g := gb553) (o := .cells #[.slice (some ad579) l2_0.length c2_0, .slice A2_1 l2_1.length c2_1, .slice A2_2 l2_2.length c2_2] 27 (0, 0)) (by (with_reducible repeat (first | refine blk_drewN ?_ _ | refine blk_drew ?_ | refine blk_alloc ?_ _)); refine blk_far ?_ NB553_570.out _; (with_reducible repeat (first | refine blk_drewN ?_ _ | refine blk_drew ?_ | refine blk_alloc ?_ _)); exact BK553.out) hb); have n10_ := Aside0.mk (blk_below (g := gb554) (o := .cells #[.slice none 0 0, .slice none 0 0, .slice none 0 0, .slice none 0 0, .slice none 0 0, .slice none 0 0, .slice none 0 0] 92 (0, 0)) (by (with_reducible repeat (first | refine blk_drewN ?_ _ | refine blk_drew ?_ | refine blk_alloc ?_ _)); refine blk_far ?_ NB554_570.out _; (with_reducible repeat (first | refine blk_drewN ?_ _ | refine blk_drew ?_ | refine blk_alloc ?_ _)); exact BK554.out) hb); have n11_ := Aside0.mk (blk_below (g := gb570) (o := .cells #[.slice (some ad577) t558.length co34, .slice Ao33 t561.length co33, .slice Ao32 t564.length co32, .slice Ao31 t567.length co31, .slice Ao64 y580.length co64, u571005, u571006] 92 (0, 0)) (by (with_reducible repeat (first | refine blk_drewN ?_ _ | refine blk_drew ?_ | refine blk_alloc ?_ _)); refine blk_put (cs := #[.slice (some ad577) t558.length co34, .slice Ao33 t561.length co33, .slice Ao32 t564.length co32, .slice Ao31 t567.length co31, u571004, u571005, u571006]) ?_ 4 _ rfl; (with_reducible repeat (first | refine blk_drewN ?_ _ | refine blk_drew ?_ | refine blk_alloc ?_ _)); exact BK570.out) hb); have n12_ := Aside0.mk (below_step (by repeat (first | (with_reducible first | exact HB.out | apply below_alloc | apply pw_below_drewN | apply below_drew1 | refine below_set ?_ GE553.out | refine below_set ?_ GE554.out | refine below_set ?_ GE570.out) | exact HB.out)) hb); clear HO_62; clear HO_571000; clear HO_571001; clear HO_571002; clear HO_571003; clear HO_571005; clear HO_571006; clear HO582; clear BK553; clear BK554; clear BK570; clear HB; have HO_62 := n0_; have HO_571000 := n1_; have HO_571001 := n2_; have HO_571002 := n3_; have HO_571003 := n4_; have HO_571005 := n5_; have HO_571006 := n6_; have HO582 := n7_; have HO585 := n8_; have BK553 := n9_; have BK554 := n10_; have BK570 := n11_; have HB := n12_; clear n0_ n1_ n2_ n3_ n4_ n5_ n6_ n7_ n8_ n9_ n10_ n11_ n12_; clear hb ho67; have hnb68 := NB570_553.out; have hnc68 := NB553_570.out; have hnb69 := NB570_554.out; have hnc69 := NB554_570.out; have hcz70_0 : w66.cell? ⟨gb570, 0, none⟩ = some (.slice (some ad577) t558.length co34) := (blk_cell BK570.out 0).trans rfl; have hcz70_1 : w66.cell? ⟨gb570, 1, none⟩ = some (.slice Ao33 t561.length co33) := (blk_cell BK570.out 1).trans rfl; have hcz70_2 : w66.cell? ⟨gb570, 2, none⟩ = some (.slice Ao32 t564.length co32) := (blk_cell BK570.out 2).trans rfl; have hcz70_3 : w66.cell? ⟨gb570, 3, none⟩ = some (.slice Ao31 t567.length co31) := (blk_cell BK570.out 3).trans rfl; have hcz70_4 : w66.cell? ⟨gb570, 4, none⟩ = some (.slice Ao64 y580.length co64) := (blk_cell BK570.out 4).trans rfl; have hcz70_5 : w66.cell? ⟨gb570, 5, none⟩ = some (u571005) := (blk_cell BK570.out 5).trans rfl; have hcz70_6 : w66.cell? ⟨gb570, 6, none⟩ = some (u571006) := (blk_cell BK570.out 6).trans rfl; have hfz70_0 := blk_frozen BK570.out 0; have hfz70_1 := blk_frozen BK570.out 1; have hfz70_2 := blk_frozen BK570.out 2; have hfz70_3 := blk_frozen BK570.out 3; have hfz70_4 := blk_frozen BK570.out 4; have hfz70_5 := blk_frozen BK570.out 5; have hfz70_6 := blk_frozen BK570.out 6))
                 go_loopg [13, 86] k3 (fun kq v13 v86 w' => ∃ (x13_4 : List Int) (x86_4 : Int), v86 = .int .i64 x86_4 ∧ Aside0 (impl_measureOf.l2 kq l0 l1 (rd t558 x64_3) x13_4 t558 (t558.length : Int) x64_3 t561 (t561.length : Int) x86_4 l2_0 l2_1 l2_2 t558 t561 t564 t567 y580 x571005_2 x571006_3 = some (r1, r2, r3, r4, r5, r6, r7, r8)) ∧ Aside0 (kq ≤ k3) ∧ Aside0 (Kd.R (Kd.int .i64) 3 w' w.heap.size (fun k_ => some k_ ≠ ((.slice (some ad577) t558.length co34) : Value).ownBlock ∧ some k_ ≠ ((.slice Ao33 t561.length co33) : Value).ownBlock ∧ some k_ ≠ ((.slice (some ad577) t558.length co34) : Value).ownBlock ∧ some k_ ≠ ((.slice Ao33 t561.length co33) : Value).ownBlock ∧ some k_ ≠ ((.slice Ao32 t564.length co32) : Value).ownBlock ∧ some k_ ≠ ((.slice Ao31 t567.length co31) : Value).ownBlock ∧ some k_ ≠ ((.slice Ao64 y580.length co64) : Value).ownBlock ∧ some k_ ≠ (u571005 : Value).ownBlock) v13 x13_4) ∧ Aside0 (Kd.R (Kd.int .i64) 3 w' w.heap.size (fun k_ => some k_ ≠ (v13 : Value).ownBlock ∧ some k_ ≠ ((.slice Ao33 t561.length co33) : Value).ownBlock ∧ some k_ ≠ ((.slice Ao33 t561.length co33) : Value).ownBlock ∧ some k_ ≠ ((.slice Ao32 t564.length co32) : Value).ownBlock ∧ some k_ ≠ ((.slice Ao31 t567.length co31) : Value).ownBlock ∧ some k_ ≠ ((.slice Ao64 y580.length co64) : Value).ownBlock ∧ some k_ ≠ (u571005 : Value).ownBlock) (.slice (some ad577) t558.length co34) t558) ∧ Aside0 (Kd.R (Kd.int .i64) 3 w' w.heap.size (fun k_ => some k_ ≠ (v13 : Value).ownBlock ∧ some k_ ≠ ((.slice (some ad577) t558.length co34) : Value).ownBlock ∧ some k_ ≠ ((.slice (some ad577) t558.length co34) : Value).ownBlock ∧ some k_ ≠ ((.slice Ao32 t564.length co32) : Value).ownBlock ∧ some k_ ≠ ((.slice Ao31 t567.length co31) : Value).ownBlock ∧ some k_ ≠ ((.slice Ao64 y580.length co64) : Value).ownBlock ∧ some k_ ≠ (u571005 : Value).ownBlock) (.slice Ao33 t561.length co33) t561) ∧ Aside0 (Kd.R (Kd.int .i64) 3 w' w.heap.size (fun k_ => some k_ ≠ (v13 : Value).ownBlock ∧ some k_ ≠ ((.slice Ao33 t561.length co33) : Value).ownBlock ∧ some k_ ≠ ((.slice Ao33 t561.length co33) : Value).ownBlock ∧ some k_ ≠ ((.slice Ao32 t564.length co32) : Value).ownBlock ∧ some k_ ≠ ((.slice Ao31 t567.length co31) : Value).ownBlock ∧ some k_ ≠ ((.slice Ao64 y580.length co64) : Value).ownBlock ∧ some k_ ≠ (u571005 : Value).ownBlock) (.slice (some ad577) t558.length co34) t558) ∧ Aside0 (Kd.R (Kd.int .i64) 3 w' w.heap.size (fun k_ => some k_ ≠ (v13 : Value).ownBlock ∧ some k_ ≠ ((.slice (some ad577) t558.length co34) : Value).ownBlock ∧ some k_ ≠ ((.slice (some ad577) t558.length co34) : Value).ownBlock ∧ some k_ ≠ ((.slice Ao32 t564.length co32) : Value).ownBlock ∧ some k_ ≠ ((.slice Ao31 t567.length co31) : Value).ownBlock ∧ some k_ ≠ ((.slice Ao64 y580.length co64) : Value).ownBlock ∧ some k_ ≠ (u571005 : Value).ownBlock) (.slice Ao33 t561.length co33) t561) ∧ Aside0 (Kd.R (Kd.int .i64) 3 w' w.heap.size (fun k_ => some k_ ≠ (v13 : Value).ownBlock ∧ some k_ ≠ ((.slice (some ad577) t558.length co34) : Value).ownBlock ∧ some k_ ≠ ((.slice Ao33 t561.length co33) : Value).ownBlock ∧ some k_ ≠ ((.slice (some ad577) t558.length co34) : Value).ownBlock ∧ some k_ ≠ ((.slice Ao33 t561.length co33) : Value).ownBlock ∧ some k_ ≠ ((.slice Ao31 t567.length co31) : Value).ownBlock ∧ some k_ ≠ ((.slice Ao64 y580.length co64) : Value).ownBlock ∧ some k_ ≠ (u571005 : Value).ownBlock) (.slice Ao32 t564.length co32) t564) ∧ Aside0 (Kd.R (Kd.int .i64) 3 w' w.heap.size (fun k_ => some k_ ≠ (v13 : Value).ownBlock ∧ some k_ ≠ ((.slice (some ad577) t558.length co34) : Value).ownBlock ∧ some k_ ≠ ((.slice Ao33 t561.length co33) : Value).ownBlock ∧ some k_ ≠ ((.slice (some ad577) t558.length co34) : Value).ownBlock ∧ some k_ ≠ ((.slice Ao33 t561.length co33) : Value).ownBlock ∧ some k_ ≠ ((.slice Ao32 t564.length co32) : Value).ownBlock ∧ some k_ ≠ ((.slice Ao64 y580.length co64) : Value).ownBlock ∧ some k_ ≠ (u571005 : Value).ownBlock) (.slice Ao31 t567.length co31) t567) ∧ Aside0 (Kd.R (Kd.int .i64) 3 w' w.heap.size (fun k_ => some k_ ≠ (v13 : Value).ownBlock ∧ some k_ ≠ ((.slice (some ad577) t558.length co34) : Value).ownBlock ∧ some k_ ≠ ((.slice Ao33 t561.length co33) : Value).ownBlock ∧ some k_ ≠ ((.slice (some ad577) t558.length co34) : Value).ownBlock ∧ some k_ ≠ ((.slice Ao33 t561.length co33) : Value).ownBlock ∧ some k_ ≠ ((.slice Ao32 t564.length co32) : Value).ownBlock ∧ some k_ ≠ ((.slice Ao31 t567.length co31) : Value).ownBlock ∧ some k_ ≠ (u571005 : Value).ownBlock) (.slice Ao64 y580.length co64) y580) ∧ Aside0 (Kd.R (Kd.int .i64) 3 w' w.heap.size (fun k_ => some k_ ≠ (v13 : Value).ownBlock ∧ some k_ ≠ ((.slice (some ad577) t558.length co34) : Value).ownBlock ∧ some k_ ≠ ((.slice Ao33 t561.length co33) : Value).ownBlock ∧ some k_ ≠ ((.slice (some ad577) t558.length co34) : Value).ownBlock ∧ some k_ ≠ ((.slice Ao33 t561.length co33) : Value).ownBlock ∧ some k_ ≠ ((.slice Ao32 t564.length co32) : Value).ownBlock ∧ some k_ ≠ ((.slice Ao31 t567.length co31) : Value).ownBlock ∧ some k_ ≠ ((.slice Ao64 y580.length co64) : Value).ownBlock) u571005 x571005_2) ∧ Aside0 (Kd.S (Kd.slice 3 (Kd.int .i64)) 25 w' w.heap.size (fun k_ => some k_ ≠ (v13 : Value).ownBlock ∧ some k_ ≠ ((.slice (some ad577) t558.length co34) : Value).ownBlock ∧ some k_ ≠ ((.slice Ao33 t561.length co33) : Value).ownBlock ∧ some k_ ≠ ((.slice (some ad577) t558.length co34) : Value).ownBlock ∧ some k_ ≠ ((.slice Ao33 t561.length co33) : Value).ownBlock ∧ some k_ ≠ ((.slice Ao32 t564.length co32) : Value).ownBlock ∧ some k_ ≠ ((.slice Ao31 t567.length co31) : Value).ownBlock ∧ some k_ ≠ ((.slice Ao64 y580.length co64) : Value).ownBlock ∧ some k_ ≠ (u571005 : Value).ownBlock) u571006 x571006_3) ∧ Aside0 (w'.heap[gb553]? = some (.cells #[(.slice (some ad579) l2_0.length c2_0), (.slice A2_1 l2_1.length c2_1), (.slice A2_2 l2_2.length c2_2)] 27 (0, 0))) ∧ Aside0 (w'.heap[gb554]? = some (.cells #[(.slice none 0 0), (.slice none 0 0), (.slice none 0 0), (.slice none 0 0), (.slice none 0 0), (.slice none 0 0), (.slice none 0 0)] 92 (0, 0))) ∧ Aside0 (w'.heap[gb570]? = some (.cells #[(.slice (some ad577) t558.length co34), (.slice Ao33 t561.length co33), (.slice Ao32 t564.length co32), (.slice Ao31 t567.length co31), (.slice Ao64 y580.length co64), u571005, u571006] 92 (0, 0))) ∧ Aside0 (Below w.heap.size w w'))
                 case atStart => exact ⟨(y583), (0), eb_, H', ⟨Nat.le_refl _⟩, ⟨rx_ (Kd.R_mono HO585.out (fun _ hk => ⟨hk.1.1.1.1.1.1.2, ⟨hk.1.1.1.1.2, ⟨hk.1.1.1.1.1.2, ⟨hk.1.1.1.1.2, ⟨hk.1.1.1.2, ⟨hk.1.1.2, ⟨hk.2, hk.1.2⟩⟩⟩⟩⟩⟩⟩))⟩, ⟨rx_ (Kd.R_mono HO_62.out (fun _ hk => ⟨hk.2, ⟨hk.1.1.1, ⟨hk.1.1.1, ⟨hk.1.1.2.1, ⟨hk.1.1.2.2.1, ⟨hk.1.2, hk.1.1.2.2.2⟩⟩⟩⟩⟩⟩))⟩, ⟨rx_ (Kd.R_mono HO_571001.out (fun _ hk => ⟨hk.2, ⟨hk.1.1.1, ⟨hk.1.1.2.1, ⟨hk.1.1.2.2.1, ⟨hk.1.1.2.2.2.1, ⟨hk.1.2, hk.1.1.2.2.2.2⟩⟩⟩⟩⟩⟩))⟩, ⟨rx_ (Kd.R_mono HO_571000.out (fun _ hk => ⟨hk.2, ⟨hk.1.1.1, ⟨hk.1.1.1, ⟨hk.1.1.2.1, ⟨hk.1.1.2.2.1, ⟨hk.1.2, hk.1.1.2.2.2⟩⟩⟩⟩⟩⟩))⟩, ⟨rx_ (Kd.R_mono HO_571001.out (fun _ hk => ⟨hk.2, ⟨hk.1.1.1, ⟨hk.1.1.2.1, ⟨hk.1.1.2.2.1, ⟨hk.1.1.2.2.2.1, ⟨hk.1.2, hk.1.1.2.2.2.2⟩⟩⟩⟩⟩⟩))⟩, ⟨rx_ (Kd.R_mono HO_571002.out (fun _ hk => ⟨hk.2, ⟨hk.1.1.1, ⟨hk.1.1.2.2.1, ⟨hk.1.1.2.1, ⟨hk.1.1.2.2.1, ⟨hk.1.1.2.2.2.1, ⟨hk.1.2, hk.1.1.2.2.2.2⟩⟩⟩⟩⟩⟩⟩))⟩, ⟨rx_ (Kd.R_mono HO_571003.out (fun _ hk => ⟨hk.2, ⟨hk.1.1.1, ⟨hk.1.1.2.2.1, ⟨hk.1.1.2.1, ⟨hk.1.1.2.2.1, ⟨hk.1.1.2.2.2.1, ⟨hk.1.2, hk.1.1.2.2.2.2⟩⟩⟩⟩⟩⟩⟩))⟩, ⟨rx_ (Kd.R_mono HO582.out (fun _ hk => ⟨hk.2, ⟨hk.1.1, ⟨hk.1.2.2.1, ⟨hk.1.2.1, ⟨hk.1.2.2.1, ⟨hk.1.2.2.2.1, ⟨hk.1.2.2.2.2.1, hk.1.2.2.2.2.2⟩⟩⟩⟩⟩⟩⟩))⟩, ⟨rx_ (Kd.R_mono HO_571005.out (fun _ hk => ⟨hk.2, ⟨hk.1.1.1, ⟨hk.1.1.2.2.1, ⟨hk.1.1.2.1, ⟨hk.1.1.2.2.1, ⟨hk.1.1.2.2.2.1, ⟨hk.1.1.2.2.2.2, hk.1.2⟩⟩⟩⟩⟩⟩⟩))⟩, ⟨sx_ (Kd.S_mono HO_571006.out (fun _ hk => ⟨hk.2, ⟨hk.1.1.1, ⟨hk.1.1.2.2.1, ⟨hk.1.1.2.1, ⟨hk.1.1.2.2.1, ⟨hk.1.1.2.2.2.1, ⟨hk.1.1.2.2.2.2.1, ⟨hk.1.2, hk.1.1.2.2.2.2.2⟩⟩⟩⟩⟩⟩⟩⟩))⟩, ⟨kx_ BK553.out⟩, ⟨kx_ BK554.out⟩, ⟨kx_ BK570.out⟩, bl_ HB⟩
                 case round =>
                  clear H'
                  try clear c1
                  try clear c2
                  try clear p2
                  try clear c3
                  try clear c4
                  try clear c5
                  try clear p5
                  try clear q5
                  try clear hx5
                  try clear c6
                  try clear p6
                  try clear c7
                  try clear c8
                  try clear c10
                  try clear c12
                  try clear c14
                  try clear c20
                  try clear c21
                  try clear c36
                  try clear c37
                  try clear c39
                  try clear c39b0
                  try clear c40
                  try clear c40b0
                  try clear c41
                  try clear c41b0
                  try clear c42
                  try clear c42b0
                  try clear c43
                  try clear c43b0
                  try clear c44
                  try clear c44b0
                  try clear c45
                  try clear c45b0
                  try clear c46
                  try clear c51
                  try clear c52
                  try clear c54
                  try clear c54b0
                  try clear c55
                  try clear c55b0
                  try clear c56
                  try clear c56b0
                  try clear c57
                  try clear c57b0
                  try clear p57
                  try clear q57
                  try clear hx57
                  try clear c58
                  try clear c58b0
                  try clear c59
                  try clear c59b0
                  try clear c60
                  try clear c60b0
                  try clear c61
                  try clear p64
                  try clear c68
                  try clear c69
                  try clear hcz15_0
                  try clear hcz15_1
                  try clear hcz15_2
                  try clear hcz22_0
                  try clear hcz22_1
                  try clear hcz22_2
                  try clear hcz22_3
                  try clear hcz22_4
                  try clear hcz22_5
                  try clear hcz22_6
                  try clear hcz38_0
                  try clear hcz38_1
                  try clear hcz38_2
                  try clear hcz38_3
                  try clear hcz38_4
                  try clear hcz38_5
                  try clear hcz38_6
                  try clear hcz53_0
                  try clear hcz53_1
                  try clear hcz53_2
                  try clear hcz53_3
                  try clear hcz53_4
                  try clear hcz53_5
                  try clear hcz53_6
                  try clear hcz70_0
                  try clear hcz70_1
                  try clear hcz70_2
                  try clear hcz70_3
                  try clear hcz70_4
                  try clear hcz70_5
                  try clear hcz70_6
                  try clear hfz15_0
                  try clear hfz15_1
                  try clear hfz15_2
                  try clear hfz22_0
                  try clear hfz22_1
                  try clear hfz22_2
                  try clear hfz22_3
                  try clear hfz22_4
                  try clear hfz22_5
                  try clear hfz22_6
                  try clear hfz38_0
                  try clear hfz38_1
                  try clear hfz38_2
                  try clear hfz38_3
                  try clear hfz38_4
                  try clear hfz38_5
                  try clear hfz38_6
                  try clear hfz53_0
                  try clear hfz53_1
                  try clear hfz53_2
                  try clear hfz53_3
                  try clear hfz53_4
                  try clear hfz53_5
                  try clear hfz53_6
                  try clear hfz70_0
                  try clear hfz70_1
                  try clear hfz70_2
                  try clear hfz70_3
                  try clear hfz70_4
                  try clear hfz70_5
                  try clear hfz70_6
                  try clear hx571_0
                  try clear hx572_0
                  try clear hx572_1
                  try clear hx573_0
                  try clear hx577_0
                  try clear hx578_0
                  try clear hx578_1
                  try clear hx579_0
                  try clear p2
                  try clear p5
                  try clear p571
                  try clear p572
                  try clear p573
                  try clear p577
                  try clear p578
                  try clear p579
                  try clear p6
                  try clear q5
                  try clear q571
                  try clear q572
                  try clear q573
                  try clear q577
                  try clear q578
                  try clear q579
                  obtain ⟨x13_4, x86_4, rfl, HA, HK4, HO_13, HO_62, HO_84, HO_571000, HO_571001, HO_571002, HO_571003, HO_571004, HO_571005, HO_571006, BK553, BK554, BK570, HB⟩ := hrel
                  cases gk with
                  | zero => exact absurd HA.out (by simp [impl_measureOf.l2])
                  | succ k4 =>
                   have H := HA.out
                   clear HA
                   simp only [impl_measureOf.l2] at H
                   by_cases c71 : x86_4 < (t561.length : Int)
                   ·rw [if_pos c71] at H
                    have c71b0 : decide (x86_4 < (t561.length : Int)) = true := decide_eq_true c71
                    clear c71
                    by_cases c72 : 0 ≤ x86_4
                    ·rw [if_pos c72] at H
                     have c72b0 : decide (0 ≤ x86_4) = true := decide_eq_true c72
                     clear c72
                     by_cases c73 : x86_4 < (t561.length : Int)
                     ·rw [if_pos c73] at H
                      have c73b0 : decide (x86_4 < (t561.length : Int)) = true := decide_eq_true c73
                      clear c73
                      by_cases c74 : 0 ≤ (rd t558 x64_3)
                      ·rw [if_pos c74] at H
                       have c74b0 : decide (0 ≤ (rd t558 x64_3)) = true := decide_eq_true c74
                       clear c74
                       by_cases c75 : (rd t558 x64_3) < (l0.length : Int)
                       ·rw [if_pos c75] at H
                        have c75b0 : decide ((rd t558 x64_3) < (l0.length : Int)) = true := decide_eq_true c75
                        clear c75
                        by_cases c76 : 0 ≤ (rd t561 x86_4)
                        ·rw [if_pos c76] at H
                         have c76b0 : decide (0 ≤ (rd t561 x86_4)) = true := decide_eq_true c76
                         clear c76
                         by_cases c77 : (rd t561 x86_4) < (l1.length : Int)
                         ·rw [if_pos c77] at H
                          have c77b0 : decide ((rd t561 x86_4) < (l1.length : Int)) = true := decide_eq_true c77
                          clear c77
                          obtain ⟨ji78, hji78⟩ : ∃ j_ : Int, (wrap64 ((wrap64 (((rd_T77 l0 (rd t558 x64_3)).f0) * 6)) + ((rd_T77 l1 (rd t561 x86_4)).f0))) = j_ := ⟨_, rfl⟩
                          replace H : (if 0 ≤ (ji78) then (if (ji78) < (l2_2.length : Int) then (if x13_4.length < 17592186044416 then (impl_measureOf.l2 k4 l0 l1 (rd t558 x64_3) (x13_4 ++ [rd l2_2 (ji78)]) t558 (t558.length : Int) x64_3 t561 (t561.length : Int) (wrap64 (x86_4 + 1)) l2_0 l2_1 l2_2 t558 t561 t564 t567 y580 x571005_2 x571006_3) else (none)) else (none)) else (none)) = some (r1, r2, r3, r4, r5, r6, r7, r8) := by first | (rw [hji78] at H; exact H) | (simp only [hji78] at H ⊢; exact H)
                          have hji78w : (IntKind.i64.wrap ((wrap64 (((rd_T77 l0 (rd t558 x64_3)).f0) * 6)) + ((rd_T77 l1 (rd t561 x86_4)).f0))) = ji78 := (i64_w _).trans hji78
                          by_cases c79 : 0 ≤ (ji78)
                          ·rw [if_pos c79] at H
                           have c79b0 : decide (0 ≤ (ji78)) = true := decide_eq_true c79
                           clear c79
                           by_cases c80 : (ji78) < (l2_2.length : Int)
                           ·rw [if_pos c80] at H
                            have c80b0 : decide ((ji78) < (l2_2.length : Int)) = true := decide_eq_true c80
                            clear c80
                            by_cases c81 : x13_4.length < 17592186044416
                            ·rw [if_pos c81] at H
                             have LMc81 := Aside0.mk c81
                             clear c81
                             obtain ⟨y590, hy590⟩ : ∃ y_ : List Int, y_ = (x13_4 ++ [rd l2_2 (ji78)]) := ⟨_, rfl⟩
                             replace H : (impl_measureOf.l2 k4 l0 l1 (rd t558 x64_3) y590 t558 (t558.length : Int) x64_3 t561 (t561.length : Int) (wrap64 (x86_4 + 1)) l2_0 l2_1 l2_2 t558 t561 t564 t567 y580 x571005_2 x571006_3) = some (r1, r2, r3, r4, r5, r6, r7, r8) := by first | (rw [hy590]; with_reducible exact H) | (have H2_ := (Option.bind_some _ _).symm.trans H; rw [hy590]; with_reducible exact H2_) | (have H2_ := (Option.bind_some _ _).symm.trans H; with_reducible exact H2_) | with_reducible exact H | (rw [hy590]; exact H) | exact H
                             have Ny590 := Aside0.mk hy590
                             clear hy590
                             have H' := Aside0.mk H
                             clear H
                             have p586 : 0 ≤ (x86_4 : Int) := od_
                             have q586 : x86_4 < (t561.length : Int) := od_
                             obtain ⟨ad586, e586, hx586_0⟩ := Kd.at_int (Kd.R_reads' HO_84.out).2.2 x86_4 p586 q586
                             cases e586
                             replace p586 := eq_true p586
                             replace q586 := eq_true q586
                             try go_wp2
                             have n0_ := Aside0.mk (Kd.R_drew HO_13.out)
                             have n1_ := Aside0.mk (Kd.R_drew HO_62.out)
                             have n2_ := Aside0.mk (Kd.R_drew HO_84.out)
                             have n3_ := Aside0.mk (Kd.R_drew HO_571000.out)
                             have n4_ := Aside0.mk (Kd.R_drew HO_571001.out)
                             have n5_ := Aside0.mk (Kd.R_drew HO_571002.out)
                             have n6_ := Aside0.mk (Kd.R_drew HO_571003.out)
                             have n7_ := Aside0.mk (Kd.R_drew HO_571004.out)
                             have n8_ := Aside0.mk (Kd.R_drew HO_571005.out)
                             have n9_ := Aside0.mk (Kd.S_drew HO_571006.out)
                             have n10_ := Aside0.mk (blk_drew BK553.out)
                             have n11_ := Aside0.mk (blk_drew BK554.out)
                             have n12_ := Aside0.mk (blk_drew BK570.out)
                             have n13_ := Aside0.mk (below_drew1 HB.out)
                             clear HO_13
                             clear HO_62
                             clear HO_84
                             clear HO_571000
                             clear HO_571001
                             clear HO_571002
                             clear HO_571003
                             clear HO_571004
                             clear HO_571005
                             clear HO_571006
                             clear BK553
                             clear BK554
                             clear BK570
                             clear HB
                             have HO_13 := n0_
                             have HO_62 := n1_
                             have HO_84 := n2_
                             have HO_571000 := n3_
                             have HO_571001 := n4_
                             have HO_571002 := n5_
                             have HO_571003 := n6_
                             have HO_571004 := n7_
                             have HO_571005 := n8_
                             have HO_571006 := n9_
                             have BK553 := n10_
                             have BK554 := n11_
                             have BK570 := n12_
                             have HB := n13_
                             clear n0_ n1_ n2_ n3_ n4_ n5_ n6_ n7_ n8_ n9_ n10_ n11_ n12_ n13_
                             have p587 : 0 ≤ ((rd t558 x64_3) : Int) := od_
                             have q587 : (rd t558 x64_3) < (l0.length : Int) := od_
                             obtain ⟨ad587, e587, hx587_0, hx587_1⟩ := at_T77 HR0.out (rd t558 x64_3) p587 q587
                             have hw587_1 := hx587_1
                             have hw587_0 := hx587_0
                             obtain rfl : ad578 = ad587 := (by injection e587)
                             replace hx587_0 := ce_ HB hx587_0
                             replace hx587_1 := ce_ HB hx587_1
                             replace p587 := eq_true p587
                             replace q587 := eq_true q587
                             have p588 : 0 ≤ ((rd t561 x86_4) : Int) := od_
                             have q588 : (rd t561 x86_4) < (l1.length : Int) := od_
                             obtain ⟨ad588, e588, hx588_0, hx588_1⟩ := at_T77 HR1.out (rd t561 x86_4) p588 q588
                             have hw588_1 := hx588_1
                             have hw588_0 := hx588_0
                             cases e588
                             replace hx588_0 := ce_ HB hx588_0
                             replace hx588_1 := ce_ HB hx588_1
                             replace p588 := eq_true p588
                             replace q588 := eq_true q588
                             have p589 : 0 ≤ ((ji78) : Int) := od_
                             have q589 : (ji78) < (l2_2.length : Int) := od_
                             obtain ⟨ad589, e589, hx589_0⟩ := Kd.at_int HR2_2.out (ji78) p589 q589
                             have hw589_0 := hx589_0
                             cases e589
                             replace hx589_0 := ce_ HB hx589_0
                             replace p589 := eq_true p589
                             replace q589 := eq_true q589
                             refine start_ (n := 20) (S := fun w' => w'.cell? ⟨gb553, 0, none⟩ = some (.slice (some ad579) l2_0.length c2_0) ∧ w'.cell? ⟨gb553, 1, none⟩ = some (.slice A2_1 l2_1.length c2_1) ∧ w'.cell? ⟨gb553, 2, none⟩ = some (.slice (some ad589) l2_2.length c2_2) ∧ w'.cell? (ad578.add (((rd t558 x64_3)).toNat * 2)) = some (.int .i64 ((rd_T77 l0 (rd t558 x64_3)).f0)) ∧ w'.cell? ⟨(ad578.add (((rd t558 x64_3)).toNat * 2)).block, (ad578.add (((rd t558 x64_3)).toNat * 2)).off + 1, none⟩ = some (.int .i64 ((rd_T77 l0 (rd t558 x64_3)).f1)) ∧ w'.cell? (ad588.add (((rd t561 x86_4)).toNat * 2)) = some (.int .i64 ((rd_T77 l1 (rd t561 x86_4)).f0)) ∧ w'.cell? ⟨(ad588.add (((rd t561 x86_4)).toNat * 2)).block, (ad588.add (((rd t561 x86_4)).toNat * 2)).off + 1, none⟩ = some (.int .i64 ((rd_T77 l1 (rd t561 x86_4)).f1)) ∧ w'.cell? (ad589.add ((ji78)).toNat) = some (.int .i64 (rd l2_2 (ji78)))) (ds := []) (ba_ 20 0) (by kernel_rfl) rfl rfl ⟨(blk_cell BK553.out 0).trans rfl, (blk_cell BK553.out 1).trans rfl, (blk_cell BK553.out 2).trans rfl, (ce_ HB hw587_0), (ce_ HB hw587_1), (ce_ HB hw588_0), (ce_ HB hw588_1), (ce_ HB hw589_0)⟩ (fun hHeld => ?_); refine with_tabW impl_measureOf.tab17 impl_measureOf.bits17 (fun HT_ HW_ => ?_)
                             generalize wr.drew = w82 at HO_13 HO_62 HO_84 HO_571000 HO_571001 HO_571002 HO_571003 HO_571004 HO_571005 HO_571006 BK553 BK554 BK570 HB hx587_0 hx587_1 hx588_0 hx588_1 hx589_0 hHeld ⊢
                             refine pu_ 0 (some 90) (ba_ 20 1) rfl rfl (any_of HT_.out (by kernel_rfl)) ?_
                             refine pu_ 1 (some 91) (ba_ 20 3) rfl rfl (any_of HT_.out (by kernel_rfl)) ?_
                             refine pu_ 3 (some 93) (ba_ 20 11) rfl rfl (any_of HT_.out (by kernel_rfl)) ?_
                             refine pu_ 4 (some 94) (ba_ 20 27) rfl rfl (any_of HT_.out (by kernel_rfl)) ?_
                             refine pu_ 5 (some 95) (ba_ 20 59) rfl rfl (any_of HT_.out (by kernel_rfl)) ?_
                             refine pu_ 6 (some 96) (ba_ 20 123) rfl rfl (any_of HT_.out (by kernel_rfl)) ?_
                             refine pu_ 9 (some 99) (ba_ 20 635) rfl rfl (any_of HT_.out (by kernel_rfl)) ?_
                             refine pu_ 10 (some 100) (ba_ 20 1659) rfl rfl (any_of HT_.out (by kernel_rfl)) ?_
                             refine pu_ 11 (some 101) (ba_ 20 3707) rfl rfl (any_of HT_.out (by kernel_rfl)) ?_
                             refine pu_ 12 (some 102) (ba_ 20 7803) rfl rfl (any_of HT_.out (by kernel_rfl)) ?_
                             refine ta_ 2 (some 92) (ba_ 20 7807) rfl rfl (take_ofW HT_.out HW_.out (by kernel_rfl)) hHeld (by rintro w' ⟨s0, s1, s2, s3, s4, s5, s6, s7⟩; go_simp; with_reducible rfl) ?_
                             refine ta_ 7 (some 97) (ba_ 20 7935) rfl rfl (take_ofW HT_.out HW_.out (by kernel_rfl)) hHeld (by rintro w' ⟨s0, s1, s2, s3, s4, s5, s6, s7⟩; go_simp; with_reducible rfl) ?_
                             refine pu_ 8 (some 98) (ba_ 20 8191) rfl rfl (any_of HT_.out (by kernel_rfl)) ?_
                             refine ta_ 13 (some 103) (ba_ 20 16383) rfl rfl (take_ofW HT_.out HW_.out (by kernel_rfl)) hHeld (by rintro w' ⟨s0, s1, s2, s3, s4, s5, s6, s7⟩; go_simp; with_reducible rfl) ?_
                             refine pu_ 14 (some 104) (ba_ 20 32767) rfl rfl (any_of HT_.out (by kernel_rfl)) ?_
                             refine pu_ 15 (some 105) (ba_ 20 65535) rfl rfl (any_of HT_.out (by kernel_rfl)) ?_
                             refine ta_ 16 (some 106) (ba_ 20 131071) rfl rfl (take_ofW HT_.out HW_.out (by kernel_rfl)) hHeld (by rintro w' ⟨s0, s1, s2, s3, s4, s5, s6, s7⟩; go_simp; with_reducible rfl) ?_
                             refine one_ (i := 17) (N := some 107) (ba_ 20 262143) rfl rfl (one_of HT_.out (by kernel_rfl)) (by decide) (fun K hK => ?_)
                             refine value_ (w1 := ?_) (v := ?_) (by rfl) rfl ?_ ?_
                             rotate_left 2
                             ·go_simp
                              constructor
                              ·rfl
                              ·rfl
                             refine hK.out _ _ ⟨(blk_cell (blk_alloc BK553.out _) 0).trans rfl, (blk_cell (blk_alloc BK553.out _) 1).trans rfl, (blk_cell (blk_alloc BK553.out _) 2).trans rfl, (World.cell?_alloc_lt _ _ _ (World.block_lt_of_cell? _ _ ((ce_ HB hw587_0)))).trans ((ce_ HB hw587_0)), (World.cell?_alloc_lt _ _ _ (World.block_lt_of_cell? _ _ ((ce_ HB hw587_1)))).trans ((ce_ HB hw587_1)), (World.cell?_alloc_lt _ _ _ (World.block_lt_of_cell? _ _ ((ce_ HB hw588_0)))).trans ((ce_ HB hw588_0)), (World.cell?_alloc_lt _ _ _ (World.block_lt_of_cell? _ _ ((ce_ HB hw588_1)))).trans ((ce_ HB hw588_1)), (World.cell?_alloc_lt _ _ _ (World.block_lt_of_cell? _ _ ((ce_ HB hw589_0)))).trans ((ce_ HB hw589_0))⟩ (fun hHeld => ?_)
                             clear hK K
                             refine norm_ (a' := ?_) ?_ ?_
                             rotate_left
                             ·show Act.put _ (some 107) _ = _
                              simp only [Act.put, List.setIfInBounds_toArray, List.set_cons_zero, List.set_cons_succ, i64_w, i32_w]
                              rfl
                             refine one_ (i := 18) (N := some 108) (ba_ 20 524287) rfl rfl (one_of HT_.out (by kernel_rfl)) (by decide) (fun K hK => ?_)
                             refine Kd.R_append_step (Kd.int .i64) (w0 := w) w.heap.size (by rfl) (.tmp 90) (.tmp 107) 25 3 (.int .i64 0) 8 rfl Try.underlying25 info3 rfl (by decide) (by omega) u13 x13_4 (rd l2_2 (ji78)) [.int .i64 (rd l2_2 (ji78))] (fun k_ => some k_ ≠ (.slice (some ad577) t558.length co34 : Value).ownBlock ∧ some k_ ≠ (.slice (some ad586) t561.length co33 : Value).ownBlock ∧ some k_ ≠ (.slice (some ad577) t558.length co34 : Value).ownBlock ∧ some k_ ≠ (.slice (some ad586) t561.length co33 : Value).ownBlock ∧ some k_ ≠ (.slice Ao32 t564.length co32 : Value).ownBlock ∧ some k_ ≠ (.slice Ao31 t567.length co31 : Value).ownBlock ∧ some k_ ≠ (.slice Ao64 y580.length co64 : Value).ownBlock ∧ some k_ ≠ (u571005 : Value).ownBlock) (fun _ => False) rfl rfl ?aP (fun _ hk => hk.elim) ?aF ?aO ?aB ?aS ?aL ?_
                             (case aP => exact rfl)
                             (case aB => exact ((bl_ HB).out))
                             (case aF => exact (fun k_ hk => ⟨Kd.fresh' (Kd.R_lt (rx_ HO_62.out)) k_ hk, Kd.fresh' (Kd.R_lt (rx_ HO_84.out)) k_ hk, Kd.fresh' (Kd.R_lt (rx_ HO_571000.out)) k_ hk, Kd.fresh' (Kd.R_lt (rx_ HO_571001.out)) k_ hk, Kd.fresh' (Kd.R_lt (rx_ HO_571002.out)) k_ hk, Kd.fresh' (Kd.R_lt (rx_ HO_571003.out)) k_ hk, Kd.fresh' (Kd.R_lt (rx_ HO_571004.out)) k_ hk, Kd.fresh' (Kd.R_lt (rx_ HO_571005.out)) k_ hk⟩))
                             (case aO => exact (rx_ HO_13.out))
                             (case aS => exact (bs_ HB))
                             (case aL => have := LMc81.out; omega)
                             intro v591 w83 ho hb hg hat
                             rw [← Ny590.out] at ho
                             have n0_ := Aside0.mk (Kd.R_after (ok := (fun k_ => some k_ ≠ (.slice (some ad586) t561.length co33 : Value).ownBlock ∧ some k_ ≠ (.slice (some ad586) t561.length co33 : Value).ownBlock ∧ some k_ ≠ (.slice Ao32 t564.length co32 : Value).ownBlock ∧ some k_ ≠ (.slice Ao31 t567.length co31 : Value).ownBlock ∧ some k_ ≠ (.slice Ao64 y580.length co64 : Value).ownBlock ∧ some k_ ≠ (u571005 : Value).ownBlock)) (rx_ (Kd.R_mono HO_62.out (fun _ hk => ⟨⟨hk.2.1, ⟨hk.2.2.1, ⟨hk.2.2.2.1, ⟨hk.2.2.2.2.1, ⟨hk.2.2.2.2.2.1, hk.2.2.2.2.2.2⟩⟩⟩⟩⟩, hk.1⟩))) hg hat)
                             have n1_ := Aside0.mk (Kd.R_after (ok := (fun k_ => some k_ ≠ (.slice (some ad577) t558.length co34 : Value).ownBlock ∧ some k_ ≠ (.slice (some ad577) t558.length co34 : Value).ownBlock ∧ some k_ ≠ (.slice Ao32 t564.length co32 : Value).ownBlock ∧ some k_ ≠ (.slice Ao31 t567.length co31 : Value).ownBlock ∧ some k_ ≠ (.slice Ao64 y580.length co64 : Value).ownBlock ∧ some k_ ≠ (u571005 : Value).ownBlock)) (rx_ (Kd.R_mono HO_84.out (fun _ hk => ⟨⟨hk.2.1, ⟨hk.2.2.1, ⟨hk.2.2.2.1, ⟨hk.2.2.2.2.1, ⟨hk.2.2.2.2.2.1, hk.2.2.2.2.2.2⟩⟩⟩⟩⟩, hk.1⟩))) hg hat)
                             have n2_ := Aside0.mk (Kd.R_after (ok := (fun k_ => some k_ ≠ (.slice (some ad586) t561.length co33 : Value).ownBlock ∧ some k_ ≠ (.slice (some ad586) t561.length co33 : Value).ownBlock ∧ some k_ ≠ (.slice Ao32 t564.length co32 : Value).ownBlock ∧ some k_ ≠ (.slice Ao31 t567.length co31 : Value).ownBlock ∧ some k_ ≠ (.slice Ao64 y580.length co64 : Value).ownBlock ∧ some k_ ≠ (u571005 : Value).ownBlock)) (rx_ (Kd.R_mono HO_571000.out (fun _ hk => ⟨⟨hk.2.1, ⟨hk.2.2.1, ⟨hk.2.2.2.1, ⟨hk.2.2.2.2.1, ⟨hk.2.2.2.2.2.1, hk.2.2.2.2.2.2⟩⟩⟩⟩⟩, hk.1⟩))) hg hat)
                             have n3_ := Aside0.mk (Kd.R_after (ok := (fun k_ => some k_ ≠ (.slice (some ad577) t558.length co34 : Value).ownBlock ∧ some k_ ≠ (.slice (some ad577) t558.length co34 : Value).ownBlock ∧ some k_ ≠ (.slice Ao32 t564.length co32 : Value).ownBlock ∧ some k_ ≠ (.slice Ao31 t567.length co31 : Value).ownBlock ∧ some k_ ≠ (.slice Ao64 y580.length co64 : Value).ownBlock ∧ some k_ ≠ (u571005 : Value).ownBlock)) (rx_ (Kd.R_mono HO_571001.out (fun _ hk => ⟨⟨hk.2.1, ⟨hk.2.2.1, ⟨hk.2.2.2.1, ⟨hk.2.2.2.2.1, ⟨hk.2.2.2.2.2.1, hk.2.2.2.2.2.2⟩⟩⟩⟩⟩, hk.1⟩))) hg hat)
                             have n4_ := Aside0.mk (Kd.R_after (ok := (fun k_ => some k_ ≠ (.slice (some ad577) t558.length co34 : Value).ownBlock ∧ some k_ ≠ (.slice (some ad586) t561.length co33 : Value).ownBlock ∧ some k_ ≠ (.slice (some ad577) t558.length co34 : Value).ownBlock ∧ some k_ ≠ (.slice (some ad586) t561.length co33 : Value).ownBlock ∧ some k_ ≠ (.slice Ao31 t567.length co31 : Value).ownBlock ∧ some k_ ≠ (.slice Ao64 y580.length co64 : Value).ownBlock ∧ some k_ ≠ (u571005 : Value).ownBlock)) (rx_ (Kd.R_mono HO_571002.out (fun _ hk => ⟨⟨hk.2.1, ⟨hk.2.2.1, ⟨hk.2.2.2.1, ⟨hk.2.2.2.2.1, ⟨hk.2.2.2.2.2.1, ⟨hk.2.2.2.2.2.2.1, hk.2.2.2.2.2.2.2⟩⟩⟩⟩⟩⟩, hk.1⟩))) hg hat)
                             have n5_ := Aside0.mk (Kd.R_after (ok := (fun k_ => some k_ ≠ (.slice (some ad577) t558.length co34 : Value).ownBlock ∧ some k_ ≠ (.slice (some ad586) t561.length co33 : Value).ownBlock ∧ some k_ ≠ (.slice (some ad577) t558.length co34 : Value).ownBlock ∧ some k_ ≠ (.slice (some ad586) t561.length co33 : Value).ownBlock ∧ some k_ ≠ (.slice Ao32 t564.length co32 : Value).ownBlock ∧ some k_ ≠ (.slice Ao64 y580.length co64 : Value).ownBlock ∧ some k_ ≠ (u571005 : Value).ownBlock)) (rx_ (Kd.R_mono HO_571003.out (fun _ hk => ⟨⟨hk.2.1, ⟨hk.2.2.1, ⟨hk.2.2.2.1, ⟨hk.2.2.2.2.1, ⟨hk.2.2.2.2.2.1, ⟨hk.2.2.2.2.2.2.1, hk.2.2.2.2.2.2.2⟩⟩⟩⟩⟩⟩, hk.1⟩))) hg hat)
                             have n6_ := Aside0.mk (Kd.R_after (ok := (fun k_ => some k_ ≠ (.slice (some ad577) t558.length co34 : Value).ownBlock ∧ some k_ ≠ (.slice (some ad586) t561.length co33 : Value).ownBlock ∧ some k_ ≠ (.slice (some ad577) t558.length co34 : Value).ownBlock ∧ some k_ ≠ (.slice (some ad586) t561.length co33 : Value).ownBlock ∧ some k_ ≠ (.slice Ao32 t564.length co32 : Value).ownBlock ∧ some k_ ≠ (.slice Ao31 t567.length co31 : Value).ownBlock ∧ some k_ ≠ (u571005 : Value).ownBlock)) (rx_ (Kd.R_mono HO_571004.out (fun _ hk => ⟨⟨hk.2.1, ⟨hk.2.2.1, ⟨hk.2.2.2.1, ⟨hk.2.2.2.2.1, ⟨hk.2.2.2.2.2.1, ⟨hk.2.2.2.2.2.2.1, hk.2.2.2.2.2.2.2⟩⟩⟩⟩⟩⟩, hk.1⟩))) hg hat)
                             have n7_ := Aside0.mk (Kd.R_after (ok := (fun k_ => some k_ ≠ (.slice (some ad577) t558.length co34 : Value).ownBlock ∧ some k_ ≠ (.slice (some ad586) t561.length co33 : Value).ownBlock ∧ some k_ ≠ (.slice (some ad577) t558.length co34 : Value).ownBlock ∧ some k_ ≠ (.slice (some ad586) t561.length co33 : Value).ownBlock ∧ some k_ ≠ (.slice Ao32 t564.length co32 : Value).ownBlock ∧ some k_ ≠ (.slice Ao31 t567.length co31 : Value).ownBlock ∧ some k_ ≠ (.slice Ao64 y580.length co64 : Value).ownBlock)) (rx_ (Kd.R_mono HO_571005.out (fun _ hk => ⟨⟨hk.2.1, ⟨hk.2.2.1, ⟨hk.2.2.2.1, ⟨hk.2.2.2.2.1, ⟨hk.2.2.2.2.2.1, ⟨hk.2.2.2.2.2.2.1, hk.2.2.2.2.2.2.2⟩⟩⟩⟩⟩⟩, hk.1⟩))) hg hat)
                             have n8_ := Aside0.mk (Kd.S_after (ok := (fun k_ => some k_ ≠ (.slice (some ad577) t558.length co34 : Value).ownBlock ∧ some k_ ≠ (.slice (some ad586) t561.length co33 : Value).ownBlock ∧ some k_ ≠ (.slice (some ad577) t558.length co34 : Value).ownBlock ∧ some k_ ≠ (.slice (some ad586) t561.length co33 : Value).ownBlock ∧ some k_ ≠ (.slice Ao32 t564.length co32 : Value).ownBlock ∧ some k_ ≠ (.slice Ao31 t567.length co31 : Value).ownBlock ∧ some k_ ≠ (.slice Ao64 y580.length co64 : Value).ownBlock ∧ some k_ ≠ (u571005 : Value).ownBlock)) (sx_ (Kd.S_mono HO_571006.out (fun _ hk => ⟨⟨hk.2.1, ⟨hk.2.2.1, ⟨hk.2.2.2.1, ⟨hk.2.2.2.2.1, ⟨hk.2.2.2.2.2.1, ⟨hk.2.2.2.2.2.2.1, ⟨hk.2.2.2.2.2.2.2.1, hk.2.2.2.2.2.2.2.2⟩⟩⟩⟩⟩⟩⟩, hk.1⟩))) hg hat)
                             have n9_ := Aside0.mk (blk_grown (g := gb553) (o := .cells #[.slice (some ad579) l2_0.length c2_0, .slice A2_1 l2_1.length c2_1, .slice (some ad589) l2_2.length c2_2] 27 (0, 0)) (kx_ BK553.out) hg (Kd.R_ne HO_13.out BK553.out (by decide)))
                             have n10_ := Aside0.mk (blk_grown (g := gb554) (o := .cells #[.slice none 0 0, .slice none 0 0, .slice none 0 0, .slice none 0 0, .slice none 0 0, .slice none 0 0, .slice none 0 0] 92 (0, 0)) (kx_ BK554.out) hg (Kd.R_ne HO_13.out BK554.out (by decide)))
                             have n11_ := Aside0.mk (blk_grown (g := gb570) (o := .cells #[.slice (some ad577) t558.length co34, .slice (some ad586) t561.length co33, .slice Ao32 t564.length co32, .slice Ao31 t567.length co31, .slice Ao64 y580.length co64, u571005, u571006] 92 (0, 0)) (kx_ BK570.out) hg (Kd.R_ne HO_13.out BK570.out (by decide)))
                             have n12_ := Aside0.mk (hb)
                             have n13_ := Aside0.mk (ho)
                             clear HO_62
                             clear HO_84
                             clear HO_571000
                             clear HO_571001
                             clear HO_571002
                             clear HO_571003
                             clear HO_571004
                             clear HO_571005
                             clear HO_571006
                             clear BK553
                             clear BK554
                             clear BK570
                             clear HB
                             clear HO_13
                             have HO_62 := n0_
                             have HO_84 := n1_
                             have HO_571000 := n2_
                             have HO_571001 := n3_
                             have HO_571002 := n4_
                             have HO_571003 := n5_
                             have HO_571004 := n6_
                             have HO_571005 := n7_
                             have HO_571006 := n8_
                             have BK553 := n9_
                             have BK554 := n10_
                             have BK570 := n11_
                             have HB := n12_
                             have HO592 := n13_
                             clear n0_ n1_ n2_ n3_ n4_ n5_ n6_ n7_ n8_ n9_ n10_ n11_ n12_ n13_
                             clear ho hb hg hat
                             refine hK.out _ _ ⟨(blk_cell BK553.out 0).trans rfl, (blk_cell BK553.out 1).trans rfl, (blk_cell BK553.out 2).trans rfl, (ce_ HB hw587_0), (ce_ HB hw587_1), (ce_ HB hw588_0), (ce_ HB hw588_1), (ce_ HB hw589_0)⟩ (fun hHeld => ?_)
                             clear hK K
                             refine norm_ (a' := ?_) ?_ ?_
                             rotate_left
                             ·show Act.put _ (some 108) _ = _
                              simp only [Act.put, List.setIfInBounds_toArray, List.set_cons_zero, List.set_cons_succ, i64_w, i32_w]
                              rfl
                             refine pu_ 19 (some 13) (ba_ 20 1048575) rfl rfl (any_of HT_.out (by kernel_rfl)) ?_
                             refine done_ (done_of HT_.out (by kernel_rfl)) ?_
                             try go_wp2
                             go_roundg k4
                             case measure => have := HJ3.out; have := HK2.out; have := HK3.out; have := HK4.out; omega
                             case rel => exact ⟨(y590), (wrap64 (x86_4 + 1)), eb_, H', ⟨by have := HJ3.out; have := HK2.out; have := HK3.out; have := HK4.out; omega⟩, ⟨rx_ HO592.out⟩, ⟨rx_ (Kd.R_mono HO_62.out (fun _ hk => ⟨hk.2, ⟨hk.1.1, ⟨hk.1.2.1, ⟨hk.1.2.2.1, ⟨hk.1.2.2.2.1, ⟨hk.1.2.2.2.2.1, hk.1.2.2.2.2.2⟩⟩⟩⟩⟩⟩))⟩, ⟨rx_ (Kd.R_mono HO_84.out (fun _ hk => ⟨hk.2, ⟨hk.1.1, ⟨hk.1.2.1, ⟨hk.1.2.2.1, ⟨hk.1.2.2.2.1, ⟨hk.1.2.2.2.2.1, hk.1.2.2.2.2.2⟩⟩⟩⟩⟩⟩))⟩, ⟨rx_ (Kd.R_mono HO_571000.out (fun _ hk => ⟨hk.2, ⟨hk.1.1, ⟨hk.1.2.1, ⟨hk.1.2.2.1, ⟨hk.1.2.2.2.1, ⟨hk.1.2.2.2.2.1, hk.1.2.2.2.2.2⟩⟩⟩⟩⟩⟩))⟩, ⟨rx_ (Kd.R_mono HO_571001.out (fun _ hk => ⟨hk.2, ⟨hk.1.1, ⟨hk.1.2.1, ⟨hk.1.2.2.1, ⟨hk.1.2.2.2.1, ⟨hk.1.2.2.2.2.1, hk.1.2.2.2.2.2⟩⟩⟩⟩⟩⟩))⟩, ⟨rx_ (Kd.R_mono HO_571002.out (fun _ hk => ⟨hk.2, ⟨hk.1.1, ⟨hk.1.2.1, ⟨hk.1.2.2.1, ⟨hk.1.2.2.2.1, ⟨hk.1.2.2.2.2.1, ⟨hk.1.2.2.2.2.2.1, hk.1.2.2.2.2.2.2⟩⟩⟩⟩⟩⟩⟩))⟩, ⟨rx_ (Kd.R_mono HO_571003.out (fun _ hk => ⟨hk.2, ⟨hk.1.1, ⟨hk.1.2.1, ⟨hk.1.2.2.1, ⟨hk.1.2.2.2.1, ⟨hk.1.2.2.2.2.1, ⟨hk.1.2.2.2.2.2.1, hk.1.2.2.2.2.2.2⟩⟩⟩⟩⟩⟩⟩))⟩, ⟨rx_ (Kd.R_mono HO_571004.out (fun _ hk => ⟨hk.2, ⟨hk.1.1, ⟨hk.1.2.1, ⟨hk.1.2.2.1, ⟨hk.1.2.2.2.1, ⟨hk.1.2.2.2.2.1, ⟨hk.1.2.2.2.2.2.1, hk.1.2.2.2.2.2.2⟩⟩⟩⟩⟩⟩⟩))⟩, ⟨rx_ (Kd.R_mono HO_571005.out (fun _ hk => ⟨hk.2, ⟨hk.1.1, ⟨hk.1.2.1, ⟨hk.1.2.2.1, ⟨hk.1.2.2.2.1, ⟨hk.1.2.2.2.2.1, ⟨hk.1.2.2.2.2.2.1, hk.1.2.2.2.2.2.2⟩⟩⟩⟩⟩⟩⟩))⟩, ⟨sx_ (Kd.S_mono HO_571006.out (fun _ hk => ⟨hk.2, ⟨hk.1.1, ⟨hk.1.2.1, ⟨hk.1.2.2.1, ⟨hk.1.2.2.2.1, ⟨hk.1.2.2.2.2.1, ⟨hk.1.2.2.2.2.2.1, ⟨hk.1.2.2.2.2.2.2.1, hk.1.2.2.2.2.2.2.2⟩⟩⟩⟩⟩⟩⟩⟩))⟩, ⟨kx_ BK553.out⟩, ⟨kx_ BK554.out⟩, ⟨kx_ BK570.out⟩, bl_ HB⟩
                            ·rw [if_neg c81] at H
                             exact absurd H (by simp)
                           ·rw [if_neg c80] at H
                            exact absurd H (by simp)
                          ·rw [if_neg c79] at H
                           exact absurd H (by simp)
                         ·rw [if_neg c77] at H
                          exact absurd H (by simp)
                        ·rw [if_neg c76] at H
                         exact absurd H (by simp)
                       ·rw [if_neg c75] at H
                        exact absurd H (by simp)
                      ·rw [if_neg c74] at H
                       exact absurd H (by simp)
                     ·rw [if_neg c73] at H
                      exact absurd H (by simp)
                    ·rw [if_neg c72] at H
                     exact absurd H (by simp)
                   ·rw [if_neg c71] at H
                    have c71b0 : decide (x86_4 < (t561.length : Int)) = false := decide_eq_false c71
                    clear c71
                    by_cases c84 : x571006_3.length < 5864062014805
                    ·rw [if_pos c84] at H
                     have LMc84 := Aside0.mk c84
                     clear c84
                     obtain ⟨y593, hy593⟩ : ∃ y_ : List (List Int), y_ = (x571006_3 ++ [x13_4]) := ⟨_, rfl⟩
                     replace H : (impl_measureOf.l1 k4 l0 l1 t558 (t558.length : Int) (wrap64 (x64_3 + 1)) l2_0 l2_1 l2_2 t558 t561 t564 t567 y580 x571005_2 y593) = some (r1, r2, r3, r4, r5, r6, r7, r8) := by first | (rw [hy593]; with_reducible exact H) | (have H2_ := (Option.bind_some _ _).symm.trans H; rw [hy593]; with_reducible exact H2_) | (have H2_ := (Option.bind_some _ _).symm.trans H; with_reducible exact H2_) | with_reducible exact H | (rw [hy593]; exact H) | exact H
                     have Ny593 := Aside0.mk hy593
                     clear hy593
                     have H' := Aside0.mk H
                     clear H
                     have hnb85 := NB570_553.out
                     have hnc85 := NB553_570.out
                     have hnb86 := NB570_554.out
                     have hnc86 := NB554_570.out
                     have hcz87_0 : wr.cell? ⟨gb570, 0, none⟩ = some (.slice (some ad577) t558.length co34) := (blk_cell BK570.out 0).trans rfl
                     have hcz87_1 : wr.cell? ⟨gb570, 1, none⟩ = some (.slice Ao33 t561.length co33) := (blk_cell BK570.out 1).trans rfl
                     have hcz87_2 : wr.cell? ⟨gb570, 2, none⟩ = some (.slice Ao32 t564.length co32) := (blk_cell BK570.out 2).trans rfl
                     have hcz87_3 : wr.cell? ⟨gb570, 3, none⟩ = some (.slice Ao31 t567.length co31) := (blk_cell BK570.out 3).trans rfl
                     have hcz87_4 : wr.cell? ⟨gb570, 4, none⟩ = some (.slice Ao64 y580.length co64) := (blk_cell BK570.out 4).trans rfl
                     have hcz87_5 : wr.cell? ⟨gb570, 5, none⟩ = some (u571005) := (blk_cell BK570.out 5).trans rfl
                     have hcz87_6 : wr.cell? ⟨gb570, 6, none⟩ = some (u571006) := (blk_cell BK570.out 6).trans rfl
                     have hfz87_0 := blk_frozen BK570.out 0
                     have hfz87_1 := blk_frozen BK570.out 1
                     have hfz87_2 := blk_frozen BK570.out 2
                     have hfz87_3 := blk_frozen BK570.out 3
                     have hfz87_4 := blk_frozen BK570.out 4
                     have hfz87_5 := blk_frozen BK570.out 5
                     have hfz87_6 := blk_frozen BK570.out 6
                     obtain ⟨Ao89, co89, eo89⟩ := Kd.R_slice HO_13.out
                     subst eo89
                     go_wp2_with (first | ((with_reducible refine gate_builtin (b := .append) (xs := #[.tmp 111, .tmp 113]) rfl ?_); at_builtin; refine Kd.S_append (Kd.slice 3 (Kd.int .i64)) (w0 := w) w.heap.size rfl (.tmp 111) (.tmp 113) 90 25 (.slice none 0 0) 24 rfl Try.underlying90 info25 rfl (by decide) (by omega) u571006 x571006_3 x13_4 [.slice Ao89 x13_4.length co89] (fun k_ => some k_ ≠ (.slice (some ad577) t558.length co34 : Value).ownBlock ∧ some k_ ≠ (.slice Ao33 t561.length co33 : Value).ownBlock ∧ some k_ ≠ (.slice (some ad577) t558.length co34 : Value).ownBlock ∧ some k_ ≠ (.slice Ao33 t561.length co33 : Value).ownBlock ∧ some k_ ≠ (.slice Ao32 t564.length co32 : Value).ownBlock ∧ some k_ ≠ (.slice Ao31 t567.length co31 : Value).ownBlock ∧ some k_ ≠ (.slice Ao64 y580.length co64 : Value).ownBlock ∧ some k_ ≠ (u571005 : Value).ownBlock) (fun k_ => some k_ = (.slice Ao89 x13_4.length co89 : Value).ownBlock) rfl rfl ?aP (fun k_ hk_ => ((Kd.R_mono (ok' := fun k_ => ((fun k_ => some k_ ≠ (.slice (some ad577) t558.length co34 : Value).ownBlock ∧ some k_ ≠ (.slice Ao33 t561.length co33 : Value).ownBlock ∧ some k_ ≠ (.slice (some ad577) t558.length co34 : Value).ownBlock ∧ some k_ ≠ (.slice Ao33 t561.length co33 : Value).ownBlock ∧ some k_ ≠ (.slice Ao32 t564.length co32 : Value).ownBlock ∧ some k_ ≠ (.slice Ao31 t567.length co31 : Value).ownBlock ∧ some k_ ≠ (.slice Ao64 y580.length co64 : Value).ownBlock ∧ some k_ ≠ (u571005 : Value).ownBlock)) k_ ∧ some k_ ≠ (u571006 : Value).ownBlock) (Kd.R_apart' (HO_13.out) (Kd.S_typed HO_571006.out) (by decide)) (fun k_ hk => ⟨⟨hk.1.1, ⟨hk.1.2.1, ⟨hk.1.2.2.1, ⟨hk.1.2.2.2.1, ⟨hk.1.2.2.2.2.1, ⟨hk.1.2.2.2.2.2.1, ⟨hk.1.2.2.2.2.2.2.1, hk.1.2.2.2.2.2.2.2⟩⟩⟩⟩⟩⟩⟩, hk.2⟩))).1 k_ hk_.symm) ?aF ?aO ?aB ?aS ?aL ?_; (case aP => exact Kd.M_row (Kd.R_mono (Kd.R_tight rfl (Kd.R_mono (ok' := fun k_ => ((fun k_ => some k_ ≠ (.slice (some ad577) t558.length co34 : Value).ownBlock ∧ some k_ ≠ (.slice Ao33 t561.length co33 : Value).ownBlock ∧ some k_ ≠ (.slice (some ad577) t558.length co34 : Value).ownBlock ∧ some k_ ≠ (.slice Ao33 t561.length co33 : Value).ownBlock ∧ some k_ ≠ (.slice Ao32 t564.length co32 : Value).ownBlock ∧ some k_ ≠ (.slice Ao31 t567.length co31 : Value).ownBlock ∧ some k_ ≠ (.slice Ao64 y580.length co64 : Value).ownBlock ∧ some k_ ≠ (u571005 : Value).ownBlock)) k_ ∧ some k_ ≠ (u571006 : Value).ownBlock) (Kd.R_apart' (HO_13.out) (Kd.S_typed HO_571006.out) (by decide)) (fun k_ hk => ⟨⟨hk.1.1, ⟨hk.1.2.1, ⟨hk.1.2.2.1, ⟨hk.1.2.2.2.1, ⟨hk.1.2.2.2.2.1, ⟨hk.1.2.2.2.2.2.1, ⟨hk.1.2.2.2.2.2.2.1, hk.1.2.2.2.2.2.2.2⟩⟩⟩⟩⟩⟩⟩, hk.2⟩))) (fun _ h_ => h_))); (case aB => exact ((bl_ HB).out)); (case aF => exact (fun k_ hk => ⟨Kd.fresh' (Kd.R_lt (rx_ HO_62.out)) k_ hk, Kd.fresh' (Kd.R_lt (rx_ HO_84.out)) k_ hk, Kd.fresh' (Kd.R_lt (rx_ HO_571000.out)) k_ hk, Kd.fresh' (Kd.R_lt (rx_ HO_571001.out)) k_ hk, Kd.fresh' (Kd.R_lt (rx_ HO_571002.out)) k_ hk, Kd.fresh' (Kd.R_lt (rx_ HO_571003.out)) k_ hk, Kd.fresh' (Kd.R_lt (rx_ HO_571004.out)) k_ hk, Kd.fresh' (Kd.R_lt (rx_ HO_571005.out)) k_ hk⟩)); (case aO => exact (sx_ (Kd.S_mono HO_571006.out (fun k_ hk => ⟨⟨hk.2.1, ⟨hk.2.2.1, ⟨hk.2.2.2.1, ⟨hk.2.2.2.2.1, ⟨hk.2.2.2.2.2.1, ⟨hk.2.2.2.2.2.2.1, ⟨hk.2.2.2.2.2.2.2.1, hk.2.2.2.2.2.2.2.2⟩⟩⟩⟩⟩⟩⟩, fun e_ => hk.1 e_⟩)))); (case aS => exact (bs_ HB)); (case aL => have := LMc84.out; omega); intro v594 w88 ho hb hg hat; rw [← Ny593.out] at ho; replace HO_62 := Aside0.mk (Kd.R_over' (rx_ HO_62.out) (Kd.S_typed (sx_ HO_571006.out)) (by decide) hg); replace HO_84 := Aside0.mk (Kd.R_over' (rx_ HO_84.out) (Kd.S_typed (sx_ HO_571006.out)) (by decide) hg); replace HO_571000 := Aside0.mk (Kd.R_over' (rx_ HO_571000.out) (Kd.S_typed (sx_ HO_571006.out)) (by decide) hg); replace HO_571001 := Aside0.mk (Kd.R_over' (rx_ HO_571001.out) (Kd.S_typed (sx_ HO_571006.out)) (by decide) hg); replace HO_571002 := Aside0.mk (Kd.R_over' (rx_ HO_571002.out) (Kd.S_typed (sx_ HO_571006.out)) (by decide) hg); replace HO_571003 := Aside0.mk (Kd.R_over' (rx_ HO_571003.out) (Kd.S_typed (sx_ HO_571006.out)) (by decide) hg); replace HO_571004 := Aside0.mk (Kd.R_over' (rx_ HO_571004.out) (Kd.S_typed (sx_ HO_571006.out)) (by decide) hg); replace HO_571005 := Aside0.mk (Kd.R_over' (rx_ HO_571005.out) (Kd.S_typed (sx_ HO_571006.out)) (by decide) hg); replace BK553 := Aside0.mk (blk_grown (g := gb553) (o := .cells #[.slice (some ad579) l2_0.length c2_0, .slice A2_1 l2_1.length c2_1, .slice A2_2 l2_2.length c2_2] 27 (0, 0)) (kx_ BK553.out) hg (Kd.S_ne HO_571006.out BK553.out (by decide))); replace BK554 := Aside0.mk (blk_grown (g := gb554) (o := .cells #[.slice none 0 0, .slice none 0 0, .slice none 0 0, .slice none 0 0, .slice none 0 0, .slice none 0 0, .slice none 0 0] 92 (0, 0)) (kx_ BK554.out) hg (Kd.S_ne HO_571006.out BK554.out (by decide))); replace BK570 := Aside0.mk (blk_grown (g := gb570) (o := .cells #[.slice (some ad577) t558.length co34, .slice Ao33 t561.length co33, .slice Ao32 t564.length co32, .slice Ao31 t567.length co31, .slice Ao64 y580.length co64, u571005, u571006] 92 (0, 0)) (kx_ BK570.out) hg (Kd.S_ne HO_571006.out BK570.out (by decide))); replace HB := Aside0.mk (hb); have HO595 := Aside0.mk (ho); clear HO_571006; clear HO_13; clear ho hb hg hat; obtain ⟨Ao90, co90, eo90⟩ := Kd.S_slice HO595.out; subst eo90; have hcz91_0 : w88.cell? ⟨gb570, 0, none⟩ = some (.slice (some ad577) t558.length co34) := (blk_cell BK570.out 0).trans rfl; have hcz91_1 : w88.cell? ⟨gb570, 1, none⟩ = some (.slice Ao33 t561.length co33) := (blk_cell BK570.out 1).trans rfl; have hcz91_2 : w88.cell? ⟨gb570, 2, none⟩ = some (.slice Ao32 t564.length co32) := (blk_cell BK570.out 2).trans rfl; have hcz91_3 : w88.cell? ⟨gb570, 3, none⟩ = some (.slice Ao31 t567.length co31) := (blk_cell BK570.out 3).trans rfl; have hcz91_4 : w88.cell? ⟨gb570, 4, none⟩ = some (.slice Ao64 y580.length co64) := (blk_cell BK570.out 4).trans rfl; have hcz91_5 : w88.cell? ⟨gb570, 5, none⟩ = some (u571005) := (blk_cell BK570.out 5).trans rfl; have hcz91_6 : w88.cell? ⟨gb570, 6, none⟩ = some (u571006) := (blk_cell BK570.out 6).trans rfl; have hfz91_0 := blk_frozen BK570.out 0; have hfz91_1 := blk_frozen BK570.out 1; have hfz91_2 := blk_frozen BK570.out 2; have hfz91_3 := blk_frozen BK570.out 3; have hfz91_4 := blk_frozen BK570.out 4; have hfz91_5 := blk_frozen BK570.out 5; have hfz91_6 := blk_frozen BK570.out 6))
                     go_roundg k4
                     case measure => have := HJ3.out; have := HK2.out; have := HK3.out; have := HK4.out; omega
                     case rel => exact ⟨(wrap64 (x64_3 + 1)), (y580), (y593), (.slice Ao64 y580.length co64), (.slice Ao90 y593.length co90), (by first | rfl | (simp; done) | (simp [*]; done)), H', ⟨by have := HJ3.out; have := HK2.out; have := HK3.out; have := HK4.out; omega⟩, ⟨by (with_reducible repeat (first | apply Kd.R_alloc | apply Kd.R_drewN | apply Kd.R_drew)); exact Kd.R_mono (Kd.R_far (p := ⟨gb570, 6, none⟩) (Kd.R_types HO_62.out BK570.out (by decide)) (fun _ hk => hk.2) (.slice Ao90 y593.length co90)) (fun _ hk => ⟨hk.1.2.2.1, ⟨hk.1.2.2.2.1, ⟨hk.1.2.2.2.2.1, ⟨hk.1.2.2.2.2.2.1, hk.1.2.2.2.2.2.2⟩⟩⟩⟩)⟩, ⟨by (with_reducible repeat (first | apply Kd.R_alloc | apply Kd.R_drewN | apply Kd.R_drew)); exact Kd.R_mono (Kd.R_far (p := ⟨gb570, 6, none⟩) (Kd.R_types HO_571000.out BK570.out (by decide)) (fun _ hk => hk.2) (.slice Ao90 y593.length co90)) (fun _ hk => ⟨hk.1.2.2.1, ⟨hk.1.2.2.2.1, ⟨hk.1.2.2.2.2.1, ⟨hk.1.2.2.2.2.2.1, hk.1.2.2.2.2.2.2⟩⟩⟩⟩)⟩, ⟨by (with_reducible repeat (first | apply Kd.R_alloc | apply Kd.R_drewN | apply Kd.R_drew)); exact Kd.R_mono (Kd.R_far (p := ⟨gb570, 6, none⟩) (Kd.R_types HO_571001.out BK570.out (by decide)) (fun _ hk => hk.2) (.slice Ao90 y593.length co90)) (fun _ hk => ⟨hk.1.2.1, ⟨hk.1.2.2.1, ⟨hk.1.2.2.2.1, ⟨hk.1.2.2.2.2.1, ⟨hk.1.2.2.2.2.2.1, hk.1.2.2.2.2.2.2⟩⟩⟩⟩⟩)⟩, ⟨by (with_reducible repeat (first | apply Kd.R_alloc | apply Kd.R_drewN | apply Kd.R_drew)); exact Kd.R_mono (Kd.R_far (p := ⟨gb570, 6, none⟩) (Kd.R_types HO_571002.out BK570.out (by decide)) (fun _ hk => hk.2) (.slice Ao90 y593.length co90)) (fun _ hk => ⟨hk.1.2.1, ⟨hk.1.2.2.2.1, ⟨hk.1.2.2.2.2.1, ⟨hk.1.2.2.2.2.2.1, ⟨hk.1.2.2.2.2.2.2.1, hk.1.2.2.2.2.2.2.2⟩⟩⟩⟩⟩)⟩, ⟨by (with_reducible repeat (first | apply Kd.R_alloc | apply Kd.R_drewN | apply Kd.R_drew)); exact Kd.R_mono (Kd.R_far (p := ⟨gb570, 6, none⟩) (Kd.R_types HO_571003.out BK570.out (by decide)) (fun _ hk => hk.2) (.slice Ao90 y593.length co90)) (fun _ hk => ⟨hk.1.2.1, ⟨hk.1.2.2.2.1, ⟨hk.1.2.2.2.2.1, ⟨hk.1.2.2.2.2.2.1, ⟨hk.1.2.2.2.2.2.2.1, hk.1.2.2.2.2.2.2.2⟩⟩⟩⟩⟩)⟩, ⟨by (with_reducible repeat (first | apply Kd.R_alloc | apply Kd.R_drewN | apply Kd.R_drew)); exact Kd.R_mono (Kd.R_far (p := ⟨gb570, 6, none⟩) (Kd.R_types HO_571004.out BK570.out (by decide)) (fun _ hk => hk.2) (.slice Ao90 y593.length co90)) (fun _ hk => ⟨hk.1.2.1, ⟨hk.1.2.2.2.1, ⟨hk.1.2.2.2.2.1, ⟨hk.1.2.2.2.2.2.1, ⟨hk.1.2.2.2.2.2.2.1, hk.1.2.2.2.2.2.2.2⟩⟩⟩⟩⟩)⟩, ⟨by (with_reducible repeat (first | apply Kd.R_alloc | apply Kd.R_drewN | apply Kd.R_drew)); exact Kd.R_mono (Kd.R_far (p := ⟨gb570, 6, none⟩) (Kd.R_types HO_571005.out BK570.out (by decide)) (fun _ hk => hk.2) (.slice Ao90 y593.length co90)) (fun _ hk => ⟨hk.1.2.1, ⟨hk.1.2.2.2.1, ⟨hk.1.2.2.2.2.1, ⟨hk.1.2.2.2.2.2.1, ⟨hk.1.2.2.2.2.2.2.1, hk.1.2.2.2.2.2.2.2⟩⟩⟩⟩⟩)⟩, ⟨by (with_reducible repeat (first | apply Kd.S_alloc | apply Kd.S_drewN | apply Kd.S_drew)); exact Kd.S_mono (Kd.S_far (p := ⟨gb570, 6, none⟩) (Kd.S_types HO595.out BK570.out (by decide)) (fun _ hk => hk.2) (.slice Ao90 y593.length co90)) (fun _ hk => ⟨hk.1.1, ⟨hk.1.2.2.1, ⟨hk.1.2.2.2.1, ⟨hk.1.2.2.2.2.1, ⟨hk.1.2.2.2.2.2.1, ⟨hk.1.2.2.2.2.2.2.1, hk.1.2.2.2.2.2.2.2⟩⟩⟩⟩⟩⟩)⟩, ⟨by (with_reducible repeat (first | refine blk_drewN ?_ _ | refine blk_drew ?_ | refine blk_alloc ?_ _)); refine blk_far ?_ NB553_570.out _; (with_reducible repeat (first | refine blk_drewN ?_ _ | refine blk_drew ?_ | refine blk_alloc ?_ _)); exact BK553.out⟩, ⟨by (with_reducible repeat (first | refine blk_drewN ?_ _ | refine blk_drew ?_ | refine blk_alloc ?_ _)); refine blk_far ?_ NB554_570.out _; (with_reducible repeat (first | refine blk_drewN ?_ _ | refine blk_drew ?_ | refine blk_alloc ?_ _)); exact BK554.out⟩, ⟨by (with_reducible repeat (first | refine blk_drewN ?_ _ | refine blk_drew ?_ | refine blk_alloc ?_ _)); refine blk_put (cs := #[.slice (some ad577) t558.length co34, .slice Ao33 t561.length co33, .slice Ao32 t564.length co32, .slice Ao31 t567.length co31, .slice Ao64 y580.length co64, u571005, u571006]) ?_ 6 _ rfl; (with_reducible repeat (first | refine blk_drewN ?_ _ | refine blk_drew ?_ | refine blk_alloc ?_ _)); exact BK570.out⟩, ⟨by repeat (first | (with_reducible first | exact HB.out | apply below_alloc | apply pw_below_drewN | apply below_drew1 | refine below_set ?_ GE553.out | refine below_set ?_ GE554.out | refine below_set ?_ GE570.out) | exact HB.out)⟩⟩
                    ·rw [if_neg c84] at H
                     exact absurd H (by simp)
                ·rw [if_neg c61] at H
                 exact absurd H (by simp)
               ·rw [if_neg c60] at H
                exact absurd H (by simp)
              ·rw [if_neg c59] at H
               exact absurd H (by simp)
             ·rw [if_neg c58] at H
              exact absurd H (by simp)
            ·rw [if_neg c57] at H
             exact absurd H (by simp)
           ·rw [if_neg c56] at H
            exact absurd H (by simp)
          ·rw [if_neg c55] at H
           exact absurd H (by simp)
         ·rw [if_neg c54] at H
          have c54b0 : decide (x64_3 < (t558.length : Int)) = false := decide_eq_false c54
          clear c54
          simp only [Option.some.injEq, Prod.mk.injEq] at H
          obtain ⟨rfl, rfl, rfl, rfl, rfl, rfl, rfl, rfl⟩ := H
          have hnb92 := NB570_553.out
          have hnc92 := NB553_570.out
          have hnb93 := NB570_554.out
          have hnc93 := NB554_570.out
          have hcz94_0 : wr.cell? ⟨gb570, 0, none⟩ = some (.slice Ao34 t558.length co34) := (blk_cell BK570.out 0).trans rfl
          have hcz94_1 : wr.cell? ⟨gb570, 1, none⟩ = some (.slice Ao33 t561.length co33) := (blk_cell BK570.out 1).trans rfl
          have hcz94_2 : wr.cell? ⟨gb570, 2, none⟩ = some (.slice Ao32 t564.length co32) := (blk_cell BK570.out 2).trans rfl
          have hcz94_3 : wr.cell? ⟨gb570, 3, none⟩ = some (.slice Ao31 t567.length co31) := (blk_cell BK570.out 3).trans rfl
          have hcz94_4 : wr.cell? ⟨gb570, 4, none⟩ = some (u571004) := (blk_cell BK570.out 4).trans rfl
          have hcz94_5 : wr.cell? ⟨gb570, 5, none⟩ = some (u571005) := (blk_cell BK570.out 5).trans rfl
          have hcz94_6 : wr.cell? ⟨gb570, 6, none⟩ = some (u571006) := (blk_cell BK570.out 6).trans rfl
          have hfz94_0 := blk_frozen BK570.out 0
          have hfz94_1 := blk_frozen BK570.out 1
          have hfz94_2 := blk_frozen BK570.out 2
          have hfz94_3 := blk_frozen BK570.out 3
          have hfz94_4 := blk_frozen BK570.out 4
          have hfz94_5 := blk_frozen BK570.out 5
          have hfz94_6 := blk_frozen BK570.out 6
          have hnb95 := NB554_553.out
          have hnc95 := NB553_554.out
          have hcz96_0 : wr.cell? ⟨gb554, 0, none⟩ = some (.slice none 0 0) := (blk_cell BK554.out 0).trans rfl
          have hcz96_1 : wr.cell? ⟨gb554, 1, none⟩ = some (.slice none 0 0) := (blk_cell BK554.out 1).trans rfl
          have hcz96_2 : wr.cell? ⟨gb554, 2, none⟩ = some (.slice none 0 0) := (blk_cell BK554.out 2).trans rfl
          have hcz96_3 : wr.cell? ⟨gb554, 3, none⟩ = some (.slice none 0 0) := (blk_cell BK554.out 3).trans rfl
          have hcz96_4 : wr.cell? ⟨gb554, 4, none⟩ = some (.slice none 0 0) := (blk_cell BK554.out 4).trans rfl
          have hcz96_5 : wr.cell? ⟨gb554, 5, none⟩ = some (.slice none 0 0) := (blk_cell BK554.out 5).trans rfl
          have hcz96_6 : wr.cell? ⟨gb554, 6, none⟩ = some (.slice none 0 0) := (blk_cell BK554.out 6).trans rfl
          have hfz96_0 := blk_frozen BK554.out 0
          have hfz96_1 := blk_frozen BK554.out 1
          have hfz96_2 := blk_frozen BK554.out 2
          have hfz96_3 := blk_frozen BK554.out 3
          have hfz96_4 := blk_frozen BK554.out 4
          have hfz96_5 := blk_frozen BK554.out 5
          have hfz96_6 := blk_frozen BK554.out 6
          obtain ⟨Ao97, co97, eo97⟩ := Kd.R_slice HO_571004.out
          subst eo97
          obtain ⟨Ao98, co98, eo98⟩ := Kd.R_slice HO_571005.out
          subst eo98
          obtain ⟨Ao99, co99, eo99⟩ := Kd.S_slice HO_571006.out
          subst eo99
          go_wp2
          refine bodyPost_ret (results_ct rfl _ _ gb554 92 #[.slice Ao34 t558.length co34, .slice Ao33 t561.length co33, .slice Ao32 t564.length co32, .slice Ao31 t567.length co31, .slice Ao97 x571004_3.length co97, .slice Ao98 x571005_2.length co98, .slice Ao99 x571006_3.length co99] (0, 0) _ rfl (by (with_reducible repeat (first | refine blk_drewN ?_ _ | refine blk_drew ?_ | refine blk_alloc ?_ _)); refine blk_put (cs := #[.slice Ao34 t558.length co34, .slice Ao33 t561.length co33, .slice Ao32 t564.length co32, .slice Ao31 t567.length co31, .slice Ao97 x571004_3.length co97, .slice Ao98 x571005_2.length co98, .slice none 0 0]) ?_ 6 _ rfl; (with_reducible repeat (first | refine blk_drewN ?_ _ | refine blk_drew ?_ | refine blk_alloc ?_ _)); refine blk_put (cs := #[.slice Ao34 t558.length co34, .slice Ao33 t561.length co33, .slice Ao32 t564.length co32, .slice Ao31 t567.length co31, .slice Ao97 x571004_3.length co97, .slice none 0 0, .slice none 0 0]) ?_ 5 _ rfl; (with_reducible repeat (first | refine blk_drewN ?_ _ | refine blk_drew ?_ | refine blk_alloc ?_ _)); refine blk_put (cs := #[.slice Ao34 t558.length co34, .slice Ao33 t561.length co33, .slice Ao32 t564.length co32, .slice Ao31 t567.length co31, .slice none 0 0, .slice none 0 0, .slice none 0 0]) ?_ 4 _ rfl; (with_reducible repeat (first | refine blk_drewN ?_ _ | refine blk_drew ?_ | refine blk_alloc ?_ _)); refine blk_put (cs := #[.slice Ao34 t558.length co34, .slice Ao33 t561.length co33, .slice Ao32 t564.length co32, .slice none 0 0, .slice none 0 0, .slice none 0 0, .slice none 0 0]) ?_ 3 _ rfl; (with_reducible repeat (first | refine blk_drewN ?_ _ | refine blk_drew ?_ | refine blk_alloc ?_ _)); refine blk_put (cs := #[.slice Ao34 t558.length co34, .slice Ao33 t561.length co33, .slice none 0 0, .slice none 0 0, .slice none 0 0, .slice none 0 0, .slice none 0 0]) ?_ 2 _ rfl; (with_reducible repeat (first | refine blk_drewN ?_ _ | refine blk_drew ?_ | refine blk_alloc ?_ _)); refine blk_put (cs := #[.slice Ao34 t558.length co34, .slice none 0 0, .slice none 0 0, .slice none 0 0, .slice none 0 0, .slice none 0 0, .slice none 0 0]) ?_ 1 _ rfl; (with_reducible repeat (first | refine blk_drewN ?_ _ | refine blk_drew ?_ | refine blk_alloc ?_ _)); refine blk_put (cs := #[.slice none 0 0, .slice none 0 0, .slice none 0 0, .slice none 0 0, .slice none 0 0, .slice none 0 0, .slice none 0 0]) ?_ 0 _ rfl; (with_reducible repeat (first | refine blk_drewN ?_ _ | refine blk_drew ?_ | refine blk_alloc ?_ _)); exact BK554.out) Try.underlying92 rfl (by kernel_rfl)) rfl ?_
          exact ⟨_, _, _, _, _, _, _, by first | rfl | (simp [errW_none, errW_some] <;> rfl) | (simp [*, errW_none, errW_some] <;> rfl), by (with_reducible repeat (first | apply Kd.R_alloc | apply Kd.R_drewN | apply Kd.R_drew)); exact Kd.R_mono (Kd.R_far (p := ⟨gb554, 6, none⟩) (Kd.R_far (p := ⟨gb554, 5, none⟩) (Kd.R_far (p := ⟨gb554, 4, none⟩) (Kd.R_far (p := ⟨gb554, 3, none⟩) (Kd.R_far (p := ⟨gb554, 2, none⟩) (Kd.R_far (p := ⟨gb554, 1, none⟩) (Kd.R_far (p := ⟨gb554, 0, none⟩) (Kd.R_types HO_571000.out BK554.out (by decide)) (fun _ hk => hk.2) (.slice Ao34 t558.length co34)) (fun _ hk => hk.2) (.slice Ao33 t561.length co33)) (fun _ hk => hk.2) (.slice Ao32 t564.length co32)) (fun _ hk => hk.2) (.slice Ao31 t567.length co31)) (fun _ hk => hk.2) (.slice Ao97 x571004_3.length co97)) (fun _ hk => hk.2) (.slice Ao98 x571005_2.length co98)) (fun _ hk => hk.2) (.slice Ao99 x571006_3.length co99)) (fun _ hk => ⟨hk.1.1, ⟨hk.1.2.1, ⟨hk.1.2.2.1, ⟨hk.1.2.2.2.1, hk.1.2.2.2.2⟩⟩⟩⟩), by (with_reducible repeat (first | apply Kd.R_alloc | apply Kd.R_drewN | apply Kd.R_drew)); exact Kd.R_mono (Kd.R_far (p := ⟨gb554, 6, none⟩) (Kd.R_far (p := ⟨gb554, 5, none⟩) (Kd.R_far (p := ⟨gb554, 4, none⟩) (Kd.R_far (p := ⟨gb554, 3, none⟩) (Kd.R_far (p := ⟨gb554, 2, none⟩) (Kd.R_far (p := ⟨gb554, 1, none⟩) (Kd.R_far (p := ⟨gb554, 0, none⟩) (Kd.R_types HO_571001.out BK554.out (by decide)) (fun _ hk => hk.2) (.slice Ao34 t558.length co34)) (fun _ hk => hk.2) (.slice Ao33 t561.length co33)) (fun _ hk => hk.2) (.slice Ao32 t564.length co32)) (fun _ hk => hk.2) (.slice Ao31 t567.length co31)) (fun _ hk => hk.2) (.slice Ao97 x571004_3.length co97)) (fun _ hk => hk.2) (.slice Ao98 x571005_2.length co98)) (fun _ hk => hk.2) (.slice Ao99 x571006_3.length co99)) (fun _ hk => ⟨hk.1.2.1, ⟨hk.1.2.2.1, ⟨hk.1.2.2.2.1, ⟨hk.1.2.2.2.2.1, hk.1.2.2.2.2.2⟩⟩⟩⟩), by (with_reducible repeat (first | apply Kd.R_alloc | apply Kd.R_drewN | apply Kd.R_drew)); exact Kd.R_mono (Kd.R_far (p := ⟨gb554, 6, none⟩) (Kd.R_far (p := ⟨gb554, 5, none⟩) (Kd.R_far (p := ⟨gb554, 4, none⟩) (Kd.R_far (p := ⟨gb554, 3, none⟩) (Kd.R_far (p := ⟨gb554, 2, none⟩) (Kd.R_far (p := ⟨gb554, 1, none⟩) (Kd.R_far (p := ⟨gb554, 0, none⟩) (Kd.R_types HO_571002.out BK554.out (by decide)) (fun _ hk => hk.2) (.slice Ao34 t558.length co34)) (fun _ hk => hk.2) (.slice Ao33 t561.length co33)) (fun _ hk => hk.2) (.slice Ao32 t564.length co32)) (fun _ hk => hk.2) (.slice Ao31 t567.length co31)) (fun _ hk => hk.2) (.slice Ao97 x571004_3.length co97)) (fun _ hk => hk.2) (.slice Ao98 x571005_2.length co98)) (fun _ hk => hk.2) (.slice Ao99 x571006_3.length co99)) (fun _ hk => ⟨hk.1.2.1, ⟨hk.1.2.2.1, ⟨hk.1.2.2.2.1, ⟨hk.1.2.2.2.2.1, hk.1.2.2.2.2.2⟩⟩⟩⟩), by (with_reducible repeat (first | apply Kd.R_alloc | apply Kd.R_drewN | apply Kd.R_drew)); exact Kd.R_mono (Kd.R_far (p := ⟨gb554, 6, none⟩) (Kd.R_far (p := ⟨gb554, 5, none⟩) (Kd.R_far (p := ⟨gb554, 4, none⟩) (Kd.R_far (p := ⟨gb554, 3, none⟩) (Kd.R_far (p := ⟨gb554, 2, none⟩) (Kd.R_far (p := ⟨gb554, 1, none⟩) (Kd.R_far (p := ⟨gb554, 0, none⟩) (Kd.R_types HO_571003.out BK554.out (by decide)) (fun _ hk => hk.2) (.slice Ao34 t558.length co34)) (fun _ hk => hk.2) (.slice Ao33 t561.length co33)) (fun _ hk => hk.2) (.slice Ao32 t564.length co32)) (fun _ hk => hk.2) (.slice Ao31 t567.length co31)) (fun _ hk => hk.2) (.slice Ao97 x571004_3.length co97)) (fun _ hk => hk.2) (.slice Ao98 x571005_2.length co98)) (fun _ hk => hk.2) (.slice Ao99 x571006_3.length co99)) (fun _ hk => ⟨hk.1.2.1, ⟨hk.1.2.2.1, ⟨hk.1.2.2.2.1, ⟨hk.1.2.2.2.2.1, hk.1.2.2.2.2.2⟩⟩⟩⟩), by (with_reducible repeat (first | apply Kd.R_alloc | apply Kd.R_drewN | apply Kd.R_drew)); exact Kd.R_mono (Kd.R_far (p := ⟨gb554, 6, none⟩) (Kd.R_far (p := ⟨gb554, 5, none⟩) (Kd.R_far (p := ⟨gb554, 4, none⟩) (Kd.R_far (p := ⟨gb554, 3, none⟩) (Kd.R_far (p := ⟨gb554, 2, none⟩) (Kd.R_far (p := ⟨gb554, 1, none⟩) (Kd.R_far (p := ⟨gb554, 0, none⟩) (Kd.R_types HO_571004.out BK554.out (by decide)) (fun _ hk => hk.2) (.slice Ao34 t558.length co34)) (fun _ hk => hk.2) (.slice Ao33 t561.length co33)) (fun _ hk => hk.2) (.slice Ao32 t564.length co32)) (fun _ hk => hk.2) (.slice Ao31 t567.length co31)) (fun _ hk => hk.2) (.slice Ao97 x571004_3.length co97)) (fun _ hk => hk.2) (.slice Ao98 x571005_2.length co98)) (fun _ hk => hk.2) (.slice Ao99 x571006_3.length co99)) (fun _ hk => ⟨hk.1.2.1, ⟨hk.1.2.2.1, ⟨hk.1.2.2.2.1, ⟨hk.1.2.2.2.2.1, hk.1.2.2.2.2.2⟩⟩⟩⟩), by (with_reducible repeat (first | apply Kd.R_alloc | apply Kd.R_drewN | apply Kd.R_drew)); exact Kd.R_mono (Kd.R_far (p := ⟨gb554, 6, none⟩) (Kd.R_far (p := ⟨gb554, 5, none⟩) (Kd.R_far (p := ⟨gb554, 4, none⟩) (Kd.R_far (p := ⟨gb554, 3, none⟩) (Kd.R_far (p := ⟨gb554, 2, none⟩) (Kd.R_far (p := ⟨gb554, 1, none⟩) (Kd.R_far (p := ⟨gb554, 0, none⟩) (Kd.R_types HO_571005.out BK554.out (by decide)) (fun _ hk => hk.2) (.slice Ao34 t558.length co34)) (fun _ hk => hk.2) (.slice Ao33 t561.length co33)) (fun _ hk => hk.2) (.slice Ao32 t564.length co32)) (fun _ hk => hk.2) (.slice Ao31 t567.length co31)) (fun _ hk => hk.2) (.slice Ao97 x571004_3.length co97)) (fun _ hk => hk.2) (.slice Ao98 x571005_2.length co98)) (fun _ hk => hk.2) (.slice Ao99 x571006_3.length co99)) (fun _ hk => ⟨hk.1.2.1, ⟨hk.1.2.2.1, ⟨hk.1.2.2.2.1, ⟨hk.1.2.2.2.2.1, hk.1.2.2.2.2.2⟩⟩⟩⟩), by (with_reducible repeat (first | apply Kd.S_alloc | apply Kd.S_drewN | apply Kd.S_drew)); exact Kd.S_mono (Kd.S_far (p := ⟨gb554, 6, none⟩) (Kd.S_far (p := ⟨gb554, 5, none⟩) (Kd.S_far (p := ⟨gb554, 4, none⟩) (Kd.S_far (p := ⟨gb554, 3, none⟩) (Kd.S_far (p := ⟨gb554, 2, none⟩) (Kd.S_far (p := ⟨gb554, 1, none⟩) (Kd.S_far (p := ⟨gb554, 0, none⟩) (Kd.S_types HO_571006.out BK554.out (by decide)) (fun _ hk => hk.2) (.slice Ao34 t558.length co34)) (fun _ hk => hk.2) (.slice Ao33 t561.length co33)) (fun _ hk => hk.2) (.slice Ao32 t564.length co32)) (fun _ hk => hk.2) (.slice Ao31 t567.length co31)) (fun _ hk => hk.2) (.slice Ao97 x571004_3.length co97)) (fun _ hk => hk.2) (.slice Ao98 x571005_2.length co98)) (fun _ hk => hk.2) (.slice Ao99 x571006_3.length co99)) (fun _ hk => ⟨hk.1.2.1, ⟨hk.1.2.2.1, ⟨hk.1.2.2.2.1, ⟨hk.1.2.2.2.2.1, ⟨hk.1.2.2.2.2.2.1, hk.1.2.2.2.2.2.2⟩⟩⟩⟩⟩), by repeat (first | (with_reducible first | exact HB.out | apply below_alloc | apply pw_below_drewN | apply below_drew1 | refine below_set ?_ GE553.out | refine below_set ?_ GE554.out | refine below_set ?_ GE570.out) | exact HB.out)⟩
end Go.Proofs.Ytngphdmbjenkaaa.X
