/- Part 10 of the proof of FnExactTreeDists: what it needs. -/
import Derived.Test.YtelglbebffdaaaaKETreeDists3
import Derived.Test.YtelglbebffdaaaaKETreeDists5
import Derived.Test.YtelglbebffdaaaaKETreeDists6
import Derived.Test.YtelglbebffdaaaaKETreeDists9
namespace Go.Proofs.Ytelglbebffdaaaa.X
open Go.RowKit Go.Proofs.YtelglbebffdaaaaW.PrintWords Go.Proofs.YtelglbebffdaaaaW.PrintLast Go.Proofs.YtelglbebffdaaaaW.PrintMore Go.Proofs.Ytelglbebffdaaaa.Q
set_option linter.unusedVariables false
set_option linter.unusedSimpArgs false
theorem ev_uniq {α : Type} {g : Nat → Option α} {a b : α} (h : Ev g a) (k : Ev g b) : a = b := by
 obtain ⟨K, hK⟩ := h
 obtain ⟨J, hJ⟩ := k
 have e1 := hK (max K J) (Nat.le_max_left _ _)
 have e2 := hJ (max K J) (Nat.le_max_right _ _)
 rw [e1] at e2
 exact Option.some.inj e2
theorem treeOk_told {k : Nat} {l : List NodeI} {b : Bool} (h : impl_TreeOk.f k l = some b) : b = trB l := ev_uniq (Ev.of (impl_TreeOk.mono l) h) (implTreeOk_ev l)
def impl_PostOrder.f (k : Nat) (l0 : List NodeI) : Option (List Int) := (impl_TreeOk.f k l0).bind fun t => if t = true then some (pst l0) else some []
theorem impl_PostOrder.mono : ∀ l0 k, LeO (impl_PostOrder.f k l0) (impl_PostOrder.f (k + 1) l0) := by
 intro l0 k
 unfold impl_PostOrder.f
 exact LeO.bind (impl_TreeOk.mono _ _) (fun _ => LeO.refl _)
theorem impl_PostOrder.ev (l : List NodeI) : Ev (fun k => impl_PostOrder.f k l) (if trB l = true then pst l else []) := by
 unfold impl_PostOrder.f
 refine Ev.bind (implTreeOk_ev l) ?_
 by_cases h : trB l = true
 ·simp only [if_pos h]; exact Ev.now _
 ·simp only [if_neg h]; exact Ev.now _
def cfN (l : List NodeI) (i j : Nat) : Int := if rk l j < rk l i then 1 else if rk l i < rk l j then -1 else 0
theorem cfN_down {l : List NodeI} (t : Tr l) {i j : Nat} (hi : i < l.length) (h1 : i < j) (h2 : j < endN l i) : cfN l i j = 1 := by
 have := rk_under t hi h1 h2
 unfold cfN; rw [if_pos this]
theorem cfN_ahead {l : List NodeI} (t : Tr l) {i j : Nat} (hi : i < l.length) (hj : j < l.length) (h2 : endN l i ≤ j) : cfN l i j = -1 := by
 have := rk_ahead t hj hi h2
 unfold cfN; rw [if_neg (by omega), if_pos this]
theorem cfN_up {l : List NodeI} (t : Tr l) {i j : Nat} (hj : j < l.length) (h1 : j < i) (h2 : i < endN l j) : cfN l i j = -1 := by
 have := rk_under t hj h1 h2
 unfold cfN; rw [if_neg (by omega), if_pos this]
theorem cfN_behind {l : List NodeI} (t : Tr l) {i j : Nat} (hi : i < l.length) (hj : j < l.length) (h2 : endN l j ≤ i) : cfN l i j = 1 := by
 have := rk_ahead t hi hj h2
 unfold cfN; rw [if_pos this]
theorem cfN_same (l : List NodeI) (i : Nat) : cfN l i i = 0 := by
 unfold cfN; rw [if_neg (Nat.lt_irrefl _), if_neg (Nat.lt_irrefl _)]
set_option maxHeartbeats 4000000 in
set_option maxRecDepth 100000 in
theorem closure_calls {l : List NodeI} (t : Tr l) {A0 : Option Addr} {c0 b : Nat} {i j : Nat} (hi : i < l.length) (hj : j < l.length) (W : World) (hcell : W.cell? ⟨b, 0, none⟩ = some (.slice A0 l.length c0)) (hC : Kd.C k53 W A0 l.length l) (hc : l.length ≤ c0) :
  Calls Try.prog 103 #[.int .i64 i, .int .i64 j, .pointer (some ⟨b, 0, none⟩)] W fun e w' => e = .returned (.int .i64 (cfN l i j)) ∧ ∃ q, w' = W.drewN q := by
 have h24 := t.len24
 have HE : Aside0 (∀ x : Nat, x < l.length → Calls Try.prog 104 #[.slice A0 l.length c0, .int .i64 x] W fun e w' => e = .returned (.int .i64 (endN l x : Nat)) ∧ Drawn0 W w') := ⟨fun x hx => by
  obtain ⟨k, hk⟩ := Ev.rounds (implEndOf_ev l (by omega) x hx)
  exact impl_endOf.calls k A0 c0 l x _ W hC hc hk⟩
 clear hC
 rcases Nat.lt_trichotomy i j with c | c | c
 ·have z1 : (i : Int) < (j : Int) := by omega
  have z2 : ¬ (j : Int) < (i : Int) := by omega
  by_cases d : j < endN l i
  ·have z3 : (j : Int) < (endN l i : Int) := by omega
   have HR := Aside0.mk (cfN_down t hi c d)
   rw [HR.out]
   go_enter Try.func103, Try.ntmps103
   go_wp2_with (first | (go_at_call 104; refine (HE.out _ hi).mono ?_; rintro e w4 ⟨rfl, hd⟩; obtain ⟨⟨nd, rfl⟩⟩ := hd))
   go_ret
   exact ⟨rfl, _, rfl⟩
  ·have z3 : ¬ (j : Int) < (endN l i : Int) := by omega
   have HR := Aside0.mk (cfN_ahead t hi hj (by omega))
   rw [HR.out]
   have z4 : ¬ (i : Int) = (j : Int) := by omega
   go_enter Try.func103, Try.ntmps103
   go_wp2_with (first | (go_at_call 104; refine (HE.out _ hi).mono ?_; rintro e w4 ⟨rfl, hd⟩; obtain ⟨⟨nd, rfl⟩⟩ := hd))
   go_ret
   exact ⟨rfl, _, rfl⟩
 ·subst c
  rw [cfN_same]
  go_enter Try.func103, Try.ntmps103
  go_wp2
  go_ret
  exact ⟨rfl, 0, rfl⟩
 ·have z1 : ¬ (i : Int) < (j : Int) := by omega
  have z2 : (j : Int) < (i : Int) := by omega
  by_cases d : i < endN l j
  ·have z3 : ¬ (endN l j : Int) ≤ (i : Int) := by omega
   have z4 : ¬ (i : Int) = (j : Int) := by omega
   have HR := Aside0.mk (cfN_up t hj c d)
   rw [HR.out]
   go_enter Try.func103, Try.ntmps103
   go_wp2_with (first | (go_at_call 104; refine (HE.out _ hj).mono ?_; rintro e w4 ⟨rfl, hd⟩; obtain ⟨⟨nd, rfl⟩⟩ := hd))
   go_ret
   exact ⟨rfl, _, rfl⟩
  ·have z3 : (endN l j : Int) ≤ (i : Int) := by omega
   have HR := Aside0.mk (cfN_behind t hi hj (by omega))
   rw [HR.out]
   go_enter Try.func103, Try.ntmps103
   go_wp2_with (first | (go_at_call 104; refine (HE.out _ hj).mono ?_; rintro e w4 ⟨rfl, hd⟩; obtain ⟨⟨nd, rfl⟩⟩ := hd))
   go_ret
   exact ⟨rfl, _, rfl⟩
theorem sortWorld_block {α : Type} [Inhabited α] (enc : α → Value) (w : World) (blk m : Nat) (d : Array α) (os : Array Obj) {i : Nat} (hi : i < w.heap.size) (hne : i ≠ blk) : (sortWorld enc w blk 0 m d os).heap[i]? = w.heap[i]? := by
 unfold sortWorld
 rw [Sort.heap_grow_old _ _ (by simp; exact hi)]
 simp only [Sort.putRow, Sort.mapBlock, Sort.ahead, Array.getElem?_modify]
 rw [if_neg (fun h => hne h.symm)]
theorem sortWorld_row {α : Type} [Inhabited α] (enc : α → Value) (w : World) (blk m : Nat) (d : Array α) (os : Array Obj) {cur : Array Value} {t : TypeId} (hb : w.heap[blk]? = some (.cells cur t (0, 0))) : (sortWorld enc w blk 0 m d os).heap[blk]? = some (.cells (Sort.putCells enc 0 d cur) t (0, 0)) := by
 unfold sortWorld
 rw [Sort.heap_grow_old _ _ (by simp; exact (Array.getElem?_eq_some_iff.1 hb).1)]
 simp only [Sort.putRow, Sort.mapBlock, Sort.ahead, Array.getElem?_modify, if_true, hb, Option.map_some, Sort.onCells]
theorem sortWorld_size {α : Type} [Inhabited α] (enc : α → Value) (w : World) (blk m : Nat) (d : Array α) (os : Array Obj) : w.heap.size ≤ (sortWorld enc w blk 0 m d os).heap.size := by
 unfold sortWorld; simp
theorem sortWorld_below {α : Type} [Inhabited α] {w0 w : World} (h : Below w0.heap.size w0 w) (enc : α → Value) (blk m : Nat) (hblk : w0.heap.size ≤ blk) (d : Array α) (os : Array Obj) : Below w0.heap.size w0 (sortWorld enc w blk 0 m d os) :=
 ⟨h.os, h.tape, h.output, Nat.le_trans h.size (sortWorld_size _ _ _ _ _ _), fun i hi => (sortWorld_block enc w blk m d os (Nat.lt_of_lt_of_le hi h.size) (by omega)).trans (h.block i hi)⟩
theorem putCells_take {α : Type} [Inhabited α] (enc : α → Value) (d : Array α) (c : Array Value) (h : d.size ≤ c.size) : (Sort.putCells enc 0 d c).toList.take d.size = d.toList.map enc := by
 apply List.ext_getElem?
 intro k
 rw [List.getElem?_take]
 by_cases hk : k < d.size
 ·rw [if_pos hk, Array.getElem?_toList]
  simp only [Sort.putCells, Array.getElem?_mapIdx, List.getElem?_map, Array.getElem?_toList]
  rw [Array.getElem?_eq_getElem (show k < c.size by omega), Array.getElem?_eq_getElem hk]
  simp only [Option.map_some]
  rw [if_pos ⟨Nat.zero_le _, by omega⟩, Nat.sub_zero, getElem!_pos d k hk]
 ·rw [if_neg hk, List.getElem?_eq_none (by simp; omega)]
theorem putCells_size {α : Type} [Inhabited α] (enc : α → Value) (d : Array α) (c : Array Value) : (Sort.putCells enc 0 d c).size = c.size := by simp [Sort.putCells]
theorem sorted_eq {α : Type} (f : α → Nat) : ∀ {m n : List α}, (m.Pairwise fun x y => f x < f y) → (n.Pairwise fun x y => f x < f y) → (∀ x, x ∈ m ↔ x ∈ n) → m = n := by
 intro m
 induction m with
 | nil =>
  intro n _ _ h
  cases n with
  | nil => rfl
  | cons y n => exact absurd ((h y).2 List.mem_cons_self) List.not_mem_nil
 | cons x m ih =>
  intro n hm hn h
  cases n with
  | nil => exact absurd ((h x).1 List.mem_cons_self) List.not_mem_nil
  | cons y n =>
   obtain ⟨m1, m2⟩ := List.pairwise_cons.1 hm
   obtain ⟨n1, n2⟩ := List.pairwise_cons.1 hn
   have e : x = y := by
    rcases List.mem_cons.1 ((h x).1 List.mem_cons_self) with c | c
    ·exact c
    ·rcases List.mem_cons.1 ((h y).2 List.mem_cons_self) with c2 | c2
     ·exact c2.symm
     ·have := n1 x c; have := m1 y c2; omega
   subst e
   congr 1
   refine ih m2 n2 fun z => ?_
   constructor
   ·intro hz
    rcases List.mem_cons.1 ((h z).1 (List.mem_cons_of_mem _ hz)) with c | c
    ·subst c; have := m1 z hz; omega
    ·exact c
   ·intro hz
    rcases List.mem_cons.1 ((h z).2 (List.mem_cons_of_mem _ hz)) with c | c
    ·subst c; have := n1 z hz; omega
    ·exact c
def encF {n : Nat} (x : Fin n) : Value := .int .i64 (x.val : Int)
def cfF (l : List NodeI) (n : Nat) (x y : Fin n) : Int := cfN l x.val y.val
theorem ltF {l : List NodeI} (t : Tr l) (x y : Fin l.length) : ltOf (cfF l l.length) x y = decide (rk l x.val < rk l y.val) := by
 unfold ltOf cfF cfN
 by_cases h1 : rk l y.val < rk l x.val
 ·rw [if_pos h1, decide_eq_false (show ¬ rk l x.val < rk l y.val by omega)]; rfl
 ·rw [if_neg h1]
  by_cases h2 : rk l x.val < rk l y.val
  ·rw [if_pos h2, decide_eq_true h2]; rfl
  ·rw [if_neg h2, decide_eq_false h2]; rfl
theorem swoF {l : List NodeI} (t : Tr l) : Sort.SWO (ltOf (cfF l l.length)) where
 irrefl x := by rw [ltF t]; simp
 trans x y z h1 h2 := by rw [ltF t] at *; simp at *; omega
 ntrans x y z h1 h2 := by rw [ltF t] at *; simp at *; omega
theorem totF {l : List NodeI} (t : Tr l) (x y : Fin l.length) (h1 : ltOf (cfF l l.length) x y = false) (h2 : ltOf (cfF l l.length) y x = false) : x = y := by
 rw [ltF t] at h1 h2
 simp at h1 h2
 exact Fin.ext (rk_inj t x.isLt y.isLt (by omega))
theorem sorted_pst {l : List NodeI} (t : Tr l) : ((List.finRange l.length).mergeSort fun x y => !(ltOf (cfF l l.length)) y x).map encF = (pst l).map (Value.int .i64) := by
 have e : (fun x y : Fin l.length => !(ltOf (cfF l l.length)) y x) = fun x y => decide (rk l x.val ≤ rk l y.val) := by
  funext x y
  rw [ltF t]
  by_cases h : rk l y.val < rk l x.val
  ·rw [decide_eq_true h, decide_eq_false (by omega)]; rfl
  ·rw [decide_eq_false h, decide_eq_true (by omega)]; rfl
 rw [e]
 have hp := List.mergeSort_perm (List.finRange l.length) (fun x y : Fin l.length => decide (rk l x.val ≤ rk l y.val))
 have hs := List.pairwise_mergeSort (le := fun x y : Fin l.length => decide (rk l x.val ≤ rk l y.val)) (fun a b c h1 h2 => by simp at *; omega) (fun a b => by simp; omega) (List.finRange l.length)
 generalize (List.finRange l.length).mergeSort (fun x y : Fin l.length => decide (rk l x.val ≤ rk l y.val)) = L at hp hs
 have hnd : L.Nodup := hp.nodup_iff.2 (List.nodup_finRange _)
 have h1 : L.Pairwise fun x y => rk l x.val < rk l y.val := by
  refine (hs.and hnd).imp fun {x y} h => ?_
  have h1 : rk l x.val ≤ rk l y.val := by simpa using h.1
  have h2 : rk l x.val ≠ rk l y.val := fun z => h.2 (Fin.ext (rk_inj t x.isLt y.isLt z))
  omega
 have h2 : (L.map Fin.val) = (List.range l.length).map (nodeN l) := by
  refine sorted_eq (rk l) (List.pairwise_map.2 h1) (List.pairwise_map.2 ?_) (fun x => ?_)
  ·refine List.pairwise_lt_range.imp_of_mem fun {a b} ha hb h => ?_
   rw [rk_nodeN t (List.mem_range.1 ha), rk_nodeN t (List.mem_range.1 hb)]; exact h
  ·rw [List.mem_map, List.mem_map]
   constructor
   ·rintro ⟨y, _, rfl⟩
    exact ⟨rk l y.val, List.mem_range.2 (rk_lt t y.isLt), nodeN_rk t y.isLt⟩
   ·rintro ⟨r, hr, rfl⟩
    exact ⟨⟨nodeN l r, nodeN_lt t (List.mem_range.1 hr)⟩, hp.mem_iff.2 (List.mem_finRange _), rfl⟩
 rw [pst_eq_map t, List.map_map]
 have h3 := congrArg (List.map fun x : Nat => Value.int .i64 (x : Int)) h2
 rw [List.map_map, List.map_map] at h3
 exact h3
theorem holds_range {n : Nat} [Inhabited (Fin n)] {W : World} {g cap : Nat} {cur : Array Value} (hb : W.heap[g]? = some (.cells cur 3 (0, 0))) (hn : n ≤ cap) (hc : cur.toList.length = cap * 1) (ht : cur.toList.take (n * 1) = encs (Value.int .i64) ((List.range n).map fun j : Nat => (j : Int))) :
  Sort.Holds encF W g 0 (List.finRange n).toArray := by
 intro j hj
 have hj' : j < n := by simpa using hj
 refine ⟨(blk_cell hb _).trans ?_, blk_frozen hb _⟩
 have e := congrArg (fun l => l[j]?) ht
 simp only [Nat.mul_one] at e
 rw [List.getElem?_take_of_lt hj'] at e
 rw [Nat.zero_add, ← Array.getElem?_toList, e]
 simp only [encs, List.getElem?_map, List.getElem?_range hj', Option.map_some]
 rw [getElem!_pos _ j hj]
 simp [encF]
theorem own_sorted {l : List NodeI} (t : Tr l) [Inhabited (Fin l.length)] {W : World} {base g cap m : Nat} {os : Array Obj} {cur : Array Value} (hb : W.heap[g]? = some (.cells cur 3 (0, 0))) (hg : base ≤ g) (hn : l.length ≤ cap) (hm : cap ≤ maxLen) (hc : cur.toList.length = cap * 1) :
  Kd.R (Kd.int .i64) 3 (sortWorld encF W g 0 m ((List.finRange l.length).mergeSort fun x y => !(ltOf (cfF l l.length)) y x).toArray os) base (fun _ => True) (.slice (some ⟨g, 0, none⟩) l.length cap) (pst l) := by
 have hl : ((List.finRange l.length).mergeSort fun x y => !(ltOf (cfF l l.length)) y x).length = l.length := by simp
 have ho : World.ownsRow (sortWorld encF W g 0 m ((List.finRange l.length).mergeSort fun x y => !(ltOf (cfF l l.length)) y x).toArray os) base 3 1 (.slice (some ⟨g, 0, none⟩) l.length cap) (pst l).length (encs (Value.int .i64) (pst l)) := by
  rw [pst_len t]
  refine ⟨by simp [encs, pst_len t], .inr ⟨g, cap, _, rfl, hg, sortWorld_row encF W g m _ os hb, hn, hm, ?_, ?_⟩⟩
  ·exact Array.length_toList.trans ((putCells_size _ _ _).trans (Array.length_toList.symm.trans hc))
  ·have h := putCells_take encF ((List.finRange l.length).mergeSort fun x y => !(ltOf (cfF l l.length)) y x).toArray cur (by rw [List.size_toArray, hl, ← Array.length_toList, hc]; omega)
   rw [List.size_toArray, hl] at h
   rw [Nat.mul_one, h]
   exact sorted_pst t
 have hr := Kd.R_of_own (h1 := fun _ => rfl) ho (fun _ _ => (trivial : (fun _ : Nat => True) _))
 exact hr
theorem range_snoc (n : Nat) : ((List.range (n + 1)).map fun j : Nat => (j : Int)) = ((List.range n).map fun j : Nat => (j : Int)) ++ [(n : Int)] := by rw [List.range_succ, List.map_append]; rfl
theorem box1 {W w1 : World} {c0 : Value} {ty : TypeId} (hb : Below (W.alloc (Obj.cells #[c0] ty)).heap.size (W.alloc (Obj.cells #[c0] ty)) w1) : w1.heap[W.heap.size]? = some (.cells #[c0] ty (0, 0)) :=
 (hb.block W.heap.size (by simp)).trans (heap_alloc_new W _)
set_option maxHeartbeats 4000000 in
set_option maxRecDepth 100000 in
theorem impl_PostOrder.calls (k : Nat) (A0 : Option Addr) (c0 : Nat) (l0 : List NodeI) (r : List Int) (w : World) (hr0 : Kd.C k53 w A0 l0.length l0) (hc0 : l0.length ≤ c0) (h : impl_PostOrder.f k l0 = some r) :
  Calls Try.prog 83 #[.slice A0 l0.length c0] w fun e w' => ∃ v0_ : Value, e = .returned (v0_) ∧ Kd.R (Kd.int .i64) 3 w' w.heap.size (fun _ => True) v0_ r ∧ Below w.heap.size w w' := by
 have hm := hr0.2.1
 have HTr : Aside0 (∀ (b : Bool) W, impl_TreeOk.f k l0 = some b → Below w.heap.size w W → Calls Try.prog 82 #[.slice A0 l0.length c0] W fun e w' => e = .returned (.bool b) ∧ Below W.heap.size W w') :=
  ⟨fun b W ht hb => impl_TreeOk.calls k A0 c0 l0 b W (Kd.C_below hr0 hb) hc0 ht⟩
 have HR0 := Aside0.mk hr0
 have HC0 := Aside0.mk hc0
 clear hr0 hc0
 unfold impl_PostOrder.f at h
 obtain ⟨b, hb, h⟩ := Option.bind_eq_some_iff.mp h
 have HT := Aside0.mk hb
 have HE0 := Aside0.mk (treeOk_told hb)
 clear hb
 cases b with
 | false =>
  rw [if_neg (by decide)] at h
  obtain rfl := Option.some.inj h
  clear h
  go_enter Try.func83, Try.ntmps83
  go_wp2_with (first | ((with_reducible refine gate_dst (N := 5) rfl ?_); refine Kd.R_lit (Kd.int .i64) _ 3 ?hg (N := 5) ?hd (xs := ([] : List Int)) (inner := []) (ok := fun _ => True) (okp := fun _ => True) ?hr ?hp (fun _ hk => hk) trivial (Below.refl _ _) (Nat.le_refl _) (by simp) ?_; (case hd => rfl); (case hg => rfl); (case hr => first | (go_simp; done) | (go_simp; rfl)); (case hp => exact (Reps.none _ _)); intro v7 w5 ho4 hb hg_ hnew_; clear hg_ hnew_; have HBX := Aside0.mk (box1 hb); have HB := Aside0.mk (((Below.refl w.heap.size w).alloc (Nat.le_refl _) _).trans (hb.mono (by simp))); have HO := Aside0.mk (Kd.R_lower ho4 ((Below.refl w.heap.size w).alloc (Nat.le_refl _) _).size); have hz := (blk_cell HBX.out 0).trans (show _ = some (.slice A0 l0.length c0) from rfl); clear hb ho4) | (go_at_call 82; refine (HTr.out false _ HT.out HB.out).mono ?_; rintro e w6 ⟨rfl, hb⟩; have HO2 := Aside0.mk (Kd.R_below HO.out hb); have HB2 := Aside0.mk (HB.out.trans (hb.mono HB.out.size)); clear hb))
  obtain ⟨Ao, co, eo⟩ := Kd.R_slice HO2.out
  subst eo
  go_wp2
  go_ret
  exact ⟨_, rfl, HO2.out, HB2.out⟩
 | true =>
  rw [if_pos rfl] at h
  obtain rfl := Option.some.inj h
  clear h
  have t : Tr l0 := (trB_iff l0).1 HE0.out.symm
  have hlen1 := t.len1
  have hlen := t.len24
  have TT := Aside0.mk t
  clear t HE0
  go_enter Try.func83, Try.ntmps83
  go_wp2_with (first | ((with_reducible refine gate_dst (N := 5) rfl ?_); refine Kd.R_lit (Kd.int .i64) _ 3 ?hg (N := 5) ?hd (xs := ([] : List Int)) (inner := []) (ok := fun _ => True) (okp := fun _ => True) ?hr ?hp (fun _ hk => hk) trivial (Below.refl _ _) (Nat.le_refl _) (by simp) ?_; (case hd => rfl); (case hg => rfl); (case hr => first | (go_simp; done) | (go_simp; rfl)); (case hp => exact (Reps.none _ _)); intro v7 w5 ho4 hb hg_ hnew_; clear hg_ hnew_; have HBX := Aside0.mk (box1 hb); have HB := Aside0.mk (((Below.refl w.heap.size w).alloc (Nat.le_refl _) _).trans (hb.mono (by simp))); have HO := Aside0.mk (Kd.R_lower ho4 (show w.heap.size + 1 ≤ _ by simp)); have hz := (blk_cell HBX.out 0).trans (show _ = some (.slice A0 l0.length c0) from rfl); clear hb ho4) | (go_at_call 82; refine (HTr.out true _ HT.out HB.out).mono ?_; rintro e w6 ⟨rfl, hb⟩; have HO2 := Aside0.mk (Kd.R_below HO.out hb); have HB2 := Aside0.mk (HB.out.trans (hb.mono HB.out.size)); have HBX2 := Aside0.mk ((hb.block w.heap.size (blk_lt HBX.out)).trans HBX.out); have hz2 := (blk_cell HBX2.out 0).trans (show _ = some (.slice A0 l0.length c0) from rfl); clear hb))
  have hsz6 : w.heap.size + 1 ≤ w6.heap.size := Nat.succ_le_of_lt (blk_lt HBX2.out)
  have HS6 := Aside0.mk hsz6
  clear hsz6
  go_loopw [3, 12] (fun v x wr => ∃ n : Nat, n ≤ l0.length ∧ x = .int .i64 n ∧ Aside0 (Kd.R (Kd.int .i64) 3 wr (w.heap.size + 1) (fun _ => True) v ((List.range n).map fun j : Nat => (j : Int))) ∧ Aside0 (Below (w.heap.size + 1) w6 wr)) (fun _ x _ => l0.length - (intOf x).toNat)
  case atStart => exact ⟨0, Nat.zero_le _, rfl, HO2, ⟨Below.refl _ _⟩⟩
  case round =>
   obtain ⟨n, hn, rfl, HOr, HBr⟩ := hrel
   have hBX := (HBr.out.block w.heap.size (Nat.lt_succ_self _)).trans HBX2.out
   have HBX3 := Aside0.mk hBX
   have HB3 := Aside0.mk (HB2.out.trans (HBr.out.mono (Nat.le_succ _)))
   have hzr := (blk_cell HBX3.out 0).trans (show _ = some (.slice A0 l0.length c0) from rfl)
   clear hBX
   by_cases hlt : n < l0.length
   ·have LM := Aside0.mk (show ((List.range n).map fun j : Nat => (j : Int)).length ≤ 24 by simp; omega)
    go_wp2_with (first | ((with_reducible refine gate_builtin (b := .append) (xs := #[.tmp 15, .tmp 17]) rfl ?_); at_builtin; refine Kd.R_append (Kd.int .i64) (w0 := w6) (w.heap.size + 1) rfl (.tmp 15) (.tmp 17) 23 3 (.int .i64 0) 8 rfl Try.underlying23 info3 rfl (by decide) (by omega) _ ((List.range n).map fun j : Nat => (j : Int)) (n : Int) [.int .i64 (n : Int)] (fun _ => True) (fun _ => False) rfl rfl ?aP (fun _ hk => hk.elim) ?aF ?aO ?aB ?aS ?aL ?_; (case aP => exact rfl); (case aF => exact fun _ _ => trivial); (case aO => exact HOr.out); (case aB => exact HBr.out); (case aS => exact Nat.le_trans HS6.out HBr.out.size); (case aL => have := LM.out; omega); intro v12 w12 ho hb hg hat; have HO5 := Aside0.mk ho; have HB5 := Aside0.mk hb; clear ho hb hg hat))
    go_roundw
    case rel => exact ⟨n + 1, by omega, by go_num, ⟨by rw [range_snoc]; exact HO5.out⟩, HB5⟩
    case measure => simp [intOf]; omega
   ·obtain rfl : n = l0.length := by omega
    haveI : Inhabited (Fin l0.length) := ⟨⟨0, by omega⟩⟩
    have hown := Kd.own_of_R HOr.out
    rcases hown.2 with ⟨_, h0⟩ | ⟨g, cap, cur, he, hb1, hh, hcn, hcm, hcl, hct⟩
    ·rw [List.length_map, List.length_range] at h0
     omega
    have hln : ((List.range l0.length).map fun j : Nat => (j : Int)).length = l0.length := by simp
    rw [hln] at he hcn hct
    subst he
    have hgs : w.heap.size ≤ g := by omega
    have hgl : g < wr.heap.size := (Array.getElem?_eq_some_iff.1 hh).1
    have eg : ∀ args w, (callFunc 103 args).run Try.prog w = .ok (.enter 103 args) w := enters_of Try.func103 (by kernel_rfl) rfl
    have hcmp : CmpReads Try.prog 103 #[.pointer (some ⟨w.heap.size, 0, none⟩)] encF (cfF l0 l0.length) g 0 (List.finRange l0.length).toArray.size wr := fun m os dk hs x y =>
     closure_calls TT.out x.isLt y.isLt _ ((blk_cell ((sortWorld_block encF wr g m dk os (by omega) (by omega)).trans HBX3.out) 0).trans rfl) (Kd.C_below HR0.out (sortWorld_below HB3.out encF g m hgs dk os)) HC0.out
    have hS := Any.slices_SortFunc_total Try.sortL encF (fun _ => rfl) (cfF l0 l0.length) (swoF TT.out) 103 #[.pointer (some ⟨w.heap.size, 0, none⟩)] g 0 cap (List.finRange l0.length).toArray wr eg hcmp.lays (holds_range hh hcn hcl hct) hgl (by simp; omega) (totF TT.out)
    have hsz : (List.finRange l0.length).toArray.size = l0.length := by simp
    rw [hsz] at hS
    change Calls Try.prog 102 _ _ _ at hS
    have HS := Aside0.mk hS
    have HH := Aside0.mk (fun m os => own_sorted (m := m) (os := os) TT.out hh hb1 hcn hcm hcl)
    have HBs := Aside0.mk (fun m os => sortWorld_below HB3.out encF g m hgs ((List.finRange l0.length).mergeSort fun x y => !(ltOf (cfF l0 l0.length)) y x).toArray os)
    clear hS eg hcmp hown hh hct hcl hsz hln
    go_wp2_with (first | (go_at_call 102; refine HS.out.mono ?_; rintro e w9 ⟨rfl, m, os, rfl⟩))
    go_ret
    exact ⟨_, rfl, Kd.R_lower (HH.out m os) (Nat.le_succ _), HBs.out m os⟩
end Go.Proofs.Ytelglbebffdaaaa.X
namespace Go.Proofs.Ytelglbebffdaaaa.X
open Go.RowKit Go.Proofs.YtelglbebffdaaaaW.PrintWords Go.Proofs.YtelglbebffdaaaaW.PrintLast Go.Proofs.YtelglbebffdaaaaW.PrintMore
attribute [local go_sem] max2_int min2_int max_two min_two max_three min_three max_four min_four   -- for this text's walks alone
set_option linter.unusedVariables false
set_option linter.unusedSimpArgs false
def impl_RankOf.l0 : Nat → List Int → List Int → Int → Int → Option (List Int)
 | 0, _, _, _, _ => none
 | k + 1, x4, x12, x13, x14 => if x14 < x13 then (if 0 ≤ x14 then (if x14 < (x12.length : Int) then (if 0 ≤ (rd x12 x14) then (if (rd x12 x14) < (x4.length : Int) then (impl_RankOf.l0 k (x4.set ((rd x12 x14) : Int).toNat x14) x12 x13 (wrap64 (x14 + 1))) else (none)) else (none)) else (none)) else (none)) else (some x4)
def impl_RankOf.f (k : Nat) (l0 : List (S53)) : Option (List Int) := (impl_PostOrder.f k l0).bind fun t278 => (if 0 ≤ (t278.length : Int) then (if ((t278.length : Int) : Int).toNat ≤ 35184372088832 then (impl_RankOf.l0 k (List.replicate ((t278.length : Int) : Int).toNat 0) t278 (t278.length : Int) 0) else (none)) else (none))
theorem impl_RankOf.mono_l : ∀ k, (∀ y0 y1 y2 y3, LeO (impl_RankOf.l0 k y0 y1 y2 y3) (impl_RankOf.l0 (k + 1) y0 y1 y2 y3))
 | 0 => fun _ _ _ _ r h => by simp [impl_RankOf.l0] at h
 | k + 1 => by
  have ih0 := impl_RankOf.mono_l k
  ·intro y0 y1 y2 y3
   unfold impl_RankOf.l0
   repeat' first
   | (with_reducible exact ih0 _ _ _ _)
   | (with_reducible exact impl_PostOrder.mono _ _)
   | (with_reducible exact LeO.refl _)
   | (with_reducible exact LeO.none _)
   | (with_reducible refine LeO.ite ?_ ?_)
   | (with_reducible refine LeO.bind ?_ (fun _ => ?_))
   | exact ih0 _ _ _ _
   | exact impl_PostOrder.mono _ _
   | exact LeO.none _
   | refine LeO.ite ?_ ?_
   | refine LeO.bind ?_ (fun _ => ?_)
theorem impl_RankOf.mono : ∀ a0 k, LeO (impl_RankOf.f k a0) (impl_RankOf.f (k + 1) a0) := by
 intro a0 k
 have ih0 := impl_RankOf.mono_l k
 unfold impl_RankOf.f
 repeat' first
   | (with_reducible exact ih0 _ _ _ _)
   | (with_reducible exact impl_PostOrder.mono _ _)
   | (with_reducible exact LeO.refl _)
   | (with_reducible exact LeO.none _)
   | (with_reducible refine LeO.ite ?_ ?_)
   | (with_reducible refine LeO.bind ?_ (fun _ => ?_))
   | exact ih0 _ _ _ _
   | exact impl_PostOrder.mono _ _
   | exact LeO.none _
   | refine LeO.ite ?_ ?_
   | refine LeO.bind ?_ (fun _ => ?_)
set_option maxHeartbeats 8000000 in
set_option maxRecDepth 100000 in
theorem impl_RankOf.calls (k : Nat) (A0 : Option Addr) (c0 : Nat) (l0 : List (S53)) (r : List Int) (w : World) (hr0 : Kd.C k53 w A0 l0.length l0) (hc0 : l0.length ≤ c0) (h : impl_RankOf.f k l0 = some r) :
  Calls Try.prog 105 #[.slice A0 l0.length c0] w fun e w' => ∃ v0_ : Value, e = .returned (v0_) ∧ Kd.R (Kd.int .i64) 3 w' w.heap.size (fun _ => True) v0_ r ∧ Below w.heap.size w w' := by
 have HR0 := Aside0.mk hr0
 have HC0 := Aside0.mk hc0
 clear hr0 hc0
 have HB := Aside0.mk (Below.refl w.heap.size w)
 have H : ((impl_PostOrder.f k l0).bind fun t278 => (if 0 ≤ (t278.length : Int) then (if ((t278.length : Int) : Int).toNat ≤ 35184372088832 then (impl_RankOf.l0 k (List.replicate ((t278.length : Int) : Int).toNat 0) t278 (t278.length : Int) 0) else (none)) else (none))) = some r := h
 clear h
 replace H := Option.bind_eq_some_iff.mp H
 obtain ⟨t278, A20, H⟩ := H
 try dsimp only at H
 have A2 := Aside0.mk A20
 clear A20
 by_cases c3 : 0 ≤ (t278.length : Int)
 ·rw [if_pos c3] at H
  have c3b0 := eq_true c3
  have c3b1 : decide (0 ≤ (t278.length : Int)) = true := decide_eq_true c3
  clear c3
  by_cases c4 : ((t278.length : Int) : Int).toNat ≤ 35184372088832
  ·rw [if_pos c4] at H
   have c4b0 := eq_true c4
   have c4b1 : decide (((t278.length : Int) : Int).toNat ≤ 35184372088832) = true := decide_eq_true c4
   clear c4
   obtain ⟨y281, hy281⟩ : ∃ y_ : List Int, y_ = (List.replicate ((t278.length : Int) : Int).toNat 0) := ⟨_, rfl⟩
   replace H : (impl_RankOf.l0 k y281 t278 (t278.length : Int) 0) = some r := by first | (rw [hy281]; with_reducible exact H) | (have H2_ := (Option.bind_some _ _).symm.trans H; rw [hy281]; with_reducible exact H2_) | (have H2_ := (Option.bind_some _ _).symm.trans H; with_reducible exact H2_) | with_reducible exact H | (rw [hy281]; exact H) | exact H
   have Ny281 := Aside0.mk hy281
   clear hy281
   have H' := Aside0.mk H
   clear H
   go_enter Try.func105, Try.ntmps105
   go_wp2_with (first | ((with_reducible refine gate_callee (f := 83) rfl ?_); refine gL_ (some 8) Try.func83 #[.slice A0 l0.length c0] ?_; (with_reducible refine (impl_PostOrder.calls k _ _ l0 t278 _ (cc_ HR0.out) HC0.out A2.out).mono ?_); rintro e w5 ⟨v279, rfl, ho0, hb⟩; refine ⟨_, rfl, ?_⟩; have HO280 := Aside0.mk (Kd.R_lower ho0 (bs_ HB)); replace HB := tB_ HB hb; (try clear hb); (try clear ho0); obtain ⟨Ao6, co6, eo6⟩ := Kd.R_slice HO280.out; subst eo6) | ((with_reducible refine gate_dst (N := 11) rfl ?_); refine Kd.R_make (Kd.int .i64) _ 3 rfl (N := 11) rfl 23 _ _ rfl (t278.length : Int) rfl rfl Try.underlying23 (.int .i64 0) 8 info3 rfl (by decide) (by omega) 0 (ok := fun _ => True) (okp := fun _ => True) rfl (fun _ hk => hk) trivial (od_) (Nat.le_trans (Nat.mul_le_mul_right _ (od_ : (t278.length : Int).toNat ≤ 35184372088832)) (by omega)) (Below.refl _ _) (Nat.le_refl _) ?_; intro v282 w7 ho8 hb hg_ hnew_; clear hg_ hnew_; (first | rw [← Ny281.out] at ho8 | (simp only [Int.reduceToNat] at ho8; rw [← Ny281.out] at ho8)); have HO283 := Aside0.mk (Kd.R_lower (Kd.R_new' ho8 (Kd.R_lt (rx_ HO280.out))) (bs_ HB)); replace HO280 := Aside0.mk (Kd.R_elder' (rx_ HO280.out) (Kd.R_base ho8) hb); replace HB := tB_ HB hb; clear hb ho8))
   go_loopg [14] k (fun kq v14 w' => ∃ (x4_1 : List Int) (x14_1 : Int), v14 = .int .i64 x14_1 ∧ Aside0 (impl_RankOf.l0 kq x4_1 t278 (t278.length : Int) x14_1 = some r) ∧ Aside0 (kq ≤ k) ∧ Aside0 (Kd.R (Kd.int .i64) 3 w' w.heap.size (fun k_ => some k_ ≠ ((.slice Ao6 t278.length co6) : Value).ownBlock) v282 x4_1) ∧ Aside0 (Kd.R (Kd.int .i64) 3 w' w.heap.size (fun k_ => some k_ ≠ (v282 : Value).ownBlock) (.slice Ao6 t278.length co6) t278) ∧ Aside0 (Below w.heap.size w w'))
   case atStart => exact ⟨(y281), (0), eb_, H', ⟨Nat.le_refl _⟩, ⟨rx_ (Kd.R_mono HO283.out (fun _ hk => hk.2))⟩, ⟨rx_ (Kd.R_mono HO280.out (fun _ hk => hk.2))⟩, bl_ HB⟩
   case round =>
    clear H'
    try clear c1
    try clear p2
    try clear c3
    try clear c3b0
    try clear c3b1
    try clear c4
    try clear c4b0
    try clear c4b1
    try clear c8
    obtain ⟨x4_1, x14_1, rfl, HA, HK1, HO_4, HO_12, HB⟩ := hrel
    cases gk with
    | zero => exact absurd HA.out (by simp [impl_RankOf.l0])
    | succ k1 =>
     have H := HA.out
     clear HA
     simp only [impl_RankOf.l0] at H
     by_cases c9 : x14_1 < (t278.length : Int)
     ·rw [if_pos c9] at H
      have c9b0 : decide (x14_1 < (t278.length : Int)) = true := decide_eq_true c9
      clear c9
      by_cases c10 : 0 ≤ x14_1
      ·rw [if_pos c10] at H
       have c10b0 : decide (0 ≤ x14_1) = true := decide_eq_true c10
       clear c10
       by_cases c11 : x14_1 < (t278.length : Int)
       ·rw [if_pos c11] at H
        have c11b0 : decide (x14_1 < (t278.length : Int)) = true := decide_eq_true c11
        clear c11
        by_cases c12 : 0 ≤ (rd t278 x14_1)
        ·rw [if_pos c12] at H
         have c12b0 : decide (0 ≤ (rd t278 x14_1)) = true := decide_eq_true c12
         clear c12
         by_cases c13 : (rd t278 x14_1) < (x4_1.length : Int)
         ·rw [if_pos c13] at H
          have c13b0 : decide ((rd t278 x14_1) < (x4_1.length : Int)) = true := decide_eq_true c13
          clear c13
          obtain ⟨y285, hy285⟩ : ∃ y_ : List Int, y_ = (x4_1.set ((rd t278 x14_1) : Int).toNat x14_1) := ⟨_, rfl⟩
          replace H : (impl_RankOf.l0 k1 y285 t278 (t278.length : Int) (wrap64 (x14_1 + 1))) = some r := by first | (rw [hy285]; with_reducible exact H) | (have H2_ := (Option.bind_some _ _).symm.trans H; rw [hy285]; with_reducible exact H2_) | (have H2_ := (Option.bind_some _ _).symm.trans H; with_reducible exact H2_) | with_reducible exact H | (rw [hy285]; exact H) | exact H
          have Ny285 := Aside0.mk hy285
          clear hy285
          have H' := Aside0.mk H
          clear H
          have p284 : 0 ≤ (x14_1 : Int) := od_
          have q284 : x14_1 < (t278.length : Int) := od_
          obtain ⟨ad284, e284, hx284_0⟩ := Kd.at_int (Kd.R_reads' HO_12.out).2.2 x14_1 p284 q284
          cases e284
          replace p284 := eq_true p284
          replace q284 := eq_true q284
          have p14 : 0 ≤ ((rd t278 x14_1) : Int) := od_
          have q14 : ((rd t278 x14_1) : Int) < ((x4_1.length : Int) : Int) := od_
          obtain ⟨go14, co14, eo14, gb14, gl14, cl14, HG14⟩ := Kd.R_form HO_4.out (by omega)
          (first | cases eo14 | (injection eo14 with ea_ en_ ec_; (first | subst ea_ | (injection ea_ with ea_; subst ea_)); subst ec_; clear en_))
          have GB14 := Aside0.mk gb14
          have GG14 := Aside0.mk HG14
          clear gb14 gl14 HG14
          obtain ⟨hx14_0, hf14_0⟩ := Kd.R_celln 0 HO_4.out ((rd t278 x14_1) : Int) p14 q14
          replace p14 := eq_true p14
          replace q14 := eq_true q14
          have HP15 := Kd.R_putg HO_4.out ((rd t278 x14_1) : Int) x14_1
          go_wp2_with (first | ((with_reducible refine gate_store (t := 3) (p := 22) rfl ?_); refine store_event (t := 3) (p := 22) (v := ?vo_w16) (w1 := (wr.setCell ⟨go14, ((rd t278 x14_1) : Int).toNat, none⟩ (.int .i64 x14_1))) ?hg ?ho ?hn ?hr ?_; (case ho => rfl); (case hg => rfl); (case hn => rfl); (case hr => first | (go_simp; done) | (go_simp; rfl)); intro w16 hw; have hg : wr.grownBy w16 (some go14) := (by rw [hw]; exact HP15.2); have hp_ : Kd.R (Kd.int .i64) 3 w16 w.heap.size (fun k_ => some k_ ≠ (.slice (some ad284) t278.length co6 : Value).ownBlock) (.slice (some ⟨go14, 0, none⟩) x4_1.length co14) y285 := (by rw [hw, Ny285.out]; exact HP15.1); clear HP15; replace HO_4 := Aside0.mk (hp_); replace HO_12 := Aside0.mk (Kd.R_after (v := (.slice (some ⟨go14, 0, none⟩) x4_1.length co14)) (v1 := (.slice (some ⟨go14, 0, none⟩) x4_1.length co14)) (ok := (fun _ => True)) (rx_ (Kd.R_mono HO_12.out (fun _ hk => ⟨trivial, hk⟩))) hg (.inl rfl)); replace HB := Aside0.mk ((by rw [hw]; exact below_set (HB.out) GB14.out : Below w.heap.size w w16)); clear hg hw hp_))
          go_roundg k1
          case measure => have := HK1.out; omega
          case rel => exact ⟨(y285), (wrap64 (x14_1 + 1)), eb_, H', ⟨by have := HK1.out; omega⟩, ⟨rx_ HO_4.out⟩, ⟨rx_ (Kd.R_mono HO_12.out (fun _ hk => hk.2))⟩, bl_ HB⟩
         ·rw [if_neg c13] at H
          exact absurd H (by simp)
        ·rw [if_neg c12] at H
         exact absurd H (by simp)
       ·rw [if_neg c11] at H
        exact absurd H (by simp)
      ·rw [if_neg c10] at H
       exact absurd H (by simp)
     ·rw [if_neg c9] at H
      have c9b0 : decide (x14_1 < (t278.length : Int)) = false := decide_eq_false c9
      clear c9
      obtain rfl := Option.some.inj H
      go_wp2
      go_ret
      exact ⟨_, ea_, rx_ (Kd.R_mono HO_4.out (fun _ hk => trivial)), (bl_ HB).out⟩
  ·rw [if_neg c4] at H
   exact absurd H (by simp)
 ·rw [if_neg c3] at H
  exact absurd H (by simp)
end Go.Proofs.Ytelglbebffdaaaa.X
namespace Go.Proofs.Ytelglbebffdaaaa.X
open Go.RowKit Go.Proofs.YtelglbebffdaaaaW.PrintWords Go.Proofs.YtelglbebffdaaaaW.PrintLast Go.Proofs.YtelglbebffdaaaaW.PrintMore
attribute [local go_sem] max2_int min2_int max_two min_two max_three min_three max_four min_four   -- for this text's walks alone
set_option linter.unusedVariables false
set_option linter.unusedSimpArgs false
def impl_LeftLeaf.l0 : Nat → List (S53) → List Int → List Int → List Int → Int → Int → Option (List Int)
 | 0, _, _, _, _, _, _ => none
 | k + 1, x0, x3, x4, x11, x12, x13 => if x13 < x12 then (if 0 ≤ x13 then (if x13 < (x11.length : Int) then (if 0 ≤ (rd x11 x13) then (if (rd x11 x13) < (x4.length : Int) then ((impl_endOf.f k x0 (rd x11 x13)).bind fun t297 => (if x3.length < 17592186044416 then (impl_LeftLeaf.l0 k x0 (x3 ++ [wrap64 ((rd x4 (rd x11 x13)) - (wrap64 ((wrap64 (t297 - (rd x11 x13))) - 1)))]) x4 x11 x12 (wrap64 (x13 + 1))) else (none))) else (none)) else (none)) else (none)) else (none)) else (some x3)
def impl_LeftLeaf.f (k : Nat) (l0 : List (S53)) : Option (List Int) := (impl_RankOf.f k l0).bind fun t289 => ((impl_PostOrder.f k l0).bind fun t292 => (impl_LeftLeaf.l0 k l0 (([] : List Int)) t289 t292 (t292.length : Int) 0))
theorem impl_LeftLeaf.mono_l : ∀ k, (∀ y0 y1 y2 y3 y4 y5, LeO (impl_LeftLeaf.l0 k y0 y1 y2 y3 y4 y5) (impl_LeftLeaf.l0 (k + 1) y0 y1 y2 y3 y4 y5))
 | 0 => fun _ _ _ _ _ _ r h => by simp [impl_LeftLeaf.l0] at h
 | k + 1 => by
  have ih0 := impl_LeftLeaf.mono_l k
  ·intro y0 y1 y2 y3 y4 y5
   unfold impl_LeftLeaf.l0
   repeat' first
   | (with_reducible exact ih0 _ _ _ _ _ _)
   | (with_reducible exact impl_PostOrder.mono _ _)
   | (with_reducible exact impl_RankOf.mono _ _)
   | (with_reducible exact impl_endOf.mono _ _ _)
   | (with_reducible exact LeO.refl _)
   | (with_reducible exact LeO.none _)
   | (with_reducible refine LeO.ite ?_ ?_)
   | (with_reducible refine LeO.bind ?_ (fun _ => ?_))
   | exact ih0 _ _ _ _ _ _
   | exact impl_PostOrder.mono _ _
   | exact impl_RankOf.mono _ _
   | exact impl_endOf.mono _ _ _
   | exact LeO.none _
   | refine LeO.ite ?_ ?_
   | refine LeO.bind ?_ (fun _ => ?_)
theorem impl_LeftLeaf.mono : ∀ a0 k, LeO (impl_LeftLeaf.f k a0) (impl_LeftLeaf.f (k + 1) a0) := by
 intro a0 k
 have ih0 := impl_LeftLeaf.mono_l k
 unfold impl_LeftLeaf.f
 repeat' first
   | (with_reducible exact ih0 _ _ _ _ _ _)
   | (with_reducible exact impl_PostOrder.mono _ _)
   | (with_reducible exact impl_RankOf.mono _ _)
   | (with_reducible exact impl_endOf.mono _ _ _)
   | (with_reducible exact LeO.refl _)
   | (with_reducible exact LeO.none _)
   | (with_reducible refine LeO.ite ?_ ?_)
   | (with_reducible refine LeO.bind ?_ (fun _ => ?_))
   | exact ih0 _ _ _ _ _ _
   | exact impl_PostOrder.mono _ _
   | exact impl_RankOf.mono _ _
   | exact impl_endOf.mono _ _ _
   | exact LeO.none _
   | refine LeO.ite ?_ ?_
   | refine LeO.bind ?_ (fun _ => ?_)
def impl_LeftLeaf.T5 : Bool × List (List Nat × List Nat) := (true, [([], []), ([], []), ([], []), ([1, 2], [1, 2]), ([3], [3]), ([], []), ([], []), ([5, 6], [5, 6]), ([], []), ([7, 8], [7, 8]), ([9], [9]), ([4, 10], [4, 10]), ([11], [11]), ([0, 12, 7], [0, 12]), ([13, 13, 0, 1, 2, 3, 4, 5, 6, 7, 8, 9, 10, 11, 12, 13], [0, 13])])
def impl_LeftLeaf.B5 : List Nat := [0, 0, 0, 6, 14, 0, 0, 96, 0, 480, 992, 2046, 4094, 8191, 16383]
theorem impl_LeftLeaf.tab5 : rtab .any (opsOf Try.f84 5) = impl_LeftLeaf.T5 := by kernel_rfl
theorem impl_LeftLeaf.bits5 : waitsOk impl_LeftLeaf.T5.2 impl_LeftLeaf.B5 = true := by kernel_rfl
set_option maxHeartbeats 8000000 in
set_option maxRecDepth 100000 in
theorem impl_LeftLeaf.calls (k : Nat) (A0 : Option Addr) (c0 : Nat) (l0 : List (S53)) (r : List Int) (w : World) (hr0 : Kd.C k53 w A0 l0.length l0) (hc0 : l0.length ≤ c0) (h : impl_LeftLeaf.f k l0 = some r) :
  Calls Try.prog 84 #[.slice A0 l0.length c0] w fun e w' => ∃ v0_ : Value, e = .returned (v0_) ∧ Kd.R (Kd.int .i64) 3 w' w.heap.size (fun _ => True) v0_ r ∧ Below w.heap.size w w' := by
 have HR0 := Aside0.mk hr0
 have HC0 := Aside0.mk hc0
 clear hr0 hc0
 have HB := Aside0.mk (Below.refl w.heap.size w)
 have H : ((impl_RankOf.f k l0).bind fun t289 => ((impl_PostOrder.f k l0).bind fun t292 => (impl_LeftLeaf.l0 k l0 (([] : List Int)) t289 t292 (t292.length : Int) 0))) = some r := h
 clear h
 obtain ⟨y286, hy286⟩ : ∃ y_ : List Int, y_ = (([] : List Int)) := ⟨_, rfl⟩
 replace H : ((impl_RankOf.f k l0).bind fun t289 => ((impl_PostOrder.f k l0).bind fun t292 => (impl_LeftLeaf.l0 k l0 y286 t289 t292 (t292.length : Int) 0))) = some r := by first | (rw [hy286]; with_reducible exact H) | (have H2_ := (Option.bind_some _ _).symm.trans H; rw [hy286]; with_reducible exact H2_) | (have H2_ := (Option.bind_some _ _).symm.trans H; with_reducible exact H2_) | with_reducible exact H | (rw [hy286]; exact H) | exact H
 have Ny286 := Aside0.mk hy286
 clear hy286
 replace H := Option.bind_eq_some_iff.mp H
 obtain ⟨t289, A20, H⟩ := H
 try dsimp only at H
 have A2 := Aside0.mk A20
 clear A20
 replace H := Option.bind_eq_some_iff.mp H
 obtain ⟨t292, A30, H⟩ := H
 replace H : (impl_LeftLeaf.l0 k l0 y286 t289 t292 (t292.length : Int) 0) = some r := H
 have A3 := Aside0.mk A30
 clear A30
 have H' := Aside0.mk H
 clear H
 go_enter Try.func84, Try.ntmps84
 go_wp2_with (first | ((with_reducible refine gate_dst (N := 7) rfl ?_); refine Kd.R_lit (Kd.int .i64) _ 3 ?hg (N := 7) ?hd (xs := ([] : List Int)) (inner := []) (ok := fun _ => True) (okp := fun _ => True) ?hr ?hp (fun _ hk => hk) trivial (Below.refl _ _) (Nat.le_refl _) (by simp) ?_; (case hd => rfl); (case hg => rfl); (case hr => first | (go_simp; done) | (go_simp; rfl)); (case hp => exact (Reps.none _ _)); intro v287 w4 ho5 hb hg_ hnew_; clear hg_ hnew_; (first | rw [← Ny286.out] at ho5 | (simp only [Int.reduceToNat] at ho5; rw [← Ny286.out] at ho5)); have HO288 := Aside0.mk (Kd.R_lower ho5 (bs_ HB)); replace HB := tB_ HB hb; clear hb ho5) | ((with_reducible refine gate_callee (f := 105) rfl ?_); refine gL_ (some 9) Try.func105 #[.slice A0 l0.length c0] ?_; (with_reducible refine (impl_RankOf.calls k _ _ l0 t289 _ (cx_ HR0 HB) HC0.out A2.out).mono ?_); rintro e w6 ⟨v290, rfl, ho0, hb⟩; refine ⟨_, rfl, ?_⟩; have HO291 := Aside0.mk (Kd.R_lower (Kd.R_new' ho0 (Kd.R_lt (rx_ HO288.out))) (bs_ HB)); replace HO288 := Aside0.mk (Kd.R_elder' (rx_ HO288.out) (Kd.R_base ho0) hb); replace HB := tB_ HB hb; (try clear hb); (try clear ho0)) | ((with_reducible refine gate_callee (f := 83) rfl ?_); refine gL_ (some 11) Try.func83 #[.slice A0 l0.length c0] ?_; (with_reducible refine (impl_PostOrder.calls k _ _ l0 t292 _ (cx_ HR0 HB) HC0.out A3.out).mono ?_); rintro e w7 ⟨v293, rfl, ho0, hb⟩; refine ⟨_, rfl, ?_⟩; have HO294 := Aside0.mk (Kd.R_lower (Kd.R_new' (Kd.R_new' ho0 (Kd.R_lt (rx_ HO288.out))) (Kd.R_lt (rx_ HO291.out))) (bs_ HB)); replace HO288 := Aside0.mk (Kd.R_elder' (rx_ HO288.out) (Kd.R_base ho0) hb); replace HO291 := Aside0.mk (Kd.R_elder' (rx_ HO291.out) (Kd.R_base ho0) hb); replace HB := tB_ HB hb; (try clear hb); (try clear ho0); obtain ⟨Ao8, co8, eo8⟩ := Kd.R_slice HO294.out; subst eo8))
 go_loopg [3, 13] k (fun kq v3 v13 w' => ∃ (x3_1 : List Int) (x13_1 : Int), v13 = .int .i64 x13_1 ∧ Aside0 (impl_LeftLeaf.l0 kq l0 x3_1 t289 t292 (t292.length : Int) x13_1 = some r) ∧ Aside0 (kq ≤ k) ∧ Aside0 (Kd.R (Kd.int .i64) 3 w' w.heap.size (fun k_ => some k_ ≠ (v290 : Value).ownBlock ∧ some k_ ≠ ((.slice Ao8 t292.length co8) : Value).ownBlock) v3 x3_1) ∧ Aside0 (Kd.R (Kd.int .i64) 3 w' w.heap.size (fun k_ => some k_ ≠ (v3 : Value).ownBlock ∧ some k_ ≠ ((.slice Ao8 t292.length co8) : Value).ownBlock) v290 t289) ∧ Aside0 (Kd.R (Kd.int .i64) 3 w' w.heap.size (fun k_ => some k_ ≠ (v3 : Value).ownBlock ∧ some k_ ≠ (v290 : Value).ownBlock) (.slice Ao8 t292.length co8) t292) ∧ Aside0 (Below w.heap.size w w'))
 case atStart => exact ⟨(y286), (0), eb_, H', ⟨Nat.le_refl _⟩, ⟨rx_ (Kd.R_mono HO288.out (fun _ hk => ⟨hk.1.2, hk.2⟩))⟩, ⟨rx_ (Kd.R_mono HO291.out (fun _ hk => ⟨hk.1.2, hk.2⟩))⟩, ⟨rx_ (Kd.R_mono HO294.out (fun _ hk => ⟨hk.1.2, hk.2⟩))⟩, bl_ HB⟩
 case round =>
  clear H'
  try clear c1
  try clear p2
  try clear c8
  obtain ⟨x3_1, x13_1, rfl, HA, HK1, HO_3, HO_4, HO_11, HB⟩ := hrel
  cases gk with
  | zero => exact absurd HA.out (by simp [impl_LeftLeaf.l0])
  | succ k1 =>
   have H := HA.out
   clear HA
   simp only [impl_LeftLeaf.l0] at H
   by_cases c9 : x13_1 < (t292.length : Int)
   ·rw [if_pos c9] at H
    have c9b0 : decide (x13_1 < (t292.length : Int)) = true := decide_eq_true c9
    clear c9
    by_cases c10 : 0 ≤ x13_1
    ·rw [if_pos c10] at H
     have c10b0 : decide (0 ≤ x13_1) = true := decide_eq_true c10
     clear c10
     by_cases c11 : x13_1 < (t292.length : Int)
     ·rw [if_pos c11] at H
      have c11b0 : decide (x13_1 < (t292.length : Int)) = true := decide_eq_true c11
      clear c11
      by_cases c12 : 0 ≤ (rd t292 x13_1)
      ·rw [if_pos c12] at H
       have c12b0 : decide (0 ≤ (rd t292 x13_1)) = true := decide_eq_true c12
       clear c12
       by_cases c13 : (rd t292 x13_1) < (t289.length : Int)
       ·rw [if_pos c13] at H
        have c13b0 : decide ((rd t292 x13_1) < (t289.length : Int)) = true := decide_eq_true c13
        clear c13
        replace H := Option.bind_eq_some_iff.mp H
        obtain ⟨t297, A140, H⟩ := H
        try dsimp only at H
        have A14 := Aside0.mk A140
        clear A140
        by_cases c15 : x3_1.length < 17592186044416
        ·rw [if_pos c15] at H
         have LMc15 := Aside0.mk c15
         clear c15
         obtain ⟨y298, hy298⟩ : ∃ y_ : List Int, y_ = (x3_1 ++ [wrap64 ((rd t289 (rd t292 x13_1)) - (wrap64 ((wrap64 (t297 - (rd t292 x13_1))) - 1)))]) := ⟨_, rfl⟩
         replace H : (impl_LeftLeaf.l0 k1 l0 y298 t289 t292 (t292.length : Int) (wrap64 (x13_1 + 1))) = some r := by first | (rw [hy298]; with_reducible exact H) | (have H2_ := (Option.bind_some _ _).symm.trans H; rw [hy298]; with_reducible exact H2_) | (have H2_ := (Option.bind_some _ _).symm.trans H; with_reducible exact H2_) | with_reducible exact H | (rw [hy298]; exact H) | exact H
         have Ny298 := Aside0.mk hy298
         clear hy298
         have H' := Aside0.mk H
         clear H
         have p295 : 0 ≤ (x13_1 : Int) := od_
         have q295 : x13_1 < (t292.length : Int) := od_
         obtain ⟨ad295, e295, hx295_0⟩ := Kd.at_int (Kd.R_reads' HO_11.out).2.2 x13_1 p295 q295
         cases e295
         replace p295 := eq_true p295
         replace q295 := eq_true q295
         try go_wp2
         have n0_ := Aside0.mk (Kd.R_drew HO_3.out)
         have n1_ := Aside0.mk (Kd.R_drew HO_4.out)
         have n2_ := Aside0.mk (Kd.R_drew HO_11.out)
         have n3_ := Aside0.mk (below_drew1 HB.out)
         clear HO_3
         clear HO_4
         clear HO_11
         clear HB
         have HO_3 := n0_
         have HO_4 := n1_
         have HO_11 := n2_
         have HB := n3_
         clear n0_ n1_ n2_ n3_
         obtain ⟨Ao17, co17, eo17⟩ := Kd.R_slice HO_4.out
         (first | subst eo17 | (injection eo17 with f1_ f2_ f3_; have f4_ := f1_.symm; have f5_ := f3_.symm; clear f1_ f2_ f3_; subst f4_; subst f5_))
         have p296 : 0 ≤ ((rd t292 x13_1) : Int) := od_
         have q296 : (rd t292 x13_1) < (t289.length : Int) := od_
         obtain ⟨ad296, e296, hx296_0⟩ := Kd.at_int (Kd.R_reads' HO_4.out).2.2 (rd t292 x13_1) p296 q296
         cases e296
         replace p296 := eq_true p296
         replace q296 := eq_true q296
         refine start_ (n := 15) (S := fun w' => w'.cell? (ad296.add ((rd t292 x13_1)).toNat) = some (.int .i64 (rd t289 (rd t292 x13_1)))) (ds := [12, 13]) (ba_ 15 0) (by kernel_rfl) rfl rfl (hx296_0) (fun hHeld => ?_); refine with_tabW impl_LeftLeaf.tab5 impl_LeftLeaf.bits5 (fun HT_ HW_ => ?_)
         generalize wr.drew = w16 at HO_3 HO_4 HO_11 HB hx296_0 hHeld ⊢
         refine pu_ 0 (some 17) (ba_ 15 1) rfl rfl (any_of HT_.out (by kernel_rfl)) ?_
         refine pu_ 1 (some 18) (ba_ 15 3) rfl rfl (any_of HT_.out (by kernel_rfl)) ?_
         refine pu_ 2 (some 19) (ba_ 15 7) rfl rfl (any_of HT_.out (by kernel_rfl)) ?_
         refine pu_ 3 (some 20) (ba_ 15 15) rfl rfl (any_of HT_.out (by kernel_rfl)) ?_
         refine pu_ 5 (some 22) (ba_ 15 47) rfl rfl (any_of HT_.out (by kernel_rfl)) ?_
         refine pu_ 6 (some 23) (ba_ 15 111) rfl rfl (any_of HT_.out (by kernel_rfl)) ?_
         refine pu_ 8 (some 25) (ba_ 15 367) rfl rfl (any_of HT_.out (by kernel_rfl)) ?_
         refine take_ (i := 4) (N := some 21) (v := ?_) (a' := ?_) (ba_ 15 383) rfl rfl (take_ofW HT_.out HW_.out (by kernel_rfl)) (fun _ _ _ h => h) (Or.inl ⟨by rfl, ?_⟩) hHeld ?_ ?_
         rotate_left
         ·intro w' s0
          go_simp
          with_reducible rfl
         rotate_left
         ·simp only [Act.put, List.setIfInBounds_toArray, List.set_cons_zero, List.set_cons_succ, i64_w, i32_w]
          rfl
         refine one_ (i := 7) (N := some 24) (ba_ 15 511) rfl rfl (one_of HT_.out (by kernel_rfl)) (by decide) (fun K hK => ?_)
         refine goes_ Try.func104 (by kernel_rfl) rfl #[.slice A0 l0.length c0, .int .i64 (rd t292 x13_1)] (by rfl) rfl rfl (by (try simp only [List.map_toArray, List.map_cons, List.map_nil]); first | done | rfl | (simp only [List.length_drop, List.length_take]; rfl)) ?_
         with_reducible refine (impl_endOf.calls k1 _ _ l0 (rd t292 x13_1) t297 _ ?side1 ?side2 A14.out).mono ?_
         (case side1 => exact cx_ HR0 HB)
         (case side2 => exact HC0.out)
         rintro e w' ⟨rfl, ⟨nd, rfl⟩⟩
         refine ⟨_, rfl, ?_⟩
         refine hK.out _ _ (hHeld) (fun hHeld => ?_)
         clear hK K
         refine norm_ (a' := ?_) ?_ ?_
         rotate_left
         ·show Act.put _ (some 24) _ = _
          simp only [Act.put, List.setIfInBounds_toArray, List.set_cons_zero, List.set_cons_succ, i64_w, i32_w]
          rfl
         refine pu_ 9 (some 26) (ba_ 15 1023) rfl rfl (any_of HT_.out (by kernel_rfl)) ?_
         refine pu_ 10 (some 27) (ba_ 15 2047) rfl rfl (any_of HT_.out (by kernel_rfl)) ?_
         refine pu_ 11 (some 28) (ba_ 15 4095) rfl rfl (any_of HT_.out (by kernel_rfl)) ?_
         refine last_ (i := 12) (N := some 29) (ba_ 15 8191) rfl rfl (one_of HT_.out (by kernel_rfl)) (by decide) (fun K hK => ?_)
         refine value_ (w1 := ?_) (v := ?_) (by rfl) rfl ?_ ?_
         rotate_left 2
         ·go_simp
          constructor
          ·rfl
          ·rfl
         refine hK.out _ _ ?_
         clear hK K
         refine norm_ (a' := ?_) ?_ ?_
         rotate_left
         ·show Act.put _ (some 29) _ = _
          simp only [Act.put, List.setIfInBounds_toArray, List.set_cons_zero, List.set_cons_succ, i64_w, i32_w]
          rfl
         refine last_ (i := 13) (N := some 30) (ba_ 15 16383) rfl rfl (one_of HT_.out (by kernel_rfl)) (by decide) (fun K hK => ?_)
         refine Kd.R_append_step (Kd.int .i64) (w0 := w) w.heap.size (by rfl) (.tmp 17) (.tmp 29) 23 3 (.int .i64 0) 8 rfl Try.underlying23 info3 rfl (by decide) (by omega) u3 x3_1 (wrap64 ((rd t289 (rd t292 x13_1)) - (wrap64 ((wrap64 (t297 - (rd t292 x13_1))) - 1)))) [.int .i64 (wrap64 ((rd t289 (rd t292 x13_1)) - (wrap64 ((wrap64 (t297 - (rd t292 x13_1))) - 1))))] (fun k_ => some k_ ≠ (.slice (some ad296) t289.length co17 : Value).ownBlock ∧ some k_ ≠ (.slice (some ad295) t292.length co8 : Value).ownBlock) (fun _ => False) rfl rfl ?aP (fun _ hk => hk.elim) ?aF ?aO ?aB ?aS ?aL ?_
         (case aP => exact rfl)
         (case aB => exact ((bl_ HB).out))
         (case aF => exact (fun k_ hk => ⟨Kd.fresh' (Kd.R_lt (rx_ HO_4.out)) k_ hk, Kd.fresh' (Kd.R_lt (rx_ HO_11.out)) k_ hk⟩))
         (case aO => exact (rx_ HO_3.out))
         (case aS => exact (bs_ HB))
         (case aL => have := LMc15.out; omega)
         intro v299 w18 ho hb hg hat
         rw [← Ny298.out] at ho
         have n0_ := Aside0.mk (Kd.R_after (ok := (fun k_ => some k_ ≠ (.slice (some ad295) t292.length co8 : Value).ownBlock)) (rx_ (Kd.R_mono HO_4.out (fun _ hk => ⟨hk.2, hk.1⟩))) hg hat)
         have n1_ := Aside0.mk (Kd.R_after (ok := (fun k_ => some k_ ≠ (.slice (some ad296) t289.length co17 : Value).ownBlock)) (rx_ (Kd.R_mono HO_11.out (fun _ hk => ⟨hk.2, hk.1⟩))) hg hat)
         have n2_ := Aside0.mk (hb)
         have n3_ := Aside0.mk (ho)
         clear HO_4
         clear HO_11
         clear HB
         clear HO_3
         have HO_4 := n0_
         have HO_11 := n1_
         have HB := n2_
         have HO300 := n3_
         clear n0_ n1_ n2_ n3_
         clear ho hb hg hat
         refine hK.out _ _ ?_
         clear hK K
         refine norm_ (a' := ?_) ?_ ?_
         rotate_left
         ·show Act.put _ (some 30) _ = _
          simp only [Act.put, List.setIfInBounds_toArray, List.set_cons_zero, List.set_cons_succ, i64_w, i32_w]
          rfl
         refine pu_ 14 (some 3) (ba_ 15 32767) rfl rfl (any_of HT_.out (by kernel_rfl)) ?_
         refine done_ (done_of HT_.out (by kernel_rfl)) ?_
         try go_wp2
         go_roundg k1
         case measure => have := HK1.out; omega
         case rel => exact ⟨(y298), (wrap64 (x13_1 + 1)), eb_, H', ⟨by have := HK1.out; omega⟩, ⟨rx_ HO300.out⟩, ⟨rx_ (Kd.R_mono HO_4.out (fun _ hk => ⟨hk.2, hk.1⟩))⟩, ⟨rx_ (Kd.R_mono HO_11.out (fun _ hk => ⟨hk.2, hk.1⟩))⟩, bl_ HB⟩
        ·rw [if_neg c15] at H
         exact absurd H (by simp)
       ·rw [if_neg c13] at H
        exact absurd H (by simp)
      ·rw [if_neg c12] at H
       exact absurd H (by simp)
     ·rw [if_neg c11] at H
      exact absurd H (by simp)
    ·rw [if_neg c10] at H
     exact absurd H (by simp)
   ·rw [if_neg c9] at H
    have c9b0 : decide (x13_1 < (t292.length : Int)) = false := decide_eq_false c9
    clear c9
    obtain rfl := Option.some.inj H
    go_wp2
    go_ret
    exact ⟨_, ea_, rx_ (Kd.R_mono HO_3.out (fun _ hk => trivial)), (bl_ HB).out⟩
end Go.Proofs.Ytelglbebffdaaaa.X
namespace Go.Proofs.Ytelglbebffdaaaa.X
open Go.RowKit Go.Proofs.YtelglbebffdaaaaW.PrintWords Go.Proofs.YtelglbebffdaaaaW.PrintLast Go.Proofs.YtelglbebffdaaaaW.PrintMore
attribute [local go_sem] max2_int min2_int max_two min_two max_three min_three max_four min_four   -- for this text's walks alone
set_option linter.unusedVariables false
set_option linter.unusedSimpArgs false
mutual
def impl_measureOf.j0 : Nat → List (S53) → List (S53) → Bool → List Int → List Int → List Int → Option (List Int × List Int × List Int × List Int × List Int × List Int × (List (List Int)) × Bool)
 | 0, _, _, _, _, _, _ => none
 | k + 1, x0, x1, x28, x302000, x302001, x302002 => if x28 = true then (some (([] : List Int), ([] : List Int), ([] : List Int), ([] : List Int), ([] : List Int), ([] : List Int), ([] : List (List Int)), false)) else ((impl_PostOrder.f k x0).bind fun t306 => ((impl_PostOrder.f k x1).bind fun t309 => ((impl_LeftLeaf.f k x0).bind fun t312 => ((impl_LeftLeaf.f k x1).bind fun t315 => (impl_measureOf.l0 k x0 x1 t309 (t309.length : Int) 0 x302000 x302001 x302002 t306 t309 t312 t315 ([] : List Int))))))
def impl_measureOf.l0 : Nat → List (S53) → List (S53) → List Int → Int → Int → List Int → List Int → List Int → List Int → List Int → List Int → List Int → List Int → Option (List Int × List Int × List Int × List Int × List Int × List Int × (List (List Int)) × Bool)
 | 0, _, _, _, _, _, _, _, _, _, _, _, _, _ => none
 | k + 1, x0, x1, x40, x41, x42, x302000, x302001, x302002, x319000, x319001, x319002, x319003, x319005 => if x42 < x41 then (if 0 ≤ x42 then (if x42 < (x40.length : Int) then (if 0 ≤ (rd x40 x42) then (if (rd x40 x42) < (x1.length : Int) then (if 0 ≤ ((rd_T53 x1 (rd x40 x42)).f0) then (if ((rd_T53 x1 (rd x40 x42)).f0) < (x302001.length : Int) then (if x319005.length < 17592186044416 then (impl_measureOf.l0 k x0 x1 x40 x41 (wrap64 (x42 + 1)) x302000 x302001 x302002 x319000 x319001 x319002 x319003 (x319005 ++ [rd x302001 ((rd_T53 x1 (rd x40 x42)).f0)])) else (none)) else (none)) else (none)) else (none)) else (none)) else (none)) else (none)) else (impl_measureOf.l1 k x0 x1 x319000 (x319000.length : Int) 0 x302000 x302001 x302002 x319000 x319001 x319002 x319003 ([] : List Int) x319005 ([] : List (List Int)))
def impl_measureOf.l1 : Nat → List (S53) → List (S53) → List Int → Int → Int → List Int → List Int → List Int → List Int → List Int → List Int → List Int → List Int → List Int → List (List Int) → Option (List Int × List Int × List Int × List Int × List Int × List Int × (List (List Int)) × Bool)
 | 0, _, _, _, _, _, _, _, _, _, _, _, _, _, _, _ => none
 | k + 1, x0, x1, x62, x63, x64, x302000, x302001, x302002, x319000, x319001, x319002, x319003, x319004, x319005, x319006 => if x64 < x63 then (if 0 ≤ x64 then (if x64 < (x62.length : Int) then (if 0 ≤ (rd x62 x64) then (if (rd x62 x64) < (x0.length : Int) then (if 0 ≤ ((rd_T53 x0 (rd x62 x64)).f0) then (if ((rd_T53 x0 (rd x62 x64)).f0) < (x302000.length : Int) then (if x319004.length < 17592186044416 then (impl_measureOf.l2 k x0 x1 (rd x62 x64) (([] : List Int)) x62 x63 x64 x319001 (x319001.length : Int) 0 x302000 x302001 x302002 x319000 x319001 x319002 x319003 (x319004 ++ [rd x302000 ((rd_T53 x0 (rd x62 x64)).f0)]) x319005 x319006) else (none)) else (none)) else (none)) else (none)) else (none)) else (none)) else (none)) else (some (x319000, x319001, x319002, x319003, x319004, x319005, x319006, true))
def impl_measureOf.l2 : Nat → List (S53) → List (S53) → Int → List Int → List Int → Int → Int → List Int → Int → Int → List Int → List Int → List Int → List Int → List Int → List Int → List Int → List Int → List Int → List (List Int) → Option (List Int × List Int × List Int × List Int × List Int × List Int × (List (List Int)) × Bool)
 | 0, _, _, _, _, _, _, _, _, _, _, _, _, _, _, _, _, _, _, _, _ => none
 | k + 1, x0, x1, x12, x13, x62, x63, x64, x84, x85, x86, x302000, x302001, x302002, x319000, x319001, x319002, x319003, x319004, x319005, x319006 => if x86 < x85 then (if 0 ≤ x86 then (if x86 < (x84.length : Int) then (if 0 ≤ x12 then (if x12 < (x0.length : Int) then (if 0 ≤ (rd x84 x86) then (if (rd x84 x86) < (x1.length : Int) then (if 0 ≤ (wrap64 ((wrap64 (((rd_T53 x0 x12).f0) * 6)) + ((rd_T53 x1 (rd x84 x86)).f0))) then (if (wrap64 ((wrap64 (((rd_T53 x0 x12).f0) * 6)) + ((rd_T53 x1 (rd x84 x86)).f0))) < (x302002.length : Int) then (if x13.length < 17592186044416 then (impl_measureOf.l2 k x0 x1 x12 (x13 ++ [rd x302002 (wrap64 ((wrap64 (((rd_T53 x0 x12).f0) * 6)) + ((rd_T53 x1 (rd x84 x86)).f0)))]) x62 x63 x64 x84 x85 (wrap64 (x86 + 1)) x302000 x302001 x302002 x319000 x319001 x319002 x319003 x319004 x319005 x319006) else (none)) else (none)) else (none)) else (none)) else (none)) else (none)) else (none)) else (none)) else (none)) else (if x319006.length < 5864062014805 then (impl_measureOf.l1 k x0 x1 x62 x63 (wrap64 (x64 + 1)) x302000 x302001 x302002 x319000 x319001 x319002 x319003 x319004 x319005 (x319006 ++ [x13])) else (none))
end
def impl_measureOf.f (k : Nat) (l0 : List (S53)) (l1 : List (S53)) (l2_0 : List Int) (l2_1 : List Int) (l2_2 : List Int) : Option (List Int × List Int × List Int × List Int × List Int × List Int × (List (List Int)) × Bool) := (impl_TreeOk.f k l0).bind fun t303 => (if t303 = true then ((impl_TreeOk.f k l1).bind fun t304 => (if t304 = true then ((impl_CostOk.f k l2_0 l2_1 l2_2).bind fun t305 => (impl_measureOf.j0 k l0 l1 (!t305) l2_0 l2_1 l2_2)) else (impl_measureOf.j0 k l0 l1 true l2_0 l2_1 l2_2))) else (impl_measureOf.j0 k l0 l1 true l2_0 l2_1 l2_2))
theorem impl_measureOf.mono_l : ∀ k, (∀ y0 y1 y2 y3 y4 y5, LeO (impl_measureOf.j0 k y0 y1 y2 y3 y4 y5) (impl_measureOf.j0 (k + 1) y0 y1 y2 y3 y4 y5)) ∧ (∀ y0 y1 y2 y3 y4 y5 y6 y7 y8 y9 y10 y11 y12, LeO (impl_measureOf.l0 k y0 y1 y2 y3 y4 y5 y6 y7 y8 y9 y10 y11 y12) (impl_measureOf.l0 (k + 1) y0 y1 y2 y3 y4 y5 y6 y7 y8 y9 y10 y11 y12)) ∧ (∀ y0 y1 y2 y3 y4 y5 y6 y7 y8 y9 y10 y11 y12 y13 y14, LeO (impl_measureOf.l1 k y0 y1 y2 y3 y4 y5 y6 y7 y8 y9 y10 y11 y12 y13 y14) (impl_measureOf.l1 (k + 1) y0 y1 y2 y3 y4 y5 y6 y7 y8 y9 y10 y11 y12 y13 y14)) ∧ (∀ y0 y1 y2 y3 y4 y5 y6 y7 y8 y9 y10 y11 y12 y13 y14 y15 y16 y17 y18 y19, LeO (impl_measureOf.l2 k y0 y1 y2 y3 y4 y5 y6 y7 y8 y9 y10 y11 y12 y13 y14 y15 y16 y17 y18 y19) (impl_measureOf.l2 (k + 1) y0 y1 y2 y3 y4 y5 y6 y7 y8 y9 y10 y11 y12 y13 y14 y15 y16 y17 y18 y19))
 | 0 => ⟨fun _ _ _ _ _ _ r h => by simp [impl_measureOf.j0] at h, fun _ _ _ _ _ _ _ _ _ _ _ _ _ r h => by simp [impl_measureOf.l0] at h, fun _ _ _ _ _ _ _ _ _ _ _ _ _ _ _ r h => by simp [impl_measureOf.l1] at h, fun _ _ _ _ _ _ _ _ _ _ _ _ _ _ _ _ _ _ _ _ r h => by simp [impl_measureOf.l2] at h⟩
 | k + 1 => by
  obtain ⟨ih0, ih1, ih2, ih3⟩ := impl_measureOf.mono_l k
  refine ⟨?_, ?_, ?_, ?_⟩
  ·intro y0 y1 y2 y3 y4 y5
   unfold impl_measureOf.j0
   repeat' first
   | (with_reducible exact ih0 _ _ _ _ _ _)
   | (with_reducible exact ih1 _ _ _ _ _ _ _ _ _ _ _ _ _)
   | (with_reducible exact ih2 _ _ _ _ _ _ _ _ _ _ _ _ _ _ _)
   | (with_reducible exact ih3 _ _ _ _ _ _ _ _ _ _ _ _ _ _ _ _ _ _ _ _)
   | (with_reducible exact impl_CostOk.mono _ _ _ _)
   | (with_reducible exact impl_LeftLeaf.mono _ _)
   | (with_reducible exact impl_PostOrder.mono _ _)
   | (with_reducible exact impl_TreeOk.mono _ _)
   | (with_reducible exact LeO.refl _)
   | (with_reducible exact LeO.none _)
   | (with_reducible refine LeO.ite ?_ ?_)
   | (with_reducible refine LeO.bind ?_ (fun _ => ?_))
   | exact ih0 _ _ _ _ _ _
   | exact ih1 _ _ _ _ _ _ _ _ _ _ _ _ _
   | exact ih2 _ _ _ _ _ _ _ _ _ _ _ _ _ _ _
   | exact ih3 _ _ _ _ _ _ _ _ _ _ _ _ _ _ _ _ _ _ _ _
   | exact impl_CostOk.mono _ _ _ _
   | exact impl_LeftLeaf.mono _ _
   | exact impl_PostOrder.mono _ _
   | exact impl_TreeOk.mono _ _
   | exact LeO.none _
   | refine LeO.ite ?_ ?_
   | refine LeO.bind ?_ (fun _ => ?_)
  ·intro y0 y1 y2 y3 y4 y5 y6 y7 y8 y9 y10 y11 y12
   unfold impl_measureOf.l0
   repeat' first
   | (with_reducible exact ih0 _ _ _ _ _ _)
   | (with_reducible exact ih1 _ _ _ _ _ _ _ _ _ _ _ _ _)
   | (with_reducible exact ih2 _ _ _ _ _ _ _ _ _ _ _ _ _ _ _)
   | (with_reducible exact ih3 _ _ _ _ _ _ _ _ _ _ _ _ _ _ _ _ _ _ _ _)
   | (with_reducible exact impl_CostOk.mono _ _ _ _)
   | (with_reducible exact impl_LeftLeaf.mono _ _)
   | (with_reducible exact impl_PostOrder.mono _ _)
   | (with_reducible exact impl_TreeOk.mono _ _)
   | (with_reducible exact LeO.refl _)
   | (with_reducible exact LeO.none _)
   | (with_reducible refine LeO.ite ?_ ?_)
   | (with_reducible refine LeO.bind ?_ (fun _ => ?_))
   | exact ih0 _ _ _ _ _ _
   | exact ih1 _ _ _ _ _ _ _ _ _ _ _ _ _
   | exact ih2 _ _ _ _ _ _ _ _ _ _ _ _ _ _ _
   | exact ih3 _ _ _ _ _ _ _ _ _ _ _ _ _ _ _ _ _ _ _ _
   | exact impl_CostOk.mono _ _ _ _
   | exact impl_LeftLeaf.mono _ _
   | exact impl_PostOrder.mono _ _
   | exact impl_TreeOk.mono _ _
   | exact LeO.none _
   | refine LeO.ite ?_ ?_
   | refine LeO.bind ?_ (fun _ => ?_)
  ·intro y0 y1 y2 y3 y4 y5 y6 y7 y8 y9 y10 y11 y12 y13 y14
   unfold impl_measureOf.l1
   repeat' first
   | (with_reducible exact ih0 _ _ _ _ _ _)
   | (with_reducible exact ih1 _ _ _ _ _ _ _ _ _ _ _ _ _)
   | (with_reducible exact ih2 _ _ _ _ _ _ _ _ _ _ _ _ _ _ _)
   | (with_reducible exact ih3 _ _ _ _ _ _ _ _ _ _ _ _ _ _ _ _ _ _ _ _)
   | (with_reducible exact impl_CostOk.mono _ _ _ _)
   | (with_reducible exact impl_LeftLeaf.mono _ _)
   | (with_reducible exact impl_PostOrder.mono _ _)
   | (with_reducible exact impl_TreeOk.mono _ _)
   | (with_reducible exact LeO.refl _)
   | (with_reducible exact LeO.none _)
   | (with_reducible refine LeO.ite ?_ ?_)
   | (with_reducible refine LeO.bind ?_ (fun _ => ?_))
   | exact ih0 _ _ _ _ _ _
   | exact ih1 _ _ _ _ _ _ _ _ _ _ _ _ _
   | exact ih2 _ _ _ _ _ _ _ _ _ _ _ _ _ _ _
   | exact ih3 _ _ _ _ _ _ _ _ _ _ _ _ _ _ _ _ _ _ _ _
   | exact impl_CostOk.mono _ _ _ _
   | exact impl_LeftLeaf.mono _ _
   | exact impl_PostOrder.mono _ _
   | exact impl_TreeOk.mono _ _
   | exact LeO.none _
   | refine LeO.ite ?_ ?_
   | refine LeO.bind ?_ (fun _ => ?_)
  ·intro y0 y1 y2 y3 y4 y5 y6 y7 y8 y9 y10 y11 y12 y13 y14 y15 y16 y17 y18 y19
   unfold impl_measureOf.l2
   repeat' first
   | (with_reducible exact ih0 _ _ _ _ _ _)
   | (with_reducible exact ih1 _ _ _ _ _ _ _ _ _ _ _ _ _)
   | (with_reducible exact ih2 _ _ _ _ _ _ _ _ _ _ _ _ _ _ _)
   | (with_reducible exact ih3 _ _ _ _ _ _ _ _ _ _ _ _ _ _ _ _ _ _ _ _)
   | (with_reducible exact impl_CostOk.mono _ _ _ _)
   | (with_reducible exact impl_LeftLeaf.mono _ _)
   | (with_reducible exact impl_PostOrder.mono _ _)
   | (with_reducible exact impl_TreeOk.mono _ _)
   | (with_reducible exact LeO.refl _)
   | (with_reducible exact LeO.none _)
   | (with_reducible refine LeO.ite ?_ ?_)
   | (with_reducible refine LeO.bind ?_ (fun _ => ?_))
   | exact ih0 _ _ _ _ _ _
   | exact ih1 _ _ _ _ _ _ _ _ _ _ _ _ _
   | exact ih2 _ _ _ _ _ _ _ _ _ _ _ _ _ _ _
   | exact ih3 _ _ _ _ _ _ _ _ _ _ _ _ _ _ _ _ _ _ _ _
   | exact impl_CostOk.mono _ _ _ _
   | exact impl_LeftLeaf.mono _ _
   | exact impl_PostOrder.mono _ _
   | exact impl_TreeOk.mono _ _
   | exact LeO.none _
   | refine LeO.ite ?_ ?_
   | refine LeO.bind ?_ (fun _ => ?_)
theorem impl_measureOf.mono : ∀ a0 a1 a2 a3 a4 k, LeO (impl_measureOf.f k a0 a1 a2 a3 a4) (impl_measureOf.f (k + 1) a0 a1 a2 a3 a4) := by
 intro a0 a1 a2 a3 a4 k
 obtain ⟨ih0, ih1, ih2, ih3⟩ := impl_measureOf.mono_l k
 unfold impl_measureOf.f
 repeat' first
   | (with_reducible exact ih0 _ _ _ _ _ _)
   | (with_reducible exact ih1 _ _ _ _ _ _ _ _ _ _ _ _ _)
   | (with_reducible exact ih2 _ _ _ _ _ _ _ _ _ _ _ _ _ _ _)
   | (with_reducible exact ih3 _ _ _ _ _ _ _ _ _ _ _ _ _ _ _ _ _ _ _ _)
   | (with_reducible exact impl_CostOk.mono _ _ _ _)
   | (with_reducible exact impl_LeftLeaf.mono _ _)
   | (with_reducible exact impl_PostOrder.mono _ _)
   | (with_reducible exact impl_TreeOk.mono _ _)
   | (with_reducible exact LeO.refl _)
   | (with_reducible exact LeO.none _)
   | (with_reducible refine LeO.ite ?_ ?_)
   | (with_reducible refine LeO.bind ?_ (fun _ => ?_))
   | exact ih0 _ _ _ _ _ _
   | exact ih1 _ _ _ _ _ _ _ _ _ _ _ _ _
   | exact ih2 _ _ _ _ _ _ _ _ _ _ _ _ _ _ _
   | exact ih3 _ _ _ _ _ _ _ _ _ _ _ _ _ _ _ _ _ _ _ _
   | exact impl_CostOk.mono _ _ _ _
   | exact impl_LeftLeaf.mono _ _
   | exact impl_PostOrder.mono _ _
   | exact impl_TreeOk.mono _ _
   | exact LeO.none _
   | refine LeO.ite ?_ ?_
   | refine LeO.bind ?_ (fun _ => ?_)
def impl_measureOf.T7 : Bool × List (List Nat × List Nat) := (true, [([], []), ([0], [0]), ([], []), ([2], [2]), ([], []), ([], []), ([4, 5], [4, 5]), ([6], [6]), ([7], [7]), ([3, 8], [3, 8]), ([9], [9]), ([10], [10]), ([1, 11], [1, 11]), ([0, 1, 2, 3, 4, 5, 6, 7, 8, 9, 10, 11, 12], []), ([13, 12, 12, 0, 1, 2, 3, 4, 5, 6, 7, 8, 9, 10, 11, 12], [12, 13])])
def impl_measureOf.B7 : List Nat := [0, 1, 0, 4, 0, 0, 48, 112, 240, 508, 1020, 2044, 4095, 8191, 16383]
theorem impl_measureOf.tab7 : rtab .any (opsOf Try.f57 7) = impl_measureOf.T7 := by kernel_rfl
theorem impl_measureOf.bits7 : waitsOk impl_measureOf.T7.2 impl_measureOf.B7 = true := by kernel_rfl
def impl_measureOf.T12 : Bool × List (List Nat × List Nat) := (true, [([], []), ([0], [0]), ([], []), ([2], [2]), ([], []), ([], []), ([4, 5], [4, 5]), ([6], [6]), ([7], [7]), ([3, 8], [3, 8]), ([9], [9]), ([10], [10]), ([1, 11], [1, 11]), ([0, 1, 2, 3, 4, 5, 6, 7, 8, 9, 10, 11, 12], []), ([13, 12, 12, 0, 1, 2, 3, 4, 5, 6, 7, 8, 9, 10, 11, 12], [12, 13])])
def impl_measureOf.B12 : List Nat := [0, 1, 0, 4, 0, 0, 48, 112, 240, 508, 1020, 2044, 4095, 8191, 16383]
theorem impl_measureOf.tab12 : rtab .any (opsOf Try.f57 12) = impl_measureOf.T12 := by kernel_rfl
theorem impl_measureOf.bits12 : waitsOk impl_measureOf.T12.2 impl_measureOf.B12 = true := by kernel_rfl
def impl_measureOf.T17 : Bool × List (List Nat × List Nat) := (true, [([], []), ([], []), ([1], [1]), ([], []), ([], []), ([3, 4], [3, 4]), ([5], [5]), ([6], [6]), ([7], [7]), ([], []), ([], []), ([9, 10], [9, 10]), ([11], [11]), ([12], [12]), ([8, 13], [8, 13]), ([2, 14], [2, 14]), ([15], [15]), ([16], [16]), ([0, 17], [0, 17]), ([18, 18, 0, 1, 2, 3, 4, 5, 6, 7, 8, 9, 10, 11, 12, 13, 14, 15, 16, 17, 18], [0, 18])])
def impl_measureOf.B17 : List Nat := [0, 0, 2, 0, 0, 24, 56, 120, 248, 0, 0, 1536, 3584, 7680, 16376, 32766, 65534, 131070, 262143, 524287]
theorem impl_measureOf.tab17 : rtab .any (opsOf Try.f57 17) = impl_measureOf.T17 := by kernel_rfl
theorem impl_measureOf.bits17 : waitsOk impl_measureOf.T17.2 impl_measureOf.B17 = true := by kernel_rfl
set_option maxHeartbeats 8000000 in
set_option maxRecDepth 100000 in
theorem impl_measureOf.calls (k : Nat) (A0 : Option Addr) (c0 : Nat) (l0 : List (S53)) (A1 : Option Addr) (c1 : Nat) (l1 : List (S53)) (A2_0 : Option Addr) (c2_0 : Nat) (l2_0 : List Int) (A2_1 : Option Addr) (c2_1 : Nat) (l2_1 : List Int) (A2_2 : Option Addr) (c2_2 : Nat) (l2_2 : List Int) (r1 : List Int) (r2 : List Int) (r3 : List Int) (r4 : List Int) (r5 : List Int) (r6 : List Int) (r7 : List (List Int)) (r8 : Bool) (w : World) (hr0 : Kd.C k53 w A0 l0.length l0) (hc0 : l0.length ≤ c0) (hr1 : Kd.C k53 w A1 l1.length l1) (hc1 : l1.length ≤ c1) (hr2_0 : Kd.C (Kd.int .i64) w A2_0 l2_0.length l2_0) (hc2_0 : l2_0.length ≤ c2_0) (hr2_1 : Kd.C (Kd.int .i64) w A2_1 l2_1.length l2_1) (hc2_1 : l2_1.length ≤ c2_1) (hr2_2 : Kd.C (Kd.int .i64) w A2_2 l2_2.length l2_2) (hc2_2 : l2_2.length ≤ c2_2) (h : impl_measureOf.f k l0 l1 l2_0 l2_1 l2_2 = some (r1, r2, r3, r4, r5, r6, r7, r8)) :
  Calls Try.prog 57 #[.slice A0 l0.length c0, .slice A1 l1.length c1, .agg #[.slice A2_0 l2_0.length c2_0, .slice A2_1 l2_1.length c2_1, .slice A2_2 l2_2.length c2_2]] w fun e w' => ∃ v0_ v1_ v2_ v3_ v4_ v5_ v6_ : Value, e = .returned (.tuple #[.agg #[v0_, v1_, v2_, v3_, v4_, v5_, v6_], .bool r8]) ∧ Kd.R (Kd.int .i64) 3 w' w.heap.size (fun k_ => some k_ ≠ (v1_ : Value).ownBlock ∧ some k_ ≠ (v2_ : Value).ownBlock ∧ some k_ ≠ (v3_ : Value).ownBlock ∧ some k_ ≠ (v4_ : Value).ownBlock ∧ some k_ ≠ (v5_ : Value).ownBlock) v0_ r1 ∧ Kd.R (Kd.int .i64) 3 w' w.heap.size (fun k_ => some k_ ≠ (v0_ : Value).ownBlock ∧ some k_ ≠ (v2_ : Value).ownBlock ∧ some k_ ≠ (v3_ : Value).ownBlock ∧ some k_ ≠ (v4_ : Value).ownBlock ∧ some k_ ≠ (v5_ : Value).ownBlock) v1_ r2 ∧ Kd.R (Kd.int .i64) 3 w' w.heap.size (fun k_ => some k_ ≠ (v0_ : Value).ownBlock ∧ some k_ ≠ (v1_ : Value).ownBlock ∧ some k_ ≠ (v3_ : Value).ownBlock ∧ some k_ ≠ (v4_ : Value).ownBlock ∧ some k_ ≠ (v5_ : Value).ownBlock) v2_ r3 ∧ Kd.R (Kd.int .i64) 3 w' w.heap.size (fun k_ => some k_ ≠ (v0_ : Value).ownBlock ∧ some k_ ≠ (v1_ : Value).ownBlock ∧ some k_ ≠ (v2_ : Value).ownBlock ∧ some k_ ≠ (v4_ : Value).ownBlock ∧ some k_ ≠ (v5_ : Value).ownBlock) v3_ r4 ∧ Kd.R (Kd.int .i64) 3 w' w.heap.size (fun k_ => some k_ ≠ (v0_ : Value).ownBlock ∧ some k_ ≠ (v1_ : Value).ownBlock ∧ some k_ ≠ (v2_ : Value).ownBlock ∧ some k_ ≠ (v3_ : Value).ownBlock ∧ some k_ ≠ (v5_ : Value).ownBlock) v4_ r5 ∧ Kd.R (Kd.int .i64) 3 w' w.heap.size (fun k_ => some k_ ≠ (v0_ : Value).ownBlock ∧ some k_ ≠ (v1_ : Value).ownBlock ∧ some k_ ≠ (v2_ : Value).ownBlock ∧ some k_ ≠ (v3_ : Value).ownBlock ∧ some k_ ≠ (v4_ : Value).ownBlock) v5_ r6 ∧ Kd.S (Kd.slice 3 (Kd.int .i64)) 23 w' w.heap.size (fun k_ => some k_ ≠ (v0_ : Value).ownBlock ∧ some k_ ≠ (v1_ : Value).ownBlock ∧ some k_ ≠ (v2_ : Value).ownBlock ∧ some k_ ≠ (v3_ : Value).ownBlock ∧ some k_ ≠ (v4_ : Value).ownBlock ∧ some k_ ≠ (v5_ : Value).ownBlock) v6_ r7 ∧ Below w.heap.size w w' := by
 have hu31 := Try.underlying31
 have hu70 := Try.underlying70
 have HR0 := Aside0.mk hr0
 have HC0 := Aside0.mk hc0
 clear hr0 hc0
 have HR1 := Aside0.mk hr1
 have HC1 := Aside0.mk hc1
 clear hr1 hc1
 have HR2_0 := Aside0.mk hr2_0
 have HC2_0 := Aside0.mk hc2_0
 clear hr2_0 hc2_0
 have HR2_1 := Aside0.mk hr2_1
 have HC2_1 := Aside0.mk hc2_1
 clear hr2_1 hc2_1
 have HR2_2 := Aside0.mk hr2_2
 have HC2_2 := Aside0.mk hc2_2
 clear hr2_2 hc2_2
 have HB := Aside0.mk (Below.refl w.heap.size w)
 have H : ((impl_TreeOk.f k l0).bind fun t303 => (if t303 = true then ((impl_TreeOk.f k l1).bind fun t304 => (if t304 = true then ((impl_CostOk.f k l2_0 l2_1 l2_2).bind fun t305 => (impl_measureOf.j0 k l0 l1 (!t305) l2_0 l2_1 l2_2)) else (impl_measureOf.j0 k l0 l1 true l2_0 l2_1 l2_2))) else (impl_measureOf.j0 k l0 l1 true l2_0 l2_1 l2_2))) = some (r1, r2, r3, r4, r5, r6, r7, r8) := h
 clear h
 have HC4 := Aside0.mk H
 clear H
 go_enter Try.func57, Try.ntmps57
 go_upto_region 1 with (first | ((with_reducible refine gate_dst (N := 5) rfl ?_); refine bx_ 5 #[.slice A2_0 l2_0.length c2_0, .slice A2_1 l2_1.length c2_1, .slice A2_2 l2_2.length c2_2] 31 ?_; intro gb301 hg w5 hbox hb; have BK301 := Aside0.mk (hbox); have GW301 := Aside0.mk ((by rw [hg]; exact (bs_ HB) : w.heap.size ≤ gb301)); have GE301 := Aside0.mk ((by rw [hg]; exact (bs_ HB) : w.heap.size ≤ gb301)); replace HB := tB_ HB hb; clear hb hbox hg) | ((with_reducible refine gate_dst (N := 6) rfl ?_); refine bx_ 6 #[.slice none 0 0, .slice none 0 0, .slice none 0 0, .slice none 0 0, .slice none 0 0, .slice none 0 0, .slice none 0 0] 70 ?_; intro gb302 hg w6 hbox hb; have BK302 := Aside0.mk (hbox); have GW302 := Aside0.mk ((by rw [hg]; exact (bs_ HB) : w.heap.size ≤ gb302)); have GE302 := Aside0.mk ((by rw [hg]; exact (bs_ HB) : w.heap.size ≤ gb302)); replace HB := tB_ HB hb; have NB301_302 := Aside0.mk ((by rw [hg]; exact Nat.ne_of_lt (blk_lt (g := gb301) (o := .cells #[.slice A2_0 l2_0.length c2_0, .slice A2_1 l2_1.length c2_1, .slice A2_2 l2_2.length c2_2] 31 (0, 0)) (kx_ BK301.out)) : gb301 ≠ gb302)); have NB302_301 := Aside0.mk ((by rw [hg]; exact Nat.ne_of_gt (blk_lt (g := gb301) (o := .cells #[.slice A2_0 l2_0.length c2_0, .slice A2_1 l2_1.length c2_1, .slice A2_2 l2_2.length c2_2] 31 (0, 0)) (kx_ BK301.out)) : gb302 ≠ gb301)); replace BK301 := tK_ BK301 hb; clear hb hbox hg))
 (try simp only [Act.put, List.setIfInBounds_toArray, List.set_cons_zero, List.set_cons_succ])
 go_cut [28] (fun v28 wc => ∃ (kq : Nat) (x28_3 : Bool), v28 = .bool x28_3 ∧ Aside0 (impl_measureOf.j0 kq l0 l1 x28_3 l2_0 l2_1 l2_2 = some (r1, r2, r3, r4, r5, r6, r7, r8)) ∧ Aside0 (kq ≤ k) ∧ Aside0 (wc.heap[gb301]? = some (.cells #[(.slice A2_0 l2_0.length c2_0), (.slice A2_1 l2_1.length c2_1), (.slice A2_2 l2_2.length c2_2)] 31 (0, 0))) ∧ Aside0 (wc.heap[gb302]? = some (.cells #[(.slice none 0 0), (.slice none 0 0), (.slice none 0 0), (.slice none 0 0), (.slice none 0 0), (.slice none 0 0), (.slice none 0 0)] 70 (0, 0))) ∧ Aside0 (Below w.heap.size w wc))
 case first =>
  have H := HC4.out
  clear HC4
  replace H := Option.bind_eq_some_iff.mp H
  obtain ⟨t303, A70, H⟩ := H
  try dsimp only at H
  have A7 := Aside0.mk A70
  clear A70
  by_cases c8 : t303 = true
  ·subst c8
   have H1 : ((impl_TreeOk.f k l1).bind fun t304 => (if t304 = true then ((impl_CostOk.f k l2_0 l2_1 l2_2).bind fun t305 => (impl_measureOf.j0 k l0 l1 (!t305) l2_0 l2_1 l2_2)) else (impl_measureOf.j0 k l0 l1 true l2_0 l2_1 l2_2))) = some (r1, r2, r3, r4, r5, r6, r7, r8) := by rw [if_pos rfl] at H; exact H
   clear H
   have H := H1
   clear H1
   replace H := Option.bind_eq_some_iff.mp H
   obtain ⟨t304, A90, H⟩ := H
   try dsimp only at H
   have A9 := Aside0.mk A90
   clear A90
   by_cases c10 : t304 = true
   ·subst c10
    have H1 : ((impl_CostOk.f k l2_0 l2_1 l2_2).bind fun t305 => (impl_measureOf.j0 k l0 l1 (!t305) l2_0 l2_1 l2_2)) = some (r1, r2, r3, r4, r5, r6, r7, r8) := by rw [if_pos rfl] at H; exact H
    clear H
    have H := H1
    clear H1
    replace H := Option.bind_eq_some_iff.mp H
    obtain ⟨t305, A110, H⟩ := H
    replace H : (impl_measureOf.j0 k l0 l1 (!t305) l2_0 l2_1 l2_2) = some (r1, r2, r3, r4, r5, r6, r7, r8) := H
    have A11 := Aside0.mk A110
    clear A110
    have H' := Aside0.mk H
    clear H
    go_wp2_with (first | ((with_reducible refine gate_callee (f := 82) rfl ?_); refine gL_ (some 17) Try.func82 #[.slice A0 l0.length c0] ?_; (with_reducible refine (impl_TreeOk.calls k _ _ l0 true _ (cx_ HR0 HB) HC0.out A7.out).mono ?_); rintro e w12 ⟨rfl, hb⟩; refine ⟨_, rfl, ?_⟩; replace BK301 := tK_ BK301 hb; replace BK302 := tK_ BK302 hb; replace HB := tB_ HB hb; (try clear hb)) | (go_at_call 82; (with_reducible refine (impl_TreeOk.calls k _ _ l1 true _ (cx_ HR1 HB) HC1.out A9.out).mono ?_); rintro e w13 ⟨rfl, hb⟩; replace BK301 := tK_ BK301 hb; replace BK302 := tK_ BK302 hb; replace HB := tB_ HB hb; (try clear hb); have hnb14 := NB301_302.out; have hnc14 := NB302_301.out; obtain ⟨hcz15_0, hcz15_1, hcz15_2, hfz15_0, hfz15_1, hfz15_2⟩ := bk3_ BK301) | (go_at_call 74; (with_reducible refine (impl_CostOk.calls k _ _ l2_0 _ _ l2_1 _ _ l2_2 t305 _ (cx_ HR2_0 HB) HC2_0.out (cx_ HR2_1 HB) HC2_1.out (cx_ HR2_2 HB) HC2_2.out A11.out).mono ?_); rintro e w16 ⟨rfl, hb⟩; replace BK301 := tK_ BK301 hb; replace BK302 := tK_ BK302 hb; replace HB := tB_ HB hb; (try clear hb)))
    go_meet
    case rel => exact ⟨_, (!t305), eb_, H', ⟨by first | omega | exact Nat.le_refl _⟩, ⟨kx_ BK301.out⟩, ⟨kx_ BK302.out⟩, bl_ HB⟩
   ·replace c10 := Bool.eq_false_iff.mpr c10
    subst c10
    have H1 : (impl_measureOf.j0 k l0 l1 true l2_0 l2_1 l2_2) = some (r1, r2, r3, r4, r5, r6, r7, r8) := by rw [if_neg (show ¬ (false = true) by decide)] at H; exact H
    clear H
    have H := H1
    clear H1
    have H' := Aside0.mk H
    clear H
    go_wp2_with (first | ((with_reducible refine gate_callee (f := 82) rfl ?_); refine gL_ (some 17) Try.func82 #[.slice A0 l0.length c0] ?_; (with_reducible refine (impl_TreeOk.calls k _ _ l0 true _ (cx_ HR0 HB) HC0.out A7.out).mono ?_); rintro e w17 ⟨rfl, hb⟩; refine ⟨_, rfl, ?_⟩; replace BK301 := tK_ BK301 hb; replace BK302 := tK_ BK302 hb; replace HB := tB_ HB hb; (try clear hb)) | (go_at_call 82; (with_reducible refine (impl_TreeOk.calls k _ _ l1 false _ (cx_ HR1 HB) HC1.out A9.out).mono ?_); rintro e w18 ⟨rfl, hb⟩; replace BK301 := tK_ BK301 hb; replace BK302 := tK_ BK302 hb; replace HB := tB_ HB hb; (try clear hb)))
    go_meet
    case rel => exact ⟨_, (true), eb_, H', ⟨by first | omega | exact Nat.le_refl _⟩, ⟨kx_ BK301.out⟩, ⟨kx_ BK302.out⟩, bl_ HB⟩
  ·replace c8 := Bool.eq_false_iff.mpr c8
   subst c8
   have H1 : (impl_measureOf.j0 k l0 l1 true l2_0 l2_1 l2_2) = some (r1, r2, r3, r4, r5, r6, r7, r8) := by rw [if_neg (show ¬ (false = true) by decide)] at H; exact H
   clear H
   have H := H1
   clear H1
   have H' := Aside0.mk H
   clear H
   go_wp2_with (first | ((with_reducible refine gate_callee (f := 82) rfl ?_); refine gL_ (some 17) Try.func82 #[.slice A0 l0.length c0] ?_; (with_reducible refine (impl_TreeOk.calls k _ _ l0 false _ (cx_ HR0 HB) HC0.out A7.out).mono ?_); rintro e w19 ⟨rfl, hb⟩; refine ⟨_, rfl, ?_⟩; replace BK301 := tK_ BK301 hb; replace BK302 := tK_ BK302 hb; replace HB := tB_ HB hb; (try clear hb)))
   go_meet
   case rel => exact ⟨_, (true), eb_, H', ⟨by first | omega | exact Nat.le_refl _⟩, ⟨kx_ BK301.out⟩, ⟨kx_ BK302.out⟩, bl_ HB⟩
 case rest =>
  clear HC4
  try clear c1
  try clear c2
  try clear p2
  try clear c5
  try clear c8
  try clear c10
  try clear c14
  try clear hcz15_0
  try clear hcz15_1
  try clear hcz15_2
  try clear hfz15_0
  try clear hfz15_1
  try clear hfz15_2
  obtain ⟨kq, x28_3, rfl, HA, HJ3, BK301, BK302, HB⟩ := hcut
  cases kq with
  | zero => exact absurd HA.out (by simp [impl_measureOf.j0])
  | succ kj3 =>
   have H := HA.out
   clear HA
   simp only [impl_measureOf.j0] at H
   by_cases c20 : x28_3 = true
   ·subst c20
    have H1 : (some (([] : List Int), ([] : List Int), ([] : List Int), ([] : List Int), ([] : List Int), ([] : List Int), ([] : List (List Int)), false)) = some (r1, r2, r3, r4, r5, r6, r7, r8) := by rw [if_pos rfl] at H; exact H
    clear H
    have H := H1
    clear H1
    simp only [Option.some.injEq, Prod.mk.injEq] at H
    obtain ⟨rfl, rfl, rfl, rfl, rfl, rfl, rfl, rfl⟩ := H
    have hnb21 := NB302_301.out
    have hnc21 := NB301_302.out
    have hcz22_0 : wc.cell? ⟨gb302, 0, none⟩ = some (.slice none 0 0) := (blk_cell BK302.out 0).trans rfl
    have hcz22_1 : wc.cell? ⟨gb302, 1, none⟩ = some (.slice none 0 0) := (blk_cell BK302.out 1).trans rfl
    have hcz22_2 : wc.cell? ⟨gb302, 2, none⟩ = some (.slice none 0 0) := (blk_cell BK302.out 2).trans rfl
    have hcz22_3 : wc.cell? ⟨gb302, 3, none⟩ = some (.slice none 0 0) := (blk_cell BK302.out 3).trans rfl
    have hcz22_4 : wc.cell? ⟨gb302, 4, none⟩ = some (.slice none 0 0) := (blk_cell BK302.out 4).trans rfl
    have hcz22_5 : wc.cell? ⟨gb302, 5, none⟩ = some (.slice none 0 0) := (blk_cell BK302.out 5).trans rfl
    have hcz22_6 : wc.cell? ⟨gb302, 6, none⟩ = some (.slice none 0 0) := (blk_cell BK302.out 6).trans rfl
    have hfz22_0 := blk_frozen BK302.out 0
    have hfz22_1 := blk_frozen BK302.out 1
    have hfz22_2 := blk_frozen BK302.out 2
    have hfz22_3 := blk_frozen BK302.out 3
    have hfz22_4 := blk_frozen BK302.out 4
    have hfz22_5 := blk_frozen BK302.out 5
    have hfz22_6 := blk_frozen BK302.out 6
    go_wp2
    refine bodyPost_ret (results_ct rfl _ _ gb302 70 #[.slice none 0 0, .slice none 0 0, .slice none 0 0, .slice none 0 0, .slice none 0 0, .slice none 0 0, .slice none 0 0] (0, 0) _ rfl (by (with_reducible repeat (first | refine blk_drewN ?_ _ | refine blk_drew ?_ | refine blk_alloc ?_ _)); refine blk_put (cs := #[.slice none 0 0, .slice none 0 0, .slice none 0 0, .slice none 0 0, .slice none 0 0, .slice none 0 0, .slice none 0 0]) ?_ 6 _ rfl; (with_reducible repeat (first | refine blk_drewN ?_ _ | refine blk_drew ?_ | refine blk_alloc ?_ _)); refine blk_put (cs := #[.slice none 0 0, .slice none 0 0, .slice none 0 0, .slice none 0 0, .slice none 0 0, .slice none 0 0, .slice none 0 0]) ?_ 5 _ rfl; (with_reducible repeat (first | refine blk_drewN ?_ _ | refine blk_drew ?_ | refine blk_alloc ?_ _)); refine blk_put (cs := #[.slice none 0 0, .slice none 0 0, .slice none 0 0, .slice none 0 0, .slice none 0 0, .slice none 0 0, .slice none 0 0]) ?_ 4 _ rfl; (with_reducible repeat (first | refine blk_drewN ?_ _ | refine blk_drew ?_ | refine blk_alloc ?_ _)); refine blk_put (cs := #[.slice none 0 0, .slice none 0 0, .slice none 0 0, .slice none 0 0, .slice none 0 0, .slice none 0 0, .slice none 0 0]) ?_ 3 _ rfl; (with_reducible repeat (first | refine blk_drewN ?_ _ | refine blk_drew ?_ | refine blk_alloc ?_ _)); refine blk_put (cs := #[.slice none 0 0, .slice none 0 0, .slice none 0 0, .slice none 0 0, .slice none 0 0, .slice none 0 0, .slice none 0 0]) ?_ 2 _ rfl; (with_reducible repeat (first | refine blk_drewN ?_ _ | refine blk_drew ?_ | refine blk_alloc ?_ _)); refine blk_put (cs := #[.slice none 0 0, .slice none 0 0, .slice none 0 0, .slice none 0 0, .slice none 0 0, .slice none 0 0, .slice none 0 0]) ?_ 1 _ rfl; (with_reducible repeat (first | refine blk_drewN ?_ _ | refine blk_drew ?_ | refine blk_alloc ?_ _)); refine blk_put (cs := #[.slice none 0 0, .slice none 0 0, .slice none 0 0, .slice none 0 0, .slice none 0 0, .slice none 0 0, .slice none 0 0]) ?_ 0 _ rfl; (with_reducible repeat (first | refine blk_drewN ?_ _ | refine blk_drew ?_ | refine blk_alloc ?_ _)); exact BK302.out) Try.underlying70 rfl (by kernel_rfl)) rfl ?_
    exact ⟨_, _, _, _, _, _, _, by first | rfl | (simp [errW_none, errW_some] <;> rfl) | (simp [*, errW_none, errW_some] <;> rfl), by first | exact Kd.R_nil _ _ _ _ _ | exact Kd.N_nil _ _ _ _ _ | exact Kd.V_nil _ _ _ _ _ | exact Kd.Q_nil _ _ _ _ _ | exact Kd.S_nil _ _ _ _ _, by first | exact Kd.R_nil _ _ _ _ _ | exact Kd.N_nil _ _ _ _ _ | exact Kd.V_nil _ _ _ _ _ | exact Kd.Q_nil _ _ _ _ _ | exact Kd.S_nil _ _ _ _ _, by first | exact Kd.R_nil _ _ _ _ _ | exact Kd.N_nil _ _ _ _ _ | exact Kd.V_nil _ _ _ _ _ | exact Kd.Q_nil _ _ _ _ _ | exact Kd.S_nil _ _ _ _ _, by first | exact Kd.R_nil _ _ _ _ _ | exact Kd.N_nil _ _ _ _ _ | exact Kd.V_nil _ _ _ _ _ | exact Kd.Q_nil _ _ _ _ _ | exact Kd.S_nil _ _ _ _ _, by first | exact Kd.R_nil _ _ _ _ _ | exact Kd.N_nil _ _ _ _ _ | exact Kd.V_nil _ _ _ _ _ | exact Kd.Q_nil _ _ _ _ _ | exact Kd.S_nil _ _ _ _ _, by first | exact Kd.R_nil _ _ _ _ _ | exact Kd.N_nil _ _ _ _ _ | exact Kd.V_nil _ _ _ _ _ | exact Kd.Q_nil _ _ _ _ _ | exact Kd.S_nil _ _ _ _ _, by first | exact Kd.S_nil _ _ _ _ _ | exact Kd.N_nil _ _ _ _ _ | exact Kd.V_nil _ _ _ _ _ | exact Kd.Q_nil _ _ _ _ _ | exact Kd.R_nil _ _ _ _ _, by repeat (first | (with_reducible first | exact HB.out | apply below_alloc | apply pw_below_drewN | apply below_drew1 | refine below_set ?_ GE301.out | refine below_set ?_ GE302.out) | exact HB.out)⟩
   ·replace c20 := Bool.eq_false_iff.mpr c20
    subst c20
    have H1 : ((impl_PostOrder.f kj3 l0).bind fun t306 => ((impl_PostOrder.f kj3 l1).bind fun t309 => ((impl_LeftLeaf.f kj3 l0).bind fun t312 => ((impl_LeftLeaf.f kj3 l1).bind fun t315 => (impl_measureOf.l0 kj3 l0 l1 t309 (t309.length : Int) 0 l2_0 l2_1 l2_2 t306 t309 t312 t315 ([] : List Int)))))) = some (r1, r2, r3, r4, r5, r6, r7, r8) := by rw [if_neg (show ¬ (false = true) by decide)] at H; exact H
    clear H
    have H := H1
    clear H1
    replace H := Option.bind_eq_some_iff.mp H
    obtain ⟨t306, A230, H⟩ := H
    try dsimp only at H
    have A23 := Aside0.mk A230
    clear A230
    replace H := Option.bind_eq_some_iff.mp H
    obtain ⟨t309, A240, H⟩ := H
    try dsimp only at H
    have A24 := Aside0.mk A240
    clear A240
    replace H := Option.bind_eq_some_iff.mp H
    obtain ⟨t312, A250, H⟩ := H
    try dsimp only at H
    have A25 := Aside0.mk A250
    clear A250
    replace H := Option.bind_eq_some_iff.mp H
    obtain ⟨t315, A260, H⟩ := H
    try dsimp only at H
    have A26 := Aside0.mk A260
    clear A260
    have H' := Aside0.mk H
    clear H
    go_wp2_with (first | ((with_reducible refine gate_callee (f := 83) rfl ?_); refine gL_ (some 31) Try.func83 #[.slice A0 l0.length c0] ?_; (with_reducible refine (impl_PostOrder.calls kj3 _ _ l0 t306 _ (cx_ HR0 HB) HC0.out A23.out).mono ?_); rintro e w27 ⟨v307, rfl, ho0, hb⟩; refine ⟨_, rfl, ?_⟩; have HO308 := Aside0.mk (Kd.R_lower ho0 (bs_ HB)); replace BK301 := tK_ BK301 hb; replace BK302 := tK_ BK302 hb; replace HB := tB_ HB hb; (try clear hb); (try clear ho0)) | ((with_reducible refine gate_callee (f := 83) rfl ?_); refine gL_ (some 33) Try.func83 #[.slice A1 l1.length c1] ?_; (with_reducible refine (impl_PostOrder.calls kj3 _ _ l1 t309 _ (cx_ HR1 HB) HC1.out A24.out).mono ?_); rintro e w28 ⟨v310, rfl, ho0, hb⟩; refine ⟨_, rfl, ?_⟩; have HO311 := Aside0.mk (Kd.R_lower (Kd.R_new' ho0 (Kd.R_lt (rx_ HO308.out))) (bs_ HB)); replace HO308 := Aside0.mk (Kd.R_elder' (rx_ HO308.out) (Kd.R_base ho0) hb); replace BK301 := tK_ BK301 hb; replace BK302 := tK_ BK302 hb; replace HB := tB_ HB hb; (try clear hb); (try clear ho0)) | ((with_reducible refine gate_callee (f := 84) rfl ?_); refine gL_ (some 35) Try.func84 #[.slice A0 l0.length c0] ?_; (with_reducible refine (impl_LeftLeaf.calls kj3 _ _ l0 t312 _ (cx_ HR0 HB) HC0.out A25.out).mono ?_); rintro e w29 ⟨v313, rfl, ho0, hb⟩; refine ⟨_, rfl, ?_⟩; have HO314 := Aside0.mk (Kd.R_lower (Kd.R_new' (Kd.R_new' ho0 (Kd.R_lt (rx_ HO308.out))) (Kd.R_lt (rx_ HO311.out))) (bs_ HB)); replace HO308 := Aside0.mk (Kd.R_elder' (rx_ HO308.out) (Kd.R_base ho0) hb); replace HO311 := Aside0.mk (Kd.R_elder' (rx_ HO311.out) (Kd.R_base ho0) hb); replace BK301 := tK_ BK301 hb; replace BK302 := tK_ BK302 hb; replace HB := tB_ HB hb; (try clear hb); (try clear ho0)) | ((with_reducible refine gate_callee (f := 84) rfl ?_); refine gL_ (some 37) Try.func84 #[.slice A1 l1.length c1] ?_; (with_reducible refine (impl_LeftLeaf.calls kj3 _ _ l1 t315 _ (cx_ HR1 HB) HC1.out A26.out).mono ?_); rintro e w30 ⟨v316, rfl, ho0, hb⟩; refine ⟨_, rfl, ?_⟩; have HO317 := Aside0.mk (Kd.R_lower (Kd.R_new' (Kd.R_new' (Kd.R_new' ho0 (Kd.R_lt (rx_ HO308.out))) (Kd.R_lt (rx_ HO311.out))) (Kd.R_lt (rx_ HO314.out))) (bs_ HB)); replace HO308 := Aside0.mk (Kd.R_elder' (rx_ HO308.out) (Kd.R_base ho0) hb); replace HO311 := Aside0.mk (Kd.R_elder' (rx_ HO311.out) (Kd.R_base ho0) hb); replace HO314 := Aside0.mk (Kd.R_elder' (rx_ HO314.out) (Kd.R_base ho0) hb); replace BK301 := tK_ BK301 hb; replace BK302 := tK_ BK302 hb; replace HB := tB_ HB hb; (try clear hb); (try clear ho0); obtain ⟨Ao31, co31, eo31⟩ := Kd.R_slice HO317.out; subst eo31; obtain ⟨Ao32, co32, eo32⟩ := Kd.R_slice HO314.out; subst eo32; obtain ⟨Ao33, co33, eo33⟩ := Kd.R_slice HO311.out; subst eo33; obtain ⟨Ao34, co34, eo34⟩ := Kd.R_slice HO308.out; subst eo34) | ((with_reducible refine gate_dst (N := 8) rfl ?_); refine bx_ 8 #[.slice none 0 0, .slice none 0 0, .slice none 0 0, .slice none 0 0, .slice none 0 0, .slice none 0 0, .slice none 0 0] 70 ?_; intro gb318 hg w35 hbox hb; replace HO308 := tR_ HO308 hb; replace HO311 := tR_ HO311 hb; replace HO314 := tR_ HO314 hb; replace HO317 := tR_ HO317 hb; have BK318 := Aside0.mk (hbox); have GW318 := Aside0.mk ((by rw [hg]; exact (bs_ HB) : w.heap.size ≤ gb318)); have GE318 := Aside0.mk ((by rw [hg]; exact (bs_ HB) : w.heap.size ≤ gb318)); replace HB := tB_ HB hb; have NB301_318 := Aside0.mk ((by rw [hg]; exact Nat.ne_of_lt (blk_lt (g := gb301) (o := .cells #[.slice A2_0 l2_0.length c2_0, .slice A2_1 l2_1.length c2_1, .slice A2_2 l2_2.length c2_2] 31 (0, 0)) (kx_ BK301.out)) : gb301 ≠ gb318)); have NB318_301 := Aside0.mk ((by rw [hg]; exact Nat.ne_of_gt (blk_lt (g := gb301) (o := .cells #[.slice A2_0 l2_0.length c2_0, .slice A2_1 l2_1.length c2_1, .slice A2_2 l2_2.length c2_2] 31 (0, 0)) (kx_ BK301.out)) : gb318 ≠ gb301)); replace BK301 := tK_ BK301 hb; have NB302_318 := Aside0.mk ((by rw [hg]; exact Nat.ne_of_lt (blk_lt (g := gb302) (o := .cells #[.slice none 0 0, .slice none 0 0, .slice none 0 0, .slice none 0 0, .slice none 0 0, .slice none 0 0, .slice none 0 0] 70 (0, 0)) (kx_ BK302.out)) : gb302 ≠ gb318)); have NB318_302 := Aside0.mk ((by rw [hg]; exact Nat.ne_of_gt (blk_lt (g := gb302) (o := .cells #[.slice none 0 0, .slice none 0 0, .slice none 0 0, .slice none 0 0, .slice none 0 0, .slice none 0 0, .slice none 0 0] 70 (0, 0)) (kx_ BK302.out)) : gb318 ≠ gb302)); replace BK302 := tK_ BK302 hb; clear hb hbox hg; have hnb36 := NB318_301.out; have hnc36 := NB301_318.out; have hnb37 := NB318_302.out; have hnc37 := NB302_318.out; have hcz38_0 : w35.cell? ⟨gb318, 0, none⟩ = some (.slice none 0 0) := (blk_cell BK318.out 0).trans rfl; have hcz38_1 : w35.cell? ⟨gb318, 1, none⟩ = some (.slice none 0 0) := (blk_cell BK318.out 1).trans rfl; have hcz38_2 : w35.cell? ⟨gb318, 2, none⟩ = some (.slice none 0 0) := (blk_cell BK318.out 2).trans rfl; have hcz38_3 : w35.cell? ⟨gb318, 3, none⟩ = some (.slice none 0 0) := (blk_cell BK318.out 3).trans rfl; have hcz38_4 : w35.cell? ⟨gb318, 4, none⟩ = some (.slice none 0 0) := (blk_cell BK318.out 4).trans rfl; have hcz38_5 : w35.cell? ⟨gb318, 5, none⟩ = some (.slice none 0 0) := (blk_cell BK318.out 5).trans rfl; have hcz38_6 : w35.cell? ⟨gb318, 6, none⟩ = some (.slice none 0 0) := (blk_cell BK318.out 6).trans rfl; have hfz38_0 := blk_frozen BK318.out 0; have hfz38_1 := blk_frozen BK318.out 1; have hfz38_2 := blk_frozen BK318.out 2; have hfz38_3 := blk_frozen BK318.out 3; have hfz38_4 := blk_frozen BK318.out 4; have hfz38_5 := blk_frozen BK318.out 5; have hfz38_6 := blk_frozen BK318.out 6))
    go_loopg [42] kj3 (fun kq v42 w' => ∃ (x42_2 : Int) (x319005_2 : List Int) (u319005 : Value), v42 = .int .i64 x42_2 ∧ Aside0 (impl_measureOf.l0 kq l0 l1 t309 (t309.length : Int) x42_2 l2_0 l2_1 l2_2 t306 t309 t312 t315 x319005_2 = some (r1, r2, r3, r4, r5, r6, r7, r8)) ∧ Aside0 (kq ≤ kj3) ∧ Aside0 (Kd.R (Kd.int .i64) 3 w' w.heap.size (fun k_ => some k_ ≠ ((.slice Ao34 t306.length co34) : Value).ownBlock ∧ some k_ ≠ ((.slice Ao32 t312.length co32) : Value).ownBlock ∧ some k_ ≠ ((.slice Ao31 t315.length co31) : Value).ownBlock ∧ some k_ ≠ (u319005 : Value).ownBlock) (.slice Ao33 t309.length co33) t309) ∧ Aside0 (Kd.R (Kd.int .i64) 3 w' w.heap.size (fun k_ => some k_ ≠ ((.slice Ao33 t309.length co33) : Value).ownBlock ∧ some k_ ≠ ((.slice Ao33 t309.length co33) : Value).ownBlock ∧ some k_ ≠ ((.slice Ao32 t312.length co32) : Value).ownBlock ∧ some k_ ≠ ((.slice Ao31 t315.length co31) : Value).ownBlock ∧ some k_ ≠ (u319005 : Value).ownBlock) (.slice Ao34 t306.length co34) t306) ∧ Aside0 (Kd.R (Kd.int .i64) 3 w' w.heap.size (fun k_ => some k_ ≠ ((.slice Ao34 t306.length co34) : Value).ownBlock ∧ some k_ ≠ ((.slice Ao32 t312.length co32) : Value).ownBlock ∧ some k_ ≠ ((.slice Ao31 t315.length co31) : Value).ownBlock ∧ some k_ ≠ (u319005 : Value).ownBlock) (.slice Ao33 t309.length co33) t309) ∧ Aside0 (Kd.R (Kd.int .i64) 3 w' w.heap.size (fun k_ => some k_ ≠ ((.slice Ao33 t309.length co33) : Value).ownBlock ∧ some k_ ≠ ((.slice Ao34 t306.length co34) : Value).ownBlock ∧ some k_ ≠ ((.slice Ao33 t309.length co33) : Value).ownBlock ∧ some k_ ≠ ((.slice Ao31 t315.length co31) : Value).ownBlock ∧ some k_ ≠ (u319005 : Value).ownBlock) (.slice Ao32 t312.length co32) t312) ∧ Aside0 (Kd.R (Kd.int .i64) 3 w' w.heap.size (fun k_ => some k_ ≠ ((.slice Ao33 t309.length co33) : Value).ownBlock ∧ some k_ ≠ ((.slice Ao34 t306.length co34) : Value).ownBlock ∧ some k_ ≠ ((.slice Ao33 t309.length co33) : Value).ownBlock ∧ some k_ ≠ ((.slice Ao32 t312.length co32) : Value).ownBlock ∧ some k_ ≠ (u319005 : Value).ownBlock) (.slice Ao31 t315.length co31) t315) ∧ Aside0 (Kd.R (Kd.int .i64) 3 w' w.heap.size (fun k_ => some k_ ≠ ((.slice Ao33 t309.length co33) : Value).ownBlock ∧ some k_ ≠ ((.slice Ao34 t306.length co34) : Value).ownBlock ∧ some k_ ≠ ((.slice Ao33 t309.length co33) : Value).ownBlock ∧ some k_ ≠ ((.slice Ao32 t312.length co32) : Value).ownBlock ∧ some k_ ≠ ((.slice Ao31 t315.length co31) : Value).ownBlock) u319005 x319005_2) ∧ Aside0 (w'.heap[gb301]? = some (.cells #[(.slice A2_0 l2_0.length c2_0), (.slice A2_1 l2_1.length c2_1), (.slice A2_2 l2_2.length c2_2)] 31 (0, 0))) ∧ Aside0 (w'.heap[gb302]? = some (.cells #[(.slice none 0 0), (.slice none 0 0), (.slice none 0 0), (.slice none 0 0), (.slice none 0 0), (.slice none 0 0), (.slice none 0 0)] 70 (0, 0))) ∧ Aside0 (w'.heap[gb318]? = some (.cells #[(.slice Ao34 t306.length co34), (.slice Ao33 t309.length co33), (.slice Ao32 t312.length co32), (.slice Ao31 t315.length co31), (.slice none 0 0), u319005, (.slice none 0 0)] 70 (0, 0))) ∧ Aside0 (Below w.heap.size w w'))
    case atStart => exact ⟨(0), (([] : List Int)), (.slice none 0 0), (by first | rfl | (simp; done) | (simp [*]; done)), H', ⟨Nat.le_refl _⟩, ⟨by (with_reducible repeat (first | apply Kd.R_alloc | apply Kd.R_drewN | apply Kd.R_drew)); exact Kd.R_mono (Kd.R_far (p := ⟨gb318, 6, none⟩) (Kd.R_far (p := ⟨gb318, 5, none⟩) (Kd.R_far (p := ⟨gb318, 4, none⟩) (Kd.R_far (p := ⟨gb318, 3, none⟩) (Kd.R_far (p := ⟨gb318, 2, none⟩) (Kd.R_far (p := ⟨gb318, 1, none⟩) (Kd.R_far (p := ⟨gb318, 0, none⟩) (Kd.R_types HO311.out BK318.out (by decide)) (fun _ hk => hk.2) (.slice Ao34 t306.length co34)) (fun _ hk => hk.2) (.slice Ao33 t309.length co33)) (fun _ hk => hk.2) (.slice Ao32 t312.length co32)) (fun _ hk => hk.2) (.slice Ao31 t315.length co31)) (fun _ hk => hk.2) (.slice none 0 0)) (fun _ hk => hk.2) (.slice none 0 0)) (fun _ hk => hk.2) (.slice none 0 0)) (fun _ hk => ⟨hk.1.1.1.2, ⟨hk.1.1.2, ⟨hk.1.2, (by simp [Value.ownBlock])⟩⟩⟩)⟩, ⟨by (with_reducible repeat (first | apply Kd.R_alloc | apply Kd.R_drewN | apply Kd.R_drew)); exact Kd.R_mono (Kd.R_far (p := ⟨gb318, 6, none⟩) (Kd.R_far (p := ⟨gb318, 5, none⟩) (Kd.R_far (p := ⟨gb318, 4, none⟩) (Kd.R_far (p := ⟨gb318, 3, none⟩) (Kd.R_far (p := ⟨gb318, 2, none⟩) (Kd.R_far (p := ⟨gb318, 1, none⟩) (Kd.R_far (p := ⟨gb318, 0, none⟩) (Kd.R_types HO308.out BK318.out (by decide)) (fun _ hk => hk.2) (.slice Ao34 t306.length co34)) (fun _ hk => hk.2) (.slice Ao33 t309.length co33)) (fun _ hk => hk.2) (.slice Ao32 t312.length co32)) (fun _ hk => hk.2) (.slice Ao31 t315.length co31)) (fun _ hk => hk.2) (.slice none 0 0)) (fun _ hk => hk.2) (.slice none 0 0)) (fun _ hk => hk.2) (.slice none 0 0)) (fun _ hk => ⟨hk.1.1.1.2, ⟨hk.1.1.1.2, ⟨hk.1.1.2, ⟨hk.1.2, (by simp [Value.ownBlock])⟩⟩⟩⟩)⟩, ⟨by (with_reducible repeat (first | apply Kd.R_alloc | apply Kd.R_drewN | apply Kd.R_drew)); exact Kd.R_mono (Kd.R_far (p := ⟨gb318, 6, none⟩) (Kd.R_far (p := ⟨gb318, 5, none⟩) (Kd.R_far (p := ⟨gb318, 4, none⟩) (Kd.R_far (p := ⟨gb318, 3, none⟩) (Kd.R_far (p := ⟨gb318, 2, none⟩) (Kd.R_far (p := ⟨gb318, 1, none⟩) (Kd.R_far (p := ⟨gb318, 0, none⟩) (Kd.R_types HO311.out BK318.out (by decide)) (fun _ hk => hk.2) (.slice Ao34 t306.length co34)) (fun _ hk => hk.2) (.slice Ao33 t309.length co33)) (fun _ hk => hk.2) (.slice Ao32 t312.length co32)) (fun _ hk => hk.2) (.slice Ao31 t315.length co31)) (fun _ hk => hk.2) (.slice none 0 0)) (fun _ hk => hk.2) (.slice none 0 0)) (fun _ hk => hk.2) (.slice none 0 0)) (fun _ hk => ⟨hk.1.1.1.2, ⟨hk.1.1.2, ⟨hk.1.2, (by simp [Value.ownBlock])⟩⟩⟩)⟩, ⟨by (with_reducible repeat (first | apply Kd.R_alloc | apply Kd.R_drewN | apply Kd.R_drew)); exact Kd.R_mono (Kd.R_far (p := ⟨gb318, 6, none⟩) (Kd.R_far (p := ⟨gb318, 5, none⟩) (Kd.R_far (p := ⟨gb318, 4, none⟩) (Kd.R_far (p := ⟨gb318, 3, none⟩) (Kd.R_far (p := ⟨gb318, 2, none⟩) (Kd.R_far (p := ⟨gb318, 1, none⟩) (Kd.R_far (p := ⟨gb318, 0, none⟩) (Kd.R_types HO314.out BK318.out (by decide)) (fun _ hk => hk.2) (.slice Ao34 t306.length co34)) (fun _ hk => hk.2) (.slice Ao33 t309.length co33)) (fun _ hk => hk.2) (.slice Ao32 t312.length co32)) (fun _ hk => hk.2) (.slice Ao31 t315.length co31)) (fun _ hk => hk.2) (.slice none 0 0)) (fun _ hk => hk.2) (.slice none 0 0)) (fun _ hk => hk.2) (.slice none 0 0)) (fun _ hk => ⟨hk.1.1.2, ⟨hk.1.1.1.2, ⟨hk.1.1.2, ⟨hk.1.2, (by simp [Value.ownBlock])⟩⟩⟩⟩)⟩, ⟨by (with_reducible repeat (first | apply Kd.R_alloc | apply Kd.R_drewN | apply Kd.R_drew)); exact Kd.R_mono (Kd.R_far (p := ⟨gb318, 6, none⟩) (Kd.R_far (p := ⟨gb318, 5, none⟩) (Kd.R_far (p := ⟨gb318, 4, none⟩) (Kd.R_far (p := ⟨gb318, 3, none⟩) (Kd.R_far (p := ⟨gb318, 2, none⟩) (Kd.R_far (p := ⟨gb318, 1, none⟩) (Kd.R_far (p := ⟨gb318, 0, none⟩) (Kd.R_types HO317.out BK318.out (by decide)) (fun _ hk => hk.2) (.slice Ao34 t306.length co34)) (fun _ hk => hk.2) (.slice Ao33 t309.length co33)) (fun _ hk => hk.2) (.slice Ao32 t312.length co32)) (fun _ hk => hk.2) (.slice Ao31 t315.length co31)) (fun _ hk => hk.2) (.slice none 0 0)) (fun _ hk => hk.2) (.slice none 0 0)) (fun _ hk => hk.2) (.slice none 0 0)) (fun _ hk => ⟨hk.1.1.2, ⟨hk.1.1.1.2, ⟨hk.1.1.2, ⟨hk.1.2, (by simp [Value.ownBlock])⟩⟩⟩⟩)⟩, ⟨by first | exact Kd.R_nil _ _ _ _ _ | exact Kd.N_nil _ _ _ _ _ | exact Kd.V_nil _ _ _ _ _ | exact Kd.Q_nil _ _ _ _ _ | exact Kd.S_nil _ _ _ _ _⟩, ⟨by (with_reducible repeat (first | refine blk_drewN ?_ _ | refine blk_drew ?_ | refine blk_alloc ?_ _)); refine blk_far ?_ NB301_318.out _; (with_reducible repeat (first | refine blk_drewN ?_ _ | refine blk_drew ?_ | refine blk_alloc ?_ _)); refine blk_far ?_ NB301_318.out _; (with_reducible repeat (first | refine blk_drewN ?_ _ | refine blk_drew ?_ | refine blk_alloc ?_ _)); refine blk_far ?_ NB301_318.out _; (with_reducible repeat (first | refine blk_drewN ?_ _ | refine blk_drew ?_ | refine blk_alloc ?_ _)); refine blk_far ?_ NB301_318.out _; (with_reducible repeat (first | refine blk_drewN ?_ _ | refine blk_drew ?_ | refine blk_alloc ?_ _)); refine blk_far ?_ NB301_318.out _; (with_reducible repeat (first | refine blk_drewN ?_ _ | refine blk_drew ?_ | refine blk_alloc ?_ _)); refine blk_far ?_ NB301_318.out _; (with_reducible repeat (first | refine blk_drewN ?_ _ | refine blk_drew ?_ | refine blk_alloc ?_ _)); refine blk_far ?_ NB301_318.out _; (with_reducible repeat (first | refine blk_drewN ?_ _ | refine blk_drew ?_ | refine blk_alloc ?_ _)); exact BK301.out⟩, ⟨by (with_reducible repeat (first | refine blk_drewN ?_ _ | refine blk_drew ?_ | refine blk_alloc ?_ _)); refine blk_far ?_ NB302_318.out _; (with_reducible repeat (first | refine blk_drewN ?_ _ | refine blk_drew ?_ | refine blk_alloc ?_ _)); refine blk_far ?_ NB302_318.out _; (with_reducible repeat (first | refine blk_drewN ?_ _ | refine blk_drew ?_ | refine blk_alloc ?_ _)); refine blk_far ?_ NB302_318.out _; (with_reducible repeat (first | refine blk_drewN ?_ _ | refine blk_drew ?_ | refine blk_alloc ?_ _)); refine blk_far ?_ NB302_318.out _; (with_reducible repeat (first | refine blk_drewN ?_ _ | refine blk_drew ?_ | refine blk_alloc ?_ _)); refine blk_far ?_ NB302_318.out _; (with_reducible repeat (first | refine blk_drewN ?_ _ | refine blk_drew ?_ | refine blk_alloc ?_ _)); refine blk_far ?_ NB302_318.out _; (with_reducible repeat (first | refine blk_drewN ?_ _ | refine blk_drew ?_ | refine blk_alloc ?_ _)); refine blk_far ?_ NB302_318.out _; (with_reducible repeat (first | refine blk_drewN ?_ _ | refine blk_drew ?_ | refine blk_alloc ?_ _)); exact BK302.out⟩, ⟨by (with_reducible repeat (first | refine blk_drewN ?_ _ | refine blk_drew ?_ | refine blk_alloc ?_ _)); refine blk_put (cs := #[.slice Ao34 t306.length co34, .slice Ao33 t309.length co33, .slice Ao32 t312.length co32, .slice Ao31 t315.length co31, .slice none 0 0, .slice none 0 0, .slice none 0 0]) ?_ 6 _ rfl; (with_reducible repeat (first | refine blk_drewN ?_ _ | refine blk_drew ?_ | refine blk_alloc ?_ _)); refine blk_put (cs := #[.slice Ao34 t306.length co34, .slice Ao33 t309.length co33, .slice Ao32 t312.length co32, .slice Ao31 t315.length co31, .slice none 0 0, .slice none 0 0, .slice none 0 0]) ?_ 5 _ rfl; (with_reducible repeat (first | refine blk_drewN ?_ _ | refine blk_drew ?_ | refine blk_alloc ?_ _)); refine blk_put (cs := #[.slice Ao34 t306.length co34, .slice Ao33 t309.length co33, .slice Ao32 t312.length co32, .slice Ao31 t315.length co31, .slice none 0 0, .slice none 0 0, .slice none 0 0]) ?_ 4 _ rfl; (with_reducible repeat (first | refine blk_drewN ?_ _ | refine blk_drew ?_ | refine blk_alloc ?_ _)); refine blk_put (cs := #[.slice Ao34 t306.length co34, .slice Ao33 t309.length co33, .slice Ao32 t312.length co32, .slice none 0 0, .slice none 0 0, .slice none 0 0, .slice none 0 0]) ?_ 3 _ rfl; (with_reducible repeat (first | refine blk_drewN ?_ _ | refine blk_drew ?_ | refine blk_alloc ?_ _)); refine blk_put (cs := #[.slice Ao34 t306.length co34, .slice Ao33 t309.length co33, .slice none 0 0, .slice none 0 0, .slice none 0 0, .slice none 0 0, .slice none 0 0]) ?_ 2 _ rfl; (with_reducible repeat (first | refine blk_drewN ?_ _ | refine blk_drew ?_ | refine blk_alloc ?_ _)); refine blk_put (cs := #[.slice Ao34 t306.length co34, .slice none 0 0, .slice none 0 0, .slice none 0 0, .slice none 0 0, .slice none 0 0, .slice none 0 0]) ?_ 1 _ rfl; (with_reducible repeat (first | refine blk_drewN ?_ _ | refine blk_drew ?_ | refine blk_alloc ?_ _)); refine blk_put (cs := #[.slice none 0 0, .slice none 0 0, .slice none 0 0, .slice none 0 0, .slice none 0 0, .slice none 0 0, .slice none 0 0]) ?_ 0 _ rfl; (with_reducible repeat (first | refine blk_drewN ?_ _ | refine blk_drew ?_ | refine blk_alloc ?_ _)); exact BK318.out⟩, ⟨by repeat (first | (with_reducible first | exact HB.out | apply below_alloc | apply pw_below_drewN | apply below_drew1 | refine below_set ?_ GE301.out | refine below_set ?_ GE302.out | refine below_set ?_ GE318.out) | exact HB.out)⟩⟩
    case round =>
     clear H'
     try clear c1
     try clear c2
     try clear p2
     try clear c3
     try clear c5
     try clear c8
     try clear c10
     try clear c14
     try clear c20
     try clear c21
     try clear c36
     try clear c37
     try clear hcz15_0
     try clear hcz15_1
     try clear hcz15_2
     try clear hcz22_0
     try clear hcz22_1
     try clear hcz22_2
     try clear hcz22_3
     try clear hcz22_4
     try clear hcz22_5
     try clear hcz22_6
     try clear hcz38_0
     try clear hcz38_1
     try clear hcz38_2
     try clear hcz38_3
     try clear hcz38_4
     try clear hcz38_5
     try clear hcz38_6
     try clear hfz15_0
     try clear hfz15_1
     try clear hfz15_2
     try clear hfz22_0
     try clear hfz22_1
     try clear hfz22_2
     try clear hfz22_3
     try clear hfz22_4
     try clear hfz22_5
     try clear hfz22_6
     try clear hfz38_0
     try clear hfz38_1
     try clear hfz38_2
     try clear hfz38_3
     try clear hfz38_4
     try clear hfz38_5
     try clear hfz38_6
     try clear p2
     obtain ⟨x42_2, x319005_2, u319005, rfl, HA, HK2, HO_40, HO_319000, HO_319001, HO_319002, HO_319003, HO_319005, BK301, BK302, BK318, HB⟩ := hrel
     cases gk with
     | zero => exact absurd HA.out (by simp [impl_measureOf.l0])
     | succ k2 =>
      have H := HA.out
      clear HA
      simp only [impl_measureOf.l0] at H
      by_cases c39 : x42_2 < (t309.length : Int)
      ·rw [if_pos c39] at H
       have c39b0 : decide (x42_2 < (t309.length : Int)) = true := decide_eq_true c39
       clear c39
       by_cases c40 : 0 ≤ x42_2
       ·rw [if_pos c40] at H
        have c40b0 : decide (0 ≤ x42_2) = true := decide_eq_true c40
        clear c40
        by_cases c41 : x42_2 < (t309.length : Int)
        ·rw [if_pos c41] at H
         have c41b0 : decide (x42_2 < (t309.length : Int)) = true := decide_eq_true c41
         clear c41
         by_cases c42 : 0 ≤ (rd t309 x42_2)
         ·rw [if_pos c42] at H
          have c42b0 : decide (0 ≤ (rd t309 x42_2)) = true := decide_eq_true c42
          clear c42
          by_cases c43 : (rd t309 x42_2) < (l1.length : Int)
          ·rw [if_pos c43] at H
           have c43b0 : decide ((rd t309 x42_2) < (l1.length : Int)) = true := decide_eq_true c43
           clear c43
           by_cases c44 : 0 ≤ ((rd_T53 l1 (rd t309 x42_2)).f0)
           ·rw [if_pos c44] at H
            have c44b0 : decide (0 ≤ ((rd_T53 l1 (rd t309 x42_2)).f0)) = true := decide_eq_true c44
            clear c44
            by_cases c45 : ((rd_T53 l1 (rd t309 x42_2)).f0) < (l2_1.length : Int)
            ·rw [if_pos c45] at H
             have c45b0 : decide (((rd_T53 l1 (rd t309 x42_2)).f0) < (l2_1.length : Int)) = true := decide_eq_true c45
             clear c45
             by_cases c46 : x319005_2.length < 17592186044416
             ·rw [if_pos c46] at H
              have LMc46 := Aside0.mk c46
              clear c46
              obtain ⟨y322, hy322⟩ : ∃ y_ : List Int, y_ = (x319005_2 ++ [rd l2_1 ((rd_T53 l1 (rd t309 x42_2)).f0)]) := ⟨_, rfl⟩
              replace H : (impl_measureOf.l0 k2 l0 l1 t309 (t309.length : Int) (wrap64 (x42_2 + 1)) l2_0 l2_1 l2_2 t306 t309 t312 t315 y322) = some (r1, r2, r3, r4, r5, r6, r7, r8) := by first | (rw [hy322]; with_reducible exact H) | (have H2_ := (Option.bind_some _ _).symm.trans H; rw [hy322]; with_reducible exact H2_) | (have H2_ := (Option.bind_some _ _).symm.trans H; with_reducible exact H2_) | with_reducible exact H | (rw [hy322]; exact H) | exact H
              have Ny322 := Aside0.mk hy322
              clear hy322
              have H' := Aside0.mk H
              clear H
              have p319 : 0 ≤ (x42_2 : Int) := od_
              have q319 : x42_2 < (t309.length : Int) := od_
              obtain ⟨ad319, e319, hx319_0⟩ := Kd.at_int (Kd.R_reads' HO_40.out).2.2 x42_2 p319 q319
              cases e319
              replace p319 := eq_true p319
              replace q319 := eq_true q319
              try go_wp2
              have n0_ := Aside0.mk (Kd.R_drew HO_40.out)
              have n1_ := Aside0.mk (Kd.R_drew HO_319000.out)
              have n2_ := Aside0.mk (Kd.R_drew HO_319001.out)
              have n3_ := Aside0.mk (Kd.R_drew HO_319002.out)
              have n4_ := Aside0.mk (Kd.R_drew HO_319003.out)
              have n5_ := Aside0.mk (Kd.R_drew HO_319005.out)
              have n6_ := Aside0.mk (blk_drew BK301.out)
              have n7_ := Aside0.mk (blk_drew BK302.out)
              have n8_ := Aside0.mk (blk_drew BK318.out)
              have n9_ := Aside0.mk (below_drew1 HB.out)
              clear HO_40
              clear HO_319000
              clear HO_319001
              clear HO_319002
              clear HO_319003
              clear HO_319005
              clear BK301
              clear BK302
              clear BK318
              clear HB
              have HO_40 := n0_
              have HO_319000 := n1_
              have HO_319001 := n2_
              have HO_319002 := n3_
              have HO_319003 := n4_
              have HO_319005 := n5_
              have BK301 := n6_
              have BK302 := n7_
              have BK318 := n8_
              have HB := n9_
              clear n0_ n1_ n2_ n3_ n4_ n5_ n6_ n7_ n8_ n9_
              have p320 : 0 ≤ ((rd t309 x42_2) : Int) := od_
              have q320 : (rd t309 x42_2) < (l1.length : Int) := od_
              obtain ⟨ad320, e320, hx320_0, hx320_1⟩ := at_T53 HR1.out (rd t309 x42_2) p320 q320
              have hw320_1 := hx320_1
              have hw320_0 := hx320_0
              cases e320
              replace hx320_0 := ce_ HB hx320_0
              replace hx320_1 := ce_ HB hx320_1
              replace p320 := eq_true p320
              replace q320 := eq_true q320
              have p321 : 0 ≤ (((rd_T53 l1 (rd t309 x42_2)).f0) : Int) := od_
              have q321 : ((rd_T53 l1 (rd t309 x42_2)).f0) < (l2_1.length : Int) := od_
              obtain ⟨ad321, e321, hx321_0⟩ := Kd.at_int HR2_1.out ((rd_T53 l1 (rd t309 x42_2)).f0) p321 q321
              have hw321_0 := hx321_0
              cases e321
              replace hx321_0 := ce_ HB hx321_0
              replace p321 := eq_true p321
              replace q321 := eq_true q321
              refine start_ (n := 15) (S := fun w' => w'.cell? ⟨gb318, 0, none⟩ = some (.slice Ao34 t306.length co34) ∧ w'.cell? ⟨gb318, 1, none⟩ = some (.slice (some ad319) t309.length co33) ∧ w'.cell? ⟨gb318, 2, none⟩ = some (.slice Ao32 t312.length co32) ∧ w'.cell? ⟨gb318, 3, none⟩ = some (.slice Ao31 t315.length co31) ∧ w'.cell? ⟨gb318, 4, none⟩ = some (.slice none 0 0) ∧ w'.cell? ⟨gb318, 5, none⟩ = some (u319005) ∧ w'.cell? ⟨gb318, 6, none⟩ = some (.slice none 0 0) ∧ w'.cell? ⟨gb301, 0, none⟩ = some (.slice A2_0 l2_0.length c2_0) ∧ w'.cell? ⟨gb301, 1, none⟩ = some (.slice (some ad321) l2_1.length c2_1) ∧ w'.cell? ⟨gb301, 2, none⟩ = some (.slice A2_2 l2_2.length c2_2) ∧ w'.cell? (ad320.add (((rd t309 x42_2)).toNat * 2)) = some (.int .i64 ((rd_T53 l1 (rd t309 x42_2)).f0)) ∧ w'.cell? ⟨(ad320.add (((rd t309 x42_2)).toNat * 2)).block, (ad320.add (((rd t309 x42_2)).toNat * 2)).off + 1, none⟩ = some (.int .i64 ((rd_T53 l1 (rd t309 x42_2)).f1)) ∧ w'.cell? (ad321.add (((rd_T53 l1 (rd t309 x42_2)).f0)).toNat) = some (.int .i64 (rd l2_1 ((rd_T53 l1 (rd t309 x42_2)).f0)))) (ds := [14]) (ba_ 15 0) (by kernel_rfl) rfl rfl ⟨(blk_cell BK318.out 0).trans rfl, (blk_cell BK318.out 1).trans rfl, (blk_cell BK318.out 2).trans rfl, (blk_cell BK318.out 3).trans rfl, (blk_cell BK318.out 4).trans rfl, (blk_cell BK318.out 5).trans rfl, (blk_cell BK318.out 6).trans rfl, (blk_cell BK301.out 0).trans rfl, (blk_cell BK301.out 1).trans rfl, (blk_cell BK301.out 2).trans rfl, (ce_ HB hw320_0), (ce_ HB hw320_1), (ce_ HB hw321_0)⟩ (fun hHeld => ?_); refine with_tabW impl_measureOf.tab7 impl_measureOf.bits7 (fun HT_ HW_ => ?_)
              generalize wr.drew = w47 at HO_40 HO_319000 HO_319001 HO_319002 HO_319003 HO_319005 BK301 BK302 BK318 HB hx320_0 hx320_1 hx321_0 hHeld ⊢
              refine pu_ 0 (some 46) (ba_ 15 1) rfl rfl (any_of HT_.out (by kernel_rfl)) ?_
              refine pu_ 2 (some 48) (ba_ 15 5) rfl rfl (any_of HT_.out (by kernel_rfl)) ?_
              refine pu_ 4 (some 50) (ba_ 15 21) rfl rfl (any_of HT_.out (by kernel_rfl)) ?_
              refine pu_ 5 (some 51) (ba_ 15 53) rfl rfl (any_of HT_.out (by kernel_rfl)) ?_
              refine pu_ 6 (some 52) (ba_ 15 117) rfl rfl (any_of HT_.out (by kernel_rfl)) ?_
              refine pu_ 7 (some 53) (ba_ 15 245) rfl rfl (any_of HT_.out (by kernel_rfl)) ?_
              refine ta_ 1 (some 47) (ba_ 15 247) rfl rfl (take_ofW HT_.out HW_.out (by kernel_rfl)) hHeld (by rintro w' ⟨s0, s1, s2, s3, s4, s5, s6, s7, s8, s9, s10, s11, s12⟩; go_simp; with_reducible rfl) ?_
              refine ta_ 3 (some 49) (ba_ 15 255) rfl rfl (take_ofW HT_.out HW_.out (by kernel_rfl)) hHeld (by rintro w' ⟨s0, s1, s2, s3, s4, s5, s6, s7, s8, s9, s10, s11, s12⟩; go_simp; with_reducible rfl) ?_
              refine ta_ 8 (some 54) (ba_ 15 511) rfl rfl (take_ofW HT_.out HW_.out (by kernel_rfl)) hHeld (by rintro w' ⟨s0, s1, s2, s3, s4, s5, s6, s7, s8, s9, s10, s11, s12⟩; go_simp; with_reducible rfl) ?_
              refine pu_ 9 (some 55) (ba_ 15 1023) rfl rfl (any_of HT_.out (by kernel_rfl)) ?_
              refine ta_ 10 (some 56) (ba_ 15 2047) rfl rfl (take_ofW HT_.out HW_.out (by kernel_rfl)) hHeld (by rintro w' ⟨s0, s1, s2, s3, s4, s5, s6, s7, s8, s9, s10, s11, s12⟩; go_simp; with_reducible rfl) ?_
              refine one_ (i := 11) (N := some 57) (ba_ 15 4095) rfl rfl (one_of HT_.out (by kernel_rfl)) (by decide) (fun K hK => ?_)
              refine value_ (w1 := ?_) (v := ?_) (by rfl) rfl ?_ ?_
              rotate_left 2
              ·go_simp
               constructor
               ·rfl
               ·rfl
              refine hK.out _ _ ⟨(blk_cell (blk_alloc BK318.out _) 0).trans rfl, (blk_cell (blk_alloc BK318.out _) 1).trans rfl, (blk_cell (blk_alloc BK318.out _) 2).trans rfl, (blk_cell (blk_alloc BK318.out _) 3).trans rfl, (blk_cell (blk_alloc BK318.out _) 4).trans rfl, (blk_cell (blk_alloc BK318.out _) 5).trans rfl, (blk_cell (blk_alloc BK318.out _) 6).trans rfl, (blk_cell (blk_alloc BK301.out _) 0).trans rfl, (blk_cell (blk_alloc BK301.out _) 1).trans rfl, (blk_cell (blk_alloc BK301.out _) 2).trans rfl, (World.cell?_alloc_lt _ _ _ (World.block_lt_of_cell? _ _ ((ce_ HB hw320_0)))).trans ((ce_ HB hw320_0)), (World.cell?_alloc_lt _ _ _ (World.block_lt_of_cell? _ _ ((ce_ HB hw320_1)))).trans ((ce_ HB hw320_1)), (World.cell?_alloc_lt _ _ _ (World.block_lt_of_cell? _ _ ((ce_ HB hw321_0)))).trans ((ce_ HB hw321_0))⟩ (fun hHeld => ?_)
              clear hK K
              refine norm_ (a' := ?_) ?_ ?_
              rotate_left
              ·show Act.put _ (some 57) _ = _
               simp only [Act.put, List.setIfInBounds_toArray, List.set_cons_zero, List.set_cons_succ, i64_w, i32_w]
               rfl
              refine one_ (i := 12) (N := some 58) (ba_ 15 8191) rfl rfl (one_of HT_.out (by kernel_rfl)) (by decide) (fun K hK => ?_)
              refine Kd.R_append_step (Kd.int .i64) (w0 := w) w.heap.size (by rfl) (.tmp 47) (.tmp 57) 23 3 (.int .i64 0) 8 rfl Try.underlying23 info3 rfl (by decide) (by omega) u319005 x319005_2 (rd l2_1 ((rd_T53 l1 (rd t309 x42_2)).f0)) [.int .i64 (rd l2_1 ((rd_T53 l1 (rd t309 x42_2)).f0))] (fun k_ => some k_ ≠ (.slice (some ad319) t309.length co33 : Value).ownBlock ∧ some k_ ≠ (.slice Ao34 t306.length co34 : Value).ownBlock ∧ some k_ ≠ (.slice (some ad319) t309.length co33 : Value).ownBlock ∧ some k_ ≠ (.slice Ao32 t312.length co32 : Value).ownBlock ∧ some k_ ≠ (.slice Ao31 t315.length co31 : Value).ownBlock) (fun _ => False) rfl rfl ?aP (fun _ hk => hk.elim) ?aF ?aO ?aB ?aS ?aL ?_
              (case aP => exact rfl)
              (case aB => exact ((bl_ HB).out))
              (case aF => exact (fun k_ hk => ⟨Kd.fresh' (Kd.R_lt (rx_ HO_40.out)) k_ hk, Kd.fresh' (Kd.R_lt (rx_ HO_319000.out)) k_ hk, Kd.fresh' (Kd.R_lt (rx_ HO_319001.out)) k_ hk, Kd.fresh' (Kd.R_lt (rx_ HO_319002.out)) k_ hk, Kd.fresh' (Kd.R_lt (rx_ HO_319003.out)) k_ hk⟩))
              (case aO => exact (rx_ HO_319005.out))
              (case aS => exact (bs_ HB))
              (case aL => have := LMc46.out; omega)
              intro v323 w48 ho hb hg hat
              rw [← Ny322.out] at ho
              have n0_ := Aside0.mk (Kd.R_after (ok := (fun k_ => some k_ ≠ (.slice Ao34 t306.length co34 : Value).ownBlock ∧ some k_ ≠ (.slice Ao32 t312.length co32 : Value).ownBlock ∧ some k_ ≠ (.slice Ao31 t315.length co31 : Value).ownBlock)) (rx_ (Kd.R_mono HO_40.out (fun _ hk => ⟨⟨hk.1, ⟨hk.2.1, hk.2.2.1⟩⟩, hk.2.2.2⟩))) hg hat)
              have n1_ := Aside0.mk (Kd.R_after (ok := (fun k_ => some k_ ≠ (.slice (some ad319) t309.length co33 : Value).ownBlock ∧ some k_ ≠ (.slice (some ad319) t309.length co33 : Value).ownBlock ∧ some k_ ≠ (.slice Ao32 t312.length co32 : Value).ownBlock ∧ some k_ ≠ (.slice Ao31 t315.length co31 : Value).ownBlock)) (rx_ (Kd.R_mono HO_319000.out (fun _ hk => ⟨⟨hk.1, ⟨hk.2.1, ⟨hk.2.2.1, hk.2.2.2.1⟩⟩⟩, hk.2.2.2.2⟩))) hg hat)
              have n2_ := Aside0.mk (Kd.R_after (ok := (fun k_ => some k_ ≠ (.slice Ao34 t306.length co34 : Value).ownBlock ∧ some k_ ≠ (.slice Ao32 t312.length co32 : Value).ownBlock ∧ some k_ ≠ (.slice Ao31 t315.length co31 : Value).ownBlock)) (rx_ (Kd.R_mono HO_319001.out (fun _ hk => ⟨⟨hk.1, ⟨hk.2.1, hk.2.2.1⟩⟩, hk.2.2.2⟩))) hg hat)
              have n3_ := Aside0.mk (Kd.R_after (ok := (fun k_ => some k_ ≠ (.slice (some ad319) t309.length co33 : Value).ownBlock ∧ some k_ ≠ (.slice Ao34 t306.length co34 : Value).ownBlock ∧ some k_ ≠ (.slice (some ad319) t309.length co33 : Value).ownBlock ∧ some k_ ≠ (.slice Ao31 t315.length co31 : Value).ownBlock)) (rx_ (Kd.R_mono HO_319002.out (fun _ hk => ⟨⟨hk.1, ⟨hk.2.1, ⟨hk.2.2.1, hk.2.2.2.1⟩⟩⟩, hk.2.2.2.2⟩))) hg hat)
              have n4_ := Aside0.mk (Kd.R_after (ok := (fun k_ => some k_ ≠ (.slice (some ad319) t309.length co33 : Value).ownBlock ∧ some k_ ≠ (.slice Ao34 t306.length co34 : Value).ownBlock ∧ some k_ ≠ (.slice (some ad319) t309.length co33 : Value).ownBlock ∧ some k_ ≠ (.slice Ao32 t312.length co32 : Value).ownBlock)) (rx_ (Kd.R_mono HO_319003.out (fun _ hk => ⟨⟨hk.1, ⟨hk.2.1, ⟨hk.2.2.1, hk.2.2.2.1⟩⟩⟩, hk.2.2.2.2⟩))) hg hat)
              have n5_ := Aside0.mk (blk_grown (g := gb301) (o := .cells #[.slice A2_0 l2_0.length c2_0, .slice (some ad321) l2_1.length c2_1, .slice A2_2 l2_2.length c2_2] 31 (0, 0)) (kx_ BK301.out) hg (Kd.R_ne HO_319005.out BK301.out (by decide)))
              have n6_ := Aside0.mk (blk_grown (g := gb302) (o := .cells #[.slice none 0 0, .slice none 0 0, .slice none 0 0, .slice none 0 0, .slice none 0 0, .slice none 0 0, .slice none 0 0] 70 (0, 0)) (kx_ BK302.out) hg (Kd.R_ne HO_319005.out BK302.out (by decide)))
              have n7_ := Aside0.mk (blk_grown (g := gb318) (o := .cells #[.slice Ao34 t306.length co34, .slice (some ad319) t309.length co33, .slice Ao32 t312.length co32, .slice Ao31 t315.length co31, .slice none 0 0, u319005, .slice none 0 0] 70 (0, 0)) (kx_ BK318.out) hg (Kd.R_ne HO_319005.out BK318.out (by decide)))
              have n8_ := Aside0.mk (hb)
              have n9_ := Aside0.mk (ho)
              clear HO_40
              clear HO_319000
              clear HO_319001
              clear HO_319002
              clear HO_319003
              clear BK301
              clear BK302
              clear BK318
              clear HB
              clear HO_319005
              have HO_40 := n0_
              have HO_319000 := n1_
              have HO_319001 := n2_
              have HO_319002 := n3_
              have HO_319003 := n4_
              have BK301 := n5_
              have BK302 := n6_
              have BK318 := n7_
              have HB := n8_
              have HO324 := n9_
              clear n0_ n1_ n2_ n3_ n4_ n5_ n6_ n7_ n8_ n9_
              clear ho hb hg hat
              obtain ⟨Ao49, co49, eo49⟩ := Kd.R_slice HO324.out
              (first | subst eo49 | (injection eo49 with f1_ f2_ f3_; have f4_ := f1_.symm; have f5_ := f3_.symm; clear f1_ f2_ f3_; subst f4_; subst f5_))
              refine hK.out _ _ ⟨(blk_cell BK318.out 0).trans rfl, (blk_cell BK318.out 1).trans rfl, (blk_cell BK318.out 2).trans rfl, (blk_cell BK318.out 3).trans rfl, (blk_cell BK318.out 4).trans rfl, (blk_cell BK318.out 5).trans rfl, (blk_cell BK318.out 6).trans rfl, (blk_cell BK301.out 0).trans rfl, (blk_cell BK301.out 1).trans rfl, (blk_cell BK301.out 2).trans rfl, (ce_ HB hw320_0), (ce_ HB hw320_1), (ce_ HB hw321_0)⟩ (fun hHeld => ?_)
              clear hK K
              refine norm_ (a' := ?_) ?_ ?_
              rotate_left
              ·show Act.put _ (some 58) _ = _
               simp only [Act.put, List.setIfInBounds_toArray, List.set_cons_zero, List.set_cons_succ, i64_w, i32_w]
               rfl
              refine pu_ 13 (some 59) (ba_ 15 16383) rfl rfl (any_of HT_.out (by kernel_rfl)) ?_
              refine last_ (i := 14) (N := none) (ba_ 15 32767) rfl rfl (one_of HT_.out (by kernel_rfl)) (by decide) (fun K hK => ?_)
              have hs50 : w48.cell? ⟨gb318, 5, none⟩ = some (u319005) := (blk_cell BK318.out 5).trans rfl
              have hfs50 := blk_frozen BK318.out 5
              have hns50_0 := NB301_318.out
              have hns50_1 := NB302_318.out
              have hms50_0 := NB318_301.out
              have hms50_1 := NB318_302.out
              refine skip_ (w1 := ?_) (by rfl) rfl ?_ ?_
              rotate_left
              ·go_simp
               rfl
              refine hK.out _ _ ?_
              clear hK K
              refine done_ (done_of HT_.out (by kernel_rfl)) ?_
              try go_wp2
              go_roundg k2
              case measure => have := HJ3.out; have := HK2.out; omega
              case rel => exact ⟨(wrap64 (x42_2 + 1)), (y322), (.slice Ao49 y322.length co49), (by first | rfl | (simp; done) | (simp [*]; done)), H', ⟨by have := HJ3.out; have := HK2.out; omega⟩, ⟨by (with_reducible repeat (first | apply Kd.R_alloc | apply Kd.R_drewN | apply Kd.R_drew)); exact Kd.R_mono (Kd.R_far (p := ⟨gb318, 5, none⟩) (Kd.R_types HO_40.out BK318.out (by decide)) (fun _ hk => hk.2) (.slice Ao49 y322.length co49)) (fun _ hk => ⟨hk.1.1.1, ⟨hk.1.1.2.1, ⟨hk.1.1.2.2, hk.1.2⟩⟩⟩)⟩, ⟨by (with_reducible repeat (first | apply Kd.R_alloc | apply Kd.R_drewN | apply Kd.R_drew)); exact Kd.R_mono (Kd.R_far (p := ⟨gb318, 5, none⟩) (Kd.R_types HO_319000.out BK318.out (by decide)) (fun _ hk => hk.2) (.slice Ao49 y322.length co49)) (fun _ hk => ⟨hk.1.1.1, ⟨hk.1.1.2.1, ⟨hk.1.1.2.2.1, ⟨hk.1.1.2.2.2, hk.1.2⟩⟩⟩⟩)⟩, ⟨by (with_reducible repeat (first | apply Kd.R_alloc | apply Kd.R_drewN | apply Kd.R_drew)); exact Kd.R_mono (Kd.R_far (p := ⟨gb318, 5, none⟩) (Kd.R_types HO_319001.out BK318.out (by decide)) (fun _ hk => hk.2) (.slice Ao49 y322.length co49)) (fun _ hk => ⟨hk.1.1.1, ⟨hk.1.1.2.1, ⟨hk.1.1.2.2, hk.1.2⟩⟩⟩)⟩, ⟨by (with_reducible repeat (first | apply Kd.R_alloc | apply Kd.R_drewN | apply Kd.R_drew)); exact Kd.R_mono (Kd.R_far (p := ⟨gb318, 5, none⟩) (Kd.R_types HO_319002.out BK318.out (by decide)) (fun _ hk => hk.2) (.slice Ao49 y322.length co49)) (fun _ hk => ⟨hk.1.1.1, ⟨hk.1.1.2.1, ⟨hk.1.1.2.2.1, ⟨hk.1.1.2.2.2, hk.1.2⟩⟩⟩⟩)⟩, ⟨by (with_reducible repeat (first | apply Kd.R_alloc | apply Kd.R_drewN | apply Kd.R_drew)); exact Kd.R_mono (Kd.R_far (p := ⟨gb318, 5, none⟩) (Kd.R_types HO_319003.out BK318.out (by decide)) (fun _ hk => hk.2) (.slice Ao49 y322.length co49)) (fun _ hk => ⟨hk.1.1.1, ⟨hk.1.1.2.1, ⟨hk.1.1.2.2.1, ⟨hk.1.1.2.2.2, hk.1.2⟩⟩⟩⟩)⟩, ⟨by (with_reducible repeat (first | apply Kd.R_alloc | apply Kd.R_drewN | apply Kd.R_drew)); exact Kd.R_mono (Kd.R_far (p := ⟨gb318, 5, none⟩) (Kd.R_types HO324.out BK318.out (by decide)) (fun _ hk => hk.2) (.slice Ao49 y322.length co49)) (fun _ hk => ⟨hk.1.1, ⟨hk.1.2.1, ⟨hk.1.2.2.1, ⟨hk.1.2.2.2.1, hk.1.2.2.2.2⟩⟩⟩⟩)⟩, ⟨by (with_reducible repeat (first | refine blk_drewN ?_ _ | refine blk_drew ?_ | refine blk_alloc ?_ _)); refine blk_far ?_ NB301_318.out _; (with_reducible repeat (first | refine blk_drewN ?_ _ | refine blk_drew ?_ | refine blk_alloc ?_ _)); exact BK301.out⟩, ⟨by (with_reducible repeat (first | refine blk_drewN ?_ _ | refine blk_drew ?_ | refine blk_alloc ?_ _)); refine blk_far ?_ NB302_318.out _; (with_reducible repeat (first | refine blk_drewN ?_ _ | refine blk_drew ?_ | refine blk_alloc ?_ _)); exact BK302.out⟩, ⟨by (with_reducible repeat (first | refine blk_drewN ?_ _ | refine blk_drew ?_ | refine blk_alloc ?_ _)); refine blk_put (cs := #[.slice Ao34 t306.length co34, .slice (some ad319) t309.length co33, .slice Ao32 t312.length co32, .slice Ao31 t315.length co31, .slice none 0 0, u319005, .slice none 0 0]) ?_ 5 _ rfl; (with_reducible repeat (first | refine blk_drewN ?_ _ | refine blk_drew ?_ | refine blk_alloc ?_ _)); exact BK318.out⟩, ⟨by repeat (first | (with_reducible first | exact HB.out | apply below_alloc | apply pw_below_drewN | apply below_drew1 | refine below_set ?_ GE301.out | refine below_set ?_ GE302.out | refine below_set ?_ GE318.out) | exact HB.out)⟩⟩
             ·rw [if_neg c46] at H
              exact absurd H (by simp)
            ·rw [if_neg c45] at H
             exact absurd H (by simp)
           ·rw [if_neg c44] at H
            exact absurd H (by simp)
          ·rw [if_neg c43] at H
           exact absurd H (by simp)
         ·rw [if_neg c42] at H
          exact absurd H (by simp)
        ·rw [if_neg c41] at H
         exact absurd H (by simp)
       ·rw [if_neg c40] at H
        exact absurd H (by simp)
      ·rw [if_neg c39] at H
       have c39b0 : decide (x42_2 < (t309.length : Int)) = false := decide_eq_false c39
       clear c39
       have H' := Aside0.mk H
       clear H
       have hnb51 := NB318_301.out
       have hnc51 := NB301_318.out
       have hnb52 := NB318_302.out
       have hnc52 := NB302_318.out
       have hcz53_0 : wr.cell? ⟨gb318, 0, none⟩ = some (.slice Ao34 t306.length co34) := (blk_cell BK318.out 0).trans rfl
       have hcz53_1 : wr.cell? ⟨gb318, 1, none⟩ = some (.slice Ao33 t309.length co33) := (blk_cell BK318.out 1).trans rfl
       have hcz53_2 : wr.cell? ⟨gb318, 2, none⟩ = some (.slice Ao32 t312.length co32) := (blk_cell BK318.out 2).trans rfl
       have hcz53_3 : wr.cell? ⟨gb318, 3, none⟩ = some (.slice Ao31 t315.length co31) := (blk_cell BK318.out 3).trans rfl
       have hcz53_4 : wr.cell? ⟨gb318, 4, none⟩ = some (.slice none 0 0) := (blk_cell BK318.out 4).trans rfl
       have hcz53_5 : wr.cell? ⟨gb318, 5, none⟩ = some (u319005) := (blk_cell BK318.out 5).trans rfl
       have hcz53_6 : wr.cell? ⟨gb318, 6, none⟩ = some (.slice none 0 0) := (blk_cell BK318.out 6).trans rfl
       have hfz53_0 := blk_frozen BK318.out 0
       have hfz53_1 := blk_frozen BK318.out 1
       have hfz53_2 := blk_frozen BK318.out 2
       have hfz53_3 := blk_frozen BK318.out 3
       have hfz53_4 := blk_frozen BK318.out 4
       have hfz53_5 := blk_frozen BK318.out 5
       have hfz53_6 := blk_frozen BK318.out 6
       go_wp2
       go_loopg [64] k2 (fun kq v64 w' => ∃ (x64_3 : Int) (x319004_3 : List Int) (x319006_3 : List (List Int)) (u319004 : Value) (u319006 : Value), v64 = .int .i64 x64_3 ∧ Aside0 (impl_measureOf.l1 kq l0 l1 t306 (t306.length : Int) x64_3 l2_0 l2_1 l2_2 t306 t309 t312 t315 x319004_3 x319005_2 x319006_3 = some (r1, r2, r3, r4, r5, r6, r7, r8)) ∧ Aside0 (kq ≤ k2) ∧ Aside0 (Kd.R (Kd.int .i64) 3 w' w.heap.size (fun k_ => some k_ ≠ ((.slice Ao33 t309.length co33) : Value).ownBlock ∧ some k_ ≠ ((.slice Ao32 t312.length co32) : Value).ownBlock ∧ some k_ ≠ ((.slice Ao31 t315.length co31) : Value).ownBlock ∧ some k_ ≠ (u319004 : Value).ownBlock ∧ some k_ ≠ (u319005 : Value).ownBlock) (.slice Ao34 t306.length co34) t306) ∧ Aside0 (Kd.R (Kd.int .i64) 3 w' w.heap.size (fun k_ => some k_ ≠ ((.slice Ao33 t309.length co33) : Value).ownBlock ∧ some k_ ≠ ((.slice Ao32 t312.length co32) : Value).ownBlock ∧ some k_ ≠ ((.slice Ao31 t315.length co31) : Value).ownBlock ∧ some k_ ≠ (u319004 : Value).ownBlock ∧ some k_ ≠ (u319005 : Value).ownBlock) (.slice Ao34 t306.length co34) t306) ∧ Aside0 (Kd.R (Kd.int .i64) 3 w' w.heap.size (fun k_ => some k_ ≠ ((.slice Ao34 t306.length co34) : Value).ownBlock ∧ some k_ ≠ ((.slice Ao34 t306.length co34) : Value).ownBlock ∧ some k_ ≠ ((.slice Ao32 t312.length co32) : Value).ownBlock ∧ some k_ ≠ ((.slice Ao31 t315.length co31) : Value).ownBlock ∧ some k_ ≠ (u319004 : Value).ownBlock ∧ some k_ ≠ (u319005 : Value).ownBlock) (.slice Ao33 t309.length co33) t309) ∧ Aside0 (Kd.R (Kd.int .i64) 3 w' w.heap.size (fun k_ => some k_ ≠ ((.slice Ao34 t306.length co34) : Value).ownBlock ∧ some k_ ≠ ((.slice Ao34 t306.length co34) : Value).ownBlock ∧ some k_ ≠ ((.slice Ao33 t309.length co33) : Value).ownBlock ∧ some k_ ≠ ((.slice Ao31 t315.length co31) : Value).ownBlock ∧ some k_ ≠ (u319004 : Value).ownBlock ∧ some k_ ≠ (u319005 : Value).ownBlock) (.slice Ao32 t312.length co32) t312) ∧ Aside0 (Kd.R (Kd.int .i64) 3 w' w.heap.size (fun k_ => some k_ ≠ ((.slice Ao34 t306.length co34) : Value).ownBlock ∧ some k_ ≠ ((.slice Ao34 t306.length co34) : Value).ownBlock ∧ some k_ ≠ ((.slice Ao33 t309.length co33) : Value).ownBlock ∧ some k_ ≠ ((.slice Ao32 t312.length co32) : Value).ownBlock ∧ some k_ ≠ (u319004 : Value).ownBlock ∧ some k_ ≠ (u319005 : Value).ownBlock) (.slice Ao31 t315.length co31) t315) ∧ Aside0 (Kd.R (Kd.int .i64) 3 w' w.heap.size (fun k_ => some k_ ≠ ((.slice Ao34 t306.length co34) : Value).ownBlock ∧ some k_ ≠ ((.slice Ao34 t306.length co34) : Value).ownBlock ∧ some k_ ≠ ((.slice Ao33 t309.length co33) : Value).ownBlock ∧ some k_ ≠ ((.slice Ao32 t312.length co32) : Value).ownBlock ∧ some k_ ≠ ((.slice Ao31 t315.length co31) : Value).ownBlock ∧ some k_ ≠ (u319005 : Value).ownBlock) u319004 x319004_3) ∧ Aside0 (Kd.R (Kd.int .i64) 3 w' w.heap.size (fun k_ => some k_ ≠ ((.slice Ao34 t306.length co34) : Value).ownBlock ∧ some k_ ≠ ((.slice Ao34 t306.length co34) : Value).ownBlock ∧ some k_ ≠ ((.slice Ao33 t309.length co33) : Value).ownBlock ∧ some k_ ≠ ((.slice Ao32 t312.length co32) : Value).ownBlock ∧ some k_ ≠ ((.slice Ao31 t315.length co31) : Value).ownBlock ∧ some k_ ≠ (u319004 : Value).ownBlock) u319005 x319005_2) ∧ Aside0 (Kd.S (Kd.slice 3 (Kd.int .i64)) 23 w' w.heap.size (fun k_ => some k_ ≠ ((.slice Ao34 t306.length co34) : Value).ownBlock ∧ some k_ ≠ ((.slice Ao34 t306.length co34) : Value).ownBlock ∧ some k_ ≠ ((.slice Ao33 t309.length co33) : Value).ownBlock ∧ some k_ ≠ ((.slice Ao32 t312.length co32) : Value).ownBlock ∧ some k_ ≠ ((.slice Ao31 t315.length co31) : Value).ownBlock ∧ some k_ ≠ (u319004 : Value).ownBlock ∧ some k_ ≠ (u319005 : Value).ownBlock) u319006 x319006_3) ∧ Aside0 (w'.heap[gb301]? = some (.cells #[(.slice A2_0 l2_0.length c2_0), (.slice A2_1 l2_1.length c2_1), (.slice A2_2 l2_2.length c2_2)] 31 (0, 0))) ∧ Aside0 (w'.heap[gb302]? = some (.cells #[(.slice none 0 0), (.slice none 0 0), (.slice none 0 0), (.slice none 0 0), (.slice none 0 0), (.slice none 0 0), (.slice none 0 0)] 70 (0, 0))) ∧ Aside0 (w'.heap[gb318]? = some (.cells #[(.slice Ao34 t306.length co34), (.slice Ao33 t309.length co33), (.slice Ao32 t312.length co32), (.slice Ao31 t315.length co31), u319004, u319005, u319006] 70 (0, 0))) ∧ Aside0 (Below w.heap.size w w'))
       case atStart => exact ⟨(0), (([] : List Int)), (([] : List (List Int))), (.slice none 0 0), (.slice none 0 0), eb_, H', ⟨Nat.le_refl _⟩, ⟨rx_ (Kd.R_mono HO_319000.out (fun _ hk => ⟨hk.2.1, ⟨hk.2.2.1, ⟨hk.2.2.2.1, ⟨(by simp [Value.ownBlock]), hk.2.2.2.2⟩⟩⟩⟩))⟩, ⟨rx_ (Kd.R_mono HO_319000.out (fun _ hk => ⟨hk.2.1, ⟨hk.2.2.1, ⟨hk.2.2.2.1, ⟨(by simp [Value.ownBlock]), hk.2.2.2.2⟩⟩⟩⟩))⟩, ⟨rx_ (Kd.R_mono HO_319001.out (fun _ hk => ⟨hk.1, ⟨hk.1, ⟨hk.2.1, ⟨hk.2.2.1, ⟨(by simp [Value.ownBlock]), hk.2.2.2⟩⟩⟩⟩⟩))⟩, ⟨rx_ (Kd.R_mono HO_319002.out (fun _ hk => ⟨hk.2.1, ⟨hk.2.1, ⟨hk.2.2.1, ⟨hk.2.2.2.1, ⟨(by simp [Value.ownBlock]), hk.2.2.2.2⟩⟩⟩⟩⟩))⟩, ⟨rx_ (Kd.R_mono HO_319003.out (fun _ hk => ⟨hk.2.1, ⟨hk.2.1, ⟨hk.2.2.1, ⟨hk.2.2.2.1, ⟨(by simp [Value.ownBlock]), hk.2.2.2.2⟩⟩⟩⟩⟩))⟩, ⟨by first | exact Kd.R_nil _ _ _ _ _ | exact Kd.N_nil _ _ _ _ _ | exact Kd.V_nil _ _ _ _ _ | exact Kd.Q_nil _ _ _ _ _ | exact Kd.S_nil _ _ _ _ _⟩, ⟨rx_ (Kd.R_mono HO_319005.out (fun _ hk => ⟨hk.2.1, ⟨hk.2.1, ⟨hk.2.2.1, ⟨hk.2.2.2.1, ⟨hk.2.2.2.2, (by simp [Value.ownBlock])⟩⟩⟩⟩⟩))⟩, ⟨by first | exact Kd.S_nil _ _ _ _ _ | exact Kd.N_nil _ _ _ _ _ | exact Kd.V_nil _ _ _ _ _ | exact Kd.Q_nil _ _ _ _ _ | exact Kd.R_nil _ _ _ _ _⟩, ⟨kx_ BK301.out⟩, ⟨kx_ BK302.out⟩, ⟨kx_ BK318.out⟩, bl_ HB⟩
       case round =>
        clear H'
        try clear c1
        try clear c2
        try clear p2
        try clear c3
        try clear p3
        try clear q3
        try clear hx3
        try clear c4
        try clear c5
        try clear p6
        try clear c8
        try clear c10
        try clear c14
        try clear c20
        try clear c21
        try clear p31
        try clear q31
        try clear hx31
        try clear p32
        try clear q32
        try clear hx32
        try clear c36
        try clear c37
        try clear c39
        try clear c39b0
        try clear c40
        try clear c40b0
        try clear c41
        try clear c41b0
        try clear c42
        try clear c42b0
        try clear c43
        try clear c43b0
        try clear c44
        try clear c44b0
        try clear c45
        try clear c45b0
        try clear c46
        try clear c51
        try clear c52
        try clear hcz15_0
        try clear hcz15_1
        try clear hcz15_2
        try clear hcz22_0
        try clear hcz22_1
        try clear hcz22_2
        try clear hcz22_3
        try clear hcz22_4
        try clear hcz22_5
        try clear hcz22_6
        try clear hcz38_0
        try clear hcz38_1
        try clear hcz38_2
        try clear hcz38_3
        try clear hcz38_4
        try clear hcz38_5
        try clear hcz38_6
        try clear hcz53_0
        try clear hcz53_1
        try clear hcz53_2
        try clear hcz53_3
        try clear hcz53_4
        try clear hcz53_5
        try clear hcz53_6
        try clear hfz15_0
        try clear hfz15_1
        try clear hfz15_2
        try clear hfz22_0
        try clear hfz22_1
        try clear hfz22_2
        try clear hfz22_3
        try clear hfz22_4
        try clear hfz22_5
        try clear hfz22_6
        try clear hfz38_0
        try clear hfz38_1
        try clear hfz38_2
        try clear hfz38_3
        try clear hfz38_4
        try clear hfz38_5
        try clear hfz38_6
        try clear hfz53_0
        try clear hfz53_1
        try clear hfz53_2
        try clear hfz53_3
        try clear hfz53_4
        try clear hfz53_5
        try clear hfz53_6
        try clear hx319_0
        try clear hx320_0
        try clear hx320_1
        try clear hx321_0
        try clear p2
        try clear p319
        try clear p320
        try clear p321
        try clear q319
        try clear q320
        try clear q321
        obtain ⟨x64_3, x319004_3, x319006_3, u319004, u319006, rfl, HA, HK3, HO_62, HO_319000, HO_319001, HO_319002, HO_319003, HO_319004, HO_319005, HO_319006, BK301, BK302, BK318, HB⟩ := hrel
        cases gk with
        | zero => exact absurd HA.out (by simp [impl_measureOf.l1])
        | succ k3 =>
         have H := HA.out
         clear HA
         simp only [impl_measureOf.l1] at H
         by_cases c54 : x64_3 < (t306.length : Int)
         ·rw [if_pos c54] at H
          have c54b0 : decide (x64_3 < (t306.length : Int)) = true := decide_eq_true c54
          clear c54
          by_cases c55 : 0 ≤ x64_3
          ·rw [if_pos c55] at H
           have c55b0 : decide (0 ≤ x64_3) = true := decide_eq_true c55
           clear c55
           by_cases c56 : x64_3 < (t306.length : Int)
           ·rw [if_pos c56] at H
            have c56b0 : decide (x64_3 < (t306.length : Int)) = true := decide_eq_true c56
            clear c56
            by_cases c57 : 0 ≤ (rd t306 x64_3)
            ·rw [if_pos c57] at H
             have c57b0 : decide (0 ≤ (rd t306 x64_3)) = true := decide_eq_true c57
             clear c57
             by_cases c58 : (rd t306 x64_3) < (l0.length : Int)
             ·rw [if_pos c58] at H
              have c58b0 : decide ((rd t306 x64_3) < (l0.length : Int)) = true := decide_eq_true c58
              clear c58
              by_cases c59 : 0 ≤ ((rd_T53 l0 (rd t306 x64_3)).f0)
              ·rw [if_pos c59] at H
               have c59b0 : decide (0 ≤ ((rd_T53 l0 (rd t306 x64_3)).f0)) = true := decide_eq_true c59
               clear c59
               by_cases c60 : ((rd_T53 l0 (rd t306 x64_3)).f0) < (l2_0.length : Int)
               ·rw [if_pos c60] at H
                have c60b0 : decide (((rd_T53 l0 (rd t306 x64_3)).f0) < (l2_0.length : Int)) = true := decide_eq_true c60
                clear c60
                by_cases c61 : x319004_3.length < 17592186044416
                ·rw [if_pos c61] at H
                 have LMc61 := Aside0.mk c61
                 clear c61
                 obtain ⟨y328, hy328⟩ : ∃ y_ : List Int, y_ = (x319004_3 ++ [rd l2_0 ((rd_T53 l0 (rd t306 x64_3)).f0)]) := ⟨_, rfl⟩
                 replace H : (impl_measureOf.l2 k3 l0 l1 (rd t306 x64_3) (([] : List Int)) t306 (t306.length : Int) x64_3 t309 (t309.length : Int) 0 l2_0 l2_1 l2_2 t306 t309 t312 t315 y328 x319005_2 x319006_3) = some (r1, r2, r3, r4, r5, r6, r7, r8) := by first | (rw [hy328]; with_reducible exact H) | (have H2_ := (Option.bind_some _ _).symm.trans H; rw [hy328]; with_reducible exact H2_) | (have H2_ := (Option.bind_some _ _).symm.trans H; with_reducible exact H2_) | with_reducible exact H | (rw [hy328]; exact H) | exact H
                 have Ny328 := Aside0.mk hy328
                 clear hy328
                 obtain ⟨y331, hy331⟩ : ∃ y_ : List Int, y_ = (([] : List Int)) := ⟨_, rfl⟩
                 replace H : (impl_measureOf.l2 k3 l0 l1 (rd t306 x64_3) y331 t306 (t306.length : Int) x64_3 t309 (t309.length : Int) 0 l2_0 l2_1 l2_2 t306 t309 t312 t315 y328 x319005_2 x319006_3) = some (r1, r2, r3, r4, r5, r6, r7, r8) := by first | (rw [hy331]; with_reducible exact H) | (have H2_ := (Option.bind_some _ _).symm.trans H; rw [hy331]; with_reducible exact H2_) | (have H2_ := (Option.bind_some _ _).symm.trans H; with_reducible exact H2_) | with_reducible exact H | (rw [hy331]; exact H) | exact H
                 have Ny331 := Aside0.mk hy331
                 clear hy331
                 have H' := Aside0.mk H
                 clear H
                 have p325 : 0 ≤ (x64_3 : Int) := od_
                 have q325 : x64_3 < (t306.length : Int) := od_
                 obtain ⟨ad325, e325, hx325_0⟩ := Kd.at_int (Kd.R_reads' HO_62.out).2.2 x64_3 p325 q325
                 cases e325
                 replace p325 := eq_true p325
                 replace q325 := eq_true q325
                 try go_wp2
                 have n0_ := Aside0.mk (Kd.R_drew HO_62.out)
                 have n1_ := Aside0.mk (Kd.R_drew HO_319000.out)
                 have n2_ := Aside0.mk (Kd.R_drew HO_319001.out)
                 have n3_ := Aside0.mk (Kd.R_drew HO_319002.out)
                 have n4_ := Aside0.mk (Kd.R_drew HO_319003.out)
                 have n5_ := Aside0.mk (Kd.R_drew HO_319004.out)
                 have n6_ := Aside0.mk (Kd.R_drew HO_319005.out)
                 have n7_ := Aside0.mk (Kd.S_drew HO_319006.out)
                 have n8_ := Aside0.mk (blk_drew BK301.out)
                 have n9_ := Aside0.mk (blk_drew BK302.out)
                 have n10_ := Aside0.mk (blk_drew BK318.out)
                 have n11_ := Aside0.mk (below_drew1 HB.out)
                 clear HO_62
                 clear HO_319000
                 clear HO_319001
                 clear HO_319002
                 clear HO_319003
                 clear HO_319004
                 clear HO_319005
                 clear HO_319006
                 clear BK301
                 clear BK302
                 clear BK318
                 clear HB
                 have HO_62 := n0_
                 have HO_319000 := n1_
                 have HO_319001 := n2_
                 have HO_319002 := n3_
                 have HO_319003 := n4_
                 have HO_319004 := n5_
                 have HO_319005 := n6_
                 have HO_319006 := n7_
                 have BK301 := n8_
                 have BK302 := n9_
                 have BK318 := n10_
                 have HB := n11_
                 clear n0_ n1_ n2_ n3_ n4_ n5_ n6_ n7_ n8_ n9_ n10_ n11_
                 have p326 : 0 ≤ ((rd t306 x64_3) : Int) := od_
                 have q326 : (rd t306 x64_3) < (l0.length : Int) := od_
                 obtain ⟨ad326, e326, hx326_0, hx326_1⟩ := at_T53 HR0.out (rd t306 x64_3) p326 q326
                 have hw326_1 := hx326_1
                 have hw326_0 := hx326_0
                 cases e326
                 replace hx326_0 := ce_ HB hx326_0
                 replace hx326_1 := ce_ HB hx326_1
                 replace p326 := eq_true p326
                 replace q326 := eq_true q326
                 have p327 : 0 ≤ (((rd_T53 l0 (rd t306 x64_3)).f0) : Int) := od_
                 have q327 : ((rd_T53 l0 (rd t306 x64_3)).f0) < (l2_0.length : Int) := od_
                 obtain ⟨ad327, e327, hx327_0⟩ := Kd.at_int HR2_0.out ((rd_T53 l0 (rd t306 x64_3)).f0) p327 q327
                 have hw327_0 := hx327_0
                 cases e327
                 replace hx327_0 := ce_ HB hx327_0
                 replace p327 := eq_true p327
                 replace q327 := eq_true q327
                 refine start_ (n := 15) (S := fun w' => w'.cell? ⟨gb318, 0, none⟩ = some (.slice (some ad325) t306.length co34) ∧ w'.cell? ⟨gb318, 1, none⟩ = some (.slice Ao33 t309.length co33) ∧ w'.cell? ⟨gb318, 2, none⟩ = some (.slice Ao32 t312.length co32) ∧ w'.cell? ⟨gb318, 3, none⟩ = some (.slice Ao31 t315.length co31) ∧ w'.cell? ⟨gb318, 4, none⟩ = some (u319004) ∧ w'.cell? ⟨gb318, 5, none⟩ = some (u319005) ∧ w'.cell? ⟨gb318, 6, none⟩ = some (u319006) ∧ w'.cell? ⟨gb301, 0, none⟩ = some (.slice (some ad327) l2_0.length c2_0) ∧ w'.cell? ⟨gb301, 1, none⟩ = some (.slice A2_1 l2_1.length c2_1) ∧ w'.cell? ⟨gb301, 2, none⟩ = some (.slice A2_2 l2_2.length c2_2) ∧ w'.cell? (ad326.add (((rd t306 x64_3)).toNat * 2)) = some (.int .i64 ((rd_T53 l0 (rd t306 x64_3)).f0)) ∧ w'.cell? ⟨(ad326.add (((rd t306 x64_3)).toNat * 2)).block, (ad326.add (((rd t306 x64_3)).toNat * 2)).off + 1, none⟩ = some (.int .i64 ((rd_T53 l0 (rd t306 x64_3)).f1)) ∧ w'.cell? (ad327.add (((rd_T53 l0 (rd t306 x64_3)).f0)).toNat) = some (.int .i64 (rd l2_0 ((rd_T53 l0 (rd t306 x64_3)).f0)))) (ds := [14]) (ba_ 15 0) (by kernel_rfl) rfl rfl ⟨(blk_cell BK318.out 0).trans rfl, (blk_cell BK318.out 1).trans rfl, (blk_cell BK318.out 2).trans rfl, (blk_cell BK318.out 3).trans rfl, (blk_cell BK318.out 4).trans rfl, (blk_cell BK318.out 5).trans rfl, (blk_cell BK318.out 6).trans rfl, (blk_cell BK301.out 0).trans rfl, (blk_cell BK301.out 1).trans rfl, (blk_cell BK301.out 2).trans rfl, (ce_ HB hw326_0), (ce_ HB hw326_1), (ce_ HB hw327_0)⟩ (fun hHeld => ?_); refine with_tabW impl_measureOf.tab12 impl_measureOf.bits12 (fun HT_ HW_ => ?_)
                 generalize wr.drew = w62 at HO_62 HO_319000 HO_319001 HO_319002 HO_319003 HO_319004 HO_319005 HO_319006 BK301 BK302 BK318 HB hx326_0 hx326_1 hx327_0 hHeld ⊢
                 refine pu_ 0 (some 68) (ba_ 15 1) rfl rfl (any_of HT_.out (by kernel_rfl)) ?_
                 refine pu_ 2 (some 70) (ba_ 15 5) rfl rfl (any_of HT_.out (by kernel_rfl)) ?_
                 refine pu_ 4 (some 72) (ba_ 15 21) rfl rfl (any_of HT_.out (by kernel_rfl)) ?_
                 refine pu_ 5 (some 73) (ba_ 15 53) rfl rfl (any_of HT_.out (by kernel_rfl)) ?_
                 refine pu_ 6 (some 74) (ba_ 15 117) rfl rfl (any_of HT_.out (by kernel_rfl)) ?_
                 refine pu_ 7 (some 75) (ba_ 15 245) rfl rfl (any_of HT_.out (by kernel_rfl)) ?_
                 refine ta_ 1 (some 69) (ba_ 15 247) rfl rfl (take_ofW HT_.out HW_.out (by kernel_rfl)) hHeld (by rintro w' ⟨s0, s1, s2, s3, s4, s5, s6, s7, s8, s9, s10, s11, s12⟩; go_simp; with_reducible rfl) ?_
                 refine ta_ 3 (some 71) (ba_ 15 255) rfl rfl (take_ofW HT_.out HW_.out (by kernel_rfl)) hHeld (by rintro w' ⟨s0, s1, s2, s3, s4, s5, s6, s7, s8, s9, s10, s11, s12⟩; go_simp; with_reducible rfl) ?_
                 refine ta_ 8 (some 76) (ba_ 15 511) rfl rfl (take_ofW HT_.out HW_.out (by kernel_rfl)) hHeld (by rintro w' ⟨s0, s1, s2, s3, s4, s5, s6, s7, s8, s9, s10, s11, s12⟩; go_simp; with_reducible rfl) ?_
                 refine pu_ 9 (some 77) (ba_ 15 1023) rfl rfl (any_of HT_.out (by kernel_rfl)) ?_
                 refine ta_ 10 (some 78) (ba_ 15 2047) rfl rfl (take_ofW HT_.out HW_.out (by kernel_rfl)) hHeld (by rintro w' ⟨s0, s1, s2, s3, s4, s5, s6, s7, s8, s9, s10, s11, s12⟩; go_simp; with_reducible rfl) ?_
                 refine one_ (i := 11) (N := some 79) (ba_ 15 4095) rfl rfl (one_of HT_.out (by kernel_rfl)) (by decide) (fun K hK => ?_)
                 refine value_ (w1 := ?_) (v := ?_) (by rfl) rfl ?_ ?_
                 rotate_left 2
                 ·go_simp
                  constructor
                  ·rfl
                  ·rfl
                 refine hK.out _ _ ⟨(blk_cell (blk_alloc BK318.out _) 0).trans rfl, (blk_cell (blk_alloc BK318.out _) 1).trans rfl, (blk_cell (blk_alloc BK318.out _) 2).trans rfl, (blk_cell (blk_alloc BK318.out _) 3).trans rfl, (blk_cell (blk_alloc BK318.out _) 4).trans rfl, (blk_cell (blk_alloc BK318.out _) 5).trans rfl, (blk_cell (blk_alloc BK318.out _) 6).trans rfl, (blk_cell (blk_alloc BK301.out _) 0).trans rfl, (blk_cell (blk_alloc BK301.out _) 1).trans rfl, (blk_cell (blk_alloc BK301.out _) 2).trans rfl, (World.cell?_alloc_lt _ _ _ (World.block_lt_of_cell? _ _ ((ce_ HB hw326_0)))).trans ((ce_ HB hw326_0)), (World.cell?_alloc_lt _ _ _ (World.block_lt_of_cell? _ _ ((ce_ HB hw326_1)))).trans ((ce_ HB hw326_1)), (World.cell?_alloc_lt _ _ _ (World.block_lt_of_cell? _ _ ((ce_ HB hw327_0)))).trans ((ce_ HB hw327_0))⟩ (fun hHeld => ?_)
                 clear hK K
                 refine norm_ (a' := ?_) ?_ ?_
                 rotate_left
                 ·show Act.put _ (some 79) _ = _
                  simp only [Act.put, List.setIfInBounds_toArray, List.set_cons_zero, List.set_cons_succ, i64_w, i32_w]
                  rfl
                 refine one_ (i := 12) (N := some 80) (ba_ 15 8191) rfl rfl (one_of HT_.out (by kernel_rfl)) (by decide) (fun K hK => ?_)
                 refine Kd.R_append_step (Kd.int .i64) (w0 := w) w.heap.size (by rfl) (.tmp 69) (.tmp 79) 23 3 (.int .i64 0) 8 rfl Try.underlying23 info3 rfl (by decide) (by omega) u319004 x319004_3 (rd l2_0 ((rd_T53 l0 (rd t306 x64_3)).f0)) [.int .i64 (rd l2_0 ((rd_T53 l0 (rd t306 x64_3)).f0))] (fun k_ => some k_ ≠ (.slice (some ad325) t306.length co34 : Value).ownBlock ∧ some k_ ≠ (.slice (some ad325) t306.length co34 : Value).ownBlock ∧ some k_ ≠ (.slice Ao33 t309.length co33 : Value).ownBlock ∧ some k_ ≠ (.slice Ao32 t312.length co32 : Value).ownBlock ∧ some k_ ≠ (.slice Ao31 t315.length co31 : Value).ownBlock ∧ some k_ ≠ (u319005 : Value).ownBlock) (fun _ => False) rfl rfl ?aP (fun _ hk => hk.elim) ?aF ?aO ?aB ?aS ?aL ?_
                 (case aP => exact rfl)
                 (case aB => exact ((bl_ HB).out))
                 (case aF => exact (fun k_ hk => ⟨Kd.fresh' (Kd.R_lt (rx_ HO_62.out)) k_ hk, Kd.fresh' (Kd.R_lt (rx_ HO_319000.out)) k_ hk, Kd.fresh' (Kd.R_lt (rx_ HO_319001.out)) k_ hk, Kd.fresh' (Kd.R_lt (rx_ HO_319002.out)) k_ hk, Kd.fresh' (Kd.R_lt (rx_ HO_319003.out)) k_ hk, Kd.fresh' (Kd.R_lt (rx_ HO_319005.out)) k_ hk⟩))
                 (case aO => exact (rx_ HO_319004.out))
                 (case aS => exact (bs_ HB))
                 (case aL => have := LMc61.out; omega)
                 intro v329 w63 ho hb hg hat
                 rw [← Ny328.out] at ho
                 have n0_ := Aside0.mk (Kd.R_after (ok := (fun k_ => some k_ ≠ (.slice Ao33 t309.length co33 : Value).ownBlock ∧ some k_ ≠ (.slice Ao32 t312.length co32 : Value).ownBlock ∧ some k_ ≠ (.slice Ao31 t315.length co31 : Value).ownBlock ∧ some k_ ≠ (u319005 : Value).ownBlock)) (rx_ (Kd.R_mono HO_62.out (fun _ hk => ⟨⟨hk.1, ⟨hk.2.1, ⟨hk.2.2.1, hk.2.2.2.2⟩⟩⟩, hk.2.2.2.1⟩))) hg hat)
                 have n1_ := Aside0.mk (Kd.R_after (ok := (fun k_ => some k_ ≠ (.slice Ao33 t309.length co33 : Value).ownBlock ∧ some k_ ≠ (.slice Ao32 t312.length co32 : Value).ownBlock ∧ some k_ ≠ (.slice Ao31 t315.length co31 : Value).ownBlock ∧ some k_ ≠ (u319005 : Value).ownBlock)) (rx_ (Kd.R_mono HO_319000.out (fun _ hk => ⟨⟨hk.1, ⟨hk.2.1, ⟨hk.2.2.1, hk.2.2.2.2⟩⟩⟩, hk.2.2.2.1⟩))) hg hat)
                 have n2_ := Aside0.mk (Kd.R_after (ok := (fun k_ => some k_ ≠ (.slice (some ad325) t306.length co34 : Value).ownBlock ∧ some k_ ≠ (.slice (some ad325) t306.length co34 : Value).ownBlock ∧ some k_ ≠ (.slice Ao32 t312.length co32 : Value).ownBlock ∧ some k_ ≠ (.slice Ao31 t315.length co31 : Value).ownBlock ∧ some k_ ≠ (u319005 : Value).ownBlock)) (rx_ (Kd.R_mono HO_319001.out (fun _ hk => ⟨⟨hk.1, ⟨hk.2.1, ⟨hk.2.2.1, ⟨hk.2.2.2.1, hk.2.2.2.2.2⟩⟩⟩⟩, hk.2.2.2.2.1⟩))) hg hat)
                 have n3_ := Aside0.mk (Kd.R_after (ok := (fun k_ => some k_ ≠ (.slice (some ad325) t306.length co34 : Value).ownBlock ∧ some k_ ≠ (.slice (some ad325) t306.length co34 : Value).ownBlock ∧ some k_ ≠ (.slice Ao33 t309.length co33 : Value).ownBlock ∧ some k_ ≠ (.slice Ao31 t315.length co31 : Value).ownBlock ∧ some k_ ≠ (u319005 : Value).ownBlock)) (rx_ (Kd.R_mono HO_319002.out (fun _ hk => ⟨⟨hk.1, ⟨hk.2.1, ⟨hk.2.2.1, ⟨hk.2.2.2.1, hk.2.2.2.2.2⟩⟩⟩⟩, hk.2.2.2.2.1⟩))) hg hat)
                 have n4_ := Aside0.mk (Kd.R_after (ok := (fun k_ => some k_ ≠ (.slice (some ad325) t306.length co34 : Value).ownBlock ∧ some k_ ≠ (.slice (some ad325) t306.length co34 : Value).ownBlock ∧ some k_ ≠ (.slice Ao33 t309.length co33 : Value).ownBlock ∧ some k_ ≠ (.slice Ao32 t312.length co32 : Value).ownBlock ∧ some k_ ≠ (u319005 : Value).ownBlock)) (rx_ (Kd.R_mono HO_319003.out (fun _ hk => ⟨⟨hk.1, ⟨hk.2.1, ⟨hk.2.2.1, ⟨hk.2.2.2.1, hk.2.2.2.2.2⟩⟩⟩⟩, hk.2.2.2.2.1⟩))) hg hat)
                 have n5_ := Aside0.mk (Kd.R_after (ok := (fun k_ => some k_ ≠ (.slice (some ad325) t306.length co34 : Value).ownBlock ∧ some k_ ≠ (.slice (some ad325) t306.length co34 : Value).ownBlock ∧ some k_ ≠ (.slice Ao33 t309.length co33 : Value).ownBlock ∧ some k_ ≠ (.slice Ao32 t312.length co32 : Value).ownBlock ∧ some k_ ≠ (.slice Ao31 t315.length co31 : Value).ownBlock)) (rx_ (Kd.R_mono HO_319005.out (fun _ hk => ⟨⟨hk.1, ⟨hk.2.1, ⟨hk.2.2.1, ⟨hk.2.2.2.1, hk.2.2.2.2.1⟩⟩⟩⟩, hk.2.2.2.2.2⟩))) hg hat)
                 have n6_ := Aside0.mk (Kd.S_after (ok := (fun k_ => some k_ ≠ (.slice (some ad325) t306.length co34 : Value).ownBlock ∧ some k_ ≠ (.slice (some ad325) t306.length co34 : Value).ownBlock ∧ some k_ ≠ (.slice Ao33 t309.length co33 : Value).ownBlock ∧ some k_ ≠ (.slice Ao32 t312.length co32 : Value).ownBlock ∧ some k_ ≠ (.slice Ao31 t315.length co31 : Value).ownBlock ∧ some k_ ≠ (u319005 : Value).ownBlock)) (sx_ (Kd.S_mono HO_319006.out (fun _ hk => ⟨⟨hk.1, ⟨hk.2.1, ⟨hk.2.2.1, ⟨hk.2.2.2.1, ⟨hk.2.2.2.2.1, hk.2.2.2.2.2.2⟩⟩⟩⟩⟩, hk.2.2.2.2.2.1⟩))) hg hat)
                 have n7_ := Aside0.mk (blk_grown (g := gb301) (o := .cells #[.slice (some ad327) l2_0.length c2_0, .slice A2_1 l2_1.length c2_1, .slice A2_2 l2_2.length c2_2] 31 (0, 0)) (kx_ BK301.out) hg (Kd.R_ne HO_319004.out BK301.out (by decide)))
                 have n8_ := Aside0.mk (blk_grown (g := gb302) (o := .cells #[.slice none 0 0, .slice none 0 0, .slice none 0 0, .slice none 0 0, .slice none 0 0, .slice none 0 0, .slice none 0 0] 70 (0, 0)) (kx_ BK302.out) hg (Kd.R_ne HO_319004.out BK302.out (by decide)))
                 have n9_ := Aside0.mk (blk_grown (g := gb318) (o := .cells #[.slice (some ad325) t306.length co34, .slice Ao33 t309.length co33, .slice Ao32 t312.length co32, .slice Ao31 t315.length co31, u319004, u319005, u319006] 70 (0, 0)) (by (with_reducible repeat (first | refine blk_drewN ?_ _ | refine blk_drew ?_ | refine blk_alloc ?_ _)); exact BK318.out) hg (Kd.R_ne HO_319004.out BK318.out (by decide)))
                 have n10_ := Aside0.mk (hb)
                 have n11_ := Aside0.mk (ho)
                 clear HO_62
                 clear HO_319000
                 clear HO_319001
                 clear HO_319002
                 clear HO_319003
                 clear HO_319005
                 clear HO_319006
                 clear BK301
                 clear BK302
                 clear BK318
                 clear HB
                 clear HO_319004
                 have HO_62 := n0_
                 have HO_319000 := n1_
                 have HO_319001 := n2_
                 have HO_319002 := n3_
                 have HO_319003 := n4_
                 have HO_319005 := n5_
                 have HO_319006 := n6_
                 have BK301 := n7_
                 have BK302 := n8_
                 have BK318 := n9_
                 have HB := n10_
                 have HO330 := n11_
                 clear n0_ n1_ n2_ n3_ n4_ n5_ n6_ n7_ n8_ n9_ n10_ n11_
                 clear ho hb hg hat
                 obtain ⟨Ao64, co64, eo64⟩ := Kd.R_slice HO330.out
                 (first | subst eo64 | (injection eo64 with f1_ f2_ f3_; have f4_ := f1_.symm; have f5_ := f3_.symm; clear f1_ f2_ f3_; subst f4_; subst f5_))
                 refine hK.out _ _ ⟨(blk_cell BK318.out 0).trans rfl, (blk_cell BK318.out 1).trans rfl, (blk_cell BK318.out 2).trans rfl, (blk_cell BK318.out 3).trans rfl, (blk_cell BK318.out 4).trans rfl, (blk_cell BK318.out 5).trans rfl, (blk_cell BK318.out 6).trans rfl, (blk_cell BK301.out 0).trans rfl, (blk_cell BK301.out 1).trans rfl, (blk_cell BK301.out 2).trans rfl, ((HB.out.cell (World.block_lt_of_cell? w _ hw326_0)).trans hw326_0), ((HB.out.cell (World.block_lt_of_cell? w _ hw326_1)).trans hw326_1), ((HB.out.cell (World.block_lt_of_cell? w _ hw327_0)).trans hw327_0)⟩ (fun hHeld => ?_)
                 clear hK K
                 refine norm_ (a' := ?_) ?_ ?_
                 rotate_left
                 ·show Act.put _ (some 80) _ = _
                  simp only [Act.put, List.setIfInBounds_toArray, List.set_cons_zero, List.set_cons_succ, i64_w, i32_w]
                  rfl
                 refine pu_ 13 (some 81) (ba_ 15 16383) rfl rfl (any_of HT_.out (by kernel_rfl)) ?_
                 refine last_ (i := 14) (N := none) (ba_ 15 32767) rfl rfl (one_of HT_.out (by kernel_rfl)) (by decide) (fun K hK => ?_)
                 have hs65 : w63.cell? ⟨gb318, 4, none⟩ = some (u319004) := (blk_cell BK318.out 4).trans rfl
                 have hfs65 := blk_frozen BK318.out 4
                 have hns65_0 := NB301_318.out
                 have hns65_1 := NB302_318.out
                 have hms65_0 := NB318_301.out
                 have hms65_1 := NB318_302.out
                 refine skip_ (w1 := ?_) (by rfl) rfl ?_ ?_
                 rotate_left
                 ·go_simp
                  rfl
                 refine hK.out _ _ ?_
                 clear hK K
                 refine done_ (done_of HT_.out (by kernel_rfl)) ?_
                 try go_wp2_with (first | ((with_reducible refine gate_dst (N := 82) rfl ?_); refine Kd.R_lit (Kd.int .i64) _ 3 ?hg (N := 82) ?hd (xs := ([] : List Int)) (inner := []) (ok := fun _ => True) (okp := fun _ => True) ?hr ?hp (fun _ hk => hk) trivial (Below.refl _ _) (Nat.le_refl _) (by simp) ?_; (case hd => rfl); (case hg => rfl); (case hr => first | (go_simp; done) | (go_simp; rfl)); (case hp => exact (Reps.none _ _)); intro v332 w66 ho67 hb hg_ hnew_; clear hg_ hnew_; (first | rw [← Ny331.out] at ho67 | (simp only [Int.reduceToNat] at ho67; rw [← Ny331.out] at ho67)); have n0_ := Aside0.mk (Kd.R_elder' (by (with_reducible repeat (first | apply Kd.R_alloc | apply Kd.R_drewN | apply Kd.R_drew)); exact (Kd.R_mono (Kd.R_far (p := ⟨gb318, 4, none⟩) (Kd.R_types HO_62.out BK318.out (by decide)) (fun _ hk => hk.2) (.slice Ao64 y328.length co64)) (fun _ h_ => h_.1))) (Kd.R_base ho67) hb); have n1_ := Aside0.mk (Kd.R_elder' (by (with_reducible repeat (first | apply Kd.R_alloc | apply Kd.R_drewN | apply Kd.R_drew)); exact (Kd.R_mono (Kd.R_far (p := ⟨gb318, 4, none⟩) (Kd.R_types HO_319000.out BK318.out (by decide)) (fun _ hk => hk.2) (.slice Ao64 y328.length co64)) (fun _ h_ => h_.1))) (Kd.R_base ho67) hb); have n2_ := Aside0.mk (Kd.R_elder' (by (with_reducible repeat (first | apply Kd.R_alloc | apply Kd.R_drewN | apply Kd.R_drew)); exact (Kd.R_mono (Kd.R_far (p := ⟨gb318, 4, none⟩) (Kd.R_types HO_319001.out BK318.out (by decide)) (fun _ hk => hk.2) (.slice Ao64 y328.length co64)) (fun _ h_ => h_.1))) (Kd.R_base ho67) hb); have n3_ := Aside0.mk (Kd.R_elder' (by (with_reducible repeat (first | apply Kd.R_alloc | apply Kd.R_drewN | apply Kd.R_drew)); exact (Kd.R_mono (Kd.R_far (p := ⟨gb318, 4, none⟩) (Kd.R_types HO_319002.out BK318.out (by decide)) (fun _ hk => hk.2) (.slice Ao64 y328.length co64)) (fun _ h_ => h_.1))) (Kd.R_base ho67) hb); have n4_ := Aside0.mk (Kd.R_elder' (by (with_reducible repeat (first | apply Kd.R_alloc | apply Kd.R_drewN | apply Kd.R_drew)); exact (Kd.R_mono (Kd.R_far (p := ⟨gb318, 4, none⟩) (Kd.R_types HO_319003.out BK318.out (by decide)) (fun _ hk => hk.2) (.slice Ao64 y328.length co64)) (fun _ h_ => h_.1))) (Kd.R_base ho67) hb); have n5_ := Aside0.mk (Kd.R_elder' (by (with_reducible repeat (first | apply Kd.R_alloc | apply Kd.R_drewN | apply Kd.R_drew)); exact (Kd.R_mono (Kd.R_far (p := ⟨gb318, 4, none⟩) (Kd.R_types HO_319005.out BK318.out (by decide)) (fun _ hk => hk.2) (.slice Ao64 y328.length co64)) (fun _ h_ => h_.1))) (Kd.R_base ho67) hb); have n6_ := Aside0.mk (Kd.S_elder' (by (with_reducible repeat (first | apply Kd.S_alloc | apply Kd.S_drewN | apply Kd.S_drew)); exact (Kd.S_mono (Kd.S_far (p := ⟨gb318, 4, none⟩) (Kd.S_types HO_319006.out BK318.out (by decide)) (fun _ hk => hk.2) (.slice Ao64 y328.length co64)) (fun _ h_ => h_.1))) (Kd.R_base ho67) hb); have n7_ := Aside0.mk (Kd.R_elder' (by (with_reducible repeat (first | apply Kd.R_alloc | apply Kd.R_drewN | apply Kd.R_drew)); exact (Kd.R_mono (Kd.R_far (p := ⟨gb318, 4, none⟩) (Kd.R_types HO330.out BK318.out (by decide)) (fun _ hk => hk.2) (.slice Ao64 y328.length co64)) (fun _ h_ => h_.1))) (Kd.R_base ho67) hb); have n8_ := Aside0.mk (Kd.R_lower (Kd.R_new' (Kd.R_new' (Kd.R_new' (Kd.R_new' (Kd.R_new' (Kd.R_new' (Kd.R_new' ho67 (Kd.R_lt (by (with_reducible repeat (first | apply Kd.R_alloc | apply Kd.R_drewN | apply Kd.R_drew)); exact (Kd.R_mono (Kd.R_far (p := ⟨gb318, 4, none⟩) (Kd.R_types HO_62.out BK318.out (by decide)) (fun _ hk => hk.2) (.slice Ao64 y328.length co64)) (fun _ h_ => h_.1))))) (Kd.R_lt (by (with_reducible repeat (first | apply Kd.R_alloc | apply Kd.R_drewN | apply Kd.R_drew)); exact (Kd.R_mono (Kd.R_far (p := ⟨gb318, 4, none⟩) (Kd.R_types HO_319000.out BK318.out (by decide)) (fun _ hk => hk.2) (.slice Ao64 y328.length co64)) (fun _ h_ => h_.1))))) (Kd.R_lt (by (with_reducible repeat (first | apply Kd.R_alloc | apply Kd.R_drewN | apply Kd.R_drew)); exact (Kd.R_mono (Kd.R_far (p := ⟨gb318, 4, none⟩) (Kd.R_types HO_319001.out BK318.out (by decide)) (fun _ hk => hk.2) (.slice Ao64 y328.length co64)) (fun _ h_ => h_.1))))) (Kd.R_lt (by (with_reducible repeat (first | apply Kd.R_alloc | apply Kd.R_drewN | apply Kd.R_drew)); exact (Kd.R_mono (Kd.R_far (p := ⟨gb318, 4, none⟩) (Kd.R_types HO_319002.out BK318.out (by decide)) (fun _ hk => hk.2) (.slice Ao64 y328.length co64)) (fun _ h_ => h_.1))))) (Kd.R_lt (by (with_reducible repeat (first | apply Kd.R_alloc | apply Kd.R_drewN | apply Kd.R_drew)); exact (Kd.R_mono (Kd.R_far (p := ⟨gb318, 4, none⟩) (Kd.R_types HO_319003.out BK318.out (by decide)) (fun _ hk => hk.2) (.slice Ao64 y328.length co64)) (fun _ h_ => h_.1))))) (Kd.R_lt (by (with_reducible repeat (first | apply Kd.R_alloc | apply Kd.R_drewN | apply Kd.R_drew)); exact (Kd.R_mono (Kd.R_far (p := ⟨gb318, 4, none⟩) (Kd.R_types HO_319005.out BK318.out (by decide)) (fun _ hk => hk.2) (.slice Ao64 y328.length co64)) (fun _ h_ => h_.1))))) (Kd.R_lt (by (with_reducible repeat (first | apply Kd.R_alloc | apply Kd.R_drewN | apply Kd.R_drew)); exact (Kd.R_mono (Kd.R_far (p := ⟨gb318, 4, none⟩) (Kd.R_types HO330.out BK318.out (by decide)) (fun _ hk => hk.2) (.slice Ao64 y328.length co64)) (fun _ h_ => h_.1))))) (below_size (by repeat (first | (with_reducible first | exact HB.out | apply below_alloc | apply pw_below_drewN | apply below_drew1 | refine below_set ?_ GE301.out | refine below_set ?_ GE302.out | refine below_set ?_ GE318.out) | exact HB.out)))); have n9_ := Aside0.mk (blk_below (g := gb301) (o := .cells #[.slice (some ad327) l2_0.length c2_0, .slice A2_1 l2_1.length c2_1, .slice A2_2 l2_2.length c2_2] 31 (0, 0)) (by (with_reducible repeat (first | refine blk_drewN ?_ _ | refine blk_drew ?_ | refine blk_alloc ?_ _)); refine blk_far ?_ NB301_318.out _; (with_reducible repeat (first | refine blk_drewN ?_ _ | refine blk_drew ?_ | refine blk_alloc ?_ _)); exact BK301.out) hb); have n10_ := Aside0.mk (blk_below (g := gb302) (o := .cells #[.slice none 0 0, .slice none 0 0, .slice none 0 0, .slice none 0 0, .slice none 0 0, .slice none 0 0, .slice none 0 0] 70 (0, 0)) (by (with_reducible repeat (first | refine blk_drewN ?_ _ | refine blk_drew ?_ | refine blk_alloc ?_ _)); refine blk_far ?_ NB302_318.out _; (with_reducible repeat (first | refine blk_drewN ?_ _ | refine blk_drew ?_ | refine blk_alloc ?_ _)); exact BK302.out) hb); have n11_ := Aside0.mk (blk_below (g := gb318) (o := .cells #[.slice (some ad325) t306.length co34, .slice Ao33 t309.length co33, .slice Ao32 t312.length co32, .slice Ao31 t315.length co31, .slice Ao64 y328.length co64, u319005, u319006] 70 (0, 0)) (by (with_reducible repeat (first | refine blk_drewN ?_ _ | refine blk_drew ?_ | refine blk_alloc ?_ _)); refine blk_put (cs := #[.slice (some ad325) t306.length co34, .slice Ao33 t309.length co33, .slice Ao32 t312.length co32, .slice Ao31 t315.length co31, u319004, u319005, u319006]) ?_ 4 _ rfl; (with_reducible repeat (first | refine blk_drewN ?_ _ | refine blk_drew ?_ | refine blk_alloc ?_ _)); exact BK318.out) hb); have n12_ := Aside0.mk (below_step (by repeat (first | (with_reducible first | exact HB.out | apply below_alloc | apply pw_below_drewN | apply below_drew1 | refine below_set ?_ GE301.out | refine below_set ?_ GE302.out | refine below_set ?_ GE318.out) | exact HB.out)) hb); clear HO_62; clear HO_319000; clear HO_319001; clear HO_319002; clear HO_319003; clear HO_319005; clear HO_319006; clear HO330; clear BK301; clear BK302; clear BK318; clear HB; have HO_62 := n0_; have HO_319000 := n1_; have HO_319001 := n2_; have HO_319002 := n3_; have HO_319003 := n4_; have HO_319005 := n5_; have HO_319006 := n6_; have HO330 := n7_; have HO333 := n8_; have BK301 := n9_; have BK302 := n10_; have BK318 := n11_; have HB := n12_; clear n0_ n1_ n2_ n3_ n4_ n5_ n6_ n7_ n8_ n9_ n10_ n11_ n12_; clear hb ho67; have hnb68 := NB318_301.out; have hnc68 := NB301_318.out; have hnb69 := NB318_302.out; have hnc69 := NB302_318.out; have hcz70_0 : w66.cell? ⟨gb318, 0, none⟩ = some (.slice (some ad325) t306.length co34) := (blk_cell BK318.out 0).trans rfl; have hcz70_1 : w66.cell? ⟨gb318, 1, none⟩ = some (.slice Ao33 t309.length co33) := (blk_cell BK318.out 1).trans rfl; have hcz70_2 : w66.cell? ⟨gb318, 2, none⟩ = some (.slice Ao32 t312.length co32) := (blk_cell BK318.out 2).trans rfl; have hcz70_3 : w66.cell? ⟨gb318, 3, none⟩ = some (.slice Ao31 t315.length co31) := (blk_cell BK318.out 3).trans rfl; have hcz70_4 : w66.cell? ⟨gb318, 4, none⟩ = some (.slice Ao64 y328.length co64) := (blk_cell BK318.out 4).trans rfl; have hcz70_5 : w66.cell? ⟨gb318, 5, none⟩ = some (u319005) := (blk_cell BK318.out 5).trans rfl; have hcz70_6 : w66.cell? ⟨gb318, 6, none⟩ = some (u319006) := (blk_cell BK318.out 6).trans rfl; have hfz70_0 := blk_frozen BK318.out 0; have hfz70_1 := blk_frozen BK318.out 1; have hfz70_2 := blk_frozen BK318.out 2; have hfz70_3 := blk_frozen BK318.out 3; have hfz70_4 := blk_frozen BK318.out 4; have hfz70_5 := blk_frozen BK318.out 5; have hfz70_6 := blk_frozen BK318.out 6))
                 go_loopg [13, 86] k3 (fun kq v13 v86 w' => ∃ (x13_4 : List Int) (x86_4 : Int), v86 = .int .i64 x86_4 ∧ Aside0 (impl_measureOf.l2 kq l0 l1 (rd t306 x64_3) x13_4 t306 (t306.length : Int) x64_3 t309 (t309.length : Int) x86_4 l2_0 l2_1 l2_2 t306 t309 t312 t315 y328 x319005_2 x319006_3 = some (r1, r2, r3, r4, r5, r6, r7, r8)) ∧ Aside0 (kq ≤ k3) ∧ Aside0 (Kd.R (Kd.int .i64) 3 w' w.heap.size (fun k_ => some k_ ≠ ((.slice (some ad325) t306.length co34) : Value).ownBlock ∧ some k_ ≠ ((.slice Ao33 t309.length co33) : Value).ownBlock ∧ some k_ ≠ ((.slice (some ad325) t306.length co34) : Value).ownBlock ∧ some k_ ≠ ((.slice Ao33 t309.length co33) : Value).ownBlock ∧ some k_ ≠ ((.slice Ao32 t312.length co32) : Value).ownBlock ∧ some k_ ≠ ((.slice Ao31 t315.length co31) : Value).ownBlock ∧ some k_ ≠ ((.slice Ao64 y328.length co64) : Value).ownBlock ∧ some k_ ≠ (u319005 : Value).ownBlock) v13 x13_4) ∧ Aside0 (Kd.R (Kd.int .i64) 3 w' w.heap.size (fun k_ => some k_ ≠ (v13 : Value).ownBlock ∧ some k_ ≠ ((.slice Ao33 t309.length co33) : Value).ownBlock ∧ some k_ ≠ ((.slice Ao33 t309.length co33) : Value).ownBlock ∧ some k_ ≠ ((.slice Ao32 t312.length co32) : Value).ownBlock ∧ some k_ ≠ ((.slice Ao31 t315.length co31) : Value).ownBlock ∧ some k_ ≠ ((.slice Ao64 y328.length co64) : Value).ownBlock ∧ some k_ ≠ (u319005 : Value).ownBlock) (.slice (some ad325) t306.length co34) t306) ∧ Aside0 (Kd.R (Kd.int .i64) 3 w' w.heap.size (fun k_ => some k_ ≠ (v13 : Value).ownBlock ∧ some k_ ≠ ((.slice (some ad325) t306.length co34) : Value).ownBlock ∧ some k_ ≠ ((.slice (some ad325) t306.length co34) : Value).ownBlock ∧ some k_ ≠ ((.slice Ao32 t312.length co32) : Value).ownBlock ∧ some k_ ≠ ((.slice Ao31 t315.length co31) : Value).ownBlock ∧ some k_ ≠ ((.slice Ao64 y328.length co64) : Value).ownBlock ∧ some k_ ≠ (u319005 : Value).ownBlock) (.slice Ao33 t309.length co33) t309) ∧ Aside0 (Kd.R (Kd.int .i64) 3 w' w.heap.size (fun k_ => some k_ ≠ (v13 : Value).ownBlock ∧ some k_ ≠ ((.slice Ao33 t309.length co33) : Value).ownBlock ∧ some k_ ≠ ((.slice Ao33 t309.length co33) : Value).ownBlock ∧ some k_ ≠ ((.slice Ao32 t312.length co32) : Value).ownBlock ∧ some k_ ≠ ((.slice Ao31 t315.length co31) : Value).ownBlock ∧ some k_ ≠ ((.slice Ao64 y328.length co64) : Value).ownBlock ∧ some k_ ≠ (u319005 : Value).ownBlock) (.slice (some ad325) t306.length co34) t306) ∧ Aside0 (Kd.R (Kd.int .i64) 3 w' w.heap.size (fun k_ => some k_ ≠ (v13 : Value).ownBlock ∧ some k_ ≠ ((.slice (some ad325) t306.length co34) : Value).ownBlock ∧ some k_ ≠ ((.slice (some ad325) t306.length co34) : Value).ownBlock ∧ some k_ ≠ ((.slice Ao32 t312.length co32) : Value).ownBlock ∧ some k_ ≠ ((.slice Ao31 t315.length co31) : Value).ownBlock ∧ some k_ ≠ ((.slice Ao64 y328.length co64) : Value).ownBlock ∧ some k_ ≠ (u319005 : Value).ownBlock) (.slice Ao33 t309.length co33) t309) ∧ Aside0 (Kd.R (Kd.int .i64) 3 w' w.heap.size (fun k_ => some k_ ≠ (v13 : Value).ownBlock ∧ some k_ ≠ ((.slice (some ad325) t306.length co34) : Value).ownBlock ∧ some k_ ≠ ((.slice Ao33 t309.length co33) : Value).ownBlock ∧ some k_ ≠ ((.slice (some ad325) t306.length co34) : Value).ownBlock ∧ some k_ ≠ ((.slice Ao33 t309.length co33) : Value).ownBlock ∧ some k_ ≠ ((.slice Ao31 t315.length co31) : Value).ownBlock ∧ some k_ ≠ ((.slice Ao64 y328.length co64) : Value).ownBlock ∧ some k_ ≠ (u319005 : Value).ownBlock) (.slice Ao32 t312.length co32) t312) ∧ Aside0 (Kd.R (Kd.int .i64) 3 w' w.heap.size (fun k_ => some k_ ≠ (v13 : Value).ownBlock ∧ some k_ ≠ ((.slice (some ad325) t306.length co34) : Value).ownBlock ∧ some k_ ≠ ((.slice Ao33 t309.length co33) : Value).ownBlock ∧ some k_ ≠ ((.slice (some ad325) t306.length co34) : Value).ownBlock ∧ some k_ ≠ ((.slice Ao33 t309.length co33) : Value).ownBlock ∧ some k_ ≠ ((.slice Ao32 t312.length co32) : Value).ownBlock ∧ some k_ ≠ ((.slice Ao64 y328.length co64) : Value).ownBlock ∧ some k_ ≠ (u319005 : Value).ownBlock) (.slice Ao31 t315.length co31) t315) ∧ Aside0 (Kd.R (Kd.int .i64) 3 w' w.heap.size (fun k_ => some k_ ≠ (v13 : Value).ownBlock ∧ some k_ ≠ ((.slice (some ad325) t306.length co34) : Value).ownBlock ∧ some k_ ≠ ((.slice Ao33 t309.length co33) : Value).ownBlock ∧ some k_ ≠ ((.slice (some ad325) t306.length co34) : Value).ownBlock ∧ some k_ ≠ ((.slice Ao33 t309.length co33) : Value).ownBlock ∧ some k_ ≠ ((.slice Ao32 t312.length co32) : Value).ownBlock ∧ some k_ ≠ ((.slice Ao31 t315.length co31) : Value).ownBlock ∧ some k_ ≠ (u319005 : Value).ownBlock) (.slice Ao64 y328.length co64) y328) ∧ Aside0 (Kd.R (Kd.int .i64) 3 w' w.heap.size (fun k_ => some k_ ≠ (v13 : Value).ownBlock ∧ some k_ ≠ ((.slice (some ad325) t306.length co34) : Value).ownBlock ∧ some k_ ≠ ((.slice Ao33 t309.length co33) : Value).ownBlock ∧ some k_ ≠ ((.slice (some ad325) t306.length co34) : Value).ownBlock ∧ some k_ ≠ ((.slice Ao33 t309.length co33) : Value).ownBlock ∧ some k_ ≠ ((.slice Ao32 t312.length co32) : Value).ownBlock ∧ some k_ ≠ ((.slice Ao31 t315.length co31) : Value).ownBlock ∧ some k_ ≠ ((.slice Ao64 y328.length co64) : Value).ownBlock) u319005 x319005_2) ∧ Aside0 (Kd.S (Kd.slice 3 (Kd.int .i64)) 23 w' w.heap.size (fun k_ => some k_ ≠ (v13 : Value).ownBlock ∧ some k_ ≠ ((.slice (some ad325) t306.length co34) : Value).ownBlock ∧ some k_ ≠ ((.slice Ao33 t309.length co33) : Value).ownBlock ∧ some k_ ≠ ((.slice (some ad325) t306.length co34) : Value).ownBlock ∧ some k_ ≠ ((.slice Ao33 t309.length co33) : Value).ownBlock ∧ some k_ ≠ ((.slice Ao32 t312.length co32) : Value).ownBlock ∧ some k_ ≠ ((.slice Ao31 t315.length co31) : Value).ownBlock ∧ some k_ ≠ ((.slice Ao64 y328.length co64) : Value).ownBlock ∧ some k_ ≠ (u319005 : Value).ownBlock) u319006 x319006_3) ∧ Aside0 (w'.heap[gb301]? = some (.cells #[(.slice (some ad327) l2_0.length c2_0), (.slice A2_1 l2_1.length c2_1), (.slice A2_2 l2_2.length c2_2)] 31 (0, 0))) ∧ Aside0 (w'.heap[gb302]? = some (.cells #[(.slice none 0 0), (.slice none 0 0), (.slice none 0 0), (.slice none 0 0), (.slice none 0 0), (.slice none 0 0), (.slice none 0 0)] 70 (0, 0))) ∧ Aside0 (w'.heap[gb318]? = some (.cells #[(.slice (some ad325) t306.length co34), (.slice Ao33 t309.length co33), (.slice Ao32 t312.length co32), (.slice Ao31 t315.length co31), (.slice Ao64 y328.length co64), u319005, u319006] 70 (0, 0))) ∧ Aside0 (Below w.heap.size w w'))
                 case atStart => exact ⟨(y331), (0), eb_, H', ⟨Nat.le_refl _⟩, ⟨rx_ (Kd.R_mono HO333.out (fun _ hk => ⟨hk.1.1.1.1.1.1.2, ⟨hk.1.1.1.1.2, ⟨hk.1.1.1.1.1.2, ⟨hk.1.1.1.1.2, ⟨hk.1.1.1.2, ⟨hk.1.1.2, ⟨hk.2, hk.1.2⟩⟩⟩⟩⟩⟩⟩))⟩, ⟨rx_ (Kd.R_mono HO_62.out (fun _ hk => ⟨hk.2, ⟨hk.1.1.1, ⟨hk.1.1.1, ⟨hk.1.1.2.1, ⟨hk.1.1.2.2.1, ⟨hk.1.2, hk.1.1.2.2.2⟩⟩⟩⟩⟩⟩))⟩, ⟨rx_ (Kd.R_mono HO_319001.out (fun _ hk => ⟨hk.2, ⟨hk.1.1.1, ⟨hk.1.1.2.1, ⟨hk.1.1.2.2.1, ⟨hk.1.1.2.2.2.1, ⟨hk.1.2, hk.1.1.2.2.2.2⟩⟩⟩⟩⟩⟩))⟩, ⟨rx_ (Kd.R_mono HO_319000.out (fun _ hk => ⟨hk.2, ⟨hk.1.1.1, ⟨hk.1.1.1, ⟨hk.1.1.2.1, ⟨hk.1.1.2.2.1, ⟨hk.1.2, hk.1.1.2.2.2⟩⟩⟩⟩⟩⟩))⟩, ⟨rx_ (Kd.R_mono HO_319001.out (fun _ hk => ⟨hk.2, ⟨hk.1.1.1, ⟨hk.1.1.2.1, ⟨hk.1.1.2.2.1, ⟨hk.1.1.2.2.2.1, ⟨hk.1.2, hk.1.1.2.2.2.2⟩⟩⟩⟩⟩⟩))⟩, ⟨rx_ (Kd.R_mono HO_319002.out (fun _ hk => ⟨hk.2, ⟨hk.1.1.1, ⟨hk.1.1.2.2.1, ⟨hk.1.1.2.1, ⟨hk.1.1.2.2.1, ⟨hk.1.1.2.2.2.1, ⟨hk.1.2, hk.1.1.2.2.2.2⟩⟩⟩⟩⟩⟩⟩))⟩, ⟨rx_ (Kd.R_mono HO_319003.out (fun _ hk => ⟨hk.2, ⟨hk.1.1.1, ⟨hk.1.1.2.2.1, ⟨hk.1.1.2.1, ⟨hk.1.1.2.2.1, ⟨hk.1.1.2.2.2.1, ⟨hk.1.2, hk.1.1.2.2.2.2⟩⟩⟩⟩⟩⟩⟩))⟩, ⟨rx_ (Kd.R_mono HO330.out (fun _ hk => ⟨hk.2, ⟨hk.1.1, ⟨hk.1.2.2.1, ⟨hk.1.2.1, ⟨hk.1.2.2.1, ⟨hk.1.2.2.2.1, ⟨hk.1.2.2.2.2.1, hk.1.2.2.2.2.2⟩⟩⟩⟩⟩⟩⟩))⟩, ⟨rx_ (Kd.R_mono HO_319005.out (fun _ hk => ⟨hk.2, ⟨hk.1.1.1, ⟨hk.1.1.2.2.1, ⟨hk.1.1.2.1, ⟨hk.1.1.2.2.1, ⟨hk.1.1.2.2.2.1, ⟨hk.1.1.2.2.2.2, hk.1.2⟩⟩⟩⟩⟩⟩⟩))⟩, ⟨sx_ (Kd.S_mono HO_319006.out (fun _ hk => ⟨hk.2, ⟨hk.1.1.1, ⟨hk.1.1.2.2.1, ⟨hk.1.1.2.1, ⟨hk.1.1.2.2.1, ⟨hk.1.1.2.2.2.1, ⟨hk.1.1.2.2.2.2.1, ⟨hk.1.2, hk.1.1.2.2.2.2.2⟩⟩⟩⟩⟩⟩⟩⟩))⟩, ⟨kx_ BK301.out⟩, ⟨kx_ BK302.out⟩, ⟨kx_ BK318.out⟩, bl_ HB⟩
                 case round =>
                  clear H'
                  try clear c1
                  try clear c2
                  try clear p2
                  try clear c3
                  try clear p3
                  try clear q3
                  try clear hx3
                  try clear c4
                  try clear c5
                  try clear c6
                  try clear p6
                  try clear c8
                  try clear c10
                  try clear c14
                  try clear c20
                  try clear c21
                  try clear p31
                  try clear q31
                  try clear hx31
                  try clear p32
                  try clear q32
                  try clear hx32
                  try clear c36
                  try clear c37
                  try clear c39
                  try clear c39b0
                  try clear c40
                  try clear c40b0
                  try clear c41
                  try clear c41b0
                  try clear c42
                  try clear c42b0
                  try clear c43
                  try clear c43b0
                  try clear c44
                  try clear c44b0
                  try clear c45
                  try clear c45b0
                  try clear c46
                  try clear c51
                  try clear c52
                  try clear c54
                  try clear c54b0
                  try clear c55
                  try clear c55b0
                  try clear c56
                  try clear c56b0
                  try clear c57
                  try clear c57b0
                  try clear c58
                  try clear c58b0
                  try clear c59
                  try clear c59b0
                  try clear c60
                  try clear c60b0
                  try clear c61
                  try clear p64
                  try clear c68
                  try clear c69
                  try clear hcz15_0
                  try clear hcz15_1
                  try clear hcz15_2
                  try clear hcz22_0
                  try clear hcz22_1
                  try clear hcz22_2
                  try clear hcz22_3
                  try clear hcz22_4
                  try clear hcz22_5
                  try clear hcz22_6
                  try clear hcz38_0
                  try clear hcz38_1
                  try clear hcz38_2
                  try clear hcz38_3
                  try clear hcz38_4
                  try clear hcz38_5
                  try clear hcz38_6
                  try clear hcz53_0
                  try clear hcz53_1
                  try clear hcz53_2
                  try clear hcz53_3
                  try clear hcz53_4
                  try clear hcz53_5
                  try clear hcz53_6
                  try clear hcz70_0
                  try clear hcz70_1
                  try clear hcz70_2
                  try clear hcz70_3
                  try clear hcz70_4
                  try clear hcz70_5
                  try clear hcz70_6
                  try clear hfz15_0
                  try clear hfz15_1
                  try clear hfz15_2
                  try clear hfz22_0
                  try clear hfz22_1
                  try clear hfz22_2
                  try clear hfz22_3
                  try clear hfz22_4
                  try clear hfz22_5
                  try clear hfz22_6
                  try clear hfz38_0
                  try clear hfz38_1
                  try clear hfz38_2
                  try clear hfz38_3
                  try clear hfz38_4
                  try clear hfz38_5
                  try clear hfz38_6
                  try clear hfz53_0
                  try clear hfz53_1
                  try clear hfz53_2
                  try clear hfz53_3
                  try clear hfz53_4
                  try clear hfz53_5
                  try clear hfz53_6
                  try clear hfz70_0
                  try clear hfz70_1
                  try clear hfz70_2
                  try clear hfz70_3
                  try clear hfz70_4
                  try clear hfz70_5
                  try clear hfz70_6
                  try clear hx319_0
                  try clear hx320_0
                  try clear hx320_1
                  try clear hx321_0
                  try clear hx325_0
                  try clear hx326_0
                  try clear hx326_1
                  try clear hx327_0
                  try clear p2
                  try clear p3
                  try clear p31
                  try clear p319
                  try clear p32
                  try clear p320
                  try clear p321
                  try clear p325
                  try clear p326
                  try clear p327
                  try clear p6
                  try clear q3
                  try clear q31
                  try clear q319
                  try clear q32
                  try clear q320
                  try clear q321
                  try clear q325
                  try clear q326
                  try clear q327
                  obtain ⟨x13_4, x86_4, rfl, HA, HK4, HO_13, HO_62, HO_84, HO_319000, HO_319001, HO_319002, HO_319003, HO_319004, HO_319005, HO_319006, BK301, BK302, BK318, HB⟩ := hrel
                  cases gk with
                  | zero => exact absurd HA.out (by simp [impl_measureOf.l2])
                  | succ k4 =>
                   have H := HA.out
                   clear HA
                   simp only [impl_measureOf.l2] at H
                   by_cases c71 : x86_4 < (t309.length : Int)
                   ·rw [if_pos c71] at H
                    have c71b0 : decide (x86_4 < (t309.length : Int)) = true := decide_eq_true c71
                    clear c71
                    by_cases c72 : 0 ≤ x86_4
                    ·rw [if_pos c72] at H
                     have c72b0 : decide (0 ≤ x86_4) = true := decide_eq_true c72
                     clear c72
                     by_cases c73 : x86_4 < (t309.length : Int)
                     ·rw [if_pos c73] at H
                      have c73b0 : decide (x86_4 < (t309.length : Int)) = true := decide_eq_true c73
                      clear c73
                      by_cases c74 : 0 ≤ (rd t306 x64_3)
                      ·rw [if_pos c74] at H
                       have c74b0 : decide (0 ≤ (rd t306 x64_3)) = true := decide_eq_true c74
                       clear c74
                       by_cases c75 : (rd t306 x64_3) < (l0.length : Int)
                       ·rw [if_pos c75] at H
                        have c75b0 : decide ((rd t306 x64_3) < (l0.length : Int)) = true := decide_eq_true c75
                        clear c75
                        by_cases c76 : 0 ≤ (rd t309 x86_4)
                        ·rw [if_pos c76] at H
                         have c76b0 : decide (0 ≤ (rd t309 x86_4)) = true := decide_eq_true c76
                         clear c76
                         by_cases c77 : (rd t309 x86_4) < (l1.length : Int)
                         ·rw [if_pos c77] at H
                          have c77b0 : decide ((rd t309 x86_4) < (l1.length : Int)) = true := decide_eq_true c77
                          clear c77
                          obtain ⟨ji78, hji78⟩ : ∃ j_ : Int, (wrap64 ((wrap64 (((rd_T53 l0 (rd t306 x64_3)).f0) * 6)) + ((rd_T53 l1 (rd t309 x86_4)).f0))) = j_ := ⟨_, rfl⟩
                          replace H : (if 0 ≤ (ji78) then (if (ji78) < (l2_2.length : Int) then (if x13_4.length < 17592186044416 then (impl_measureOf.l2 k4 l0 l1 (rd t306 x64_3) (x13_4 ++ [rd l2_2 (ji78)]) t306 (t306.length : Int) x64_3 t309 (t309.length : Int) (wrap64 (x86_4 + 1)) l2_0 l2_1 l2_2 t306 t309 t312 t315 y328 x319005_2 x319006_3) else (none)) else (none)) else (none)) = some (r1, r2, r3, r4, r5, r6, r7, r8) := by first | (rw [hji78] at H; exact H) | (simp only [hji78] at H ⊢; exact H)
                          have hji78w : (IntKind.i64.wrap ((wrap64 (((rd_T53 l0 (rd t306 x64_3)).f0) * 6)) + ((rd_T53 l1 (rd t309 x86_4)).f0))) = ji78 := (i64_w _).trans hji78
                          by_cases c79 : 0 ≤ (ji78)
                          ·rw [if_pos c79] at H
                           have c79b0 : decide (0 ≤ (ji78)) = true := decide_eq_true c79
                           clear c79
                           by_cases c80 : (ji78) < (l2_2.length : Int)
                           ·rw [if_pos c80] at H
                            have c80b0 : decide ((ji78) < (l2_2.length : Int)) = true := decide_eq_true c80
                            clear c80
                            by_cases c81 : x13_4.length < 17592186044416
                            ·rw [if_pos c81] at H
                             have LMc81 := Aside0.mk c81
                             clear c81
                             obtain ⟨y338, hy338⟩ : ∃ y_ : List Int, y_ = (x13_4 ++ [rd l2_2 (ji78)]) := ⟨_, rfl⟩
                             replace H : (impl_measureOf.l2 k4 l0 l1 (rd t306 x64_3) y338 t306 (t306.length : Int) x64_3 t309 (t309.length : Int) (wrap64 (x86_4 + 1)) l2_0 l2_1 l2_2 t306 t309 t312 t315 y328 x319005_2 x319006_3) = some (r1, r2, r3, r4, r5, r6, r7, r8) := by first | (rw [hy338]; with_reducible exact H) | (have H2_ := (Option.bind_some _ _).symm.trans H; rw [hy338]; with_reducible exact H2_) | (have H2_ := (Option.bind_some _ _).symm.trans H; with_reducible exact H2_) | with_reducible exact H | (rw [hy338]; exact H) | exact H
                             have Ny338 := Aside0.mk hy338
                             clear hy338
                             have H' := Aside0.mk H
                             clear H
                             have p334 : 0 ≤ (x86_4 : Int) := od_
                             have q334 : x86_4 < (t309.length : Int) := od_
                             obtain ⟨ad334, e334, hx334_0⟩ := Kd.at_int (Kd.R_reads' HO_84.out).2.2 x86_4 p334 q334
                             cases e334
                             replace p334 := eq_true p334
                             replace q334 := eq_true q334
                             try go_wp2
                             have n0_ := Aside0.mk (Kd.R_drew HO_13.out)
                             have n1_ := Aside0.mk (Kd.R_drew HO_62.out)
                             have n2_ := Aside0.mk (Kd.R_drew HO_84.out)
                             have n3_ := Aside0.mk (Kd.R_drew HO_319000.out)
                             have n4_ := Aside0.mk (Kd.R_drew HO_319001.out)
                             have n5_ := Aside0.mk (Kd.R_drew HO_319002.out)
                             have n6_ := Aside0.mk (Kd.R_drew HO_319003.out)
                             have n7_ := Aside0.mk (Kd.R_drew HO_319004.out)
                             have n8_ := Aside0.mk (Kd.R_drew HO_319005.out)
                             have n9_ := Aside0.mk (Kd.S_drew HO_319006.out)
                             have n10_ := Aside0.mk (blk_drew BK301.out)
                             have n11_ := Aside0.mk (blk_drew BK302.out)
                             have n12_ := Aside0.mk (blk_drew BK318.out)
                             have n13_ := Aside0.mk (below_drew1 HB.out)
                             clear HO_13
                             clear HO_62
                             clear HO_84
                             clear HO_319000
                             clear HO_319001
                             clear HO_319002
                             clear HO_319003
                             clear HO_319004
                             clear HO_319005
                             clear HO_319006
                             clear BK301
                             clear BK302
                             clear BK318
                             clear HB
                             have HO_13 := n0_
                             have HO_62 := n1_
                             have HO_84 := n2_
                             have HO_319000 := n3_
                             have HO_319001 := n4_
                             have HO_319002 := n5_
                             have HO_319003 := n6_
                             have HO_319004 := n7_
                             have HO_319005 := n8_
                             have HO_319006 := n9_
                             have BK301 := n10_
                             have BK302 := n11_
                             have BK318 := n12_
                             have HB := n13_
                             clear n0_ n1_ n2_ n3_ n4_ n5_ n6_ n7_ n8_ n9_ n10_ n11_ n12_ n13_
                             have p335 : 0 ≤ ((rd t306 x64_3) : Int) := od_
                             have q335 : (rd t306 x64_3) < (l0.length : Int) := od_
                             obtain ⟨ad335, e335, hx335_0, hx335_1⟩ := at_T53 HR0.out (rd t306 x64_3) p335 q335
                             have hw335_1 := hx335_1
                             have hw335_0 := hx335_0
                             obtain rfl : ad326 = ad335 := (by injection e335)
                             replace hx335_0 := ce_ HB hx335_0
                             replace hx335_1 := ce_ HB hx335_1
                             replace p335 := eq_true p335
                             replace q335 := eq_true q335
                             have p336 : 0 ≤ ((rd t309 x86_4) : Int) := od_
                             have q336 : (rd t309 x86_4) < (l1.length : Int) := od_
                             obtain ⟨ad336, e336, hx336_0, hx336_1⟩ := at_T53 HR1.out (rd t309 x86_4) p336 q336
                             have hw336_1 := hx336_1
                             have hw336_0 := hx336_0
                             cases e336
                             replace hx336_0 := ce_ HB hx336_0
                             replace hx336_1 := ce_ HB hx336_1
                             replace p336 := eq_true p336
                             replace q336 := eq_true q336
                             have p337 : 0 ≤ ((ji78) : Int) := od_
                             have q337 : (ji78) < (l2_2.length : Int) := od_
                             obtain ⟨ad337, e337, hx337_0⟩ := Kd.at_int HR2_2.out (ji78) p337 q337
                             have hw337_0 := hx337_0
                             cases e337
                             replace hx337_0 := ce_ HB hx337_0
                             replace p337 := eq_true p337
                             replace q337 := eq_true q337
                             refine start_ (n := 20) (S := fun w' => w'.cell? ⟨gb301, 0, none⟩ = some (.slice (some ad327) l2_0.length c2_0) ∧ w'.cell? ⟨gb301, 1, none⟩ = some (.slice A2_1 l2_1.length c2_1) ∧ w'.cell? ⟨gb301, 2, none⟩ = some (.slice (some ad337) l2_2.length c2_2) ∧ w'.cell? (ad326.add (((rd t306 x64_3)).toNat * 2)) = some (.int .i64 ((rd_T53 l0 (rd t306 x64_3)).f0)) ∧ w'.cell? ⟨(ad326.add (((rd t306 x64_3)).toNat * 2)).block, (ad326.add (((rd t306 x64_3)).toNat * 2)).off + 1, none⟩ = some (.int .i64 ((rd_T53 l0 (rd t306 x64_3)).f1)) ∧ w'.cell? (ad336.add (((rd t309 x86_4)).toNat * 2)) = some (.int .i64 ((rd_T53 l1 (rd t309 x86_4)).f0)) ∧ w'.cell? ⟨(ad336.add (((rd t309 x86_4)).toNat * 2)).block, (ad336.add (((rd t309 x86_4)).toNat * 2)).off + 1, none⟩ = some (.int .i64 ((rd_T53 l1 (rd t309 x86_4)).f1)) ∧ w'.cell? (ad337.add ((ji78)).toNat) = some (.int .i64 (rd l2_2 (ji78)))) (ds := []) (ba_ 20 0) (by kernel_rfl) rfl rfl ⟨(blk_cell BK301.out 0).trans rfl, (blk_cell BK301.out 1).trans rfl, (blk_cell BK301.out 2).trans rfl, (ce_ HB hw335_0), (ce_ HB hw335_1), (ce_ HB hw336_0), (ce_ HB hw336_1), (ce_ HB hw337_0)⟩ (fun hHeld => ?_); refine with_tabW impl_measureOf.tab17 impl_measureOf.bits17 (fun HT_ HW_ => ?_)
                             generalize wr.drew = w82 at HO_13 HO_62 HO_84 HO_319000 HO_319001 HO_319002 HO_319003 HO_319004 HO_319005 HO_319006 BK301 BK302 BK318 HB hx335_0 hx335_1 hx336_0 hx336_1 hx337_0 hHeld ⊢
                             refine pu_ 0 (some 90) (ba_ 20 1) rfl rfl (any_of HT_.out (by kernel_rfl)) ?_
                             refine pu_ 1 (some 91) (ba_ 20 3) rfl rfl (any_of HT_.out (by kernel_rfl)) ?_
                             refine pu_ 3 (some 93) (ba_ 20 11) rfl rfl (any_of HT_.out (by kernel_rfl)) ?_
                             refine pu_ 4 (some 94) (ba_ 20 27) rfl rfl (any_of HT_.out (by kernel_rfl)) ?_
                             refine pu_ 5 (some 95) (ba_ 20 59) rfl rfl (any_of HT_.out (by kernel_rfl)) ?_
                             refine pu_ 6 (some 96) (ba_ 20 123) rfl rfl (any_of HT_.out (by kernel_rfl)) ?_
                             refine pu_ 9 (some 99) (ba_ 20 635) rfl rfl (any_of HT_.out (by kernel_rfl)) ?_
                             refine pu_ 10 (some 100) (ba_ 20 1659) rfl rfl (any_of HT_.out (by kernel_rfl)) ?_
                             refine pu_ 11 (some 101) (ba_ 20 3707) rfl rfl (any_of HT_.out (by kernel_rfl)) ?_
                             refine pu_ 12 (some 102) (ba_ 20 7803) rfl rfl (any_of HT_.out (by kernel_rfl)) ?_
                             refine ta_ 2 (some 92) (ba_ 20 7807) rfl rfl (take_ofW HT_.out HW_.out (by kernel_rfl)) hHeld (by rintro w' ⟨s0, s1, s2, s3, s4, s5, s6, s7⟩; go_simp; with_reducible rfl) ?_
                             refine ta_ 7 (some 97) (ba_ 20 7935) rfl rfl (take_ofW HT_.out HW_.out (by kernel_rfl)) hHeld (by rintro w' ⟨s0, s1, s2, s3, s4, s5, s6, s7⟩; go_simp; with_reducible rfl) ?_
                             refine pu_ 8 (some 98) (ba_ 20 8191) rfl rfl (any_of HT_.out (by kernel_rfl)) ?_
                             refine ta_ 13 (some 103) (ba_ 20 16383) rfl rfl (take_ofW HT_.out HW_.out (by kernel_rfl)) hHeld (by rintro w' ⟨s0, s1, s2, s3, s4, s5, s6, s7⟩; go_simp; with_reducible rfl) ?_
                             refine pu_ 14 (some 104) (ba_ 20 32767) rfl rfl (any_of HT_.out (by kernel_rfl)) ?_
                             refine pu_ 15 (some 105) (ba_ 20 65535) rfl rfl (any_of HT_.out (by kernel_rfl)) ?_
                             refine ta_ 16 (some 106) (ba_ 20 131071) rfl rfl (take_ofW HT_.out HW_.out (by kernel_rfl)) hHeld (by rintro w' ⟨s0, s1, s2, s3, s4, s5, s6, s7⟩; go_simp; with_reducible rfl) ?_
                             refine one_ (i := 17) (N := some 107) (ba_ 20 262143) rfl rfl (one_of HT_.out (by kernel_rfl)) (by decide) (fun K hK => ?_)
                             refine value_ (w1 := ?_) (v := ?_) (by rfl) rfl ?_ ?_
                             rotate_left 2
                             ·go_simp
                              constructor
                              ·rfl
                              ·rfl
                             refine hK.out _ _ ⟨(blk_cell (blk_alloc BK301.out _) 0).trans rfl, (blk_cell (blk_alloc BK301.out _) 1).trans rfl, (blk_cell (blk_alloc BK301.out _) 2).trans rfl, (World.cell?_alloc_lt _ _ _ (World.block_lt_of_cell? _ _ ((ce_ HB hw335_0)))).trans ((ce_ HB hw335_0)), (World.cell?_alloc_lt _ _ _ (World.block_lt_of_cell? _ _ ((ce_ HB hw335_1)))).trans ((ce_ HB hw335_1)), (World.cell?_alloc_lt _ _ _ (World.block_lt_of_cell? _ _ ((ce_ HB hw336_0)))).trans ((ce_ HB hw336_0)), (World.cell?_alloc_lt _ _ _ (World.block_lt_of_cell? _ _ ((ce_ HB hw336_1)))).trans ((ce_ HB hw336_1)), (World.cell?_alloc_lt _ _ _ (World.block_lt_of_cell? _ _ ((ce_ HB hw337_0)))).trans ((ce_ HB hw337_0))⟩ (fun hHeld => ?_)
                             clear hK K
                             refine norm_ (a' := ?_) ?_ ?_
                             rotate_left
                             ·show Act.put _ (some 107) _ = _
                              simp only [Act.put, List.setIfInBounds_toArray, List.set_cons_zero, List.set_cons_succ, i64_w, i32_w]
                              rfl
                             refine one_ (i := 18) (N := some 108) (ba_ 20 524287) rfl rfl (one_of HT_.out (by kernel_rfl)) (by decide) (fun K hK => ?_)
                             refine Kd.R_append_step (Kd.int .i64) (w0 := w) w.heap.size (by rfl) (.tmp 90) (.tmp 107) 23 3 (.int .i64 0) 8 rfl Try.underlying23 info3 rfl (by decide) (by omega) u13 x13_4 (rd l2_2 (ji78)) [.int .i64 (rd l2_2 (ji78))] (fun k_ => some k_ ≠ (.slice (some ad325) t306.length co34 : Value).ownBlock ∧ some k_ ≠ (.slice (some ad334) t309.length co33 : Value).ownBlock ∧ some k_ ≠ (.slice (some ad325) t306.length co34 : Value).ownBlock ∧ some k_ ≠ (.slice (some ad334) t309.length co33 : Value).ownBlock ∧ some k_ ≠ (.slice Ao32 t312.length co32 : Value).ownBlock ∧ some k_ ≠ (.slice Ao31 t315.length co31 : Value).ownBlock ∧ some k_ ≠ (.slice Ao64 y328.length co64 : Value).ownBlock ∧ some k_ ≠ (u319005 : Value).ownBlock) (fun _ => False) rfl rfl ?aP (fun _ hk => hk.elim) ?aF ?aO ?aB ?aS ?aL ?_
                             (case aP => exact rfl)
                             (case aB => exact ((bl_ HB).out))
                             (case aF => exact (fun k_ hk => ⟨Kd.fresh' (Kd.R_lt (rx_ HO_62.out)) k_ hk, Kd.fresh' (Kd.R_lt (rx_ HO_84.out)) k_ hk, Kd.fresh' (Kd.R_lt (rx_ HO_319000.out)) k_ hk, Kd.fresh' (Kd.R_lt (rx_ HO_319001.out)) k_ hk, Kd.fresh' (Kd.R_lt (rx_ HO_319002.out)) k_ hk, Kd.fresh' (Kd.R_lt (rx_ HO_319003.out)) k_ hk, Kd.fresh' (Kd.R_lt (rx_ HO_319004.out)) k_ hk, Kd.fresh' (Kd.R_lt (rx_ HO_319005.out)) k_ hk⟩))
                             (case aO => exact (rx_ HO_13.out))
                             (case aS => exact (bs_ HB))
                             (case aL => have := LMc81.out; omega)
                             intro v339 w83 ho hb hg hat
                             rw [← Ny338.out] at ho
                             have n0_ := Aside0.mk (Kd.R_after (ok := (fun k_ => some k_ ≠ (.slice (some ad334) t309.length co33 : Value).ownBlock ∧ some k_ ≠ (.slice (some ad334) t309.length co33 : Value).ownBlock ∧ some k_ ≠ (.slice Ao32 t312.length co32 : Value).ownBlock ∧ some k_ ≠ (.slice Ao31 t315.length co31 : Value).ownBlock ∧ some k_ ≠ (.slice Ao64 y328.length co64 : Value).ownBlock ∧ some k_ ≠ (u319005 : Value).ownBlock)) (rx_ (Kd.R_mono HO_62.out (fun _ hk => ⟨⟨hk.2.1, ⟨hk.2.2.1, ⟨hk.2.2.2.1, ⟨hk.2.2.2.2.1, ⟨hk.2.2.2.2.2.1, hk.2.2.2.2.2.2⟩⟩⟩⟩⟩, hk.1⟩))) hg hat)
                             have n1_ := Aside0.mk (Kd.R_after (ok := (fun k_ => some k_ ≠ (.slice (some ad325) t306.length co34 : Value).ownBlock ∧ some k_ ≠ (.slice (some ad325) t306.length co34 : Value).ownBlock ∧ some k_ ≠ (.slice Ao32 t312.length co32 : Value).ownBlock ∧ some k_ ≠ (.slice Ao31 t315.length co31 : Value).ownBlock ∧ some k_ ≠ (.slice Ao64 y328.length co64 : Value).ownBlock ∧ some k_ ≠ (u319005 : Value).ownBlock)) (rx_ (Kd.R_mono HO_84.out (fun _ hk => ⟨⟨hk.2.1, ⟨hk.2.2.1, ⟨hk.2.2.2.1, ⟨hk.2.2.2.2.1, ⟨hk.2.2.2.2.2.1, hk.2.2.2.2.2.2⟩⟩⟩⟩⟩, hk.1⟩))) hg hat)
                             have n2_ := Aside0.mk (Kd.R_after (ok := (fun k_ => some k_ ≠ (.slice (some ad334) t309.length co33 : Value).ownBlock ∧ some k_ ≠ (.slice (some ad334) t309.length co33 : Value).ownBlock ∧ some k_ ≠ (.slice Ao32 t312.length co32 : Value).ownBlock ∧ some k_ ≠ (.slice Ao31 t315.length co31 : Value).ownBlock ∧ some k_ ≠ (.slice Ao64 y328.length co64 : Value).ownBlock ∧ some k_ ≠ (u319005 : Value).ownBlock)) (rx_ (Kd.R_mono HO_319000.out (fun _ hk => ⟨⟨hk.2.1, ⟨hk.2.2.1, ⟨hk.2.2.2.1, ⟨hk.2.2.2.2.1, ⟨hk.2.2.2.2.2.1, hk.2.2.2.2.2.2⟩⟩⟩⟩⟩, hk.1⟩))) hg hat)
                             have n3_ := Aside0.mk (Kd.R_after (ok := (fun k_ => some k_ ≠ (.slice (some ad325) t306.length co34 : Value).ownBlock ∧ some k_ ≠ (.slice (some ad325) t306.length co34 : Value).ownBlock ∧ some k_ ≠ (.slice Ao32 t312.length co32 : Value).ownBlock ∧ some k_ ≠ (.slice Ao31 t315.length co31 : Value).ownBlock ∧ some k_ ≠ (.slice Ao64 y328.length co64 : Value).ownBlock ∧ some k_ ≠ (u319005 : Value).ownBlock)) (rx_ (Kd.R_mono HO_319001.out (fun _ hk => ⟨⟨hk.2.1, ⟨hk.2.2.1, ⟨hk.2.2.2.1, ⟨hk.2.2.2.2.1, ⟨hk.2.2.2.2.2.1, hk.2.2.2.2.2.2⟩⟩⟩⟩⟩, hk.1⟩))) hg hat)
                             have n4_ := Aside0.mk (Kd.R_after (ok := (fun k_ => some k_ ≠ (.slice (some ad325) t306.length co34 : Value).ownBlock ∧ some k_ ≠ (.slice (some ad334) t309.length co33 : Value).ownBlock ∧ some k_ ≠ (.slice (some ad325) t306.length co34 : Value).ownBlock ∧ some k_ ≠ (.slice (some ad334) t309.length co33 : Value).ownBlock ∧ some k_ ≠ (.slice Ao31 t315.length co31 : Value).ownBlock ∧ some k_ ≠ (.slice Ao64 y328.length co64 : Value).ownBlock ∧ some k_ ≠ (u319005 : Value).ownBlock)) (rx_ (Kd.R_mono HO_319002.out (fun _ hk => ⟨⟨hk.2.1, ⟨hk.2.2.1, ⟨hk.2.2.2.1, ⟨hk.2.2.2.2.1, ⟨hk.2.2.2.2.2.1, ⟨hk.2.2.2.2.2.2.1, hk.2.2.2.2.2.2.2⟩⟩⟩⟩⟩⟩, hk.1⟩))) hg hat)
                             have n5_ := Aside0.mk (Kd.R_after (ok := (fun k_ => some k_ ≠ (.slice (some ad325) t306.length co34 : Value).ownBlock ∧ some k_ ≠ (.slice (some ad334) t309.length co33 : Value).ownBlock ∧ some k_ ≠ (.slice (some ad325) t306.length co34 : Value).ownBlock ∧ some k_ ≠ (.slice (some ad334) t309.length co33 : Value).ownBlock ∧ some k_ ≠ (.slice Ao32 t312.length co32 : Value).ownBlock ∧ some k_ ≠ (.slice Ao64 y328.length co64 : Value).ownBlock ∧ some k_ ≠ (u319005 : Value).ownBlock)) (rx_ (Kd.R_mono HO_319003.out (fun _ hk => ⟨⟨hk.2.1, ⟨hk.2.2.1, ⟨hk.2.2.2.1, ⟨hk.2.2.2.2.1, ⟨hk.2.2.2.2.2.1, ⟨hk.2.2.2.2.2.2.1, hk.2.2.2.2.2.2.2⟩⟩⟩⟩⟩⟩, hk.1⟩))) hg hat)
                             have n6_ := Aside0.mk (Kd.R_after (ok := (fun k_ => some k_ ≠ (.slice (some ad325) t306.length co34 : Value).ownBlock ∧ some k_ ≠ (.slice (some ad334) t309.length co33 : Value).ownBlock ∧ some k_ ≠ (.slice (some ad325) t306.length co34 : Value).ownBlock ∧ some k_ ≠ (.slice (some ad334) t309.length co33 : Value).ownBlock ∧ some k_ ≠ (.slice Ao32 t312.length co32 : Value).ownBlock ∧ some k_ ≠ (.slice Ao31 t315.length co31 : Value).ownBlock ∧ some k_ ≠ (u319005 : Value).ownBlock)) (rx_ (Kd.R_mono HO_319004.out (fun _ hk => ⟨⟨hk.2.1, ⟨hk.2.2.1, ⟨hk.2.2.2.1, ⟨hk.2.2.2.2.1, ⟨hk.2.2.2.2.2.1, ⟨hk.2.2.2.2.2.2.1, hk.2.2.2.2.2.2.2⟩⟩⟩⟩⟩⟩, hk.1⟩))) hg hat)
                             have n7_ := Aside0.mk (Kd.R_after (ok := (fun k_ => some k_ ≠ (.slice (some ad325) t306.length co34 : Value).ownBlock ∧ some k_ ≠ (.slice (some ad334) t309.length co33 : Value).ownBlock ∧ some k_ ≠ (.slice (some ad325) t306.length co34 : Value).ownBlock ∧ some k_ ≠ (.slice (some ad334) t309.length co33 : Value).ownBlock ∧ some k_ ≠ (.slice Ao32 t312.length co32 : Value).ownBlock ∧ some k_ ≠ (.slice Ao31 t315.length co31 : Value).ownBlock ∧ some k_ ≠ (.slice Ao64 y328.length co64 : Value).ownBlock)) (rx_ (Kd.R_mono HO_319005.out (fun _ hk => ⟨⟨hk.2.1, ⟨hk.2.2.1, ⟨hk.2.2.2.1, ⟨hk.2.2.2.2.1, ⟨hk.2.2.2.2.2.1, ⟨hk.2.2.2.2.2.2.1, hk.2.2.2.2.2.2.2⟩⟩⟩⟩⟩⟩, hk.1⟩))) hg hat)
                             have n8_ := Aside0.mk (Kd.S_after (ok := (fun k_ => some k_ ≠ (.slice (some ad325) t306.length co34 : Value).ownBlock ∧ some k_ ≠ (.slice (some ad334) t309.length co33 : Value).ownBlock ∧ some k_ ≠ (.slice (some ad325) t306.length co34 : Value).ownBlock ∧ some k_ ≠ (.slice (some ad334) t309.length co33 : Value).ownBlock ∧ some k_ ≠ (.slice Ao32 t312.length co32 : Value).ownBlock ∧ some k_ ≠ (.slice Ao31 t315.length co31 : Value).ownBlock ∧ some k_ ≠ (.slice Ao64 y328.length co64 : Value).ownBlock ∧ some k_ ≠ (u319005 : Value).ownBlock)) (sx_ (Kd.S_mono HO_319006.out (fun _ hk => ⟨⟨hk.2.1, ⟨hk.2.2.1, ⟨hk.2.2.2.1, ⟨hk.2.2.2.2.1, ⟨hk.2.2.2.2.2.1, ⟨hk.2.2.2.2.2.2.1, ⟨hk.2.2.2.2.2.2.2.1, hk.2.2.2.2.2.2.2.2⟩⟩⟩⟩⟩⟩⟩, hk.1⟩))) hg hat)
                             have n9_ := Aside0.mk (blk_grown (g := gb301) (o := .cells #[.slice (some ad327) l2_0.length c2_0, .slice A2_1 l2_1.length c2_1, .slice (some ad337) l2_2.length c2_2] 31 (0, 0)) (kx_ BK301.out) hg (Kd.R_ne HO_13.out BK301.out (by decide)))
                             have n10_ := Aside0.mk (blk_grown (g := gb302) (o := .cells #[.slice none 0 0, .slice none 0 0, .slice none 0 0, .slice none 0 0, .slice none 0 0, .slice none 0 0, .slice none 0 0] 70 (0, 0)) (kx_ BK302.out) hg (Kd.R_ne HO_13.out BK302.out (by decide)))
                             have n11_ := Aside0.mk (blk_grown (g := gb318) (o := .cells #[.slice (some ad325) t306.length co34, .slice (some ad334) t309.length co33, .slice Ao32 t312.length co32, .slice Ao31 t315.length co31, .slice Ao64 y328.length co64, u319005, u319006] 70 (0, 0)) (kx_ BK318.out) hg (Kd.R_ne HO_13.out BK318.out (by decide)))
                             have n12_ := Aside0.mk (hb)
                             have n13_ := Aside0.mk (ho)
                             clear HO_62
                             clear HO_84
                             clear HO_319000
                             clear HO_319001
                             clear HO_319002
                             clear HO_319003
                             clear HO_319004
                             clear HO_319005
                             clear HO_319006
                             clear BK301
                             clear BK302
                             clear BK318
                             clear HB
                             clear HO_13
                             have HO_62 := n0_
                             have HO_84 := n1_
                             have HO_319000 := n2_
                             have HO_319001 := n3_
                             have HO_319002 := n4_
                             have HO_319003 := n5_
                             have HO_319004 := n6_
                             have HO_319005 := n7_
                             have HO_319006 := n8_
                             have BK301 := n9_
                             have BK302 := n10_
                             have BK318 := n11_
                             have HB := n12_
                             have HO340 := n13_
                             clear n0_ n1_ n2_ n3_ n4_ n5_ n6_ n7_ n8_ n9_ n10_ n11_ n12_ n13_
                             clear ho hb hg hat
                             refine hK.out _ _ ⟨(blk_cell BK301.out 0).trans rfl, (blk_cell BK301.out 1).trans rfl, (blk_cell BK301.out 2).trans rfl, (ce_ HB hw335_0), (ce_ HB hw335_1), (ce_ HB hw336_0), (ce_ HB hw336_1), (ce_ HB hw337_0)⟩ (fun hHeld => ?_)
                             clear hK K
                             refine norm_ (a' := ?_) ?_ ?_
                             rotate_left
                             ·show Act.put _ (some 108) _ = _
                              simp only [Act.put, List.setIfInBounds_toArray, List.set_cons_zero, List.set_cons_succ, i64_w, i32_w]
                              rfl
                             refine pu_ 19 (some 13) (ba_ 20 1048575) rfl rfl (any_of HT_.out (by kernel_rfl)) ?_
                             refine done_ (done_of HT_.out (by kernel_rfl)) ?_
                             try go_wp2
                             go_roundg k4
                             case measure => have := HJ3.out; have := HK2.out; have := HK3.out; have := HK4.out; omega
                             case rel => exact ⟨(y338), (wrap64 (x86_4 + 1)), eb_, H', ⟨by have := HJ3.out; have := HK2.out; have := HK3.out; have := HK4.out; omega⟩, ⟨rx_ HO340.out⟩, ⟨rx_ (Kd.R_mono HO_62.out (fun _ hk => ⟨hk.2, ⟨hk.1.1, ⟨hk.1.2.1, ⟨hk.1.2.2.1, ⟨hk.1.2.2.2.1, ⟨hk.1.2.2.2.2.1, hk.1.2.2.2.2.2⟩⟩⟩⟩⟩⟩))⟩, ⟨rx_ (Kd.R_mono HO_84.out (fun _ hk => ⟨hk.2, ⟨hk.1.1, ⟨hk.1.2.1, ⟨hk.1.2.2.1, ⟨hk.1.2.2.2.1, ⟨hk.1.2.2.2.2.1, hk.1.2.2.2.2.2⟩⟩⟩⟩⟩⟩))⟩, ⟨rx_ (Kd.R_mono HO_319000.out (fun _ hk => ⟨hk.2, ⟨hk.1.1, ⟨hk.1.2.1, ⟨hk.1.2.2.1, ⟨hk.1.2.2.2.1, ⟨hk.1.2.2.2.2.1, hk.1.2.2.2.2.2⟩⟩⟩⟩⟩⟩))⟩, ⟨rx_ (Kd.R_mono HO_319001.out (fun _ hk => ⟨hk.2, ⟨hk.1.1, ⟨hk.1.2.1, ⟨hk.1.2.2.1, ⟨hk.1.2.2.2.1, ⟨hk.1.2.2.2.2.1, hk.1.2.2.2.2.2⟩⟩⟩⟩⟩⟩))⟩, ⟨rx_ (Kd.R_mono HO_319002.out (fun _ hk => ⟨hk.2, ⟨hk.1.1, ⟨hk.1.2.1, ⟨hk.1.2.2.1, ⟨hk.1.2.2.2.1, ⟨hk.1.2.2.2.2.1, ⟨hk.1.2.2.2.2.2.1, hk.1.2.2.2.2.2.2⟩⟩⟩⟩⟩⟩⟩))⟩, ⟨rx_ (Kd.R_mono HO_319003.out (fun _ hk => ⟨hk.2, ⟨hk.1.1, ⟨hk.1.2.1, ⟨hk.1.2.2.1, ⟨hk.1.2.2.2.1, ⟨hk.1.2.2.2.2.1, ⟨hk.1.2.2.2.2.2.1, hk.1.2.2.2.2.2.2⟩⟩⟩⟩⟩⟩⟩))⟩, ⟨rx_ (Kd.R_mono HO_319004.out (fun _ hk => ⟨hk.2, ⟨hk.1.1, ⟨hk.1.2.1, ⟨hk.1.2.2.1, ⟨hk.1.2.2.2.1, ⟨hk.1.2.2.2.2.1, ⟨hk.1.2.2.2.2.2.1, hk.1.2.2.2.2.2.2⟩⟩⟩⟩⟩⟩⟩))⟩, ⟨rx_ (Kd.R_mono HO_319005.out (fun _ hk => ⟨hk.2, ⟨hk.1.1, ⟨hk.1.2.1, ⟨hk.1.2.2.1, ⟨hk.1.2.2.2.1, ⟨hk.1.2.2.2.2.1, ⟨hk.1.2.2.2.2.2.1, hk.1.2.2.2.2.2.2⟩⟩⟩⟩⟩⟩⟩))⟩, ⟨sx_ (Kd.S_mono HO_319006.out (fun _ hk => ⟨hk.2, ⟨hk.1.1, ⟨hk.1.2.1, ⟨hk.1.2.2.1, ⟨hk.1.2.2.2.1, ⟨hk.1.2.2.2.2.1, ⟨hk.1.2.2.2.2.2.1, ⟨hk.1.2.2.2.2.2.2.1, hk.1.2.2.2.2.2.2.2⟩⟩⟩⟩⟩⟩⟩⟩))⟩, ⟨kx_ BK301.out⟩, ⟨kx_ BK302.out⟩, ⟨kx_ BK318.out⟩, bl_ HB⟩
                            ·rw [if_neg c81] at H
                             exact absurd H (by simp)
                           ·rw [if_neg c80] at H
                            exact absurd H (by simp)
                          ·rw [if_neg c79] at H
                           exact absurd H (by simp)
                         ·rw [if_neg c77] at H
                          exact absurd H (by simp)
                        ·rw [if_neg c76] at H
                         exact absurd H (by simp)
                       ·rw [if_neg c75] at H
                        exact absurd H (by simp)
                      ·rw [if_neg c74] at H
                       exact absurd H (by simp)
                     ·rw [if_neg c73] at H
                      exact absurd H (by simp)
                    ·rw [if_neg c72] at H
                     exact absurd H (by simp)
                   ·rw [if_neg c71] at H
                    have c71b0 : decide (x86_4 < (t309.length : Int)) = false := decide_eq_false c71
                    clear c71
                    by_cases c84 : x319006_3.length < 5864062014805
                    ·rw [if_pos c84] at H
                     have LMc84 := Aside0.mk c84
                     clear c84
                     obtain ⟨y341, hy341⟩ : ∃ y_ : List (List Int), y_ = (x319006_3 ++ [x13_4]) := ⟨_, rfl⟩
                     replace H : (impl_measureOf.l1 k4 l0 l1 t306 (t306.length : Int) (wrap64 (x64_3 + 1)) l2_0 l2_1 l2_2 t306 t309 t312 t315 y328 x319005_2 y341) = some (r1, r2, r3, r4, r5, r6, r7, r8) := by first | (rw [hy341]; with_reducible exact H) | (have H2_ := (Option.bind_some _ _).symm.trans H; rw [hy341]; with_reducible exact H2_) | (have H2_ := (Option.bind_some _ _).symm.trans H; with_reducible exact H2_) | with_reducible exact H | (rw [hy341]; exact H) | exact H
                     have Ny341 := Aside0.mk hy341
                     clear hy341
                     have H' := Aside0.mk H
                     clear H
                     have hnb85 := NB318_301.out
                     have hnc85 := NB301_318.out
                     have hnb86 := NB318_302.out
                     have hnc86 := NB302_318.out
                     have hcz87_0 : wr.cell? ⟨gb318, 0, none⟩ = some (.slice (some ad325) t306.length co34) := (blk_cell BK318.out 0).trans rfl
                     have hcz87_1 : wr.cell? ⟨gb318, 1, none⟩ = some (.slice Ao33 t309.length co33) := (blk_cell BK318.out 1).trans rfl
                     have hcz87_2 : wr.cell? ⟨gb318, 2, none⟩ = some (.slice Ao32 t312.length co32) := (blk_cell BK318.out 2).trans rfl
                     have hcz87_3 : wr.cell? ⟨gb318, 3, none⟩ = some (.slice Ao31 t315.length co31) := (blk_cell BK318.out 3).trans rfl
                     have hcz87_4 : wr.cell? ⟨gb318, 4, none⟩ = some (.slice Ao64 y328.length co64) := (blk_cell BK318.out 4).trans rfl
                     have hcz87_5 : wr.cell? ⟨gb318, 5, none⟩ = some (u319005) := (blk_cell BK318.out 5).trans rfl
                     have hcz87_6 : wr.cell? ⟨gb318, 6, none⟩ = some (u319006) := (blk_cell BK318.out 6).trans rfl
                     have hfz87_0 := blk_frozen BK318.out 0
                     have hfz87_1 := blk_frozen BK318.out 1
                     have hfz87_2 := blk_frozen BK318.out 2
                     have hfz87_3 := blk_frozen BK318.out 3
                     have hfz87_4 := blk_frozen BK318.out 4
                     have hfz87_5 := blk_frozen BK318.out 5
                     have hfz87_6 := blk_frozen BK318.out 6
                     obtain ⟨Ao89, co89, eo89⟩ := Kd.R_slice HO_13.out
                     subst eo89
                     go_wp2_with (first | ((with_reducible refine gate_builtin (b := .append) (xs := #[.tmp 111, .tmp 113]) rfl ?_); at_builtin; refine Kd.S_append (Kd.slice 3 (Kd.int .i64)) (w0 := w) w.heap.size rfl (.tmp 111) (.tmp 113) 68 23 (.slice none 0 0) 24 rfl Try.underlying68 info23 rfl (by decide) (by omega) u319006 x319006_3 x13_4 [.slice Ao89 x13_4.length co89] (fun k_ => some k_ ≠ (.slice (some ad325) t306.length co34 : Value).ownBlock ∧ some k_ ≠ (.slice Ao33 t309.length co33 : Value).ownBlock ∧ some k_ ≠ (.slice (some ad325) t306.length co34 : Value).ownBlock ∧ some k_ ≠ (.slice Ao33 t309.length co33 : Value).ownBlock ∧ some k_ ≠ (.slice Ao32 t312.length co32 : Value).ownBlock ∧ some k_ ≠ (.slice Ao31 t315.length co31 : Value).ownBlock ∧ some k_ ≠ (.slice Ao64 y328.length co64 : Value).ownBlock ∧ some k_ ≠ (u319005 : Value).ownBlock) (fun k_ => some k_ = (.slice Ao89 x13_4.length co89 : Value).ownBlock) rfl rfl ?aP (fun k_ hk_ => ((Kd.R_mono (ok' := fun k_ => ((fun k_ => some k_ ≠ (.slice (some ad325) t306.length co34 : Value).ownBlock ∧ some k_ ≠ (.slice Ao33 t309.length co33 : Value).ownBlock ∧ some k_ ≠ (.slice (some ad325) t306.length co34 : Value).ownBlock ∧ some k_ ≠ (.slice Ao33 t309.length co33 : Value).ownBlock ∧ some k_ ≠ (.slice Ao32 t312.length co32 : Value).ownBlock ∧ some k_ ≠ (.slice Ao31 t315.length co31 : Value).ownBlock ∧ some k_ ≠ (.slice Ao64 y328.length co64 : Value).ownBlock ∧ some k_ ≠ (u319005 : Value).ownBlock)) k_ ∧ some k_ ≠ (u319006 : Value).ownBlock) (Kd.R_apart' (HO_13.out) (Kd.S_typed HO_319006.out) (by decide)) (fun k_ hk => ⟨⟨hk.1.1, ⟨hk.1.2.1, ⟨hk.1.2.2.1, ⟨hk.1.2.2.2.1, ⟨hk.1.2.2.2.2.1, ⟨hk.1.2.2.2.2.2.1, ⟨hk.1.2.2.2.2.2.2.1, hk.1.2.2.2.2.2.2.2⟩⟩⟩⟩⟩⟩⟩, hk.2⟩))).1 k_ hk_.symm) ?aF ?aO ?aB ?aS ?aL ?_; (case aP => exact Kd.M_row (Kd.R_mono (Kd.R_tight rfl (Kd.R_mono (ok' := fun k_ => ((fun k_ => some k_ ≠ (.slice (some ad325) t306.length co34 : Value).ownBlock ∧ some k_ ≠ (.slice Ao33 t309.length co33 : Value).ownBlock ∧ some k_ ≠ (.slice (some ad325) t306.length co34 : Value).ownBlock ∧ some k_ ≠ (.slice Ao33 t309.length co33 : Value).ownBlock ∧ some k_ ≠ (.slice Ao32 t312.length co32 : Value).ownBlock ∧ some k_ ≠ (.slice Ao31 t315.length co31 : Value).ownBlock ∧ some k_ ≠ (.slice Ao64 y328.length co64 : Value).ownBlock ∧ some k_ ≠ (u319005 : Value).ownBlock)) k_ ∧ some k_ ≠ (u319006 : Value).ownBlock) (Kd.R_apart' (HO_13.out) (Kd.S_typed HO_319006.out) (by decide)) (fun k_ hk => ⟨⟨hk.1.1, ⟨hk.1.2.1, ⟨hk.1.2.2.1, ⟨hk.1.2.2.2.1, ⟨hk.1.2.2.2.2.1, ⟨hk.1.2.2.2.2.2.1, ⟨hk.1.2.2.2.2.2.2.1, hk.1.2.2.2.2.2.2.2⟩⟩⟩⟩⟩⟩⟩, hk.2⟩))) (fun _ h_ => h_))); (case aB => exact ((bl_ HB).out)); (case aF => exact (fun k_ hk => ⟨Kd.fresh' (Kd.R_lt (rx_ HO_62.out)) k_ hk, Kd.fresh' (Kd.R_lt (rx_ HO_84.out)) k_ hk, Kd.fresh' (Kd.R_lt (rx_ HO_319000.out)) k_ hk, Kd.fresh' (Kd.R_lt (rx_ HO_319001.out)) k_ hk, Kd.fresh' (Kd.R_lt (rx_ HO_319002.out)) k_ hk, Kd.fresh' (Kd.R_lt (rx_ HO_319003.out)) k_ hk, Kd.fresh' (Kd.R_lt (rx_ HO_319004.out)) k_ hk, Kd.fresh' (Kd.R_lt (rx_ HO_319005.out)) k_ hk⟩)); (case aO => exact (sx_ (Kd.S_mono HO_319006.out (fun k_ hk => ⟨⟨hk.2.1, ⟨hk.2.2.1, ⟨hk.2.2.2.1, ⟨hk.2.2.2.2.1, ⟨hk.2.2.2.2.2.1, ⟨hk.2.2.2.2.2.2.1, ⟨hk.2.2.2.2.2.2.2.1, hk.2.2.2.2.2.2.2.2⟩⟩⟩⟩⟩⟩⟩, fun e_ => hk.1 e_⟩)))); (case aS => exact (bs_ HB)); (case aL => have := LMc84.out; omega); intro v342 w88 ho hb hg hat; rw [← Ny341.out] at ho; replace HO_62 := Aside0.mk (Kd.R_over' (rx_ HO_62.out) (Kd.S_typed (sx_ HO_319006.out)) (by decide) hg); replace HO_84 := Aside0.mk (Kd.R_over' (rx_ HO_84.out) (Kd.S_typed (sx_ HO_319006.out)) (by decide) hg); replace HO_319000 := Aside0.mk (Kd.R_over' (rx_ HO_319000.out) (Kd.S_typed (sx_ HO_319006.out)) (by decide) hg); replace HO_319001 := Aside0.mk (Kd.R_over' (rx_ HO_319001.out) (Kd.S_typed (sx_ HO_319006.out)) (by decide) hg); replace HO_319002 := Aside0.mk (Kd.R_over' (rx_ HO_319002.out) (Kd.S_typed (sx_ HO_319006.out)) (by decide) hg); replace HO_319003 := Aside0.mk (Kd.R_over' (rx_ HO_319003.out) (Kd.S_typed (sx_ HO_319006.out)) (by decide) hg); replace HO_319004 := Aside0.mk (Kd.R_over' (rx_ HO_319004.out) (Kd.S_typed (sx_ HO_319006.out)) (by decide) hg); replace HO_319005 := Aside0.mk (Kd.R_over' (rx_ HO_319005.out) (Kd.S_typed (sx_ HO_319006.out)) (by decide) hg); replace BK301 := Aside0.mk (blk_grown (g := gb301) (o := .cells #[.slice (some ad327) l2_0.length c2_0, .slice A2_1 l2_1.length c2_1, .slice A2_2 l2_2.length c2_2] 31 (0, 0)) (kx_ BK301.out) hg (Kd.S_ne HO_319006.out BK301.out (by decide))); replace BK302 := Aside0.mk (blk_grown (g := gb302) (o := .cells #[.slice none 0 0, .slice none 0 0, .slice none 0 0, .slice none 0 0, .slice none 0 0, .slice none 0 0, .slice none 0 0] 70 (0, 0)) (kx_ BK302.out) hg (Kd.S_ne HO_319006.out BK302.out (by decide))); replace BK318 := Aside0.mk (blk_grown (g := gb318) (o := .cells #[.slice (some ad325) t306.length co34, .slice Ao33 t309.length co33, .slice Ao32 t312.length co32, .slice Ao31 t315.length co31, .slice Ao64 y328.length co64, u319005, u319006] 70 (0, 0)) (kx_ BK318.out) hg (Kd.S_ne HO_319006.out BK318.out (by decide))); replace HB := Aside0.mk (hb); have HO343 := Aside0.mk (ho); clear HO_319006; clear HO_13; clear ho hb hg hat; obtain ⟨Ao90, co90, eo90⟩ := Kd.S_slice HO343.out; subst eo90; have hcz91_0 : w88.cell? ⟨gb318, 0, none⟩ = some (.slice (some ad325) t306.length co34) := (blk_cell BK318.out 0).trans rfl; have hcz91_1 : w88.cell? ⟨gb318, 1, none⟩ = some (.slice Ao33 t309.length co33) := (blk_cell BK318.out 1).trans rfl; have hcz91_2 : w88.cell? ⟨gb318, 2, none⟩ = some (.slice Ao32 t312.length co32) := (blk_cell BK318.out 2).trans rfl; have hcz91_3 : w88.cell? ⟨gb318, 3, none⟩ = some (.slice Ao31 t315.length co31) := (blk_cell BK318.out 3).trans rfl; have hcz91_4 : w88.cell? ⟨gb318, 4, none⟩ = some (.slice Ao64 y328.length co64) := (blk_cell BK318.out 4).trans rfl; have hcz91_5 : w88.cell? ⟨gb318, 5, none⟩ = some (u319005) := (blk_cell BK318.out 5).trans rfl; have hcz91_6 : w88.cell? ⟨gb318, 6, none⟩ = some (u319006) := (blk_cell BK318.out 6).trans rfl; have hfz91_0 := blk_frozen BK318.out 0; have hfz91_1 := blk_frozen BK318.out 1; have hfz91_2 := blk_frozen BK318.out 2; have hfz91_3 := blk_frozen BK318.out 3; have hfz91_4 := blk_frozen BK318.out 4; have hfz91_5 := blk_frozen BK318.out 5; have hfz91_6 := blk_frozen BK318.out 6))
                     go_roundg k4
                     case measure => have := HJ3.out; have := HK2.out; have := HK3.out; have := HK4.out; omega
                     case rel => exact ⟨(wrap64 (x64_3 + 1)), (y328), (y341), (.slice Ao64 y328.length co64), (.slice Ao90 y341.length co90), (by first | rfl | (simp; done) | (simp [*]; done)), H', ⟨by have := HJ3.out; have := HK2.out; have := HK3.out; have := HK4.out; omega⟩, ⟨by (with_reducible repeat (first | apply Kd.R_alloc | apply Kd.R_drewN | apply Kd.R_drew)); exact Kd.R_mono (Kd.R_far (p := ⟨gb318, 6, none⟩) (Kd.R_types HO_62.out BK318.out (by decide)) (fun _ hk => hk.2) (.slice Ao90 y341.length co90)) (fun _ hk => ⟨hk.1.2.2.1, ⟨hk.1.2.2.2.1, ⟨hk.1.2.2.2.2.1, ⟨hk.1.2.2.2.2.2.1, hk.1.2.2.2.2.2.2⟩⟩⟩⟩)⟩, ⟨by (with_reducible repeat (first | apply Kd.R_alloc | apply Kd.R_drewN | apply Kd.R_drew)); exact Kd.R_mono (Kd.R_far (p := ⟨gb318, 6, none⟩) (Kd.R_types HO_319000.out BK318.out (by decide)) (fun _ hk => hk.2) (.slice Ao90 y341.length co90)) (fun _ hk => ⟨hk.1.2.2.1, ⟨hk.1.2.2.2.1, ⟨hk.1.2.2.2.2.1, ⟨hk.1.2.2.2.2.2.1, hk.1.2.2.2.2.2.2⟩⟩⟩⟩)⟩, ⟨by (with_reducible repeat (first | apply Kd.R_alloc | apply Kd.R_drewN | apply Kd.R_drew)); exact Kd.R_mono (Kd.R_far (p := ⟨gb318, 6, none⟩) (Kd.R_types HO_319001.out BK318.out (by decide)) (fun _ hk => hk.2) (.slice Ao90 y341.length co90)) (fun _ hk => ⟨hk.1.2.1, ⟨hk.1.2.2.1, ⟨hk.1.2.2.2.1, ⟨hk.1.2.2.2.2.1, ⟨hk.1.2.2.2.2.2.1, hk.1.2.2.2.2.2.2⟩⟩⟩⟩⟩)⟩, ⟨by (with_reducible repeat (first | apply Kd.R_alloc | apply Kd.R_drewN | apply Kd.R_drew)); exact Kd.R_mono (Kd.R_far (p := ⟨gb318, 6, none⟩) (Kd.R_types HO_319002.out BK318.out (by decide)) (fun _ hk => hk.2) (.slice Ao90 y341.length co90)) (fun _ hk => ⟨hk.1.2.1, ⟨hk.1.2.2.2.1, ⟨hk.1.2.2.2.2.1, ⟨hk.1.2.2.2.2.2.1, ⟨hk.1.2.2.2.2.2.2.1, hk.1.2.2.2.2.2.2.2⟩⟩⟩⟩⟩)⟩, ⟨by (with_reducible repeat (first | apply Kd.R_alloc | apply Kd.R_drewN | apply Kd.R_drew)); exact Kd.R_mono (Kd.R_far (p := ⟨gb318, 6, none⟩) (Kd.R_types HO_319003.out BK318.out (by decide)) (fun _ hk => hk.2) (.slice Ao90 y341.length co90)) (fun _ hk => ⟨hk.1.2.1, ⟨hk.1.2.2.2.1, ⟨hk.1.2.2.2.2.1, ⟨hk.1.2.2.2.2.2.1, ⟨hk.1.2.2.2.2.2.2.1, hk.1.2.2.2.2.2.2.2⟩⟩⟩⟩⟩)⟩, ⟨by (with_reducible repeat (first | apply Kd.R_alloc | apply Kd.R_drewN | apply Kd.R_drew)); exact Kd.R_mono (Kd.R_far (p := ⟨gb318, 6, none⟩) (Kd.R_types HO_319004.out BK318.out (by decide)) (fun _ hk => hk.2) (.slice Ao90 y341.length co90)) (fun _ hk => ⟨hk.1.2.1, ⟨hk.1.2.2.2.1, ⟨hk.1.2.2.2.2.1, ⟨hk.1.2.2.2.2.2.1, ⟨hk.1.2.2.2.2.2.2.1, hk.1.2.2.2.2.2.2.2⟩⟩⟩⟩⟩)⟩, ⟨by (with_reducible repeat (first | apply Kd.R_alloc | apply Kd.R_drewN | apply Kd.R_drew)); exact Kd.R_mono (Kd.R_far (p := ⟨gb318, 6, none⟩) (Kd.R_types HO_319005.out BK318.out (by decide)) (fun _ hk => hk.2) (.slice Ao90 y341.length co90)) (fun _ hk => ⟨hk.1.2.1, ⟨hk.1.2.2.2.1, ⟨hk.1.2.2.2.2.1, ⟨hk.1.2.2.2.2.2.1, ⟨hk.1.2.2.2.2.2.2.1, hk.1.2.2.2.2.2.2.2⟩⟩⟩⟩⟩)⟩, ⟨by (with_reducible repeat (first | apply Kd.S_alloc | apply Kd.S_drewN | apply Kd.S_drew)); exact Kd.S_mono (Kd.S_far (p := ⟨gb318, 6, none⟩) (Kd.S_types HO343.out BK318.out (by decide)) (fun _ hk => hk.2) (.slice Ao90 y341.length co90)) (fun _ hk => ⟨hk.1.1, ⟨hk.1.2.2.1, ⟨hk.1.2.2.2.1, ⟨hk.1.2.2.2.2.1, ⟨hk.1.2.2.2.2.2.1, ⟨hk.1.2.2.2.2.2.2.1, hk.1.2.2.2.2.2.2.2⟩⟩⟩⟩⟩⟩)⟩, ⟨by (with_reducible repeat (first | refine blk_drewN ?_ _ | refine blk_drew ?_ | refine blk_alloc ?_ _)); refine blk_far ?_ NB301_318.out _; (with_reducible repeat (first | refine blk_drewN ?_ _ | refine blk_drew ?_ | refine blk_alloc ?_ _)); exact BK301.out⟩, ⟨by (with_reducible repeat (first | refine blk_drewN ?_ _ | refine blk_drew ?_ | refine blk_alloc ?_ _)); refine blk_far ?_ NB302_318.out _; (with_reducible repeat (first | refine blk_drewN ?_ _ | refine blk_drew ?_ | refine blk_alloc ?_ _)); exact BK302.out⟩, ⟨by (with_reducible repeat (first | refine blk_drewN ?_ _ | refine blk_drew ?_ | refine blk_alloc ?_ _)); refine blk_put (cs := #[.slice (some ad325) t306.length co34, .slice Ao33 t309.length co33, .slice Ao32 t312.length co32, .slice Ao31 t315.length co31, .slice Ao64 y328.length co64, u319005, u319006]) ?_ 6 _ rfl; (with_reducible repeat (first | refine blk_drewN ?_ _ | refine blk_drew ?_ | refine blk_alloc ?_ _)); exact BK318.out⟩, ⟨by repeat (first | (with_reducible first | exact HB.out | apply below_alloc | apply pw_below_drewN | apply below_drew1 | refine below_set ?_ GE301.out | refine below_set ?_ GE302.out | refine below_set ?_ GE318.out) | exact HB.out)⟩⟩
                    ·rw [if_neg c84] at H
                     exact absurd H (by simp)
                ·rw [if_neg c61] at H
                 exact absurd H (by simp)
               ·rw [if_neg c60] at H
                exact absurd H (by simp)
              ·rw [if_neg c59] at H
               exact absurd H (by simp)
             ·rw [if_neg c58] at H
              exact absurd H (by simp)
            ·rw [if_neg c57] at H
             exact absurd H (by simp)
           ·rw [if_neg c56] at H
            exact absurd H (by simp)
          ·rw [if_neg c55] at H
           exact absurd H (by simp)
         ·rw [if_neg c54] at H
          have c54b0 : decide (x64_3 < (t306.length : Int)) = false := decide_eq_false c54
          clear c54
          simp only [Option.some.injEq, Prod.mk.injEq] at H
          obtain ⟨rfl, rfl, rfl, rfl, rfl, rfl, rfl, rfl⟩ := H
          have hnb92 := NB318_301.out
          have hnc92 := NB301_318.out
          have hnb93 := NB318_302.out
          have hnc93 := NB302_318.out
          have hcz94_0 : wr.cell? ⟨gb318, 0, none⟩ = some (.slice Ao34 t306.length co34) := (blk_cell BK318.out 0).trans rfl
          have hcz94_1 : wr.cell? ⟨gb318, 1, none⟩ = some (.slice Ao33 t309.length co33) := (blk_cell BK318.out 1).trans rfl
          have hcz94_2 : wr.cell? ⟨gb318, 2, none⟩ = some (.slice Ao32 t312.length co32) := (blk_cell BK318.out 2).trans rfl
          have hcz94_3 : wr.cell? ⟨gb318, 3, none⟩ = some (.slice Ao31 t315.length co31) := (blk_cell BK318.out 3).trans rfl
          have hcz94_4 : wr.cell? ⟨gb318, 4, none⟩ = some (u319004) := (blk_cell BK318.out 4).trans rfl
          have hcz94_5 : wr.cell? ⟨gb318, 5, none⟩ = some (u319005) := (blk_cell BK318.out 5).trans rfl
          have hcz94_6 : wr.cell? ⟨gb318, 6, none⟩ = some (u319006) := (blk_cell BK318.out 6).trans rfl
          have hfz94_0 := blk_frozen BK318.out 0
          have hfz94_1 := blk_frozen BK318.out 1
          have hfz94_2 := blk_frozen BK318.out 2
          have hfz94_3 := blk_frozen BK318.out 3
          have hfz94_4 := blk_frozen BK318.out 4
          have hfz94_5 := blk_frozen BK318.out 5
          have hfz94_6 := blk_frozen BK318.out 6
          have hnb95 := NB302_301.out
          have hnc95 := NB301_302.out
          have hcz96_0 : wr.cell? ⟨gb302, 0, none⟩ = some (.slice none 0 0) := (blk_cell BK302.out 0).trans rfl
          have hcz96_1 : wr.cell? ⟨gb302, 1, none⟩ = some (.slice none 0 0) := (blk_cell BK302.out 1).trans rfl
          have hcz96_2 : wr.cell? ⟨gb302, 2, none⟩ = some (.slice none 0 0) := (blk_cell BK302.out 2).trans rfl
          have hcz96_3 : wr.cell? ⟨gb302, 3, none⟩ = some (.slice none 0 0) := (blk_cell BK302.out 3).trans rfl
          have hcz96_4 : wr.cell? ⟨gb302, 4, none⟩ = some (.slice none 0 0) := (blk_cell BK302.out 4).trans rfl
          have hcz96_5 : wr.cell? ⟨gb302, 5, none⟩ = some (.slice none 0 0) := (blk_cell BK302.out 5).trans rfl
          have hcz96_6 : wr.cell? ⟨gb302, 6, none⟩ = some (.slice none 0 0) := (blk_cell BK302.out 6).trans rfl
          have hfz96_0 := blk_frozen BK302.out 0
          have hfz96_1 := blk_frozen BK302.out 1
          have hfz96_2 := blk_frozen BK302.out 2
          have hfz96_3 := blk_frozen BK302.out 3
          have hfz96_4 := blk_frozen BK302.out 4
          have hfz96_5 := blk_frozen BK302.out 5
          have hfz96_6 := blk_frozen BK302.out 6
          obtain ⟨Ao97, co97, eo97⟩ := Kd.R_slice HO_319004.out
          subst eo97
          obtain ⟨Ao98, co98, eo98⟩ := Kd.R_slice HO_319005.out
          subst eo98
          obtain ⟨Ao99, co99, eo99⟩ := Kd.S_slice HO_319006.out
          subst eo99
          go_wp2
          refine bodyPost_ret (results_ct rfl _ _ gb302 70 #[.slice Ao34 t306.length co34, .slice Ao33 t309.length co33, .slice Ao32 t312.length co32, .slice Ao31 t315.length co31, .slice Ao97 x319004_3.length co97, .slice Ao98 x319005_2.length co98, .slice Ao99 x319006_3.length co99] (0, 0) _ rfl (by (with_reducible repeat (first | refine blk_drewN ?_ _ | refine blk_drew ?_ | refine blk_alloc ?_ _)); refine blk_put (cs := #[.slice Ao34 t306.length co34, .slice Ao33 t309.length co33, .slice Ao32 t312.length co32, .slice Ao31 t315.length co31, .slice Ao97 x319004_3.length co97, .slice Ao98 x319005_2.length co98, .slice none 0 0]) ?_ 6 _ rfl; (with_reducible repeat (first | refine blk_drewN ?_ _ | refine blk_drew ?_ | refine blk_alloc ?_ _)); refine blk_put (cs := #[.slice Ao34 t306.length co34, .slice Ao33 t309.length co33, .slice Ao32 t312.length co32, .slice Ao31 t315.length co31, .slice Ao97 x319004_3.length co97, .slice none 0 0, .slice none 0 0]) ?_ 5 _ rfl; (with_reducible repeat (first | refine blk_drewN ?_ _ | refine blk_drew ?_ | refine blk_alloc ?_ _)); refine blk_put (cs := #[.slice Ao34 t306.length co34, .slice Ao33 t309.length co33, .slice Ao32 t312.length co32, .slice Ao31 t315.length co31, .slice none 0 0, .slice none 0 0, .slice none 0 0]) ?_ 4 _ rfl; (with_reducible repeat (first | refine blk_drewN ?_ _ | refine blk_drew ?_ | refine blk_alloc ?_ _)); refine blk_put (cs := #[.slice Ao34 t306.length co34, .slice Ao33 t309.length co33, .slice Ao32 t312.length co32, .slice none 0 0, .slice none 0 0, .slice none 0 0, .slice none 0 0]) ?_ 3 _ rfl; (with_reducible repeat (first | refine blk_drewN ?_ _ | refine blk_drew ?_ | refine blk_alloc ?_ _)); refine blk_put (cs := #[.slice Ao34 t306.length co34, .slice Ao33 t309.length co33, .slice none 0 0, .slice none 0 0, .slice none 0 0, .slice none 0 0, .slice none 0 0]) ?_ 2 _ rfl; (with_reducible repeat (first | refine blk_drewN ?_ _ | refine blk_drew ?_ | refine blk_alloc ?_ _)); refine blk_put (cs := #[.slice Ao34 t306.length co34, .slice none 0 0, .slice none 0 0, .slice none 0 0, .slice none 0 0, .slice none 0 0, .slice none 0 0]) ?_ 1 _ rfl; (with_reducible repeat (first | refine blk_drewN ?_ _ | refine blk_drew ?_ | refine blk_alloc ?_ _)); refine blk_put (cs := #[.slice none 0 0, .slice none 0 0, .slice none 0 0, .slice none 0 0, .slice none 0 0, .slice none 0 0, .slice none 0 0]) ?_ 0 _ rfl; (with_reducible repeat (first | refine blk_drewN ?_ _ | refine blk_drew ?_ | refine blk_alloc ?_ _)); exact BK302.out) Try.underlying70 rfl (by kernel_rfl)) rfl ?_
          exact ⟨_, _, _, _, _, _, _, by first | rfl | (simp [errW_none, errW_some] <;> rfl) | (simp [*, errW_none, errW_some] <;> rfl), by (with_reducible repeat (first | apply Kd.R_alloc | apply Kd.R_drewN | apply Kd.R_drew)); exact Kd.R_mono (Kd.R_far (p := ⟨gb302, 6, none⟩) (Kd.R_far (p := ⟨gb302, 5, none⟩) (Kd.R_far (p := ⟨gb302, 4, none⟩) (Kd.R_far (p := ⟨gb302, 3, none⟩) (Kd.R_far (p := ⟨gb302, 2, none⟩) (Kd.R_far (p := ⟨gb302, 1, none⟩) (Kd.R_far (p := ⟨gb302, 0, none⟩) (Kd.R_types HO_319000.out BK302.out (by decide)) (fun _ hk => hk.2) (.slice Ao34 t306.length co34)) (fun _ hk => hk.2) (.slice Ao33 t309.length co33)) (fun _ hk => hk.2) (.slice Ao32 t312.length co32)) (fun _ hk => hk.2) (.slice Ao31 t315.length co31)) (fun _ hk => hk.2) (.slice Ao97 x319004_3.length co97)) (fun _ hk => hk.2) (.slice Ao98 x319005_2.length co98)) (fun _ hk => hk.2) (.slice Ao99 x319006_3.length co99)) (fun _ hk => ⟨hk.1.1, ⟨hk.1.2.1, ⟨hk.1.2.2.1, ⟨hk.1.2.2.2.1, hk.1.2.2.2.2⟩⟩⟩⟩), by (with_reducible repeat (first | apply Kd.R_alloc | apply Kd.R_drewN | apply Kd.R_drew)); exact Kd.R_mono (Kd.R_far (p := ⟨gb302, 6, none⟩) (Kd.R_far (p := ⟨gb302, 5, none⟩) (Kd.R_far (p := ⟨gb302, 4, none⟩) (Kd.R_far (p := ⟨gb302, 3, none⟩) (Kd.R_far (p := ⟨gb302, 2, none⟩) (Kd.R_far (p := ⟨gb302, 1, none⟩) (Kd.R_far (p := ⟨gb302, 0, none⟩) (Kd.R_types HO_319001.out BK302.out (by decide)) (fun _ hk => hk.2) (.slice Ao34 t306.length co34)) (fun _ hk => hk.2) (.slice Ao33 t309.length co33)) (fun _ hk => hk.2) (.slice Ao32 t312.length co32)) (fun _ hk => hk.2) (.slice Ao31 t315.length co31)) (fun _ hk => hk.2) (.slice Ao97 x319004_3.length co97)) (fun _ hk => hk.2) (.slice Ao98 x319005_2.length co98)) (fun _ hk => hk.2) (.slice Ao99 x319006_3.length co99)) (fun _ hk => ⟨hk.1.2.1, ⟨hk.1.2.2.1, ⟨hk.1.2.2.2.1, ⟨hk.1.2.2.2.2.1, hk.1.2.2.2.2.2⟩⟩⟩⟩), by (with_reducible repeat (first | apply Kd.R_alloc | apply Kd.R_drewN | apply Kd.R_drew)); exact Kd.R_mono (Kd.R_far (p := ⟨gb302, 6, none⟩) (Kd.R_far (p := ⟨gb302, 5, none⟩) (Kd.R_far (p := ⟨gb302, 4, none⟩) (Kd.R_far (p := ⟨gb302, 3, none⟩) (Kd.R_far (p := ⟨gb302, 2, none⟩) (Kd.R_far (p := ⟨gb302, 1, none⟩) (Kd.R_far (p := ⟨gb302, 0, none⟩) (Kd.R_types HO_319002.out BK302.out (by decide)) (fun _ hk => hk.2) (.slice Ao34 t306.length co34)) (fun _ hk => hk.2) (.slice Ao33 t309.length co33)) (fun _ hk => hk.2) (.slice Ao32 t312.length co32)) (fun _ hk => hk.2) (.slice Ao31 t315.length co31)) (fun _ hk => hk.2) (.slice Ao97 x319004_3.length co97)) (fun _ hk => hk.2) (.slice Ao98 x319005_2.length co98)) (fun _ hk => hk.2) (.slice Ao99 x319006_3.length co99)) (fun _ hk => ⟨hk.1.2.1, ⟨hk.1.2.2.1, ⟨hk.1.2.2.2.1, ⟨hk.1.2.2.2.2.1, hk.1.2.2.2.2.2⟩⟩⟩⟩), by (with_reducible repeat (first | apply Kd.R_alloc | apply Kd.R_drewN | apply Kd.R_drew)); exact Kd.R_mono (Kd.R_far (p := ⟨gb302, 6, none⟩) (Kd.R_far (p := ⟨gb302, 5, none⟩) (Kd.R_far (p := ⟨gb302, 4, none⟩) (Kd.R_far (p := ⟨gb302, 3, none⟩) (Kd.R_far (p := ⟨gb302, 2, none⟩) (Kd.R_far (p := ⟨gb302, 1, none⟩) (Kd.R_far (p := ⟨gb302, 0, none⟩) (Kd.R_types HO_319003.out BK302.out (by decide)) (fun _ hk => hk.2) (.slice Ao34 t306.length co34)) (fun _ hk => hk.2) (.slice Ao33 t309.length co33)) (fun _ hk => hk.2) (.slice Ao32 t312.length co32)) (fun _ hk => hk.2) (.slice Ao31 t315.length co31)) (fun _ hk => hk.2) (.slice Ao97 x319004_3.length co97)) (fun _ hk => hk.2) (.slice Ao98 x319005_2.length co98)) (fun _ hk => hk.2) (.slice Ao99 x319006_3.length co99)) (fun _ hk => ⟨hk.1.2.1, ⟨hk.1.2.2.1, ⟨hk.1.2.2.2.1, ⟨hk.1.2.2.2.2.1, hk.1.2.2.2.2.2⟩⟩⟩⟩), by (with_reducible repeat (first | apply Kd.R_alloc | apply Kd.R_drewN | apply Kd.R_drew)); exact Kd.R_mono (Kd.R_far (p := ⟨gb302, 6, none⟩) (Kd.R_far (p := ⟨gb302, 5, none⟩) (Kd.R_far (p := ⟨gb302, 4, none⟩) (Kd.R_far (p := ⟨gb302, 3, none⟩) (Kd.R_far (p := ⟨gb302, 2, none⟩) (Kd.R_far (p := ⟨gb302, 1, none⟩) (Kd.R_far (p := ⟨gb302, 0, none⟩) (Kd.R_types HO_319004.out BK302.out (by decide)) (fun _ hk => hk.2) (.slice Ao34 t306.length co34)) (fun _ hk => hk.2) (.slice Ao33 t309.length co33)) (fun _ hk => hk.2) (.slice Ao32 t312.length co32)) (fun _ hk => hk.2) (.slice Ao31 t315.length co31)) (fun _ hk => hk.2) (.slice Ao97 x319004_3.length co97)) (fun _ hk => hk.2) (.slice Ao98 x319005_2.length co98)) (fun _ hk => hk.2) (.slice Ao99 x319006_3.length co99)) (fun _ hk => ⟨hk.1.2.1, ⟨hk.1.2.2.1, ⟨hk.1.2.2.2.1, ⟨hk.1.2.2.2.2.1, hk.1.2.2.2.2.2⟩⟩⟩⟩), by (with_reducible repeat (first | apply Kd.R_alloc | apply Kd.R_drewN | apply Kd.R_drew)); exact Kd.R_mono (Kd.R_far (p := ⟨gb302, 6, none⟩) (Kd.R_far (p := ⟨gb302, 5, none⟩) (Kd.R_far (p := ⟨gb302, 4, none⟩) (Kd.R_far (p := ⟨gb302, 3, none⟩) (Kd.R_far (p := ⟨gb302, 2, none⟩) (Kd.R_far (p := ⟨gb302, 1, none⟩) (Kd.R_far (p := ⟨gb302, 0, none⟩) (Kd.R_types HO_319005.out BK302.out (by decide)) (fun _ hk => hk.2) (.slice Ao34 t306.length co34)) (fun _ hk => hk.2) (.slice Ao33 t309.length co33)) (fun _ hk => hk.2) (.slice Ao32 t312.length co32)) (fun _ hk => hk.2) (.slice Ao31 t315.length co31)) (fun _ hk => hk.2) (.slice Ao97 x319004_3.length co97)) (fun _ hk => hk.2) (.slice Ao98 x319005_2.length co98)) (fun _ hk => hk.2) (.slice Ao99 x319006_3.length co99)) (fun _ hk => ⟨hk.1.2.1, ⟨hk.1.2.2.1, ⟨hk.1.2.2.2.1, ⟨hk.1.2.2.2.2.1, hk.1.2.2.2.2.2⟩⟩⟩⟩), by (with_reducible repeat (first | apply Kd.S_alloc | apply Kd.S_drewN | apply Kd.S_drew)); exact Kd.S_mono (Kd.S_far (p := ⟨gb302, 6, none⟩) (Kd.S_far (p := ⟨gb302, 5, none⟩) (Kd.S_far (p := ⟨gb302, 4, none⟩) (Kd.S_far (p := ⟨gb302, 3, none⟩) (Kd.S_far (p := ⟨gb302, 2, none⟩) (Kd.S_far (p := ⟨gb302, 1, none⟩) (Kd.S_far (p := ⟨gb302, 0, none⟩) (Kd.S_types HO_319006.out BK302.out (by decide)) (fun _ hk => hk.2) (.slice Ao34 t306.length co34)) (fun _ hk => hk.2) (.slice Ao33 t309.length co33)) (fun _ hk => hk.2) (.slice Ao32 t312.length co32)) (fun _ hk => hk.2) (.slice Ao31 t315.length co31)) (fun _ hk => hk.2) (.slice Ao97 x319004_3.length co97)) (fun _ hk => hk.2) (.slice Ao98 x319005_2.length co98)) (fun _ hk => hk.2) (.slice Ao99 x319006_3.length co99)) (fun _ hk => ⟨hk.1.2.1, ⟨hk.1.2.2.1, ⟨hk.1.2.2.2.1, ⟨hk.1.2.2.2.2.1, ⟨hk.1.2.2.2.2.2.1, hk.1.2.2.2.2.2.2⟩⟩⟩⟩⟩), by repeat (first | (with_reducible first | exact HB.out | apply below_alloc | apply pw_below_drewN | apply below_drew1 | refine below_set ?_ GE301.out | refine below_set ?_ GE302.out | refine below_set ?_ GE318.out) | exact HB.out)⟩
end Go.Proofs.Ytelglbebffdaaaa.X
namespace Go.Proofs.Ytelglbebffdaaaa.X
open Go.RowKit Go.Proofs.YtelglbebffdaaaaW.PrintWords Go.Proofs.YtelglbebffdaaaaW.PrintLast Go.Proofs.YtelglbebffdaaaaW.PrintMore
attribute [local go_sem] max2_int min2_int max_two min_two max_three min_three max_four min_four   -- for this text's walks alone
set_option linter.unusedVariables false
set_option linter.unusedSimpArgs false
def impl_KeyRoots.l0 : Nat → List Int → List Int → List Int → Int → Int → Option (List Int)
 | 0, _, _, _, _, _ => none
 | k + 1, x3, x4, x10, x11, x12 => if x12 < x11 then (if 0 ≤ x12 then (if x12 < (x10.length : Int) then (if 0 ≤ (wrap64 (x12 + 1)) then (if (wrap64 (x12 + 1)) ≤ (x4.length : Int) then ((slices_Contains_int_int.f k (x4.drop ((wrap64 (x12 + 1)) : Int).toNat) (rd x10 x12)).bind fun t652 => (if t652 = true then (impl_KeyRoots.l0 k x3 x4 x10 x11 (wrap64 (x12 + 1))) else (if x3.length < 17592186044416 then (impl_KeyRoots.l0 k (x3 ++ [x12]) x4 x10 x11 (wrap64 (x12 + 1))) else (none)))) else (none)) else (none)) else (none)) else (none)) else (some x3)
def impl_KeyRoots.f (k : Nat) (l0 : List (S53)) : Option (List Int) := (impl_LeftLeaf.f k l0).bind fun t644 => (impl_KeyRoots.l0 k (([] : List Int)) t644 t644 (t644.length : Int) 0)
theorem impl_KeyRoots.mono_l : ∀ k, (∀ y0 y1 y2 y3 y4, LeO (impl_KeyRoots.l0 k y0 y1 y2 y3 y4) (impl_KeyRoots.l0 (k + 1) y0 y1 y2 y3 y4))
 | 0 => fun _ _ _ _ _ r h => by simp [impl_KeyRoots.l0] at h
 | k + 1 => by
  have ih0 := impl_KeyRoots.mono_l k
  ·intro y0 y1 y2 y3 y4
   unfold impl_KeyRoots.l0
   repeat' first
   | (with_reducible exact ih0 _ _ _ _ _)
   | (with_reducible exact impl_LeftLeaf.mono _ _)
   | (with_reducible exact slices_Contains_int_int.mono _ _ _)
   | (with_reducible exact LeO.refl _)
   | (with_reducible exact LeO.none _)
   | (with_reducible refine LeO.ite ?_ ?_)
   | (with_reducible refine LeO.bind ?_ (fun _ => ?_))
   | exact ih0 _ _ _ _ _
   | exact impl_LeftLeaf.mono _ _
   | exact slices_Contains_int_int.mono _ _ _
   | exact LeO.none _
   | refine LeO.ite ?_ ?_
   | refine LeO.bind ?_ (fun _ => ?_)
theorem impl_KeyRoots.mono : ∀ a0 k, LeO (impl_KeyRoots.f k a0) (impl_KeyRoots.f (k + 1) a0) := by
 intro a0 k
 have ih0 := impl_KeyRoots.mono_l k
 unfold impl_KeyRoots.f
 repeat' first
   | (with_reducible exact ih0 _ _ _ _ _)
   | (with_reducible exact impl_LeftLeaf.mono _ _)
   | (with_reducible exact slices_Contains_int_int.mono _ _ _)
   | (with_reducible exact LeO.refl _)
   | (with_reducible exact LeO.none _)
   | (with_reducible refine LeO.ite ?_ ?_)
   | (with_reducible refine LeO.bind ?_ (fun _ => ?_))
   | exact ih0 _ _ _ _ _
   | exact impl_LeftLeaf.mono _ _
   | exact slices_Contains_int_int.mono _ _ _
   | exact LeO.none _
   | refine LeO.ite ?_ ?_
   | refine LeO.bind ?_ (fun _ => ?_)
set_option maxHeartbeats 8000000 in
set_option maxRecDepth 100000 in
theorem impl_KeyRoots.calls (k : Nat) (A0 : Option Addr) (c0 : Nat) (l0 : List (S53)) (r : List Int) (w : World) (hr0 : Kd.C k53 w A0 l0.length l0) (hc0 : l0.length ≤ c0) (h : impl_KeyRoots.f k l0 = some r) :
  Calls Try.prog 87 #[.slice A0 l0.length c0] w fun e w' => ∃ v0_ : Value, e = .returned (v0_) ∧ Kd.R (Kd.int .i64) 3 w' w.heap.size (fun _ => True) v0_ r ∧ Below w.heap.size w w' := by
 have HR0 := Aside0.mk hr0
 have HC0 := Aside0.mk hc0
 clear hr0 hc0
 have HB := Aside0.mk (Below.refl w.heap.size w)
 have H : ((impl_LeftLeaf.f k l0).bind fun t644 => (impl_KeyRoots.l0 k (([] : List Int)) t644 t644 (t644.length : Int) 0)) = some r := h
 clear h
 obtain ⟨y641, hy641⟩ : ∃ y_ : List Int, y_ = (([] : List Int)) := ⟨_, rfl⟩
 replace H : ((impl_LeftLeaf.f k l0).bind fun t644 => (impl_KeyRoots.l0 k y641 t644 t644 (t644.length : Int) 0)) = some r := by first | (rw [hy641]; with_reducible exact H) | (have H2_ := (Option.bind_some _ _).symm.trans H; rw [hy641]; with_reducible exact H2_) | (have H2_ := (Option.bind_some _ _).symm.trans H; with_reducible exact H2_) | with_reducible exact H | (rw [hy641]; exact H) | exact H
 have Ny641 := Aside0.mk hy641
 clear hy641
 replace H := Option.bind_eq_some_iff.mp H
 obtain ⟨t644, A20, H⟩ := H
 replace H : (impl_KeyRoots.l0 k y641 t644 t644 (t644.length : Int) 0) = some r := H
 have A2 := Aside0.mk A20
 clear A20
 have H' := Aside0.mk H
 clear H
 go_enter Try.func87, Try.ntmps87
 go_wp2_with (first | ((with_reducible refine gate_dst (N := 7) rfl ?_); refine Kd.R_lit (Kd.int .i64) _ 3 ?hg (N := 7) ?hd (xs := ([] : List Int)) (inner := []) (ok := fun _ => True) (okp := fun _ => True) ?hr ?hp (fun _ hk => hk) trivial (Below.refl _ _) (Nat.le_refl _) (by simp) ?_; (case hd => rfl); (case hg => rfl); (case hr => first | (go_simp; done) | (go_simp; rfl)); (case hp => exact (Reps.none _ _)); intro v642 w3 ho4 hb hg_ hnew_; clear hg_ hnew_; (first | rw [← Ny641.out] at ho4 | (simp only [Int.reduceToNat] at ho4; rw [← Ny641.out] at ho4)); have HO643 := Aside0.mk (Kd.R_lower ho4 (bs_ HB)); replace HB := tB_ HB hb; clear hb ho4) | ((with_reducible refine gate_callee (f := 84) rfl ?_); refine gL_ (some 9) Try.func84 #[.slice A0 l0.length c0] ?_; (with_reducible refine (impl_LeftLeaf.calls k _ _ l0 t644 _ (cx_ HR0 HB) HC0.out A2.out).mono ?_); rintro e w5 ⟨v645, rfl, ho0, hb⟩; refine ⟨_, rfl, ?_⟩; have HO646 := Aside0.mk (Kd.R_lower (Kd.R_new' ho0 (Kd.R_lt (rx_ HO643.out))) (bs_ HB)); replace HO643 := Aside0.mk (Kd.R_elder' (rx_ HO643.out) (Kd.R_base ho0) hb); replace HB := tB_ HB hb; (try clear hb); (try clear ho0); obtain ⟨Ao6, co6, eo6⟩ := Kd.R_slice HO646.out; subst eo6))
 go_loopg [3, 12] k (fun kq v3 v12 w' => ∃ (x3_1 : List Int) (x12_1 : Int), v12 = .int .i64 x12_1 ∧ Aside0 (impl_KeyRoots.l0 kq x3_1 t644 t644 (t644.length : Int) x12_1 = some r) ∧ Aside0 (kq ≤ k) ∧ Aside0 (Kd.R (Kd.int .i64) 3 w' w.heap.size (fun k_ => some k_ ≠ ((.slice Ao6 t644.length co6) : Value).ownBlock ∧ some k_ ≠ ((.slice Ao6 t644.length co6) : Value).ownBlock) v3 x3_1) ∧ Aside0 (Kd.R (Kd.int .i64) 3 w' w.heap.size (fun k_ => some k_ ≠ (v3 : Value).ownBlock) (.slice Ao6 t644.length co6) t644) ∧ Aside0 (Kd.R (Kd.int .i64) 3 w' w.heap.size (fun k_ => some k_ ≠ (v3 : Value).ownBlock) (.slice Ao6 t644.length co6) t644) ∧ Aside0 (Below w.heap.size w w'))
 case atStart => exact ⟨(y641), (0), eb_, H', ⟨Nat.le_refl _⟩, ⟨rx_ (Kd.R_mono HO643.out (fun _ hk => ⟨hk.2, hk.2⟩))⟩, ⟨rx_ (Kd.R_mono HO646.out (fun _ hk => hk.2))⟩, ⟨rx_ (Kd.R_mono HO646.out (fun _ hk => hk.2))⟩, bl_ HB⟩
 case round =>
  clear H'
  try clear p2
  obtain ⟨x3_1, x12_1, rfl, HA, HK1, HO_3, HO_4, HO_10, HB⟩ := hrel
  cases gk with
  | zero => exact absurd HA.out (by simp [impl_KeyRoots.l0])
  | succ k1 =>
   have H := HA.out
   clear HA
   simp only [impl_KeyRoots.l0] at H
   by_cases c7 : x12_1 < (t644.length : Int)
   ·rw [if_pos c7] at H
    have c7b0 : decide (x12_1 < (t644.length : Int)) = true := decide_eq_true c7
    clear c7
    by_cases c8 : 0 ≤ x12_1
    ·rw [if_pos c8] at H
     have c8b0 : decide (0 ≤ x12_1) = true := decide_eq_true c8
     clear c8
     by_cases c9 : x12_1 < (t644.length : Int)
     ·rw [if_pos c9] at H
      have c9b0 : decide (x12_1 < (t644.length : Int)) = true := decide_eq_true c9
      clear c9
      obtain ⟨ji10, hji10⟩ : ∃ j_ : Int, (wrap64 (x12_1 + 1)) = j_ := ⟨_, rfl⟩
      replace H : (if 0 ≤ (ji10) then (if (ji10) ≤ (t644.length : Int) then ((slices_Contains_int_int.f k1 (t644.drop ((ji10) : Int).toNat) (rd t644 x12_1)).bind fun t652 => (if t652 = true then (impl_KeyRoots.l0 k1 x3_1 t644 t644 (t644.length : Int) ji10) else (if x3_1.length < 17592186044416 then (impl_KeyRoots.l0 k1 (x3_1 ++ [x12_1]) t644 t644 (t644.length : Int) ji10) else (none)))) else (none)) else (none)) = some r := by first | (rw [hji10] at H; exact H) | (simp only [hji10] at H ⊢; exact H)
      have hji10w : (IntKind.i64.wrap (x12_1 + 1)) = ji10 := (i64_w _).trans hji10
      by_cases c11 : 0 ≤ (ji10)
      ·rw [if_pos c11] at H
       have c11b0 := eq_true c11
       have c11b1 : decide (0 ≤ (ji10)) = true := decide_eq_true c11
       clear c11
       by_cases c12 : (ji10) ≤ (t644.length : Int)
       ·rw [if_pos c12] at H
        have c12b0 := eq_true c12
        have c12b1 : decide ((ji10) ≤ (t644.length : Int)) = true := decide_eq_true c12
        clear c12
        obtain ⟨y648, hy648⟩ : ∃ y_ : List Int, y_ = (t644.drop ((ji10) : Int).toNat) := ⟨_, rfl⟩
        replace H : ((slices_Contains_int_int.f k1 y648 (rd t644 x12_1)).bind fun t652 => (if t652 = true then (impl_KeyRoots.l0 k1 x3_1 t644 t644 (t644.length : Int) ji10) else (if x3_1.length < 17592186044416 then (impl_KeyRoots.l0 k1 (x3_1 ++ [x12_1]) t644 t644 (t644.length : Int) ji10) else (none)))) = some r := by first | (rw [hy648]; with_reducible exact H) | (have H2_ := (Option.bind_some _ _).symm.trans H; rw [hy648]; with_reducible exact H2_) | (have H2_ := (Option.bind_some _ _).symm.trans H; with_reducible exact H2_) | with_reducible exact H | (rw [hy648]; exact H) | exact H
        have Ny648 := Aside0.mk hy648
        clear hy648
        replace H := Option.bind_eq_some_iff.mp H
        obtain ⟨t652, A130, H⟩ := H
        try dsimp only at H
        have A13 := Aside0.mk A130
        clear A130
        by_cases c14 : t652 = true
        ·subst c14
         have H1 : (impl_KeyRoots.l0 k1 x3_1 t644 t644 (t644.length : Int) ji10) = some r := by rw [if_pos rfl] at H; exact H
         clear H
         have H := H1
         clear H1
         have H' := Aside0.mk H
         clear H
         have p647 : 0 ≤ (x12_1 : Int) := od_
         have q647 : x12_1 < (t644.length : Int) := od_
         obtain ⟨ad647, e647, hx647_0⟩ := Kd.at_int (Kd.R_reads' HO_10.out).2.2 x12_1 p647 q647
         cases e647
         replace p647 := eq_true p647
         replace q647 := eq_true q647
         have q15 : ((ji10) : Int) ≤ ((t644.length : Int) : Int) := od_
         obtain ⟨i015, hi015, _, hsz15, _⟩ := info_parts info3
         have hroom15 : t644.length ≤ co6 := (Kd.R_reads' HO_4.out).2.1
         have hC15 : Kd.C (Kd.int .i64) _ (some ad647) t644.length t644 := (Kd.R_reads' HO_4.out).2.2
         have q015 : (0 : Int) ≤ ((ji10) : Int) := od_
         have hcut15 := cut_from (P := Try.prog) 23 3 .i64 Try.underlying23 hi015 1 hsz15 (some ad647) t644.length co6 (ji10) q015 q15
         have hr15 := Kd.C_drop (m := ((ji10) : Int).toNat) (c := co6) hC15 (by omega) hroom15
         obtain ⟨A15, hA15⟩ : ∃ A1, A1 = (if co6 = ((ji10) : Int).toNat then (some ad647) else ((some ad647) : Option Addr).map (·.add (((ji10) : Int).toNat * 1))) := ⟨_, rfl⟩
         obtain ⟨c15, hc15⟩ : ∃ c1, c1 = co6 - ((ji10) : Int).toNat := ⟨_, rfl⟩
         have hy15 : y648.length = t644.length - ((ji10) : Int).toNat := (by rw [Ny648.out, List.length_drop] <;> omega)
         rw [show (t644).drop ((ji10) : Int).toNat = y648 from Ny648.out.symm] at hr15
         replace hr15 : Kd.C (Kd.int .i64) _ A15 y648.length y648 := (by rw [hA15]; exact hr15)
         rw [← hy15, ← hA15, ← hc15] at hcut15
         have HR651 := Aside0.mk hr15
         have HC651 := Aside0.mk (show y648.length ≤ c15 from by rw [hy15, hc15]; exact Nat.sub_le_sub_right hroom15 _)
         clear hr15 hC15 hroom15 hi015 hsz15 hc15
         have KY15 := Aside0.mk hy15
         have KA15 := Aside0.mk hA15
         clear hy15 hA15
         have KL15 := Aside0.mk (show ((ji10) : Int).toNat ≤ t644.length from by omega)
         replace q15 := eq_true q15
         go_wp2_with (first | ((with_reducible refine gate_callee (f := 106) rfl ?_); refine gL_ (some 22) Try.func106 #[.slice A15 y648.length c15, .int .i64 (rd t644 x12_1)] ?_; (with_reducible refine (slices_Contains_int_int.calls k1 _ _ y648 (rd t644 x12_1) true _ (cc_ (by repeat (first | (with_reducible exact HR651.out) | (with_reducible refine Kd.C_alloc ?_ _) | (with_reducible refine Kd.C_drewN ?_ _) | (with_reducible refine Kd.C_drew ?_) | exact HR651.out))) HC651.out A13.out).mono ?_); rintro e w' ⟨rfl, ⟨nd, rfl⟩⟩; refine ⟨_, rfl, ?_⟩))
         go_roundg k1
         case measure => have := HK1.out; omega
         case rel => exact ⟨(x3_1), (ji10), (by first | rfl | (simp; done) | (simp only [← hji10] <;> (first | rfl | simp)) | (simp [*]; done)), H', ⟨by have := HK1.out; omega⟩, ⟨rx_ HO_3.out⟩, ⟨rx_ HO_4.out⟩, ⟨rx_ HO_10.out⟩, bl_ HB⟩
        ·replace c14 := Bool.eq_false_iff.mpr c14
         subst c14
         have H1 : (if x3_1.length < 17592186044416 then (impl_KeyRoots.l0 k1 (x3_1 ++ [x12_1]) t644 t644 (t644.length : Int) ji10) else (none)) = some r := by rw [if_neg (show ¬ (false = true) by decide)] at H; exact H
         clear H
         have H := H1
         clear H1
         by_cases c16 : x3_1.length < 17592186044416
         ·rw [if_pos c16] at H
          have LMc16 := Aside0.mk c16
          clear c16
          obtain ⟨y653, hy653⟩ : ∃ y_ : List Int, y_ = (x3_1 ++ [x12_1]) := ⟨_, rfl⟩
          replace H : (impl_KeyRoots.l0 k1 y653 t644 t644 (t644.length : Int) ji10) = some r := by first | (rw [hy653]; with_reducible exact H) | (have H2_ := (Option.bind_some _ _).symm.trans H; rw [hy653]; with_reducible exact H2_) | (have H2_ := (Option.bind_some _ _).symm.trans H; with_reducible exact H2_) | with_reducible exact H | (rw [hy653]; exact H) | exact H
          have Ny653 := Aside0.mk hy653
          clear hy653
          have H' := Aside0.mk H
          clear H
          have p647 : 0 ≤ (x12_1 : Int) := od_
          have q647 : x12_1 < (t644.length : Int) := od_
          obtain ⟨ad647, e647, hx647_0⟩ := Kd.at_int (Kd.R_reads' HO_10.out).2.2 x12_1 p647 q647
          cases e647
          replace p647 := eq_true p647
          replace q647 := eq_true q647
          have q17 : ((ji10) : Int) ≤ ((t644.length : Int) : Int) := od_
          obtain ⟨i017, hi017, _, hsz17, _⟩ := info_parts info3
          have hroom17 : t644.length ≤ co6 := (Kd.R_reads' HO_4.out).2.1
          have hC17 : Kd.C (Kd.int .i64) _ (some ad647) t644.length t644 := (Kd.R_reads' HO_4.out).2.2
          have q017 : (0 : Int) ≤ ((ji10) : Int) := od_
          have hcut17 := cut_from (P := Try.prog) 23 3 .i64 Try.underlying23 hi017 1 hsz17 (some ad647) t644.length co6 (ji10) q017 q17
          have hr17 := Kd.C_drop (m := ((ji10) : Int).toNat) (c := co6) hC17 (by omega) hroom17
          obtain ⟨A17, hA17⟩ : ∃ A1, A1 = (if co6 = ((ji10) : Int).toNat then (some ad647) else ((some ad647) : Option Addr).map (·.add (((ji10) : Int).toNat * 1))) := ⟨_, rfl⟩
          obtain ⟨c17, hc17⟩ : ∃ c1, c1 = co6 - ((ji10) : Int).toNat := ⟨_, rfl⟩
          have hy17 : y648.length = t644.length - ((ji10) : Int).toNat := (by rw [Ny648.out, List.length_drop] <;> omega)
          rw [show (t644).drop ((ji10) : Int).toNat = y648 from Ny648.out.symm] at hr17
          replace hr17 : Kd.C (Kd.int .i64) _ A17 y648.length y648 := (by rw [hA17]; exact hr17)
          rw [← hy17, ← hA17, ← hc17] at hcut17
          have HR651 := Aside0.mk hr17
          have HC651 := Aside0.mk (show y648.length ≤ c17 from by rw [hy17, hc17]; exact Nat.sub_le_sub_right hroom17 _)
          clear hr17 hC17 hroom17 hi017 hsz17 hc17
          have KY17 := Aside0.mk hy17
          have KA17 := Aside0.mk hA17
          clear hy17 hA17
          have KL17 := Aside0.mk (show ((ji10) : Int).toNat ≤ t644.length from by omega)
          replace q17 := eq_true q17
          go_wp2_with (first | ((with_reducible refine gate_callee (f := 106) rfl ?_); refine gL_ (some 22) Try.func106 #[.slice A17 y648.length c17, .int .i64 (rd t644 x12_1)] ?_; (with_reducible refine (slices_Contains_int_int.calls k1 _ _ y648 (rd t644 x12_1) false _ (cc_ (by repeat (first | (with_reducible exact HR651.out) | (with_reducible refine Kd.C_alloc ?_ _) | (with_reducible refine Kd.C_drewN ?_ _) | (with_reducible refine Kd.C_drew ?_) | exact HR651.out))) HC651.out A13.out).mono ?_); rintro e w' ⟨rfl, ⟨nd, rfl⟩⟩; refine ⟨_, rfl, ?_⟩) | ((with_reducible refine gate_builtin (b := .append) (xs := #[.tmp 24, .tmp 26]) rfl ?_); at_builtin; refine Kd.R_append (Kd.int .i64) (w0 := w) w.heap.size rfl (.tmp 24) (.tmp 26) 23 3 (.int .i64 0) 8 rfl Try.underlying23 info3 rfl (by decide) (by omega) u3 x3_1 x12_1 [.int .i64 x12_1] (fun k_ => some k_ ≠ (.slice (some ad647) t644.length co6 : Value).ownBlock ∧ some k_ ≠ (.slice (some ad647) t644.length co6 : Value).ownBlock) (fun _ => False) rfl rfl ?aP (fun _ hk => hk.elim) ?aF ?aO ?aB ?aS ?aL ?_; (case aP => exact rfl); (case aB => exact ((bl_ HB).out)); (case aF => exact (fun k_ hk => ⟨Kd.fresh' (Kd.R_lt (rx_ HO_4.out)) k_ hk, Kd.fresh' (Kd.R_lt (rx_ HO_10.out)) k_ hk⟩)); (case aO => exact (rx_ HO_3.out)); (case aS => exact (bs_ HB)); (case aL => have := LMc16.out; omega); intro v654 w18 ho hb hg hat; rw [← Ny653.out] at ho; replace HO_10 := Aside0.mk (Kd.R_after (ok := (fun _ => True)) (rx_ (Kd.R_mono HO_10.out (fun _ hk => ⟨trivial, hk⟩))) hg hat); replace HB := Aside0.mk (hb); replace HR651 := Aside0.mk ((show Kd.C (Kd.int .i64) w18 A17 y648.length y648 from by rw [Ny648.out, KA17.out]; exact Kd.C_drop (m := ((ji10) : Int).toNat) (c := co6) ((Kd.R_reads' (Kd.R_after (ok := (fun _ => True)) (rx_ (Kd.R_mono HO_4.out (fun _ hk => ⟨trivial, hk⟩))) hg hat)).2.2) KL17.out ((Kd.R_reads' (Kd.R_after (ok := (fun _ => True)) (rx_ (Kd.R_mono HO_4.out (fun _ hk => ⟨trivial, hk⟩))) hg hat)).2.1))); replace HO_4 := Aside0.mk (Kd.R_after (ok := (fun _ => True)) (rx_ (Kd.R_mono HO_4.out (fun _ hk => ⟨trivial, hk⟩))) hg hat); have HO655 := Aside0.mk (ho); clear HO_3; clear ho hb hg hat))
          go_roundg k1
          case measure => have := HK1.out; omega
          case rel => exact ⟨(y653), (ji10), (by first | rfl | (simp; done) | (simp only [← hji10] <;> (first | rfl | simp)) | (simp [*]; done)), H', ⟨by have := HK1.out; omega⟩, ⟨rx_ HO655.out⟩, ⟨rx_ (Kd.R_mono HO_4.out (fun _ hk => hk.2))⟩, ⟨rx_ (Kd.R_mono HO_10.out (fun _ hk => hk.2))⟩, bl_ HB⟩
         ·rw [if_neg c16] at H
          exact absurd H (by simp)
       ·rw [if_neg c12] at H
        exact absurd H (by simp)
      ·rw [if_neg c11] at H
       exact absurd H (by simp)
     ·rw [if_neg c9] at H
      exact absurd H (by simp)
    ·rw [if_neg c8] at H
     exact absurd H (by simp)
   ·rw [if_neg c7] at H
    have c7b0 : decide (x12_1 < (t644.length : Int)) = false := decide_eq_false c7
    clear c7
    obtain rfl := Option.some.inj H
    go_wp2
    go_ret
    exact ⟨_, ea_, rx_ (Kd.R_mono HO_3.out (fun _ hk => trivial)), (bl_ HB).out⟩
end Go.Proofs.Ytelglbebffdaaaa.X
