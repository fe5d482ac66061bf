/- Part 10 of the proof of FnExactBestMap: what it needs. -/
import Derived.Test.YtelglbebffdaaaaKEBestMap3
import Derived.Test.YtelglbebffdaaaaKEBestMap5
import Derived.Test.YtelglbebffdaaaaKEBestMap6
import Derived.Test.YtelglbebffdaaaaKEBestMap9
namespace Go.Proofs.Ytelglbebffdaaaa.X
open Go.RowKit Go.Proofs.YtelglbebffdaaaaW.PrintWords Go.Proofs.YtelglbebffdaaaaW.PrintLast Go.Proofs.YtelglbebffdaaaaW.PrintMore Go.Proofs.Ytelglbebffdaaaa.Q
set_option linter.unusedVariables false
set_option linter.unusedSimpArgs false
theorem ev_uniq {α : Type} {g : Nat → Option α} {a b : α} (h : Ev g a) (k : Ev g b) : a = b:=by
 obtain ⟨K,hK⟩:=h
 obtain ⟨J,hJ⟩:=k
 have e1:=hK (max K J) (Nat.le_max_left _ _)
 have e2:=hJ (max K J) (Nat.le_max_right _ _)
 rw [e1] at e2
 exact Option.some.inj e2
theorem treeOk_told {k : Nat} {l : List NodeI} {b : Bool} (h : impl_TreeOk.f k l = some b) : b = trB l:=ev_uniq (Ev.of (impl_TreeOk.mono l) h) (implTreeOk_ev l)
def impl_PostOrder.f (k : Nat) (l0 : List NodeI) : Option (List Int):=(impl_TreeOk.f k l0).bind fun t => if t = true then some (pst l0) else some []
theorem impl_PostOrder.mono : ∀ l0 k,LeO (impl_PostOrder.f k l0) (impl_PostOrder.f (k + 1) l0):=by
 intro l0 k
 unfold impl_PostOrder.f
 exact LeO.bind (impl_TreeOk.mono _ _) (fun _ => LeO.refl _)
theorem impl_PostOrder.ev (l : List NodeI) : Ev (fun k => impl_PostOrder.f k l) (if trB l = true then pst l else []):=by
 unfold impl_PostOrder.f
 refine Ev.bind (implTreeOk_ev l) ?_
 by_cases h : trB l = true
 ·simp only [if_pos h];exact Ev.now _
 ·simp only [if_neg h];exact Ev.now _
def cfN (l : List NodeI) (i j : Nat) : Int:=if rk l j < rk l i then 1 else if rk l i < rk l j then -1 else 0
theorem cfN_down {l : List NodeI} (t : Tr l) {i j : Nat} (hi : i < l.length) (h1 : i < j) (h2 : j < endN l i) : cfN l i j = 1:=by
 have:=rk_under t hi h1 h2
 unfold cfN;rw [if_pos this]
theorem cfN_ahead {l : List NodeI} (t : Tr l) {i j : Nat} (hi : i < l.length) (hj : j < l.length) (h2 : endN l i ≤ j) : cfN l i j = -1:=by
 have:=rk_ahead t hj hi h2
 unfold cfN;rw [if_neg (by omega),if_pos this]
theorem cfN_up {l : List NodeI} (t : Tr l) {i j : Nat} (hj : j < l.length) (h1 : j < i) (h2 : i < endN l j) : cfN l i j = -1:=by
 have:=rk_under t hj h1 h2
 unfold cfN;rw [if_neg (by omega),if_pos this]
theorem cfN_behind {l : List NodeI} (t : Tr l) {i j : Nat} (hi : i < l.length) (hj : j < l.length) (h2 : endN l j ≤ i) : cfN l i j = 1:=by
 have:=rk_ahead t hi hj h2
 unfold cfN;rw [if_pos this]
theorem cfN_same (l : List NodeI) (i : Nat) : cfN l i i = 0:=by
 unfold cfN;rw [if_neg (Nat.lt_irrefl _),if_neg (Nat.lt_irrefl _)]
set_option maxHeartbeats 4000000 in
set_option maxRecDepth 100000 in
theorem closure_calls {l : List NodeI} (t : Tr l) {A0 : Option Addr} {c0 b : Nat} {i j : Nat} (hi : i < l.length) (hj : j < l.length) (W : World) (hcell : W.cell? ⟨b,0,none⟩ = some (.slice A0 l.length c0)) (hC : Kd.C k53 W A0 l.length l) (hc : l.length ≤ c0) :
  Calls Try.prog 103 #[.int .i64 i,.int .i64 j,.pointer (some ⟨b,0,none⟩)] W fun e w' => e = .returned (.int .i64 (cfN l i j)) ∧ ∃ q,w' = W.drewN q:=by
 have h24:=t.len24
 have HE : Aside0 (∀ x : Nat,x < l.length → Calls Try.prog 104 #[.slice A0 l.length c0,.int .i64 x] W fun e w' => e = .returned (.int .i64 (endN l x : Nat)) ∧ Drawn0 W w'):=⟨fun x hx => by
  obtain ⟨k,hk⟩:=Ev.rounds (implEndOf_ev l (by omega) x hx)
  exact impl_endOf.calls k A0 c0 l x _ W hC hc hk⟩
 clear hC
 rcases Nat.lt_trichotomy i j with c | c | c
 ·have z1 : (i : Int) < (j : Int):=by omega
  have z2 : ¬ (j : Int) < (i : Int):=by omega
  by_cases d : j < endN l i
  ·have z3 : (j : Int) < (endN l i : Int):=by omega
   have HR:=Aside0.mk (cfN_down t hi c d)
   rw [HR.out]
   go_enter Try.func103,Try.ntmps103
   go_wp2_with (first | (go_at_call 104;refine (HE.out _ hi).mono ?_;rintro e w4 ⟨rfl,hd⟩;obtain ⟨⟨nd,rfl⟩⟩:=hd))
   go_ret
   exact ⟨rfl,_,rfl⟩
  ·have z3 : ¬ (j : Int) < (endN l i : Int):=by omega
   have HR:=Aside0.mk (cfN_ahead t hi hj (by omega))
   rw [HR.out]
   have z4 : ¬ (i : Int) = (j : Int):=by omega
   go_enter Try.func103,Try.ntmps103
   go_wp2_with (first | (go_at_call 104;refine (HE.out _ hi).mono ?_;rintro e w4 ⟨rfl,hd⟩;obtain ⟨⟨nd,rfl⟩⟩:=hd))
   go_ret
   exact ⟨rfl,_,rfl⟩
 ·subst c
  rw [cfN_same]
  go_enter Try.func103,Try.ntmps103
  go_wp2
  go_ret
  exact ⟨rfl,0,rfl⟩
 ·have z1 : ¬ (i : Int) < (j : Int):=by omega
  have z2 : (j : Int) < (i : Int):=by omega
  by_cases d : i < endN l j
  ·have z3 : ¬ (endN l j : Int) ≤ (i : Int):=by omega
   have z4 : ¬ (i : Int) = (j : Int):=by omega
   have HR:=Aside0.mk (cfN_up t hj c d)
   rw [HR.out]
   go_enter Try.func103,Try.ntmps103
   go_wp2_with (first | (go_at_call 104;refine (HE.out _ hj).mono ?_;rintro e w4 ⟨rfl,hd⟩;obtain ⟨⟨nd,rfl⟩⟩:=hd))
   go_ret
   exact ⟨rfl,_,rfl⟩
  ·have z3 : (endN l j : Int) ≤ (i : Int):=by omega
   have HR:=Aside0.mk (cfN_behind t hi hj (by omega))
   rw [HR.out]
   go_enter Try.func103,Try.ntmps103
   go_wp2_with (first | (go_at_call 104;refine (HE.out _ hj).mono ?_;rintro e w4 ⟨rfl,hd⟩;obtain ⟨⟨nd,rfl⟩⟩:=hd))
   go_ret
   exact ⟨rfl,_,rfl⟩
theorem sortWorld_block {α : Type} [Inhabited α] (enc : α → Value) (w : World) (blk m : Nat) (d : Array α) (os : Array Obj) {i : Nat} (hi : i < w.heap.size) (hne : i ≠ blk) : (sortWorld enc w blk 0 m d os).heap[i]? = w.heap[i]?:=by
 unfold sortWorld
 rw [Sort.heap_grow_old _ _ (by simp;exact hi)]
 simp only [Sort.putRow,Sort.mapBlock,Sort.ahead,Array.getElem?_modify]
 rw [if_neg (fun h => hne h.symm)]
theorem sortWorld_row {α : Type} [Inhabited α] (enc : α → Value) (w : World) (blk m : Nat) (d : Array α) (os : Array Obj) {cur : Array Value} {t : TypeId} (hb : w.heap[blk]? = some (.cells cur t (0,0))) : (sortWorld enc w blk 0 m d os).heap[blk]? = some (.cells (Sort.putCells enc 0 d cur) t (0,0)):=by
 unfold sortWorld
 rw [Sort.heap_grow_old _ _ (by simp;exact (Array.getElem?_eq_some_iff.1 hb).1)]
 simp only [Sort.putRow,Sort.mapBlock,Sort.ahead,Array.getElem?_modify,if_true,hb,Option.map_some,Sort.onCells]
theorem sortWorld_size {α : Type} [Inhabited α] (enc : α → Value) (w : World) (blk m : Nat) (d : Array α) (os : Array Obj) : w.heap.size ≤ (sortWorld enc w blk 0 m d os).heap.size:=by
 unfold sortWorld;simp
theorem sortWorld_below {α : Type} [Inhabited α] {w0 w : World} (h : Below w0.heap.size w0 w) (enc : α → Value) (blk m : Nat) (hblk : w0.heap.size ≤ blk) (d : Array α) (os : Array Obj) : Below w0.heap.size w0 (sortWorld enc w blk 0 m d os) :=
 ⟨h.os,h.tape,h.output,Nat.le_trans h.size (sortWorld_size _ _ _ _ _ _),fun i hi => (sortWorld_block enc w blk m d os (Nat.lt_of_lt_of_le hi h.size) (by omega)).trans (h.block i hi)⟩
theorem putCells_take {α : Type} [Inhabited α] (enc : α → Value) (d : Array α) (c : Array Value) (h : d.size ≤ c.size) : (Sort.putCells enc 0 d c).toList.take d.size = d.toList.map enc:=by
 apply List.ext_getElem?
 intro k
 rw [List.getElem?_take]
 by_cases hk : k < d.size
 ·rw [if_pos hk,Array.getElem?_toList]
  simp only [Sort.putCells,Array.getElem?_mapIdx,List.getElem?_map,Array.getElem?_toList]
  rw [Array.getElem?_eq_getElem (show k < c.size by omega),Array.getElem?_eq_getElem hk]
  simp only [Option.map_some]
  rw [if_pos ⟨Nat.zero_le _,by omega⟩,Nat.sub_zero,getElem!_pos d k hk]
 ·rw [if_neg hk,List.getElem?_eq_none (by simp;omega)]
theorem putCells_size {α : Type} [Inhabited α] (enc : α → Value) (d : Array α) (c : Array Value) : (Sort.putCells enc 0 d c).size = c.size:=by simp [Sort.putCells]
theorem sorted_eq {α : Type} (f : α → Nat) : ∀ {m n : List α},(m.Pairwise fun x y => f x < f y) → (n.Pairwise fun x y => f x < f y) → (∀ x,x ∈ m ↔ x ∈ n) → m = n:=by
 intro m
 induction m with
 | nil =>
  intro n _ _ h
  cases n with
  | nil => rfl
  | cons y n => exact absurd ((h y).2 List.mem_cons_self) List.not_mem_nil
 | cons x m ih =>
  intro n hm hn h
  cases n with
  | nil => exact absurd ((h x).1 List.mem_cons_self) List.not_mem_nil
  | cons y n =>
   obtain ⟨m1,m2⟩:=List.pairwise_cons.1 hm
   obtain ⟨n1,n2⟩:=List.pairwise_cons.1 hn
   have e : x = y:=by
    rcases List.mem_cons.1 ((h x).1 List.mem_cons_self) with c | c
    ·exact c
    ·rcases List.mem_cons.1 ((h y).2 List.mem_cons_self) with c2 | c2
     ·exact c2.symm
     ·have:=n1 x c;have:=m1 y c2;omega
   subst e
   congr 1
   refine ih m2 n2 fun z => ?_
   constructor
   ·intro hz
    rcases List.mem_cons.1 ((h z).1 (List.mem_cons_of_mem _ hz)) with c | c
    ·subst c;have:=m1 z hz;omega
    ·exact c
   ·intro hz
    rcases List.mem_cons.1 ((h z).2 (List.mem_cons_of_mem _ hz)) with c | c
    ·subst c;have:=n1 z hz;omega
    ·exact c
def encF {n : Nat} (x : Fin n) : Value:=.int .i64 (x.val : Int)
def cfF (l : List NodeI) (n : Nat) (x y : Fin n) : Int:=cfN l x.val y.val
theorem ltF {l : List NodeI} (t : Tr l) (x y : Fin l.length) : ltOf (cfF l l.length) x y = decide (rk l x.val < rk l y.val):=by
 unfold ltOf cfF cfN
 by_cases h1 : rk l y.val < rk l x.val
 ·rw [if_pos h1,decide_eq_false (show ¬ rk l x.val < rk l y.val by omega)];rfl
 ·rw [if_neg h1]
  by_cases h2 : rk l x.val < rk l y.val
  ·rw [if_pos h2,decide_eq_true h2];rfl
  ·rw [if_neg h2,decide_eq_false h2];rfl
theorem swoF {l : List NodeI} (t : Tr l) : Sort.SWO (ltOf (cfF l l.length)) where
 irrefl x:=by rw [ltF t];simp
 trans x y z h1 h2:=by rw [ltF t] at *;simp at *;omega
 ntrans x y z h1 h2:=by rw [ltF t] at *;simp at *;omega
theorem totF {l : List NodeI} (t : Tr l) (x y : Fin l.length) (h1 : ltOf (cfF l l.length) x y = false) (h2 : ltOf (cfF l l.length) y x = false) : x = y:=by
 rw [ltF t] at h1 h2
 simp at h1 h2
 exact Fin.ext (rk_inj t x.isLt y.isLt (by omega))
theorem sorted_pst {l : List NodeI} (t : Tr l) : ((List.finRange l.length).mergeSort fun x y => !(ltOf (cfF l l.length)) y x).map encF = (pst l).map (Value.int .i64):=by
 have e : (fun x y : Fin l.length => !(ltOf (cfF l l.length)) y x) = fun x y => decide (rk l x.val ≤ rk l y.val):=by
  funext x y
  rw [ltF t]
  by_cases h : rk l y.val < rk l x.val
  ·rw [decide_eq_true h,decide_eq_false (by omega)];rfl
  ·rw [decide_eq_false h,decide_eq_true (by omega)];rfl
 rw [e]
 have hp:=List.mergeSort_perm (List.finRange l.length) (fun x y : Fin l.length => decide (rk l x.val ≤ rk l y.val))
 have hs:=List.pairwise_mergeSort (le:=fun x y : Fin l.length => decide (rk l x.val ≤ rk l y.val)) (fun a b c h1 h2 => by simp at *;omega) (fun a b => by simp;omega) (List.finRange l.length)
 generalize (List.finRange l.length).mergeSort (fun x y : Fin l.length => decide (rk l x.val ≤ rk l y.val)) = L at hp hs
 have hnd : L.Nodup:=hp.nodup_iff.2 (List.nodup_finRange _)
 have h1 : L.Pairwise fun x y => rk l x.val < rk l y.val:=by
  refine (hs.and hnd).imp fun {x y} h => ?_
  have h1 : rk l x.val ≤ rk l y.val:=by simpa using h.1
  have h2 : rk l x.val ≠ rk l y.val:=fun z => h.2 (Fin.ext (rk_inj t x.isLt y.isLt z))
  omega
 have h2 : (L.map Fin.val) = (List.range l.length).map (nodeN l):=by
  refine sorted_eq (rk l) (List.pairwise_map.2 h1) (List.pairwise_map.2 ?_) (fun x => ?_)
  ·refine List.pairwise_lt_range.imp_of_mem fun {a b} ha hb h => ?_
   rw [rk_nodeN t (List.mem_range.1 ha),rk_nodeN t (List.mem_range.1 hb)];exact h
  ·rw [List.mem_map,List.mem_map]
   constructor
   ·rintro ⟨y,_,rfl⟩
    exact ⟨rk l y.val,List.mem_range.2 (rk_lt t y.isLt),nodeN_rk t y.isLt⟩
   ·rintro ⟨r,hr,rfl⟩
    exact ⟨⟨nodeN l r,nodeN_lt t (List.mem_range.1 hr)⟩,hp.mem_iff.2 (List.mem_finRange _),rfl⟩
 rw [pst_eq_map t,List.map_map]
 have h3:=congrArg (List.map fun x : Nat => Value.int .i64 (x : Int)) h2
 rw [List.map_map,List.map_map] at h3
 exact h3
theorem holds_range {n : Nat} [Inhabited (Fin n)] {W : World} {g cap : Nat} {cur : Array Value} (hb : W.heap[g]? = some (.cells cur 3 (0,0))) (hn : n ≤ cap) (hc : cur.toList.length = cap * 1) (ht : cur.toList.take (n * 1) = encs (Value.int .i64) ((List.range n).map fun j : Nat => (j : Int))) :
  Sort.Holds encF W g 0 (List.finRange n).toArray:=by
 intro j hj
 have hj' : j < n:=by simpa using hj
 refine ⟨(blk_cell hb _).trans ?_,blk_frozen hb _⟩
 have e:=congrArg (fun l => l[j]?) ht
 simp only [Nat.mul_one] at e
 rw [List.getElem?_take_of_lt hj'] at e
 rw [Nat.zero_add,← Array.getElem?_toList,e]
 simp only [encs,List.getElem?_map,List.getElem?_range hj',Option.map_some]
 rw [getElem!_pos _ j hj]
 simp [encF]
theorem own_sorted {l : List NodeI} (t : Tr l) [Inhabited (Fin l.length)] {W : World} {base g cap m : Nat} {os : Array Obj} {cur : Array Value} (hb : W.heap[g]? = some (.cells cur 3 (0,0))) (hg : base ≤ g) (hn : l.length ≤ cap) (hm : cap ≤ maxLen) (hc : cur.toList.length = cap * 1) :
  Kd.R (Kd.int .i64) 3 (sortWorld encF W g 0 m ((List.finRange l.length).mergeSort fun x y => !(ltOf (cfF l l.length)) y x).toArray os) base (fun _ => True) (.slice (some ⟨g,0,none⟩) l.length cap) (pst l):=by
 have hl : ((List.finRange l.length).mergeSort fun x y => !(ltOf (cfF l l.length)) y x).length = l.length:=by simp
 have ho : World.ownsRow (sortWorld encF W g 0 m ((List.finRange l.length).mergeSort fun x y => !(ltOf (cfF l l.length)) y x).toArray os) base 3 1 (.slice (some ⟨g,0,none⟩) l.length cap) (pst l).length (encs (Value.int .i64) (pst l)):=by
  rw [pst_len t]
  refine ⟨by simp [encs,pst_len t],.inr ⟨g,cap,_,rfl,hg,sortWorld_row encF W g m _ os hb,hn,hm,?_,?_⟩⟩
  ·exact Array.length_toList.trans ((putCells_size _ _ _).trans (Array.length_toList.symm.trans hc))
  ·have h:=putCells_take encF ((List.finRange l.length).mergeSort fun x y => !(ltOf (cfF l l.length)) y x).toArray cur (by rw [List.size_toArray,hl,← Array.length_toList,hc];omega)
   rw [List.size_toArray,hl] at h
   rw [Nat.mul_one,h]
   exact sorted_pst t
 have hr:=Kd.R_of_own (h1:=fun _ => rfl) ho (fun _ _ => (trivial : (fun _ : Nat => True) _))
 exact hr
theorem range_snoc (n : Nat) : ((List.range (n + 1)).map fun j : Nat => (j : Int)) = ((List.range n).map fun j : Nat => (j : Int)) ++ [(n : Int)]:=by rw [List.range_succ,List.map_append];rfl
theorem box1 {W w1 : World} {c0 : Value} {ty : TypeId} (hb : Below (W.alloc (Obj.cells #[c0] ty)).heap.size (W.alloc (Obj.cells #[c0] ty)) w1) : w1.heap[W.heap.size]? = some (.cells #[c0] ty (0,0)) :=
 (hb.block W.heap.size (by simp)).trans (heap_alloc_new W _)
set_option maxHeartbeats 4000000 in
set_option maxRecDepth 100000 in
theorem impl_PostOrder.calls (k : Nat) (A0 : Option Addr) (c0 : Nat) (l0 : List NodeI) (r : List Int) (w : World) (hr0 : Kd.C k53 w A0 l0.length l0) (hc0 : l0.length ≤ c0) (h : impl_PostOrder.f k l0 = some r) :
  Calls Try.prog 83 #[.slice A0 l0.length c0] w fun e w' => ∃ v0_ : Value,e = .returned (v0_) ∧ Kd.R (Kd.int .i64) 3 w' w.heap.size (fun _ => True) v0_ r ∧ Below w.heap.size w w':=by
 have hm:=hr0.2.1
 have HTr : Aside0 (∀ (b : Bool) W,impl_TreeOk.f k l0 = some b → Below w.heap.size w W → Calls Try.prog 82 #[.slice A0 l0.length c0] W fun e w' => e = .returned (.bool b) ∧ Below W.heap.size W w') :=
  ⟨fun b W ht hb => impl_TreeOk.calls k A0 c0 l0 b W (Kd.C_below hr0 hb) hc0 ht⟩
 have HR0:=Aside0.mk hr0
 have HC0:=Aside0.mk hc0
 clear hr0 hc0
 unfold impl_PostOrder.f at h
 obtain ⟨b,hb,h⟩:=Option.bind_eq_some_iff.mp h
 have HT:=Aside0.mk hb
 have HE0:=Aside0.mk (treeOk_told hb)
 clear hb
 cases b with
 | false =>
  rw [if_neg (by decide)] at h
  obtain rfl:=Option.some.inj h
  clear h
  go_enter Try.func83,Try.ntmps83
  go_wp2_with (first | ((with_reducible refine gate_dst (N:=5) rfl ?_);refine Kd.R_lit (Kd.int .i64) _ 3 ?hg (N:=5) ?hd (xs:=([] : List Int)) (inner:=[]) (ok:=fun _ => True) (okp:=fun _ => True) ?hr ?hp (fun _ hk => hk) trivial (Below.refl _ _) (Nat.le_refl _) (by simp) ?_;(case hd => rfl);(case hg => rfl);(case hr => first | (go_simp;done) | (go_simp;rfl));(case hp => exact (Reps.none _ _));intro v7 w5 ho4 hb hg_ hnew_;clear hg_ hnew_;have HBX:=Aside0.mk (box1 hb);have HB:=Aside0.mk (((Below.refl w.heap.size w).alloc (Nat.le_refl _) _).trans (hb.mono (by simp)));have HO:=Aside0.mk (Kd.R_lower ho4 ((Below.refl w.heap.size w).alloc (Nat.le_refl _) _).size);have hz:=(blk_cell HBX.out 0).trans (show _ = some (.slice A0 l0.length c0) from rfl);clear hb ho4) | (go_at_call 82;refine (HTr.out false _ HT.out HB.out).mono ?_;rintro e w6 ⟨rfl,hb⟩;have HO2:=Aside0.mk (Kd.R_below HO.out hb);have HB2:=Aside0.mk (HB.out.trans (hb.mono HB.out.size));clear hb))
  obtain ⟨Ao,co,eo⟩:=Kd.R_slice HO2.out
  subst eo
  go_wp2
  go_ret
  exact ⟨_,rfl,HO2.out,HB2.out⟩
 | true =>
  rw [if_pos rfl] at h
  obtain rfl:=Option.some.inj h
  clear h
  have t : Tr l0:=(trB_iff l0).1 HE0.out.symm
  have hlen1:=t.len1
  have hlen:=t.len24
  have TT:=Aside0.mk t
  clear t HE0
  go_enter Try.func83,Try.ntmps83
  go_wp2_with (first | ((with_reducible refine gate_dst (N:=5) rfl ?_);refine Kd.R_lit (Kd.int .i64) _ 3 ?hg (N:=5) ?hd (xs:=([] : List Int)) (inner:=[]) (ok:=fun _ => True) (okp:=fun _ => True) ?hr ?hp (fun _ hk => hk) trivial (Below.refl _ _) (Nat.le_refl _) (by simp) ?_;(case hd => rfl);(case hg => rfl);(case hr => first | (go_simp;done) | (go_simp;rfl));(case hp => exact (Reps.none _ _));intro v7 w5 ho4 hb hg_ hnew_;clear hg_ hnew_;have HBX:=Aside0.mk (box1 hb);have HB:=Aside0.mk (((Below.refl w.heap.size w).alloc (Nat.le_refl _) _).trans (hb.mono (by simp)));have HO:=Aside0.mk (Kd.R_lower ho4 (show w.heap.size + 1 ≤ _ by simp));have hz:=(blk_cell HBX.out 0).trans (show _ = some (.slice A0 l0.length c0) from rfl);clear hb ho4) | (go_at_call 82;refine (HTr.out true _ HT.out HB.out).mono ?_;rintro e w6 ⟨rfl,hb⟩;have HO2:=Aside0.mk (Kd.R_below HO.out hb);have HB2:=Aside0.mk (HB.out.trans (hb.mono HB.out.size));have HBX2:=Aside0.mk ((hb.block w.heap.size (blk_lt HBX.out)).trans HBX.out);have hz2:=(blk_cell HBX2.out 0).trans (show _ = some (.slice A0 l0.length c0) from rfl);clear hb))
  have hsz6 : w.heap.size + 1 ≤ w6.heap.size:=Nat.succ_le_of_lt (blk_lt HBX2.out)
  have HS6:=Aside0.mk hsz6
  clear hsz6
  go_loopw [3,12] (fun v x wr => ∃ n : Nat,n ≤ l0.length ∧ x = .int .i64 n ∧ Aside0 (Kd.R (Kd.int .i64) 3 wr (w.heap.size + 1) (fun _ => True) v ((List.range n).map fun j : Nat => (j : Int))) ∧ Aside0 (Below (w.heap.size + 1) w6 wr)) (fun _ x _ => l0.length - (intOf x).toNat)
  case atStart => exact ⟨0,Nat.zero_le _,rfl,HO2,⟨Below.refl _ _⟩⟩
  case round =>
   obtain ⟨n,hn,rfl,HOr,HBr⟩:=hrel
   have hBX:=(HBr.out.block w.heap.size (Nat.lt_succ_self _)).trans HBX2.out
   have HBX3:=Aside0.mk hBX
   have HB3:=Aside0.mk (HB2.out.trans (HBr.out.mono (Nat.le_succ _)))
   have hzr:=(blk_cell HBX3.out 0).trans (show _ = some (.slice A0 l0.length c0) from rfl)
   clear hBX
   by_cases hlt : n < l0.length
   ·have LM:=Aside0.mk (show ((List.range n).map fun j : Nat => (j : Int)).length ≤ 24 by simp;omega)
    go_wp2_with (first | ((with_reducible refine gate_builtin (b:=.append) (xs:=#[.tmp 15,.tmp 17]) rfl ?_);at_builtin;refine Kd.R_append (Kd.int .i64) (w0:=w6) (w.heap.size + 1) rfl (.tmp 15) (.tmp 17) 23 3 (.int .i64 0) 8 rfl Try.underlying23 info3 rfl (by decide) (by omega) _ ((List.range n).map fun j : Nat => (j : Int)) (n : Int) [.int .i64 (n : Int)] (fun _ => True) (fun _ => False) rfl rfl ?aP (fun _ hk => hk.elim) ?aF ?aO ?aB ?aS ?aL ?_;(case aP => exact rfl);(case aF => exact fun _ _ => trivial);(case aO => exact HOr.out);(case aB => exact HBr.out);(case aS => exact Nat.le_trans HS6.out HBr.out.size);(case aL => have:=LM.out;omega);intro v12 w12 ho hb hg hat;have HO5:=Aside0.mk ho;have HB5:=Aside0.mk hb;clear ho hb hg hat))
    go_roundw
    case rel => exact ⟨n + 1,by omega,by go_num,⟨by rw [range_snoc];exact HO5.out⟩,HB5⟩
    case measure => simp [intOf];omega
   ·obtain rfl : n = l0.length:=by omega
    haveI : Inhabited (Fin l0.length):=⟨⟨0,by omega⟩⟩
    have hown:=Kd.own_of_R HOr.out
    rcases hown.2 with ⟨_,h0⟩ | ⟨g,cap,cur,he,hb1,hh,hcn,hcm,hcl,hct⟩
    ·rw [List.length_map,List.length_range] at h0
     omega
    have hln : ((List.range l0.length).map fun j : Nat => (j : Int)).length = l0.length:=by simp
    rw [hln] at he hcn hct
    subst he
    have hgs : w.heap.size ≤ g:=by omega
    have hgl : g < wr.heap.size:=(Array.getElem?_eq_some_iff.1 hh).1
    have eg : ∀ args w,(callFunc 103 args).run Try.prog w = .ok (.enter 103 args) w:=enters_of Try.func103 (by kernel_rfl) rfl
    have hcmp : CmpReads Try.prog 103 #[.pointer (some ⟨w.heap.size,0,none⟩)] encF (cfF l0 l0.length) g 0 (List.finRange l0.length).toArray.size wr:=fun m os dk hs x y =>
     closure_calls TT.out x.isLt y.isLt _ ((blk_cell ((sortWorld_block encF wr g m dk os (by omega) (by omega)).trans HBX3.out) 0).trans rfl) (Kd.C_below HR0.out (sortWorld_below HB3.out encF g m hgs dk os)) HC0.out
    have hS:=Any.slices_SortFunc_total Try.sortL encF (fun _ => rfl) (cfF l0 l0.length) (swoF TT.out) 103 #[.pointer (some ⟨w.heap.size,0,none⟩)] g 0 cap (List.finRange l0.length).toArray wr eg hcmp.lays (holds_range hh hcn hcl hct) hgl (by simp;omega) (totF TT.out)
    have hsz : (List.finRange l0.length).toArray.size = l0.length:=by simp
    rw [hsz] at hS
    change Calls Try.prog 102 _ _ _ at hS
    have HS:=Aside0.mk hS
    have HH:=Aside0.mk (fun m os => own_sorted (m:=m) (os:=os) TT.out hh hb1 hcn hcm hcl)
    have HBs:=Aside0.mk (fun m os => sortWorld_below HB3.out encF g m hgs ((List.finRange l0.length).mergeSort fun x y => !(ltOf (cfF l0 l0.length)) y x).toArray os)
    clear hS eg hcmp hown hh hct hcl hsz hln
    go_wp2_with (first | (go_at_call 102;refine HS.out.mono ?_;rintro e w9 ⟨rfl,m,os,rfl⟩))
    go_ret
    exact ⟨_,rfl,Kd.R_lower (HH.out m os) (Nat.le_succ _),HBs.out m os⟩
end Go.Proofs.Ytelglbebffdaaaa.X
namespace Go.Proofs.Ytelglbebffdaaaa.X
open Go.RowKit Go.Proofs.YtelglbebffdaaaaW.PrintWords Go.Proofs.YtelglbebffdaaaaW.PrintLast Go.Proofs.YtelglbebffdaaaaW.PrintMore
attribute [local go_sem] max2_int min2_int max_two min_two max_three min_three max_four min_four   -- for this text's walks alone
set_option linter.unusedVariables false
set_option linter.unusedSimpArgs false
def impl_RankOf.l0 : Nat → List Int → List Int → Int → Int → Option (List Int)
 | 0,_,_,_,_ => none
 | k + 1,x4,x12,x13,x14 => if x14 < x13 then (if 0 ≤ x14 then (if x14 < (x12.length : Int) then (if 0 ≤ (rd x12 x14) then (if (rd x12 x14) < (x4.length : Int) then (impl_RankOf.l0 k (x4.set ((rd x12 x14) : Int).toNat x14) x12 x13 (wrap64 (x14 + 1))) else (none)) else (none)) else (none)) else (none)) else (some x4)
def impl_RankOf.f (k : Nat) (l0 : List (S53)) : Option (List Int):=(impl_PostOrder.f k l0).bind fun t278 => (if 0 ≤ (t278.length : Int) then (if ((t278.length : Int) : Int).toNat ≤ 35184372088832 then (impl_RankOf.l0 k (List.replicate ((t278.length : Int) : Int).toNat 0) t278 (t278.length : Int) 0) else (none)) else (none))
theorem impl_RankOf.mono_l : ∀ k,(∀ y0 y1 y2 y3,LeO (impl_RankOf.l0 k y0 y1 y2 y3) (impl_RankOf.l0 (k + 1) y0 y1 y2 y3))
 | 0 => fun _ _ _ _ r h => by simp [impl_RankOf.l0] at h
 | k + 1 => by
  have ih0:=impl_RankOf.mono_l k
  ·intro y0 y1 y2 y3
   unfold impl_RankOf.l0
   repeat' first
   | (with_reducible exact ih0 _ _ _ _)
   | (with_reducible exact impl_PostOrder.mono _ _)
   | (with_reducible exact LeO.refl _)
   | (with_reducible exact LeO.none _)
   | (with_reducible refine LeO.ite ?_ ?_)
   | (with_reducible refine LeO.bind ?_ (fun _ => ?_))
   | exact ih0 _ _ _ _
   | exact impl_PostOrder.mono _ _
   | exact LeO.none _
   | refine LeO.ite ?_ ?_
   | refine LeO.bind ?_ (fun _ => ?_)
theorem impl_RankOf.mono : ∀ a0 k,LeO (impl_RankOf.f k a0) (impl_RankOf.f (k + 1) a0):=by
 intro a0 k
 have ih0:=impl_RankOf.mono_l k
 unfold impl_RankOf.f
 repeat' first
   | (with_reducible exact ih0 _ _ _ _)
   | (with_reducible exact impl_PostOrder.mono _ _)
   | (with_reducible exact LeO.refl _)
   | (with_reducible exact LeO.none _)
   | (with_reducible refine LeO.ite ?_ ?_)
   | (with_reducible refine LeO.bind ?_ (fun _ => ?_))
   | exact ih0 _ _ _ _
   | exact impl_PostOrder.mono _ _
   | exact LeO.none _
   | refine LeO.ite ?_ ?_
   | refine LeO.bind ?_ (fun _ => ?_)
set_option maxHeartbeats 8000000 in
set_option maxRecDepth 100000 in
theorem impl_RankOf.calls (k : Nat) (A0 : Option Addr) (c0 : Nat) (l0 : List (S53)) (r : List Int) (w : World) (hr0 : Kd.C k53 w A0 l0.length l0) (hc0 : l0.length ≤ c0) (h : impl_RankOf.f k l0 = some r) :
  Calls Try.prog 105 #[.slice A0 l0.length c0] w fun e w' => ∃ v0_ : Value,e = .returned (v0_) ∧ Kd.R (Kd.int .i64) 3 w' w.heap.size (fun _ => True) v0_ r ∧ Below w.heap.size w w':=by
 have HR0:=Aside0.mk hr0
 have HC0:=Aside0.mk hc0
 clear hr0 hc0
 have HB:=Aside0.mk (Below.refl w.heap.size w)
 have H : ((impl_PostOrder.f k l0).bind fun t278 => (if 0 ≤ (t278.length : Int) then (if ((t278.length : Int) : Int).toNat ≤ 35184372088832 then (impl_RankOf.l0 k (List.replicate ((t278.length : Int) : Int).toNat 0) t278 (t278.length : Int) 0) else (none)) else (none))) = some r:=h
 clear h
 replace H:=Option.bind_eq_some_iff.mp H
 obtain ⟨t278,A20,H⟩:=H
 try dsimp only at H
 have A2:=Aside0.mk A20
 clear A20
 by_cases c3 : 0 ≤ (t278.length : Int)
 ·rw [if_pos c3] at H
  have c3b0:=eq_true c3
  have c3b1 : decide (0 ≤ (t278.length : Int)) = true:=decide_eq_true c3
  clear c3
  by_cases c4 : ((t278.length : Int) : Int).toNat ≤ 35184372088832
  ·rw [if_pos c4] at H
   have c4b0:=eq_true c4
   have c4b1 : decide (((t278.length : Int) : Int).toNat ≤ 35184372088832) = true:=decide_eq_true c4
   clear c4
   obtain ⟨y281,hy281⟩ : ∃ y_ : List Int,y_ = (List.replicate ((t278.length : Int) : Int).toNat 0):=⟨_,rfl⟩
   replace H : (impl_RankOf.l0 k y281 t278 (t278.length : Int) 0) = some r:=by first | (rw [hy281];with_reducible exact H) | (have H2_:=(Option.bind_some _ _).symm.trans H;rw [hy281];with_reducible exact H2_) | (have H2_:=(Option.bind_some _ _).symm.trans H;with_reducible exact H2_) | with_reducible exact H | (rw [hy281];exact H) | exact H
   have Ny281:=Aside0.mk hy281
   clear hy281
   have H':=Aside0.mk H
   clear H
   go_enter Try.func105,Try.ntmps105
   go_wp2_with (first | ((with_reducible refine gate_callee (f:=83) rfl ?_);refine gL_ (some 8) Try.func83 #[.slice A0 l0.length c0] ?_;(with_reducible refine (impl_PostOrder.calls k _ _ l0 t278 _ (cc_ HR0.out) HC0.out A2.out).mono ?_);rintro e w5 ⟨v279,rfl,ho0,hb⟩;refine ⟨_,rfl,?_⟩;have HO280:=Aside0.mk (Kd.R_lower ho0 (bs_ HB));replace HB:=tB_ HB hb;(try clear hb);(try clear ho0);obtain ⟨Ao6,co6,eo6⟩:=Kd.R_slice HO280.out;subst eo6) | ((with_reducible refine gate_dst (N:=11) rfl ?_);refine Kd.R_make (Kd.int .i64) _ 3 rfl (N:=11) rfl 23 _ _ rfl (t278.length : Int) rfl rfl Try.underlying23 (.int .i64 0) 8 info3 rfl (by decide) (by omega) 0 (ok:=fun _ => True) (okp:=fun _ => True) rfl (fun _ hk => hk) trivial (od_) (Nat.le_trans (Nat.mul_le_mul_right _ (od_ : (t278.length : Int).toNat ≤ 35184372088832)) (by omega)) (Below.refl _ _) (Nat.le_refl _) ?_;intro v282 w7 ho8 hb hg_ hnew_;clear hg_ hnew_;(first | rw [← Ny281.out] at ho8 | (simp only [Int.reduceToNat] at ho8;rw [← Ny281.out] at ho8));have HO283:=Aside0.mk (Kd.R_lower (Kd.R_new' ho8 (Kd.R_lt (rx_ HO280.out))) (bs_ HB));replace HO280:=Aside0.mk (Kd.R_elder' (rx_ HO280.out) (Kd.R_base ho8) hb);replace HB:=tB_ HB hb;clear hb ho8))
   go_loopg [14] k (fun kq v14 w' => ∃ (x4_1 : List Int) (x14_1 : Int),v14 = .int .i64 x14_1 ∧ Aside0 (impl_RankOf.l0 kq x4_1 t278 (t278.length : Int) x14_1 = some r) ∧ Aside0 (kq ≤ k) ∧ Aside0 (Kd.R (Kd.int .i64) 3 w' w.heap.size (fun k_ => some k_ ≠ ((.slice Ao6 t278.length co6) : Value).ownBlock) v282 x4_1) ∧ Aside0 (Kd.R (Kd.int .i64) 3 w' w.heap.size (fun k_ => some k_ ≠ (v282 : Value).ownBlock) (.slice Ao6 t278.length co6) t278) ∧ Aside0 (Below w.heap.size w w'))
   case atStart => exact ⟨(y281),(0),eb_,H',⟨Nat.le_refl _⟩,⟨rx_ (Kd.R_mono HO283.out (fun _ hk => hk.2))⟩,⟨rx_ (Kd.R_mono HO280.out (fun _ hk => hk.2))⟩,bl_ HB⟩
   case round =>
    clear H'
    try clear c1
    try clear p2
    try clear c3
    try clear c3b0
    try clear c3b1
    try clear c4
    try clear c4b0
    try clear c4b1
    try clear c8
    obtain ⟨x4_1,x14_1,rfl,HA,HK1,HO_4,HO_12,HB⟩:=hrel
    cases gk with
    | zero => exact absurd HA.out (by simp [impl_RankOf.l0])
    | succ k1 =>
     have H:=HA.out
     clear HA
     simp only [impl_RankOf.l0] at H
     by_cases c9 : x14_1 < (t278.length : Int)
     ·rw [if_pos c9] at H
      have c9b0 : decide (x14_1 < (t278.length : Int)) = true:=decide_eq_true c9
      clear c9
      by_cases c10 : 0 ≤ x14_1
      ·rw [if_pos c10] at H
       have c10b0 : decide (0 ≤ x14_1) = true:=decide_eq_true c10
       clear c10
       by_cases c11 : x14_1 < (t278.length : Int)
       ·rw [if_pos c11] at H
        have c11b0 : decide (x14_1 < (t278.length : Int)) = true:=decide_eq_true c11
        clear c11
        by_cases c12 : 0 ≤ (rd t278 x14_1)
        ·rw [if_pos c12] at H
         have c12b0 : decide (0 ≤ (rd t278 x14_1)) = true:=decide_eq_true c12
         clear c12
         by_cases c13 : (rd t278 x14_1) < (x4_1.length : Int)
         ·rw [if_pos c13] at H
          have c13b0 : decide ((rd t278 x14_1) < (x4_1.length : Int)) = true:=decide_eq_true c13
          clear c13
          obtain ⟨y285,hy285⟩ : ∃ y_ : List Int,y_ = (x4_1.set ((rd t278 x14_1) : Int).toNat x14_1):=⟨_,rfl⟩
          replace H : (impl_RankOf.l0 k1 y285 t278 (t278.length : Int) (wrap64 (x14_1 + 1))) = some r:=by first | (rw [hy285];with_reducible exact H) | (have H2_:=(Option.bind_some _ _).symm.trans H;rw [hy285];with_reducible exact H2_) | (have H2_:=(Option.bind_some _ _).symm.trans H;with_reducible exact H2_) | with_reducible exact H | (rw [hy285];exact H) | exact H
          have Ny285:=Aside0.mk hy285
          clear hy285
          have H':=Aside0.mk H
          clear H
          have p284 : 0 ≤ (x14_1 : Int):=od_
          have q284 : x14_1 < (t278.length : Int):=od_
          obtain ⟨ad284,e284,hx284_0⟩:=Kd.at_int (Kd.R_reads' HO_12.out).2.2 x14_1 p284 q284
          cases e284
          replace p284:=eq_true p284
          replace q284:=eq_true q284
          have p14 : 0 ≤ ((rd t278 x14_1) : Int):=od_
          have q14 : ((rd t278 x14_1) : Int) < ((x4_1.length : Int) : Int):=od_
          obtain ⟨go14,co14,eo14,gb14,gl14,cl14,HG14⟩:=Kd.R_form HO_4.out (by omega)
          (first | cases eo14 | (injection eo14 with ea_ en_ ec_;(first | subst ea_ | (injection ea_ with ea_;subst ea_));subst ec_;clear en_))
          have GB14:=Aside0.mk gb14
          have GG14:=Aside0.mk HG14
          clear gb14 gl14 HG14
          obtain ⟨hx14_0,hf14_0⟩:=Kd.R_celln 0 HO_4.out ((rd t278 x14_1) : Int) p14 q14
          replace p14:=eq_true p14
          replace q14:=eq_true q14
          have HP15:=Kd.R_putg HO_4.out ((rd t278 x14_1) : Int) x14_1
          go_wp2_with (first | ((with_reducible refine gate_store (t:=3) (p:=22) rfl ?_);refine store_event (t:=3) (p:=22) (v:=?vo_w16) (w1:=(wr.setCell ⟨go14,((rd t278 x14_1) : Int).toNat,none⟩ (.int .i64 x14_1))) ?hg ?ho ?hn ?hr ?_;(case ho => rfl);(case hg => rfl);(case hn => rfl);(case hr => first | (go_simp;done) | (go_simp;rfl));intro w16 hw;have hg : wr.grownBy w16 (some go14):=(by rw [hw];exact HP15.2);have hp_ : Kd.R (Kd.int .i64) 3 w16 w.heap.size (fun k_ => some k_ ≠ (.slice (some ad284) t278.length co6 : Value).ownBlock) (.slice (some ⟨go14,0,none⟩) x4_1.length co14) y285:=(by rw [hw,Ny285.out];exact HP15.1);clear HP15;replace HO_4:=Aside0.mk (hp_);replace HO_12:=Aside0.mk (Kd.R_after (v:=(.slice (some ⟨go14,0,none⟩) x4_1.length co14)) (v1:=(.slice (some ⟨go14,0,none⟩) x4_1.length co14)) (ok:=(fun _ => True)) (rx_ (Kd.R_mono HO_12.out (fun _ hk => ⟨trivial,hk⟩))) hg (.inl rfl));replace HB:=Aside0.mk ((by rw [hw];exact below_set (HB.out) GB14.out : Below w.heap.size w w16));clear hg hw hp_))
          go_roundg k1
          case measure => have:=HK1.out;omega
          case rel => exact ⟨(y285),(wrap64 (x14_1 + 1)),eb_,H',⟨by have:=HK1.out;omega⟩,⟨rx_ HO_4.out⟩,⟨rx_ (Kd.R_mono HO_12.out (fun _ hk => hk.2))⟩,bl_ HB⟩
         ·rw [if_neg c13] at H
          exact absurd H (by simp)
        ·rw [if_neg c12] at H
         exact absurd H (by simp)
       ·rw [if_neg c11] at H
        exact absurd H (by simp)
      ·rw [if_neg c10] at H
       exact absurd H (by simp)
     ·rw [if_neg c9] at H
      have c9b0 : decide (x14_1 < (t278.length : Int)) = false:=decide_eq_false c9
      clear c9
      obtain rfl:=Option.some.inj H
      go_wp2
      go_ret
      exact ⟨_,ea_,rx_ (Kd.R_mono HO_4.out (fun _ hk => trivial)),(bl_ HB).out⟩
  ·rw [if_neg c4] at H
   exact absurd H (by simp)
 ·rw [if_neg c3] at H
  exact absurd H (by simp)
end Go.Proofs.Ytelglbebffdaaaa.X
namespace Go.Proofs.Ytelglbebffdaaaa.X
open Go.RowKit Go.Proofs.YtelglbebffdaaaaW.PrintWords Go.Proofs.YtelglbebffdaaaaW.PrintLast Go.Proofs.YtelglbebffdaaaaW.PrintMore
attribute [local go_sem] max2_int min2_int max_two min_two max_three min_three max_four min_four   -- for this text's walks alone
set_option linter.unusedVariables false
set_option linter.unusedSimpArgs false
def impl_LeftLeaf.l0 : Nat → List (S53) → List Int → List Int → List Int → Int → Int → Option (List Int)
 | 0,_,_,_,_,_,_ => none
 | k + 1,x0,x3,x4,x11,x12,x13 => if x13 < x12 then (if 0 ≤ x13 then (if x13 < (x11.length : Int) then (if 0 ≤ (rd x11 x13) then (if (rd x11 x13) < (x4.length : Int) then ((impl_endOf.f k x0 (rd x11 x13)).bind fun t297 => (if x3.length < 17592186044416 then (impl_LeftLeaf.l0 k x0 (x3 ++ [wrap64 ((rd x4 (rd x11 x13)) - (wrap64 ((wrap64 (t297 - (rd x11 x13))) - 1)))]) x4 x11 x12 (wrap64 (x13 + 1))) else (none))) else (none)) else (none)) else (none)) else (none)) else (some x3)
def impl_LeftLeaf.f (k : Nat) (l0 : List (S53)) : Option (List Int):=(impl_RankOf.f k l0).bind fun t289 => ((impl_PostOrder.f k l0).bind fun t292 => (impl_LeftLeaf.l0 k l0 (([] : List Int)) t289 t292 (t292.length : Int) 0))
theorem impl_LeftLeaf.mono_l : ∀ k,(∀ y0 y1 y2 y3 y4 y5,LeO (impl_LeftLeaf.l0 k y0 y1 y2 y3 y4 y5) (impl_LeftLeaf.l0 (k + 1) y0 y1 y2 y3 y4 y5))
 | 0 => fun _ _ _ _ _ _ r h => by simp [impl_LeftLeaf.l0] at h
 | k + 1 => by
  have ih0:=impl_LeftLeaf.mono_l k
  ·intro y0 y1 y2 y3 y4 y5
   unfold impl_LeftLeaf.l0
   repeat' first
   | (with_reducible exact ih0 _ _ _ _ _ _)
   | (with_reducible exact impl_PostOrder.mono _ _)
   | (with_reducible exact impl_RankOf.mono _ _)
   | (with_reducible exact impl_endOf.mono _ _ _)
   | (with_reducible exact LeO.refl _)
   | (with_reducible exact LeO.none _)
   | (with_reducible refine LeO.ite ?_ ?_)
   | (with_reducible refine LeO.bind ?_ (fun _ => ?_))
   | exact ih0 _ _ _ _ _ _
   | exact impl_PostOrder.mono _ _
   | exact impl_RankOf.mono _ _
   | exact impl_endOf.mono _ _ _
   | exact LeO.none _
   | refine LeO.ite ?_ ?_
   | refine LeO.bind ?_ (fun _ => ?_)
theorem impl_LeftLeaf.mono : ∀ a0 k,LeO (impl_LeftLeaf.f k a0) (impl_LeftLeaf.f (k + 1) a0):=by
 intro a0 k
 have ih0:=impl_LeftLeaf.mono_l k
 unfold impl_LeftLeaf.f
 repeat' first
   | (with_reducible exact ih0 _ _ _ _ _ _)
   | (with_reducible exact impl_PostOrder.mono _ _)
   | (with_reducible exact impl_RankOf.mono _ _)
   | (with_reducible exact impl_endOf.mono _ _ _)
   | (with_reducible exact LeO.refl _)
   | (with_reducible exact LeO.none _)
   | (with_reducible refine LeO.ite ?_ ?_)
   | (with_reducible refine LeO.bind ?_ (fun _ => ?_))
   | exact ih0 _ _ _ _ _ _
   | exact impl_PostOrder.mono _ _
   | exact impl_RankOf.mono _ _
   | exact impl_endOf.mono _ _ _
   | exact LeO.none _
   | refine LeO.ite ?_ ?_
   | refine LeO.bind ?_ (fun _ => ?_)
def impl_LeftLeaf.T5 : Bool × List (List Nat × List Nat):=(true,[([],[]),([],[]),([],[]),([1,2],[1,2]),([3],[3]),([],[]),([],[]),([5,6],[5,6]),([],[]),([7,8],[7,8]),([9],[9]),([4,10],[4,10]),([11],[11]),([0,12,7],[0,12]),([13,13,0,1,2,3,4,5,6,7,8,9,10,11,12,13],[0,13])])
def impl_LeftLeaf.B5 : List Nat:=[0,0,0,6,14,0,0,96,0,480,992,2046,4094,8191,16383]
theorem impl_LeftLeaf.tab5 : rtab .any (opsOf Try.f84 5) = impl_LeftLeaf.T5:=by kernel_rfl
theorem impl_LeftLeaf.bits5 : waitsOk impl_LeftLeaf.T5.2 impl_LeftLeaf.B5 = true:=by kernel_rfl
set_option maxHeartbeats 8000000 in
set_option maxRecDepth 100000 in
theorem impl_LeftLeaf.calls (k : Nat) (A0 : Option Addr) (c0 : Nat) (l0 : List (S53)) (r : List Int) (w : World) (hr0 : Kd.C k53 w A0 l0.length l0) (hc0 : l0.length ≤ c0) (h : impl_LeftLeaf.f k l0 = some r) :
  Calls Try.prog 84 #[.slice A0 l0.length c0] w fun e w' => ∃ v0_ : Value,e = .returned (v0_) ∧ Kd.R (Kd.int .i64) 3 w' w.heap.size (fun _ => True) v0_ r ∧ Below w.heap.size w w':=by
 have HR0:=Aside0.mk hr0
 have HC0:=Aside0.mk hc0
 clear hr0 hc0
 have HB:=Aside0.mk (Below.refl w.heap.size w)
 have H : ((impl_RankOf.f k l0).bind fun t289 => ((impl_PostOrder.f k l0).bind fun t292 => (impl_LeftLeaf.l0 k l0 (([] : List Int)) t289 t292 (t292.length : Int) 0))) = some r:=h
 clear h
 obtain ⟨y286,hy286⟩ : ∃ y_ : List Int,y_ = (([] : List Int)):=⟨_,rfl⟩
 replace H : ((impl_RankOf.f k l0).bind fun t289 => ((impl_PostOrder.f k l0).bind fun t292 => (impl_LeftLeaf.l0 k l0 y286 t289 t292 (t292.length : Int) 0))) = some r:=by first | (rw [hy286];with_reducible exact H) | (have H2_:=(Option.bind_some _ _).symm.trans H;rw [hy286];with_reducible exact H2_) | (have H2_:=(Option.bind_some _ _).symm.trans H;with_reducible exact H2_) | with_reducible exact H | (rw [hy286];exact H) | exact H
 have Ny286:=Aside0.mk hy286
 clear hy286
 replace H:=Option.bind_eq_some_iff.mp H
 obtain ⟨t289,A20,H⟩:=H
 try dsimp only at H
 have A2:=Aside0.mk A20
 clear A20
 replace H:=Option.bind_eq_some_iff.mp H
 obtain ⟨t292,A30,H⟩:=H
 replace H : (impl_LeftLeaf.l0 k l0 y286 t289 t292 (t292.length : Int) 0) = some r:=H
 have A3:=Aside0.mk A30
 clear A30
 have H':=Aside0.mk H
 clear H
 go_enter Try.func84,Try.ntmps84
 go_wp2_with (first | ((with_reducible refine gate_dst (N:=7) rfl ?_);refine Kd.R_lit (Kd.int .i64) _ 3 ?hg (N:=7) ?hd (xs:=([] : List Int)) (inner:=[]) (ok:=fun _ => True) (okp:=fun _ => True) ?hr ?hp (fun _ hk => hk) trivial (Below.refl _ _) (Nat.le_refl _) (by simp) ?_;(case hd => rfl);(case hg => rfl);(case hr => first | (go_simp;done) | (go_simp;rfl));(case hp => exact (Reps.none _ _));intro v287 w4 ho5 hb hg_ hnew_;clear hg_ hnew_;(first | rw [← Ny286.out] at ho5 | (simp only [Int.reduceToNat] at ho5;rw [← Ny286.out] at ho5));have HO288:=Aside0.mk (Kd.R_lower ho5 (bs_ HB));replace HB:=tB_ HB hb;clear hb ho5) | ((with_reducible refine gate_callee (f:=105) rfl ?_);refine gL_ (some 9) Try.func105 #[.slice A0 l0.length c0] ?_;(with_reducible refine (impl_RankOf.calls k _ _ l0 t289 _ (cx_ HR0 HB) HC0.out A2.out).mono ?_);rintro e w6 ⟨v290,rfl,ho0,hb⟩;refine ⟨_,rfl,?_⟩;have HO291:=Aside0.mk (Kd.R_lower (Kd.R_new' ho0 (Kd.R_lt (rx_ HO288.out))) (bs_ HB));replace HO288:=Aside0.mk (Kd.R_elder' (rx_ HO288.out) (Kd.R_base ho0) hb);replace HB:=tB_ HB hb;(try clear hb);(try clear ho0)) | ((with_reducible refine gate_callee (f:=83) rfl ?_);refine gL_ (some 11) Try.func83 #[.slice A0 l0.length c0] ?_;(with_reducible refine (impl_PostOrder.calls k _ _ l0 t292 _ (cx_ HR0 HB) HC0.out A3.out).mono ?_);rintro e w7 ⟨v293,rfl,ho0,hb⟩;refine ⟨_,rfl,?_⟩;have HO294:=Aside0.mk (Kd.R_lower (Kd.R_new' (Kd.R_new' ho0 (Kd.R_lt (rx_ HO288.out))) (Kd.R_lt (rx_ HO291.out))) (bs_ HB));replace HO288:=Aside0.mk (Kd.R_elder' (rx_ HO288.out) (Kd.R_base ho0) hb);replace HO291:=Aside0.mk (Kd.R_elder' (rx_ HO291.out) (Kd.R_base ho0) hb);replace HB:=tB_ HB hb;(try clear hb);(try clear ho0);obtain ⟨Ao8,co8,eo8⟩:=Kd.R_slice HO294.out;subst eo8))
 go_loopg [3,13] k (fun kq v3 v13 w' => ∃ (x3_1 : List Int) (x13_1 : Int),v13 = .int .i64 x13_1 ∧ Aside0 (impl_LeftLeaf.l0 kq l0 x3_1 t289 t292 (t292.length : Int) x13_1 = some r) ∧ Aside0 (kq ≤ k) ∧ Aside0 (Kd.R (Kd.int .i64) 3 w' w.heap.size (fun k_ => some k_ ≠ (v290 : Value).ownBlock ∧ some k_ ≠ ((.slice Ao8 t292.length co8) : Value).ownBlock) v3 x3_1) ∧ Aside0 (Kd.R (Kd.int .i64) 3 w' w.heap.size (fun k_ => some k_ ≠ (v3 : Value).ownBlock ∧ some k_ ≠ ((.slice Ao8 t292.length co8) : Value).ownBlock) v290 t289) ∧ Aside0 (Kd.R (Kd.int .i64) 3 w' w.heap.size (fun k_ => some k_ ≠ (v3 : Value).ownBlock ∧ some k_ ≠ (v290 : Value).ownBlock) (.slice Ao8 t292.length co8) t292) ∧ Aside0 (Below w.heap.size w w'))
 case atStart => exact ⟨(y286),(0),eb_,H',⟨Nat.le_refl _⟩,⟨rx_ (Kd.R_mono HO288.out (fun _ hk => ⟨hk.1.2,hk.2⟩))⟩,⟨rx_ (Kd.R_mono HO291.out (fun _ hk => ⟨hk.1.2,hk.2⟩))⟩,⟨rx_ (Kd.R_mono HO294.out (fun _ hk => ⟨hk.1.2,hk.2⟩))⟩,bl_ HB⟩
 case round =>
  clear H'
  try clear c1
  try clear p2
  try clear c8
  obtain ⟨x3_1,x13_1,rfl,HA,HK1,HO_3,HO_4,HO_11,HB⟩:=hrel
  cases gk with
  | zero => exact absurd HA.out (by simp [impl_LeftLeaf.l0])
  | succ k1 =>
   have H:=HA.out
   clear HA
   simp only [impl_LeftLeaf.l0] at H
   by_cases c9 : x13_1 < (t292.length : Int)
   ·rw [if_pos c9] at H
    have c9b0 : decide (x13_1 < (t292.length : Int)) = true:=decide_eq_true c9
    clear c9
    by_cases c10 : 0 ≤ x13_1
    ·rw [if_pos c10] at H
     have c10b0 : decide (0 ≤ x13_1) = true:=decide_eq_true c10
     clear c10
     by_cases c11 : x13_1 < (t292.length : Int)
     ·rw [if_pos c11] at H
      have c11b0 : decide (x13_1 < (t292.length : Int)) = true:=decide_eq_true c11
      clear c11
      by_cases c12 : 0 ≤ (rd t292 x13_1)
      ·rw [if_pos c12] at H
       have c12b0 : decide (0 ≤ (rd t292 x13_1)) = true:=decide_eq_true c12
       clear c12
       by_cases c13 : (rd t292 x13_1) < (t289.length : Int)
       ·rw [if_pos c13] at H
        have c13b0 : decide ((rd t292 x13_1) < (t289.length : Int)) = true:=decide_eq_true c13
        clear c13
        replace H:=Option.bind_eq_some_iff.mp H
        obtain ⟨t297,A140,H⟩:=H
        try dsimp only at H
        have A14:=Aside0.mk A140
        clear A140
        by_cases c15 : x3_1.length < 17592186044416
        ·rw [if_pos c15] at H
         have LMc15:=Aside0.mk c15
         clear c15
         obtain ⟨y298,hy298⟩ : ∃ y_ : List Int,y_ = (x3_1 ++ [wrap64 ((rd t289 (rd t292 x13_1)) - (wrap64 ((wrap64 (t297 - (rd t292 x13_1))) - 1)))]):=⟨_,rfl⟩
         replace H : (impl_LeftLeaf.l0 k1 l0 y298 t289 t292 (t292.length : Int) (wrap64 (x13_1 + 1))) = some r:=by first | (rw [hy298];with_reducible exact H) | (have H2_:=(Option.bind_some _ _).symm.trans H;rw [hy298];with_reducible exact H2_) | (have H2_:=(Option.bind_some _ _).symm.trans H;with_reducible exact H2_) | with_reducible exact H | (rw [hy298];exact H) | exact H
         have Ny298:=Aside0.mk hy298
         clear hy298
         have H':=Aside0.mk H
         clear H
         have p295 : 0 ≤ (x13_1 : Int):=od_
         have q295 : x13_1 < (t292.length : Int):=od_
         obtain ⟨ad295,e295,hx295_0⟩:=Kd.at_int (Kd.R_reads' HO_11.out).2.2 x13_1 p295 q295
         cases e295
         replace p295:=eq_true p295
         replace q295:=eq_true q295
         try go_wp2
         have n0_:=Aside0.mk (Kd.R_drew HO_3.out)
         have n1_:=Aside0.mk (Kd.R_drew HO_4.out)
         have n2_:=Aside0.mk (Kd.R_drew HO_11.out)
         have n3_:=Aside0.mk (below_drew1 HB.out)
         clear HO_3
         clear HO_4
         clear HO_11
         clear HB
         have HO_3:=n0_
         have HO_4:=n1_
         have HO_11:=n2_
         have HB:=n3_
         clear n0_ n1_ n2_ n3_
         obtain ⟨Ao17,co17,eo17⟩:=Kd.R_slice HO_4.out
         (first | subst eo17 | (injection eo17 with f1_ f2_ f3_;have f4_:=f1_.symm;have f5_:=f3_.symm;clear f1_ f2_ f3_;subst f4_;subst f5_))
         have p296 : 0 ≤ ((rd t292 x13_1) : Int):=od_
         have q296 : (rd t292 x13_1) < (t289.length : Int):=od_
         obtain ⟨ad296,e296,hx296_0⟩:=Kd.at_int (Kd.R_reads' HO_4.out).2.2 (rd t292 x13_1) p296 q296
         cases e296
         replace p296:=eq_true p296
         replace q296:=eq_true q296
         refine start_ (n:=15) (S:=fun w' => w'.cell? (ad296.add ((rd t292 x13_1)).toNat) = some (.int .i64 (rd t289 (rd t292 x13_1)))) (ds:=[12,13]) (ba_ 15 0) (by kernel_rfl) rfl rfl (hx296_0) (fun hHeld => ?_);refine with_tabW impl_LeftLeaf.tab5 impl_LeftLeaf.bits5 (fun HT_ HW_ => ?_)
         generalize wr.drew = w16 at HO_3 HO_4 HO_11 HB hx296_0 hHeld ⊢
         refine pu_ 0 (some 17) (ba_ 15 1) rfl rfl (any_of HT_.out (by kernel_rfl)) ?_
         refine pu_ 1 (some 18) (ba_ 15 3) rfl rfl (any_of HT_.out (by kernel_rfl)) ?_
         refine pu_ 2 (some 19) (ba_ 15 7) rfl rfl (any_of HT_.out (by kernel_rfl)) ?_
         refine pu_ 3 (some 20) (ba_ 15 15) rfl rfl (any_of HT_.out (by kernel_rfl)) ?_
         refine pu_ 5 (some 22) (ba_ 15 47) rfl rfl (any_of HT_.out (by kernel_rfl)) ?_
         refine pu_ 6 (some 23) (ba_ 15 111) rfl rfl (any_of HT_.out (by kernel_rfl)) ?_
         refine pu_ 8 (some 25) (ba_ 15 367) rfl rfl (any_of HT_.out (by kernel_rfl)) ?_
         refine take_ (i:=4) (N:=some 21) (v:=?_) (a':=?_) (ba_ 15 383) rfl rfl (take_ofW HT_.out HW_.out (by kernel_rfl)) (fun _ _ _ h => h) (Or.inl ⟨by rfl,?_⟩) hHeld ?_ ?_
         rotate_left
         ·intro w' s0
          go_simp
          with_reducible rfl
         rotate_left
         ·simp only [Act.put,List.setIfInBounds_toArray,List.set_cons_zero,List.set_cons_succ,i64_w,i32_w]
          rfl
         refine one_ (i:=7) (N:=some 24) (ba_ 15 511) rfl rfl (one_of HT_.out (by kernel_rfl)) (by decide) (fun K hK => ?_)
         refine goes_ Try.func104 (by kernel_rfl) rfl #[.slice A0 l0.length c0,.int .i64 (rd t292 x13_1)] (by rfl) rfl rfl (by (try simp only [List.map_toArray,List.map_cons,List.map_nil]);first | done | rfl | (simp only [List.length_drop,List.length_take];rfl)) ?_
         with_reducible refine (impl_endOf.calls k1 _ _ l0 (rd t292 x13_1) t297 _ ?side1 ?side2 A14.out).mono ?_
         (case side1 => exact cx_ HR0 HB)
         (case side2 => exact HC0.out)
         rintro e w' ⟨rfl,⟨nd,rfl⟩⟩
         refine ⟨_,rfl,?_⟩
         refine hK.out _ _ (hHeld) (fun hHeld => ?_)
         clear hK K
         refine norm_ (a':=?_) ?_ ?_
         rotate_left
         ·show Act.put _ (some 24) _ = _
          simp only [Act.put,List.setIfInBounds_toArray,List.set_cons_zero,List.set_cons_succ,i64_w,i32_w]
          rfl
         refine pu_ 9 (some 26) (ba_ 15 1023) rfl rfl (any_of HT_.out (by kernel_rfl)) ?_
         refine pu_ 10 (some 27) (ba_ 15 2047) rfl rfl (any_of HT_.out (by kernel_rfl)) ?_
         refine pu_ 11 (some 28) (ba_ 15 4095) rfl rfl (any_of HT_.out (by kernel_rfl)) ?_
         refine last_ (i:=12) (N:=some 29) (ba_ 15 8191) rfl rfl (one_of HT_.out (by kernel_rfl)) (by decide) (fun K hK => ?_)
         refine value_ (w1:=?_) (v:=?_) (by rfl) rfl ?_ ?_
         rotate_left 2
         ·go_simp
          constructor
          ·rfl
          ·rfl
         refine hK.out _ _ ?_
         clear hK K
         refine norm_ (a':=?_) ?_ ?_
         rotate_left
         ·show Act.put _ (some 29) _ = _
          simp only [Act.put,List.setIfInBounds_toArray,List.set_cons_zero,List.set_cons_succ,i64_w,i32_w]
          rfl
         refine last_ (i:=13) (N:=some 30) (ba_ 15 16383) rfl rfl (one_of HT_.out (by kernel_rfl)) (by decide) (fun K hK => ?_)
         refine Kd.R_append_step (Kd.int .i64) (w0:=w) w.heap.size (by rfl) (.tmp 17) (.tmp 29) 23 3 (.int .i64 0) 8 rfl Try.underlying23 info3 rfl (by decide) (by omega) u3 x3_1 (wrap64 ((rd t289 (rd t292 x13_1)) - (wrap64 ((wrap64 (t297 - (rd t292 x13_1))) - 1)))) [.int .i64 (wrap64 ((rd t289 (rd t292 x13_1)) - (wrap64 ((wrap64 (t297 - (rd t292 x13_1))) - 1))))] (fun k_ => some k_ ≠ (.slice (some ad296) t289.length co17 : Value).ownBlock ∧ some k_ ≠ (.slice (some ad295) t292.length co8 : Value).ownBlock) (fun _ => False) rfl rfl ?aP (fun _ hk => hk.elim) ?aF ?aO ?aB ?aS ?aL ?_
         (case aP => exact rfl)
         (case aB => exact ((bl_ HB).out))
         (case aF => exact (fun k_ hk => ⟨Kd.fresh' (Kd.R_lt (rx_ HO_4.out)) k_ hk,Kd.fresh' (Kd.R_lt (rx_ HO_11.out)) k_ hk⟩))
         (case aO => exact (rx_ HO_3.out))
         (case aS => exact (bs_ HB))
         (case aL => have:=LMc15.out;omega)
         intro v299 w18 ho hb hg hat
         rw [← Ny298.out] at ho
         have n0_:=Aside0.mk (Kd.R_after (ok:=(fun k_ => some k_ ≠ (.slice (some ad295) t292.length co8 : Value).ownBlock)) (rx_ (Kd.R_mono HO_4.out (fun _ hk => ⟨hk.2,hk.1⟩))) hg hat)
         have n1_:=Aside0.mk (Kd.R_after (ok:=(fun k_ => some k_ ≠ (.slice (some ad296) t289.length co17 : Value).ownBlock)) (rx_ (Kd.R_mono HO_11.out (fun _ hk => ⟨hk.2,hk.1⟩))) hg hat)
         have n2_:=Aside0.mk (hb)
         have n3_:=Aside0.mk (ho)
         clear HO_4
         clear HO_11
         clear HB
         clear HO_3
         have HO_4:=n0_
         have HO_11:=n1_
         have HB:=n2_
         have HO300:=n3_
         clear n0_ n1_ n2_ n3_
         clear ho hb hg hat
         refine hK.out _ _ ?_
         clear hK K
         refine norm_ (a':=?_) ?_ ?_
         rotate_left
         ·show Act.put _ (some 30) _ = _
          simp only [Act.put,List.setIfInBounds_toArray,List.set_cons_zero,List.set_cons_succ,i64_w,i32_w]
          rfl
         refine pu_ 14 (some 3) (ba_ 15 32767) rfl rfl (any_of HT_.out (by kernel_rfl)) ?_
         refine done_ (done_of HT_.out (by kernel_rfl)) ?_
         try go_wp2
         go_roundg k1
         case measure => have:=HK1.out;omega
         case rel => exact ⟨(y298),(wrap64 (x13_1 + 1)),eb_,H',⟨by have:=HK1.out;omega⟩,⟨rx_ HO300.out⟩,⟨rx_ (Kd.R_mono HO_4.out (fun _ hk => ⟨hk.2,hk.1⟩))⟩,⟨rx_ (Kd.R_mono HO_11.out (fun _ hk => ⟨hk.2,hk.1⟩))⟩,bl_ HB⟩
        ·rw [if_neg c15] at H
         exact absurd H (by simp)
       ·rw [if_neg c13] at H
        exact absurd H (by simp)
      ·rw [if_neg c12] at H
       exact absurd H (by simp)
     ·rw [if_neg c11] at H
      exact absurd H (by simp)
    ·rw [if_neg c10] at H
     exact absurd H (by simp)
   ·rw [if_neg c9] at H
    have c9b0 : decide (x13_1 < (t292.length : Int)) = false:=decide_eq_false c9
    clear c9
    obtain rfl:=Option.some.inj H
    go_wp2
    go_ret
    exact ⟨_,ea_,rx_ (Kd.R_mono HO_3.out (fun _ hk => trivial)),(bl_ HB).out⟩
end Go.Proofs.Ytelglbebffdaaaa.X
