/- Part 13 of the proof of FnBothWays: what it needs. -/
import Derived.Maps.OwnSet
import Derived.DeepKeys5
import Derived.Test.YtngphdmbjenkaaaKLBothWays2
import Derived.Test.YtngphdmbjenkaaaKLBothWays3
import Derived.Test.YtngphdmbjenkaaaKLBothWays4
import Derived.Test.YtngphdmbjenkaaaKLBothWays5
namespace Go.Proofs.Ytngphdmbjenkaaa.X
open Go.RowKit Go.Proofs.YtngphdmbjenkaaaW.PrintWords Go.Proofs.YtngphdmbjenkaaaW.PrintLast Go.Proofs.YtngphdmbjenkaaaW.PrintMore
set_option linter.unusedVariables false
set_option linter.unusedSimpArgs false
abbrev K4 := Nat × Nat × Nat × Nat
def kcells (x : K4) : Array Value := #[.int .i64 (x.1 : Int),.int .i64 (x.2.1 : Int),.int .i64 (x.2.2.1 : Int),.int .i64 (x.2.2.2 : Int)]
def kval (x : K4) : Value := .agg (kcells x)
def klits (x : K4) : List Lit := [.int .i64 (x.1 : Int),.int .i64 (x.2.1 : Int),.int .i64 (x.2.2.1 : Int),.int .i64 (x.2.2.2 : Int)]
def klit (x : K4) : Lit := .string (keyBytes (klits x))
def InBox (x : K4) : Prop := x.1 < 25 ∧ x.2.1 < 25 ∧ x.2.2.1 < 25 ∧ x.2.2.2 < 25
theorem row75 : (100 : TypeId) < Try.prog.types.size := of_decide_eq_true (by kernel_rfl)
theorem wide75 : (match Try.prog.underlying 100 with | some (.array _ _) | some (.struct _) => true | _ => false) = true := by rw [Try.underlying100]
theorem laid_ : laidOutB Try.prog = true := by kernel_rfl
set_option maxRecDepth 100000 in
theorem law75 : WideMaps.KeyLaw Try.prog 100 := deep_law_laid laid_ (m := 2) (by omega) row75 (by kernel_rfl) wide75
theorem keyed75 : Maps.Keyed Try.prog 100 := Maps.Keyed.of_law law75
theorem small_wf {n : Nat} (h : n < 25) : (Lit.int .i64 (n : Int)).wf = true := by
 have e1 : IntKind.i64.min = -9223372036854775808 := by decide
 have e2 : IntKind.i64.max = 9223372036854775807 := by decide
 simp only [Lit.wf,e1,e2,Bool.and_eq_true,decide_eq_true_eq]
 omega
theorem add_block (a : Addr) (n : Nat) : (a.add n).block = a.block := by unfold Addr.add;split <;> rfl
theorem keyOf_gen {P : Program} {k e : TypeId} {n0 n1 n2 n3 : String} {c0 c1 c2 c3 : Bool} {t0 t1 t2 t3 p0 p1 p2 p3 : String} {b0 b1 b2 b3 : Nat}
  (hu : P.underlying k = some (.struct #[⟨n0,e,0,c0,t0,p0,b0⟩,⟨n1,e,1,c1,t1,p1,b1⟩,⟨n2,e,2,c2,t2,p2,b2⟩,⟨n3,e,3,c3,t3,p3,b3⟩]))
  (hn : n0 ≠ "_" ∧ n1 ≠ "_" ∧ n2 ≠ "_" ∧ n3 ≠ "_") (hk : P.keyType k = true) (hc : P.cellsOf k = 4) (he : P.underlying e = some (.int .i64)) (hce : P.cellsOf e = 1) (hrow : k < P.types.size) {x : K4} (h : InBox x) :
  keyOf P k (kval x) = some (klit x) := by
 obtain ⟨h1,h2,h3,h4⟩ := h
 have w1 := small_wf h1
 have w2 := small_wf h2
 have w3 := small_wf h3
 have w4 := small_wf h4
 obtain ⟨d,hd⟩ : ∃ d,P.types.size = d + 1 := ⟨P.types.size - 1,by have := Nat.lt_of_le_of_lt (Nat.zero_le _) hrow;omega⟩
 have hl : ∀ n : Int,(Lit.int .i64 n).wf = true → P.keyLits P.types.size e [.int .i64 n] = some [.int .i64 n] := fun n hw => by
  rw [hd]
  simp [Program.keyLits,he,hw]
 unfold keyOf
 rw [hu]
 simp only [hk,kval,kcells,Value.formed,hu,hc,Program.keyLits,Value.cells]
 simp [hce,klit,klits,hl _ w1,hl _ w2,hl _ w3,hl _ w4,hn]
theorem keyOf_k {x : K4} (h : InBox x) : keyOf Try.prog 100 (kval x) = some (klit x) :=
 keyOf_gen Try.underlying100 (by decide) (by kernel_rfl) (by kernel_rfl) Try.underlying3 (by kernel_rfl) row75 h
theorem klit_inj {x y : K4} (hx : InBox x) (hy : InBox y) (h : klit x = klit y) : x = y := by
 have e := law75.inj (keyOf_k hx) ((keyOf_k hy).trans (congrArg some h.symm))
 simp only [kval,kcells,Value.agg.injEq,Array.mk.injEq,List.cons.injEq,Value.int.injEq,true_and,and_true] at e
 obtain ⟨a,b,c,d⟩ := x
 obtain ⟨a',b',c',d'⟩ := y
 simp only [Prod.mk.injEq]
 simp only at e
 omega
theorem isKey (x : K4) : WideAt.IsKeyLit (klit x) := by unfold klit;simp [WideAt.IsKeyLit]
theorem pigeon : ∀ (n : Nat) (L : List Nat),L.Nodup → (∀ x ∈ L,x < n) → L.length ≤ n
 | 0,[],_,_ => Nat.le_refl _
 | 0,x :: L,_,h => absurd (h x List.mem_cons_self) (Nat.not_lt_zero _)
 | n + 1,L,hn,h => by
  by_cases c : n ∈ L
  ·have h1 := pigeon n (L.erase n) (hn.erase n) (fun x hx => by
    have h2 := h x (List.mem_of_mem_erase hx)
    have h3 : x ≠ n := fun e => by subst e;exact (hn.not_mem_erase) hx
    omega)
   have h2 := List.length_erase_of_mem c
   have h3 := List.length_pos_of_mem c
   omega
  ·have h1 := pigeon n L hn (fun x hx => by
    have h2 := h x hx
    have h3 : x ≠ n := fun e => by subst e;exact c hx
    omega)
   omega
def code4 (x : K4) : Nat := ((x.1 * 25 + x.2.1) * 25 + x.2.2.1) * 25 + x.2.2.2
theorem few {ks : List K4} (hn : ks.Nodup) (hb : ∀ x ∈ ks,InBox x) : ks.length ≤ 390625 := by
 have h := pigeon 390625 (ks.map code4) ?_ ?_
 ·simpa using h
 ·refine List.pairwise_map.2 (hn.imp_of_mem fun {x y} hx hy hne he => hne ?_)
  obtain ⟨a1,a2,a3,a4⟩ := hb x hx
  obtain ⟨b1,b2,b3,b4⟩ := hb y hy
  obtain ⟨a,b,c,d⟩ := x
  obtain ⟨a',b',c',d'⟩ := y
  simp only [code4] at *
  simp only [Prod.mk.injEq]
  omega
 ·intro n h
  obtain ⟨x,hx,rfl⟩ := List.mem_map.1 h
  obtain ⟨a1,a2,a3,a4⟩ := hb x hx
  simp only [code4]
  omega
def valOf (M : Ted.Ms) (x : K4) : Int := Ted.D M x.1 x.2.1 x.2.2.1 x.2.2.2
noncomputable abbrev elem3 : Value → Option (DataW Unit × List MemPlace) := plainElem Try.prog 3
structure Memo (M : Ted.Ms) (W : World) (b : Nat) (ks : List K4) : Prop where
 nodup : ks.Nodup
 box : ∀ x ∈ ks,InBox x
 own : ∃ DD : DataW Unit,W.ownsMap Try.prog 100 elem3 b ks.length DD ∧ (∀ x,InBox x → Maps.has DD (klit x) = decide (x ∈ ks)) ∧ ∀ x ∈ ks,∀ z,DD.atKey (klit x) z = .lit (.int .i64 (valOf M x))
theorem Memo.start (M : Ted.Ms) (W : World) : Memo M (W.alloc (.map #[] 0)) W.heap.size [] :=
 ⟨List.nodup_nil,by simp,.map [],World.ownsMap_made W _ _ _,fun x _ => rfl,by simp⟩
theorem Memo.lt {M : Ted.Ms} {W : World} {b : Nat} {ks : List K4} (h : Memo M W b ks) : b < W.heap.size := by
 obtain ⟨DD,h1,_⟩ := h.own
 exact h1.lt
theorem Memo.kept {M : Ted.Ms} {W W' : World} {b : Nat} {ks : List K4} (h : Memo M W b ks) (hb : W'.heap[b]? = W.heap[b]?) : Memo M W' b ks := by
 obtain ⟨h1,h2,DD,⟨es,clock,h3,h4⟩,h5⟩ := h
 exact ⟨h1,h2,DD,⟨es,clock,hb.trans h3,h4⟩,h5⟩
theorem Memo.room {M : Ted.Ms} {W : World} {b : Nat} {ks : List K4} (h : Memo M W b ks) : ks.length < maxLen := by
 have := few h.nodup h.box
 have : (390625 : Nat) < maxLen := by decide
 omega
theorem Memo.put {M : Ted.Ms} {W W' : World} {b : Nat} {ks : List K4} {x : K4} (h : Memo M W b ks) (hx : InBox x) (hn : x ∉ ks) {DD : DataW Unit}
  (hh : ∀ y,InBox y → Maps.has DD (klit y) = decide (y ∈ ks)) (ha : ∀ y ∈ ks,∀ z,DD.atKey (klit y) z = .lit (.int .i64 (valOf M y))) (hm : Maps.IsMap DD)
  (ho : W'.ownsMap Try.prog 100 elem3 b (ks.length + 1) (DD.put (klit x) (.lit (.int .i64 (valOf M x))))) : Memo M W' b (x :: ks) := by
 refine ⟨List.nodup_cons.2 ⟨hn,h.nodup⟩,fun y hy => ?_,_,ho,fun y hy => ?_,fun y hy z => ?_⟩
 ·rcases List.mem_cons.1 hy with rfl | hy
  ·exact hx
  ·exact h.box y hy
 ·by_cases e : y = x
  ·subst e
   rw [Maps.has_put_same hm (isKey _)]
   simp
  ·rw [Maps.has_put_other (fun z => e (klit_inj hy hx z)),hh y hy]
   simp [e]
 ·by_cases e : y = x
  ·subst e
   rw [Maps.atKey_put_same hm (isKey _)]
  ·have hy' : y ∈ ks := (List.mem_cons.1 hy).resolve_left e
   rw [Maps.atKey_put_other (fun z => e (klit_inj (h.box y hy') hx z)),ha y hy']
structure Row1 (W : World) (b : Nat) (v : Value) (n : Nat) (f : Nat → Int) : Prop where
 is : ∃ ad c,v = .slice (some ad) n c ∧ n ≤ c ∧ ad.block ≠ b ∧ (∀ p,p < n → W.cell? (ad.add p) = some (.int .i64 (f p)))
structure Row2 (W : World) (b : Nat) (v : Value) (n m : Nat) (f : Nat → Nat → Int) : Prop where
 is : ∃ ad c,v = .slice (some ad) n c ∧ n ≤ c ∧ ad.block ≠ b ∧ (∀ p,p < n → ∃ u,W.cell? (ad.add p) = some u ∧ Row1 W b u m (f p))
def Only (b : Nat) (W W' : World) : Prop := W.grownBy W' (some b)
theorem Only.refl (b : Nat) (W : World) : Only b W W := ⟨rfl,rfl,rfl,Nat.le_refl _,fun _ _ _ => rfl⟩
theorem Only.trans {b : Nat} {W W1 W2 : World} (h : Only b W W1) (k : Only b W1 W2) : Only b W W2 :=
 ⟨k.os.trans h.os,k.tape.trans h.tape,k.output.trans h.output,Nat.le_trans h.size k.size,fun i hi hn => (k.block i (Nat.lt_of_lt_of_le hi h.size) hn).trans (h.block i hi hn)⟩
theorem Only.drew {b : Nat} {W W1 : World} (h : Only b W W1) : Only b W W1.drew := ⟨h.os,h.tape,h.output,h.size,h.block⟩
theorem Only.alloc {b : Nat} {W W1 : World} (h : Only b W W1) (o : Obj) : Only b W (W1.alloc o) := by
 refine ⟨h.os,h.tape,h.output,Nat.le_trans h.size (by simp),fun i hi hn => ?_⟩
 have hi' : i < W1.heap.size := Nat.lt_of_lt_of_le hi h.size
 exact ((MapKept.heap_alloc W1 o).2 i hi').trans (h.block i hi hn)
theorem Only.cell {b : Nat} {W W1 : World} (h : Only b W W1) {a : Addr} (ha : a.block ≠ b) {v : Value} (hc : W.cell? a = some v) : W1.cell? a = some v :=
 (World.cell?_of_block (h.block a.block (World.block_lt_of_cell? _ _ hc) (by simpa using ha))).trans hc
theorem Row1.only {b : Nat} {W W1 : World} (h : Only b W W1) {v : Value} {n : Nat} {f : Nat → Int} (r : Row1 W b v n f) : Row1 W1 b v n f := by
 obtain ⟨ad,c,e,hc,hb,hp⟩ := r.is
 exact ⟨ad,c,e,hc,hb,fun p hp' => h.cell (by rw [add_block];exact hb) (hp p hp')⟩
theorem Row2.only {b : Nat} {W W1 : World} (h : Only b W W1) {v : Value} {n m : Nat} {f : Nat → Nat → Int} (r : Row2 W b v n m f) : Row2 W1 b v n m f := by
 obtain ⟨ad,c,e,hc,hb,hp⟩ := r.is
 refine ⟨ad,c,e,hc,hb,fun p hp' => ?_⟩
 obtain ⟨u,hu,r1⟩ := hp p hp'
 exact ⟨u,h.cell (by rw [add_block];exact hb) hu,r1.only h⟩
structure Mea (M : Ted.Ms) (A B : Nat) (W : World) (b : Nat) (v : Array Value) : Prop where
 is : ∃ v0 v1 v2 v3 v4 v5 v6,v = #[v0,v1,v2,v3,v4,v5,v6] ∧ Row1 W b v2 A (fun p => M.la p) ∧ Row1 W b v3 B (fun q => M.lb q) ∧ Row1 W b v4 A M.del ∧ Row1 W b v5 B M.ins ∧ Row2 W b v6 A B M.rel
theorem Mea.only {M : Ted.Ms} {A B : Nat} {b : Nat} {W W1 : World} (h : Only b W W1) {v : Array Value} (r : Mea M A B W b v) : Mea M A B W1 b v := by
 obtain ⟨v0,v1,v2,v3,v4,v5,v6,e,h2,h3,h4,h5,h6⟩ := r.is
 exact ⟨v0,v1,v2,v3,v4,v5,v6,e,h2.only h,h3.only h,h4.only h,h5.only h,h6.only h⟩
end Go.Proofs.Ytngphdmbjenkaaa.X
namespace Go.Proofs.Ytngphdmbjenkaaa.X
open Go.RowKit Go.Proofs.YtngphdmbjenkaaaW.PrintWords Go.Proofs.YtngphdmbjenkaaaW.PrintLast Go.Proofs.YtngphdmbjenkaaaW.PrintMore
set_option linter.unusedVariables false
set_option linter.unusedSimpArgs false
attribute [local go_sem] max2_int min2_int max_two min_two max_three min_three max_four min_four
def sz (x : K4) : Nat := (x.2.1 - x.1) + (x.2.2.2 - x.2.2.1)
structure Small (M : Ted.Ms) : Prop where
 del : ∀ x,0 ≤ M.del x ∧ M.del x ≤ 1000000
 ins : ∀ y,0 ≤ M.ins y ∧ M.ins y ≤ 1000000
 rel : ∀ x y,0 ≤ M.rel x y ∧ M.rel x y ≤ 1000000
theorem sm_small {f : Nat → Int} (hf : ∀ x,f x ≤ 1000000) (i j : Nat) : Ted.sm f i j ≤ 1000000 * j := by
 induction j with
 | zero => exact Int.le_refl _
 | succ j ih =>
  simp only [Ted.sm]
  split
  ·have := hf j;omega
  ·omega
theorem D_small {M : Ted.Ms} (h : Small M) (i j k m : Nat) : 0 ≤ Ted.D M i j k m ∧ Ted.D M i j k m ≤ 1000000 * j + 1000000 * m := by
 refine ⟨Ted.D_nonneg M (fun x => (h.del x).1) (fun x => (h.ins x).1) (fun x y => (h.rel x y).1) _ i j k m (Nat.le_refl _),?_⟩
 have h1 := Ted.D_le M (Ted.Valid.nil M i j k m)
 have h2 := sm_small (fun x => (h.del x).2) i j
 have h3 := sm_small (fun x => (h.ins x).2) k m
 rw [Ted.cost,Ted.tot_nil] at h1
 omega
theorem wid {n : Int} (h1 : -9223372036854775808 ≤ n) (h2 : n ≤ 9223372036854775807) : wrap64 n = n := by unfold wrap64;omega
theorem big_wf {n : Int} (h1 : 0 ≤ n) (h2 : n ≤ 48000000) : (Lit.int .i64 n).wf = true := by
 have e1 : IntKind.i64.min = -9223372036854775808 := by decide
 have e2 : IntKind.i64.max = 9223372036854775807 := by decide
 simp only [Lit.wf,e1,e2,Bool.and_eq_true,decide_eq_true_eq]
 omega
theorem vw {M : Ted.Ms} (hs : Small M) (i j k m : Nat) (hj : j ≤ 24) (hm : m ≤ 24) : (Lit.int .i64 (Ted.D M i j k m)).wf = true := by
 have h := D_small hs i j k m
 exact big_wf h.1 (by omega)
theorem max_int {i a x : Nat} (h : x = max i a) : (if (i : Int) < (a : Int) then (a : Int) else (i : Int)) = (x : Int) := by split <;> omega
theorem max_nat {i a x : Nat} (h : x = max i a) : (if i < a then (a : Int) else (i : Int)) = (x : Int) := by split <;> omega
theorem min3 {a b c d : Int} (h : d = min a (min b c)) : (if c < (if b < a then b else a) then c else (if b < a then b else a)) = d := by
 rw [h]
 by_cases h1 : b < a
 ·rw [if_pos h1];split <;> omega
 ·rw [if_neg h1];split <;> omega
theorem cut_facts {l : Nat → Nat} {i p : Nat} (hi : i ≤ p) (hl : l p ≤ p) : i ≤ Ted.cut l i (p + 1) ∧ Ted.cut l i (p + 1) ≤ p ∧ Ted.cut l i (p + 1) = max i (l p) := by
 have e : Ted.cut l i (p + 1) = max i (l p) := by simp only [Ted.cut,Nat.add_sub_cancel];rw [Nat.min_eq_left hl]
 rw [e]
 exact ⟨Nat.le_max_left _ _,Nat.max_le.2 ⟨hi,hl⟩,rfl⟩
theorem num_sub {p : Nat} (h : p < 25) : wrap64 (((p + 1 : Nat) : Int) - 1) = (p : Int) := by rw [wid (by omega) (by omega)];omega
theorem num_id {p : Nat} (h : p < 25) : wrap64 ((p : Nat) : Int) = (p : Int) := wid (by omega) (by omega)
theorem zero3 (w : World) : (zeroValue 3).run Try.prog w = .ok (.int .i64 0) w := by kernel_rfl
theorem D_step (M : Ted.Ms) {i p k q : Nat} (hi : i ≤ p) (hk : k ≤ q) : Ted.D M i (p + 1) k (q + 1) = min (Ted.D M i p k (q + 1) + M.del p) (min (Ted.D M i (p + 1) k q + M.ins q) (Ted.D M (Ted.cut M.la i (p + 1)) p (Ted.cut M.lb k (q + 1)) q + Ted.D M i (Ted.cut M.la i (p + 1)) k (Ted.cut M.lb k (q + 1)) + M.rel p q)) :=
 Ted.D_ab M (Nat.lt_succ_of_le hi) (Nat.lt_succ_of_le hk)
theorem ab_facts {M : Ted.Ms} (hs : Small M) {i p k q : Nat} (hi : i ≤ p) (hk : k ≤ q) (hp : p + 1 ≤ 24) (hq : q + 1 ≤ 24) (hla : M.la p ≤ p) (hlb : M.lb q ≤ q) :
  ∃ (x y : Nat) (z1 z2 z4 : Int),(i ≤ x ∧ x ≤ p) ∧ (k ≤ y ∧ y ≤ q) ∧
   Aside0 ((if (i : Int) < (M.la p : Int) then (M.la p : Int) else (i : Int)) = (x : Int)) ∧ Aside0 ((if i < M.la p then (M.la p : Int) else (i : Int)) = (x : Int)) ∧
   Aside0 ((if (k : Int) < (M.lb q : Int) then (M.lb q : Int) else (k : Int)) = (y : Int)) ∧ Aside0 ((if k < M.lb q then (M.lb q : Int) else (k : Int)) = (y : Int)) ∧
   Aside0 (wrap64 (Ted.D M i p k (q + 1) + M.del p) = z1) ∧ Aside0 (wrap64 (Ted.D M i (p + 1) k q + M.ins q) = z2) ∧
   Aside0 (wrap64 (Ted.D M x p y q + Ted.D M i x k y) = Ted.D M x p y q + Ted.D M i x k y) ∧ Aside0 (wrap64 (Ted.D M x p y q + Ted.D M i x k y + M.rel p q) = z4) ∧
   Aside0 ((if z4 < (if z2 < z1 then z2 else z1) then z4 else (if z2 < z1 then z2 else z1)) = Ted.D M i (p + 1) k (q + 1)) := by
 obtain ⟨c1,c2,c3⟩ := cut_facts hi hla
 obtain ⟨e1,e2,e3⟩ := cut_facts hk hlb
 have hD := D_step M hi hk
 have b1 := D_small hs i p k (q + 1)
 have b2 := D_small hs i (p + 1) k q
 have b3 := D_small hs (Ted.cut M.la i (p + 1)) p (Ted.cut M.lb k (q + 1)) q
 have b4 := D_small hs i (Ted.cut M.la i (p + 1)) k (Ted.cut M.lb k (q + 1))
 have b5 := hs.del p
 have b6 := hs.ins q
 have b7 := hs.rel p q
 refine ⟨Ted.cut M.la i (p + 1),Ted.cut M.lb k (q + 1),_,_,_,⟨c1,c2⟩,⟨e1,e2⟩,⟨max_int c3⟩,⟨max_nat c3⟩,⟨max_int e3⟩,⟨max_nat e3⟩,⟨wid ?_ ?_⟩,⟨wid ?_ ?_⟩,⟨wid ?_ ?_⟩,⟨wid ?_ ?_⟩,⟨min3 hD⟩⟩
 all_goals (clear hD c3 e3;omega)
def ForestAt (M : Ted.Ms) (A B N : Nat) : Prop := ∀ i j k m : Nat,(j - i) + (m - k) = N → i ≤ j → j ≤ A → k ≤ m → m ≤ B → ∀ (W : World) (b : Nat) (v : Array Value) (ks : List K4),Mea M A B W b v → Memo M W b ks →
 Calls Try.prog 118 #[.agg v,kval (i,j,k,m),.map (some b)] W fun e w' => e = .returned (.int .i64 (Ted.D M i j k m)) ∧ Only b W w' ∧ ∃ ks',Memo M w' b ks' ∧ ∀ y ∈ ks',y ∈ ks ∨ sz y ≤ N
structure FS (M : Ted.Ms) (A B : Nat) (W : World) (b : Nat) (v0 v1 v2 v3 v4 v5 v6 : Value) (i j k m : Nat) (ks : List K4) (g N : Nat) (w' : World) : Prop where
 c0 : w'.cell? ⟨g,0,none⟩ = some v0
 c1 : w'.cell? ⟨g,1,none⟩ = some v1
 c2 : w'.cell? ⟨g,2,none⟩ = some v2
 c3 : w'.cell? ⟨g,3,none⟩ = some v3
 c4 : w'.cell? ⟨g,4,none⟩ = some v4
 c5 : w'.cell? ⟨g,5,none⟩ = some v5
 c6 : w'.cell? ⟨g,6,none⟩ = some v6
 d0 : w'.cell? ⟨g + 1,0,none⟩ = some (.int .i64 (i : Int))
 d1 : w'.cell? ⟨g + 1,1,none⟩ = some (.int .i64 (j : Int))
 d2 : w'.cell? ⟨g + 1,2,none⟩ = some (.int .i64 (k : Int))
 d3 : w'.cell? ⟨g + 1,3,none⟩ = some (.int .i64 (m : Int))
 mea : Mea M A B w' b #[v0,v1,v2,v3,v4,v5,v6]
 memo : ∃ ks',Memo M w' b ks' ∧ ∀ y ∈ ks',y ∈ ks ∨ sz y < N
 only : Only b W w'
 far : b < g
theorem FS.start {M : Ted.Ms} {A B : Nat} {W : World} {b : Nat} {v0 v1 v2 v3 v4 v5 v6 : Value} {i j k m : Nat} {ks : List K4} {N : Nat} (mea : Mea M A B W b #[v0,v1,v2,v3,v4,v5,v6]) (hm : Memo M W b ks) :
  FS M A B W b v0 v1 v2 v3 v4 v5 v6 i j k m ks W.heap.size N (((W.alloc (Obj.cells #[v0,v1,v2,v3,v4,v5,v6] 92)).alloc (Obj.cells #[.int .i64 (i : Int),.int .i64 (j : Int),.int .i64 (k : Int),.int .i64 (m : Int)] 100))) := by
 have ho := ((Only.refl b W).alloc (Obj.cells #[v0,v1,v2,v3,v4,v5,v6] 92)).alloc (Obj.cells #[.int .i64 (i : Int),.int .i64 (j : Int),.int .i64 (k : Int),.int .i64 (m : Int)] 100)
 have hlt := hm.lt
 have B3 : ((W.alloc (Obj.cells #[v0,v1,v2,v3,v4,v5,v6] 92)).alloc (Obj.cells #[.int .i64 (i : Int),.int .i64 (j : Int),.int .i64 (k : Int),.int .i64 (m : Int)] 100)).heap[W.heap.size]? = some (.cells #[v0,v1,v2,v3,v4,v5,v6] 92 (0,0)) :=
  ((MapKept.heap_alloc _ _).2 _ (by simp)).trans (MapKept.heap_alloc W _).1
 have B4 : ((W.alloc (Obj.cells #[v0,v1,v2,v3,v4,v5,v6] 92)).alloc (Obj.cells #[.int .i64 (i : Int),.int .i64 (j : Int),.int .i64 (k : Int),.int .i64 (m : Int)] 100)).heap[W.heap.size + 1]? = some (.cells #[.int .i64 (i : Int),.int .i64 (j : Int),.int .i64 (k : Int),.int .i64 (m : Int)] 100 (0,0)) := by
  have h := (MapKept.heap_alloc (W.alloc (Obj.cells #[v0,v1,v2,v3,v4,v5,v6] 92)) (Obj.cells #[.int .i64 (i : Int),.int .i64 (j : Int),.int .i64 (k : Int),.int .i64 (m : Int)] 100)).1
  have e : (W.alloc (Obj.cells #[v0,v1,v2,v3,v4,v5,v6] 92)).heap.size = W.heap.size + 1 := by simp
  rw [e] at h
  exact h
 exact ⟨(blk_cell B3 0).trans rfl,(blk_cell B3 1).trans rfl,(blk_cell B3 2).trans rfl,(blk_cell B3 3).trans rfl,(blk_cell B3 4).trans rfl,(blk_cell B3 5).trans rfl,(blk_cell B3 6).trans rfl,(blk_cell B4 0).trans rfl,(blk_cell B4 1).trans rfl,(blk_cell B4 2).trans rfl,(blk_cell B4 3).trans rfl,
  mea.only ho,⟨ks,hm.kept (((MapKept.heap_alloc _ _).2 b (by simp;omega)).trans ((MapKept.heap_alloc W _).2 b hlt)),fun y hy => Or.inl hy⟩,ho,hlt⟩
theorem FS.drew {M : Ted.Ms} {A B : Nat} {W : World} {b : Nat} {v0 v1 v2 v3 v4 v5 v6 : Value} {i j k m : Nat} {ks : List K4} {g N : Nat} {w : World} (h : FS M A B W b v0 v1 v2 v3 v4 v5 v6 i j k m ks g N w) : FS M A B W b v0 v1 v2 v3 v4 v5 v6 i j k m ks g N w.drew := by
 obtain ⟨ks',h1,h2⟩ := h.memo
 exact ⟨h.c0,h.c1,h.c2,h.c3,h.c4,h.c5,h.c6,h.d0,h.d1,h.d2,h.d3,h.mea.only ((Only.refl b w).drew),⟨ks',h1.kept rfl,h2⟩,h.only.drew,h.far⟩
theorem FS.goes {M : Ted.Ms} {A B : Nat} {W : World} {b : Nat} {v0 v1 v2 v3 v4 v5 v6 : Value} {i j k m : Nat} {ks : List K4} {g N : Nat} {w : World} (IH : ∀ N',N' < N → ForestAt M A B N') (h : FS M A B W b v0 v1 v2 v3 v4 v5 v6 i j k m ks g N w)
  {i' j' k' m' : Nat} (hN : (j' - i') + (m' - k') < N) (h1 : i' ≤ j') (h2 : j' ≤ A) (h3 : k' ≤ m') (h4 : m' ≤ B) :
  Calls Try.prog 118 #[.agg #[v0,v1,v2,v3,v4,v5,v6],kval (i',j',k',m'),.map (some b)] w fun e w' => e = .returned (.int .i64 (Ted.D M i' j' k' m')) ∧ FS M A B W b v0 v1 v2 v3 v4 v5 v6 i j k m ks g N w' ∧ Only b w w' := by
 obtain ⟨ks1,hm1,hk1⟩ := h.memo
 refine (IH _ hN i' j' k' m' rfl h1 h2 h3 h4 w b _ ks1 h.mea hm1).mono ?_
 rintro e w' ⟨rfl,ho,ks2,hm2,hk2⟩
 have n1 : g ≠ b := by have := h.far;omega
 have n2 : g + 1 ≠ b := by have := h.far;omega
 refine ⟨rfl,⟨ho.cell n1 h.c0,ho.cell n1 h.c1,ho.cell n1 h.c2,ho.cell n1 h.c3,ho.cell n1 h.c4,ho.cell n1 h.c5,ho.cell n1 h.c6,ho.cell n2 h.d0,ho.cell n2 h.d1,ho.cell n2 h.d2,ho.cell n2 h.d3,h.mea.only ho,⟨ks2,hm2,fun y hy => ?_⟩,h.only.trans ho,h.far⟩,ho⟩
 rcases hk2 y hy with c | c
 ·exact hk1 y c
 ·exact Or.inr (by omega)
theorem FS.store {M : Ted.Ms} {A B : Nat} {W : World} {b : Nat} {v0 v1 v2 v3 v4 v5 v6 : Value} {i j k m : Nat} {ks : List K4} {g N : Nat} {w : World} (h : FS M A B W b v0 v1 v2 v3 v4 v5 v6 i j k m ks g N w) (hN : (j - i) + (m - k) = N) (hx : InBox (i,j,k,m)) (hin : (i,j,k,m) ∉ ks) :
  ∃ (ks1 : List K4) (DD : DataW Unit),w.ownsMap Try.prog 100 elem3 b ks1.length DD ∧ ks1.length < maxLen ∧ ∀ w',w'.ownsMap Try.prog 100 elem3 b (ks1.length + 1) (DD.put (klit (i,j,k,m)) (.lit (.int .i64 (valOf M (i,j,k,m))))) → w.grownBy w' (some b) →
   Only b W w' ∧ ∃ ks',Memo M w' b ks' ∧ ∀ y ∈ ks',y ∈ ks ∨ sz y ≤ N := by
 obtain ⟨ks1,hm1,hk1⟩ := h.memo
 obtain ⟨DD,hown,hh,ha⟩ := hm1.own
 refine ⟨ks1,DD,hown,hm1.room,fun w' ho hg => ⟨h.only.trans hg,_,hm1.put hx ?_ hh ha hown.isMap ho,fun y hy => ?_⟩⟩
 ·intro hc
  rcases hk1 _ hc with c | c
  ·exact hin c
  ·simp only [sz] at c
   omega
 ·rcases List.mem_cons.1 hy with rfl | hy
  ·exact Or.inr (by simp only [sz];omega)
  ·rcases hk1 y hy with c | c
   ·exact Or.inl c
   ·exact Or.inr (Nat.le_of_lt c)
set_option maxHeartbeats 4000000 in
set_option maxRecDepth 100000 in
theorem forest_hit {M : Ted.Ms} {i j k m : Nat} (W : World) (b : Nat) (v0 v1 v2 v3 v4 v5 v6 : Value) (ks : List K4) (hm : Memo M W b ks) (hx : InBox (i,j,k,m)) (hin : (i,j,k,m) ∈ ks) :
  Calls Try.prog 118 #[.agg #[v0,v1,v2,v3,v4,v5,v6],kval (i,j,k,m),.map (some b)] W fun e w' => e = .returned (.int .i64 (Ted.D M i j k m)) ∧ Only b W w' ∧ ∃ ks',Memo M w' b ks' ∧ ∀ y ∈ ks',y ∈ ks ∨ sz y ≤ sz (i,j,k,m) := by
 obtain ⟨DD,hown,hhas,hat⟩ := hm.own
 have hh : Maps.has DD (klit (i,j,k,m)) = true := by rw [hhas _ hx];exact decide_eq_true hin
 have HM := Aside0.mk hm
 have HAT := Aside0.mk (hat _ hin)
 have HO := Aside0.mk hown
 have HX := Aside0.mk (keyOf_k hx)
 clear hm hown hhas hat hx hin
 unfold kval kcells
 go_enter Try.func118,Try.ntmps118
 go_wp2_with (first | (at_lookup;refine wpList_lookup_own_ok_int _ rfl _ _ 95 rfl 100 3 .i64 keyed75 Try.underlying95 Try.underlying3 (zero3 _) b ks.length DD rfl ((HO.out.alloc _).alloc _) _ (klit (i,j,k,m)) rfl HX.out ?_;intro c hc hwc))
 go_ret
 have e1 := HAT.out (.lit (.int .i64 0))
 rw [hc] at e1
 simp only [DataW.lit.injEq,Lit.int.injEq,true_and] at e1
 refine ⟨by rw [e1];rfl,((Only.refl b W).alloc _).alloc _,ks,HM.out.kept ?_,fun y hy => Or.inl hy⟩
 exact ((MapKept.heap_alloc _ _).2 b (by have := HM.out.lt;simp;omega)).trans ((MapKept.heap_alloc W _).2 b HM.out.lt)
def forestR.T5 : Bool × List (List Nat × List Nat) := (true,[([],[]),([0],[0]),([1],[1]),([],[]),([3],[3]),([4],[4]),([2,0,1,2],[2]),([5,6,0,1,2,3,4,5,6],[5])])
def forestR.B5 : List Nat := [0,1,3,0,8,24,7,127]
theorem forestR.tab5 : rtab .any (opsOf Try.f118 5) = forestR.T5 := by kernel_rfl
theorem forestR.bits5 : waitsOk forestR.T5.2 forestR.B5 = true := by kernel_rfl
def forestR.T6 : Bool × List (List Nat × List Nat) := (true,[([],[]),([0],[0]),([],[]),([2],[2]),([],[]),([3,4],[3,4]),([5],[5]),([1,6],[1,6]),([],[]),([8],[8]),([],[]),([10],[10]),([],[]),([11,12],[11,12]),([13],[13]),([9,14],[9,14]),([7,0,1,2,3,4,5,6,7],[7]),([15,16,0,1,2,3,4,5,6,7,8,9,10,11,12,13,14,15,16],[15])])
def forestR.B6 : List Nat := [0,1,0,4,0,28,60,127,0,256,0,1024,0,7168,15360,32512,255,131071]
theorem forestR.tab6 : rtab .any (opsOf Try.f118 6) = forestR.T6 := by kernel_rfl
theorem forestR.bits6 : waitsOk forestR.T6.2 forestR.B6 = true := by kernel_rfl
def forestR.T7 : Bool × List (List Nat × List Nat) := (true,[([],[]),([],[]),([1],[1]),([],[]),([],[]),([4],[4]),([],[]),([6],[6]),([2,3,5,7],[2,3,5,7]),([],[]),([0,8,9],[0,8,9]),([],[]),([11],[11]),([],[]),([12,13],[12,13]),([14],[14]),([10,15],[10,15]),([],[]),([],[]),([18],[18]),([],[]),([20],[20]),([],[]),([22],[22]),([],[]),([19,21,23,24],[19,21,23,24]),([],[]),([17,25,26,10],[17,25,26]),([],[]),([28],[28]),([],[]),([29,30],[29,30]),([31],[31]),([27,32],[27,32]),([],[]),([],[]),([],[]),([],[]),([],[]),([35,36,37,38],[35,36,37,38]),([],[]),([34,39,40,27],[34,39,40]),([],[]),([],[]),([43],[43]),([],[]),([],[]),([46],[46]),([],[]),([44,45,47,48],[44,45,47,48]),([],[]),([42,49,50,41],[42,49,50]),([41,51],[41,51]),([],[]),([53],[53]),([],[]),([54,55],[54,55]),([56],[56]),([],[]),([57,58],[57,58]),([59],[59]),([52,60],[52,60]),([16,33,61],[16,33,61]),([62,51,0,1,2,3,4,5,6,7,8,9,10,11,12,13,14,15,16,17,18,19,20,21,22,23,24,25,26,27,28,29,30,31,32,33,34,35,36,37,38,39,40,41,42,43,44,45,46,47,48,49,50,51,52,53,54,55,56,57,58,59,60,61,62],[62])])
def forestR.B7 : List Nat := [0,0,2,0,0,16,0,64,254,0,1023,0,2048,0,14336,30720,65535,0,0,262144,0,1048576,0,4194304,0,33292288,0,134088703,0,268435456,0,1879048192,4026531840,8589805567,0,0,0,0,0,515396075520,0,2182111692799,0,0,8796093022208,0,0,70368744177664,0,554153860399104,0,2251782902122495,4503582715807743,0,9007199254740992,0,63050394783186944,135107988821114880,0,567453553048682496,1143914305352105984,2305842992302131199,4611686018427387903,9223372036854775807]
theorem forestR.tab7 : rtab .any (opsOf Try.f118 7) = forestR.T7 := by kernel_rfl
theorem forestR.bits7 : waitsOk forestR.T7.2 forestR.B7 = true := by kernel_rfl
def forestR.T10 : Bool × List (List Nat × List Nat) := (true,[([],[]),([],[]),([1],[1]),([],[]),([3],[3]),([],[]),([5],[5]),([],[]),([7],[7]),([8],[8]),([2,4,6,9],[2,4,6,9]),([],[]),([0,10,11],[0,10,11]),([],[]),([13],[13]),([],[]),([15],[15]),([16],[16]),([14,17],[14,17]),([18],[18]),([12,19],[12,19]),([20,12,0,1,2,3,4,5,6,7,8,9,10,11,12,13,14,15,16,17,18,19,20],[20])])
def forestR.B10 : List Nat := [0,0,2,0,8,0,32,0,128,384,1022,0,4095,0,8192,0,32768,98304,253952,516096,1048575,2097151]
theorem forestR.tab10 : rtab .any (opsOf Try.f118 10) = forestR.T10 := by kernel_rfl
theorem forestR.bits10 : waitsOk forestR.T10.2 forestR.B10 = true := by kernel_rfl
def forestR.T12 : Bool × List (List Nat × List Nat) := (true,[([],[]),([],[]),([1],[1]),([],[]),([3],[3]),([4],[4]),([],[]),([6],[6]),([],[]),([8],[8]),([2,5,7,9],[2,5,7,9]),([],[]),([0,10,11],[0,10,11]),([],[]),([13],[13]),([],[]),([15],[15]),([16],[16]),([14,17],[14,17]),([18],[18]),([12,19],[12,19]),([20,12,0,1,2,3,4,5,6,7,8,9,10,11,12,13,14,15,16,17,18,19,20],[20])])
def forestR.B12 : List Nat := [0,0,2,0,8,24,0,64,0,256,1022,0,4095,0,8192,0,32768,98304,253952,516096,1048575,2097151]
theorem forestR.tab12 : rtab .any (opsOf Try.f118 12) = forestR.T12 := by kernel_rfl
theorem forestR.bits12 : waitsOk forestR.T12.2 forestR.B12 = true := by kernel_rfl
set_option maxHeartbeats 8000000 in
set_option maxRecDepth 100000 in
theorem forest_none {M : Ted.Ms} {A B N : Nat} (hs : Small M) (hA : A ≤ 24) (hB : B ≤ 24) (IH : ∀ N',N' < N → ForestAt M A B N') {i k : Nat} (hN : N = 0) (hi : i ≤ A) (hk : k ≤ B) (W : World) (b : Nat) {v0 v1 v2 v3 v4 v5 v6 : Value} (ks : List K4) (mea : Mea M A B W b #[v0,v1,v2,v3,v4,v5,v6]) (hm : Memo M W b ks) (hx : InBox (i,i,k,k)) (hin : (i,i,k,k) ∉ ks) :
  Calls Try.prog 118 #[.agg #[v0,v1,v2,v3,v4,v5,v6],kval (i,i,k,k),.map (some b)] W fun e w' => e = .returned (.int .i64 (Ted.D M (i) (i) (k) (k))) ∧ Only b W w' ∧ ∃ ks',Memo M w' b ks' ∧ ∀ y ∈ ks',y ∈ ks ∨ sz y ≤ N := by
 obtain ⟨DD,hown,hhas,hat⟩ := hm.own
 have hh : Maps.has DD (klit (i,i,k,k)) = false := by rw [hhas _ hx];exact decide_eq_false hin
 have HSZ := Aside0.mk (show ((i) - (i)) + ((k) - (k)) = N by omega)
 have HV := Aside0.mk (show elem3 (.int .i64 (Ted.D M (i) (i) (k) (k))) = some (.lit (.int .i64 (valOf M (i,i,k,k))),[]) from plainElem_int Try.underlying3 (vw hs (i) (i) (k) (k) (by omega) (by omega)))
 have e0 := Ted.D_none M (Nat.lt_irrefl i) (Nat.lt_irrefl k)
 rw [e0] at HV
 rw [e0]
 have HM := Aside0.mk hm
 have HO := Aside0.mk hown
 have HX := Aside0.mk (keyOf_k hx)
 have HIN := Aside0.mk hin
 have HBX := Aside0.mk hx
 have HST := Aside0.mk (FS.start (i := i) (j := i) (k := k) (m := k) (N := N) mea hm)
 have IH := Aside0.mk IH
 clear hown hhas hat hin hx mea
 unfold kval kcells
 obtain ⟨ks1,DD1,hown1,hroom1,hst⟩ := HST.out.store HSZ.out HBX.out HIN.out
 have HST9 := Aside0.mk hst
 have HO9 := Aside0.mk hown1
 have HR9 := Aside0.mk hroom1
 clear hst hown1 hroom1
 go_enter Try.func118,Try.ntmps118
 go_wp2_with (first | (at_lookup;refine wpList_lookup_own_ok_int _ rfl _ _ 95 rfl 100 3 .i64 keyed75 Try.underlying95 Try.underlying3 (zero3 _) b ks.length DD rfl ((HO.out.alloc _).alloc _) _ (klit (i,i,k,k)) rfl HX.out ?_;intro c hc hwc) | (at_mapUpdate;refine wpList_mapUpdate_own _ rfl _ _ _ 95 rfl 100 3 keyed75 Try.underlying95 elem3 b _ _ rfl HO9.out HR9.out _ _ (klit (i,i,k,k)) rfl rfl HX.out (.lit (.int .i64 (valOf M (i,i,k,k)))) [] HV.out ?_;intro w9 hown9 hgrow9))
 go_ret
 exact ⟨rfl,HST9.out _ hown9 hgrow9⟩
set_option maxHeartbeats 8000000 in
set_option maxRecDepth 100000 in
theorem forest_b {M : Ted.Ms} {A B N : Nat} (hs : Small M) (hA : A ≤ 24) (hB : B ≤ 24) (IH : ∀ N',N' < N → ForestAt M A B N') {i k q : Nat} (hN : q + 1 - k = N) (hi : i ≤ A) (hk : k ≤ q) (hq : q + 1 ≤ B) (W : World) (b : Nat) {v0 v1 v2 v3 v4 v5 v6 : Value} (ks : List K4) (mea : Mea M A B W b #[v0,v1,v2,v3,v4,v5,v6]) (hm : Memo M W b ks) (hx : InBox (i,i,k,q + 1)) (hin : (i,i,k,q + 1) ∉ ks) :
  Calls Try.prog 118 #[.agg #[v0,v1,v2,v3,v4,v5,v6],kval (i,i,k,q + 1),.map (some b)] W fun e w' => e = .returned (.int .i64 (Ted.D M (i) (i) (k) (q + 1))) ∧ Only b W w' ∧ ∃ ks',Memo M w' b ks' ∧ ∀ y ∈ ks',y ∈ ks ∨ sz y ≤ N := by
 obtain ⟨DD,hown,hhas,hat⟩ := hm.own
 have hh : Maps.has DD (klit (i,i,k,q + 1)) = false := by rw [hhas _ hx];exact decide_eq_false hin
 have HSZ := Aside0.mk (show ((i) - (i)) + ((q + 1) - (k)) = N by omega)
 obtain ⟨u0,u1,u2,u3,u4,u5,u6,e,m2,m3,m4,m5,m6⟩ := mea.is
 simp only [Array.mk.injEq,List.cons.injEq,and_true] at e
 obtain ⟨rfl,rfl,rfl,rfl,rfl,rfl,rfl⟩ := e
 obtain ⟨ad5,cp5,rfl,hcp5,nb5,r5⟩ := m5.is
 have x5 := Aside0.mk (r5 q (by omega))
 have NB5 := Aside0.mk nb5
 clear m5 r5 nb5
 have p5 : (0 ≤ (q : Int)) = True := eq_true (by omega)
 have q5 : ((q : Int) < (B : Int)) = True := eq_true (by omega)
 have HV := Aside0.mk (show elem3 (.int .i64 (Ted.D M (i) (i) (k) (q + 1))) = some (.lit (.int .i64 (valOf M (i,i,k,q + 1))),[]) from plainElem_int Try.underlying3 (vw hs (i) (i) (k) (q + 1) (by omega) (by omega)))
 have HW_q := Aside0.mk (num_sub (p := q) (by omega))
 have HX_q := Aside0.mk (num_id (p := q) (by omega))
 have hsum : wrap64 (Ted.D M i i k q + M.ins q) = Ted.D M i i k (q + 1) := by
  have h1 := D_small hs i i k q
  have h2 := hs.ins q
  rw [Ted.D_b M (Nat.lt_irrefl i) (show k < q + 1 by omega)]
  exact wid (by omega) (by omega)
 have hne : ((k : Int) == ((q + 1 : Nat) : Int)) = false := beq_eq_false_iff_ne.2 (by omega)
 have HM := Aside0.mk hm
 have HO := Aside0.mk hown
 have HX := Aside0.mk (keyOf_k hx)
 have HIN := Aside0.mk hin
 have HBX := Aside0.mk hx
 have HST := Aside0.mk (FS.start (i := i) (j := i) (k := k) (m := q + 1) (N := N) mea hm)
 have IH := Aside0.mk IH
 clear hown hhas hat hin hx mea
 unfold kval kcells
 go_enter Try.func118,Try.ntmps118
 go_wp2_with (first | (at_lookup;refine wpList_lookup_own_ok_int _ rfl _ _ 95 rfl 100 3 .i64 keyed75 Try.underlying95 Try.underlying3 (zero3 _) b ks.length DD rfl ((HO.out.alloc _).alloc _) _ (klit (i,i,k,q + 1)) rfl HX.out ?_;intro c hc hwc))
 refine start_ (n := 22) (S := fun w' => FS M A B W b v0 v1 v2 v3 v4 (.slice (some ad5) B cp5) v6 (i) (i) (k) (q + 1) ks W.heap.size N w' ∧ w'.cell? (ad5.add q) = some (.int .i64 (M.ins q))) (ds := []) (ba_ 22 0) (by kernel_rfl) rfl rfl ⟨HST.out.drew,((((Only.refl b W).alloc _).alloc _).drew).cell (by rw [add_block];exact NB5.out) x5.out⟩ (fun hHeld => ?_)
 refine with_tabW forestR.tab10 forestR.bits10 (fun HT_ HW_ => ?_)
 refine pure_ (i := 1) (N := some 127) (v := ?_) (a' := ?_) (ba_ 22 2) rfl rfl (any_of HT_.out (by kernel_rfl)) (fun _ _ _ h => h) (Or.inl ⟨by rfl,?_⟩) ?_ ?_
 rotate_left
 ·intro w'
  go_simp
  with_reducible rfl
 rotate_left
 ·simp only [Act.put,List.setIfInBounds_toArray,List.set_cons_zero,List.set_cons_succ,i64_w,i32_w,HW_q.out,HX_q.out,hsum]
  rfl
 refine pure_ (i := 3) (N := some 129) (v := ?_) (a' := ?_) (ba_ 22 10) rfl rfl (any_of HT_.out (by kernel_rfl)) (fun _ _ _ h => h) (Or.inl ⟨by rfl,?_⟩) ?_ ?_
 rotate_left
 ·intro w'
  go_simp
  with_reducible rfl
 rotate_left
 ·simp only [Act.put,List.setIfInBounds_toArray,List.set_cons_zero,List.set_cons_succ,i64_w,i32_w,HW_q.out,HX_q.out,hsum]
  rfl
 refine pure_ (i := 5) (N := some 131) (v := ?_) (a' := ?_) (ba_ 22 42) rfl rfl (any_of HT_.out (by kernel_rfl)) (fun _ _ _ h => h) (Or.inl ⟨by rfl,?_⟩) ?_ ?_
 rotate_left
 ·intro w'
  go_simp
  with_reducible rfl
 rotate_left
 ·simp only [Act.put,List.setIfInBounds_toArray,List.set_cons_zero,List.set_cons_succ,i64_w,i32_w,HW_q.out,HX_q.out,hsum]
  rfl
 refine pure_ (i := 7) (N := some 133) (v := ?_) (a' := ?_) (ba_ 22 170) rfl rfl (any_of HT_.out (by kernel_rfl)) (fun _ _ _ h => h) (Or.inl ⟨by rfl,?_⟩) ?_ ?_
 rotate_left
 ·intro w'
  go_simp
  with_reducible rfl
 rotate_left
 ·simp only [Act.put,List.setIfInBounds_toArray,List.set_cons_zero,List.set_cons_succ,i64_w,i32_w,HW_q.out,HX_q.out,hsum]
  rfl
 refine pure_ (i := 11) (N := some 137) (v := ?_) (a' := ?_) (ba_ 22 2218) rfl rfl (any_of HT_.out (by kernel_rfl)) (fun _ _ _ h => h) (Or.inl ⟨by rfl,?_⟩) ?_ ?_
 rotate_left
 ·intro w'
  go_simp
  with_reducible rfl
 rotate_left
 ·simp only [Act.put,List.setIfInBounds_toArray,List.set_cons_zero,List.set_cons_succ,i64_w,i32_w,HW_q.out,HX_q.out,hsum]
  rfl
 refine pure_ (i := 13) (N := some 139) (v := ?_) (a' := ?_) (ba_ 22 10410) rfl rfl (any_of HT_.out (by kernel_rfl)) (fun _ _ _ h => h) (Or.inl ⟨by rfl,?_⟩) ?_ ?_
 rotate_left
 ·intro w'
  go_simp
  with_reducible rfl
 rotate_left
 ·simp only [Act.put,List.setIfInBounds_toArray,List.set_cons_zero,List.set_cons_succ,i64_w,i32_w,HW_q.out,HX_q.out,hsum]
  rfl
 refine pure_ (i := 15) (N := some 141) (v := ?_) (a' := ?_) (ba_ 22 43178) rfl rfl (any_of HT_.out (by kernel_rfl)) (fun _ _ _ h => h) (Or.inl ⟨by rfl,?_⟩) ?_ ?_
 rotate_left
 ·intro w'
  go_simp
  with_reducible rfl
 rotate_left
 ·simp only [Act.put,List.setIfInBounds_toArray,List.set_cons_zero,List.set_cons_succ,i64_w,i32_w,HW_q.out,HX_q.out,hsum]
  rfl
 refine take_ (i := 0) (N := some 126) (v := ?_) (a' := ?_) (ba_ 22 43179) rfl rfl (take_ofW HT_.out HW_.out (by kernel_rfl)) (fun _ _ _ h => h) (Or.inl ⟨by rfl,?_⟩) hHeld ?_ ?_
 rotate_left
 ·rintro w' ⟨⟨c0,c1,c2,c3,c4,c5,c6,-,-,-,-,-,-,-,-⟩,-⟩
  go_simp
  with_reducible rfl
 rotate_left
 ·simp only [Act.put,List.setIfInBounds_toArray,List.set_cons_zero,List.set_cons_succ,i64_w,i32_w,HW_q.out,HX_q.out,hsum]
  rfl
 refine take_ (i := 2) (N := some 128) (v := ?_) (a' := ?_) (ba_ 22 43183) rfl rfl (take_ofW HT_.out HW_.out (by kernel_rfl)) (fun _ _ _ h => h) (Or.inl ⟨by rfl,?_⟩) hHeld ?_ ?_
 rotate_left
 ·rintro w' ⟨⟨-,-,-,-,-,-,-,d0,-,-,-,-,-,-,-⟩,-⟩
  go_simp
  with_reducible rfl
 rotate_left
 ·simp only [Act.put,List.setIfInBounds_toArray,List.set_cons_zero,List.set_cons_succ,i64_w,i32_w,HW_q.out,HX_q.out,hsum]
  rfl
 refine take_ (i := 4) (N := some 130) (v := ?_) (a' := ?_) (ba_ 22 43199) rfl rfl (take_ofW HT_.out HW_.out (by kernel_rfl)) (fun _ _ _ h => h) (Or.inl ⟨by rfl,?_⟩) hHeld ?_ ?_
 rotate_left
 ·rintro w' ⟨⟨-,-,-,-,-,-,-,-,d1,-,-,-,-,-,-⟩,-⟩
  go_simp
  with_reducible rfl
 rotate_left
 ·simp only [Act.put,List.setIfInBounds_toArray,List.set_cons_zero,List.set_cons_succ,i64_w,i32_w,HW_q.out,HX_q.out,hsum]
  rfl
 refine take_ (i := 6) (N := some 132) (v := ?_) (a' := ?_) (ba_ 22 43263) rfl rfl (take_ofW HT_.out HW_.out (by kernel_rfl)) (fun _ _ _ h => h) (Or.inl ⟨by rfl,?_⟩) hHeld ?_ ?_
 rotate_left
 ·rintro w' ⟨⟨-,-,-,-,-,-,-,-,-,d2,-,-,-,-,-⟩,-⟩
  go_simp
  with_reducible rfl
 rotate_left
 ·simp only [Act.put,List.setIfInBounds_toArray,List.set_cons_zero,List.set_cons_succ,i64_w,i32_w,HW_q.out,HX_q.out,hsum]
  rfl
 refine take_ (i := 8) (N := some 134) (v := ?_) (a' := ?_) (ba_ 22 43519) rfl rfl (take_ofW HT_.out HW_.out (by kernel_rfl)) (fun _ _ _ h => h) (Or.inl ⟨by rfl,?_⟩) hHeld ?_ ?_
 rotate_left
 ·rintro w' ⟨⟨-,-,-,-,-,-,-,-,-,-,d3,-,-,-,-⟩,-⟩
  go_simp
  with_reducible rfl
 rotate_left
 ·simp only [Act.put,List.setIfInBounds_toArray,List.set_cons_zero,List.set_cons_succ,i64_w,i32_w,HW_q.out,HX_q.out,hsum]
  rfl
 refine pure_ (i := 9) (N := some 135) (v := ?_) (a' := ?_) (ba_ 22 44031) rfl rfl (any_of HT_.out (by kernel_rfl)) (fun _ _ _ h => h) (Or.inl ⟨by rfl,?_⟩) ?_ ?_
 rotate_left
 ·intro w'
  go_simp
  with_reducible rfl
 rotate_left
 ·simp only [Act.put,List.setIfInBounds_toArray,List.set_cons_zero,List.set_cons_succ,i64_w,i32_w,HW_q.out,HX_q.out,hsum]
  rfl
 refine pure_ (i := 10) (N := some 136) (v := ?_) (a' := ?_) (ba_ 22 45055) rfl rfl (any_of HT_.out (by kernel_rfl)) (fun _ _ _ h => h) (Or.inl ⟨by rfl,?_⟩) ?_ ?_
 rotate_left
 ·intro w'
  go_simp
  with_reducible rfl
 rotate_left
 ·simp only [Act.put,List.setIfInBounds_toArray,List.set_cons_zero,List.set_cons_succ,i64_w,i32_w,HW_q.out,HX_q.out,hsum]
  rfl
 refine take_ (i := 14) (N := some 140) (v := ?_) (a' := ?_) (ba_ 22 61439) rfl rfl (take_ofW HT_.out HW_.out (by kernel_rfl)) (fun _ _ _ h => h) (Or.inl ⟨by rfl,?_⟩) hHeld ?_ ?_
 rotate_left
 ·rintro w' ⟨⟨-,-,-,-,-,c5,-,-,-,-,-,-,-,-,-⟩,-⟩
  go_simp
  with_reducible rfl
 rotate_left
 ·simp only [Act.put,List.setIfInBounds_toArray,List.set_cons_zero,List.set_cons_succ,i64_w,i32_w,HW_q.out,HX_q.out,hsum]
  rfl
 refine take_ (i := 16) (N := some 142) (v := ?_) (a' := ?_) (ba_ 22 126975) rfl rfl (take_ofW HT_.out HW_.out (by kernel_rfl)) (fun _ _ _ h => h) (Or.inl ⟨by rfl,?_⟩) hHeld ?_ ?_
 rotate_left
 ·rintro w' ⟨⟨-,-,-,-,-,-,-,-,-,-,d3,-,-,-,-⟩,-⟩
  go_simp
  with_reducible rfl
 rotate_left
 ·simp only [Act.put,List.setIfInBounds_toArray,List.set_cons_zero,List.set_cons_succ,i64_w,i32_w,HW_q.out,HX_q.out,hsum]
  rfl
 refine pure_ (i := 17) (N := some 143) (v := ?_) (a' := ?_) (ba_ 22 258047) rfl rfl (any_of HT_.out (by kernel_rfl)) (fun _ _ _ h => h) (Or.inl ⟨by rfl,?_⟩) ?_ ?_
 rotate_left
 ·intro w'
  go_simp
  with_reducible rfl
 rotate_left
 ·simp only [Act.put,List.setIfInBounds_toArray,List.set_cons_zero,List.set_cons_succ,i64_w,i32_w,HW_q.out,HX_q.out,hsum]
  rfl
 refine pure_ (i := 18) (N := some 144) (v := ?_) (a' := ?_) (ba_ 22 520191) rfl rfl (any_of HT_.out (by kernel_rfl)) (fun _ _ _ h => h) (Or.inl ⟨by rfl,?_⟩) ?_ ?_
 rotate_left
 ·intro w'
  go_simp
  with_reducible rfl
 rotate_left
 ·simp only [Act.put,List.setIfInBounds_toArray,List.set_cons_zero,List.set_cons_succ,i64_w,i32_w,HW_q.out,HX_q.out,hsum]
  rfl
 refine take_ (i := 19) (N := some 145) (v := ?_) (a' := ?_) (ba_ 22 1044479) rfl rfl (take_ofW HT_.out HW_.out (by kernel_rfl)) (fun _ _ _ h => h) (Or.inl ⟨by rfl,?_⟩) hHeld ?_ ?_
 rotate_left
 ·rintro w' ⟨⟨-,-,-,-,-,-,-,-,-,-,-,-,-,-,-⟩,s0⟩
  go_simp
  with_reducible rfl
 rotate_left
 ·simp only [Act.put,List.setIfInBounds_toArray,List.set_cons_zero,List.set_cons_succ,i64_w,i32_w,HW_q.out,HX_q.out,hsum]
  rfl
 refine one_ (i := 12) (N := some 138) (ba_ 22 1048575) rfl rfl (one_of HT_.out (by kernel_rfl)) (by decide) (fun K hK => ?_)
 refine goes_ Try.func118 (by kernel_rfl) rfl #[.agg #[v0,v1,v2,v3,v4,(.slice (some ad5) B cp5),v6],.agg #[.int .i64 ((i : Nat) : Int),.int .i64 ((i : Nat) : Int),.int .i64 ((k : Nat) : Int),.int .i64 ((q : Nat) : Int)],.map (some b)] (by rfl) rfl rfl (by simp only [List.map_toArray,List.map_cons,List.map_nil];rfl) ?_
 refine (FS.goes IH.out hHeld.1 (i' := i) (j' := i) (k' := k) (m' := q) (by omega) (by omega) (by omega) (by omega) (by omega)).mono ?_
 rintro e w' ⟨rfl,hfs,hol⟩
 refine ⟨_,rfl,?_⟩
 obtain ⟨_,e0⟩ := hHeld
 refine hK.out _ _ ⟨hfs,hol.cell (by rw [add_block];exact NB5.out) e0⟩ (fun hHeld => ?_)
 clear hK K
 refine norm_ (a' := ?_) ?_ ?_
 rotate_left
 ·show Act.put _ (some 138) _ = _
  simp only [Act.put,List.setIfInBounds_toArray,List.set_cons_zero,List.set_cons_succ,i64_w,i32_w,HW_q.out,HX_q.out,hsum]
  rfl
 refine pure_ (i := 20) (N := some 146) (v := ?_) (a' := ?_) (ba_ 22 2097151) rfl rfl (any_of HT_.out (by kernel_rfl)) (fun _ _ _ h => h) (Or.inl ⟨by rfl,?_⟩) ?_ ?_
 rotate_left
 ·intro w'
  go_simp
  with_reducible rfl
 rotate_left
 ·simp only [Act.put,List.setIfInBounds_toArray,List.set_cons_zero,List.set_cons_succ,i64_w,i32_w,HW_q.out,HX_q.out,hsum]
  rfl
 refine pure_ (i := 21) (N := some 9) (v := ?_) (a' := ?_) (ba_ 22 4194303) rfl rfl (any_of HT_.out (by kernel_rfl)) (fun _ _ _ h => h) (Or.inl ⟨by rfl,?_⟩) ?_ ?_
 rotate_left
 ·intro w'
  go_simp
  with_reducible rfl
 rotate_left
 ·simp only [Act.put,List.setIfInBounds_toArray,List.set_cons_zero,List.set_cons_succ,i64_w,i32_w,HW_q.out,HX_q.out,hsum]
  rfl
 refine done_ (done_of HT_.out (by kernel_rfl)) ?_
 obtain ⟨hfs,_⟩ := hHeld
 obtain ⟨ks1,DD1,hown1,hroom1,hst⟩ := hfs.store HSZ.out HBX.out HIN.out
 have d0 := hfs.d0
 have d1 := hfs.d1
 have d2 := hfs.d2
 have d3 := hfs.d3
 have HST9 := Aside0.mk hst
 have HO9 := Aside0.mk hown1
 have HR9 := Aside0.mk hroom1
 clear hst hown1 hroom1
 go_wp2_with (first | (at_mapUpdate;refine wpList_mapUpdate_own _ rfl _ _ _ 95 rfl 100 3 keyed75 Try.underlying95 elem3 b _ _ rfl HO9.out HR9.out _ _ (klit (i,i,k,q + 1)) rfl rfl HX.out (.lit (.int .i64 (valOf M (i,i,k,q + 1)))) [] HV.out ?_;intro w9 hown9 hgrow9))
 go_ret
 exact ⟨rfl,HST9.out _ hown9 hgrow9⟩
set_option maxHeartbeats 8000000 in
set_option maxRecDepth 100000 in
theorem forest_c {M : Ted.Ms} {A B N : Nat} (hs : Small M) (hA : A ≤ 24) (hB : B ≤ 24) (IH : ∀ N',N' < N → ForestAt M A B N') {i k p : Nat} (hN : p + 1 - i = N) (hk : k ≤ B) (hi : i ≤ p) (hp : p + 1 ≤ A) (W : World) (b : Nat) {v0 v1 v2 v3 v4 v5 v6 : Value} (ks : List K4) (mea : Mea M A B W b #[v0,v1,v2,v3,v4,v5,v6]) (hm : Memo M W b ks) (hx : InBox (i,p + 1,k,k)) (hin : (i,p + 1,k,k) ∉ ks) :
  Calls Try.prog 118 #[.agg #[v0,v1,v2,v3,v4,v5,v6],kval (i,p + 1,k,k),.map (some b)] W fun e w' => e = .returned (.int .i64 (Ted.D M (i) (p + 1) (k) (k))) ∧ Only b W w' ∧ ∃ ks',Memo M w' b ks' ∧ ∀ y ∈ ks',y ∈ ks ∨ sz y ≤ N := by
 obtain ⟨DD,hown,hhas,hat⟩ := hm.own
 have hh : Maps.has DD (klit (i,p + 1,k,k)) = false := by rw [hhas _ hx];exact decide_eq_false hin
 have HSZ := Aside0.mk (show ((p + 1) - (i)) + ((k) - (k)) = N by omega)
 obtain ⟨u0,u1,u2,u3,u4,u5,u6,e,m2,m3,m4,m5,m6⟩ := mea.is
 simp only [Array.mk.injEq,List.cons.injEq,and_true] at e
 obtain ⟨rfl,rfl,rfl,rfl,rfl,rfl,rfl⟩ := e
 obtain ⟨ad4,cp4,rfl,hcp4,nb4,r4⟩ := m4.is
 have x4 := Aside0.mk (r4 p (by omega))
 have NB4 := Aside0.mk nb4
 clear m4 r4 nb4
 have p4 : (0 ≤ (p : Int)) = True := eq_true (by omega)
 have q4 : ((p : Int) < (A : Int)) = True := eq_true (by omega)
 have HV := Aside0.mk (show elem3 (.int .i64 (Ted.D M (i) (p + 1) (k) (k))) = some (.lit (.int .i64 (valOf M (i,p + 1,k,k))),[]) from plainElem_int Try.underlying3 (vw hs (i) (p + 1) (k) (k) (by omega) (by omega)))
 have HW_p := Aside0.mk (num_sub (p := p) (by omega))
 have HX_p := Aside0.mk (num_id (p := p) (by omega))
 have hsum : wrap64 (Ted.D M i p k k + M.del p) = Ted.D M i (p + 1) k k := by
  have h1 := D_small hs i p k k
  have h2 := hs.del p
  rw [Ted.D_a M (show i < p + 1 by omega) (Nat.lt_irrefl k)]
  exact wid (by omega) (by omega)
 have hne : ((i : Int) == ((p + 1 : Nat) : Int)) = false := beq_eq_false_iff_ne.2 (by omega)
 have HM := Aside0.mk hm
 have HO := Aside0.mk hown
 have HX := Aside0.mk (keyOf_k hx)
 have HIN := Aside0.mk hin
 have HBX := Aside0.mk hx
 have HST := Aside0.mk (FS.start (i := i) (j := p + 1) (k := k) (m := k) (N := N) mea hm)
 have IH := Aside0.mk IH
 clear hown hhas hat hin hx mea
 unfold kval kcells
 go_enter Try.func118,Try.ntmps118
 go_wp2_with (first | (at_lookup;refine wpList_lookup_own_ok_int _ rfl _ _ 95 rfl 100 3 .i64 keyed75 Try.underlying95 Try.underlying3 (zero3 _) b ks.length DD rfl ((HO.out.alloc _).alloc _) _ (klit (i,p + 1,k,k)) rfl HX.out ?_;intro c hc hwc))
 refine start_ (n := 22) (S := fun w' => FS M A B W b v0 v1 v2 v3 (.slice (some ad4) A cp4) v5 v6 (i) (p + 1) (k) (k) ks W.heap.size N w' ∧ w'.cell? (ad4.add p) = some (.int .i64 (M.del p))) (ds := []) (ba_ 22 0) (by kernel_rfl) rfl rfl ⟨HST.out.drew,((((Only.refl b W).alloc _).alloc _).drew).cell (by rw [add_block];exact NB4.out) x4.out⟩ (fun hHeld => ?_)
 refine with_tabW forestR.tab12 forestR.bits12 (fun HT_ HW_ => ?_)
 refine pure_ (i := 1) (N := some 154) (v := ?_) (a' := ?_) (ba_ 22 2) rfl rfl (any_of HT_.out (by kernel_rfl)) (fun _ _ _ h => h) (Or.inl ⟨by rfl,?_⟩) ?_ ?_
 rotate_left
 ·intro w'
  go_simp
  with_reducible rfl
 rotate_left
 ·simp only [Act.put,List.setIfInBounds_toArray,List.set_cons_zero,List.set_cons_succ,i64_w,i32_w,HW_p.out,HX_p.out,hsum]
  rfl
 refine pure_ (i := 3) (N := some 156) (v := ?_) (a' := ?_) (ba_ 22 10) rfl rfl (any_of HT_.out (by kernel_rfl)) (fun _ _ _ h => h) (Or.inl ⟨by rfl,?_⟩) ?_ ?_
 rotate_left
 ·intro w'
  go_simp
  with_reducible rfl
 rotate_left
 ·simp only [Act.put,List.setIfInBounds_toArray,List.set_cons_zero,List.set_cons_succ,i64_w,i32_w,HW_p.out,HX_p.out,hsum]
  rfl
 refine pure_ (i := 6) (N := some 159) (v := ?_) (a' := ?_) (ba_ 22 74) rfl rfl (any_of HT_.out (by kernel_rfl)) (fun _ _ _ h => h) (Or.inl ⟨by rfl,?_⟩) ?_ ?_
 rotate_left
 ·intro w'
  go_simp
  with_reducible rfl
 rotate_left
 ·simp only [Act.put,List.setIfInBounds_toArray,List.set_cons_zero,List.set_cons_succ,i64_w,i32_w,HW_p.out,HX_p.out,hsum]
  rfl
 refine pure_ (i := 8) (N := some 161) (v := ?_) (a' := ?_) (ba_ 22 330) rfl rfl (any_of HT_.out (by kernel_rfl)) (fun _ _ _ h => h) (Or.inl ⟨by rfl,?_⟩) ?_ ?_
 rotate_left
 ·intro w'
  go_simp
  with_reducible rfl
 rotate_left
 ·simp only [Act.put,List.setIfInBounds_toArray,List.set_cons_zero,List.set_cons_succ,i64_w,i32_w,HW_p.out,HX_p.out,hsum]
  rfl
 refine pure_ (i := 11) (N := some 164) (v := ?_) (a' := ?_) (ba_ 22 2378) rfl rfl (any_of HT_.out (by kernel_rfl)) (fun _ _ _ h => h) (Or.inl ⟨by rfl,?_⟩) ?_ ?_
 rotate_left
 ·intro w'
  go_simp
  with_reducible rfl
 rotate_left
 ·simp only [Act.put,List.setIfInBounds_toArray,List.set_cons_zero,List.set_cons_succ,i64_w,i32_w,HW_p.out,HX_p.out,hsum]
  rfl
 refine pure_ (i := 13) (N := some 166) (v := ?_) (a' := ?_) (ba_ 22 10570) rfl rfl (any_of HT_.out (by kernel_rfl)) (fun _ _ _ h => h) (Or.inl ⟨by rfl,?_⟩) ?_ ?_
 rotate_left
 ·intro w'
  go_simp
  with_reducible rfl
 rotate_left
 ·simp only [Act.put,List.setIfInBounds_toArray,List.set_cons_zero,List.set_cons_succ,i64_w,i32_w,HW_p.out,HX_p.out,hsum]
  rfl
 refine pure_ (i := 15) (N := some 168) (v := ?_) (a' := ?_) (ba_ 22 43338) rfl rfl (any_of HT_.out (by kernel_rfl)) (fun _ _ _ h => h) (Or.inl ⟨by rfl,?_⟩) ?_ ?_
 rotate_left
 ·intro w'
  go_simp
  with_reducible rfl
 rotate_left
 ·simp only [Act.put,List.setIfInBounds_toArray,List.set_cons_zero,List.set_cons_succ,i64_w,i32_w,HW_p.out,HX_p.out,hsum]
  rfl
 refine take_ (i := 0) (N := some 153) (v := ?_) (a' := ?_) (ba_ 22 43339) rfl rfl (take_ofW HT_.out HW_.out (by kernel_rfl)) (fun _ _ _ h => h) (Or.inl ⟨by rfl,?_⟩) hHeld ?_ ?_
 rotate_left
 ·rintro w' ⟨⟨c0,c1,c2,c3,c4,c5,c6,-,-,-,-,-,-,-,-⟩,-⟩
  go_simp
  with_reducible rfl
 rotate_left
 ·simp only [Act.put,List.setIfInBounds_toArray,List.set_cons_zero,List.set_cons_succ,i64_w,i32_w,HW_p.out,HX_p.out,hsum]
  rfl
 refine take_ (i := 2) (N := some 155) (v := ?_) (a' := ?_) (ba_ 22 43343) rfl rfl (take_ofW HT_.out HW_.out (by kernel_rfl)) (fun _ _ _ h => h) (Or.inl ⟨by rfl,?_⟩) hHeld ?_ ?_
 rotate_left
 ·rintro w' ⟨⟨-,-,-,-,-,-,-,d0,-,-,-,-,-,-,-⟩,-⟩
  go_simp
  with_reducible rfl
 rotate_left
 ·simp only [Act.put,List.setIfInBounds_toArray,List.set_cons_zero,List.set_cons_succ,i64_w,i32_w,HW_p.out,HX_p.out,hsum]
  rfl
 refine take_ (i := 4) (N := some 157) (v := ?_) (a' := ?_) (ba_ 22 43359) rfl rfl (take_ofW HT_.out HW_.out (by kernel_rfl)) (fun _ _ _ h => h) (Or.inl ⟨by rfl,?_⟩) hHeld ?_ ?_
 rotate_left
 ·rintro w' ⟨⟨-,-,-,-,-,-,-,-,d1,-,-,-,-,-,-⟩,-⟩
  go_simp
  with_reducible rfl
 rotate_left
 ·simp only [Act.put,List.setIfInBounds_toArray,List.set_cons_zero,List.set_cons_succ,i64_w,i32_w,HW_p.out,HX_p.out,hsum]
  rfl
 refine pure_ (i := 5) (N := some 158) (v := ?_) (a' := ?_) (ba_ 22 43391) rfl rfl (any_of HT_.out (by kernel_rfl)) (fun _ _ _ h => h) (Or.inl ⟨by rfl,?_⟩) ?_ ?_
 rotate_left
 ·intro w'
  go_simp
  with_reducible rfl
 rotate_left
 ·simp only [Act.put,List.setIfInBounds_toArray,List.set_cons_zero,List.set_cons_succ,i64_w,i32_w,HW_p.out,HX_p.out,hsum]
  rfl
 refine take_ (i := 7) (N := some 160) (v := ?_) (a' := ?_) (ba_ 22 43519) rfl rfl (take_ofW HT_.out HW_.out (by kernel_rfl)) (fun _ _ _ h => h) (Or.inl ⟨by rfl,?_⟩) hHeld ?_ ?_
 rotate_left
 ·rintro w' ⟨⟨-,-,-,-,-,-,-,-,-,d2,-,-,-,-,-⟩,-⟩
  go_simp
  with_reducible rfl
 rotate_left
 ·simp only [Act.put,List.setIfInBounds_toArray,List.set_cons_zero,List.set_cons_succ,i64_w,i32_w,HW_p.out,HX_p.out,hsum]
  rfl
 refine take_ (i := 9) (N := some 162) (v := ?_) (a' := ?_) (ba_ 22 44031) rfl rfl (take_ofW HT_.out HW_.out (by kernel_rfl)) (fun _ _ _ h => h) (Or.inl ⟨by rfl,?_⟩) hHeld ?_ ?_
 rotate_left
 ·rintro w' ⟨⟨-,-,-,-,-,-,-,-,-,-,d3,-,-,-,-⟩,-⟩
  go_simp
  with_reducible rfl
 rotate_left
 ·simp only [Act.put,List.setIfInBounds_toArray,List.set_cons_zero,List.set_cons_succ,i64_w,i32_w,HW_p.out,HX_p.out,hsum]
  rfl
 refine pure_ (i := 10) (N := some 163) (v := ?_) (a' := ?_) (ba_ 22 45055) rfl rfl (any_of HT_.out (by kernel_rfl)) (fun _ _ _ h => h) (Or.inl ⟨by rfl,?_⟩) ?_ ?_
 rotate_left
 ·intro w'
  go_simp
  with_reducible rfl
 rotate_left
 ·simp only [Act.put,List.setIfInBounds_toArray,List.set_cons_zero,List.set_cons_succ,i64_w,i32_w,HW_p.out,HX_p.out,hsum]
  rfl
 refine take_ (i := 14) (N := some 167) (v := ?_) (a' := ?_) (ba_ 22 61439) rfl rfl (take_ofW HT_.out HW_.out (by kernel_rfl)) (fun _ _ _ h => h) (Or.inl ⟨by rfl,?_⟩) hHeld ?_ ?_
 rotate_left
 ·rintro w' ⟨⟨-,-,-,-,c4,-,-,-,-,-,-,-,-,-,-⟩,-⟩
  go_simp
  with_reducible rfl
 rotate_left
 ·simp only [Act.put,List.setIfInBounds_toArray,List.set_cons_zero,List.set_cons_succ,i64_w,i32_w,HW_p.out,HX_p.out,hsum]
  rfl
 refine take_ (i := 16) (N := some 169) (v := ?_) (a' := ?_) (ba_ 22 126975) rfl rfl (take_ofW HT_.out HW_.out (by kernel_rfl)) (fun _ _ _ h => h) (Or.inl ⟨by rfl,?_⟩) hHeld ?_ ?_
 rotate_left
 ·rintro w' ⟨⟨-,-,-,-,-,-,-,-,d1,-,-,-,-,-,-⟩,-⟩
  go_simp
  with_reducible rfl
 rotate_left
 ·simp only [Act.put,List.setIfInBounds_toArray,List.set_cons_zero,List.set_cons_succ,i64_w,i32_w,HW_p.out,HX_p.out,hsum]
  rfl
 refine pure_ (i := 17) (N := some 170) (v := ?_) (a' := ?_) (ba_ 22 258047) rfl rfl (any_of HT_.out (by kernel_rfl)) (fun _ _ _ h => h) (Or.inl ⟨by rfl,?_⟩) ?_ ?_
 rotate_left
 ·intro w'
  go_simp
  with_reducible rfl
 rotate_left
 ·simp only [Act.put,List.setIfInBounds_toArray,List.set_cons_zero,List.set_cons_succ,i64_w,i32_w,HW_p.out,HX_p.out,hsum]
  rfl
 refine pure_ (i := 18) (N := some 171) (v := ?_) (a' := ?_) (ba_ 22 520191) rfl rfl (any_of HT_.out (by kernel_rfl)) (fun _ _ _ h => h) (Or.inl ⟨by rfl,?_⟩) ?_ ?_
 rotate_left
 ·intro w'
  go_simp
  with_reducible rfl
 rotate_left
 ·simp only [Act.put,List.setIfInBounds_toArray,List.set_cons_zero,List.set_cons_succ,i64_w,i32_w,HW_p.out,HX_p.out,hsum]
  rfl
 refine take_ (i := 19) (N := some 172) (v := ?_) (a' := ?_) (ba_ 22 1044479) rfl rfl (take_ofW HT_.out HW_.out (by kernel_rfl)) (fun _ _ _ h => h) (Or.inl ⟨by rfl,?_⟩) hHeld ?_ ?_
 rotate_left
 ·rintro w' ⟨⟨-,-,-,-,-,-,-,-,-,-,-,-,-,-,-⟩,s0⟩
  go_simp
  with_reducible rfl
 rotate_left
 ·simp only [Act.put,List.setIfInBounds_toArray,List.set_cons_zero,List.set_cons_succ,i64_w,i32_w,HW_p.out,HX_p.out,hsum]
  rfl
 refine one_ (i := 12) (N := some 165) (ba_ 22 1048575) rfl rfl (one_of HT_.out (by kernel_rfl)) (by decide) (fun K hK => ?_)
 refine goes_ Try.func118 (by kernel_rfl) rfl #[.agg #[v0,v1,v2,v3,(.slice (some ad4) A cp4),v5,v6],.agg #[.int .i64 ((i : Nat) : Int),.int .i64 ((p : Nat) : Int),.int .i64 ((k : Nat) : Int),.int .i64 ((k : Nat) : Int)],.map (some b)] (by rfl) rfl rfl (by simp only [List.map_toArray,List.map_cons,List.map_nil];rfl) ?_
 refine (FS.goes IH.out hHeld.1 (i' := i) (j' := p) (k' := k) (m' := k) (by omega) (by omega) (by omega) (by omega) (by omega)).mono ?_
 rintro e w' ⟨rfl,hfs,hol⟩
 refine ⟨_,rfl,?_⟩
 obtain ⟨_,e0⟩ := hHeld
 refine hK.out _ _ ⟨hfs,hol.cell (by rw [add_block];exact NB4.out) e0⟩ (fun hHeld => ?_)
 clear hK K
 refine norm_ (a' := ?_) ?_ ?_
 rotate_left
 ·show Act.put _ (some 165) _ = _
  simp only [Act.put,List.setIfInBounds_toArray,List.set_cons_zero,List.set_cons_succ,i64_w,i32_w,HW_p.out,HX_p.out,hsum]
  rfl
 refine pure_ (i := 20) (N := some 173) (v := ?_) (a' := ?_) (ba_ 22 2097151) rfl rfl (any_of HT_.out (by kernel_rfl)) (fun _ _ _ h => h) (Or.inl ⟨by rfl,?_⟩) ?_ ?_
 rotate_left
 ·intro w'
  go_simp
  with_reducible rfl
 rotate_left
 ·simp only [Act.put,List.setIfInBounds_toArray,List.set_cons_zero,List.set_cons_succ,i64_w,i32_w,HW_p.out,HX_p.out,hsum]
  rfl
 refine pure_ (i := 21) (N := some 9) (v := ?_) (a' := ?_) (ba_ 22 4194303) rfl rfl (any_of HT_.out (by kernel_rfl)) (fun _ _ _ h => h) (Or.inl ⟨by rfl,?_⟩) ?_ ?_
 rotate_left
 ·intro w'
  go_simp
  with_reducible rfl
 rotate_left
 ·simp only [Act.put,List.setIfInBounds_toArray,List.set_cons_zero,List.set_cons_succ,i64_w,i32_w,HW_p.out,HX_p.out,hsum]
  rfl
 refine done_ (done_of HT_.out (by kernel_rfl)) ?_
 obtain ⟨hfs,_⟩ := hHeld
 obtain ⟨ks1,DD1,hown1,hroom1,hst⟩ := hfs.store HSZ.out HBX.out HIN.out
 have d0 := hfs.d0
 have d1 := hfs.d1
 have d2 := hfs.d2
 have d3 := hfs.d3
 have HST9 := Aside0.mk hst
 have HO9 := Aside0.mk hown1
 have HR9 := Aside0.mk hroom1
 clear hst hown1 hroom1
 go_wp2_with (first | (at_mapUpdate;refine wpList_mapUpdate_own _ rfl _ _ _ 95 rfl 100 3 keyed75 Try.underlying95 elem3 b _ _ rfl HO9.out HR9.out _ _ (klit (i,p + 1,k,k)) rfl rfl HX.out (.lit (.int .i64 (valOf M (i,p + 1,k,k)))) [] HV.out ?_;intro w9 hown9 hgrow9))
 go_ret
 exact ⟨rfl,HST9.out _ hown9 hgrow9⟩
set_option maxHeartbeats 8000000 in
set_option maxRecDepth 100000 in
theorem forest_ab {M : Ted.Ms} {A B N : Nat} (hs : Small M) (hA : A ≤ 24) (hB : B ≤ 24) (IH : ∀ N',N' < N → ForestAt M A B N') {i k p q : Nat} (hN : (p + 1 - i) + (q + 1 - k) = N) (hi : i ≤ p) (hp : p + 1 ≤ A) (hk : k ≤ q) (hq : q + 1 ≤ B) (hla : M.la p ≤ p) (hlb : M.lb q ≤ q) (W : World) (b : Nat) {v0 v1 v2 v3 v4 v5 v6 : Value} (ks : List K4) (mea : Mea M A B W b #[v0,v1,v2,v3,v4,v5,v6]) (hm : Memo M W b ks) (hx : InBox (i,p + 1,k,q + 1)) (hin : (i,p + 1,k,q + 1) ∉ ks) :
  Calls Try.prog 118 #[.agg #[v0,v1,v2,v3,v4,v5,v6],kval (i,p + 1,k,q + 1),.map (some b)] W fun e w' => e = .returned (.int .i64 (Ted.D M (i) (p + 1) (k) (q + 1))) ∧ Only b W w' ∧ ∃ ks',Memo M w' b ks' ∧ ∀ y ∈ ks',y ∈ ks ∨ sz y ≤ N := by
 obtain ⟨DD,hown,hhas,hat⟩ := hm.own
 have hh : Maps.has DD (klit (i,p + 1,k,q + 1)) = false := by rw [hhas _ hx];exact decide_eq_false hin
 have HSZ := Aside0.mk (show ((p + 1) - (i)) + ((q + 1) - (k)) = N by omega)
 obtain ⟨u0,u1,u2,u3,u4,u5,u6,e,m2,m3,m4,m5,m6⟩ := mea.is
 simp only [Array.mk.injEq,List.cons.injEq,and_true] at e
 obtain ⟨rfl,rfl,rfl,rfl,rfl,rfl,rfl⟩ := e
 obtain ⟨ad2,cp2,rfl,hcp2,nb2,r2⟩ := m2.is
 have x2 : Aside0 (W.cell? (ad2.add p) = some (.int .i64 ((M.la p : Nat) : Int))) := ⟨r2 p (by omega)⟩
 have NB2 := Aside0.mk nb2
 clear m2 r2 nb2
 obtain ⟨ad3,cp3,rfl,hcp3,nb3,r3⟩ := m3.is
 have x3 : Aside0 (W.cell? (ad3.add q) = some (.int .i64 ((M.lb q : Nat) : Int))) := ⟨r3 q (by omega)⟩
 have NB3 := Aside0.mk nb3
 clear m3 r3 nb3
 obtain ⟨ad4,cp4,rfl,hcp4,nb4,r4⟩ := m4.is
 have x4 := Aside0.mk (r4 p (by omega))
 have NB4 := Aside0.mk nb4
 clear m4 r4 nb4
 obtain ⟨ad5,cp5,rfl,hcp5,nb5,r5⟩ := m5.is
 have x5 := Aside0.mk (r5 q (by omega))
 have NB5 := Aside0.mk nb5
 clear m5 r5 nb5
 obtain ⟨ad6,cp6,rfl,hcp6,nb6,r6⟩ := m6.is
 obtain ⟨u,x6,hu⟩ := r6 p (by omega)
 obtain ⟨ad7,cp7,rfl,hcp7,nb7,r7⟩ := hu.is
 have x7 := Aside0.mk (r7 q (by omega))
 have x6 := Aside0.mk x6
 have NB6 := Aside0.mk nb6
 have NB7 := Aside0.mk nb7
 clear m6 r6 nb6 r7 nb7 hu
 have HV := Aside0.mk (show elem3 (.int .i64 (Ted.D M (i) (p + 1) (k) (q + 1))) = some (.lit (.int .i64 (valOf M (i,p + 1,k,q + 1))),[]) from plainElem_int Try.underlying3 (vw hs (i) (p + 1) (k) (q + 1) (by omega) (by omega)))
 have HW_p := Aside0.mk (num_sub (p := p) (by omega))
 have HX_p := Aside0.mk (num_id (p := p) (by omega))
 have HW_q := Aside0.mk (num_sub (p := q) (by omega))
 have HX_q := Aside0.mk (num_id (p := q) (by omega))
 obtain ⟨x,y,z1,z2,z4,⟨hx1,hx2⟩,⟨hy1,hy2⟩,HMX,HMX2,HMY,HMY2,HS1,HS2,HS3,HS4,HMIN⟩ := ab_facts hs hi hk (by omega) (by omega) hla hlb
 have hne1 : ((i : Int) == ((p + 1 : Nat) : Int)) = false := beq_eq_false_iff_ne.2 (by omega)
 have hne2 : ((k : Int) == ((q + 1 : Nat) : Int)) = false := beq_eq_false_iff_ne.2 (by omega)
 have p4 : (0 ≤ (p : Int)) = True := eq_true (by omega)
 have q4 : ((p : Int) < (A : Int)) = True := eq_true (by omega)
 have p5 : (0 ≤ (q : Int)) = True := eq_true (by omega)
 have q5 : ((q : Int) < (B : Int)) = True := eq_true (by omega)
 have HM := Aside0.mk hm
 have HO := Aside0.mk hown
 have HX := Aside0.mk (keyOf_k hx)
 have HIN := Aside0.mk hin
 have HBX := Aside0.mk hx
 have HST := Aside0.mk (FS.start (i := i) (j := p + 1) (k := k) (m := q + 1) (N := N) mea hm)
 have IH := Aside0.mk IH
 clear hown hhas hat hin hx mea
 unfold kval kcells
 go_enter Try.func118,Try.ntmps118
 go_wp2_with (first | (at_lookup;refine wpList_lookup_own_ok_int _ rfl _ _ 95 rfl 100 3 .i64 keyed75 Try.underlying95 Try.underlying3 (zero3 _) b ks.length DD rfl ((HO.out.alloc _).alloc _) _ (klit (i,p + 1,k,q + 1)) rfl HX.out ?_;intro c hc hwc))
 refine start_ (n := 8) (S := fun w' => FS M A B W b v0 v1 (.slice (some ad2) A cp2) (.slice (some ad3) B cp3) (.slice (some ad4) A cp4) (.slice (some ad5) B cp5) (.slice (some ad6) A cp6) (i) (p + 1) (k) (q + 1) ks W.heap.size N w' ∧ w'.cell? (ad2.add p) = some (.int .i64 ((M.la p : Nat) : Int)) ∧ w'.cell? (ad3.add q) = some (.int .i64 ((M.lb q : Nat) : Int)) ∧ w'.cell? (ad4.add p) = some (.int .i64 (M.del p)) ∧ w'.cell? (ad5.add q) = some (.int .i64 (M.ins q)) ∧ w'.cell? (ad6.add p) = some (.slice (some ad7) B cp7) ∧ w'.cell? (ad7.add q) = some (.int .i64 (M.rel p q))) (ds := []) (ba_ 8 0) (by kernel_rfl) rfl rfl ⟨HST.out.drew,((((Only.refl b W).alloc _).alloc _).drew).cell (by rw [add_block];exact NB2.out) x2.out,((((Only.refl b W).alloc _).alloc _).drew).cell (by rw [add_block];exact NB3.out) x3.out,((((Only.refl b W).alloc _).alloc _).drew).cell (by rw [add_block];exact NB4.out) x4.out,((((Only.refl b W).alloc _).alloc _).drew).cell (by rw [add_block];exact NB5.out) x5.out,((((Only.refl b W).alloc _).alloc _).drew).cell (by rw [add_block];exact NB6.out) x6.out,((((Only.refl b W).alloc _).alloc _).drew).cell (by rw [add_block];exact NB7.out) x7.out⟩ (fun hHeld => ?_)
 refine with_tabW forestR.tab5 forestR.bits5 (fun HT_ HW_ => ?_)
 refine pure_ (i := 0) (N := some 22) (v := ?_) (a' := ?_) (ba_ 8 1) rfl rfl (any_of HT_.out (by kernel_rfl)) (fun _ _ _ h => h) (Or.inl ⟨by rfl,?_⟩) ?_ ?_
 rotate_left
 ·intro w'
  go_simp
  with_reducible rfl
 rotate_left
 ·simp only [Act.put,List.setIfInBounds_toArray,List.set_cons_zero,List.set_cons_succ,i64_w,i32_w,HW_p.out,HX_p.out,HW_q.out,HX_q.out]
  rfl
 refine pure_ (i := 3) (N := some 25) (v := ?_) (a' := ?_) (ba_ 8 9) rfl rfl (any_of HT_.out (by kernel_rfl)) (fun _ _ _ h => h) (Or.inl ⟨by rfl,?_⟩) ?_ ?_
 rotate_left
 ·intro w'
  go_simp
  with_reducible rfl
 rotate_left
 ·simp only [Act.put,List.setIfInBounds_toArray,List.set_cons_zero,List.set_cons_succ,i64_w,i32_w,HW_p.out,HX_p.out,HW_q.out,HX_q.out]
  rfl
 refine take_ (i := 1) (N := some 23) (v := ?_) (a' := ?_) (ba_ 8 11) rfl rfl (take_ofW HT_.out HW_.out (by kernel_rfl)) (fun _ _ _ h => h) (Or.inl ⟨by rfl,?_⟩) hHeld ?_ ?_
 rotate_left
 ·rintro w' ⟨⟨-,-,-,-,-,-,-,-,d1,-,-,-,-,-,-⟩,-,-,-,-,-,-⟩
  go_simp
  with_reducible rfl
 rotate_left
 ·simp only [Act.put,List.setIfInBounds_toArray,List.set_cons_zero,List.set_cons_succ,i64_w,i32_w,HW_p.out,HX_p.out,HW_q.out,HX_q.out]
  rfl
 refine pure_ (i := 2) (N := some 24) (v := ?_) (a' := ?_) (ba_ 8 15) rfl rfl (any_of HT_.out (by kernel_rfl)) (fun _ _ _ h => h) (Or.inl ⟨by rfl,?_⟩) ?_ ?_
 rotate_left
 ·intro w'
  go_simp
  with_reducible rfl
 rotate_left
 ·simp only [Act.put,List.setIfInBounds_toArray,List.set_cons_zero,List.set_cons_succ,i64_w,i32_w,HW_p.out,HX_p.out,HW_q.out,HX_q.out]
  rfl
 refine pure_ (i := 6) (N := some 10) (v := ?_) (a' := ?_) (ba_ 8 79) rfl rfl (any_of HT_.out (by kernel_rfl)) (fun _ _ _ h => h) (Or.inl ⟨by rfl,?_⟩) ?_ ?_
 rotate_left
 ·intro w'
  go_simp
  with_reducible rfl
 rotate_left
 ·simp only [Act.put,List.setIfInBounds_toArray,List.set_cons_zero,List.set_cons_succ,i64_w,i32_w,HW_p.out,HX_p.out,HW_q.out,HX_q.out]
  rfl
 refine take_ (i := 4) (N := some 26) (v := ?_) (a' := ?_) (ba_ 8 95) rfl rfl (take_ofW HT_.out HW_.out (by kernel_rfl)) (fun _ _ _ h => h) (Or.inl ⟨by rfl,?_⟩) hHeld ?_ ?_
 rotate_left
 ·rintro w' ⟨⟨-,-,-,-,-,-,-,-,-,-,d3,-,-,-,-⟩,-,-,-,-,-,-⟩
  go_simp
  with_reducible rfl
 rotate_left
 ·simp only [Act.put,List.setIfInBounds_toArray,List.set_cons_zero,List.set_cons_succ,i64_w,i32_w,HW_p.out,HX_p.out,HW_q.out,HX_q.out]
  rfl
 refine pure_ (i := 5) (N := some 27) (v := ?_) (a' := ?_) (ba_ 8 127) rfl rfl (any_of HT_.out (by kernel_rfl)) (fun _ _ _ h => h) (Or.inl ⟨by rfl,?_⟩) ?_ ?_
 rotate_left
 ·intro w'
  go_simp
  with_reducible rfl
 rotate_left
 ·simp only [Act.put,List.setIfInBounds_toArray,List.set_cons_zero,List.set_cons_succ,i64_w,i32_w,HW_p.out,HX_p.out,HW_q.out,HX_q.out]
  rfl
 refine pure_ (i := 7) (N := some 11) (v := ?_) (a' := ?_) (ba_ 8 255) rfl rfl (any_of HT_.out (by kernel_rfl)) (fun _ _ _ h => h) (Or.inl ⟨by rfl,?_⟩) ?_ ?_
 rotate_left
 ·intro w'
  go_simp
  with_reducible rfl
 rotate_left
 ·simp only [Act.put,List.setIfInBounds_toArray,List.set_cons_zero,List.set_cons_succ,i64_w,i32_w,HW_p.out,HX_p.out,HW_q.out,HX_q.out]
  rfl
 refine done_ (done_of HT_.out (by kernel_rfl)) ?_
 go_wp2
 refine start_ (n := 18) (S := fun w' => FS M A B W b v0 v1 (.slice (some ad2) A cp2) (.slice (some ad3) B cp3) (.slice (some ad4) A cp4) (.slice (some ad5) B cp5) (.slice (some ad6) A cp6) (i) (p + 1) (k) (q + 1) ks W.heap.size N w' ∧ w'.cell? (ad2.add p) = some (.int .i64 ((M.la p : Nat) : Int)) ∧ w'.cell? (ad3.add q) = some (.int .i64 ((M.lb q : Nat) : Int)) ∧ w'.cell? (ad4.add p) = some (.int .i64 (M.del p)) ∧ w'.cell? (ad5.add q) = some (.int .i64 (M.ins q)) ∧ w'.cell? (ad6.add p) = some (.slice (some ad7) B cp7) ∧ w'.cell? (ad7.add q) = some (.int .i64 (M.rel p q))) (ds := []) (ba_ 18 0) (by kernel_rfl) rfl rfl ⟨hHeld.1.drew,hHeld.2⟩ (fun hHeld => ?_)
 refine with_tabW forestR.tab6 forestR.bits6 (fun HT_ HW_ => ?_)
 refine pure_ (i := 0) (N := some 28) (v := ?_) (a' := ?_) (ba_ 18 1) rfl rfl (any_of HT_.out (by kernel_rfl)) (fun _ _ _ h => h) (Or.inl ⟨by rfl,?_⟩) ?_ ?_
 rotate_left
 ·intro w'
  go_simp
  with_reducible rfl
 rotate_left
 ·simp only [Act.put,List.setIfInBounds_toArray,List.set_cons_zero,List.set_cons_succ,i64_w,i32_w,HMX.out,HMY.out,HMX2.out,HMY2.out]
  rfl
 refine pure_ (i := 2) (N := some 30) (v := ?_) (a' := ?_) (ba_ 18 5) rfl rfl (any_of HT_.out (by kernel_rfl)) (fun _ _ _ h => h) (Or.inl ⟨by rfl,?_⟩) ?_ ?_
 rotate_left
 ·intro w'
  go_simp
  with_reducible rfl
 rotate_left
 ·simp only [Act.put,List.setIfInBounds_toArray,List.set_cons_zero,List.set_cons_succ,i64_w,i32_w,HMX.out,HMY.out,HMX2.out,HMY2.out]
  rfl
 refine pure_ (i := 4) (N := some 32) (v := ?_) (a' := ?_) (ba_ 18 21) rfl rfl (any_of HT_.out (by kernel_rfl)) (fun _ _ _ h => h) (Or.inl ⟨by rfl,?_⟩) ?_ ?_
 rotate_left
 ·intro w'
  go_simp
  with_reducible rfl
 rotate_left
 ·simp only [Act.put,List.setIfInBounds_toArray,List.set_cons_zero,List.set_cons_succ,i64_w,i32_w,HMX.out,HMY.out,HMX2.out,HMY2.out]
  rfl
 refine pure_ (i := 8) (N := some 36) (v := ?_) (a' := ?_) (ba_ 18 277) rfl rfl (any_of HT_.out (by kernel_rfl)) (fun _ _ _ h => h) (Or.inl ⟨by rfl,?_⟩) ?_ ?_
 rotate_left
 ·intro w'
  go_simp
  with_reducible rfl
 rotate_left
 ·simp only [Act.put,List.setIfInBounds_toArray,List.set_cons_zero,List.set_cons_succ,i64_w,i32_w,HMX.out,HMY.out,HMX2.out,HMY2.out]
  rfl
 refine pure_ (i := 10) (N := some 38) (v := ?_) (a' := ?_) (ba_ 18 1301) rfl rfl (any_of HT_.out (by kernel_rfl)) (fun _ _ _ h => h) (Or.inl ⟨by rfl,?_⟩) ?_ ?_
 rotate_left
 ·intro w'
  go_simp
  with_reducible rfl
 rotate_left
 ·simp only [Act.put,List.setIfInBounds_toArray,List.set_cons_zero,List.set_cons_succ,i64_w,i32_w,HMX.out,HMY.out,HMX2.out,HMY2.out]
  rfl
 refine pure_ (i := 12) (N := some 40) (v := ?_) (a' := ?_) (ba_ 18 5397) rfl rfl (any_of HT_.out (by kernel_rfl)) (fun _ _ _ h => h) (Or.inl ⟨by rfl,?_⟩) ?_ ?_
 rotate_left
 ·intro w'
  go_simp
  with_reducible rfl
 rotate_left
 ·simp only [Act.put,List.setIfInBounds_toArray,List.set_cons_zero,List.set_cons_succ,i64_w,i32_w,HMX.out,HMY.out,HMX2.out,HMY2.out]
  rfl
 refine take_ (i := 1) (N := some 29) (v := ?_) (a' := ?_) (ba_ 18 5399) rfl rfl (take_ofW HT_.out HW_.out (by kernel_rfl)) (fun _ _ _ h => h) (Or.inl ⟨by rfl,?_⟩) hHeld ?_ ?_
 rotate_left
 ·rintro w' ⟨⟨-,-,-,-,-,-,-,d0,-,-,-,-,-,-,-⟩,-,-,-,-,-,-⟩
  go_simp
  with_reducible rfl
 rotate_left
 ·simp only [Act.put,List.setIfInBounds_toArray,List.set_cons_zero,List.set_cons_succ,i64_w,i32_w,HMX.out,HMY.out,HMX2.out,HMY2.out]
  rfl
 refine take_ (i := 3) (N := some 31) (v := ?_) (a' := ?_) (ba_ 18 5407) rfl rfl (take_ofW HT_.out HW_.out (by kernel_rfl)) (fun _ _ _ h => h) (Or.inl ⟨by rfl,?_⟩) hHeld ?_ ?_
 rotate_left
 ·rintro w' ⟨⟨-,-,c2,-,-,-,-,-,-,-,-,-,-,-,-⟩,-,-,-,-,-,-⟩
  go_simp
  with_reducible rfl
 rotate_left
 ·simp only [Act.put,List.setIfInBounds_toArray,List.set_cons_zero,List.set_cons_succ,i64_w,i32_w,HMX.out,HMY.out,HMX2.out,HMY2.out]
  rfl
 refine pure_ (i := 5) (N := some 33) (v := ?_) (a' := ?_) (ba_ 18 5439) rfl rfl (any_of HT_.out (by kernel_rfl)) (fun _ _ _ h => h) (Or.inl ⟨by rfl,?_⟩) ?_ ?_
 rotate_left
 ·intro w'
  go_simp
  with_reducible rfl
 rotate_left
 ·simp only [Act.put,List.setIfInBounds_toArray,List.set_cons_zero,List.set_cons_succ,i64_w,i32_w,HMX.out,HMY.out,HMX2.out,HMY2.out]
  rfl
 refine take_ (i := 6) (N := some 34) (v := ?_) (a' := ?_) (ba_ 18 5503) rfl rfl (take_ofW HT_.out HW_.out (by kernel_rfl)) (fun _ _ _ h => h) (Or.inl ⟨by rfl,?_⟩) hHeld ?_ ?_
 rotate_left
 ·rintro w' ⟨⟨-,-,-,-,-,-,-,-,-,-,-,-,-,-,-⟩,s0,s1,s2,s3,s4,s5⟩
  go_simp
  with_reducible rfl
 rotate_left
 ·simp only [Act.put,List.setIfInBounds_toArray,List.set_cons_zero,List.set_cons_succ,i64_w,i32_w,HMX.out,HMY.out,HMX2.out,HMY2.out]
  rfl
 refine pure_ (i := 7) (N := some 35) (v := ?_) (a' := ?_) (ba_ 18 5631) rfl rfl (any_of HT_.out (by kernel_rfl)) (fun _ _ _ h => h) (Or.inl ⟨by rfl,?_⟩) ?_ ?_
 rotate_left
 ·intro w'
  go_simp
  with_reducible rfl
 rotate_left
 ·simp only [Act.put,List.setIfInBounds_toArray,List.set_cons_zero,List.set_cons_succ,i64_w,i32_w,HMX.out,HMY.out,HMX2.out,HMY2.out]
  rfl
 refine pure_ (i := 16) (N := some 12) (v := ?_) (a' := ?_) (ba_ 18 71167) rfl rfl (any_of HT_.out (by kernel_rfl)) (fun _ _ _ h => h) (Or.inl ⟨by rfl,?_⟩) ?_ ?_
 rotate_left
 ·intro w'
  go_simp
  with_reducible rfl
 rotate_left
 ·simp only [Act.put,List.setIfInBounds_toArray,List.set_cons_zero,List.set_cons_succ,i64_w,i32_w,HMX.out,HMY.out,HMX2.out,HMY2.out]
  rfl
 refine take_ (i := 9) (N := some 37) (v := ?_) (a' := ?_) (ba_ 18 71679) rfl rfl (take_ofW HT_.out HW_.out (by kernel_rfl)) (fun _ _ _ h => h) (Or.inl ⟨by rfl,?_⟩) hHeld ?_ ?_
 rotate_left
 ·rintro w' ⟨⟨-,-,-,-,-,-,-,-,-,d2,-,-,-,-,-⟩,-,-,-,-,-,-⟩
  go_simp
  with_reducible rfl
 rotate_left
 ·simp only [Act.put,List.setIfInBounds_toArray,List.set_cons_zero,List.set_cons_succ,i64_w,i32_w,HMX.out,HMY.out,HMX2.out,HMY2.out]
  rfl
 refine take_ (i := 11) (N := some 39) (v := ?_) (a' := ?_) (ba_ 18 73727) rfl rfl (take_ofW HT_.out HW_.out (by kernel_rfl)) (fun _ _ _ h => h) (Or.inl ⟨by rfl,?_⟩) hHeld ?_ ?_
 rotate_left
 ·rintro w' ⟨⟨-,-,-,c3,-,-,-,-,-,-,-,-,-,-,-⟩,-,-,-,-,-,-⟩
  go_simp
  with_reducible rfl
 rotate_left
 ·simp only [Act.put,List.setIfInBounds_toArray,List.set_cons_zero,List.set_cons_succ,i64_w,i32_w,HMX.out,HMY.out,HMX2.out,HMY2.out]
  rfl
 refine pure_ (i := 13) (N := some 41) (v := ?_) (a' := ?_) (ba_ 18 81919) rfl rfl (any_of HT_.out (by kernel_rfl)) (fun _ _ _ h => h) (Or.inl ⟨by rfl,?_⟩) ?_ ?_
 rotate_left
 ·intro w'
  go_simp
  with_reducible rfl
 rotate_left
 ·simp only [Act.put,List.setIfInBounds_toArray,List.set_cons_zero,List.set_cons_succ,i64_w,i32_w,HMX.out,HMY.out,HMX2.out,HMY2.out]
  rfl
 refine take_ (i := 14) (N := some 42) (v := ?_) (a' := ?_) (ba_ 18 98303) rfl rfl (take_ofW HT_.out HW_.out (by kernel_rfl)) (fun _ _ _ h => h) (Or.inl ⟨by rfl,?_⟩) hHeld ?_ ?_
 rotate_left
 ·rintro w' ⟨⟨-,-,-,-,-,-,-,-,-,-,-,-,-,-,-⟩,s0,s1,s2,s3,s4,s5⟩
  go_simp
  with_reducible rfl
 rotate_left
 ·simp only [Act.put,List.setIfInBounds_toArray,List.set_cons_zero,List.set_cons_succ,i64_w,i32_w,HMX.out,HMY.out,HMX2.out,HMY2.out]
  rfl
 refine pure_ (i := 15) (N := some 43) (v := ?_) (a' := ?_) (ba_ 18 131071) rfl rfl (any_of HT_.out (by kernel_rfl)) (fun _ _ _ h => h) (Or.inl ⟨by rfl,?_⟩) ?_ ?_
 rotate_left
 ·intro w'
  go_simp
  with_reducible rfl
 rotate_left
 ·simp only [Act.put,List.setIfInBounds_toArray,List.set_cons_zero,List.set_cons_succ,i64_w,i32_w,HMX.out,HMY.out,HMX2.out,HMY2.out]
  rfl
 refine pure_ (i := 17) (N := some 13) (v := ?_) (a' := ?_) (ba_ 18 262143) rfl rfl (any_of HT_.out (by kernel_rfl)) (fun _ _ _ h => h) (Or.inl ⟨by rfl,?_⟩) ?_ ?_
 rotate_left
 ·intro w'
  go_simp
  with_reducible rfl
 rotate_left
 ·simp only [Act.put,List.setIfInBounds_toArray,List.set_cons_zero,List.set_cons_succ,i64_w,i32_w,HMX.out,HMY.out,HMX2.out,HMY2.out]
  rfl
 refine done_ (done_of HT_.out (by kernel_rfl)) ?_
 go_wp2
 refine start_ (n := 64) (S := fun w' => FS M A B W b v0 v1 (.slice (some ad2) A cp2) (.slice (some ad3) B cp3) (.slice (some ad4) A cp4) (.slice (some ad5) B cp5) (.slice (some ad6) A cp6) (i) (p + 1) (k) (q + 1) ks W.heap.size N w' ∧ w'.cell? (ad2.add p) = some (.int .i64 ((M.la p : Nat) : Int)) ∧ w'.cell? (ad3.add q) = some (.int .i64 ((M.lb q : Nat) : Int)) ∧ w'.cell? (ad4.add p) = some (.int .i64 (M.del p)) ∧ w'.cell? (ad5.add q) = some (.int .i64 (M.ins q)) ∧ w'.cell? (ad6.add p) = some (.slice (some ad7) B cp7) ∧ w'.cell? (ad7.add q) = some (.int .i64 (M.rel p q))) (ds := []) (ba_ 64 0) (by kernel_rfl) rfl rfl ⟨hHeld.1.drew,hHeld.2⟩ (fun hHeld => ?_)
 refine with_tabW forestR.tab7 forestR.bits7 (fun HT_ HW_ => ?_)
 refine pure_ (i := 1) (N := some 45) (v := ?_) (a' := ?_) (ba_ 64 2) rfl rfl (any_of HT_.out (by kernel_rfl)) (fun _ _ _ h => h) (Or.inl ⟨by rfl,?_⟩) ?_ ?_
 rotate_left
 ·intro w'
  go_simp
  with_reducible rfl
 rotate_left
 ·simp only [Act.put,List.setIfInBounds_toArray,List.set_cons_zero,List.set_cons_succ,i64_w,i32_w,HS1.out,HS2.out,HS3.out,HS4.out,HMIN.out]
  rfl
 refine pure_ (i := 3) (N := some 47) (v := ?_) (a' := ?_) (ba_ 64 10) rfl rfl (any_of HT_.out (by kernel_rfl)) (fun _ _ _ h => h) (Or.inl ⟨by rfl,?_⟩) ?_ ?_
 rotate_left
 ·intro w'
  go_simp
  with_reducible rfl
 rotate_left
 ·simp only [Act.put,List.setIfInBounds_toArray,List.set_cons_zero,List.set_cons_succ,i64_w,i32_w,HS1.out,HS2.out,HS3.out,HS4.out,HMIN.out]
  rfl
 refine pure_ (i := 4) (N := some 48) (v := ?_) (a' := ?_) (ba_ 64 26) rfl rfl (any_of HT_.out (by kernel_rfl)) (fun _ _ _ h => h) (Or.inl ⟨by rfl,?_⟩) ?_ ?_
 rotate_left
 ·intro w'
  go_simp
  with_reducible rfl
 rotate_left
 ·simp only [Act.put,List.setIfInBounds_toArray,List.set_cons_zero,List.set_cons_succ,i64_w,i32_w,HS1.out,HS2.out,HS3.out,HS4.out,HMIN.out]
  rfl
 refine pure_ (i := 6) (N := some 50) (v := ?_) (a' := ?_) (ba_ 64 90) rfl rfl (any_of HT_.out (by kernel_rfl)) (fun _ _ _ h => h) (Or.inl ⟨by rfl,?_⟩) ?_ ?_
 rotate_left
 ·intro w'
  go_simp
  with_reducible rfl
 rotate_left
 ·simp only [Act.put,List.setIfInBounds_toArray,List.set_cons_zero,List.set_cons_succ,i64_w,i32_w,HS1.out,HS2.out,HS3.out,HS4.out,HMIN.out]
  rfl
 refine pure_ (i := 9) (N := some 53) (v := ?_) (a' := ?_) (ba_ 64 602) rfl rfl (any_of HT_.out (by kernel_rfl)) (fun _ _ _ h => h) (Or.inl ⟨by rfl,?_⟩) ?_ ?_
 rotate_left
 ·intro w'
  go_simp
  with_reducible rfl
 rotate_left
 ·simp only [Act.put,List.setIfInBounds_toArray,List.set_cons_zero,List.set_cons_succ,i64_w,i32_w,HS1.out,HS2.out,HS3.out,HS4.out,HMIN.out]
  rfl
 refine pure_ (i := 11) (N := some 55) (v := ?_) (a' := ?_) (ba_ 64 2650) rfl rfl (any_of HT_.out (by kernel_rfl)) (fun _ _ _ h => h) (Or.inl ⟨by rfl,?_⟩) ?_ ?_
 rotate_left
 ·intro w'
  go_simp
  with_reducible rfl
 rotate_left
 ·simp only [Act.put,List.setIfInBounds_toArray,List.set_cons_zero,List.set_cons_succ,i64_w,i32_w,HS1.out,HS2.out,HS3.out,HS4.out,HMIN.out]
  rfl
 refine pure_ (i := 13) (N := some 57) (v := ?_) (a' := ?_) (ba_ 64 10842) rfl rfl (any_of HT_.out (by kernel_rfl)) (fun _ _ _ h => h) (Or.inl ⟨by rfl,?_⟩) ?_ ?_
 rotate_left
 ·intro w'
  go_simp
  with_reducible rfl
 rotate_left
 ·simp only [Act.put,List.setIfInBounds_toArray,List.set_cons_zero,List.set_cons_succ,i64_w,i32_w,HS1.out,HS2.out,HS3.out,HS4.out,HMIN.out]
  rfl
 refine pure_ (i := 18) (N := some 62) (v := ?_) (a' := ?_) (ba_ 64 272986) rfl rfl (any_of HT_.out (by kernel_rfl)) (fun _ _ _ h => h) (Or.inl ⟨by rfl,?_⟩) ?_ ?_
 rotate_left
 ·intro w'
  go_simp
  with_reducible rfl
 rotate_left
 ·simp only [Act.put,List.setIfInBounds_toArray,List.set_cons_zero,List.set_cons_succ,i64_w,i32_w,HS1.out,HS2.out,HS3.out,HS4.out,HMIN.out]
  rfl
 refine pure_ (i := 20) (N := some 64) (v := ?_) (a' := ?_) (ba_ 64 1321562) rfl rfl (any_of HT_.out (by kernel_rfl)) (fun _ _ _ h => h) (Or.inl ⟨by rfl,?_⟩) ?_ ?_
 rotate_left
 ·intro w'
  go_simp
  with_reducible rfl
 rotate_left
 ·simp only [Act.put,List.setIfInBounds_toArray,List.set_cons_zero,List.set_cons_succ,i64_w,i32_w,HS1.out,HS2.out,HS3.out,HS4.out,HMIN.out]
  rfl
 refine pure_ (i := 22) (N := some 66) (v := ?_) (a' := ?_) (ba_ 64 5515866) rfl rfl (any_of HT_.out (by kernel_rfl)) (fun _ _ _ h => h) (Or.inl ⟨by rfl,?_⟩) ?_ ?_
 rotate_left
 ·intro w'
  go_simp
  with_reducible rfl
 rotate_left
 ·simp only [Act.put,List.setIfInBounds_toArray,List.set_cons_zero,List.set_cons_succ,i64_w,i32_w,HS1.out,HS2.out,HS3.out,HS4.out,HMIN.out]
  rfl
 refine pure_ (i := 24) (N := some 68) (v := ?_) (a' := ?_) (ba_ 64 22293082) rfl rfl (any_of HT_.out (by kernel_rfl)) (fun _ _ _ h => h) (Or.inl ⟨by rfl,?_⟩) ?_ ?_
 rotate_left
 ·intro w'
  go_simp
  with_reducible rfl
 rotate_left
 ·simp only [Act.put,List.setIfInBounds_toArray,List.set_cons_zero,List.set_cons_succ,i64_w,i32_w,HS1.out,HS2.out,HS3.out,HS4.out,HMIN.out]
  rfl
 refine pure_ (i := 26) (N := some 70) (v := ?_) (a' := ?_) (ba_ 64 89401946) rfl rfl (any_of HT_.out (by kernel_rfl)) (fun _ _ _ h => h) (Or.inl ⟨by rfl,?_⟩) ?_ ?_
 rotate_left
 ·intro w'
  go_simp
  with_reducible rfl
 rotate_left
 ·simp only [Act.put,List.setIfInBounds_toArray,List.set_cons_zero,List.set_cons_succ,i64_w,i32_w,HS1.out,HS2.out,HS3.out,HS4.out,HMIN.out]
  rfl
 refine pure_ (i := 28) (N := some 72) (v := ?_) (a' := ?_) (ba_ 64 357837402) rfl rfl (any_of HT_.out (by kernel_rfl)) (fun _ _ _ h => h) (Or.inl ⟨by rfl,?_⟩) ?_ ?_
 rotate_left
 ·intro w'
  go_simp
  with_reducible rfl
 rotate_left
 ·simp only [Act.put,List.setIfInBounds_toArray,List.set_cons_zero,List.set_cons_succ,i64_w,i32_w,HS1.out,HS2.out,HS3.out,HS4.out,HMIN.out]
  rfl
 refine pure_ (i := 30) (N := some 74) (v := ?_) (a' := ?_) (ba_ 64 1431579226) rfl rfl (any_of HT_.out (by kernel_rfl)) (fun _ _ _ h => h) (Or.inl ⟨by rfl,?_⟩) ?_ ?_
 rotate_left
 ·intro w'
  go_simp
  with_reducible rfl
 rotate_left
 ·simp only [Act.put,List.setIfInBounds_toArray,List.set_cons_zero,List.set_cons_succ,i64_w,i32_w,HS1.out,HS2.out,HS3.out,HS4.out,HMIN.out]
  rfl
 refine pure_ (i := 35) (N := some 79) (v := ?_) (a' := ?_) (ba_ 64 35791317594) rfl rfl (any_of HT_.out (by kernel_rfl)) (fun _ _ _ h => h) (Or.inl ⟨by rfl,?_⟩) ?_ ?_
 rotate_left
 ·intro w'
  go_simp
  with_reducible rfl
 rotate_left
 ·simp only [Act.put,List.setIfInBounds_toArray,List.set_cons_zero,List.set_cons_succ,i64_w,i32_w,HS1.out,HS2.out,HS3.out,HS4.out,HMIN.out]
  rfl
 refine pure_ (i := 36) (N := some 80) (v := ?_) (a' := ?_) (ba_ 64 104510794330) rfl rfl (any_of HT_.out (by kernel_rfl)) (fun _ _ _ h => h) (Or.inl ⟨by rfl,?_⟩) ?_ ?_
 rotate_left
 ·intro w'
  go_simp
  with_reducible rfl
 rotate_left
 ·simp only [Act.put,List.setIfInBounds_toArray,List.set_cons_zero,List.set_cons_succ,i64_w,i32_w,HS1.out,HS2.out,HS3.out,HS4.out,HMIN.out]
  rfl
 refine pure_ (i := 37) (N := some 81) (v := ?_) (a' := ?_) (ba_ 64 241949747802) rfl rfl (any_of HT_.out (by kernel_rfl)) (fun _ _ _ h => h) (Or.inl ⟨by rfl,?_⟩) ?_ ?_
 rotate_left
 ·intro w'
  go_simp
  with_reducible rfl
 rotate_left
 ·simp only [Act.put,List.setIfInBounds_toArray,List.set_cons_zero,List.set_cons_succ,i64_w,i32_w,HS1.out,HS2.out,HS3.out,HS4.out,HMIN.out]
  rfl
 refine pure_ (i := 38) (N := some 82) (v := ?_) (a' := ?_) (ba_ 64 516827654746) rfl rfl (any_of HT_.out (by kernel_rfl)) (fun _ _ _ h => h) (Or.inl ⟨by rfl,?_⟩) ?_ ?_
 rotate_left
 ·intro w'
  go_simp
  with_reducible rfl
 rotate_left
 ·simp only [Act.put,List.setIfInBounds_toArray,List.set_cons_zero,List.set_cons_succ,i64_w,i32_w,HS1.out,HS2.out,HS3.out,HS4.out,HMIN.out]
  rfl
 refine pure_ (i := 39) (N := some 83) (v := ?_) (a' := ?_) (ba_ 64 1066583468634) rfl rfl (any_of HT_.out (by kernel_rfl)) (fun _ _ _ h => h) (Or.inl ⟨by rfl,?_⟩) ?_ ?_
 rotate_left
 ·intro w'
  go_simp
  with_reducible rfl
 rotate_left
 ·simp only [Act.put,List.setIfInBounds_toArray,List.set_cons_zero,List.set_cons_succ,i64_w,i32_w,HS1.out,HS2.out,HS3.out,HS4.out,HMIN.out]
  rfl
 refine pure_ (i := 40) (N := some 84) (v := ?_) (a' := ?_) (ba_ 64 2166095096410) rfl rfl (any_of HT_.out (by kernel_rfl)) (fun _ _ _ h => h) (Or.inl ⟨by rfl,?_⟩) ?_ ?_
 rotate_left
 ·intro w'
  go_simp
  with_reducible rfl
 rotate_left
 ·simp only [Act.put,List.setIfInBounds_toArray,List.set_cons_zero,List.set_cons_succ,i64_w,i32_w,HS1.out,HS2.out,HS3.out,HS4.out,HMIN.out]
  rfl
 refine pure_ (i := 43) (N := some 87) (v := ?_) (a' := ?_) (ba_ 64 10962188118618) rfl rfl (any_of HT_.out (by kernel_rfl)) (fun _ _ _ h => h) (Or.inl ⟨by rfl,?_⟩) ?_ ?_
 rotate_left
 ·intro w'
  go_simp
  with_reducible rfl
 rotate_left
 ·simp only [Act.put,List.setIfInBounds_toArray,List.set_cons_zero,List.set_cons_succ,i64_w,i32_w,HS1.out,HS2.out,HS3.out,HS4.out,HMIN.out]
  rfl
 refine pure_ (i := 45) (N := some 89) (v := ?_) (a' := ?_) (ba_ 64 46146560207450) rfl rfl (any_of HT_.out (by kernel_rfl)) (fun _ _ _ h => h) (Or.inl ⟨by rfl,?_⟩) ?_ ?_
 rotate_left
 ·intro w'
  go_simp
  with_reducible rfl
 rotate_left
 ·simp only [Act.put,List.setIfInBounds_toArray,List.set_cons_zero,List.set_cons_succ,i64_w,i32_w,HS1.out,HS2.out,HS3.out,HS4.out,HMIN.out]
  rfl
 refine pure_ (i := 46) (N := some 90) (v := ?_) (a' := ?_) (ba_ 64 116515304385114) rfl rfl (any_of HT_.out (by kernel_rfl)) (fun _ _ _ h => h) (Or.inl ⟨by rfl,?_⟩) ?_ ?_
 rotate_left
 ·intro w'
  go_simp
  with_reducible rfl
 rotate_left
 ·simp only [Act.put,List.setIfInBounds_toArray,List.set_cons_zero,List.set_cons_succ,i64_w,i32_w,HS1.out,HS2.out,HS3.out,HS4.out,HMIN.out]
  rfl
 refine pure_ (i := 48) (N := some 92) (v := ?_) (a' := ?_) (ba_ 64 397990281095770) rfl rfl (any_of HT_.out (by kernel_rfl)) (fun _ _ _ h => h) (Or.inl ⟨by rfl,?_⟩) ?_ ?_
 rotate_left
 ·intro w'
  go_simp
  with_reducible rfl
 rotate_left
 ·simp only [Act.put,List.setIfInBounds_toArray,List.set_cons_zero,List.set_cons_succ,i64_w,i32_w,HS1.out,HS2.out,HS3.out,HS4.out,HMIN.out]
  rfl
 refine pure_ (i := 50) (N := some 94) (v := ?_) (a' := ?_) (ba_ 64 1523890187938394) rfl rfl (any_of HT_.out (by kernel_rfl)) (fun _ _ _ h => h) (Or.inl ⟨by rfl,?_⟩) ?_ ?_
 rotate_left
 ·intro w'
  go_simp
  with_reducible rfl
 rotate_left
 ·simp only [Act.put,List.setIfInBounds_toArray,List.set_cons_zero,List.set_cons_succ,i64_w,i32_w,HS1.out,HS2.out,HS3.out,HS4.out,HMIN.out]
  rfl
 refine pure_ (i := 53) (N := some 97) (v := ?_) (a' := ?_) (ba_ 64 10531089442679386) rfl rfl (any_of HT_.out (by kernel_rfl)) (fun _ _ _ h => h) (Or.inl ⟨by rfl,?_⟩) ?_ ?_
 rotate_left
 ·intro w'
  go_simp
  with_reducible rfl
 rotate_left
 ·simp only [Act.put,List.setIfInBounds_toArray,List.set_cons_zero,List.set_cons_succ,i64_w,i32_w,HS1.out,HS2.out,HS3.out,HS4.out,HMIN.out]
  rfl
 refine pure_ (i := 55) (N := some 99) (v := ?_) (a' := ?_) (ba_ 64 46559886461643354) rfl rfl (any_of HT_.out (by kernel_rfl)) (fun _ _ _ h => h) (Or.inl ⟨by rfl,?_⟩) ?_ ?_
 rotate_left
 ·intro w'
  go_simp
  with_reducible rfl
 rotate_left
 ·simp only [Act.put,List.setIfInBounds_toArray,List.set_cons_zero,List.set_cons_succ,i64_w,i32_w,HS1.out,HS2.out,HS3.out,HS4.out,HMIN.out]
  rfl
 refine pure_ (i := 58) (N := some 102) (v := ?_) (a' := ?_) (ba_ 64 334790262613355098) rfl rfl (any_of HT_.out (by kernel_rfl)) (fun _ _ _ h => h) (Or.inl ⟨by rfl,?_⟩) ?_ ?_
 rotate_left
 ·intro w'
  go_simp
  with_reducible rfl
 rotate_left
 ·simp only [Act.put,List.setIfInBounds_toArray,List.set_cons_zero,List.set_cons_succ,i64_w,i32_w,HS1.out,HS2.out,HS3.out,HS4.out,HMIN.out]
  rfl
 refine take_ (i := 0) (N := some 44) (v := ?_) (a' := ?_) (ba_ 64 334790262613355099) rfl rfl (take_ofW HT_.out HW_.out (by kernel_rfl)) (fun _ _ _ h => h) (Or.inl ⟨by rfl,?_⟩) hHeld ?_ ?_
 rotate_left
 ·rintro w' ⟨⟨c0,c1,c2,c3,c4,c5,c6,-,-,-,-,-,-,-,-⟩,-,-,-,-,-,-⟩
  go_simp
  with_reducible rfl
 rotate_left
 ·simp only [Act.put,List.setIfInBounds_toArray,List.set_cons_zero,List.set_cons_succ,i64_w,i32_w,HS1.out,HS2.out,HS3.out,HS4.out,HMIN.out]
  rfl
 refine take_ (i := 2) (N := some 46) (v := ?_) (a' := ?_) (ba_ 64 334790262613355103) rfl rfl (take_ofW HT_.out HW_.out (by kernel_rfl)) (fun _ _ _ h => h) (Or.inl ⟨by rfl,?_⟩) hHeld ?_ ?_
 rotate_left
 ·rintro w' ⟨⟨-,-,-,-,-,-,-,d0,-,-,-,-,-,-,-⟩,-,-,-,-,-,-⟩
  go_simp
  with_reducible rfl
 rotate_left
 ·simp only [Act.put,List.setIfInBounds_toArray,List.set_cons_zero,List.set_cons_succ,i64_w,i32_w,HS1.out,HS2.out,HS3.out,HS4.out,HMIN.out]
  rfl
 refine take_ (i := 5) (N := some 49) (v := ?_) (a' := ?_) (ba_ 64 334790262613355135) rfl rfl (take_ofW HT_.out HW_.out (by kernel_rfl)) (fun _ _ _ h => h) (Or.inl ⟨by rfl,?_⟩) hHeld ?_ ?_
 rotate_left
 ·rintro w' ⟨⟨-,-,-,-,-,-,-,-,-,d2,-,-,-,-,-⟩,-,-,-,-,-,-⟩
  go_simp
  with_reducible rfl
 rotate_left
 ·simp only [Act.put,List.setIfInBounds_toArray,List.set_cons_zero,List.set_cons_succ,i64_w,i32_w,HS1.out,HS2.out,HS3.out,HS4.out,HMIN.out]
  rfl
 refine take_ (i := 7) (N := some 51) (v := ?_) (a' := ?_) (ba_ 64 334790262613355263) rfl rfl (take_ofW HT_.out HW_.out (by kernel_rfl)) (fun _ _ _ h => h) (Or.inl ⟨by rfl,?_⟩) hHeld ?_ ?_
 rotate_left
 ·rintro w' ⟨⟨-,-,-,-,-,-,-,-,-,-,d3,-,-,-,-⟩,-,-,-,-,-,-⟩
  go_simp
  with_reducible rfl
 rotate_left
 ·simp only [Act.put,List.setIfInBounds_toArray,List.set_cons_zero,List.set_cons_succ,i64_w,i32_w,HS1.out,HS2.out,HS3.out,HS4.out,HMIN.out]
  rfl
 refine pure_ (i := 8) (N := some 52) (v := ?_) (a' := ?_) (ba_ 64 334790262613355519) rfl rfl (any_of HT_.out (by kernel_rfl)) (fun _ _ _ h => h) (Or.inl ⟨by rfl,?_⟩) ?_ ?_
 rotate_left
 ·intro w'
  go_simp
  with_reducible rfl
 rotate_left
 ·simp only [Act.put,List.setIfInBounds_toArray,List.set_cons_zero,List.set_cons_succ,i64_w,i32_w,HS1.out,HS2.out,HS3.out,HS4.out,HMIN.out]
  rfl
 refine take_ (i := 12) (N := some 56) (v := ?_) (a' := ?_) (ba_ 64 334790262613359615) rfl rfl (take_ofW HT_.out HW_.out (by kernel_rfl)) (fun _ _ _ h => h) (Or.inl ⟨by rfl,?_⟩) hHeld ?_ ?_
 rotate_left
 ·rintro w' ⟨⟨-,-,-,-,c4,-,-,-,-,-,-,-,-,-,-⟩,-,-,-,-,-,-⟩
  go_simp
  with_reducible rfl
 rotate_left
 ·simp only [Act.put,List.setIfInBounds_toArray,List.set_cons_zero,List.set_cons_succ,i64_w,i32_w,HS1.out,HS2.out,HS3.out,HS4.out,HMIN.out]
  rfl
 refine pure_ (i := 14) (N := some 58) (v := ?_) (a' := ?_) (ba_ 64 334790262613375999) rfl rfl (any_of HT_.out (by kernel_rfl)) (fun _ _ _ h => h) (Or.inl ⟨by rfl,?_⟩) ?_ ?_
 rotate_left
 ·intro w'
  go_simp
  with_reducible rfl
 rotate_left
 ·simp only [Act.put,List.setIfInBounds_toArray,List.set_cons_zero,List.set_cons_succ,i64_w,i32_w,HS1.out,HS2.out,HS3.out,HS4.out,HMIN.out]
  rfl
 refine take_ (i := 15) (N := some 59) (v := ?_) (a' := ?_) (ba_ 64 334790262613408767) rfl rfl (take_ofW HT_.out HW_.out (by kernel_rfl)) (fun _ _ _ h => h) (Or.inl ⟨by rfl,?_⟩) hHeld ?_ ?_
 rotate_left
 ·rintro w' ⟨⟨-,-,-,-,-,-,-,-,-,-,-,-,-,-,-⟩,s0,s1,s2,s3,s4,s5⟩
  go_simp
  with_reducible rfl
 rotate_left
 ·simp only [Act.put,List.setIfInBounds_toArray,List.set_cons_zero,List.set_cons_succ,i64_w,i32_w,HS1.out,HS2.out,HS3.out,HS4.out,HMIN.out]
  rfl
 refine take_ (i := 17) (N := some 61) (v := ?_) (a' := ?_) (ba_ 64 334790262613539839) rfl rfl (take_ofW HT_.out HW_.out (by kernel_rfl)) (fun _ _ _ h => h) (Or.inl ⟨by rfl,?_⟩) hHeld ?_ ?_
 rotate_left
 ·rintro w' ⟨⟨c0,c1,c2,c3,c4,c5,c6,-,-,-,-,-,-,-,-⟩,-,-,-,-,-,-⟩
  go_simp
  with_reducible rfl
 rotate_left
 ·simp only [Act.put,List.setIfInBounds_toArray,List.set_cons_zero,List.set_cons_succ,i64_w,i32_w,HS1.out,HS2.out,HS3.out,HS4.out,HMIN.out]
  rfl
 refine take_ (i := 19) (N := some 63) (v := ?_) (a' := ?_) (ba_ 64 334790262614064127) rfl rfl (take_ofW HT_.out HW_.out (by kernel_rfl)) (fun _ _ _ h => h) (Or.inl ⟨by rfl,?_⟩) hHeld ?_ ?_
 rotate_left
 ·rintro w' ⟨⟨-,-,-,-,-,-,-,d0,-,-,-,-,-,-,-⟩,-,-,-,-,-,-⟩
  go_simp
  with_reducible rfl
 rotate_left
 ·simp only [Act.put,List.setIfInBounds_toArray,List.set_cons_zero,List.set_cons_succ,i64_w,i32_w,HS1.out,HS2.out,HS3.out,HS4.out,HMIN.out]
  rfl
 refine take_ (i := 21) (N := some 65) (v := ?_) (a' := ?_) (ba_ 64 334790262616161279) rfl rfl (take_ofW HT_.out HW_.out (by kernel_rfl)) (fun _ _ _ h => h) (Or.inl ⟨by rfl,?_⟩) hHeld ?_ ?_
 rotate_left
 ·rintro w' ⟨⟨-,-,-,-,-,-,-,-,d1,-,-,-,-,-,-⟩,-,-,-,-,-,-⟩
  go_simp
  with_reducible rfl
 rotate_left
 ·simp only [Act.put,List.setIfInBounds_toArray,List.set_cons_zero,List.set_cons_succ,i64_w,i32_w,HS1.out,HS2.out,HS3.out,HS4.out,HMIN.out]
  rfl
 refine take_ (i := 23) (N := some 67) (v := ?_) (a' := ?_) (ba_ 64 334790262624549887) rfl rfl (take_ofW HT_.out HW_.out (by kernel_rfl)) (fun _ _ _ h => h) (Or.inl ⟨by rfl,?_⟩) hHeld ?_ ?_
 rotate_left
 ·rintro w' ⟨⟨-,-,-,-,-,-,-,-,-,d2,-,-,-,-,-⟩,-,-,-,-,-,-⟩
  go_simp
  with_reducible rfl
 rotate_left
 ·simp only [Act.put,List.setIfInBounds_toArray,List.set_cons_zero,List.set_cons_succ,i64_w,i32_w,HS1.out,HS2.out,HS3.out,HS4.out,HMIN.out]
  rfl
 refine pure_ (i := 25) (N := some 69) (v := ?_) (a' := ?_) (ba_ 64 334790262658104319) rfl rfl (any_of HT_.out (by kernel_rfl)) (fun _ _ _ h => h) (Or.inl ⟨by rfl,?_⟩) ?_ ?_
 rotate_left
 ·intro w'
  go_simp
  with_reducible rfl
 rotate_left
 ·simp only [Act.put,List.setIfInBounds_toArray,List.set_cons_zero,List.set_cons_succ,i64_w,i32_w,HS1.out,HS2.out,HS3.out,HS4.out,HMIN.out]
  rfl
 refine take_ (i := 29) (N := some 73) (v := ?_) (a' := ?_) (ba_ 64 334790263194975231) rfl rfl (take_ofW HT_.out HW_.out (by kernel_rfl)) (fun _ _ _ h => h) (Or.inl ⟨by rfl,?_⟩) hHeld ?_ ?_
 rotate_left
 ·rintro w' ⟨⟨-,-,-,-,-,c5,-,-,-,-,-,-,-,-,-⟩,-,-,-,-,-,-⟩
  go_simp
  with_reducible rfl
 rotate_left
 ·simp only [Act.put,List.setIfInBounds_toArray,List.set_cons_zero,List.set_cons_succ,i64_w,i32_w,HS1.out,HS2.out,HS3.out,HS4.out,HMIN.out]
  rfl
 refine pure_ (i := 31) (N := some 75) (v := ?_) (a' := ?_) (ba_ 64 334790265342458879) rfl rfl (any_of HT_.out (by kernel_rfl)) (fun _ _ _ h => h) (Or.inl ⟨by rfl,?_⟩) ?_ ?_
 rotate_left
 ·intro w'
  go_simp
  with_reducible rfl
 rotate_left
 ·simp only [Act.put,List.setIfInBounds_toArray,List.set_cons_zero,List.set_cons_succ,i64_w,i32_w,HS1.out,HS2.out,HS3.out,HS4.out,HMIN.out]
  rfl
 refine take_ (i := 32) (N := some 76) (v := ?_) (a' := ?_) (ba_ 64 334790269637426175) rfl rfl (take_ofW HT_.out HW_.out (by kernel_rfl)) (fun _ _ _ h => h) (Or.inl ⟨by rfl,?_⟩) hHeld ?_ ?_
 rotate_left
 ·rintro w' ⟨⟨-,-,-,-,-,-,-,-,-,-,-,-,-,-,-⟩,s0,s1,s2,s3,s4,s5⟩
  go_simp
  with_reducible rfl
 rotate_left
 ·simp only [Act.put,List.setIfInBounds_toArray,List.set_cons_zero,List.set_cons_succ,i64_w,i32_w,HS1.out,HS2.out,HS3.out,HS4.out,HMIN.out]
  rfl
 refine take_ (i := 34) (N := some 78) (v := ?_) (a' := ?_) (ba_ 64 334790286817295359) rfl rfl (take_ofW HT_.out HW_.out (by kernel_rfl)) (fun _ _ _ h => h) (Or.inl ⟨by rfl,?_⟩) hHeld ?_ ?_
 rotate_left
 ·rintro w' ⟨⟨c0,c1,c2,c3,c4,c5,c6,-,-,-,-,-,-,-,-⟩,-,-,-,-,-,-⟩
  go_simp
  with_reducible rfl
 rotate_left
 ·simp only [Act.put,List.setIfInBounds_toArray,List.set_cons_zero,List.set_cons_succ,i64_w,i32_w,HS1.out,HS2.out,HS3.out,HS4.out,HMIN.out]
  rfl
 refine take_ (i := 42) (N := some 86) (v := ?_) (a' := ?_) (ba_ 64 334794684863806463) rfl rfl (take_ofW HT_.out HW_.out (by kernel_rfl)) (fun _ _ _ h => h) (Or.inl ⟨by rfl,?_⟩) hHeld ?_ ?_
 rotate_left
 ·rintro w' ⟨⟨c0,c1,c2,c3,c4,c5,c6,-,-,-,-,-,-,-,-⟩,-,-,-,-,-,-⟩
  go_simp
  with_reducible rfl
 rotate_left
 ·simp only [Act.put,List.setIfInBounds_toArray,List.set_cons_zero,List.set_cons_succ,i64_w,i32_w,HS1.out,HS2.out,HS3.out,HS4.out,HMIN.out]
  rfl
 refine take_ (i := 44) (N := some 88) (v := ?_) (a' := ?_) (ba_ 64 334812277049850879) rfl rfl (take_ofW HT_.out HW_.out (by kernel_rfl)) (fun _ _ _ h => h) (Or.inl ⟨by rfl,?_⟩) hHeld ?_ ?_
 rotate_left
 ·rintro w' ⟨⟨-,-,-,-,-,-,-,d0,-,-,-,-,-,-,-⟩,-,-,-,-,-,-⟩
  go_simp
  with_reducible rfl
 rotate_left
 ·simp only [Act.put,List.setIfInBounds_toArray,List.set_cons_zero,List.set_cons_succ,i64_w,i32_w,HS1.out,HS2.out,HS3.out,HS4.out,HMIN.out]
  rfl
 refine take_ (i := 47) (N := some 91) (v := ?_) (a' := ?_) (ba_ 64 334953014538206207) rfl rfl (take_ofW HT_.out HW_.out (by kernel_rfl)) (fun _ _ _ h => h) (Or.inl ⟨by rfl,?_⟩) hHeld ?_ ?_
 rotate_left
 ·rintro w' ⟨⟨-,-,-,-,-,-,-,-,-,d2,-,-,-,-,-⟩,-,-,-,-,-,-⟩
  go_simp
  with_reducible rfl
 rotate_left
 ·simp only [Act.put,List.setIfInBounds_toArray,List.set_cons_zero,List.set_cons_succ,i64_w,i32_w,HS1.out,HS2.out,HS3.out,HS4.out,HMIN.out]
  rfl
 refine pure_ (i := 49) (N := some 93) (v := ?_) (a' := ?_) (ba_ 64 335515964491627519) rfl rfl (any_of HT_.out (by kernel_rfl)) (fun _ _ _ h => h) (Or.inl ⟨by rfl,?_⟩) ?_ ?_
 rotate_left
 ·intro w'
  go_simp
  with_reducible rfl
 rotate_left
 ·simp only [Act.put,List.setIfInBounds_toArray,List.set_cons_zero,List.set_cons_succ,i64_w,i32_w,HS1.out,HS2.out,HS3.out,HS4.out,HMIN.out]
  rfl
 refine take_ (i := 54) (N := some 98) (v := ?_) (a' := ?_) (ba_ 64 353530363001109503) rfl rfl (take_ofW HT_.out HW_.out (by kernel_rfl)) (fun _ _ _ h => h) (Or.inl ⟨by rfl,?_⟩) hHeld ?_ ?_
 rotate_left
 ·rintro w' ⟨⟨-,-,-,-,-,-,c6,-,-,-,-,-,-,-,-⟩,-,-,-,-,-,-⟩
  go_simp
  with_reducible rfl
 rotate_left
 ·simp only [Act.put,List.setIfInBounds_toArray,List.set_cons_zero,List.set_cons_succ,i64_w,i32_w,HS1.out,HS2.out,HS3.out,HS4.out,HMIN.out]
  rfl
 refine pure_ (i := 56) (N := some 100) (v := ?_) (a' := ?_) (ba_ 64 425587957039037439) rfl rfl (any_of HT_.out (by kernel_rfl)) (fun _ _ _ h => h) (Or.inl ⟨by rfl,?_⟩) ?_ ?_
 rotate_left
 ·intro w'
  go_simp
  with_reducible rfl
 rotate_left
 ·simp only [Act.put,List.setIfInBounds_toArray,List.set_cons_zero,List.set_cons_succ,i64_w,i32_w,HS1.out,HS2.out,HS3.out,HS4.out,HMIN.out]
  rfl
 refine take_ (i := 57) (N := some 101) (v := ?_) (a' := ?_) (ba_ 64 569703145114893311) rfl rfl (take_ofW HT_.out HW_.out (by kernel_rfl)) (fun _ _ _ h => h) (Or.inl ⟨by rfl,?_⟩) hHeld ?_ ?_
 rotate_left
 ·rintro w' ⟨⟨-,-,-,-,-,-,-,-,-,-,-,-,-,-,-⟩,s0,s1,s2,s3,s4,s5⟩
  go_simp
  with_reducible rfl
 rotate_left
 ·simp only [Act.put,List.setIfInBounds_toArray,List.set_cons_zero,List.set_cons_succ,i64_w,i32_w,HS1.out,HS2.out,HS3.out,HS4.out,HMIN.out]
  rfl
 refine pure_ (i := 59) (N := some 103) (v := ?_) (a' := ?_) (ba_ 64 1146163897418316799) rfl rfl (any_of HT_.out (by kernel_rfl)) (fun _ _ _ h => h) (Or.inl ⟨by rfl,?_⟩) ?_ ?_
 rotate_left
 ·intro w'
  go_simp
  with_reducible rfl
 rotate_left
 ·simp only [Act.put,List.setIfInBounds_toArray,List.set_cons_zero,List.set_cons_succ,i64_w,i32_w,HS1.out,HS2.out,HS3.out,HS4.out,HMIN.out]
  rfl
 refine take_ (i := 60) (N := some 104) (v := ?_) (a' := ?_) (ba_ 64 2299085402025163775) rfl rfl (take_ofW HT_.out HW_.out (by kernel_rfl)) (fun _ _ _ h => h) (Or.inl ⟨by rfl,?_⟩) hHeld ?_ ?_
 rotate_left
 ·rintro w' ⟨⟨-,-,-,-,-,-,-,-,-,-,-,-,-,-,-⟩,s0,s1,s2,s3,s4,s5⟩
  go_simp
  with_reducible rfl
 rotate_left
 ·simp only [Act.put,List.setIfInBounds_toArray,List.set_cons_zero,List.set_cons_succ,i64_w,i32_w,HS1.out,HS2.out,HS3.out,HS4.out,HMIN.out]
  rfl
 refine one_ (i := 10) (N := some 54) (ba_ 64 2299085402025164799) rfl rfl (one_of HT_.out (by kernel_rfl)) (by decide) (fun K hK => ?_)
 refine goes_ Try.func118 (by kernel_rfl) rfl #[.agg #[v0,v1,(.slice (some ad2) A cp2),(.slice (some ad3) B cp3),(.slice (some ad4) A cp4),(.slice (some ad5) B cp5),(.slice (some ad6) A cp6)],.agg #[.int .i64 ((i : Nat) : Int),.int .i64 ((p : Nat) : Int),.int .i64 ((k : Nat) : Int),.int .i64 ((q + 1 : Nat) : Int)],.map (some b)] (by rfl) rfl rfl (by simp only [List.map_toArray,List.map_cons,List.map_nil];rfl) ?_
 refine (FS.goes IH.out hHeld.1 (i' := i) (j' := p) (k' := k) (m' := q + 1) (by omega) (by omega) (by omega) (by omega) (by omega)).mono ?_
 rintro e w' ⟨rfl,hfs,hol⟩
 refine ⟨_,rfl,?_⟩
 obtain ⟨_,e0,e1,e2,e3,e4,e5⟩ := hHeld
 refine hK.out _ _ ⟨hfs,hol.cell (by rw [add_block];exact NB2.out) e0,hol.cell (by rw [add_block];exact NB3.out) e1,hol.cell (by rw [add_block];exact NB4.out) e2,hol.cell (by rw [add_block];exact NB5.out) e3,hol.cell (by rw [add_block];exact NB6.out) e4,hol.cell (by rw [add_block];exact NB7.out) e5⟩ (fun hHeld => ?_)
 clear hK K
 refine norm_ (a' := ?_) ?_ ?_
 rotate_left
 ·show Act.put _ (some 54) _ = _
  simp only [Act.put,List.setIfInBounds_toArray,List.set_cons_zero,List.set_cons_succ,i64_w,i32_w,HS1.out,HS2.out,HS3.out,HS4.out,HMIN.out]
  rfl
 refine pure_ (i := 16) (N := some 60) (v := ?_) (a' := ?_) (ba_ 64 2299085402025230335) rfl rfl (any_of HT_.out (by kernel_rfl)) (fun _ _ _ h => h) (Or.inl ⟨by rfl,?_⟩) ?_ ?_
 rotate_left
 ·intro w'
  go_simp
  with_reducible rfl
 rotate_left
 ·simp only [Act.put,List.setIfInBounds_toArray,List.set_cons_zero,List.set_cons_succ,i64_w,i32_w,HS1.out,HS2.out,HS3.out,HS4.out,HMIN.out]
  rfl
 refine one_ (i := 27) (N := some 71) (ba_ 64 2299085402159448063) rfl rfl (one_of HT_.out (by kernel_rfl)) (by decide) (fun K hK => ?_)
 refine goes_ Try.func118 (by kernel_rfl) rfl #[.agg #[v0,v1,(.slice (some ad2) A cp2),(.slice (some ad3) B cp3),(.slice (some ad4) A cp4),(.slice (some ad5) B cp5),(.slice (some ad6) A cp6)],.agg #[.int .i64 ((i : Nat) : Int),.int .i64 ((p + 1 : Nat) : Int),.int .i64 ((k : Nat) : Int),.int .i64 ((q : Nat) : Int)],.map (some b)] (by rfl) rfl rfl (by simp only [List.map_toArray,List.map_cons,List.map_nil];rfl) ?_
 refine (FS.goes IH.out hHeld.1 (i' := i) (j' := p + 1) (k' := k) (m' := q) (by omega) (by omega) (by omega) (by omega) (by omega)).mono ?_
 rintro e w' ⟨rfl,hfs,hol⟩
 refine ⟨_,rfl,?_⟩
 obtain ⟨_,e0,e1,e2,e3,e4,e5⟩ := hHeld
 refine hK.out _ _ ⟨hfs,hol.cell (by rw [add_block];exact NB2.out) e0,hol.cell (by rw [add_block];exact NB3.out) e1,hol.cell (by rw [add_block];exact NB4.out) e2,hol.cell (by rw [add_block];exact NB5.out) e3,hol.cell (by rw [add_block];exact NB6.out) e4,hol.cell (by rw [add_block];exact NB7.out) e5⟩ (fun hHeld => ?_)
 clear hK K
 refine norm_ (a' := ?_) ?_ ?_
 rotate_left
 ·show Act.put _ (some 71) _ = _
  simp only [Act.put,List.setIfInBounds_toArray,List.set_cons_zero,List.set_cons_succ,i64_w,i32_w,HS1.out,HS2.out,HS3.out,HS4.out,HMIN.out]
  rfl
 refine pure_ (i := 33) (N := some 77) (v := ?_) (a' := ?_) (ba_ 64 2299085410749382655) rfl rfl (any_of HT_.out (by kernel_rfl)) (fun _ _ _ h => h) (Or.inl ⟨by rfl,?_⟩) ?_ ?_
 rotate_left
 ·intro w'
  go_simp
  with_reducible rfl
 rotate_left
 ·simp only [Act.put,List.setIfInBounds_toArray,List.set_cons_zero,List.set_cons_succ,i64_w,i32_w,HS1.out,HS2.out,HS3.out,HS4.out,HMIN.out]
  rfl
 refine one_ (i := 41) (N := some 85) (ba_ 64 2299087609772638207) rfl rfl (one_of HT_.out (by kernel_rfl)) (by decide) (fun K hK => ?_)
 refine goes_ Try.func118 (by kernel_rfl) rfl #[.agg #[v0,v1,(.slice (some ad2) A cp2),(.slice (some ad3) B cp3),(.slice (some ad4) A cp4),(.slice (some ad5) B cp5),(.slice (some ad6) A cp6)],.agg #[.int .i64 ((x : Nat) : Int),.int .i64 ((p : Nat) : Int),.int .i64 ((y : Nat) : Int),.int .i64 ((q : Nat) : Int)],.map (some b)] (by rfl) rfl rfl (by simp only [List.map_toArray,List.map_cons,List.map_nil];rfl) ?_
 refine (FS.goes IH.out hHeld.1 (i' := x) (j' := p) (k' := y) (m' := q) (by omega) (by omega) (by omega) (by omega) (by omega)).mono ?_
 rintro e w' ⟨rfl,hfs,hol⟩
 refine ⟨_,rfl,?_⟩
 obtain ⟨_,e0,e1,e2,e3,e4,e5⟩ := hHeld
 refine hK.out _ _ ⟨hfs,hol.cell (by rw [add_block];exact NB2.out) e0,hol.cell (by rw [add_block];exact NB3.out) e1,hol.cell (by rw [add_block];exact NB4.out) e2,hol.cell (by rw [add_block];exact NB5.out) e3,hol.cell (by rw [add_block];exact NB6.out) e4,hol.cell (by rw [add_block];exact NB7.out) e5⟩ (fun hHeld => ?_)
 clear hK K
 refine norm_ (a' := ?_) ?_ ?_
 rotate_left
 ·show Act.put _ (some 85) _ = _
  simp only [Act.put,List.setIfInBounds_toArray,List.set_cons_zero,List.set_cons_succ,i64_w,i32_w,HS1.out,HS2.out,HS3.out,HS4.out,HMIN.out]
  rfl
 refine one_ (i := 51) (N := some 95) (ba_ 64 2301339409586323455) rfl rfl (one_of HT_.out (by kernel_rfl)) (by decide) (fun K hK => ?_)
 refine goes_ Try.func118 (by kernel_rfl) rfl #[.agg #[v0,v1,(.slice (some ad2) A cp2),(.slice (some ad3) B cp3),(.slice (some ad4) A cp4),(.slice (some ad5) B cp5),(.slice (some ad6) A cp6)],.agg #[.int .i64 ((i : Nat) : Int),.int .i64 ((x : Nat) : Int),.int .i64 ((k : Nat) : Int),.int .i64 ((y : Nat) : Int)],.map (some b)] (by rfl) rfl rfl (by simp only [List.map_toArray,List.map_cons,List.map_nil];rfl) ?_
 refine (FS.goes IH.out hHeld.1 (i' := i) (j' := x) (k' := k) (m' := y) (by omega) (by omega) (by omega) (by omega) (by omega)).mono ?_
 rintro e w' ⟨rfl,hfs,hol⟩
 refine ⟨_,rfl,?_⟩
 obtain ⟨_,e0,e1,e2,e3,e4,e5⟩ := hHeld
 refine hK.out _ _ ⟨hfs,hol.cell (by rw [add_block];exact NB2.out) e0,hol.cell (by rw [add_block];exact NB3.out) e1,hol.cell (by rw [add_block];exact NB4.out) e2,hol.cell (by rw [add_block];exact NB5.out) e3,hol.cell (by rw [add_block];exact NB6.out) e4,hol.cell (by rw [add_block];exact NB7.out) e5⟩ (fun hHeld => ?_)
 clear hK K
 refine norm_ (a' := ?_) ?_ ?_
 rotate_left
 ·show Act.put _ (some 95) _ = _
  simp only [Act.put,List.setIfInBounds_toArray,List.set_cons_zero,List.set_cons_succ,i64_w,i32_w,HS1.out,HS2.out,HS3.out,HS4.out,HMIN.out]
  rfl
 refine pure_ (i := 52) (N := some 96) (v := ?_) (a' := ?_) (ba_ 64 2305843009213693951) rfl rfl (any_of HT_.out (by kernel_rfl)) (fun _ _ _ h => h) (Or.inl ⟨by rfl,?_⟩) ?_ ?_
 rotate_left
 ·intro w'
  go_simp
  with_reducible rfl
 rotate_left
 ·simp only [Act.put,List.setIfInBounds_toArray,List.set_cons_zero,List.set_cons_succ,i64_w,i32_w,HS1.out,HS2.out,HS3.out,HS4.out,HMIN.out]
  rfl
 refine pure_ (i := 61) (N := some 105) (v := ?_) (a' := ?_) (ba_ 64 4611686018427387903) rfl rfl (any_of HT_.out (by kernel_rfl)) (fun _ _ _ h => h) (Or.inl ⟨by rfl,?_⟩) ?_ ?_
 rotate_left
 ·intro w'
  go_simp
  with_reducible rfl
 rotate_left
 ·simp only [Act.put,List.setIfInBounds_toArray,List.set_cons_zero,List.set_cons_succ,i64_w,i32_w,HS1.out,HS2.out,HS3.out,HS4.out,HMIN.out]
  rfl
 refine pure_ (i := 62) (N := some 106) (v := ?_) (a' := ?_) (ba_ 64 9223372036854775807) rfl rfl (any_of HT_.out (by kernel_rfl)) (fun _ _ _ h => h) (Or.inl ⟨by rfl,?_⟩) ?_ ?_
 rotate_left
 ·intro w'
  go_simp
  with_reducible rfl
 rotate_left
 ·simp only [Act.put,List.setIfInBounds_toArray,List.set_cons_zero,List.set_cons_succ,i64_w,i32_w,HS1.out,HS2.out,HS3.out,HS4.out,HMIN.out]
  rfl
 refine pure_ (i := 63) (N := some 9) (v := ?_) (a' := ?_) (ba_ 64 18446744073709551615) rfl rfl (any_of HT_.out (by kernel_rfl)) (fun _ _ _ h => h) (Or.inl ⟨by rfl,?_⟩) ?_ ?_
 rotate_left
 ·intro w'
  go_simp
  with_reducible rfl
 rotate_left
 ·simp only [Act.put,List.setIfInBounds_toArray,List.set_cons_zero,List.set_cons_succ,i64_w,i32_w,HS1.out,HS2.out,HS3.out,HS4.out,HMIN.out]
  rfl
 refine done_ (done_of HT_.out (by kernel_rfl)) ?_
 obtain ⟨hfs,_⟩ := hHeld
 obtain ⟨ks1,DD1,hown1,hroom1,hst⟩ := hfs.store HSZ.out HBX.out HIN.out
 have d0 := hfs.d0
 have d1 := hfs.d1
 have d2 := hfs.d2
 have d3 := hfs.d3
 have HST9 := Aside0.mk hst
 have HO9 := Aside0.mk hown1
 have HR9 := Aside0.mk hroom1
 clear hst hown1 hroom1
 go_wp2_with (first | (at_mapUpdate;refine wpList_mapUpdate_own _ rfl _ _ _ 95 rfl 100 3 keyed75 Try.underlying95 elem3 b _ _ rfl HO9.out HR9.out _ _ (klit (i,p + 1,k,q + 1)) rfl rfl HX.out (.lit (.int .i64 (valOf M (i,p + 1,k,q + 1)))) [] HV.out ?_;intro w9 hown9 hgrow9))
 go_ret
 exact ⟨rfl,HST9.out _ hown9 hgrow9⟩
theorem forest_calls {M : Ted.Ms} {A B : Nat} (hs : Small M) (hA : A ≤ 24) (hB : B ≤ 24) (hla : ∀ p,p < A → M.la p ≤ p) (hlb : ∀ q,q < B → M.lb q ≤ q) : ∀ N : Nat,ForestAt M A B N := by
 intro N
 induction N using Nat.strongRecOn with
 | _ N IH =>
  intro i j k m hN hij hj hkm hm W b v ks mea hmemo
  obtain ⟨v0,v1,v2,v3,v4,v5,v6,rfl,hrest⟩ := mea.is
  have hx : InBox (i,j,k,m) := ⟨by simp only;omega,by simp only;omega,by simp only;omega,by simp only;omega⟩
  by_cases hin : (i,j,k,m) ∈ ks
  ·refine (forest_hit W b v0 v1 v2 v3 v4 v5 v6 ks hmemo hx hin).mono ?_
   rintro e w' ⟨h1,h2,ks',h3,h4⟩
   exact ⟨h1,h2,ks',h3,fun y hy => (h4 y hy).imp id (fun z => by simp only [sz] at z ⊢;omega)⟩
  ·by_cases h1 : i < j
   ·obtain ⟨p,rfl⟩ : ∃ p,j = p + 1 := ⟨j - 1,by omega⟩
    by_cases h2 : k < m
    ·obtain ⟨q,rfl⟩ : ∃ q,m = q + 1 := ⟨m - 1,by omega⟩
     exact forest_ab hs hA hB IH hN (by omega) hj (by omega) hm (hla p (by omega)) (hlb q (by omega)) W b ks mea hmemo hx hin
    ·obtain rfl : k = m := by omega
     exact forest_c hs hA hB IH (by omega) hm (by omega) hj W b ks mea hmemo hx hin
   ·obtain rfl : i = j := by omega
    by_cases h2 : k < m
    ·obtain ⟨q,rfl⟩ : ∃ q,m = q + 1 := ⟨m - 1,by omega⟩
     exact forest_b hs hA hB IH (by omega) hj (by omega) hm W b ks mea hmemo hx hin
    ·obtain rfl : k = m := by omega
     exact forest_none hs hA hB IH (by omega) hj hm W b ks mea hmemo hx hin
end Go.Proofs.Ytngphdmbjenkaaa.X
namespace Go.Proofs.Ytngphdmbjenkaaa.X
open Go.RowKit Go.Proofs.YtngphdmbjenkaaaW.PrintWords Go.Proofs.YtngphdmbjenkaaaW.PrintLast Go.Proofs.YtngphdmbjenkaaaW.PrintMore
set_option linter.unusedVariables false
set_option linter.unusedSimpArgs false
theorem two_lt {a b x y : Nat} (hx : x < a) (hy : y < b) : x * b + y < a * b := by
 have h : (x + 1) * b ≤ a * b := Nat.mul_le_mul_right b (by omega)
 rw [Nat.add_mul,Nat.one_mul] at h
 omega
theorem two_inj {b x y x' y' : Nat} (hy : y < b) (hy' : y' < b) (h : x * b + y = x' * b + y') : x = x' ∧ y = y' := by
 have h1 : (x * b + y) / b = (x' * b + y') / b := by rw [h]
 have e : ∀ u v,v < b → (u * b + v) / b = u := fun u v hv => by
  rw [Nat.mul_comm,Nat.mul_add_div (by omega),Nat.div_eq_of_lt hv,Nat.add_zero]
 rw [e x y hy,e x' y' hy'] at h1
 subst h1
 exact ⟨rfl,by omega⟩
def kix (A B : Nat) (i j k m : Nat) : Nat := ((i * (A + 1) + j) * (B + 1) + k) * (B + 1) + m
def ksz (A B : Nat) : Nat := (A + 1) * (A + 1) * (B + 1) * (B + 1)
theorem kix_lt {A B i j k m : Nat} (hi : i ≤ A) (hj : j ≤ A) (hk : k ≤ B) (hm : m ≤ B) : kix A B i j k m < ksz A B :=
 two_lt (two_lt (two_lt (by omega) (by omega)) (by omega)) (by omega)
theorem kix_inj {A B i j k m i' j' k' m' : Nat} (hj : j ≤ A) (hk : k ≤ B) (hm : m ≤ B) (hj' : j' ≤ A) (hk' : k' ≤ B) (hm' : m' ≤ B) (h : kix A B i j k m = kix A B i' j' k' m') : i = i' ∧ j = j' ∧ k = k' ∧ m = m' := by
 obtain ⟨h1,h2⟩ := two_inj (by omega) (by omega) h
 obtain ⟨h3,h4⟩ := two_inj (by omega) (by omega) h1
 obtain ⟨h5,h6⟩ := two_inj (by omega) (by omega) h3
 exact ⟨h5,h6,h4,h2⟩
structure Kn (M : Ted.Ms) (A B : Nat) (W : World) (b : Nat) : Prop where
 is : ∃ L : List Int,W.heap[b]? = some (.cells (nums .i64 L).toArray 3 (0,0)) ∧ L.length = ksz A B ∧ ∀ i j k m,i ≤ j → j ≤ A → k ≤ m → m ≤ B → L.getD (kix A B i j k m) 0 = 0 ∨ L.getD (kix A B i j k m) 0 = Ted.D M i j k m + 1
theorem Kn.lt {M : Ted.Ms} {A B : Nat} {W : World} {b : Nat} (h : Kn M A B W b) : b < W.heap.size := by
 obtain ⟨L,h1,_⟩ := h.is
 exact blk_lt h1
theorem Kn.keep {M : Ted.Ms} {A B : Nat} {W W' : World} {b : Nat} (h : Kn M A B W b) (hb : W'.heap[b]? = W.heap[b]?) : Kn M A B W' b := by
 obtain ⟨L,h1,h2⟩ := h.is
 exact ⟨L,hb.trans h1,h2⟩
theorem Kn.cell {M : Ted.Ms} {A B : Nat} {W : World} {b : Nat} (h : Kn M A B W b) {i j k m : Nat} (hi : i ≤ j) (hj : j ≤ A) (hk : k ≤ m) (hm : m ≤ B) :
  ∃ z,W.cell? ⟨b,kix A B i j k m,none⟩ = some (.int .i64 z) ∧ (z = 0 ∨ z = Ted.D M i j k m + 1) := by
 obtain ⟨L,h1,h2,h3⟩ := h.is
 have hl := kix_lt (show i ≤ A by omega) hj (show k ≤ B by omega) hm
 refine ⟨_,(blk_cell h1 _).trans ?_,h3 i j k m hi hj hk hm⟩
 rw [List.getElem?_toArray,nums,List.getElem?_map,List.getD_eq_getElem?_getD,List.getElem?_eq_getElem (by omega)]
 rfl
theorem Kn.frozen {M : Ted.Ms} {A B : Nat} {W : World} {b : Nat} (h : Kn M A B W b) (n : Nat) : W.frozen? ⟨b,n,none⟩ = false := by
 obtain ⟨L,h1,_⟩ := h.is
 exact blk_frozen h1 n
theorem Kn.put {M : Ted.Ms} {A B : Nat} {W : World} {b : Nat} (h : Kn M A B W b) {i j k m : Nat} (hi : i ≤ j) (hj : j ≤ A) (hk : k ≤ m) (hm : m ≤ B) : Kn M A B (W.setCell ⟨b,kix A B i j k m,none⟩ (.int .i64 (Ted.D M i j k m + 1))) b := by
 obtain ⟨L,h1,h2,h3⟩ := h.is
 have hl := kix_lt (show i ≤ A by omega) hj (show k ≤ B by omega) hm
 refine ⟨L.set (kix A B i j k m) (Ted.D M i j k m + 1),?_,by rw [List.length_set];exact h2,fun i' j' k' m' hi' hj' hk' hm' => ?_⟩
 ·refine (blk_set h1 _ _).trans ?_
  rw [List.setIfInBounds_toArray,nums,nums,← List.map_set]
 ·rw [List.getD_eq_getElem?_getD,List.getElem?_set]
  by_cases e : kix A B i j k m = kix A B i' j' k' m'
  ·obtain ⟨rfl,rfl,rfl,rfl⟩ := kix_inj hj (by omega) hm hj' (by omega) hm' e
   rw [if_pos rfl,if_pos (by omega)]
   exact Or.inr rfl
  ·rw [if_neg e,← List.getD_eq_getElem?_getD]
   exact h3 i' j' k' m' hi' hj' hk' hm'
theorem Only.setCell {b : Nat} {W W1 : World} (h : Only b W W1) (n : Nat) (v : Value) : Only b W (W1.setCell ⟨b,n,none⟩ v) :=
 ⟨h.os,h.tape,h.output,by rw [show (W1.setCell ⟨b,n,none⟩ v).heap.size = W1.heap.size from by simp [World.setCell]];exact h.size,fun i hi hn => (Below.heap_setCell W1 ⟨b,n,none⟩ v i (fun e => hn (by rw [e]))).trans (h.block i hi hn)⟩
structure Mem (M : Ted.Ms) (A B : Nat) (X Y : Nat → Nat) (W : World) (b g : Nat) : Prop where
 is : ∃ v0 v1 v2 v3 v5 v6 v7,W.heap[g]? = some (.cells #[v0,v1,v2,v3,.slice (some ⟨b,0,none⟩) (ksz A B) (ksz A B),v5,v6,v7] 144 (0,0)) ∧ g ≠ b ∧
  Row1 W b v0 A (fun p => X p) ∧ Row1 W b v1 B (fun q => Y q) ∧ Row1 W b v2 A (fun p => M.la p) ∧ Row1 W b v3 B (fun q => M.lb q) ∧
  ∃ d n r : Nat → Int,Row1 W b v5 6 d ∧ Row1 W b v6 6 n ∧ Row1 W b v7 36 r ∧ (∀ p,p < A → X p < 6 ∧ M.del p = d (X p)) ∧ (∀ q,q < B → Y q < 6 ∧ M.ins q = n (Y q)) ∧ (∀ p q,p < A → q < B → M.rel p q = r (6 * X p + Y q))
theorem Mem.only {M : Ted.Ms} {A B : Nat} {X Y : Nat → Nat} {b g : Nat} {W W1 : World} (h : Only b W W1) (r : Mem M A B X Y W b g) : Mem M A B X Y W1 b g := by
 obtain ⟨v0,v1,v2,v3,v5,v6,v7,e,hg,h0,h1,h2,h3,d,n,rr,h5,h6,h7,h8⟩ := r.is
 exact ⟨v0,v1,v2,v3,v5,v6,v7,(h.block g (blk_lt e) (by simpa using hg)).trans e,hg,h0.only h,h1.only h,h2.only h,h3.only h,d,n,rr,h5.only h,h6.only h,h7.only h,h8⟩
end Go.Proofs.Ytngphdmbjenkaaa.X
namespace Go.Proofs.Ytngphdmbjenkaaa.X
open Go.RowKit Go.Proofs.YtngphdmbjenkaaaW.PrintWords Go.Proofs.YtngphdmbjenkaaaW.PrintLast Go.Proofs.YtngphdmbjenkaaaW.PrintMore
set_option linter.unusedVariables false
set_option linter.unusedSimpArgs false
abbrev Blk (W : World) (b : Nat) (L : List Int) : Prop := W.heap[b]? = some (.cells (nums .i64 L).toArray 3 (0,0))
theorem Blk.cell {W : World} {b : Nat} {L : List Int} (h : Blk W b L) {n : Nat} (hn : n < L.length) : W.cell? ⟨b,n,none⟩ = some (.int .i64 (L.getD n 0)) := by
 refine (blk_cell h _).trans ?_
 rw [List.getElem?_toArray,nums,List.getElem?_map,List.getD_eq_getElem?_getD,List.getElem?_eq_getElem hn]
 rfl
theorem Blk.put {W : World} {b : Nat} {L : List Int} (h : Blk W b L) (n : Nat) (x : Int) : Blk (W.setCell ⟨b,n,none⟩ (.int .i64 x)) b (L.set n x) := by
 refine (blk_set h _ _).trans ?_
 rw [List.setIfInBounds_toArray,nums,nums,← List.map_set]
theorem Only.of_below {W W' : World} (h : Below W.heap.size W W') (b : Nat) : Only b W W' := ⟨h.os,h.tape,h.output,h.size,fun i hi _ => h.block i hi⟩
structure Tab (M : Ted.Ms) (x y wd nn : Nat) (P : Nat → Nat → Prop) (L : List Int) : Prop where
 len : L.length = nn
 val : ∀ u v,v < wd → P u v → L.getD (u * wd + v) 0 = Ted.D M x (x + u) y (y + v)
theorem Tab.mono {M : Ted.Ms} {x y wd nn : Nat} {P P' : Nat → Nat → Prop} {L : List Int} (h : Tab M x y wd nn P L) (k : ∀ u v,v < wd → P' u v → P u v) : Tab M x y wd nn P' L :=
 ⟨h.len,fun u v h1 h2 => h.val u v h1 (k u v h1 h2)⟩
theorem Tab.put {M : Ted.Ms} {x y wd nn : Nat} {P P' : Nat → Nat → Prop} {L : List Int} (h : Tab M x y wd nn P L) {u v n : Nat} {z : Int} (hn : n = u * wd + v) (hv : v < wd) (hl : n < nn) (hz : z = Ted.D M x (x + u) y (y + v))
  (k : ∀ u' v',v' < wd → P' u' v' → (u' = u ∧ v' = v) ∨ P u' v') : Tab M x y wd nn P' (L.set n z) := by
 subst hn
 refine ⟨by rw [List.length_set];exact h.len,fun u' v' h1 h2 => ?_⟩
 have hl2 := h.len
 rw [List.getD_eq_getElem?_getD,List.getElem?_set]
 by_cases e : u * wd + v = u' * wd + v'
 ·obtain ⟨rfl,rfl⟩ := two_inj hv h1 e
  rw [if_pos rfl,if_pos (by omega)]
  exact hz
 ·rw [if_neg e,← List.getD_eq_getElem?_getD]
  rcases k u' v' h1 h2 with ⟨rfl,rfl⟩ | h3
  ·exact absurd rfl e
  ·exact h.val u' v' h1 h3
structure Trs (A B : Nat) (o : Nat → Nat → Int) (T : List Int) : Prop where
 len : T.length = A * B
 val : ∀ p q,p < A → q < B → T.getD (p * B + q) 0 = o p q
theorem Trs.put {A B : Nat} {o o' : Nat → Nat → Int} {T : List Int} (h : Trs A B o T) {p q n : Nat} {z : Int} (hn : n = p * B + q) (hp : p < A) (hq : q < B) (hz : z = o' p q) (k : ∀ p' q',¬ (p' = p ∧ q' = q) → o' p' q' = o p' q') : Trs A B o' (T.set n z) := by
 subst hn
 refine ⟨by rw [List.length_set];exact h.len,fun p' q' h1 h2 => ?_⟩
 have hl2 := h.len
 have hl3 := two_lt hp hq
 rw [List.getD_eq_getElem?_getD,List.getElem?_set]
 by_cases e : p * B + q = p' * B + q'
 ·obtain ⟨rfl,rfl⟩ := two_inj hq h2 e
  rw [if_pos rfl,if_pos (by omega)]
  exact hz
 ·rw [if_neg e,← List.getD_eq_getElem?_getD,h.val p' q' h1 h2,k p' q' (fun hh => e (by rw [hh.1,hh.2]))]
theorem Trs.ext {A B : Nat} {o o' : Nat → Nat → Int} {T : List Int} (h : Trs A B o T) (k : ∀ p q,p < A → q < B → o' p q = o p q) : Trs A B o' T :=
 ⟨h.len,fun p q h1 h2 => (h.val p q h1 h2).trans (k p q h1 h2).symm⟩
def trs (M : Ted.Ms) (o : Nat → Nat → Int) (i j p q : Nat) (p' q' : Nat) : Int :=
 if M.la i ≤ p' ∧ p' ≤ i ∧ M.lb j ≤ q' ∧ q' ≤ j ∧ M.la p' = M.la i ∧ M.lb q' = M.lb j ∧ (p' < p ∨ p' = p ∧ q' < q) then Ted.TD M p' q' else o p' q'
theorem trs_start (M : Ted.Ms) (o : Nat → Nat → Int) {i j x : Nat} (hx : x = M.la i) (p' q' : Nat) : trs M o i j x 0 p' q' = o p' q' := by
 unfold trs
 rw [if_neg (by omega)]
theorem trs_line (M : Ted.Ms) (o : Nat → Nat → Int) {i j p y : Nat} (hy : y = M.lb j) (p' q' : Nat) : trs M o i j p y p' q' = trs M o i j p 0 p' q' := by
 unfold trs
 by_cases c : M.la i ≤ p' ∧ p' ≤ i ∧ M.lb j ≤ q' ∧ q' ≤ j ∧ M.la p' = M.la i ∧ M.lb q' = M.lb j ∧ (p' < p ∨ p' = p ∧ q' < y)
 ·rw [if_pos c,if_pos (by omega)]
 ·rw [if_neg c,if_neg (by omega)]
theorem trs_next (M : Ted.Ms) (o : Nat → Nat → Int) {i j p : Nat} (p' q' : Nat) : trs M o i j (p + 1) 0 p' q' = trs M o i j p (j + 1) p' q' := by
 unfold trs
 by_cases c : M.la i ≤ p' ∧ p' ≤ i ∧ M.lb j ≤ q' ∧ q' ≤ j ∧ M.la p' = M.la i ∧ M.lb q' = M.lb j ∧ (p' < p ∨ p' = p ∧ q' < j + 1)
 ·rw [if_pos c,if_pos (by omega)]
 ·rw [if_neg c,if_neg (by omega)]
theorem trs_same (M : Ted.Ms) (o : Nat → Nat → Int) {i j p q : Nat} (p' q' : Nat) (h : ¬ (p' = p ∧ q' = q)) : trs M o i j p (q + 1) p' q' = trs M o i j p q p' q' := by
 unfold trs
 by_cases c : M.la i ≤ p' ∧ p' ≤ i ∧ M.lb j ≤ q' ∧ q' ≤ j ∧ M.la p' = M.la i ∧ M.lb q' = M.lb j ∧ (p' < p ∨ p' = p ∧ q' < q)
 ·rw [if_pos (by omega),if_pos c]
 ·rw [if_neg (by omega),if_neg c]
theorem trs_skip (M : Ted.Ms) (o : Nat → Nat → Int) {i j p q : Nat} (hn : ¬ (M.la p = M.la i ∧ M.lb q = M.lb j)) (p' q' : Nat) : trs M o i j p (q + 1) p' q' = trs M o i j p q p' q' := by
 by_cases e : p' = p ∧ q' = q
 ·obtain ⟨rfl,rfl⟩ := e
  unfold trs
  rw [if_neg (by omega),if_neg (by omega)]
 ·exact trs_same M o p' q' e
theorem trs_here (M : Ted.Ms) (o : Nat → Nat → Int) {i j p q : Nat} : trs M o i j p q p q = o p q := by
 unfold trs
 rw [if_neg (by omega)]
theorem trs_set (M : Ted.Ms) (o : Nat → Nat → Int) {i j p q : Nat} (h1 : M.la i ≤ p) (h2 : p ≤ i) (h3 : M.lb j ≤ q) (h4 : q ≤ j) (h5 : M.la p = M.la i) (h6 : M.lb q = M.lb j) : trs M o i j p (q + 1) p q = Ted.D M (M.la i) (p + 1) (M.lb j) (q + 1) := by
 unfold trs
 rw [if_pos (by omega),Ted.TD,h5,h6]
structure Rs (M : Ted.Ms) (A B : Nat) (X Y : Nat → Nat) (bt : Nat) (a0 a1 a2 a3 a4 a5 a6 : Addr) (W : World) : Prop where
 r0 : ∀ p,p < A → W.cell? (a0.add p) = some (.int .i64 (X p : Int))
 r1 : ∀ q,q < B → W.cell? (a1.add q) = some (.int .i64 (Y q : Int))
 r2 : ∀ p,p < A → W.cell? (a2.add p) = some (.int .i64 (M.la p : Int))
 r3 : ∀ q,q < B → W.cell? (a3.add q) = some (.int .i64 (M.lb q : Int))
 r4 : ∀ p,p < A → W.cell? (a4.add (X p)) = some (.int .i64 (M.del p))
 r5 : ∀ q,q < B → W.cell? (a5.add (Y q)) = some (.int .i64 (M.ins q))
 r6 : ∀ p q,p < A → q < B → W.cell? (a6.add (6 * X p + Y q)) = some (.int .i64 (M.rel p q))
 n0 : a0.block ≠ bt
 n1 : a1.block ≠ bt
 n2 : a2.block ≠ bt
 n3 : a3.block ≠ bt
 n4 : a4.block ≠ bt
 n5 : a5.block ≠ bt
 n6 : a6.block ≠ bt
theorem Rs.only {M : Ted.Ms} {A B : Nat} {X Y : Nat → Nat} {bt : Nat} {a0 a1 a2 a3 a4 a5 a6 : Addr} {W W' : World} (h : Rs M A B X Y bt a0 a1 a2 a3 a4 a5 a6 W) (k : Only bt W W') : Rs M A B X Y bt a0 a1 a2 a3 a4 a5 a6 W' := by
 have f : ∀ {a : Addr} {n : Nat} {v : Value},a.block ≠ bt → W.cell? (a.add n) = some v → W'.cell? (a.add n) = some v := fun hn hc => k.cell (by rw [add_block];exact hn) hc
 exact ⟨fun p hp => f h.n0 (h.r0 p hp),fun p hp => f h.n1 (h.r1 p hp),fun p hp => f h.n2 (h.r2 p hp),fun p hp => f h.n3 (h.r3 p hp),fun p hp => f h.n4 (h.r4 p hp),fun p hp => f h.n5 (h.r5 p hp),fun p q hp hq => f h.n6 (h.r6 p q hp hq),h.n0,h.n1,h.n2,h.n3,h.n4,h.n5,h.n6⟩
structure Z8 (M : Ted.Ms) (A B : Nat) (X Y : Nat → Nat) (W : World) (g bf bt : Nat) (a0 a1 a2 a3 a4 a5 a6 : Addr) (c0 c1 c2 c3 c4 c5 c6 : Nat) (L T : List Int) (w' : World) : Prop where
 box : w'.heap[g]? = some (.cells #[.slice (some a0) A c0,.slice (some a1) B c1,.slice (some a2) A c2,.slice (some a3) B c3,.slice (some a4) 6 c4,.slice (some a5) 6 c5,.slice (some a6) 36 c6] 134 (0,0))
 f : Blk w' bf L
 t : Blk w' bt T
 only : Only bt W w'
 rs : Rs M A B X Y bt a0 a1 a2 a3 a4 a5 a6 w'
 gf : g ≠ bf
 gt : g ≠ bt
 ft : bf ≠ bt
 hf : W.heap.size ≤ bf
section
variable {M : Ted.Ms} {A B : Nat} {X Y : Nat → Nat} {W : World} {g bf bt : Nat} {a0 a1 a2 a3 a4 a5 a6 : Addr} {c0 c1 c2 c3 c4 c5 c6 : Nat} {L T : List Int} {w : World}
theorem Z8.boxes (h : Z8 M A B X Y W g bf bt a0 a1 a2 a3 a4 a5 a6 c0 c1 c2 c3 c4 c5 c6 L T w) :
  w.cell? ⟨g,0,none⟩ = some (.slice (some a0) A c0) ∧ w.cell? ⟨g,1,none⟩ = some (.slice (some a1) B c1) ∧ w.cell? ⟨g,2,none⟩ = some (.slice (some a2) A c2) ∧ w.cell? ⟨g,3,none⟩ = some (.slice (some a3) B c3) ∧
   w.cell? ⟨g,4,none⟩ = some (.slice (some a4) 6 c4) ∧ w.cell? ⟨g,5,none⟩ = some (.slice (some a5) 6 c5) ∧ w.cell? ⟨g,6,none⟩ = some (.slice (some a6) 36 c6) :=
 ⟨(blk_cell h.box 0).trans rfl,(blk_cell h.box 1).trans rfl,(blk_cell h.box 2).trans rfl,(blk_cell h.box 3).trans rfl,(blk_cell h.box 4).trans rfl,(blk_cell h.box 5).trans rfl,(blk_cell h.box 6).trans rfl⟩
theorem Z8.drew (h : Z8 M A B X Y W g bf bt a0 a1 a2 a3 a4 a5 a6 c0 c1 c2 c3 c4 c5 c6 L T w) : Z8 M A B X Y W g bf bt a0 a1 a2 a3 a4 a5 a6 c0 c1 c2 c3 c4 c5 c6 L T w.drew :=
 ⟨h.box,h.f,h.t,h.only.drew,h.rs.only ((Only.refl bt w).drew),h.gf,h.gt,h.ft,h.hf⟩
theorem Z8.drawn {w' : World} (h : Z8 M A B X Y W g bf bt a0 a1 a2 a3 a4 a5 a6 c0 c1 c2 c3 c4 c5 c6 L T w) (k : Drawn0 w w') : Z8 M A B X Y W g bf bt a0 a1 a2 a3 a4 a5 a6 c0 c1 c2 c3 c4 c5 c6 L T w' := by
 have hb := k.below
 exact ⟨blk_below h.box hb,blk_below h.f hb,blk_below h.t hb,h.only.trans (Only.of_below hb bt),h.rs.only (Only.of_below hb bt),h.gf,h.gt,h.ft,h.hf⟩
theorem Z8.putf (h : Z8 M A B X Y W g bf bt a0 a1 a2 a3 a4 a5 a6 c0 c1 c2 c3 c4 c5 c6 L T w) (r : Rs M A B X Y bt a0 a1 a2 a3 a4 a5 a6 W) (n : Nat) (x : Int) : Z8 M A B X Y W g bf bt a0 a1 a2 a3 a4 a5 a6 c0 c1 c2 c3 c4 c5 c6 (L.set n x) T (w.setCell ⟨bf,n,none⟩ (.int .i64 x)) := by
 have ho : Only bt W (w.setCell ⟨bf,n,none⟩ (.int .i64 x)) := by
  refine ⟨h.only.os,h.only.tape,h.only.output,by rw [show (w.setCell ⟨bf,n,none⟩ (.int .i64 x)).heap.size = w.heap.size from by simp [World.setCell]];exact h.only.size,fun i hi hn => (Below.heap_setCell w ⟨bf,n,none⟩ _ i (fun e => ?_)).trans (h.only.block i hi hn)⟩
  have := h.hf
  have e' : i = bf := e
  omega
 exact ⟨blk_far h.box (p := ⟨bf,n,none⟩) h.gf _,h.f.put n x,blk_far h.t (p := ⟨bf,n,none⟩) (fun e => h.ft e.symm) _,ho,r.only ho,h.gf,h.gt,h.ft,h.hf⟩
theorem Z8.putt (h : Z8 M A B X Y W g bf bt a0 a1 a2 a3 a4 a5 a6 c0 c1 c2 c3 c4 c5 c6 L T w) (r : Rs M A B X Y bt a0 a1 a2 a3 a4 a5 a6 W) (n : Nat) (x : Int) : Z8 M A B X Y W g bf bt a0 a1 a2 a3 a4 a5 a6 c0 c1 c2 c3 c4 c5 c6 L (T.set n x) (w.setCell ⟨bt,n,none⟩ (.int .i64 x)) := by
 have ho := h.only.setCell n (.int .i64 x)
 exact ⟨blk_far h.box (p := ⟨bt,n,none⟩) h.gt _,blk_far h.f (p := ⟨bt,n,none⟩) h.ft _,h.t.put n x,ho,r.only ho,h.gf,h.gt,h.ft,h.hf⟩
end
theorem w_nat {n : Nat} (h : n ≤ 100000) : wrap64 (n : Int) = (n : Int) := wid (by omega) (by omega)
theorem w_sub {a b c : Nat} (h : b + c = a) (ha : a ≤ 100000) : wrap64 ((a : Int) - (b : Int)) = (c : Int) := by rw [wid (by omega) (by omega)];omega
theorem w_add {a b c : Nat} (h : a + b = c) (hc : c ≤ 100000) : wrap64 ((a : Int) + (b : Int)) = (c : Int) := by rw [wid (by omega) (by omega)];omega
theorem w_mul {a b c : Nat} (h : c = a * b) (hc : c ≤ 100000) : wrap64 ((a : Int) * (b : Int)) = (c : Int) := by rw [← Int.natCast_mul,← h];exact w_nat hc
theorem w_inc {a b : Nat} (h : a + 1 = b) (hb : b ≤ 100000) : wrap64 ((a : Int) + 1) = (b : Int) := by rw [wid (by omega) (by omega)];omega
theorem w_dec {a b : Nat} (h : a + 1 = b) (hb : b ≤ 100000) : wrap64 ((b : Int) - 1) = (a : Int) := by rw [wid (by omega) (by omega)];omega
theorem w_two {a b : Nat} (h : a + 2 = b) (hb : b ≤ 100000) : wrap64 ((a : Int) + 2) = (b : Int) := by rw [wid (by omega) (by omega)];omega
theorem w_six {a b : Nat} (h : 6 * a = b) (hb : b ≤ 100000) : wrap64 ((a : Int) * 6) = (b : Int) := by rw [wid (by omega) (by omega)];omega
abbrev Vi (x y : Int) : Prop := Value.int .i64 x = Value.int .i64 y
theorem vi {x y : Int} (h : x = y) : Vi x y := congrArg _ h
theorem iw {x y : Int} (h : wrap64 x = y) : IntKind.i64.wrap x = y := (i64_w x).trans h
theorem tab0 (M : Ted.Ms) (x y wd nn : Nat) (hn : 0 < nn) : Tab M x y wd nn (fun u v => v = 0 ∧ u = 0) (List.replicate nn 0) := by
 refine ⟨List.length_replicate,fun u v _ h => ?_⟩
 obtain ⟨rfl,rfl⟩ := h
 rw [Nat.zero_mul,Nat.add_zero,Nat.add_zero,Nat.add_zero,Ted.D_none M (Nat.lt_irrefl x) (Nat.lt_irrefl y),List.getD_eq_getElem?_getD,List.getElem?_replicate,if_pos hn]
 rfl
section
variable {P : Program} {ops : Array Oper} {rest : List Oper} {o : Oper} {a : Act} {Q : Exit → Act → World → Prop}
theorem make_w {W : World} (hgd : o.guard = none) {N : Tmp} (hd : o.dst = some N) (t : TypeId) (x y : Operand) (ho : o.op = .makeSlice t x y) (m : Nat) (hx : a.eval x = .int .i64 (m : Int)) (hy : a.eval y = .int .i64 (m : Int))
  {e : TypeId} (ht : P.underlying t = some (.slice e)) (hinfo : (P.info? e).map (fun i => (i.zero,i.size,i.bytes)) = some (some (.int .i64 0),1,8)) (hl : m ≤ 1000000)
  (h : ∀ g,g = W.heap.size → ∀ w1,w1.heap[g]? = some (.cells (nums .i64 (List.replicate m 0)).toArray e (0,0)) → Below W.heap.size W w1 → wpList P ops Q rest (a.put o.dst (.slice (some ⟨g,0,none⟩) m m)) w1) : wpList P ops Q (o :: rest) a W := by
 obtain ⟨i0,hi,hzz⟩ := Option.map_eq_some_iff.1 hinfo
 simp only [Prod.mk.injEq] at hzz
 obtain ⟨hz0,hz1,hz2⟩ := hzz
 have hr := run_make (P := P) W t e i0 _ ht hi hz0 .i64 .i64 (m : Int) (m : Int) (by omega) (by omega) (by rw [hz2];omega) (by omega)
 simp only [Int.toNat_natCast] at hr
 rw [hz1] at hr
 have hc : madeCells (Value.int .i64 0).cells (m * 1) = (nums .i64 (List.replicate m 0)).toArray := by
  apply Array.ext
  ·simp [size_madeCells,nums]
  ·intro j h1 h2
   simp [madeCells,Value.cells,nums,Nat.mod_one]
 rw [hc] at hr
 exact Kd.event_run hgd (by simp [execOp,ho,hx,hy,hr]) (h _ rfl _ (blk_new W _) (below_alloc (Below.refl _ _) _))
end
structure Pr8 (M : Ted.Ms) (A B i j x y n1 m1 h wd nn : Nat) : Prop where
 hA : A ≤ 24
 hB : B ≤ 24
 hi : i < A
 hj : j < B
 hx : x = M.la i
 hy : y = M.lb j
 ex : x + n1 = i
 ey : y + m1 = j
 eh : h = n1 + 2
 ew : wd = m1 + 2
 en : nn = h * wd
 nl : nn ≤ 676
 n0 : 0 < nn
theorem mul26 {a b : Nat} (ha : a ≤ 26) (hb : b ≤ 26) : a * b ≤ 676 := Nat.mul_le_mul ha hb
theorem min_two_of {a b c : Int} : min a (min b c) = (if c < (if b < a then b else a) then c else (if b < a then b else a)) := (min3 rfl).symm
theorem cell8 {M : Ted.Ms} {A B i j x y n1 m1 h wd nn p q u v : Nat} (K : Pr8 M A B i j x y n1 m1 h wd nn) (hs : Small M) (lamA : Ted.Lam M.la A) (lamB : Ted.Lam M.lb B) (hla : ∀ p,p < A → M.la p ≤ p) (hlb : ∀ q,q < B → M.lb q ≤ q) (hp : x + u = p) (hpi : p ≤ i) (hq : y + v = q) (hqj : q ≤ j) :
  x ≤ M.la p ∧ M.la p ≤ p ∧ y ≤ M.lb q ∧ M.lb q ≤ q ∧ ∃ z1 z2 z3 mm d1 d2 d3 : Int,d1 = Ted.D M x p y (q + 1) ∧ d2 = Ted.D M x (p + 1) y q ∧ IntKind.i64.wrap (d1 + M.del p) = z1 ∧ IntKind.i64.wrap (d2 + M.ins q) = z2 ∧ (if z2 < z1 then z2 else z1) = mm ∧
   (M.la p = x ∧ M.lb q = y → d3 = Ted.D M x p y q ∧ IntKind.i64.wrap (d3 + M.rel p q) = z3 ∧ (if z3 < mm then z3 else mm) = Ted.D M x (p + 1) y (q + 1)) ∧
   (¬ (M.la p = x ∧ M.lb q = y) → d3 = Ted.D M x (M.la p) y (M.lb q) ∧ IntKind.i64.wrap (d3 + Ted.TD M p q) = z3 ∧ (if z3 < mm then z3 else mm) = Ted.D M x (p + 1) y (q + 1)) := by
 obtain ⟨hA,hB,hi,hj,hx,hy,ex,ey,eh,ew,en,nl,n0⟩ := K
 have h1 := lamA i p hi (by omega) hpi
 have h2 := lamB j q hj (by omega) hqj
 have h3 := hla p (by omega)
 have h4 := hlb q (by omega)
 have hz := Ted.zs_cell M lamA lamB (x := x) (p := p) (y := y) (q := q) (by omega) (by omega) h3 h4 (by omega) (by omega)
 have s1 := D_small hs x p y (q + 1)
 have s2 := D_small hs x (p + 1) y q
 have s3 := D_small hs x p y q
 have s4 := D_small hs x (M.la p) y (M.lb q)
 have s5 := D_small hs (M.la p) (p + 1) (M.lb q) (q + 1)
 have s6 := hs.del p
 have s7 := hs.ins q
 have s8 := hs.rel p q
 rw [min_two_of] at hz
 refine ⟨by omega,h3,by omega,h4,Ted.D M x p y (q + 1) + M.del p,Ted.D M x (p + 1) y q + M.ins q,if M.la p = x ∧ M.lb q = y then Ted.D M x p y q + M.rel p q else Ted.D M x (M.la p) y (M.lb q) + Ted.TD M p q,_,_,_,if M.la p = x ∧ M.lb q = y then Ted.D M x p y q else Ted.D M x (M.la p) y (M.lb q),rfl,rfl,iw (wid (by omega) (by omega)),iw (wid (by omega) (by omega)),rfl,fun c => ?_,fun c => ?_⟩
 ·rw [if_pos c,if_pos c]
  rw [if_pos c] at hz
  exact ⟨rfl,iw (wid (by omega) (by omega)),hz.symm⟩
 ·rw [if_neg c,if_neg c]
  rw [if_neg c] at hz
  have : Ted.TD M p q = Ted.D M (M.la p) (p + 1) (M.lb q) (q + 1) := rfl
  exact ⟨rfl,iw (wid (by omega) (by omega)),hz.symm⟩
end Go.Proofs.Ytngphdmbjenkaaa.X
namespace Go.Proofs.Ytngphdmbjenkaaa.X
open Go.RowKit Go.Proofs.YtngphdmbjenkaaaW.PrintWords Go.Proofs.YtngphdmbjenkaaaW.PrintLast Go.Proofs.YtngphdmbjenkaaaW.PrintMore
set_option linter.unusedVariables false
set_option linter.unusedSimpArgs false
attribute [local go_sem] max2_int min2_int max_two min_two
def DistAt (M : Ted.Ms) (A B : Nat) (X Y : Nat → Nat) (N : Nat) : Prop := ∀ i j k m : Nat,(j - i) + (m - k) = N → i ≤ j → j ≤ A → k ≤ m → m ≤ B → ∀ (W : World) (b g : Nat),Mem M A B X Y W b g → Kn M A B W b →
 Calls Try.prog 159 #[.pointer (some ⟨g,0,none⟩),.int .i64 (i : Int),.int .i64 (j : Int),.int .i64 (k : Int),.int .i64 (m : Int)] W fun e w' => e = .returned (.int .i64 (Ted.D M i j k m)) ∧ Only b W w' ∧ Kn M A B w' b
structure DS (M : Ted.Ms) (A B : Nat) (X Y : Nat → Nat) (W : World) (b g : Nat) (v0 v1 v2 v3 v5 v6 v7 : Value) (w' : World) : Prop where
 c0 : w'.cell? ⟨g,0,none⟩ = some v0
 c1 : w'.cell? ⟨g,1,none⟩ = some v1
 c2 : w'.cell? ⟨g,2,none⟩ = some v2
 c3 : w'.cell? ⟨g,3,none⟩ = some v3
 c4 : w'.cell? ⟨g,4,none⟩ = some (.slice (some ⟨b,0,none⟩) (ksz A B) (ksz A B))
 c5 : w'.cell? ⟨g,5,none⟩ = some v5
 c6 : w'.cell? ⟨g,6,none⟩ = some v6
 c7 : w'.cell? ⟨g,7,none⟩ = some v7
 sm : Mem M A B X Y w' b g
 sk : Kn M A B w' b
 so : Only b W w'
theorem DS.start {M : Ted.Ms} {A B : Nat} {X Y : Nat → Nat} {W : World} {b g : Nat} {v0 v1 v2 v3 v5 v6 v7 : Value} (mem : Mem M A B X Y W b g) (kn : Kn M A B W b) (h : W.heap[g]? = some (.cells #[v0,v1,v2,v3,.slice (some ⟨b,0,none⟩) (ksz A B) (ksz A B),v5,v6,v7] 144 (0,0))) :
  DS M A B X Y W b g v0 v1 v2 v3 v5 v6 v7 W :=
 ⟨(blk_cell h 0).trans rfl,(blk_cell h 1).trans rfl,(blk_cell h 2).trans rfl,(blk_cell h 3).trans rfl,(blk_cell h 4).trans rfl,(blk_cell h 5).trans rfl,(blk_cell h 6).trans rfl,(blk_cell h 7).trans rfl,mem,kn,Only.refl b W⟩
theorem DS.drew {M : Ted.Ms} {A B : Nat} {X Y : Nat → Nat} {W : World} {b g : Nat} {v0 v1 v2 v3 v5 v6 v7 : Value} {w : World} (h : DS M A B X Y W b g v0 v1 v2 v3 v5 v6 v7 w) : DS M A B X Y W b g v0 v1 v2 v3 v5 v6 v7 w.drew :=
 ⟨h.c0,h.c1,h.c2,h.c3,h.c4,h.c5,h.c6,h.c7,h.sm.only ((Only.refl b w).drew),h.sk.keep rfl,h.so.drew⟩
theorem DS.far {M : Ted.Ms} {A B : Nat} {X Y : Nat → Nat} {W : World} {b g : Nat} {v0 v1 v2 v3 v5 v6 v7 : Value} {w : World} (h : DS M A B X Y W b g v0 v1 v2 v3 v5 v6 v7 w) : g ≠ b := by
 obtain ⟨_,_,_,_,_,_,_,_,hg,_⟩ := h.sm.is
 exact hg
theorem DS.goes {M : Ted.Ms} {A B : Nat} {X Y : Nat → Nat} {W : World} {b g N : Nat} {v0 v1 v2 v3 v5 v6 v7 : Value} {w : World} (IH : ∀ N',N' < N → DistAt M A B X Y N') (h : DS M A B X Y W b g v0 v1 v2 v3 v5 v6 v7 w)
  {i' j' k' m' : Nat} (hN : (j' - i') + (m' - k') < N) (h1 : i' ≤ j') (h2 : j' ≤ A) (h3 : k' ≤ m') (h4 : m' ≤ B) :
  Calls Try.prog 159 #[.pointer (some ⟨g,0,none⟩),.int .i64 (i' : Int),.int .i64 (j' : Int),.int .i64 (k' : Int),.int .i64 (m' : Int)] w fun e w' => e = .returned (.int .i64 (Ted.D M i' j' k' m')) ∧ DS M A B X Y W b g v0 v1 v2 v3 v5 v6 v7 w' ∧ Only b w w' := by
 refine (IH _ hN i' j' k' m' rfl h1 h2 h3 h4 w b g h.sm h.sk).mono ?_
 rintro e w' ⟨rfl,ho,hk⟩
 have n := h.far
 exact ⟨rfl,⟨ho.cell n h.c0,ho.cell n h.c1,ho.cell n h.c2,ho.cell n h.c3,ho.cell n h.c4,ho.cell n h.c5,ho.cell n h.c6,ho.cell n h.c7,h.sm.only ho,hk,h.so.trans ho⟩,ho⟩
def l9DistR.T10 : Bool × List (List Nat × List Nat) := (true,[([],[]),([],[]),([],[]),([2],[2]),([],[]),([],[]),([0,1,3,4,5],[0,1,3,4,5]),([],[]),([7],[7]),([8],[8]),([9],[9]),([10],[10]),([],[]),([12],[12]),([13],[13]),([14],[14]),([],[]),([16],[16]),([15,17],[15,17]),([18],[18]),([11,19],[11,19]),([20],[20]),([6,21],[6,21]),([22,6,0,1,2,3,4,5,6,7,8,9,10,11,12,13,14,15,16,17,18,19,20,21,22],[22])])
def l9DistR.B10 : List Nat := [0,0,0,4,0,0,63,0,128,384,896,1920,0,4096,12288,28672,0,65536,258048,520192,1048448,2097024,4194303,8388607]
theorem l9DistR.tab10 : rtab .any (opsOf Try.f159 10) = l9DistR.T10 := by kernel_rfl
theorem l9DistR.bits10 : waitsOk l9DistR.T10.2 l9DistR.B10 = true := by kernel_rfl
def l9DistR.T12 : Bool × List (List Nat × List Nat) := (true,[([],[]),([],[]),([],[]),([],[]),([],[]),([4],[4]),([0,1,2,3,5],[0,1,2,3,5]),([],[]),([7],[7]),([8],[8]),([9],[9]),([10],[10]),([],[]),([12],[12]),([13],[13]),([14],[14]),([],[]),([16],[16]),([15,17],[15,17]),([18],[18]),([11,19],[11,19]),([20],[20]),([6,21],[6,21]),([22,6,0,1,2,3,4,5,6,7,8,9,10,11,12,13,14,15,16,17,18,19,20,21,22],[22])])
def l9DistR.B12 : List Nat := [0,0,0,0,0,16,63,0,128,384,896,1920,0,4096,12288,28672,0,65536,258048,520192,1048448,2097024,4194303,8388607]
theorem l9DistR.tab12 : rtab .any (opsOf Try.f159 12) = l9DistR.T12 := by kernel_rfl
theorem l9DistR.bits12 : waitsOk l9DistR.T12.2 l9DistR.B12 = true := by kernel_rfl
def l9MatchR.T3 : Bool × List (List Nat × List Nat) := (true,[([],[]),([],[]),([],[]),([],[]),([],[]),([0,1,2,3,4],[0,1,2,3,4]),([],[]),([],[]),([],[]),([8],[8]),([],[]),([],[]),([11],[11]),([6,7,9,10,12,5],[6,7,9,10,12]),([5,13],[5,13]),([],[]),([15],[15]),([16],[16]),([17],[17]),([18],[18]),([],[]),([20],[20]),([21],[21]),([22],[22]),([],[]),([24],[24]),([23,25],[23,25]),([26],[26]),([27],[27]),([],[]),([29],[29]),([30],[30]),([31],[31]),([],[]),([33],[33]),([32,34],[32,34]),([35],[35]),([28,36],[28,36]),([19,37],[19,37]),([38],[38]),([14,39],[14,39]),([40,13,0,1,2,3,4,5,6,7,8,9,10,11,12,13,14,15,16,17,18,19,20,21,22,23,24,25,26,27,28,29,30,31,32,33,34,35,36,37,38,39,40],[40])])
def l9MatchR.B3 : List Nat := [0,0,0,0,0,31,0,0,0,256,0,0,2048,8191,16383,0,32768,98304,229376,491520,0,1048576,3145728,7340032,0,16777216,66060288,133169152,267386880,0,536870912,1610612736,3758096384,0,8589934592,33822867456,68182605824,137437904896,274877874176,549755781120,1099511627775,2199023255551]
theorem l9MatchR.tab3 : rtab .any (opsOf Try.f165 3) = l9MatchR.T3 := by kernel_rfl
theorem l9MatchR.bits3 : waitsOk l9MatchR.T3.2 l9MatchR.B3 = true := by kernel_rfl
end Go.Proofs.Ytngphdmbjenkaaa.X
namespace Go.Proofs.Ytngphdmbjenkaaa.X
open Go.RowKit Go.Proofs.YtngphdmbjenkaaaW.PrintWords Go.Proofs.YtngphdmbjenkaaaW.PrintLast Go.Proofs.YtngphdmbjenkaaaW.PrintMore
set_option linter.unusedVariables false
set_option linter.unusedSimpArgs false
section
variable {P : Program} {ops : Array Oper} {o : Oper} {a : Act} {Q : Exit → Act → World → Prop} {Kc : Act → World → Prop}
end
structure RV (W : World) (lo hi : Nat) (v : Value) (n : Nat) (f : Nat → Int) : Prop where
 is : ∃ g c,v = .slice (some ⟨g,0,none⟩) n c ∧ n ≤ c ∧ lo ≤ g ∧ g < hi ∧ ∀ p,p < n → W.cell? ((⟨g,0,none⟩ : Addr).add p) = some (.int .i64 (f p))
theorem RV.below {W W1 : World} {lo hi : Nat} {v : Value} {n : Nat} {f : Nat → Int} (h : RV W lo hi v n f) (k : Below W.heap.size W W1) : RV W1 lo hi v n f := by
 obtain ⟨g,c,e,hc,h1,h2,h3⟩ := h.is
 exact ⟨g,c,e,hc,h1,h2,fun p hp => pw_cell_below k (h3 p hp)⟩
theorem RV.row1 {W : World} {lo hi b : Nat} {v : Value} {n : Nat} {f : Nat → Int} (h : RV W lo hi v n f) (hb : b < lo ∨ hi ≤ b) : Row1 W b v n f := by
 obtain ⟨g,c,e,hc,h1,h2,h3⟩ := h.is
 exact ⟨⟨g,0,none⟩,c,e,hc,by show g ≠ b;omega,h3⟩
theorem RV.val {W : World} {lo hi : Nat} {v : Value} {n : Nat} {f : Nat → Int} (h : RV W lo hi v n f) : ∃ g c,v = .slice (some ⟨g,0,none⟩) n c := by
 obtain ⟨g,c,e,_⟩ := h.is
 exact ⟨g,c,e⟩
theorem row_iv {w1 w2 : World} {ok : Nat → Prop} {v : Value} {n : Nat} {f : Nat → Int} (h : Kd.R (Kd.int .i64) 3 w2 w1.heap.size ok v ((List.range n).map f)) (hn : 0 < n) : RV w2 w1.heap.size w2.heap.size v n f := by
 have hl : ((List.range n).map f).length = n := by simp
 obtain ⟨g,c,e,h1,h2,_⟩ := Kd.R_form h (by omega)
 subst e
 obtain ⟨_,h3,h4⟩ := Kd.R_reads' h
 rw [hl] at h3 h4 ⊢
 refine ⟨g,c,rfl,h3,h1,h2,fun p hp => ?_⟩
 obtain ⟨ad,e,hx⟩ := Kd.at_int h4 (p : Int) (by omega) (by omega)
 cases e
 rw [Int.toNat_natCast] at hx
 rw [hx]
 have : rd ((List.range n).map f) (p : Int) = f p := by
  unfold rd
  rw [Int.toNat_natCast,List.getD_eq_getElem?_getD,List.getElem?_map,List.getElem?_range hp];rfl
 rw [this]
structure NS (w : World) (g : Nat) (x0 x1 x2 : Value) (w' : World) : Prop where
 c0 : w'.cell? ⟨g,0,none⟩ = some x0
 c1 : w'.cell? ⟨g,1,none⟩ = some x1
 c2 : w'.cell? ⟨g,2,none⟩ = some x2
 bel : Below w.heap.size w w'
theorem NS.start {w : World} {ty : TypeId} (x0 x1 x2 : Value) : NS w w.heap.size x0 x1 x2 (w.alloc (.cells #[x0,x1,x2] ty)).drew :=
 have h : (w.alloc (.cells #[x0,x1,x2] ty)).heap[w.heap.size]? = some (.cells #[x0,x1,x2] ty (0,0)) := (MapKept.heap_alloc w _).1
 ⟨(blk_cell h 0).trans rfl,(blk_cell h 1).trans rfl,(blk_cell h 2).trans rfl,below_drew (below_alloc (Below.refl _ _) _)⟩
theorem NS.step {w w1 w2 : World} {g : Nat} {x0 x1 x2 : Value} (h : NS w g x0 x1 x2 w1) (k : Below w1.heap.size w1 w2) : NS w g x0 x1 x2 w2 :=
 ⟨pw_cell_below k h.c0,pw_cell_below k h.c1,pw_cell_below k h.c2,below_step h.bel k⟩
def l9NewR.T3 : Bool × List (List Nat × List Nat) := (true,[([],[]),([0],[0]),([],[]),([2,1],[2]),([],[]),([4,3],[4]),([],[]),([6,5],[6]),([],[]),([],[]),([8,9],[8,9]),([],[]),([10,11],[10,11]),([],[]),([12,13],[12,13]),([14,14],[14]),([],[]),([1,3,5,7,15,16],[1,3,5,7,15,16]),([17],[17]),([18,7,0,1,2,3,4,5,6,7,8,9,10,11,12,13,14,15,16,17,18],[18])])
def l9NewR.B3 : List Nat := [0,1,0,7,0,31,0,127,0,0,768,0,3840,0,16128,32512,0,131071,262143,524287]
theorem l9NewR.tab3 : rtab .any (opsOf Try.f97 3) = l9NewR.T3 := by kernel_rfl
theorem l9NewR.bits3 : waitsOk l9NewR.T3.2 l9NewR.B3 = true := by kernel_rfl
end Go.Proofs.Ytngphdmbjenkaaa.X
namespace Go.Proofs.Ytngphdmbjenkaaa.X
open Go.RowKit Go.Proofs.YtngphdmbjenkaaaW.PrintWords Go.Proofs.YtngphdmbjenkaaaW.PrintLast Go.Proofs.YtngphdmbjenkaaaW.PrintMore
set_option linter.unusedVariables false
set_option linter.unusedSimpArgs false
def tops (bs : Nat → Nat) (wd h k : Nat) : Array Value := ((List.range h).map fun r => if r < k then Value.slice (some ⟨bs r,0,none⟩) wd wd else Value.slice none 0 0).toArray
theorem tops_at {bs : Nat → Nat} {wd h k r : Nat} (hr : r < h) : (tops bs wd h k)[r]? = some (if r < k then Value.slice (some ⟨bs r,0,none⟩) wd wd else Value.slice none 0 0) := by
 unfold tops
 rw [List.getElem?_toArray,List.getElem?_map,List.getElem?_range hr]
 rfl
theorem tops_put {bs : Nat → Nat} {wd h k g : Nat} (hk : k < h) : (tops bs wd h k).setIfInBounds k (Value.slice (some ⟨g,0,none⟩) wd wd) = tops (fun r => if r = k then g else bs r) wd h (k + 1) := by
 unfold tops
 rw [List.setIfInBounds_toArray]
 congr 1
 apply List.ext_getElem?
 intro r
 rw [List.getElem?_set,List.length_map,List.length_range]
 by_cases hr : r < h
 ·rw [List.getElem?_map,List.getElem?_map,List.getElem?_range hr]
  by_cases e : k = r
  ·subst e
   rw [if_pos rfl,if_pos hk]
   simp only [Option.map_some,if_true]
   rw [if_pos (by omega)]
  ·rw [if_neg e]
   simp only [Option.map_some]
   have e' : ¬ r = k := fun z => e z.symm
   rw [if_neg e']
   by_cases c : r < k
   ·rw [if_pos c,if_pos (by omega)]
   ·rw [if_neg c,if_neg (by omega)]
 ·rw [List.getElem?_eq_none (by simp;omega),List.getElem?_eq_none (by simp;omega),if_neg (by omega)]
theorem tops_none (bs : Nat → Nat) (wd h : Nat) : tops bs wd h 0 = (List.replicate h (Value.slice none 0 0)).toArray := by
 unfold tops
 congr 1
 apply List.ext_getElem?
 intro r
 by_cases hr : r < h
 ·rw [List.getElem?_map,List.getElem?_range hr,List.getElem?_replicate,if_pos hr];rfl
 ·rw [List.getElem?_eq_none (by simp;omega),List.getElem?_eq_none (by simp;omega)]
structure Rw (W : World) (bo : Nat) (bs : Nat → Nat) (h wd : Nat) (F : Nat → List Int) : Prop where
 top : W.heap[bo]? = some (.cells (tops bs wd h h) 25 (0,0))
 row : ∀ r,r < h → Blk W (bs r) (F r)
 len : ∀ r,r < h → (F r).length = wd
 inj : ∀ r s,r < h → s < h → bs r = bs s → r = s
 ne : ∀ r,r < h → bs r ≠ bo
section
variable {W W' : World} {bo h wd : Nat} {bs : Nat → Nat} {F : Nat → List Int}
theorem Rw.cell0 (H : Rw W bo bs h wd F) {r : Nat} (hr : r < h) : W.cell? ⟨bo,r,none⟩ = some (.slice (some ⟨bs r,0,none⟩) wd wd) := by
 refine (blk_cell H.top r).trans ?_
 rw [tops_at hr,if_pos hr]
theorem Rw.cell (H : Rw W bo bs h wd F) {r s : Nat} (hr : r < h) (hs : s < wd) : W.cell? ⟨bs r,s,none⟩ = some (.int .i64 ((F r).getD s 0)) := (H.row r hr).cell (by rw [H.len r hr];exact hs)
theorem Rw.froz (H : Rw W bo bs h wd F) {r : Nat} (hr : r < h) (s : Nat) : W.frozen? ⟨bs r,s,none⟩ = false := blk_frozen (H.row r hr) s
theorem Rw.move (H : Rw W bo bs h wd F) (k0 : W'.heap[bo]? = W.heap[bo]?) (k : ∀ r,r < h → W'.heap[bs r]? = W.heap[bs r]?) : Rw W' bo bs h wd F :=
 ⟨k0.trans H.top,fun r hr => (k r hr).trans (H.row r hr),H.len,H.inj,H.ne⟩
theorem Rw.below (H : Rw W bo bs h wd F) (k : Below W.heap.size W W') : Rw W' bo bs h wd F := H.move (k.block _ (blk_lt H.top)) (fun r hr => k.block _ (blk_lt (H.row r hr)))
theorem Rw.far (H : Rw W bo bs h wd F) {b n : Nat} (v : Value) (h0 : bo ≠ b) (h1 : ∀ r,r < h → bs r ≠ b) : Rw (W.setCell ⟨b,n,none⟩ v) bo bs h wd F :=
 H.move (Below.heap_setCell W ⟨b,n,none⟩ v bo h0) (fun r hr => Below.heap_setCell W ⟨b,n,none⟩ v (bs r) (h1 r hr))
theorem Rw.put (H : Rw W bo bs h wd F) {r : Nat} (hr : r < h) (s : Nat) (x : Int) : Rw (W.setCell ⟨bs r,s,none⟩ (.int .i64 x)) bo bs h wd (fun u => if u = r then (F r).set s x else F u) := by
 refine ⟨(Below.heap_setCell W ⟨bs r,s,none⟩ _ bo (fun e => H.ne r hr e.symm)).trans H.top,fun u hu => ?_,fun u hu => ?_,H.inj,H.ne⟩
 ·by_cases e : u = r
  ·subst e
   show Blk _ _ (if u = u then _ else _)
   rw [if_pos rfl]
   exact (H.row u hu).put s x
  ·show Blk _ _ (if u = r then _ else _)
   rw [if_neg e]
   exact (Below.heap_setCell W ⟨bs r,s,none⟩ _ (bs u) (fun z => e (H.inj u r hu hr z))).trans (H.row u hu)
 ·show (if u = r then _ else _ : List Int).length = wd
  by_cases e : u = r
  ·rw [if_pos e,List.length_set];exact H.len r hr
  ·rw [if_neg e];exact H.len u hu
end
structure TabI (M : Ted.Ms) (x y h wd : Nat) (P : Nat → Nat → Prop) (F : Nat → List Int) : Prop where
 val : ∀ u v,u < h → v < wd → P u v → (F u).getD v 0 = Ted.D M x (x + u) y (y + v)
theorem getD_set (l : List Int) (s v : Nat) (z : Int) (hs : s < l.length) : (l.set s z).getD v 0 = if v = s then z else l.getD v 0 := by
 rw [List.getD_eq_getElem?_getD,List.getElem?_set]
 by_cases e : s = v
 ·subst e;rw [if_pos rfl,if_pos hs,if_pos rfl];rfl
 ·rw [if_neg e,if_neg (fun z => e z.symm),List.getD_eq_getElem?_getD]
theorem TabI.put {M : Ted.Ms} {x y h wd : Nat} {P P' : Nat → Nat → Prop} {F : Nat → List Int} (H : TabI M x y h wd P F) {r s : Nat} {z : Int} (hl : (F r).length = wd) (hs : s < wd) (hz : z = Ted.D M x (x + r) y (y + s))
  (k : ∀ u v,u < h → v < wd → P' u v → (u = r ∧ v = s) ∨ P u v) : TabI M x y h wd P' (fun u => if u = r then (F r).set s z else F u) := by
 refine ⟨fun u v hu hv hp => ?_⟩
 show (if u = r then (F r).set s z else F u : List Int).getD v 0 = _
 by_cases e : u = r
 ·subst e
  rw [if_pos rfl,getD_set _ _ _ _ (by omega)]
  by_cases c : v = s
  ·subst c;rw [if_pos rfl];exact hz
  ·rw [if_neg c]
   rcases k u v hu hv hp with ⟨_,h2⟩ | h2
   ·exact absurd h2 c
   ·exact H.val u v hu hv h2
 ·rw [if_neg e]
  rcases k u v hu hv hp with ⟨h1,_⟩ | h2
  ·exact absurd h1 e
  ·exact H.val u v hu hv h2
theorem TabI.mono {M : Ted.Ms} {x y h wd : Nat} {P P' : Nat → Nat → Prop} {F : Nat → List Int} (H : TabI M x y h wd P F) (k : ∀ u v,u < h → v < wd → P' u v → P u v) : TabI M x y h wd P' F := ⟨fun u v hu hv hp => H.val u v hu hv (k u v hu hv hp)⟩
structure TrI (A B : Nat) (o : Nat → Nat → Int) (G : Nat → List Int) : Prop where
 val : ∀ p q,p < A → q < B → (G p).getD q 0 = o p q
theorem TrI.ext {A B : Nat} {o o' : Nat → Nat → Int} {G : Nat → List Int} (h : TrI A B o G) (k : ∀ p q,p < A → q < B → o' p q = o p q) : TrI A B o' G := ⟨fun p q h1 h2 => (h.val p q h1 h2).trans (k p q h1 h2).symm⟩
theorem TrI.put {A B : Nat} {o o' : Nat → Nat → Int} {G : Nat → List Int} (h : TrI A B o G) {p q : Nat} {z : Int} (hl : (G p).length = B) (hq : q < B) (hz : z = o' p q) (k : ∀ p' q',¬ (p' = p ∧ q' = q) → o' p' q' = o p' q') : TrI A B o' (fun u => if u = p then (G p).set q z else G u) := by
 refine ⟨fun p' q' h1 h2 => ?_⟩
 show (if p' = p then (G p).set q z else G p' : List Int).getD q' 0 = _
 by_cases e : p' = p
 ·subst e
  rw [if_pos rfl,getD_set _ _ _ _ (by omega)]
  by_cases c : q' = q
  ·subst c;rw [if_pos rfl];exact hz
  ·rw [if_neg c,k p' q' (fun z => c z.2)];exact h.val p' q' h1 h2
 ·rw [if_neg e,k p' q' (fun z => e z.1)];exact h.val p' q' h1 h2
structure KeepS (S : Nat → Prop) (W W' : World) : Prop where
 os : W'.os = W.os
 tape : W'.tape = W.tape
 output : W'.output = W.output
 size : W.heap.size ≤ W'.heap.size
 block : ∀ i,i < W.heap.size → ¬ S i → W'.heap[i]? = W.heap[i]?
theorem KeepS.of_below {S : Nat → Prop} {W W' : World} (h : Below W.heap.size W W') : KeepS S W W' := ⟨h.os,h.tape,h.output,h.size,fun i hi _ => h.block i hi⟩
theorem KeepS.refl (S : Nat → Prop) (W : World) : KeepS S W W := KeepS.of_below (Below.refl _ _)
theorem KeepS.trans {S : Nat → Prop} {W W1 W2 : World} (h : KeepS S W W1) (k : KeepS S W1 W2) : KeepS S W W2 :=
 ⟨k.os.trans h.os,k.tape.trans h.tape,k.output.trans h.output,Nat.le_trans h.size k.size,fun i hi hn => (k.block i (Nat.lt_of_lt_of_le hi h.size) hn).trans (h.block i hi hn)⟩
theorem KeepS.set {S : Nat → Prop} (W : World) {b : Nat} (hb : S b) (n : Nat) (v : Value) : KeepS S W (W.setCell ⟨b,n,none⟩ v) :=
 ⟨rfl,rfl,rfl,by simp [World.setCell],fun i _ hn => Below.heap_setCell W ⟨b,n,none⟩ v i (fun e => hn (e ▸ hb))⟩
theorem KeepS.new {S : Nat → Prop} {W W1 : World} (h : KeepS S W W1) {b : Nat} (hb : W.heap.size ≤ b) (n : Nat) (v : Value) : KeepS S W (W1.setCell ⟨b,n,none⟩ v) :=
 ⟨h.os,h.tape,h.output,by rw [show (W1.setCell ⟨b,n,none⟩ v).heap.size = W1.heap.size from by simp [World.setCell]];exact h.size,fun i hi hn => (Below.heap_setCell W1 ⟨b,n,none⟩ v i (fun e => by have e' : i = b := e;omega)).trans (h.block i hi hn)⟩
theorem KeepS.cell {S : Nat → Prop} {W W1 : World} (h : KeepS S W W1) {a : Addr} (ha : ¬ S a.block) {v : Value} (hc : W.cell? a = some v) : W1.cell? a = some v := by
 have hl := World.block_lt_of_cell? W a hc
 have hb := h.block a.block hl ha
 rw [← hc]
 simp [World.cell?,hb]
structure RsI (M : Ted.Ms) (A B : Nat) (S : Nat → Prop) (a2 a3 a4 a5 a6 : Addr) (ar : Nat → Addr) (cr : Nat → Nat) (W : World) : Prop where
 r2 : ∀ p,p < A → W.cell? (a2.add p) = some (.int .i64 (M.la p : Int))
 r3 : ∀ q,q < B → W.cell? (a3.add q) = some (.int .i64 (M.lb q : Int))
 r4 : ∀ p,p < A → W.cell? (a4.add p) = some (.int .i64 (M.del p))
 r5 : ∀ q,q < B → W.cell? (a5.add q) = some (.int .i64 (M.ins q))
 r6 : ∀ p,p < A → W.cell? (a6.add p) = some (.slice (some (ar p)) B (cr p))
 r7 : ∀ p q,p < A → q < B → W.cell? ((ar p).add q) = some (.int .i64 (M.rel p q))
 n2 : ¬ S a2.block
 n3 : ¬ S a3.block
 n4 : ¬ S a4.block
 n5 : ¬ S a5.block
 n6 : ¬ S a6.block
 n7 : ∀ p,p < A → ¬ S (ar p).block
theorem RsI.keep {M : Ted.Ms} {A B : Nat} {S : Nat → Prop} {a2 a3 a4 a5 a6 : Addr} {ar : Nat → Addr} {cr : Nat → Nat} {W W' : World} (h : RsI M A B S a2 a3 a4 a5 a6 ar cr W) (k : KeepS S W W') : RsI M A B S a2 a3 a4 a5 a6 ar cr W' := by
 have f : ∀ {a : Addr} {n : Nat} {v : Value},¬ S a.block → W.cell? (a.add n) = some v → W'.cell? (a.add n) = some v := fun hn hc => k.cell (by rw [add_block];exact hn) hc
 exact ⟨fun p hp => f h.n2 (h.r2 p hp),fun p hp => f h.n3 (h.r3 p hp),fun p hp => f h.n4 (h.r4 p hp),fun p hp => f h.n5 (h.r5 p hp),fun p hp => f h.n6 (h.r6 p hp),fun p q hp hq => f (h.n7 p hp) (h.r7 p q hp hq),h.n2,h.n3,h.n4,h.n5,h.n6,h.n7⟩
structure ZI (M : Ted.Ms) (A B : Nat) (W : World) (g bo ob : Nat) (bs os : Nat → Nat) (vA vB : Value) (a2 a3 a4 a5 a6 : Addr) (ar : Nat → Addr) (cr : Nat → Nat) (c2 c3 c4 c5 c6 h wd : Nat) (F G : Nat → List Int) (w' : World) : Prop where
 box : w'.heap[g]? = some (.cells #[vA,vB,.slice (some a2) A c2,.slice (some a3) B c3,.slice (some a4) A c4,.slice (some a5) B c5,.slice (some a6) A c6] 92 (0,0))
 f : Rw w' bo bs h wd F
 t : Rw w' ob os A B G
 kp : KeepS (fun k => ∃ p,p < A ∧ k = os p) W w'
 rs : RsI M A B (fun k => ∃ p,p < A ∧ k = os p) a2 a3 a4 a5 a6 ar cr w'
 gl : W.heap.size ≤ g
 bl : W.heap.size ≤ bo
 fl : ∀ r,r < h → W.heap.size ≤ bs r
 ol : ob < W.heap.size
 tl : ∀ p,p < A → os p < W.heap.size
 gb : g ≠ bo
 gf : ∀ r,r < h → g ≠ bs r
section
variable {M : Ted.Ms} {A B : Nat} {W : World} {g bo ob : Nat} {bs os : Nat → Nat} {vA vB : Value} {a2 a3 a4 a5 a6 : Addr} {ar : Nat → Addr} {cr : Nat → Nat} {c2 c3 c4 c5 c6 h wd : Nat} {F G : Nat → List Int} {w w' : World}
theorem ZI.boxes (H : ZI M A B W g bo ob bs os vA vB a2 a3 a4 a5 a6 ar cr c2 c3 c4 c5 c6 h wd F G w) : w.cell? ⟨g,2,none⟩ = some (.slice (some a2) A c2) ∧ w.cell? ⟨g,3,none⟩ = some (.slice (some a3) B c3) ∧ w.cell? ⟨g,4,none⟩ = some (.slice (some a4) A c4) ∧ w.cell? ⟨g,5,none⟩ = some (.slice (some a5) B c5) ∧ w.cell? ⟨g,6,none⟩ = some (.slice (some a6) A c6) :=
 ⟨(blk_cell H.box 2).trans rfl,(blk_cell H.box 3).trans rfl,(blk_cell H.box 4).trans rfl,(blk_cell H.box 5).trans rfl,(blk_cell H.box 6).trans rfl⟩
theorem ZI.drawn (H : ZI M A B W g bo ob bs os vA vB a2 a3 a4 a5 a6 ar cr c2 c3 c4 c5 c6 h wd F G w) (k : Drawn0 w w') : ZI M A B W g bo ob bs os vA vB a2 a3 a4 a5 a6 ar cr c2 c3 c4 c5 c6 h wd F G w' := by
 have hb := k.below
 exact ⟨blk_below H.box hb,H.f.below hb,H.t.below hb,H.kp.trans (KeepS.of_below hb),H.rs.keep (KeepS.of_below hb),H.gl,H.bl,H.fl,H.ol,H.tl,H.gb,H.gf⟩
theorem ZI.drew (H : ZI M A B W g bo ob bs os vA vB a2 a3 a4 a5 a6 ar cr c2 c3 c4 c5 c6 h wd F G w) : ZI M A B W g bo ob bs os vA vB a2 a3 a4 a5 a6 ar cr c2 c3 c4 c5 c6 h wd F G w.drew := H.drawn ⟨⟨1,rfl⟩⟩
theorem ZI.putf (H : ZI M A B W g bo ob bs os vA vB a2 a3 a4 a5 a6 ar cr c2 c3 c4 c5 c6 h wd F G w) (r0 : RsI M A B (fun k => ∃ p,p < A ∧ k = os p) a2 a3 a4 a5 a6 ar cr W) {r : Nat} (hr : r < h) (s : Nat) (x : Int) :
  ZI M A B W g bo ob bs os vA vB a2 a3 a4 a5 a6 ar cr c2 c3 c4 c5 c6 h wd (fun u => if u = r then (F r).set s x else F u) G (w.setCell ⟨bs r,s,none⟩ (.int .i64 x)) := by
 have kp := H.kp.new (H.fl r hr) s (.int .i64 x)
 have hl := H.fl r hr
 exact ⟨blk_far H.box (p := ⟨bs r,s,none⟩) (H.gf r hr) _,H.f.put hr s x,H.t.far _ (fun e => by have := H.ol;omega) (fun p hp e => by have := H.tl p hp;omega),kp,r0.keep kp,H.gl,H.bl,H.fl,H.ol,H.tl,H.gb,H.gf⟩
theorem ZI.putt (H : ZI M A B W g bo ob bs os vA vB a2 a3 a4 a5 a6 ar cr c2 c3 c4 c5 c6 h wd F G w) (r0 : RsI M A B (fun k => ∃ p,p < A ∧ k = os p) a2 a3 a4 a5 a6 ar cr W) {p : Nat} (hp : p < A) (q : Nat) (x : Int) :
  ZI M A B W g bo ob bs os vA vB a2 a3 a4 a5 a6 ar cr c2 c3 c4 c5 c6 h wd F (fun u => if u = p then (G p).set q x else G u) (w.setCell ⟨os p,q,none⟩ (.int .i64 x)) := by
 have kp := H.kp.trans (KeepS.set w (S := fun k => ∃ p,p < A ∧ k = os p) ⟨p,hp,rfl⟩ q (.int .i64 x))
 have hl := H.tl p hp
 exact ⟨blk_far H.box (p := ⟨os p,q,none⟩) (fun e => by have e' : g = os p := e;have := H.gl;omega) _,H.f.far _ (fun e => by have := H.bl;omega) (fun r hr e => by have := H.fl r hr;omega),H.t.put hp q x,kp,r0.keep kp,H.gl,H.bl,H.fl,H.ol,H.tl,H.gb,H.gf⟩
end
structure MkI (W : World) (g bo : Nat) (bs : Nat → Nat) (h wd k : Nat) (cs : Array Value) (w' : World) : Prop where
 box : w'.heap[g]? = some (.cells cs 92 (0,0))
 top : w'.heap[bo]? = some (.cells (tops bs wd h k) 25 (0,0))
 row : ∀ r,r < k → Blk w' (bs r) (List.replicate wd 0)
 lt : ∀ r,r < k → bo < bs r ∧ bs r < w'.heap.size
 mono : ∀ r s,r < s → s < k → bs r < bs s
 bel : Below W.heap.size W w'
 gl : W.heap.size ≤ g
 gb : g < bo
theorem MkI.step {W : World} {g bo : Nat} {bs : Nat → Nat} {h wd k : Nat} {cs : Array Value} {w w1 : World} (H : MkI W g bo bs h wd k cs w) (hk : k < h) {b : Nat} (hb : b = w.heap.size) (h1 : Blk w1 b (List.replicate wd 0)) (h2 : Below w.heap.size w w1) :
  MkI W g bo (fun r => if r = k then b else bs r) h wd (k + 1) cs (w1.setCell ⟨bo,k,none⟩ (.slice (some ⟨b,0,none⟩) wd wd)) := by
 have lb := blk_lt H.top
 have l1 := blk_lt h1
 have hs : (w1.setCell ⟨bo,k,none⟩ (.slice (some ⟨b,0,none⟩) wd wd)).heap.size = w1.heap.size := by simp [World.setCell]
 have gb := H.gb
 refine ⟨blk_far (blk_below H.box h2) (p := ⟨bo,k,none⟩) (by show g ≠ bo;omega) _,?_,fun r hr => ?_,fun r hr => ?_,fun r s hrs hsk => ?_,?_,H.gl,H.gb⟩
 ·refine (blk_set (blk_below H.top h2) k _).trans ?_
  rw [tops_put hk]
 ·by_cases e : r = k
  ·subst e
   rw [if_pos rfl]
   exact blk_far h1 (p := ⟨bo,r,none⟩) (by show b ≠ bo;omega) _
  ·rw [if_neg e]
   have := H.lt r (by omega)
   exact blk_far (blk_below (H.row r (by omega)) h2) (p := ⟨bo,k,none⟩) (by show bs r ≠ bo;omega) _
 ·rw [hs]
  have := h2.size
  show bo < (if r = k then b else bs r) ∧ (if r = k then b else bs r) < w1.heap.size
  by_cases e : r = k
  ·rw [if_pos e];omega
  ·rw [if_neg e]
   have := H.lt r (by omega)
   omega
 ·show (if r = k then b else bs r) < (if s = k then b else bs s)
  rw [if_neg (show ¬ r = k by omega)]
  have := H.lt r (by omega)
  by_cases e : s = k
  ·rw [if_pos e];omega
  ·rw [if_neg e];exact H.mono r s hrs (by omega)
 ·have hbel := below_step H.bel h2
  have := H.gl
  exact ⟨hbel.os,hbel.tape,hbel.output,by rw [hs];exact hbel.size,fun i hi => (Below.heap_setCell w1 ⟨bo,k,none⟩ _ i (fun e => by have e' : i = bo := e;omega)).trans (hbel.block i hi)⟩
theorem MkI.done {M : Ted.Ms} {A B : Nat} {W : World} {g bo ob : Nat} {bs os : Nat → Nat} {vA vB : Value} {a2 a3 a4 a5 a6 : Addr} {ar : Nat → Addr} {cr : Nat → Nat} {c2 c3 c4 c5 c6 h wd : Nat} {G : Nat → List Int} {w : World}
  (H : MkI W g bo bs h wd h #[vA,vB,.slice (some a2) A c2,.slice (some a3) B c3,.slice (some a4) A c4,.slice (some a5) B c5,.slice (some a6) A c6] w) (t : Rw W ob os A B G) (rs : RsI M A B (fun k => ∃ p,p < A ∧ k = os p) a2 a3 a4 a5 a6 ar cr W) :
  ZI M A B W g bo ob bs os vA vB a2 a3 a4 a5 a6 ar cr c2 c3 c4 c5 c6 h wd (fun _ => List.replicate wd 0) G w := by
 have gb := H.gb
 have gl := H.gl
 refine ⟨H.box,⟨H.top,H.row,fun _ _ => List.length_replicate,fun r s hr hs e => ?_,fun r hr => by have := H.lt r hr;omega⟩,t.below H.bel,KeepS.of_below H.bel,rs.keep (KeepS.of_below H.bel),gl,by omega,fun r hr => by have := H.lt r hr;omega,blk_lt t.top,fun p hp => blk_lt (t.row p hp),by omega,fun r hr => by have := H.lt r hr;omega⟩
 rcases Nat.lt_trichotomy r s with c | c | c
 ·have := H.mono r s c hs;omega
 ·exact c
 ·have := H.mono s r c hr;omega
end Go.Proofs.Ytngphdmbjenkaaa.X
