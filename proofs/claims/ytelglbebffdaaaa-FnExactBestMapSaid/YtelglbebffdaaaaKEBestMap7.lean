/- Part 7 of the proof of FnExactBestMap: what it needs. -/
import Derived.Maps.OwnSet
import Derived.DeepKeys5
import Derived.Test.YtelglbebffdaaaaKEBestMap2
import Derived.Test.YtelglbebffdaaaaKEBestMap3
import Derived.Test.YtelglbebffdaaaaKEBestMap4
import Derived.Test.YtelglbebffdaaaaKEBestMap5
namespace Go.Proofs.Ytelglbebffdaaaa.X
open Go.RowKit Go.Proofs.YtelglbebffdaaaaW.PrintWords Go.Proofs.YtelglbebffdaaaaW.PrintLast Go.Proofs.YtelglbebffdaaaaW.PrintMore
set_option linter.unusedVariables false
set_option linter.unusedSimpArgs false
abbrev K4:=Nat × Nat × Nat × Nat
def kcells (x : K4) : Array Value:=#[.int .i64 (x.1 : Int),.int .i64 (x.2.1 : Int),.int .i64 (x.2.2.1 : Int),.int .i64 (x.2.2.2 : Int)]
def kval (x : K4) : Value:=.agg (kcells x)
def klits (x : K4) : List Lit:=[.int .i64 (x.1 : Int),.int .i64 (x.2.1 : Int),.int .i64 (x.2.2.1 : Int),.int .i64 (x.2.2.2 : Int)]
def klit (x : K4) : Lit:=.string (keyBytes (klits x))
def InBox (x : K4) : Prop:=x.1 < 25 ∧ x.2.1 < 25 ∧ x.2.2.1 < 25 ∧ x.2.2.2 < 25
theorem row75 : (75 : TypeId) < Try.prog.types.size:=of_decide_eq_true (by kernel_rfl)
theorem wide75 : (match Try.prog.underlying 75 with | some (.array _ _) | some (.struct _) => true | _ => false) = true:=by rw [Try.underlying75]
theorem laid_ : laidOutB Try.prog = true:=by kernel_rfl
set_option maxRecDepth 100000 in
theorem law75 : WideMaps.KeyLaw Try.prog 75:=deep_law_laid laid_ (m:=2) (by omega) row75 (by kernel_rfl) wide75
theorem keyed75 : Maps.Keyed Try.prog 75:=Maps.Keyed.of_law law75
theorem small_wf {n : Nat} (h : n < 25) : (Lit.int .i64 (n : Int)).wf = true:=by
 have e1 : IntKind.i64.min = -9223372036854775808:=by decide
 have e2 : IntKind.i64.max = 9223372036854775807:=by decide
 simp only [Lit.wf,e1,e2,Bool.and_eq_true,decide_eq_true_eq]
 omega
theorem add_block (a : Addr) (n : Nat) : (a.add n).block = a.block:=by unfold Addr.add;split <;> rfl
theorem keyOf_gen {P : Program} {k e : TypeId} {n0 n1 n2 n3 : String} {c0 c1 c2 c3 : Bool} {t0 t1 t2 t3 p0 p1 p2 p3 : String} {b0 b1 b2 b3 : Nat}
  (hu : P.underlying k = some (.struct #[⟨n0,e,0,c0,t0,p0,b0⟩,⟨n1,e,1,c1,t1,p1,b1⟩,⟨n2,e,2,c2,t2,p2,b2⟩,⟨n3,e,3,c3,t3,p3,b3⟩]))
  (hn : n0 ≠ "_" ∧ n1 ≠ "_" ∧ n2 ≠ "_" ∧ n3 ≠ "_") (hk : P.keyType k = true) (hc : P.cellsOf k = 4) (he : P.underlying e = some (.int .i64)) (hce : P.cellsOf e = 1) (hrow : k < P.types.size) {x : K4} (h : InBox x) :
  keyOf P k (kval x) = some (klit x):=by
 obtain ⟨h1,h2,h3,h4⟩:=h
 have w1:=small_wf h1
 have w2:=small_wf h2
 have w3:=small_wf h3
 have w4:=small_wf h4
 obtain ⟨d,hd⟩ : ∃ d,P.types.size = d + 1:=⟨P.types.size - 1,by have:=Nat.lt_of_le_of_lt (Nat.zero_le _) hrow;omega⟩
 have hl : ∀ n : Int,(Lit.int .i64 n).wf = true → P.keyLits P.types.size e [.int .i64 n] = some [.int .i64 n]:=fun n hw => by
  rw [hd]
  simp [Program.keyLits,he,hw]
 unfold keyOf
 rw [hu]
 simp only [hk,kval,kcells,Value.formed,hu,hc,Program.keyLits,Value.cells]
 simp [hce,klit,klits,hl _ w1,hl _ w2,hl _ w3,hl _ w4,hn]
theorem keyOf_k {x : K4} (h : InBox x) : keyOf Try.prog 75 (kval x) = some (klit x) :=
 keyOf_gen Try.underlying75 (by decide) (by kernel_rfl) (by kernel_rfl) Try.underlying3 (by kernel_rfl) row75 h
theorem klit_inj {x y : K4} (hx : InBox x) (hy : InBox y) (h : klit x = klit y) : x = y:=by
 have e:=law75.inj (keyOf_k hx) ((keyOf_k hy).trans (congrArg some h.symm))
 simp only [kval,kcells,Value.agg.injEq,Array.mk.injEq,List.cons.injEq,Value.int.injEq,true_and,and_true] at e
 obtain ⟨a,b,c,d⟩:=x
 obtain ⟨a',b',c',d'⟩:=y
 simp only [Prod.mk.injEq]
 simp only at e
 omega
theorem isKey (x : K4) : WideAt.IsKeyLit (klit x):=by unfold klit;simp [WideAt.IsKeyLit]
theorem pigeon : ∀ (n : Nat) (L : List Nat),L.Nodup → (∀ x ∈ L,x < n) → L.length ≤ n
 | 0,[],_,_ => Nat.le_refl _
 | 0,x :: L,_,h => absurd (h x List.mem_cons_self) (Nat.not_lt_zero _)
 | n + 1,L,hn,h => by
  by_cases c : n ∈ L
  ·have h1:=pigeon n (L.erase n) (hn.erase n) (fun x hx => by
    have h2:=h x (List.mem_of_mem_erase hx)
    have h3 : x ≠ n:=fun e => by subst e;exact (hn.not_mem_erase) hx
    omega)
   have h2:=List.length_erase_of_mem c
   have h3:=List.length_pos_of_mem c
   omega
  ·have h1:=pigeon n L hn (fun x hx => by
    have h2:=h x hx
    have h3 : x ≠ n:=fun e => by subst e;exact c hx
    omega)
   omega
def code4 (x : K4) : Nat:=((x.1 * 25 + x.2.1) * 25 + x.2.2.1) * 25 + x.2.2.2
theorem few {ks : List K4} (hn : ks.Nodup) (hb : ∀ x ∈ ks,InBox x) : ks.length ≤ 390625:=by
 have h:=pigeon 390625 (ks.map code4) ?_ ?_
 ·simpa using h
 ·refine List.pairwise_map.2 (hn.imp_of_mem fun {x y} hx hy hne he => hne ?_)
  obtain ⟨a1,a2,a3,a4⟩:=hb x hx
  obtain ⟨b1,b2,b3,b4⟩:=hb y hy
  obtain ⟨a,b,c,d⟩:=x
  obtain ⟨a',b',c',d'⟩:=y
  simp only [code4] at *
  simp only [Prod.mk.injEq]
  omega
 ·intro n h
  obtain ⟨x,hx,rfl⟩:=List.mem_map.1 h
  obtain ⟨a1,a2,a3,a4⟩:=hb x hx
  simp only [code4]
  omega
def valOf (M : Ted.Ms) (x : K4) : Int:=Ted.D M x.1 x.2.1 x.2.2.1 x.2.2.2
noncomputable abbrev elem3 : Value → Option (DataW Unit × List MemPlace):=plainElem Try.prog 3
structure Memo (M : Ted.Ms) (W : World) (b : Nat) (ks : List K4) : Prop where
 nodup : ks.Nodup
 box : ∀ x ∈ ks,InBox x
 own : ∃ DD : DataW Unit,W.ownsMap Try.prog 75 elem3 b ks.length DD ∧ (∀ x,InBox x → Maps.has DD (klit x) = decide (x ∈ ks)) ∧ ∀ x ∈ ks,∀ z,DD.atKey (klit x) z = .lit (.int .i64 (valOf M x))
theorem Memo.start (M : Ted.Ms) (W : World) : Memo M (W.alloc (.map #[] 0)) W.heap.size [] :=
 ⟨List.nodup_nil,by simp,.map [],World.ownsMap_made W _ _ _,fun x _ => rfl,by simp⟩
theorem Memo.lt {M : Ted.Ms} {W : World} {b : Nat} {ks : List K4} (h : Memo M W b ks) : b < W.heap.size:=by
 obtain ⟨DD,h1,_⟩:=h.own
 exact h1.lt
theorem Memo.kept {M : Ted.Ms} {W W' : World} {b : Nat} {ks : List K4} (h : Memo M W b ks) (hb : W'.heap[b]? = W.heap[b]?) : Memo M W' b ks:=by
 obtain ⟨h1,h2,DD,⟨es,clock,h3,h4⟩,h5⟩:=h
 exact ⟨h1,h2,DD,⟨es,clock,hb.trans h3,h4⟩,h5⟩
theorem Memo.room {M : Ted.Ms} {W : World} {b : Nat} {ks : List K4} (h : Memo M W b ks) : ks.length < maxLen:=by
 have:=few h.nodup h.box
 have : (390625 : Nat) < maxLen:=by decide
 omega
theorem Memo.put {M : Ted.Ms} {W W' : World} {b : Nat} {ks : List K4} {x : K4} (h : Memo M W b ks) (hx : InBox x) (hn : x ∉ ks) {DD : DataW Unit}
  (hh : ∀ y,InBox y → Maps.has DD (klit y) = decide (y ∈ ks)) (ha : ∀ y ∈ ks,∀ z,DD.atKey (klit y) z = .lit (.int .i64 (valOf M y))) (hm : Maps.IsMap DD)
  (ho : W'.ownsMap Try.prog 75 elem3 b (ks.length + 1) (DD.put (klit x) (.lit (.int .i64 (valOf M x))))) : Memo M W' b (x :: ks):=by
 refine ⟨List.nodup_cons.2 ⟨hn,h.nodup⟩,fun y hy => ?_,_,ho,fun y hy => ?_,fun y hy z => ?_⟩
 ·rcases List.mem_cons.1 hy with rfl | hy
  ·exact hx
  ·exact h.box y hy
 ·by_cases e : y = x
  ·subst e
   rw [Maps.has_put_same hm (isKey _)]
   simp
  ·rw [Maps.has_put_other (fun z => e (klit_inj hy hx z)),hh y hy]
   simp [e]
 ·by_cases e : y = x
  ·subst e
   rw [Maps.atKey_put_same hm (isKey _)]
  ·have hy' : y ∈ ks:=(List.mem_cons.1 hy).resolve_left e
   rw [Maps.atKey_put_other (fun z => e (klit_inj (h.box y hy') hx z)),ha y hy']
structure Row1 (W : World) (b : Nat) (v : Value) (n : Nat) (f : Nat → Int) : Prop where
 is : ∃ ad c,v = .slice (some ad) n c ∧ n ≤ c ∧ ad.block ≠ b ∧ (∀ p,p < n → W.cell? (ad.add p) = some (.int .i64 (f p)))
structure Row2 (W : World) (b : Nat) (v : Value) (n m : Nat) (f : Nat → Nat → Int) : Prop where
 is : ∃ ad c,v = .slice (some ad) n c ∧ n ≤ c ∧ ad.block ≠ b ∧ (∀ p,p < n → ∃ u,W.cell? (ad.add p) = some u ∧ Row1 W b u m (f p))
def Only (b : Nat) (W W' : World) : Prop:=W.grownBy W' (some b)
theorem Only.refl (b : Nat) (W : World) : Only b W W:=⟨rfl,rfl,rfl,Nat.le_refl _,fun _ _ _ => rfl⟩
theorem Only.trans {b : Nat} {W W1 W2 : World} (h : Only b W W1) (k : Only b W1 W2) : Only b W W2 :=
 ⟨k.os.trans h.os,k.tape.trans h.tape,k.output.trans h.output,Nat.le_trans h.size k.size,fun i hi hn => (k.block i (Nat.lt_of_lt_of_le hi h.size) hn).trans (h.block i hi hn)⟩
theorem Only.drew {b : Nat} {W W1 : World} (h : Only b W W1) : Only b W W1.drew:=⟨h.os,h.tape,h.output,h.size,h.block⟩
theorem Only.alloc {b : Nat} {W W1 : World} (h : Only b W W1) (o : Obj) : Only b W (W1.alloc o):=by
 refine ⟨h.os,h.tape,h.output,Nat.le_trans h.size (by simp),fun i hi hn => ?_⟩
 have hi' : i < W1.heap.size:=Nat.lt_of_lt_of_le hi h.size
 exact ((MapKept.heap_alloc W1 o).2 i hi').trans (h.block i hi hn)
theorem Only.cell {b : Nat} {W W1 : World} (h : Only b W W1) {a : Addr} (ha : a.block ≠ b) {v : Value} (hc : W.cell? a = some v) : W1.cell? a = some v :=
 (World.cell?_of_block (h.block a.block (World.block_lt_of_cell? _ _ hc) (by simpa using ha))).trans hc
theorem Row1.only {b : Nat} {W W1 : World} (h : Only b W W1) {v : Value} {n : Nat} {f : Nat → Int} (r : Row1 W b v n f) : Row1 W1 b v n f:=by
 obtain ⟨ad,c,e,hc,hb,hp⟩:=r.is
 exact ⟨ad,c,e,hc,hb,fun p hp' => h.cell (by rw [add_block];exact hb) (hp p hp')⟩
theorem Row2.only {b : Nat} {W W1 : World} (h : Only b W W1) {v : Value} {n m : Nat} {f : Nat → Nat → Int} (r : Row2 W b v n m f) : Row2 W1 b v n m f:=by
 obtain ⟨ad,c,e,hc,hb,hp⟩:=r.is
 refine ⟨ad,c,e,hc,hb,fun p hp' => ?_⟩
 obtain ⟨u,hu,r1⟩:=hp p hp'
 exact ⟨u,h.cell (by rw [add_block];exact hb) hu,r1.only h⟩
structure Mea (M : Ted.Ms) (A B : Nat) (W : World) (b : Nat) (v : Array Value) : Prop where
 is : ∃ v0 v1 v2 v3 v4 v5 v6,v = #[v0,v1,v2,v3,v4,v5,v6] ∧ Row1 W b v2 A (fun p => M.la p) ∧ Row1 W b v3 B (fun q => M.lb q) ∧ Row1 W b v4 A M.del ∧ Row1 W b v5 B M.ins ∧ Row2 W b v6 A B M.rel
theorem Mea.only {M : Ted.Ms} {A B : Nat} {b : Nat} {W W1 : World} (h : Only b W W1) {v : Array Value} (r : Mea M A B W b v) : Mea M A B W1 b v:=by
 obtain ⟨v0,v1,v2,v3,v4,v5,v6,e,h2,h3,h4,h5,h6⟩:=r.is
 exact ⟨v0,v1,v2,v3,v4,v5,v6,e,h2.only h,h3.only h,h4.only h,h5.only h,h6.only h⟩
end Go.Proofs.Ytelglbebffdaaaa.X
namespace Go.Proofs.Ytelglbebffdaaaa.X
open Go.RowKit Go.Proofs.YtelglbebffdaaaaW.PrintWords Go.Proofs.YtelglbebffdaaaaW.PrintLast Go.Proofs.YtelglbebffdaaaaW.PrintMore
set_option linter.unusedVariables false
set_option linter.unusedSimpArgs false
attribute [local go_sem] max2_int min2_int max_two min_two max_three min_three max_four min_four
def sz (x : K4) : Nat:=(x.2.1 - x.1) + (x.2.2.2 - x.2.2.1)
structure Small (M : Ted.Ms) : Prop where
 del : ∀ x,0 ≤ M.del x ∧ M.del x ≤ 1000000
 ins : ∀ y,0 ≤ M.ins y ∧ M.ins y ≤ 1000000
 rel : ∀ x y,0 ≤ M.rel x y ∧ M.rel x y ≤ 1000000
theorem sm_small {f : Nat → Int} (hf : ∀ x,f x ≤ 1000000) (i j : Nat) : Ted.sm f i j ≤ 1000000 * j:=by
 induction j with
 | zero => exact Int.le_refl _
 | succ j ih =>
  simp only [Ted.sm]
  split
  ·have:=hf j;omega
  ·omega
theorem D_small {M : Ted.Ms} (h : Small M) (i j k m : Nat) : 0 ≤ Ted.D M i j k m ∧ Ted.D M i j k m ≤ 1000000 * j + 1000000 * m:=by
 refine ⟨Ted.D_nonneg M (fun x => (h.del x).1) (fun x => (h.ins x).1) (fun x y => (h.rel x y).1) _ i j k m (Nat.le_refl _),?_⟩
 have h1:=Ted.D_le M (Ted.Valid.nil M i j k m)
 have h2:=sm_small (fun x => (h.del x).2) i j
 have h3:=sm_small (fun x => (h.ins x).2) k m
 rw [Ted.cost,Ted.tot_nil] at h1
 omega
theorem wid {n : Int} (h1 : -9223372036854775808 ≤ n) (h2 : n ≤ 9223372036854775807) : wrap64 n = n:=by unfold wrap64;omega
theorem big_wf {n : Int} (h1 : 0 ≤ n) (h2 : n ≤ 48000000) : (Lit.int .i64 n).wf = true:=by
 have e1 : IntKind.i64.min = -9223372036854775808:=by decide
 have e2 : IntKind.i64.max = 9223372036854775807:=by decide
 simp only [Lit.wf,e1,e2,Bool.and_eq_true,decide_eq_true_eq]
 omega
theorem vw {M : Ted.Ms} (hs : Small M) (i j k m : Nat) (hj : j ≤ 24) (hm : m ≤ 24) : (Lit.int .i64 (Ted.D M i j k m)).wf = true:=by
 have h:=D_small hs i j k m
 exact big_wf h.1 (by omega)
theorem max_int {i a x : Nat} (h : x = max i a) : (if (i : Int) < (a : Int) then (a : Int) else (i : Int)) = (x : Int):=by split <;> omega
theorem max_nat {i a x : Nat} (h : x = max i a) : (if i < a then (a : Int) else (i : Int)) = (x : Int):=by split <;> omega
theorem min3 {a b c d : Int} (h : d = min a (min b c)) : (if c < (if b < a then b else a) then c else (if b < a then b else a)) = d:=by
 rw [h]
 by_cases h1 : b < a
 ·rw [if_pos h1];split <;> omega
 ·rw [if_neg h1];split <;> omega
theorem cut_facts {l : Nat → Nat} {i p : Nat} (hi : i ≤ p) (hl : l p ≤ p) : i ≤ Ted.cut l i (p + 1) ∧ Ted.cut l i (p + 1) ≤ p ∧ Ted.cut l i (p + 1) = max i (l p):=by
 have e : Ted.cut l i (p + 1) = max i (l p):=by simp only [Ted.cut,Nat.add_sub_cancel];rw [Nat.min_eq_left hl]
 rw [e]
 exact ⟨Nat.le_max_left _ _,Nat.max_le.2 ⟨hi,hl⟩,rfl⟩
theorem num_sub {p : Nat} (h : p < 25) : wrap64 (((p + 1 : Nat) : Int) - 1) = (p : Int):=by rw [wid (by omega) (by omega)];omega
theorem num_id {p : Nat} (h : p < 25) : wrap64 ((p : Nat) : Int) = (p : Int):=wid (by omega) (by omega)
theorem zero3 (w : World) : (zeroValue 3).run Try.prog w = .ok (.int .i64 0) w:=by kernel_rfl
theorem D_step (M : Ted.Ms) {i p k q : Nat} (hi : i ≤ p) (hk : k ≤ q) : Ted.D M i (p + 1) k (q + 1) = min (Ted.D M i p k (q + 1) + M.del p) (min (Ted.D M i (p + 1) k q + M.ins q) (Ted.D M (Ted.cut M.la i (p + 1)) p (Ted.cut M.lb k (q + 1)) q + Ted.D M i (Ted.cut M.la i (p + 1)) k (Ted.cut M.lb k (q + 1)) + M.rel p q)) :=
 Ted.D_ab M (Nat.lt_succ_of_le hi) (Nat.lt_succ_of_le hk)
theorem ab_facts {M : Ted.Ms} (hs : Small M) {i p k q : Nat} (hi : i ≤ p) (hk : k ≤ q) (hp : p + 1 ≤ 24) (hq : q + 1 ≤ 24) (hla : M.la p ≤ p) (hlb : M.lb q ≤ q) :
  ∃ (x y : Nat) (z1 z2 z4 : Int),(i ≤ x ∧ x ≤ p) ∧ (k ≤ y ∧ y ≤ q) ∧
   Aside0 ((if (i : Int) < (M.la p : Int) then (M.la p : Int) else (i : Int)) = (x : Int)) ∧ Aside0 ((if i < M.la p then (M.la p : Int) else (i : Int)) = (x : Int)) ∧
   Aside0 ((if (k : Int) < (M.lb q : Int) then (M.lb q : Int) else (k : Int)) = (y : Int)) ∧ Aside0 ((if k < M.lb q then (M.lb q : Int) else (k : Int)) = (y : Int)) ∧
   Aside0 (wrap64 (Ted.D M i p k (q + 1) + M.del p) = z1) ∧ Aside0 (wrap64 (Ted.D M i (p + 1) k q + M.ins q) = z2) ∧
   Aside0 (wrap64 (Ted.D M x p y q + Ted.D M i x k y) = Ted.D M x p y q + Ted.D M i x k y) ∧ Aside0 (wrap64 (Ted.D M x p y q + Ted.D M i x k y + M.rel p q) = z4) ∧
   Aside0 ((if z4 < (if z2 < z1 then z2 else z1) then z4 else (if z2 < z1 then z2 else z1)) = Ted.D M i (p + 1) k (q + 1)):=by
 obtain ⟨c1,c2,c3⟩:=cut_facts hi hla
 obtain ⟨e1,e2,e3⟩:=cut_facts hk hlb
 have hD:=D_step M hi hk
 have b1:=D_small hs i p k (q + 1)
 have b2:=D_small hs i (p + 1) k q
 have b3:=D_small hs (Ted.cut M.la i (p + 1)) p (Ted.cut M.lb k (q + 1)) q
 have b4:=D_small hs i (Ted.cut M.la i (p + 1)) k (Ted.cut M.lb k (q + 1))
 have b5:=hs.del p
 have b6:=hs.ins q
 have b7:=hs.rel p q
 refine ⟨Ted.cut M.la i (p + 1),Ted.cut M.lb k (q + 1),_,_,_,⟨c1,c2⟩,⟨e1,e2⟩,⟨max_int c3⟩,⟨max_nat c3⟩,⟨max_int e3⟩,⟨max_nat e3⟩,⟨wid ?_ ?_⟩,⟨wid ?_ ?_⟩,⟨wid ?_ ?_⟩,⟨wid ?_ ?_⟩,⟨min3 hD⟩⟩
 all_goals (clear hD c3 e3;omega)
def ForestAt (M : Ted.Ms) (A B N : Nat) : Prop:=∀ i j k m : Nat,(j - i) + (m - k) = N → i ≤ j → j ≤ A → k ≤ m → m ≤ B → ∀ (W : World) (b : Nat) (v : Array Value) (ks : List K4),Mea M A B W b v → Memo M W b ks →
 Calls Try.prog 58 #[.agg v,kval (i,j,k,m),.map (some b)] W fun e w' => e = .returned (.int .i64 (Ted.D M i j k m)) ∧ Only b W w' ∧ ∃ ks',Memo M w' b ks' ∧ ∀ y ∈ ks',y ∈ ks ∨ sz y ≤ N
structure FS (M : Ted.Ms) (A B : Nat) (W : World) (b : Nat) (v0 v1 v2 v3 v4 v5 v6 : Value) (i j k m : Nat) (ks : List K4) (g N : Nat) (w' : World) : Prop where
 c0 : w'.cell? ⟨g,0,none⟩ = some v0
 c1 : w'.cell? ⟨g,1,none⟩ = some v1
 c2 : w'.cell? ⟨g,2,none⟩ = some v2
 c3 : w'.cell? ⟨g,3,none⟩ = some v3
 c4 : w'.cell? ⟨g,4,none⟩ = some v4
 c5 : w'.cell? ⟨g,5,none⟩ = some v5
 c6 : w'.cell? ⟨g,6,none⟩ = some v6
 d0 : w'.cell? ⟨g + 1,0,none⟩ = some (.int .i64 (i : Int))
 d1 : w'.cell? ⟨g + 1,1,none⟩ = some (.int .i64 (j : Int))
 d2 : w'.cell? ⟨g + 1,2,none⟩ = some (.int .i64 (k : Int))
 d3 : w'.cell? ⟨g + 1,3,none⟩ = some (.int .i64 (m : Int))
 mea : Mea M A B w' b #[v0,v1,v2,v3,v4,v5,v6]
 memo : ∃ ks',Memo M w' b ks' ∧ ∀ y ∈ ks',y ∈ ks ∨ sz y < N
 only : Only b W w'
 far : b < g
theorem FS.start {M : Ted.Ms} {A B : Nat} {W : World} {b : Nat} {v0 v1 v2 v3 v4 v5 v6 : Value} {i j k m : Nat} {ks : List K4} {N : Nat} (mea : Mea M A B W b #[v0,v1,v2,v3,v4,v5,v6]) (hm : Memo M W b ks) :
  FS M A B W b v0 v1 v2 v3 v4 v5 v6 i j k m ks W.heap.size N (((W.alloc (Obj.cells #[v0,v1,v2,v3,v4,v5,v6] 70)).alloc (Obj.cells #[.int .i64 (i : Int),.int .i64 (j : Int),.int .i64 (k : Int),.int .i64 (m : Int)] 75))):=by
 have ho:=((Only.refl b W).alloc (Obj.cells #[v0,v1,v2,v3,v4,v5,v6] 70)).alloc (Obj.cells #[.int .i64 (i : Int),.int .i64 (j : Int),.int .i64 (k : Int),.int .i64 (m : Int)] 75)
 have hlt:=hm.lt
 have B3 : ((W.alloc (Obj.cells #[v0,v1,v2,v3,v4,v5,v6] 70)).alloc (Obj.cells #[.int .i64 (i : Int),.int .i64 (j : Int),.int .i64 (k : Int),.int .i64 (m : Int)] 75)).heap[W.heap.size]? = some (.cells #[v0,v1,v2,v3,v4,v5,v6] 70 (0,0)) :=
  ((MapKept.heap_alloc _ _).2 _ (by simp)).trans (MapKept.heap_alloc W _).1
 have B4 : ((W.alloc (Obj.cells #[v0,v1,v2,v3,v4,v5,v6] 70)).alloc (Obj.cells #[.int .i64 (i : Int),.int .i64 (j : Int),.int .i64 (k : Int),.int .i64 (m : Int)] 75)).heap[W.heap.size + 1]? = some (.cells #[.int .i64 (i : Int),.int .i64 (j : Int),.int .i64 (k : Int),.int .i64 (m : Int)] 75 (0,0)):=by
  have h:=(MapKept.heap_alloc (W.alloc (Obj.cells #[v0,v1,v2,v3,v4,v5,v6] 70)) (Obj.cells #[.int .i64 (i : Int),.int .i64 (j : Int),.int .i64 (k : Int),.int .i64 (m : Int)] 75)).1
  have e : (W.alloc (Obj.cells #[v0,v1,v2,v3,v4,v5,v6] 70)).heap.size = W.heap.size + 1:=by simp
  rw [e] at h
  exact h
 exact ⟨(blk_cell B3 0).trans rfl,(blk_cell B3 1).trans rfl,(blk_cell B3 2).trans rfl,(blk_cell B3 3).trans rfl,(blk_cell B3 4).trans rfl,(blk_cell B3 5).trans rfl,(blk_cell B3 6).trans rfl,(blk_cell B4 0).trans rfl,(blk_cell B4 1).trans rfl,(blk_cell B4 2).trans rfl,(blk_cell B4 3).trans rfl,
  mea.only ho,⟨ks,hm.kept (((MapKept.heap_alloc _ _).2 b (by simp;omega)).trans ((MapKept.heap_alloc W _).2 b hlt)),fun y hy => Or.inl hy⟩,ho,hlt⟩
theorem FS.drew {M : Ted.Ms} {A B : Nat} {W : World} {b : Nat} {v0 v1 v2 v3 v4 v5 v6 : Value} {i j k m : Nat} {ks : List K4} {g N : Nat} {w : World} (h : FS M A B W b v0 v1 v2 v3 v4 v5 v6 i j k m ks g N w) : FS M A B W b v0 v1 v2 v3 v4 v5 v6 i j k m ks g N w.drew:=by
 obtain ⟨ks',h1,h2⟩:=h.memo
 exact ⟨h.c0,h.c1,h.c2,h.c3,h.c4,h.c5,h.c6,h.d0,h.d1,h.d2,h.d3,h.mea.only ((Only.refl b w).drew),⟨ks',h1.kept rfl,h2⟩,h.only.drew,h.far⟩
theorem FS.goes {M : Ted.Ms} {A B : Nat} {W : World} {b : Nat} {v0 v1 v2 v3 v4 v5 v6 : Value} {i j k m : Nat} {ks : List K4} {g N : Nat} {w : World} (IH : ∀ N',N' < N → ForestAt M A B N') (h : FS M A B W b v0 v1 v2 v3 v4 v5 v6 i j k m ks g N w)
  {i' j' k' m' : Nat} (hN : (j' - i') + (m' - k') < N) (h1 : i' ≤ j') (h2 : j' ≤ A) (h3 : k' ≤ m') (h4 : m' ≤ B) :
  Calls Try.prog 58 #[.agg #[v0,v1,v2,v3,v4,v5,v6],kval (i',j',k',m'),.map (some b)] w fun e w' => e = .returned (.int .i64 (Ted.D M i' j' k' m')) ∧ FS M A B W b v0 v1 v2 v3 v4 v5 v6 i j k m ks g N w' ∧ Only b w w':=by
 obtain ⟨ks1,hm1,hk1⟩:=h.memo
 refine (IH _ hN i' j' k' m' rfl h1 h2 h3 h4 w b _ ks1 h.mea hm1).mono ?_
 rintro e w' ⟨rfl,ho,ks2,hm2,hk2⟩
 have n1 : g ≠ b:=by have:=h.far;omega
 have n2 : g + 1 ≠ b:=by have:=h.far;omega
 refine ⟨rfl,⟨ho.cell n1 h.c0,ho.cell n1 h.c1,ho.cell n1 h.c2,ho.cell n1 h.c3,ho.cell n1 h.c4,ho.cell n1 h.c5,ho.cell n1 h.c6,ho.cell n2 h.d0,ho.cell n2 h.d1,ho.cell n2 h.d2,ho.cell n2 h.d3,h.mea.only ho,⟨ks2,hm2,fun y hy => ?_⟩,h.only.trans ho,h.far⟩,ho⟩
 rcases hk2 y hy with c | c
 ·exact hk1 y c
 ·exact Or.inr (by omega)
theorem FS.store {M : Ted.Ms} {A B : Nat} {W : World} {b : Nat} {v0 v1 v2 v3 v4 v5 v6 : Value} {i j k m : Nat} {ks : List K4} {g N : Nat} {w : World} (h : FS M A B W b v0 v1 v2 v3 v4 v5 v6 i j k m ks g N w) (hN : (j - i) + (m - k) = N) (hx : InBox (i,j,k,m)) (hin : (i,j,k,m) ∉ ks) :
  ∃ (ks1 : List K4) (DD : DataW Unit),w.ownsMap Try.prog 75 elem3 b ks1.length DD ∧ ks1.length < maxLen ∧ ∀ w',w'.ownsMap Try.prog 75 elem3 b (ks1.length + 1) (DD.put (klit (i,j,k,m)) (.lit (.int .i64 (valOf M (i,j,k,m))))) → w.grownBy w' (some b) →
   Only b W w' ∧ ∃ ks',Memo M w' b ks' ∧ ∀ y ∈ ks',y ∈ ks ∨ sz y ≤ N:=by
 obtain ⟨ks1,hm1,hk1⟩:=h.memo
 obtain ⟨DD,hown,hh,ha⟩:=hm1.own
 refine ⟨ks1,DD,hown,hm1.room,fun w' ho hg => ⟨h.only.trans hg,_,hm1.put hx ?_ hh ha hown.isMap ho,fun y hy => ?_⟩⟩
 ·intro hc
  rcases hk1 _ hc with c | c
  ·exact hin c
  ·simp only [sz] at c
   omega
 ·rcases List.mem_cons.1 hy with rfl | hy
  ·exact Or.inr (by simp only [sz];omega)
  ·rcases hk1 y hy with c | c
   ·exact Or.inl c
   ·exact Or.inr (Nat.le_of_lt c)
set_option maxHeartbeats 4000000 in
set_option maxRecDepth 100000 in
theorem forest_hit {M : Ted.Ms} {i j k m : Nat} (W : World) (b : Nat) (v0 v1 v2 v3 v4 v5 v6 : Value) (ks : List K4) (hm : Memo M W b ks) (hx : InBox (i,j,k,m)) (hin : (i,j,k,m) ∈ ks) :
  Calls Try.prog 58 #[.agg #[v0,v1,v2,v3,v4,v5,v6],kval (i,j,k,m),.map (some b)] W fun e w' => e = .returned (.int .i64 (Ted.D M i j k m)) ∧ Only b W w' ∧ ∃ ks',Memo M w' b ks' ∧ ∀ y ∈ ks',y ∈ ks ∨ sz y ≤ sz (i,j,k,m):=by
 obtain ⟨DD,hown,hhas,hat⟩:=hm.own
 have hh : Maps.has DD (klit (i,j,k,m)) = true:=by rw [hhas _ hx];exact decide_eq_true hin
 have HM:=Aside0.mk hm
 have HAT:=Aside0.mk (hat _ hin)
 have HO:=Aside0.mk hown
 have HX:=Aside0.mk (keyOf_k hx)
 clear hm hown hhas hat hx hin
 unfold kval kcells
 go_enter Try.func58,Try.ntmps58
 go_wp2_with (first | (at_lookup;refine wpList_lookup_own_ok_int _ rfl _ _ 76 rfl 75 3 .i64 keyed75 Try.underlying76 Try.underlying3 (zero3 _) b ks.length DD rfl ((HO.out.alloc _).alloc _) _ (klit (i,j,k,m)) rfl HX.out ?_;intro c hc hwc))
 go_ret
 have e1:=HAT.out (.lit (.int .i64 0))
 rw [hc] at e1
 simp only [DataW.lit.injEq,Lit.int.injEq,true_and] at e1
 refine ⟨by rw [e1];rfl,((Only.refl b W).alloc _).alloc _,ks,HM.out.kept ?_,fun y hy => Or.inl hy⟩
 exact ((MapKept.heap_alloc _ _).2 b (by have:=HM.out.lt;simp;omega)).trans ((MapKept.heap_alloc W _).2 b HM.out.lt)
def forestR.T5 : Bool × List (List Nat × List Nat):=(true,[([],[]),([0],[0]),([1],[1]),([],[]),([3],[3]),([4],[4]),([2,0,1,2],[2]),([5,6,0,1,2,3,4,5,6],[5])])
def forestR.B5 : List Nat:=[0,1,3,0,8,24,7,127]
theorem forestR.tab5 : rtab .any (opsOf Try.f58 5) = forestR.T5:=by kernel_rfl
theorem forestR.bits5 : waitsOk forestR.T5.2 forestR.B5 = true:=by kernel_rfl
def forestR.T6 : Bool × List (List Nat × List Nat):=(true,[([],[]),([0],[0]),([],[]),([2],[2]),([],[]),([3,4],[3,4]),([5],[5]),([1,6],[1,6]),([],[]),([8],[8]),([],[]),([10],[10]),([],[]),([11,12],[11,12]),([13],[13]),([9,14],[9,14]),([7,0,1,2,3,4,5,6,7],[7]),([15,16,0,1,2,3,4,5,6,7,8,9,10,11,12,13,14,15,16],[15])])
def forestR.B6 : List Nat:=[0,1,0,4,0,28,60,127,0,256,0,1024,0,7168,15360,32512,255,131071]
theorem forestR.tab6 : rtab .any (opsOf Try.f58 6) = forestR.T6:=by kernel_rfl
theorem forestR.bits6 : waitsOk forestR.T6.2 forestR.B6 = true:=by kernel_rfl
def forestR.T7 : Bool × List (List Nat × List Nat):=(true,[([],[]),([],[]),([1],[1]),([],[]),([],[]),([4],[4]),([],[]),([6],[6]),([2,3,5,7],[2,3,5,7]),([],[]),([0,8,9],[0,8,9]),([],[]),([11],[11]),([],[]),([12,13],[12,13]),([14],[14]),([10,15],[10,15]),([],[]),([],[]),([18],[18]),([],[]),([20],[20]),([],[]),([22],[22]),([],[]),([19,21,23,24],[19,21,23,24]),([],[]),([17,25,26,10],[17,25,26]),([],[]),([28],[28]),([],[]),([29,30],[29,30]),([31],[31]),([27,32],[27,32]),([],[]),([],[]),([],[]),([],[]),([],[]),([35,36,37,38],[35,36,37,38]),([],[]),([34,39,40,27],[34,39,40]),([],[]),([],[]),([43],[43]),([],[]),([],[]),([46],[46]),([],[]),([44,45,47,48],[44,45,47,48]),([],[]),([42,49,50,41],[42,49,50]),([41,51],[41,51]),([],[]),([53],[53]),([],[]),([54,55],[54,55]),([56],[56]),([],[]),([57,58],[57,58]),([59],[59]),([52,60],[52,60]),([16,33,61],[16,33,61]),([62,51,0,1,2,3,4,5,6,7,8,9,10,11,12,13,14,15,16,17,18,19,20,21,22,23,24,25,26,27,28,29,30,31,32,33,34,35,36,37,38,39,40,41,42,43,44,45,46,47,48,49,50,51,52,53,54,55,56,57,58,59,60,61,62],[62])])
def forestR.B7 : List Nat:=[0,0,2,0,0,16,0,64,254,0,1023,0,2048,0,14336,30720,65535,0,0,262144,0,1048576,0,4194304,0,33292288,0,134088703,0,268435456,0,1879048192,4026531840,8589805567,0,0,0,0,0,515396075520,0,2182111692799,0,0,8796093022208,0,0,70368744177664,0,554153860399104,0,2251782902122495,4503582715807743,0,9007199254740992,0,63050394783186944,135107988821114880,0,567453553048682496,1143914305352105984,2305842992302131199,4611686018427387903,9223372036854775807]
theorem forestR.tab7 : rtab .any (opsOf Try.f58 7) = forestR.T7:=by kernel_rfl
theorem forestR.bits7 : waitsOk forestR.T7.2 forestR.B7 = true:=by kernel_rfl
def forestR.T10 : Bool × List (List Nat × List Nat):=(true,[([],[]),([],[]),([1],[1]),([],[]),([3],[3]),([],[]),([5],[5]),([],[]),([7],[7]),([8],[8]),([2,4,6,9],[2,4,6,9]),([],[]),([0,10,11],[0,10,11]),([],[]),([13],[13]),([],[]),([15],[15]),([16],[16]),([14,17],[14,17]),([18],[18]),([12,19],[12,19]),([20,12,0,1,2,3,4,5,6,7,8,9,10,11,12,13,14,15,16,17,18,19,20],[20])])
def forestR.B10 : List Nat:=[0,0,2,0,8,0,32,0,128,384,1022,0,4095,0,8192,0,32768,98304,253952,516096,1048575,2097151]
theorem forestR.tab10 : rtab .any (opsOf Try.f58 10) = forestR.T10:=by kernel_rfl
theorem forestR.bits10 : waitsOk forestR.T10.2 forestR.B10 = true:=by kernel_rfl
def forestR.T12 : Bool × List (List Nat × List Nat):=(true,[([],[]),([],[]),([1],[1]),([],[]),([3],[3]),([4],[4]),([],[]),([6],[6]),([],[]),([8],[8]),([2,5,7,9],[2,5,7,9]),([],[]),([0,10,11],[0,10,11]),([],[]),([13],[13]),([],[]),([15],[15]),([16],[16]),([14,17],[14,17]),([18],[18]),([12,19],[12,19]),([20,12,0,1,2,3,4,5,6,7,8,9,10,11,12,13,14,15,16,17,18,19,20],[20])])
def forestR.B12 : List Nat:=[0,0,2,0,8,24,0,64,0,256,1022,0,4095,0,8192,0,32768,98304,253952,516096,1048575,2097151]
theorem forestR.tab12 : rtab .any (opsOf Try.f58 12) = forestR.T12:=by kernel_rfl
theorem forestR.bits12 : waitsOk forestR.T12.2 forestR.B12 = true:=by kernel_rfl
set_option maxHeartbeats 8000000 in
set_option maxRecDepth 100000 in
theorem forest_none {M : Ted.Ms} {A B N : Nat} (hs : Small M) (hA : A ≤ 24) (hB : B ≤ 24) (IH : ∀ N',N' < N → ForestAt M A B N') {i k : Nat} (hN : N = 0) (hi : i ≤ A) (hk : k ≤ B) (W : World) (b : Nat) {v0 v1 v2 v3 v4 v5 v6 : Value} (ks : List K4) (mea : Mea M A B W b #[v0,v1,v2,v3,v4,v5,v6]) (hm : Memo M W b ks) (hx : InBox (i,i,k,k)) (hin : (i,i,k,k) ∉ ks) :
  Calls Try.prog 58 #[.agg #[v0,v1,v2,v3,v4,v5,v6],kval (i,i,k,k),.map (some b)] W fun e w' => e = .returned (.int .i64 (Ted.D M (i) (i) (k) (k))) ∧ Only b W w' ∧ ∃ ks',Memo M w' b ks' ∧ ∀ y ∈ ks',y ∈ ks ∨ sz y ≤ N:=by
 obtain ⟨DD,hown,hhas,hat⟩:=hm.own
 have hh : Maps.has DD (klit (i,i,k,k)) = false:=by rw [hhas _ hx];exact decide_eq_false hin
 have HSZ:=Aside0.mk (show ((i) - (i)) + ((k) - (k)) = N by omega)
 have HV:=Aside0.mk (show elem3 (.int .i64 (Ted.D M (i) (i) (k) (k))) = some (.lit (.int .i64 (valOf M (i,i,k,k))),[]) from plainElem_int Try.underlying3 (vw hs (i) (i) (k) (k) (by omega) (by omega)))
 have e0:=Ted.D_none M (Nat.lt_irrefl i) (Nat.lt_irrefl k)
 rw [e0] at HV
 rw [e0]
 have HM:=Aside0.mk hm
 have HO:=Aside0.mk hown
 have HX:=Aside0.mk (keyOf_k hx)
 have HIN:=Aside0.mk hin
 have HBX:=Aside0.mk hx
 have HST:=Aside0.mk (FS.start (i:=i) (j:=i) (k:=k) (m:=k) (N:=N) mea hm)
 have IH:=Aside0.mk IH
 clear hown hhas hat hin hx mea
 unfold kval kcells
 obtain ⟨ks1,DD1,hown1,hroom1,hst⟩:=HST.out.store HSZ.out HBX.out HIN.out
 have HST9:=Aside0.mk hst
 have HO9:=Aside0.mk hown1
 have HR9:=Aside0.mk hroom1
 clear hst hown1 hroom1
 go_enter Try.func58,Try.ntmps58
 go_wp2_with (first | (at_lookup;refine wpList_lookup_own_ok_int _ rfl _ _ 76 rfl 75 3 .i64 keyed75 Try.underlying76 Try.underlying3 (zero3 _) b ks.length DD rfl ((HO.out.alloc _).alloc _) _ (klit (i,i,k,k)) rfl HX.out ?_;intro c hc hwc) | (at_mapUpdate;refine wpList_mapUpdate_own _ rfl _ _ _ 76 rfl 75 3 keyed75 Try.underlying76 elem3 b _ _ rfl HO9.out HR9.out _ _ (klit (i,i,k,k)) rfl rfl HX.out (.lit (.int .i64 (valOf M (i,i,k,k)))) [] HV.out ?_;intro w9 hown9 hgrow9))
 go_ret
 exact ⟨rfl,HST9.out _ hown9 hgrow9⟩
set_option maxHeartbeats 8000000 in
set_option maxRecDepth 100000 in
theorem forest_b {M : Ted.Ms} {A B N : Nat} (hs : Small M) (hA : A ≤ 24) (hB : B ≤ 24) (IH : ∀ N',N' < N → ForestAt M A B N') {i k q : Nat} (hN : q + 1 - k = N) (hi : i ≤ A) (hk : k ≤ q) (hq : q + 1 ≤ B) (W : World) (b : Nat) {v0 v1 v2 v3 v4 v5 v6 : Value} (ks : List K4) (mea : Mea M A B W b #[v0,v1,v2,v3,v4,v5,v6]) (hm : Memo M W b ks) (hx : InBox (i,i,k,q + 1)) (hin : (i,i,k,q + 1) ∉ ks) :
  Calls Try.prog 58 #[.agg #[v0,v1,v2,v3,v4,v5,v6],kval (i,i,k,q + 1),.map (some b)] W fun e w' => e = .returned (.int .i64 (Ted.D M (i) (i) (k) (q + 1))) ∧ Only b W w' ∧ ∃ ks',Memo M w' b ks' ∧ ∀ y ∈ ks',y ∈ ks ∨ sz y ≤ N:=by
 obtain ⟨DD,hown,hhas,hat⟩:=hm.own
 have hh : Maps.has DD (klit (i,i,k,q + 1)) = false:=by rw [hhas _ hx];exact decide_eq_false hin
 have HSZ:=Aside0.mk (show ((i) - (i)) + ((q + 1) - (k)) = N by omega)
 obtain ⟨u0,u1,u2,u3,u4,u5,u6,e,m2,m3,m4,m5,m6⟩:=mea.is
 simp only [Array.mk.injEq,List.cons.injEq,and_true] at e
 obtain ⟨rfl,rfl,rfl,rfl,rfl,rfl,rfl⟩:=e
 obtain ⟨ad5,cp5,rfl,hcp5,nb5,r5⟩:=m5.is
 have x5:=Aside0.mk (r5 q (by omega))
 have NB5:=Aside0.mk nb5
 clear m5 r5 nb5
 have p5 : (0 ≤ (q : Int)) = True:=eq_true (by omega)
 have q5 : ((q : Int) < (B : Int)) = True:=eq_true (by omega)
 have HV:=Aside0.mk (show elem3 (.int .i64 (Ted.D M (i) (i) (k) (q + 1))) = some (.lit (.int .i64 (valOf M (i,i,k,q + 1))),[]) from plainElem_int Try.underlying3 (vw hs (i) (i) (k) (q + 1) (by omega) (by omega)))
 have HW_q:=Aside0.mk (num_sub (p:=q) (by omega))
 have HX_q:=Aside0.mk (num_id (p:=q) (by omega))
 have hsum : wrap64 (Ted.D M i i k q + M.ins q) = Ted.D M i i k (q + 1):=by
  have h1:=D_small hs i i k q
  have h2:=hs.ins q
  rw [Ted.D_b M (Nat.lt_irrefl i) (show k < q + 1 by omega)]
  exact wid (by omega) (by omega)
 have hne : ((k : Int) == ((q + 1 : Nat) : Int)) = false:=beq_eq_false_iff_ne.2 (by omega)
 have HM:=Aside0.mk hm
 have HO:=Aside0.mk hown
 have HX:=Aside0.mk (keyOf_k hx)
 have HIN:=Aside0.mk hin
 have HBX:=Aside0.mk hx
 have HST:=Aside0.mk (FS.start (i:=i) (j:=i) (k:=k) (m:=q + 1) (N:=N) mea hm)
 have IH:=Aside0.mk IH
 clear hown hhas hat hin hx mea
 unfold kval kcells
 go_enter Try.func58,Try.ntmps58
 go_wp2_with (first | (at_lookup;refine wpList_lookup_own_ok_int _ rfl _ _ 76 rfl 75 3 .i64 keyed75 Try.underlying76 Try.underlying3 (zero3 _) b ks.length DD rfl ((HO.out.alloc _).alloc _) _ (klit (i,i,k,q + 1)) rfl HX.out ?_;intro c hc hwc))
 refine start_ (n:=22) (S:=fun w' => FS M A B W b v0 v1 v2 v3 v4 (.slice (some ad5) B cp5) v6 (i) (i) (k) (q + 1) ks W.heap.size N w' ∧ w'.cell? (ad5.add q) = some (.int .i64 (M.ins q))) (ds:=[]) (ba_ 22 0) (by kernel_rfl) rfl rfl ⟨HST.out.drew,((((Only.refl b W).alloc _).alloc _).drew).cell (by rw [add_block];exact NB5.out) x5.out⟩ (fun hHeld => ?_)
 refine with_tabW forestR.tab10 forestR.bits10 (fun HT_ HW_ => ?_)
 refine pure_ (i:=1) (N:=some 127) (v:=?_) (a':=?_) (ba_ 22 2) rfl rfl (any_of HT_.out (by kernel_rfl)) (fun _ _ _ h => h) (Or.inl ⟨by rfl,?_⟩) ?_ ?_
 rotate_left
 ·intro w'
  go_simp
  with_reducible rfl
 rotate_left
 ·simp only [Act.put,List.setIfInBounds_toArray,List.set_cons_zero,List.set_cons_succ,i64_w,i32_w,HW_q.out,HX_q.out,hsum]
  rfl
 refine pure_ (i:=3) (N:=some 129) (v:=?_) (a':=?_) (ba_ 22 10) rfl rfl (any_of HT_.out (by kernel_rfl)) (fun _ _ _ h => h) (Or.inl ⟨by rfl,?_⟩) ?_ ?_
 rotate_left
 ·intro w'
  go_simp
  with_reducible rfl
 rotate_left
 ·simp only [Act.put,List.setIfInBounds_toArray,List.set_cons_zero,List.set_cons_succ,i64_w,i32_w,HW_q.out,HX_q.out,hsum]
  rfl
 refine pure_ (i:=5) (N:=some 131) (v:=?_) (a':=?_) (ba_ 22 42) rfl rfl (any_of HT_.out (by kernel_rfl)) (fun _ _ _ h => h) (Or.inl ⟨by rfl,?_⟩) ?_ ?_
 rotate_left
 ·intro w'
  go_simp
  with_reducible rfl
 rotate_left
 ·simp only [Act.put,List.setIfInBounds_toArray,List.set_cons_zero,List.set_cons_succ,i64_w,i32_w,HW_q.out,HX_q.out,hsum]
  rfl
 refine pure_ (i:=7) (N:=some 133) (v:=?_) (a':=?_) (ba_ 22 170) rfl rfl (any_of HT_.out (by kernel_rfl)) (fun _ _ _ h => h) (Or.inl ⟨by rfl,?_⟩) ?_ ?_
 rotate_left
 ·intro w'
  go_simp
  with_reducible rfl
 rotate_left
 ·simp only [Act.put,List.setIfInBounds_toArray,List.set_cons_zero,List.set_cons_succ,i64_w,i32_w,HW_q.out,HX_q.out,hsum]
  rfl
 refine pure_ (i:=11) (N:=some 137) (v:=?_) (a':=?_) (ba_ 22 2218) rfl rfl (any_of HT_.out (by kernel_rfl)) (fun _ _ _ h => h) (Or.inl ⟨by rfl,?_⟩) ?_ ?_
 rotate_left
 ·intro w'
  go_simp
  with_reducible rfl
 rotate_left
 ·simp only [Act.put,List.setIfInBounds_toArray,List.set_cons_zero,List.set_cons_succ,i64_w,i32_w,HW_q.out,HX_q.out,hsum]
  rfl
 refine pure_ (i:=13) (N:=some 139) (v:=?_) (a':=?_) (ba_ 22 10410) rfl rfl (any_of HT_.out (by kernel_rfl)) (fun _ _ _ h => h) (Or.inl ⟨by rfl,?_⟩) ?_ ?_
 rotate_left
 ·intro w'
  go_simp
  with_reducible rfl
 rotate_left
 ·simp only [Act.put,List.setIfInBounds_toArray,List.set_cons_zero,List.set_cons_succ,i64_w,i32_w,HW_q.out,HX_q.out,hsum]
  rfl
 refine pure_ (i:=15) (N:=some 141) (v:=?_) (a':=?_) (ba_ 22 43178) rfl rfl (any_of HT_.out (by kernel_rfl)) (fun _ _ _ h => h) (Or.inl ⟨by rfl,?_⟩) ?_ ?_
 rotate_left
 ·intro w'
  go_simp
  with_reducible rfl
 rotate_left
 ·simp only [Act.put,List.setIfInBounds_toArray,List.set_cons_zero,List.set_cons_succ,i64_w,i32_w,HW_q.out,HX_q.out,hsum]
  rfl
 refine take_ (i:=0) (N:=some 126) (v:=?_) (a':=?_) (ba_ 22 43179) rfl rfl (take_ofW HT_.out HW_.out (by kernel_rfl)) (fun _ _ _ h => h) (Or.inl ⟨by rfl,?_⟩) hHeld ?_ ?_
 rotate_left
 ·rintro w' ⟨⟨c0,c1,c2,c3,c4,c5,c6,-,-,-,-,-,-,-,-⟩,-⟩
  go_simp
  with_reducible rfl
 rotate_left
 ·simp only [Act.put,List.setIfInBounds_toArray,List.set_cons_zero,List.set_cons_succ,i64_w,i32_w,HW_q.out,HX_q.out,hsum]
  rfl
 refine take_ (i:=2) (N:=some 128) (v:=?_) (a':=?_) (ba_ 22 43183) rfl rfl (take_ofW HT_.out HW_.out (by kernel_rfl)) (fun _ _ _ h => h) (Or.inl ⟨by rfl,?_⟩) hHeld ?_ ?_
 rotate_left
 ·rintro w' ⟨⟨-,-,-,-,-,-,-,d0,-,-,-,-,-,-,-⟩,-⟩
  go_simp
  with_reducible rfl
 rotate_left
 ·simp only [Act.put,List.setIfInBounds_toArray,List.set_cons_zero,List.set_cons_succ,i64_w,i32_w,HW_q.out,HX_q.out,hsum]
  rfl
 refine take_ (i:=4) (N:=some 130) (v:=?_) (a':=?_) (ba_ 22 43199) rfl rfl (take_ofW HT_.out HW_.out (by kernel_rfl)) (fun _ _ _ h => h) (Or.inl ⟨by rfl,?_⟩) hHeld ?_ ?_
 rotate_left
 ·rintro w' ⟨⟨-,-,-,-,-,-,-,-,d1,-,-,-,-,-,-⟩,-⟩
  go_simp
  with_reducible rfl
 rotate_left
 ·simp only [Act.put,List.setIfInBounds_toArray,List.set_cons_zero,List.set_cons_succ,i64_w,i32_w,HW_q.out,HX_q.out,hsum]
  rfl
 refine take_ (i:=6) (N:=some 132) (v:=?_) (a':=?_) (ba_ 22 43263) rfl rfl (take_ofW HT_.out HW_.out (by kernel_rfl)) (fun _ _ _ h => h) (Or.inl ⟨by rfl,?_⟩) hHeld ?_ ?_
 rotate_left
 ·rintro w' ⟨⟨-,-,-,-,-,-,-,-,-,d2,-,-,-,-,-⟩,-⟩
  go_simp
  with_reducible rfl
 rotate_left
 ·simp only [Act.put,List.setIfInBounds_toArray,List.set_cons_zero,List.set_cons_succ,i64_w,i32_w,HW_q.out,HX_q.out,hsum]
  rfl
 refine take_ (i:=8) (N:=some 134) (v:=?_) (a':=?_) (ba_ 22 43519) rfl rfl (take_ofW HT_.out HW_.out (by kernel_rfl)) (fun _ _ _ h => h) (Or.inl ⟨by rfl,?_⟩) hHeld ?_ ?_
 rotate_left
 ·rintro w' ⟨⟨-,-,-,-,-,-,-,-,-,-,d3,-,-,-,-⟩,-⟩
  go_simp
  with_reducible rfl
 rotate_left
 ·simp only [Act.put,List.setIfInBounds_toArray,List.set_cons_zero,List.set_cons_succ,i64_w,i32_w,HW_q.out,HX_q.out,hsum]
  rfl
 refine pure_ (i:=9) (N:=some 135) (v:=?_) (a':=?_) (ba_ 22 44031) rfl rfl (any_of HT_.out (by kernel_rfl)) (fun _ _ _ h => h) (Or.inl ⟨by rfl,?_⟩) ?_ ?_
 rotate_left
 ·intro w'
  go_simp
  with_reducible rfl
 rotate_left
 ·simp only [Act.put,List.setIfInBounds_toArray,List.set_cons_zero,List.set_cons_succ,i64_w,i32_w,HW_q.out,HX_q.out,hsum]
  rfl
 refine pure_ (i:=10) (N:=some 136) (v:=?_) (a':=?_) (ba_ 22 45055) rfl rfl (any_of HT_.out (by kernel_rfl)) (fun _ _ _ h => h) (Or.inl ⟨by rfl,?_⟩) ?_ ?_
 rotate_left
 ·intro w'
  go_simp
  with_reducible rfl
 rotate_left
 ·simp only [Act.put,List.setIfInBounds_toArray,List.set_cons_zero,List.set_cons_succ,i64_w,i32_w,HW_q.out,HX_q.out,hsum]
  rfl
 refine take_ (i:=14) (N:=some 140) (v:=?_) (a':=?_) (ba_ 22 61439) rfl rfl (take_ofW HT_.out HW_.out (by kernel_rfl)) (fun _ _ _ h => h) (Or.inl ⟨by rfl,?_⟩) hHeld ?_ ?_
 rotate_left
 ·rintro w' ⟨⟨-,-,-,-,-,c5,-,-,-,-,-,-,-,-,-⟩,-⟩
  go_simp
  with_reducible rfl
 rotate_left
 ·simp only [Act.put,List.setIfInBounds_toArray,List.set_cons_zero,List.set_cons_succ,i64_w,i32_w,HW_q.out,HX_q.out,hsum]
  rfl
 refine take_ (i:=16) (N:=some 142) (v:=?_) (a':=?_) (ba_ 22 126975) rfl rfl (take_ofW HT_.out HW_.out (by kernel_rfl)) (fun _ _ _ h => h) (Or.inl ⟨by rfl,?_⟩) hHeld ?_ ?_
 rotate_left
 ·rintro w' ⟨⟨-,-,-,-,-,-,-,-,-,-,d3,-,-,-,-⟩,-⟩
  go_simp
  with_reducible rfl
 rotate_left
 ·simp only [Act.put,List.setIfInBounds_toArray,List.set_cons_zero,List.set_cons_succ,i64_w,i32_w,HW_q.out,HX_q.out,hsum]
  rfl
 refine pure_ (i:=17) (N:=some 143) (v:=?_) (a':=?_) (ba_ 22 258047) rfl rfl (any_of HT_.out (by kernel_rfl)) (fun _ _ _ h => h) (Or.inl ⟨by rfl,?_⟩) ?_ ?_
 rotate_left
 ·intro w'
  go_simp
  with_reducible rfl
 rotate_left
 ·simp only [Act.put,List.setIfInBounds_toArray,List.set_cons_zero,List.set_cons_succ,i64_w,i32_w,HW_q.out,HX_q.out,hsum]
  rfl
 refine pure_ (i:=18) (N:=some 144) (v:=?_) (a':=?_) (ba_ 22 520191) rfl rfl (any_of HT_.out (by kernel_rfl)) (fun _ _ _ h => h) (Or.inl ⟨by rfl,?_⟩) ?_ ?_
 rotate_left
 ·intro w'
  go_simp
  with_reducible rfl
 rotate_left
 ·simp only [Act.put,List.setIfInBounds_toArray,List.set_cons_zero,List.set_cons_succ,i64_w,i32_w,HW_q.out,HX_q.out,hsum]
  rfl
 refine take_ (i:=19) (N:=some 145) (v:=?_) (a':=?_) (ba_ 22 1044479) rfl rfl (take_ofW HT_.out HW_.out (by kernel_rfl)) (fun _ _ _ h => h) (Or.inl ⟨by rfl,?_⟩) hHeld ?_ ?_
 rotate_left
 ·rintro w' ⟨⟨-,-,-,-,-,-,-,-,-,-,-,-,-,-,-⟩,s0⟩
  go_simp
  with_reducible rfl
 rotate_left
 ·simp only [Act.put,List.setIfInBounds_toArray,List.set_cons_zero,List.set_cons_succ,i64_w,i32_w,HW_q.out,HX_q.out,hsum]
  rfl
 refine one_ (i:=12) (N:=some 138) (ba_ 22 1048575) rfl rfl (one_of HT_.out (by kernel_rfl)) (by decide) (fun K hK => ?_)
 refine goes_ Try.func58 (by kernel_rfl) rfl #[.agg #[v0,v1,v2,v3,v4,(.slice (some ad5) B cp5),v6],.agg #[.int .i64 ((i : Nat) : Int),.int .i64 ((i : Nat) : Int),.int .i64 ((k : Nat) : Int),.int .i64 ((q : Nat) : Int)],.map (some b)] (by rfl) rfl rfl (by simp only [List.map_toArray,List.map_cons,List.map_nil];rfl) ?_
 refine (FS.goes IH.out hHeld.1 (i':=i) (j':=i) (k':=k) (m':=q) (by omega) (by omega) (by omega) (by omega) (by omega)).mono ?_
 rintro e w' ⟨rfl,hfs,hol⟩
 refine ⟨_,rfl,?_⟩
 obtain ⟨_,e0⟩:=hHeld
 refine hK.out _ _ ⟨hfs,hol.cell (by rw [add_block];exact NB5.out) e0⟩ (fun hHeld => ?_)
 clear hK K
 refine norm_ (a':=?_) ?_ ?_
 rotate_left
 ·show Act.put _ (some 138) _ = _
  simp only [Act.put,List.setIfInBounds_toArray,List.set_cons_zero,List.set_cons_succ,i64_w,i32_w,HW_q.out,HX_q.out,hsum]
  rfl
 refine pure_ (i:=20) (N:=some 146) (v:=?_) (a':=?_) (ba_ 22 2097151) rfl rfl (any_of HT_.out (by kernel_rfl)) (fun _ _ _ h => h) (Or.inl ⟨by rfl,?_⟩) ?_ ?_
 rotate_left
 ·intro w'
  go_simp
  with_reducible rfl
 rotate_left
 ·simp only [Act.put,List.setIfInBounds_toArray,List.set_cons_zero,List.set_cons_succ,i64_w,i32_w,HW_q.out,HX_q.out,hsum]
  rfl
 refine pure_ (i:=21) (N:=some 9) (v:=?_) (a':=?_) (ba_ 22 4194303) rfl rfl (any_of HT_.out (by kernel_rfl)) (fun _ _ _ h => h) (Or.inl ⟨by rfl,?_⟩) ?_ ?_
 rotate_left
 ·intro w'
  go_simp
  with_reducible rfl
 rotate_left
 ·simp only [Act.put,List.setIfInBounds_toArray,List.set_cons_zero,List.set_cons_succ,i64_w,i32_w,HW_q.out,HX_q.out,hsum]
  rfl
 refine done_ (done_of HT_.out (by kernel_rfl)) ?_
 obtain ⟨hfs,_⟩:=hHeld
 obtain ⟨ks1,DD1,hown1,hroom1,hst⟩:=hfs.store HSZ.out HBX.out HIN.out
 have d0:=hfs.d0
 have d1:=hfs.d1
 have d2:=hfs.d2
 have d3:=hfs.d3
 have HST9:=Aside0.mk hst
 have HO9:=Aside0.mk hown1
 have HR9:=Aside0.mk hroom1
 clear hst hown1 hroom1
 go_wp2_with (first | (at_mapUpdate;refine wpList_mapUpdate_own _ rfl _ _ _ 76 rfl 75 3 keyed75 Try.underlying76 elem3 b _ _ rfl HO9.out HR9.out _ _ (klit (i,i,k,q + 1)) rfl rfl HX.out (.lit (.int .i64 (valOf M (i,i,k,q + 1)))) [] HV.out ?_;intro w9 hown9 hgrow9))
 go_ret
 exact ⟨rfl,HST9.out _ hown9 hgrow9⟩
set_option maxHeartbeats 8000000 in
set_option maxRecDepth 100000 in
theorem forest_c {M : Ted.Ms} {A B N : Nat} (hs : Small M) (hA : A ≤ 24) (hB : B ≤ 24) (IH : ∀ N',N' < N → ForestAt M A B N') {i k p : Nat} (hN : p + 1 - i = N) (hk : k ≤ B) (hi : i ≤ p) (hp : p + 1 ≤ A) (W : World) (b : Nat) {v0 v1 v2 v3 v4 v5 v6 : Value} (ks : List K4) (mea : Mea M A B W b #[v0,v1,v2,v3,v4,v5,v6]) (hm : Memo M W b ks) (hx : InBox (i,p + 1,k,k)) (hin : (i,p + 1,k,k) ∉ ks) :
  Calls Try.prog 58 #[.agg #[v0,v1,v2,v3,v4,v5,v6],kval (i,p + 1,k,k),.map (some b)] W fun e w' => e = .returned (.int .i64 (Ted.D M (i) (p + 1) (k) (k))) ∧ Only b W w' ∧ ∃ ks',Memo M w' b ks' ∧ ∀ y ∈ ks',y ∈ ks ∨ sz y ≤ N:=by
 obtain ⟨DD,hown,hhas,hat⟩:=hm.own
 have hh : Maps.has DD (klit (i,p + 1,k,k)) = false:=by rw [hhas _ hx];exact decide_eq_false hin
 have HSZ:=Aside0.mk (show ((p + 1) - (i)) + ((k) - (k)) = N by omega)
 obtain ⟨u0,u1,u2,u3,u4,u5,u6,e,m2,m3,m4,m5,m6⟩:=mea.is
 simp only [Array.mk.injEq,List.cons.injEq,and_true] at e
 obtain ⟨rfl,rfl,rfl,rfl,rfl,rfl,rfl⟩:=e
 obtain ⟨ad4,cp4,rfl,hcp4,nb4,r4⟩:=m4.is
 have x4:=Aside0.mk (r4 p (by omega))
 have NB4:=Aside0.mk nb4
 clear m4 r4 nb4
 have p4 : (0 ≤ (p : Int)) = True:=eq_true (by omega)
 have q4 : ((p : Int) < (A : Int)) = True:=eq_true (by omega)
 have HV:=Aside0.mk (show elem3 (.int .i64 (Ted.D M (i) (p + 1) (k) (k))) = some (.lit (.int .i64 (valOf M (i,p + 1,k,k))),[]) from plainElem_int Try.underlying3 (vw hs (i) (p + 1) (k) (k) (by omega) (by omega)))
 have HW_p:=Aside0.mk (num_sub (p:=p) (by omega))
 have HX_p:=Aside0.mk (num_id (p:=p) (by omega))
 have hsum : wrap64 (Ted.D M i p k k + M.del p) = Ted.D M i (p + 1) k k:=by
  have h1:=D_small hs i p k k
  have h2:=hs.del p
  rw [Ted.D_a M (show i < p + 1 by omega) (Nat.lt_irrefl k)]
  exact wid (by omega) (by omega)
 have hne : ((i : Int) == ((p + 1 : Nat) : Int)) = false:=beq_eq_false_iff_ne.2 (by omega)
 have HM:=Aside0.mk hm
 have HO:=Aside0.mk hown
 have HX:=Aside0.mk (keyOf_k hx)
 have HIN:=Aside0.mk hin
 have HBX:=Aside0.mk hx
 have HST:=Aside0.mk (FS.start (i:=i) (j:=p + 1) (k:=k) (m:=k) (N:=N) mea hm)
 have IH:=Aside0.mk IH
 clear hown hhas hat hin hx mea
 unfold kval kcells
 go_enter Try.func58,Try.ntmps58
 go_wp2_with (first | (at_lookup;refine wpList_lookup_own_ok_int _ rfl _ _ 76 rfl 75 3 .i64 keyed75 Try.underlying76 Try.underlying3 (zero3 _) b ks.length DD rfl ((HO.out.alloc _).alloc _) _ (klit (i,p + 1,k,k)) rfl HX.out ?_;intro c hc hwc))
 refine start_ (n:=22) (S:=fun w' => FS M A B W b v0 v1 v2 v3 (.slice (some ad4) A cp4) v5 v6 (i) (p + 1) (k) (k) ks W.heap.size N w' ∧ w'.cell? (ad4.add p) = some (.int .i64 (M.del p))) (ds:=[]) (ba_ 22 0) (by kernel_rfl) rfl rfl ⟨HST.out.drew,((((Only.refl b W).alloc _).alloc _).drew).cell (by rw [add_block];exact NB4.out) x4.out⟩ (fun hHeld => ?_)
 refine with_tabW forestR.tab12 forestR.bits12 (fun HT_ HW_ => ?_)
 refine pure_ (i:=1) (N:=some 154) (v:=?_) (a':=?_) (ba_ 22 2) rfl rfl (any_of HT_.out (by kernel_rfl)) (fun _ _ _ h => h) (Or.inl ⟨by rfl,?_⟩) ?_ ?_
 rotate_left
 ·intro w'
  go_simp
  with_reducible rfl
 rotate_left
 ·simp only [Act.put,List.setIfInBounds_toArray,List.set_cons_zero,List.set_cons_succ,i64_w,i32_w,HW_p.out,HX_p.out,hsum]
  rfl
 refine pure_ (i:=3) (N:=some 156) (v:=?_) (a':=?_) (ba_ 22 10) rfl rfl (any_of HT_.out (by kernel_rfl)) (fun _ _ _ h => h) (Or.inl ⟨by rfl,?_⟩) ?_ ?_
 rotate_left
 ·intro w'
  go_simp
  with_reducible rfl
 rotate_left
 ·simp only [Act.put,List.setIfInBounds_toArray,List.set_cons_zero,List.set_cons_succ,i64_w,i32_w,HW_p.out,HX_p.out,hsum]
  rfl
 refine pure_ (i:=6) (N:=some 159) (v:=?_) (a':=?_) (ba_ 22 74) rfl rfl (any_of HT_.out (by kernel_rfl)) (fun _ _ _ h => h) (Or.inl ⟨by rfl,?_⟩) ?_ ?_
 rotate_left
 ·intro w'
  go_simp
  with_reducible rfl
 rotate_left
 ·simp only [Act.put,List.setIfInBounds_toArray,List.set_cons_zero,List.set_cons_succ,i64_w,i32_w,HW_p.out,HX_p.out,hsum]
  rfl
 refine pure_ (i:=8) (N:=some 161) (v:=?_) (a':=?_) (ba_ 22 330) rfl rfl (any_of HT_.out (by kernel_rfl)) (fun _ _ _ h => h) (Or.inl ⟨by rfl,?_⟩) ?_ ?_
 rotate_left
 ·intro w'
  go_simp
  with_reducible rfl
 rotate_left
 ·simp only [Act.put,List.setIfInBounds_toArray,List.set_cons_zero,List.set_cons_succ,i64_w,i32_w,HW_p.out,HX_p.out,hsum]
  rfl
 refine pure_ (i:=11) (N:=some 164) (v:=?_) (a':=?_) (ba_ 22 2378) rfl rfl (any_of HT_.out (by kernel_rfl)) (fun _ _ _ h => h) (Or.inl ⟨by rfl,?_⟩) ?_ ?_
 rotate_left
 ·intro w'
  go_simp
  with_reducible rfl
 rotate_left
 ·simp only [Act.put,List.setIfInBounds_toArray,List.set_cons_zero,List.set_cons_succ,i64_w,i32_w,HW_p.out,HX_p.out,hsum]
  rfl
 refine pure_ (i:=13) (N:=some 166) (v:=?_) (a':=?_) (ba_ 22 10570) rfl rfl (any_of HT_.out (by kernel_rfl)) (fun _ _ _ h => h) (Or.inl ⟨by rfl,?_⟩) ?_ ?_
 rotate_left
 ·intro w'
  go_simp
  with_reducible rfl
 rotate_left
 ·simp only [Act.put,List.setIfInBounds_toArray,List.set_cons_zero,List.set_cons_succ,i64_w,i32_w,HW_p.out,HX_p.out,hsum]
  rfl
 refine pure_ (i:=15) (N:=some 168) (v:=?_) (a':=?_) (ba_ 22 43338) rfl rfl (any_of HT_.out (by kernel_rfl)) (fun _ _ _ h => h) (Or.inl ⟨by rfl,?_⟩) ?_ ?_
 rotate_left
 ·intro w'
  go_simp
  with_reducible rfl
 rotate_left
 ·simp only [Act.put,List.setIfInBounds_toArray,List.set_cons_zero,List.set_cons_succ,i64_w,i32_w,HW_p.out,HX_p.out,hsum]
  rfl
 refine take_ (i:=0) (N:=some 153) (v:=?_) (a':=?_) (ba_ 22 43339) rfl rfl (take_ofW HT_.out HW_.out (by kernel_rfl)) (fun _ _ _ h => h) (Or.inl ⟨by rfl,?_⟩) hHeld ?_ ?_
 rotate_left
 ·rintro w' ⟨⟨c0,c1,c2,c3,c4,c5,c6,-,-,-,-,-,-,-,-⟩,-⟩
  go_simp
  with_reducible rfl
 rotate_left
 ·simp only [Act.put,List.setIfInBounds_toArray,List.set_cons_zero,List.set_cons_succ,i64_w,i32_w,HW_p.out,HX_p.out,hsum]
  rfl
 refine take_ (i:=2) (N:=some 155) (v:=?_) (a':=?_) (ba_ 22 43343) rfl rfl (take_ofW HT_.out HW_.out (by kernel_rfl)) (fun _ _ _ h => h) (Or.inl ⟨by rfl,?_⟩) hHeld ?_ ?_
 rotate_left
 ·rintro w' ⟨⟨-,-,-,-,-,-,-,d0,-,-,-,-,-,-,-⟩,-⟩
  go_simp
  with_reducible rfl
 rotate_left
 ·simp only [Act.put,List.setIfInBounds_toArray,List.set_cons_zero,List.set_cons_succ,i64_w,i32_w,HW_p.out,HX_p.out,hsum]
  rfl
 refine take_ (i:=4) (N:=some 157) (v:=?_) (a':=?_) (ba_ 22 43359) rfl rfl (take_ofW HT_.out HW_.out (by kernel_rfl)) (fun _ _ _ h => h) (Or.inl ⟨by rfl,?_⟩) hHeld ?_ ?_
 rotate_left
 ·rintro w' ⟨⟨-,-,-,-,-,-,-,-,d1,-,-,-,-,-,-⟩,-⟩
  go_simp
  with_reducible rfl
 rotate_left
 ·simp only [Act.put,List.setIfInBounds_toArray,List.set_cons_zero,List.set_cons_succ,i64_w,i32_w,HW_p.out,HX_p.out,hsum]
  rfl
 refine pure_ (i:=5) (N:=some 158) (v:=?_) (a':=?_) (ba_ 22 43391) rfl rfl (any_of HT_.out (by kernel_rfl)) (fun _ _ _ h => h) (Or.inl ⟨by rfl,?_⟩) ?_ ?_
 rotate_left
 ·intro w'
  go_simp
  with_reducible rfl
 rotate_left
 ·simp only [Act.put,List.setIfInBounds_toArray,List.set_cons_zero,List.set_cons_succ,i64_w,i32_w,HW_p.out,HX_p.out,hsum]
  rfl
 refine take_ (i:=7) (N:=some 160) (v:=?_) (a':=?_) (ba_ 22 43519) rfl rfl (take_ofW HT_.out HW_.out (by kernel_rfl)) (fun _ _ _ h => h) (Or.inl ⟨by rfl,?_⟩) hHeld ?_ ?_
 rotate_left
 ·rintro w' ⟨⟨-,-,-,-,-,-,-,-,-,d2,-,-,-,-,-⟩,-⟩
  go_simp
  with_reducible rfl
 rotate_left
 ·simp only [Act.put,List.setIfInBounds_toArray,List.set_cons_zero,List.set_cons_succ,i64_w,i32_w,HW_p.out,HX_p.out,hsum]
  rfl
 refine take_ (i:=9) (N:=some 162) (v:=?_) (a':=?_) (ba_ 22 44031) rfl rfl (take_ofW HT_.out HW_.out (by kernel_rfl)) (fun _ _ _ h => h) (Or.inl ⟨by rfl,?_⟩) hHeld ?_ ?_
 rotate_left
 ·rintro w' ⟨⟨-,-,-,-,-,-,-,-,-,-,d3,-,-,-,-⟩,-⟩
  go_simp
  with_reducible rfl
 rotate_left
 ·simp only [Act.put,List.setIfInBounds_toArray,List.set_cons_zero,List.set_cons_succ,i64_w,i32_w,HW_p.out,HX_p.out,hsum]
  rfl
 refine pure_ (i:=10) (N:=some 163) (v:=?_) (a':=?_) (ba_ 22 45055) rfl rfl (any_of HT_.out (by kernel_rfl)) (fun _ _ _ h => h) (Or.inl ⟨by rfl,?_⟩) ?_ ?_
 rotate_left
 ·intro w'
  go_simp
  with_reducible rfl
 rotate_left
 ·simp only [Act.put,List.setIfInBounds_toArray,List.set_cons_zero,List.set_cons_succ,i64_w,i32_w,HW_p.out,HX_p.out,hsum]
  rfl
 refine take_ (i:=14) (N:=some 167) (v:=?_) (a':=?_) (ba_ 22 61439) rfl rfl (take_ofW HT_.out HW_.out (by kernel_rfl)) (fun _ _ _ h => h) (Or.inl ⟨by rfl,?_⟩) hHeld ?_ ?_
 rotate_left
 ·rintro w' ⟨⟨-,-,-,-,c4,-,-,-,-,-,-,-,-,-,-⟩,-⟩
  go_simp
  with_reducible rfl
 rotate_left
 ·simp only [Act.put,List.setIfInBounds_toArray,List.set_cons_zero,List.set_cons_succ,i64_w,i32_w,HW_p.out,HX_p.out,hsum]
  rfl
 refine take_ (i:=16) (N:=some 169) (v:=?_) (a':=?_) (ba_ 22 126975) rfl rfl (take_ofW HT_.out HW_.out (by kernel_rfl)) (fun _ _ _ h => h) (Or.inl ⟨by rfl,?_⟩) hHeld ?_ ?_
 rotate_left
 ·rintro w' ⟨⟨-,-,-,-,-,-,-,-,d1,-,-,-,-,-,-⟩,-⟩
  go_simp
  with_reducible rfl
 rotate_left
 ·simp only [Act.put,List.setIfInBounds_toArray,List.set_cons_zero,List.set_cons_succ,i64_w,i32_w,HW_p.out,HX_p.out,hsum]
  rfl
 refine pure_ (i:=17) (N:=some 170) (v:=?_) (a':=?_) (ba_ 22 258047) rfl rfl (any_of HT_.out (by kernel_rfl)) (fun _ _ _ h => h) (Or.inl ⟨by rfl,?_⟩) ?_ ?_
 rotate_left
 ·intro w'
  go_simp
  with_reducible rfl
 rotate_left
 ·simp only [Act.put,List.setIfInBounds_toArray,List.set_cons_zero,List.set_cons_succ,i64_w,i32_w,HW_p.out,HX_p.out,hsum]
  rfl
 refine pure_ (i:=18) (N:=some 171) (v:=?_) (a':=?_) (ba_ 22 520191) rfl rfl (any_of HT_.out (by kernel_rfl)) (fun _ _ _ h => h) (Or.inl ⟨by rfl,?_⟩) ?_ ?_
 rotate_left
 ·intro w'
  go_simp
  with_reducible rfl
 rotate_left
 ·simp only [Act.put,List.setIfInBounds_toArray,List.set_cons_zero,List.set_cons_succ,i64_w,i32_w,HW_p.out,HX_p.out,hsum]
  rfl
 refine take_ (i:=19) (N:=some 172) (v:=?_) (a':=?_) (ba_ 22 1044479) rfl rfl (take_ofW HT_.out HW_.out (by kernel_rfl)) (fun _ _ _ h => h) (Or.inl ⟨by rfl,?_⟩) hHeld ?_ ?_
 rotate_left
 ·rintro w' ⟨⟨-,-,-,-,-,-,-,-,-,-,-,-,-,-,-⟩,s0⟩
  go_simp
  with_reducible rfl
 rotate_left
 ·simp only [Act.put,List.setIfInBounds_toArray,List.set_cons_zero,List.set_cons_succ,i64_w,i32_w,HW_p.out,HX_p.out,hsum]
  rfl
 refine one_ (i:=12) (N:=some 165) (ba_ 22 1048575) rfl rfl (one_of HT_.out (by kernel_rfl)) (by decide) (fun K hK => ?_)
 refine goes_ Try.func58 (by kernel_rfl) rfl #[.agg #[v0,v1,v2,v3,(.slice (some ad4) A cp4),v5,v6],.agg #[.int .i64 ((i : Nat) : Int),.int .i64 ((p : Nat) : Int),.int .i64 ((k : Nat) : Int),.int .i64 ((k : Nat) : Int)],.map (some b)] (by rfl) rfl rfl (by simp only [List.map_toArray,List.map_cons,List.map_nil];rfl) ?_
 refine (FS.goes IH.out hHeld.1 (i':=i) (j':=p) (k':=k) (m':=k) (by omega) (by omega) (by omega) (by omega) (by omega)).mono ?_
 rintro e w' ⟨rfl,hfs,hol⟩
 refine ⟨_,rfl,?_⟩
 obtain ⟨_,e0⟩:=hHeld
 refine hK.out _ _ ⟨hfs,hol.cell (by rw [add_block];exact NB4.out) e0⟩ (fun hHeld => ?_)
 clear hK K
 refine norm_ (a':=?_) ?_ ?_
 rotate_left
 ·show Act.put _ (some 165) _ = _
  simp only [Act.put,List.setIfInBounds_toArray,List.set_cons_zero,List.set_cons_succ,i64_w,i32_w,HW_p.out,HX_p.out,hsum]
  rfl
 refine pure_ (i:=20) (N:=some 173) (v:=?_) (a':=?_) (ba_ 22 2097151) rfl rfl (any_of HT_.out (by kernel_rfl)) (fun _ _ _ h => h) (Or.inl ⟨by rfl,?_⟩) ?_ ?_
 rotate_left
 ·intro w'
  go_simp
  with_reducible rfl
 rotate_left
 ·simp only [Act.put,List.setIfInBounds_toArray,List.set_cons_zero,List.set_cons_succ,i64_w,i32_w,HW_p.out,HX_p.out,hsum]
  rfl
 refine pure_ (i:=21) (N:=some 9) (v:=?_) (a':=?_) (ba_ 22 4194303) rfl rfl (any_of HT_.out (by kernel_rfl)) (fun _ _ _ h => h) (Or.inl ⟨by rfl,?_⟩) ?_ ?_
 rotate_left
 ·intro w'
  go_simp
  with_reducible rfl
 rotate_left
 ·simp only [Act.put,List.setIfInBounds_toArray,List.set_cons_zero,List.set_cons_succ,i64_w,i32_w,HW_p.out,HX_p.out,hsum]
  rfl
 refine done_ (done_of HT_.out (by kernel_rfl)) ?_
 obtain ⟨hfs,_⟩:=hHeld
 obtain ⟨ks1,DD1,hown1,hroom1,hst⟩:=hfs.store HSZ.out HBX.out HIN.out
 have d0:=hfs.d0
 have d1:=hfs.d1
 have d2:=hfs.d2
 have d3:=hfs.d3
 have HST9:=Aside0.mk hst
 have HO9:=Aside0.mk hown1
 have HR9:=Aside0.mk hroom1
 clear hst hown1 hroom1
 go_wp2_with (first | (at_mapUpdate;refine wpList_mapUpdate_own _ rfl _ _ _ 76 rfl 75 3 keyed75 Try.underlying76 elem3 b _ _ rfl HO9.out HR9.out _ _ (klit (i,p + 1,k,k)) rfl rfl HX.out (.lit (.int .i64 (valOf M (i,p + 1,k,k)))) [] HV.out ?_;intro w9 hown9 hgrow9))
 go_ret
 exact ⟨rfl,HST9.out _ hown9 hgrow9⟩
set_option maxHeartbeats 8000000 in
set_option maxRecDepth 100000 in
theorem forest_ab {M : Ted.Ms} {A B N : Nat} (hs : Small M) (hA : A ≤ 24) (hB : B ≤ 24) (IH : ∀ N',N' < N → ForestAt M A B N') {i k p q : Nat} (hN : (p + 1 - i) + (q + 1 - k) = N) (hi : i ≤ p) (hp : p + 1 ≤ A) (hk : k ≤ q) (hq : q + 1 ≤ B) (hla : M.la p ≤ p) (hlb : M.lb q ≤ q) (W : World) (b : Nat) {v0 v1 v2 v3 v4 v5 v6 : Value} (ks : List K4) (mea : Mea M A B W b #[v0,v1,v2,v3,v4,v5,v6]) (hm : Memo M W b ks) (hx : InBox (i,p + 1,k,q + 1)) (hin : (i,p + 1,k,q + 1) ∉ ks) :
  Calls Try.prog 58 #[.agg #[v0,v1,v2,v3,v4,v5,v6],kval (i,p + 1,k,q + 1),.map (some b)] W fun e w' => e = .returned (.int .i64 (Ted.D M (i) (p + 1) (k) (q + 1))) ∧ Only b W w' ∧ ∃ ks',Memo M w' b ks' ∧ ∀ y ∈ ks',y ∈ ks ∨ sz y ≤ N:=by
 obtain ⟨DD,hown,hhas,hat⟩:=hm.own
 have hh : Maps.has DD (klit (i,p + 1,k,q + 1)) = false:=by rw [hhas _ hx];exact decide_eq_false hin
 have HSZ:=Aside0.mk (show ((p + 1) - (i)) + ((q + 1) - (k)) = N by omega)
 obtain ⟨u0,u1,u2,u3,u4,u5,u6,e,m2,m3,m4,m5,m6⟩:=mea.is
 simp only [Array.mk.injEq,List.cons.injEq,and_true] at e
 obtain ⟨rfl,rfl,rfl,rfl,rfl,rfl,rfl⟩:=e
 obtain ⟨ad2,cp2,rfl,hcp2,nb2,r2⟩:=m2.is
 have x2 : Aside0 (W.cell? (ad2.add p) = some (.int .i64 ((M.la p : Nat) : Int))):=⟨r2 p (by omega)⟩
 have NB2:=Aside0.mk nb2
 clear m2 r2 nb2
 obtain ⟨ad3,cp3,rfl,hcp3,nb3,r3⟩:=m3.is
 have x3 : Aside0 (W.cell? (ad3.add q) = some (.int .i64 ((M.lb q : Nat) : Int))):=⟨r3 q (by omega)⟩
 have NB3:=Aside0.mk nb3
 clear m3 r3 nb3
 obtain ⟨ad4,cp4,rfl,hcp4,nb4,r4⟩:=m4.is
 have x4:=Aside0.mk (r4 p (by omega))
 have NB4:=Aside0.mk nb4
 clear m4 r4 nb4
 obtain ⟨ad5,cp5,rfl,hcp5,nb5,r5⟩:=m5.is
 have x5:=Aside0.mk (r5 q (by omega))
 have NB5:=Aside0.mk nb5
 clear m5 r5 nb5
 obtain ⟨ad6,cp6,rfl,hcp6,nb6,r6⟩:=m6.is
 obtain ⟨u,x6,hu⟩:=r6 p (by omega)
 obtain ⟨ad7,cp7,rfl,hcp7,nb7,r7⟩:=hu.is
 have x7:=Aside0.mk (r7 q (by omega))
 have x6:=Aside0.mk x6
 have NB6:=Aside0.mk nb6
 have NB7:=Aside0.mk nb7
 clear m6 r6 nb6 r7 nb7 hu
 have HV:=Aside0.mk (show elem3 (.int .i64 (Ted.D M (i) (p + 1) (k) (q + 1))) = some (.lit (.int .i64 (valOf M (i,p + 1,k,q + 1))),[]) from plainElem_int Try.underlying3 (vw hs (i) (p + 1) (k) (q + 1) (by omega) (by omega)))
 have HW_p:=Aside0.mk (num_sub (p:=p) (by omega))
 have HX_p:=Aside0.mk (num_id (p:=p) (by omega))
 have HW_q:=Aside0.mk (num_sub (p:=q) (by omega))
 have HX_q:=Aside0.mk (num_id (p:=q) (by omega))
 obtain ⟨x,y,z1,z2,z4,⟨hx1,hx2⟩,⟨hy1,hy2⟩,HMX,HMX2,HMY,HMY2,HS1,HS2,HS3,HS4,HMIN⟩:=ab_facts hs hi hk (by omega) (by omega) hla hlb
 have hne1 : ((i : Int) == ((p + 1 : Nat) : Int)) = false:=beq_eq_false_iff_ne.2 (by omega)
 have hne2 : ((k : Int) == ((q + 1 : Nat) : Int)) = false:=beq_eq_false_iff_ne.2 (by omega)
 have p4 : (0 ≤ (p : Int)) = True:=eq_true (by omega)
 have q4 : ((p : Int) < (A : Int)) = True:=eq_true (by omega)
 have p5 : (0 ≤ (q : Int)) = True:=eq_true (by omega)
 have q5 : ((q : Int) < (B : Int)) = True:=eq_true (by omega)
 have HM:=Aside0.mk hm
 have HO:=Aside0.mk hown
 have HX:=Aside0.mk (keyOf_k hx)
 have HIN:=Aside0.mk hin
 have HBX:=Aside0.mk hx
 have HST:=Aside0.mk (FS.start (i:=i) (j:=p + 1) (k:=k) (m:=q + 1) (N:=N) mea hm)
 have IH:=Aside0.mk IH
 clear hown hhas hat hin hx mea
 unfold kval kcells
 go_enter Try.func58,Try.ntmps58
 go_wp2_with (first | (at_lookup;refine wpList_lookup_own_ok_int _ rfl _ _ 76 rfl 75 3 .i64 keyed75 Try.underlying76 Try.underlying3 (zero3 _) b ks.length DD rfl ((HO.out.alloc _).alloc _) _ (klit (i,p + 1,k,q + 1)) rfl HX.out ?_;intro c hc hwc))
 refine start_ (n:=8) (S:=fun w' => FS M A B W b v0 v1 (.slice (some ad2) A cp2) (.slice (some ad3) B cp3) (.slice (some ad4) A cp4) (.slice (some ad5) B cp5) (.slice (some ad6) A cp6) (i) (p + 1) (k) (q + 1) ks W.heap.size N w' ∧ w'.cell? (ad2.add p) = some (.int .i64 ((M.la p : Nat) : Int)) ∧ w'.cell? (ad3.add q) = some (.int .i64 ((M.lb q : Nat) : Int)) ∧ w'.cell? (ad4.add p) = some (.int .i64 (M.del p)) ∧ w'.cell? (ad5.add q) = some (.int .i64 (M.ins q)) ∧ w'.cell? (ad6.add p) = some (.slice (some ad7) B cp7) ∧ w'.cell? (ad7.add q) = some (.int .i64 (M.rel p q))) (ds:=[]) (ba_ 8 0) (by kernel_rfl) rfl rfl ⟨HST.out.drew,((((Only.refl b W).alloc _).alloc _).drew).cell (by rw [add_block];exact NB2.out) x2.out,((((Only.refl b W).alloc _).alloc _).drew).cell (by rw [add_block];exact NB3.out) x3.out,((((Only.refl b W).alloc _).alloc _).drew).cell (by rw [add_block];exact NB4.out) x4.out,((((Only.refl b W).alloc _).alloc _).drew).cell (by rw [add_block];exact NB5.out) x5.out,((((Only.refl b W).alloc _).alloc _).drew).cell (by rw [add_block];exact NB6.out) x6.out,((((Only.refl b W).alloc _).alloc _).drew).cell (by rw [add_block];exact NB7.out) x7.out⟩ (fun hHeld => ?_)
 refine with_tabW forestR.tab5 forestR.bits5 (fun HT_ HW_ => ?_)
 refine pure_ (i:=0) (N:=some 22) (v:=?_) (a':=?_) (ba_ 8 1) rfl rfl (any_of HT_.out (by kernel_rfl)) (fun _ _ _ h => h) (Or.inl ⟨by rfl,?_⟩) ?_ ?_
 rotate_left
 ·intro w'
  go_simp
  with_reducible rfl
 rotate_left
 ·simp only [Act.put,List.setIfInBounds_toArray,List.set_cons_zero,List.set_cons_succ,i64_w,i32_w,HW_p.out,HX_p.out,HW_q.out,HX_q.out]
  rfl
 refine pure_ (i:=3) (N:=some 25) (v:=?_) (a':=?_) (ba_ 8 9) rfl rfl (any_of HT_.out (by kernel_rfl)) (fun _ _ _ h => h) (Or.inl ⟨by rfl,?_⟩) ?_ ?_
 rotate_left
 ·intro w'
  go_simp
  with_reducible rfl
 rotate_left
 ·simp only [Act.put,List.setIfInBounds_toArray,List.set_cons_zero,List.set_cons_succ,i64_w,i32_w,HW_p.out,HX_p.out,HW_q.out,HX_q.out]
  rfl
 refine take_ (i:=1) (N:=some 23) (v:=?_) (a':=?_) (ba_ 8 11) rfl rfl (take_ofW HT_.out HW_.out (by kernel_rfl)) (fun _ _ _ h => h) (Or.inl ⟨by rfl,?_⟩) hHeld ?_ ?_
 rotate_left
 ·rintro w' ⟨⟨-,-,-,-,-,-,-,-,d1,-,-,-,-,-,-⟩,-,-,-,-,-,-⟩
  go_simp
  with_reducible rfl
 rotate_left
 ·simp only [Act.put,List.setIfInBounds_toArray,List.set_cons_zero,List.set_cons_succ,i64_w,i32_w,HW_p.out,HX_p.out,HW_q.out,HX_q.out]
  rfl
 refine pure_ (i:=2) (N:=some 24) (v:=?_) (a':=?_) (ba_ 8 15) rfl rfl (any_of HT_.out (by kernel_rfl)) (fun _ _ _ h => h) (Or.inl ⟨by rfl,?_⟩) ?_ ?_
 rotate_left
 ·intro w'
  go_simp
  with_reducible rfl
 rotate_left
 ·simp only [Act.put,List.setIfInBounds_toArray,List.set_cons_zero,List.set_cons_succ,i64_w,i32_w,HW_p.out,HX_p.out,HW_q.out,HX_q.out]
  rfl
 refine pure_ (i:=6) (N:=some 10) (v:=?_) (a':=?_) (ba_ 8 79) rfl rfl (any_of HT_.out (by kernel_rfl)) (fun _ _ _ h => h) (Or.inl ⟨by rfl,?_⟩) ?_ ?_
 rotate_left
 ·intro w'
  go_simp
  with_reducible rfl
 rotate_left
 ·simp only [Act.put,List.setIfInBounds_toArray,List.set_cons_zero,List.set_cons_succ,i64_w,i32_w,HW_p.out,HX_p.out,HW_q.out,HX_q.out]
  rfl
 refine take_ (i:=4) (N:=some 26) (v:=?_) (a':=?_) (ba_ 8 95) rfl rfl (take_ofW HT_.out HW_.out (by kernel_rfl)) (fun _ _ _ h => h) (Or.inl ⟨by rfl,?_⟩) hHeld ?_ ?_
 rotate_left
 ·rintro w' ⟨⟨-,-,-,-,-,-,-,-,-,-,d3,-,-,-,-⟩,-,-,-,-,-,-⟩
  go_simp
  with_reducible rfl
 rotate_left
 ·simp only [Act.put,List.setIfInBounds_toArray,List.set_cons_zero,List.set_cons_succ,i64_w,i32_w,HW_p.out,HX_p.out,HW_q.out,HX_q.out]
  rfl
 refine pure_ (i:=5) (N:=some 27) (v:=?_) (a':=?_) (ba_ 8 127) rfl rfl (any_of HT_.out (by kernel_rfl)) (fun _ _ _ h => h) (Or.inl ⟨by rfl,?_⟩) ?_ ?_
 rotate_left
 ·intro w'
  go_simp
  with_reducible rfl
 rotate_left
 ·simp only [Act.put,List.setIfInBounds_toArray,List.set_cons_zero,List.set_cons_succ,i64_w,i32_w,HW_p.out,HX_p.out,HW_q.out,HX_q.out]
  rfl
 refine pure_ (i:=7) (N:=some 11) (v:=?_) (a':=?_) (ba_ 8 255) rfl rfl (any_of HT_.out (by kernel_rfl)) (fun _ _ _ h => h) (Or.inl ⟨by rfl,?_⟩) ?_ ?_
 rotate_left
 ·intro w'
  go_simp
  with_reducible rfl
 rotate_left
 ·simp only [Act.put,List.setIfInBounds_toArray,List.set_cons_zero,List.set_cons_succ,i64_w,i32_w,HW_p.out,HX_p.out,HW_q.out,HX_q.out]
  rfl
 refine done_ (done_of HT_.out (by kernel_rfl)) ?_
 go_wp2
 refine start_ (n:=18) (S:=fun w' => FS M A B W b v0 v1 (.slice (some ad2) A cp2) (.slice (some ad3) B cp3) (.slice (some ad4) A cp4) (.slice (some ad5) B cp5) (.slice (some ad6) A cp6) (i) (p + 1) (k) (q + 1) ks W.heap.size N w' ∧ w'.cell? (ad2.add p) = some (.int .i64 ((M.la p : Nat) : Int)) ∧ w'.cell? (ad3.add q) = some (.int .i64 ((M.lb q : Nat) : Int)) ∧ w'.cell? (ad4.add p) = some (.int .i64 (M.del p)) ∧ w'.cell? (ad5.add q) = some (.int .i64 (M.ins q)) ∧ w'.cell? (ad6.add p) = some (.slice (some ad7) B cp7) ∧ w'.cell? (ad7.add q) = some (.int .i64 (M.rel p q))) (ds:=[]) (ba_ 18 0) (by kernel_rfl) rfl rfl ⟨hHeld.1.drew,hHeld.2⟩ (fun hHeld => ?_)
 refine with_tabW forestR.tab6 forestR.bits6 (fun HT_ HW_ => ?_)
 refine pure_ (i:=0) (N:=some 28) (v:=?_) (a':=?_) (ba_ 18 1) rfl rfl (any_of HT_.out (by kernel_rfl)) (fun _ _ _ h => h) (Or.inl ⟨by rfl,?_⟩) ?_ ?_
 rotate_left
 ·intro w'
  go_simp
  with_reducible rfl
 rotate_left
 ·simp only [Act.put,List.setIfInBounds_toArray,List.set_cons_zero,List.set_cons_succ,i64_w,i32_w,HMX.out,HMY.out,HMX2.out,HMY2.out]
  rfl
 refine pure_ (i:=2) (N:=some 30) (v:=?_) (a':=?_) (ba_ 18 5) rfl rfl (any_of HT_.out (by kernel_rfl)) (fun _ _ _ h => h) (Or.inl ⟨by rfl,?_⟩) ?_ ?_
 rotate_left
 ·intro w'
  go_simp
  with_reducible rfl
 rotate_left
 ·simp only [Act.put,List.setIfInBounds_toArray,List.set_cons_zero,List.set_cons_succ,i64_w,i32_w,HMX.out,HMY.out,HMX2.out,HMY2.out]
  rfl
 refine pure_ (i:=4) (N:=some 32) (v:=?_) (a':=?_) (ba_ 18 21) rfl rfl (any_of HT_.out (by kernel_rfl)) (fun _ _ _ h => h) (Or.inl ⟨by rfl,?_⟩) ?_ ?_
 rotate_left
 ·intro w'
  go_simp
  with_reducible rfl
 rotate_left
 ·simp only [Act.put,List.setIfInBounds_toArray,List.set_cons_zero,List.set_cons_succ,i64_w,i32_w,HMX.out,HMY.out,HMX2.out,HMY2.out]
  rfl
 refine pure_ (i:=8) (N:=some 36) (v:=?_) (a':=?_) (ba_ 18 277) rfl rfl (any_of HT_.out (by kernel_rfl)) (fun _ _ _ h => h) (Or.inl ⟨by rfl,?_⟩) ?_ ?_
 rotate_left
 ·intro w'
  go_simp
  with_reducible rfl
 rotate_left
 ·simp only [Act.put,List.setIfInBounds_toArray,List.set_cons_zero,List.set_cons_succ,i64_w,i32_w,HMX.out,HMY.out,HMX2.out,HMY2.out]
  rfl
 refine pure_ (i:=10) (N:=some 38) (v:=?_) (a':=?_) (ba_ 18 1301) rfl rfl (any_of HT_.out (by kernel_rfl)) (fun _ _ _ h => h) (Or.inl ⟨by rfl,?_⟩) ?_ ?_
 rotate_left
 ·intro w'
  go_simp
  with_reducible rfl
 rotate_left
 ·simp only [Act.put,List.setIfInBounds_toArray,List.set_cons_zero,List.set_cons_succ,i64_w,i32_w,HMX.out,HMY.out,HMX2.out,HMY2.out]
  rfl
 refine pure_ (i:=12) (N:=some 40) (v:=?_) (a':=?_) (ba_ 18 5397) rfl rfl (any_of HT_.out (by kernel_rfl)) (fun _ _ _ h => h) (Or.inl ⟨by rfl,?_⟩) ?_ ?_
 rotate_left
 ·intro w'
  go_simp
  with_reducible rfl
 rotate_left
 ·simp only [Act.put,List.setIfInBounds_toArray,List.set_cons_zero,List.set_cons_succ,i64_w,i32_w,HMX.out,HMY.out,HMX2.out,HMY2.out]
  rfl
 refine take_ (i:=1) (N:=some 29) (v:=?_) (a':=?_) (ba_ 18 5399) rfl rfl (take_ofW HT_.out HW_.out (by kernel_rfl)) (fun _ _ _ h => h) (Or.inl ⟨by rfl,?_⟩) hHeld ?_ ?_
 rotate_left
 ·rintro w' ⟨⟨-,-,-,-,-,-,-,d0,-,-,-,-,-,-,-⟩,-,-,-,-,-,-⟩
  go_simp
  with_reducible rfl
 rotate_left
 ·simp only [Act.put,List.setIfInBounds_toArray,List.set_cons_zero,List.set_cons_succ,i64_w,i32_w,HMX.out,HMY.out,HMX2.out,HMY2.out]
  rfl
 refine take_ (i:=3) (N:=some 31) (v:=?_) (a':=?_) (ba_ 18 5407) rfl rfl (take_ofW HT_.out HW_.out (by kernel_rfl)) (fun _ _ _ h => h) (Or.inl ⟨by rfl,?_⟩) hHeld ?_ ?_
 rotate_left
 ·rintro w' ⟨⟨-,-,c2,-,-,-,-,-,-,-,-,-,-,-,-⟩,-,-,-,-,-,-⟩
  go_simp
  with_reducible rfl
 rotate_left
 ·simp only [Act.put,List.setIfInBounds_toArray,List.set_cons_zero,List.set_cons_succ,i64_w,i32_w,HMX.out,HMY.out,HMX2.out,HMY2.out]
  rfl
 refine pure_ (i:=5) (N:=some 33) (v:=?_) (a':=?_) (ba_ 18 5439) rfl rfl (any_of HT_.out (by kernel_rfl)) (fun _ _ _ h => h) (Or.inl ⟨by rfl,?_⟩) ?_ ?_
 rotate_left
 ·intro w'
  go_simp
  with_reducible rfl
 rotate_left
 ·simp only [Act.put,List.setIfInBounds_toArray,List.set_cons_zero,List.set_cons_succ,i64_w,i32_w,HMX.out,HMY.out,HMX2.out,HMY2.out]
  rfl
 refine take_ (i:=6) (N:=some 34) (v:=?_) (a':=?_) (ba_ 18 5503) rfl rfl (take_ofW HT_.out HW_.out (by kernel_rfl)) (fun _ _ _ h => h) (Or.inl ⟨by rfl,?_⟩) hHeld ?_ ?_
 rotate_left
 ·rintro w' ⟨⟨-,-,-,-,-,-,-,-,-,-,-,-,-,-,-⟩,s0,s1,s2,s3,s4,s5⟩
  go_simp
  with_reducible rfl
 rotate_left
 ·simp only [Act.put,List.setIfInBounds_toArray,List.set_cons_zero,List.set_cons_succ,i64_w,i32_w,HMX.out,HMY.out,HMX2.out,HMY2.out]
  rfl
 refine pure_ (i:=7) (N:=some 35) (v:=?_) (a':=?_) (ba_ 18 5631) rfl rfl (any_of HT_.out (by kernel_rfl)) (fun _ _ _ h => h) (Or.inl ⟨by rfl,?_⟩) ?_ ?_
 rotate_left
 ·intro w'
  go_simp
  with_reducible rfl
 rotate_left
 ·simp only [Act.put,List.setIfInBounds_toArray,List.set_cons_zero,List.set_cons_succ,i64_w,i32_w,HMX.out,HMY.out,HMX2.out,HMY2.out]
  rfl
 refine pure_ (i:=16) (N:=some 12) (v:=?_) (a':=?_) (ba_ 18 71167) rfl rfl (any_of HT_.out (by kernel_rfl)) (fun _ _ _ h => h) (Or.inl ⟨by rfl,?_⟩) ?_ ?_
 rotate_left
 ·intro w'
  go_simp
  with_reducible rfl
 rotate_left
 ·simp only [Act.put,List.setIfInBounds_toArray,List.set_cons_zero,List.set_cons_succ,i64_w,i32_w,HMX.out,HMY.out,HMX2.out,HMY2.out]
  rfl
 refine take_ (i:=9) (N:=some 37) (v:=?_) (a':=?_) (ba_ 18 71679) rfl rfl (take_ofW HT_.out HW_.out (by kernel_rfl)) (fun _ _ _ h => h) (Or.inl ⟨by rfl,?_⟩) hHeld ?_ ?_
 rotate_left
 ·rintro w' ⟨⟨-,-,-,-,-,-,-,-,-,d2,-,-,-,-,-⟩,-,-,-,-,-,-⟩
  go_simp
  with_reducible rfl
 rotate_left
 ·simp only [Act.put,List.setIfInBounds_toArray,List.set_cons_zero,List.set_cons_succ,i64_w,i32_w,HMX.out,HMY.out,HMX2.out,HMY2.out]
  rfl
 refine take_ (i:=11) (N:=some 39) (v:=?_) (a':=?_) (ba_ 18 73727) rfl rfl (take_ofW HT_.out HW_.out (by kernel_rfl)) (fun _ _ _ h => h) (Or.inl ⟨by rfl,?_⟩) hHeld ?_ ?_
 rotate_left
 ·rintro w' ⟨⟨-,-,-,c3,-,-,-,-,-,-,-,-,-,-,-⟩,-,-,-,-,-,-⟩
  go_simp
  with_reducible rfl
 rotate_left
 ·simp only [Act.put,List.setIfInBounds_toArray,List.set_cons_zero,List.set_cons_succ,i64_w,i32_w,HMX.out,HMY.out,HMX2.out,HMY2.out]
  rfl
 refine pure_ (i:=13) (N:=some 41) (v:=?_) (a':=?_) (ba_ 18 81919) rfl rfl (any_of HT_.out (by kernel_rfl)) (fun _ _ _ h => h) (Or.inl ⟨by rfl,?_⟩) ?_ ?_
 rotate_left
 ·intro w'
  go_simp
  with_reducible rfl
 rotate_left
 ·simp only [Act.put,List.setIfInBounds_toArray,List.set_cons_zero,List.set_cons_succ,i64_w,i32_w,HMX.out,HMY.out,HMX2.out,HMY2.out]
  rfl
 refine take_ (i:=14) (N:=some 42) (v:=?_) (a':=?_) (ba_ 18 98303) rfl rfl (take_ofW HT_.out HW_.out (by kernel_rfl)) (fun _ _ _ h => h) (Or.inl ⟨by rfl,?_⟩) hHeld ?_ ?_
 rotate_left
 ·rintro w' ⟨⟨-,-,-,-,-,-,-,-,-,-,-,-,-,-,-⟩,s0,s1,s2,s3,s4,s5⟩
  go_simp
  with_reducible rfl
 rotate_left
 ·simp only [Act.put,List.setIfInBounds_toArray,List.set_cons_zero,List.set_cons_succ,i64_w,i32_w,HMX.out,HMY.out,HMX2.out,HMY2.out]
  rfl
 refine pure_ (i:=15) (N:=some 43) (v:=?_) (a':=?_) (ba_ 18 131071) rfl rfl (any_of HT_.out (by kernel_rfl)) (fun _ _ _ h => h) (Or.inl ⟨by rfl,?_⟩) ?_ ?_
 rotate_left
 ·intro w'
  go_simp
  with_reducible rfl
 rotate_left
 ·simp only [Act.put,List.setIfInBounds_toArray,List.set_cons_zero,List.set_cons_succ,i64_w,i32_w,HMX.out,HMY.out,HMX2.out,HMY2.out]
  rfl
 refine pure_ (i:=17) (N:=some 13) (v:=?_) (a':=?_) (ba_ 18 262143) rfl rfl (any_of HT_.out (by kernel_rfl)) (fun _ _ _ h => h) (Or.inl ⟨by rfl,?_⟩) ?_ ?_
 rotate_left
 ·intro w'
  go_simp
  with_reducible rfl
 rotate_left
 ·simp only [Act.put,List.setIfInBounds_toArray,List.set_cons_zero,List.set_cons_succ,i64_w,i32_w,HMX.out,HMY.out,HMX2.out,HMY2.out]
  rfl
 refine done_ (done_of HT_.out (by kernel_rfl)) ?_
 go_wp2
 refine start_ (n:=64) (S:=fun w' => FS M A B W b v0 v1 (.slice (some ad2) A cp2) (.slice (some ad3) B cp3) (.slice (some ad4) A cp4) (.slice (some ad5) B cp5) (.slice (some ad6) A cp6) (i) (p + 1) (k) (q + 1) ks W.heap.size N w' ∧ w'.cell? (ad2.add p) = some (.int .i64 ((M.la p : Nat) : Int)) ∧ w'.cell? (ad3.add q) = some (.int .i64 ((M.lb q : Nat) : Int)) ∧ w'.cell? (ad4.add p) = some (.int .i64 (M.del p)) ∧ w'.cell? (ad5.add q) = some (.int .i64 (M.ins q)) ∧ w'.cell? (ad6.add p) = some (.slice (some ad7) B cp7) ∧ w'.cell? (ad7.add q) = some (.int .i64 (M.rel p q))) (ds:=[]) (ba_ 64 0) (by kernel_rfl) rfl rfl ⟨hHeld.1.drew,hHeld.2⟩ (fun hHeld => ?_)
 refine with_tabW forestR.tab7 forestR.bits7 (fun HT_ HW_ => ?_)
 refine pure_ (i:=1) (N:=some 45) (v:=?_) (a':=?_) (ba_ 64 2) rfl rfl (any_of HT_.out (by kernel_rfl)) (fun _ _ _ h => h) (Or.inl ⟨by rfl,?_⟩) ?_ ?_
 rotate_left
 ·intro w'
  go_simp
  with_reducible rfl
 rotate_left
 ·simp only [Act.put,List.setIfInBounds_toArray,List.set_cons_zero,List.set_cons_succ,i64_w,i32_w,HS1.out,HS2.out,HS3.out,HS4.out,HMIN.out]
  rfl
 refine pure_ (i:=3) (N:=some 47) (v:=?_) (a':=?_) (ba_ 64 10) rfl rfl (any_of HT_.out (by kernel_rfl)) (fun _ _ _ h => h) (Or.inl ⟨by rfl,?_⟩) ?_ ?_
 rotate_left
 ·intro w'
  go_simp
  with_reducible rfl
 rotate_left
 ·simp only [Act.put,List.setIfInBounds_toArray,List.set_cons_zero,List.set_cons_succ,i64_w,i32_w,HS1.out,HS2.out,HS3.out,HS4.out,HMIN.out]
  rfl
 refine pure_ (i:=4) (N:=some 48) (v:=?_) (a':=?_) (ba_ 64 26) rfl rfl (any_of HT_.out (by kernel_rfl)) (fun _ _ _ h => h) (Or.inl ⟨by rfl,?_⟩) ?_ ?_
 rotate_left
 ·intro w'
  go_simp
  with_reducible rfl
 rotate_left
 ·simp only [Act.put,List.setIfInBounds_toArray,List.set_cons_zero,List.set_cons_succ,i64_w,i32_w,HS1.out,HS2.out,HS3.out,HS4.out,HMIN.out]
  rfl
 refine pure_ (i:=6) (N:=some 50) (v:=?_) (a':=?_) (ba_ 64 90) rfl rfl (any_of HT_.out (by kernel_rfl)) (fun _ _ _ h => h) (Or.inl ⟨by rfl,?_⟩) ?_ ?_
 rotate_left
 ·intro w'
  go_simp
  with_reducible rfl
 rotate_left
 ·simp only [Act.put,List.setIfInBounds_toArray,List.set_cons_zero,List.set_cons_succ,i64_w,i32_w,HS1.out,HS2.out,HS3.out,HS4.out,HMIN.out]
  rfl
 refine pure_ (i:=9) (N:=some 53) (v:=?_) (a':=?_) (ba_ 64 602) rfl rfl (any_of HT_.out (by kernel_rfl)) (fun _ _ _ h => h) (Or.inl ⟨by rfl,?_⟩) ?_ ?_
 rotate_left
 ·intro w'
  go_simp
  with_reducible rfl
 rotate_left
 ·simp only [Act.put,List.setIfInBounds_toArray,List.set_cons_zero,List.set_cons_succ,i64_w,i32_w,HS1.out,HS2.out,HS3.out,HS4.out,HMIN.out]
  rfl
 refine pure_ (i:=11) (N:=some 55) (v:=?_) (a':=?_) (ba_ 64 2650) rfl rfl (any_of HT_.out (by kernel_rfl)) (fun _ _ _ h => h) (Or.inl ⟨by rfl,?_⟩) ?_ ?_
 rotate_left
 ·intro w'
  go_simp
  with_reducible rfl
 rotate_left
 ·simp only [Act.put,List.setIfInBounds_toArray,List.set_cons_zero,List.set_cons_succ,i64_w,i32_w,HS1.out,HS2.out,HS3.out,HS4.out,HMIN.out]
  rfl
 refine pure_ (i:=13) (N:=some 57) (v:=?_) (a':=?_) (ba_ 64 10842) rfl rfl (any_of HT_.out (by kernel_rfl)) (fun _ _ _ h => h) (Or.inl ⟨by rfl,?_⟩) ?_ ?_
 rotate_left
 ·intro w'
  go_simp
  with_reducible rfl
 rotate_left
 ·simp only [Act.put,List.setIfInBounds_toArray,List.set_cons_zero,List.set_cons_succ,i64_w,i32_w,HS1.out,HS2.out,HS3.out,HS4.out,HMIN.out]
  rfl
 refine pure_ (i:=18) (N:=some 62) (v:=?_) (a':=?_) (ba_ 64 272986) rfl rfl (any_of HT_.out (by kernel_rfl)) (fun _ _ _ h => h) (Or.inl ⟨by rfl,?_⟩) ?_ ?_
 rotate_left
 ·intro w'
  go_simp
  with_reducible rfl
 rotate_left
 ·simp only [Act.put,List.setIfInBounds_toArray,List.set_cons_zero,List.set_cons_succ,i64_w,i32_w,HS1.out,HS2.out,HS3.out,HS4.out,HMIN.out]
  rfl
 refine pure_ (i:=20) (N:=some 64) (v:=?_) (a':=?_) (ba_ 64 1321562) rfl rfl (any_of HT_.out (by kernel_rfl)) (fun _ _ _ h => h) (Or.inl ⟨by rfl,?_⟩) ?_ ?_
 rotate_left
 ·intro w'
  go_simp
  with_reducible rfl
 rotate_left
 ·simp only [Act.put,List.setIfInBounds_toArray,List.set_cons_zero,List.set_cons_succ,i64_w,i32_w,HS1.out,HS2.out,HS3.out,HS4.out,HMIN.out]
  rfl
 refine pure_ (i:=22) (N:=some 66) (v:=?_) (a':=?_) (ba_ 64 5515866) rfl rfl (any_of HT_.out (by kernel_rfl)) (fun _ _ _ h => h) (Or.inl ⟨by rfl,?_⟩) ?_ ?_
 rotate_left
 ·intro w'
  go_simp
  with_reducible rfl
 rotate_left
 ·simp only [Act.put,List.setIfInBounds_toArray,List.set_cons_zero,List.set_cons_succ,i64_w,i32_w,HS1.out,HS2.out,HS3.out,HS4.out,HMIN.out]
  rfl
 refine pure_ (i:=24) (N:=some 68) (v:=?_) (a':=?_) (ba_ 64 22293082) rfl rfl (any_of HT_.out (by kernel_rfl)) (fun _ _ _ h => h) (Or.inl ⟨by rfl,?_⟩) ?_ ?_
 rotate_left
 ·intro w'
  go_simp
  with_reducible rfl
 rotate_left
 ·simp only [Act.put,List.setIfInBounds_toArray,List.set_cons_zero,List.set_cons_succ,i64_w,i32_w,HS1.out,HS2.out,HS3.out,HS4.out,HMIN.out]
  rfl
 refine pure_ (i:=26) (N:=some 70) (v:=?_) (a':=?_) (ba_ 64 89401946) rfl rfl (any_of HT_.out (by kernel_rfl)) (fun _ _ _ h => h) (Or.inl ⟨by rfl,?_⟩) ?_ ?_
 rotate_left
 ·intro w'
  go_simp
  with_reducible rfl
 rotate_left
 ·simp only [Act.put,List.setIfInBounds_toArray,List.set_cons_zero,List.set_cons_succ,i64_w,i32_w,HS1.out,HS2.out,HS3.out,HS4.out,HMIN.out]
  rfl
 refine pure_ (i:=28) (N:=some 72) (v:=?_) (a':=?_) (ba_ 64 357837402) rfl rfl (any_of HT_.out (by kernel_rfl)) (fun _ _ _ h => h) (Or.inl ⟨by rfl,?_⟩) ?_ ?_
 rotate_left
 ·intro w'
  go_simp
  with_reducible rfl
 rotate_left
 ·simp only [Act.put,List.setIfInBounds_toArray,List.set_cons_zero,List.set_cons_succ,i64_w,i32_w,HS1.out,HS2.out,HS3.out,HS4.out,HMIN.out]
  rfl
 refine pure_ (i:=30) (N:=some 74) (v:=?_) (a':=?_) (ba_ 64 1431579226) rfl rfl (any_of HT_.out (by kernel_rfl)) (fun _ _ _ h => h) (Or.inl ⟨by rfl,?_⟩) ?_ ?_
 rotate_left
 ·intro w'
  go_simp
  with_reducible rfl
 rotate_left
 ·simp only [Act.put,List.setIfInBounds_toArray,List.set_cons_zero,List.set_cons_succ,i64_w,i32_w,HS1.out,HS2.out,HS3.out,HS4.out,HMIN.out]
  rfl
 refine pure_ (i:=35) (N:=some 79) (v:=?_) (a':=?_) (ba_ 64 35791317594) rfl rfl (any_of HT_.out (by kernel_rfl)) (fun _ _ _ h => h) (Or.inl ⟨by rfl,?_⟩) ?_ ?_
 rotate_left
 ·intro w'
  go_simp
  with_reducible rfl
 rotate_left
 ·simp only [Act.put,List.setIfInBounds_toArray,List.set_cons_zero,List.set_cons_succ,i64_w,i32_w,HS1.out,HS2.out,HS3.out,HS4.out,HMIN.out]
  rfl
 refine pure_ (i:=36) (N:=some 80) (v:=?_) (a':=?_) (ba_ 64 104510794330) rfl rfl (any_of HT_.out (by kernel_rfl)) (fun _ _ _ h => h) (Or.inl ⟨by rfl,?_⟩) ?_ ?_
 rotate_left
 ·intro w'
  go_simp
  with_reducible rfl
 rotate_left
 ·simp only [Act.put,List.setIfInBounds_toArray,List.set_cons_zero,List.set_cons_succ,i64_w,i32_w,HS1.out,HS2.out,HS3.out,HS4.out,HMIN.out]
  rfl
 refine pure_ (i:=37) (N:=some 81) (v:=?_) (a':=?_) (ba_ 64 241949747802) rfl rfl (any_of HT_.out (by kernel_rfl)) (fun _ _ _ h => h) (Or.inl ⟨by rfl,?_⟩) ?_ ?_
 rotate_left
 ·intro w'
  go_simp
  with_reducible rfl
 rotate_left
 ·simp only [Act.put,List.setIfInBounds_toArray,List.set_cons_zero,List.set_cons_succ,i64_w,i32_w,HS1.out,HS2.out,HS3.out,HS4.out,HMIN.out]
  rfl
 refine pure_ (i:=38) (N:=some 82) (v:=?_) (a':=?_) (ba_ 64 516827654746) rfl rfl (any_of HT_.out (by kernel_rfl)) (fun _ _ _ h => h) (Or.inl ⟨by rfl,?_⟩) ?_ ?_
 rotate_left
 ·intro w'
  go_simp
  with_reducible rfl
 rotate_left
 ·simp only [Act.put,List.setIfInBounds_toArray,List.set_cons_zero,List.set_cons_succ,i64_w,i32_w,HS1.out,HS2.out,HS3.out,HS4.out,HMIN.out]
  rfl
 refine pure_ (i:=39) (N:=some 83) (v:=?_) (a':=?_) (ba_ 64 1066583468634) rfl rfl (any_of HT_.out (by kernel_rfl)) (fun _ _ _ h => h) (Or.inl ⟨by rfl,?_⟩) ?_ ?_
 rotate_left
 ·intro w'
  go_simp
  with_reducible rfl
 rotate_left
 ·simp only [Act.put,List.setIfInBounds_toArray,List.set_cons_zero,List.set_cons_succ,i64_w,i32_w,HS1.out,HS2.out,HS3.out,HS4.out,HMIN.out]
  rfl
 refine pure_ (i:=40) (N:=some 84) (v:=?_) (a':=?_) (ba_ 64 2166095096410) rfl rfl (any_of HT_.out (by kernel_rfl)) (fun _ _ _ h => h) (Or.inl ⟨by rfl,?_⟩) ?_ ?_
 rotate_left
 ·intro w'
  go_simp
  with_reducible rfl
 rotate_left
 ·simp only [Act.put,List.setIfInBounds_toArray,List.set_cons_zero,List.set_cons_succ,i64_w,i32_w,HS1.out,HS2.out,HS3.out,HS4.out,HMIN.out]
  rfl
 refine pure_ (i:=43) (N:=some 87) (v:=?_) (a':=?_) (ba_ 64 10962188118618) rfl rfl (any_of HT_.out (by kernel_rfl)) (fun _ _ _ h => h) (Or.inl ⟨by rfl,?_⟩) ?_ ?_
 rotate_left
 ·intro w'
  go_simp
  with_reducible rfl
 rotate_left
 ·simp only [Act.put,List.setIfInBounds_toArray,List.set_cons_zero,List.set_cons_succ,i64_w,i32_w,HS1.out,HS2.out,HS3.out,HS4.out,HMIN.out]
  rfl
 refine pure_ (i:=45) (N:=some 89) (v:=?_) (a':=?_) (ba_ 64 46146560207450) rfl rfl (any_of HT_.out (by kernel_rfl)) (fun _ _ _ h => h) (Or.inl ⟨by rfl,?_⟩) ?_ ?_
 rotate_left
 ·intro w'
  go_simp
  with_reducible rfl
 rotate_left
 ·simp only [Act.put,List.setIfInBounds_toArray,List.set_cons_zero,List.set_cons_succ,i64_w,i32_w,HS1.out,HS2.out,HS3.out,HS4.out,HMIN.out]
  rfl
 refine pure_ (i:=46) (N:=some 90) (v:=?_) (a':=?_) (ba_ 64 116515304385114) rfl rfl (any_of HT_.out (by kernel_rfl)) (fun _ _ _ h => h) (Or.inl ⟨by rfl,?_⟩) ?_ ?_
 rotate_left
 ·intro w'
  go_simp
  with_reducible rfl
 rotate_left
 ·simp only [Act.put,List.setIfInBounds_toArray,List.set_cons_zero,List.set_cons_succ,i64_w,i32_w,HS1.out,HS2.out,HS3.out,HS4.out,HMIN.out]
  rfl
 refine pure_ (i:=48) (N:=some 92) (v:=?_) (a':=?_) (ba_ 64 397990281095770) rfl rfl (any_of HT_.out (by kernel_rfl)) (fun _ _ _ h => h) (Or.inl ⟨by rfl,?_⟩) ?_ ?_
 rotate_left
 ·intro w'
  go_simp
  with_reducible rfl
 rotate_left
 ·simp only [Act.put,List.setIfInBounds_toArray,List.set_cons_zero,List.set_cons_succ,i64_w,i32_w,HS1.out,HS2.out,HS3.out,HS4.out,HMIN.out]
  rfl
 refine pure_ (i:=50) (N:=some 94) (v:=?_) (a':=?_) (ba_ 64 1523890187938394) rfl rfl (any_of HT_.out (by kernel_rfl)) (fun _ _ _ h => h) (Or.inl ⟨by rfl,?_⟩) ?_ ?_
 rotate_left
 ·intro w'
  go_simp
  with_reducible rfl
 rotate_left
 ·simp only [Act.put,List.setIfInBounds_toArray,List.set_cons_zero,List.set_cons_succ,i64_w,i32_w,HS1.out,HS2.out,HS3.out,HS4.out,HMIN.out]
  rfl
 refine pure_ (i:=53) (N:=some 97) (v:=?_) (a':=?_) (ba_ 64 10531089442679386) rfl rfl (any_of HT_.out (by kernel_rfl)) (fun _ _ _ h => h) (Or.inl ⟨by rfl,?_⟩) ?_ ?_
 rotate_left
 ·intro w'
  go_simp
  with_reducible rfl
 rotate_left
 ·simp only [Act.put,List.setIfInBounds_toArray,List.set_cons_zero,List.set_cons_succ,i64_w,i32_w,HS1.out,HS2.out,HS3.out,HS4.out,HMIN.out]
  rfl
 refine pure_ (i:=55) (N:=some 99) (v:=?_) (a':=?_) (ba_ 64 46559886461643354) rfl rfl (any_of HT_.out (by kernel_rfl)) (fun _ _ _ h => h) (Or.inl ⟨by rfl,?_⟩) ?_ ?_
 rotate_left
 ·intro w'
  go_simp
  with_reducible rfl
 rotate_left
 ·simp only [Act.put,List.setIfInBounds_toArray,List.set_cons_zero,List.set_cons_succ,i64_w,i32_w,HS1.out,HS2.out,HS3.out,HS4.out,HMIN.out]
  rfl
 refine pure_ (i:=58) (N:=some 102) (v:=?_) (a':=?_) (ba_ 64 334790262613355098) rfl rfl (any_of HT_.out (by kernel_rfl)) (fun _ _ _ h => h) (Or.inl ⟨by rfl,?_⟩) ?_ ?_
 rotate_left
 ·intro w'
  go_simp
  with_reducible rfl
 rotate_left
 ·simp only [Act.put,List.setIfInBounds_toArray,List.set_cons_zero,List.set_cons_succ,i64_w,i32_w,HS1.out,HS2.out,HS3.out,HS4.out,HMIN.out]
  rfl
 refine take_ (i:=0) (N:=some 44) (v:=?_) (a':=?_) (ba_ 64 334790262613355099) rfl rfl (take_ofW HT_.out HW_.out (by kernel_rfl)) (fun _ _ _ h => h) (Or.inl ⟨by rfl,?_⟩) hHeld ?_ ?_
 rotate_left
 ·rintro w' ⟨⟨c0,c1,c2,c3,c4,c5,c6,-,-,-,-,-,-,-,-⟩,-,-,-,-,-,-⟩
  go_simp
  with_reducible rfl
 rotate_left
 ·simp only [Act.put,List.setIfInBounds_toArray,List.set_cons_zero,List.set_cons_succ,i64_w,i32_w,HS1.out,HS2.out,HS3.out,HS4.out,HMIN.out]
  rfl
 refine take_ (i:=2) (N:=some 46) (v:=?_) (a':=?_) (ba_ 64 334790262613355103) rfl rfl (take_ofW HT_.out HW_.out (by kernel_rfl)) (fun _ _ _ h => h) (Or.inl ⟨by rfl,?_⟩) hHeld ?_ ?_
 rotate_left
 ·rintro w' ⟨⟨-,-,-,-,-,-,-,d0,-,-,-,-,-,-,-⟩,-,-,-,-,-,-⟩
  go_simp
  with_reducible rfl
 rotate_left
 ·simp only [Act.put,List.setIfInBounds_toArray,List.set_cons_zero,List.set_cons_succ,i64_w,i32_w,HS1.out,HS2.out,HS3.out,HS4.out,HMIN.out]
  rfl
 refine take_ (i:=5) (N:=some 49) (v:=?_) (a':=?_) (ba_ 64 334790262613355135) rfl rfl (take_ofW HT_.out HW_.out (by kernel_rfl)) (fun _ _ _ h => h) (Or.inl ⟨by rfl,?_⟩) hHeld ?_ ?_
 rotate_left
 ·rintro w' ⟨⟨-,-,-,-,-,-,-,-,-,d2,-,-,-,-,-⟩,-,-,-,-,-,-⟩
  go_simp
  with_reducible rfl
 rotate_left
 ·simp only [Act.put,List.setIfInBounds_toArray,List.set_cons_zero,List.set_cons_succ,i64_w,i32_w,HS1.out,HS2.out,HS3.out,HS4.out,HMIN.out]
  rfl
 refine take_ (i:=7) (N:=some 51) (v:=?_) (a':=?_) (ba_ 64 334790262613355263) rfl rfl (take_ofW HT_.out HW_.out (by kernel_rfl)) (fun _ _ _ h => h) (Or.inl ⟨by rfl,?_⟩) hHeld ?_ ?_
 rotate_left
 ·rintro w' ⟨⟨-,-,-,-,-,-,-,-,-,-,d3,-,-,-,-⟩,-,-,-,-,-,-⟩
  go_simp
  with_reducible rfl
 rotate_left
 ·simp only [Act.put,List.setIfInBounds_toArray,List.set_cons_zero,List.set_cons_succ,i64_w,i32_w,HS1.out,HS2.out,HS3.out,HS4.out,HMIN.out]
  rfl
 refine pure_ (i:=8) (N:=some 52) (v:=?_) (a':=?_) (ba_ 64 334790262613355519) rfl rfl (any_of HT_.out (by kernel_rfl)) (fun _ _ _ h => h) (Or.inl ⟨by rfl,?_⟩) ?_ ?_
 rotate_left
 ·intro w'
  go_simp
  with_reducible rfl
 rotate_left
 ·simp only [Act.put,List.setIfInBounds_toArray,List.set_cons_zero,List.set_cons_succ,i64_w,i32_w,HS1.out,HS2.out,HS3.out,HS4.out,HMIN.out]
  rfl
 refine take_ (i:=12) (N:=some 56) (v:=?_) (a':=?_) (ba_ 64 334790262613359615) rfl rfl (take_ofW HT_.out HW_.out (by kernel_rfl)) (fun _ _ _ h => h) (Or.inl ⟨by rfl,?_⟩) hHeld ?_ ?_
 rotate_left
 ·rintro w' ⟨⟨-,-,-,-,c4,-,-,-,-,-,-,-,-,-,-⟩,-,-,-,-,-,-⟩
  go_simp
  with_reducible rfl
 rotate_left
 ·simp only [Act.put,List.setIfInBounds_toArray,List.set_cons_zero,List.set_cons_succ,i64_w,i32_w,HS1.out,HS2.out,HS3.out,HS4.out,HMIN.out]
  rfl
 refine pure_ (i:=14) (N:=some 58) (v:=?_) (a':=?_) (ba_ 64 334790262613375999) rfl rfl (any_of HT_.out (by kernel_rfl)) (fun _ _ _ h => h) (Or.inl ⟨by rfl,?_⟩) ?_ ?_
 rotate_left
 ·intro w'
  go_simp
  with_reducible rfl
 rotate_left
 ·simp only [Act.put,List.setIfInBounds_toArray,List.set_cons_zero,List.set_cons_succ,i64_w,i32_w,HS1.out,HS2.out,HS3.out,HS4.out,HMIN.out]
  rfl
 refine take_ (i:=15) (N:=some 59) (v:=?_) (a':=?_) (ba_ 64 334790262613408767) rfl rfl (take_ofW HT_.out HW_.out (by kernel_rfl)) (fun _ _ _ h => h) (Or.inl ⟨by rfl,?_⟩) hHeld ?_ ?_
 rotate_left
 ·rintro w' ⟨⟨-,-,-,-,-,-,-,-,-,-,-,-,-,-,-⟩,s0,s1,s2,s3,s4,s5⟩
  go_simp
  with_reducible rfl
 rotate_left
 ·simp only [Act.put,List.setIfInBounds_toArray,List.set_cons_zero,List.set_cons_succ,i64_w,i32_w,HS1.out,HS2.out,HS3.out,HS4.out,HMIN.out]
  rfl
 refine take_ (i:=17) (N:=some 61) (v:=?_) (a':=?_) (ba_ 64 334790262613539839) rfl rfl (take_ofW HT_.out HW_.out (by kernel_rfl)) (fun _ _ _ h => h) (Or.inl ⟨by rfl,?_⟩) hHeld ?_ ?_
 rotate_left
 ·rintro w' ⟨⟨c0,c1,c2,c3,c4,c5,c6,-,-,-,-,-,-,-,-⟩,-,-,-,-,-,-⟩
  go_simp
  with_reducible rfl
 rotate_left
 ·simp only [Act.put,List.setIfInBounds_toArray,List.set_cons_zero,List.set_cons_succ,i64_w,i32_w,HS1.out,HS2.out,HS3.out,HS4.out,HMIN.out]
  rfl
 refine take_ (i:=19) (N:=some 63) (v:=?_) (a':=?_) (ba_ 64 334790262614064127) rfl rfl (take_ofW HT_.out HW_.out (by kernel_rfl)) (fun _ _ _ h => h) (Or.inl ⟨by rfl,?_⟩) hHeld ?_ ?_
 rotate_left
 ·rintro w' ⟨⟨-,-,-,-,-,-,-,d0,-,-,-,-,-,-,-⟩,-,-,-,-,-,-⟩
  go_simp
  with_reducible rfl
 rotate_left
 ·simp only [Act.put,List.setIfInBounds_toArray,List.set_cons_zero,List.set_cons_succ,i64_w,i32_w,HS1.out,HS2.out,HS3.out,HS4.out,HMIN.out]
  rfl
 refine take_ (i:=21) (N:=some 65) (v:=?_) (a':=?_) (ba_ 64 334790262616161279) rfl rfl (take_ofW HT_.out HW_.out (by kernel_rfl)) (fun _ _ _ h => h) (Or.inl ⟨by rfl,?_⟩) hHeld ?_ ?_
 rotate_left
 ·rintro w' ⟨⟨-,-,-,-,-,-,-,-,d1,-,-,-,-,-,-⟩,-,-,-,-,-,-⟩
  go_simp
  with_reducible rfl
 rotate_left
 ·simp only [Act.put,List.setIfInBounds_toArray,List.set_cons_zero,List.set_cons_succ,i64_w,i32_w,HS1.out,HS2.out,HS3.out,HS4.out,HMIN.out]
  rfl
 refine take_ (i:=23) (N:=some 67) (v:=?_) (a':=?_) (ba_ 64 334790262624549887) rfl rfl (take_ofW HT_.out HW_.out (by kernel_rfl)) (fun _ _ _ h => h) (Or.inl ⟨by rfl,?_⟩) hHeld ?_ ?_
 rotate_left
 ·rintro w' ⟨⟨-,-,-,-,-,-,-,-,-,d2,-,-,-,-,-⟩,-,-,-,-,-,-⟩
  go_simp
  with_reducible rfl
 rotate_left
 ·simp only [Act.put,List.setIfInBounds_toArray,List.set_cons_zero,List.set_cons_succ,i64_w,i32_w,HS1.out,HS2.out,HS3.out,HS4.out,HMIN.out]
  rfl
 refine pure_ (i:=25) (N:=some 69) (v:=?_) (a':=?_) (ba_ 64 334790262658104319) rfl rfl (any_of HT_.out (by kernel_rfl)) (fun _ _ _ h => h) (Or.inl ⟨by rfl,?_⟩) ?_ ?_
 rotate_left
 ·intro w'
  go_simp
  with_reducible rfl
 rotate_left
 ·simp only [Act.put,List.setIfInBounds_toArray,List.set_cons_zero,List.set_cons_succ,i64_w,i32_w,HS1.out,HS2.out,HS3.out,HS4.out,HMIN.out]
  rfl
 refine take_ (i:=29) (N:=some 73) (v:=?_) (a':=?_) (ba_ 64 334790263194975231) rfl rfl (take_ofW HT_.out HW_.out (by kernel_rfl)) (fun _ _ _ h => h) (Or.inl ⟨by rfl,?_⟩) hHeld ?_ ?_
 rotate_left
 ·rintro w' ⟨⟨-,-,-,-,-,c5,-,-,-,-,-,-,-,-,-⟩,-,-,-,-,-,-⟩
  go_simp
  with_reducible rfl
 rotate_left
 ·simp only [Act.put,List.setIfInBounds_toArray,List.set_cons_zero,List.set_cons_succ,i64_w,i32_w,HS1.out,HS2.out,HS3.out,HS4.out,HMIN.out]
  rfl
 refine pure_ (i:=31) (N:=some 75) (v:=?_) (a':=?_) (ba_ 64 334790265342458879) rfl rfl (any_of HT_.out (by kernel_rfl)) (fun _ _ _ h => h) (Or.inl ⟨by rfl,?_⟩) ?_ ?_
 rotate_left
 ·intro w'
  go_simp
  with_reducible rfl
 rotate_left
 ·simp only [Act.put,List.setIfInBounds_toArray,List.set_cons_zero,List.set_cons_succ,i64_w,i32_w,HS1.out,HS2.out,HS3.out,HS4.out,HMIN.out]
  rfl
 refine take_ (i:=32) (N:=some 76) (v:=?_) (a':=?_) (ba_ 64 334790269637426175) rfl rfl (take_ofW HT_.out HW_.out (by kernel_rfl)) (fun _ _ _ h => h) (Or.inl ⟨by rfl,?_⟩) hHeld ?_ ?_
 rotate_left
 ·rintro w' ⟨⟨-,-,-,-,-,-,-,-,-,-,-,-,-,-,-⟩,s0,s1,s2,s3,s4,s5⟩
  go_simp
  with_reducible rfl
 rotate_left
 ·simp only [Act.put,List.setIfInBounds_toArray,List.set_cons_zero,List.set_cons_succ,i64_w,i32_w,HS1.out,HS2.out,HS3.out,HS4.out,HMIN.out]
  rfl
 refine take_ (i:=34) (N:=some 78) (v:=?_) (a':=?_) (ba_ 64 334790286817295359) rfl rfl (take_ofW HT_.out HW_.out (by kernel_rfl)) (fun _ _ _ h => h) (Or.inl ⟨by rfl,?_⟩) hHeld ?_ ?_
 rotate_left
 ·rintro w' ⟨⟨c0,c1,c2,c3,c4,c5,c6,-,-,-,-,-,-,-,-⟩,-,-,-,-,-,-⟩
  go_simp
  with_reducible rfl
 rotate_left
 ·simp only [Act.put,List.setIfInBounds_toArray,List.set_cons_zero,List.set_cons_succ,i64_w,i32_w,HS1.out,HS2.out,HS3.out,HS4.out,HMIN.out]
  rfl
 refine take_ (i:=42) (N:=some 86) (v:=?_) (a':=?_) (ba_ 64 334794684863806463) rfl rfl (take_ofW HT_.out HW_.out (by kernel_rfl)) (fun _ _ _ h => h) (Or.inl ⟨by rfl,?_⟩) hHeld ?_ ?_
 rotate_left
 ·rintro w' ⟨⟨c0,c1,c2,c3,c4,c5,c6,-,-,-,-,-,-,-,-⟩,-,-,-,-,-,-⟩
  go_simp
  with_reducible rfl
 rotate_left
 ·simp only [Act.put,List.setIfInBounds_toArray,List.set_cons_zero,List.set_cons_succ,i64_w,i32_w,HS1.out,HS2.out,HS3.out,HS4.out,HMIN.out]
  rfl
 refine take_ (i:=44) (N:=some 88) (v:=?_) (a':=?_) (ba_ 64 334812277049850879) rfl rfl (take_ofW HT_.out HW_.out (by kernel_rfl)) (fun _ _ _ h => h) (Or.inl ⟨by rfl,?_⟩) hHeld ?_ ?_
 rotate_left
 ·rintro w' ⟨⟨-,-,-,-,-,-,-,d0,-,-,-,-,-,-,-⟩,-,-,-,-,-,-⟩
  go_simp
  with_reducible rfl
 rotate_left
 ·simp only [Act.put,List.setIfInBounds_toArray,List.set_cons_zero,List.set_cons_succ,i64_w,i32_w,HS1.out,HS2.out,HS3.out,HS4.out,HMIN.out]
  rfl
 refine take_ (i:=47) (N:=some 91) (v:=?_) (a':=?_) (ba_ 64 334953014538206207) rfl rfl (take_ofW HT_.out HW_.out (by kernel_rfl)) (fun _ _ _ h => h) (Or.inl ⟨by rfl,?_⟩) hHeld ?_ ?_
 rotate_left
 ·rintro w' ⟨⟨-,-,-,-,-,-,-,-,-,d2,-,-,-,-,-⟩,-,-,-,-,-,-⟩
  go_simp
  with_reducible rfl
 rotate_left
 ·simp only [Act.put,List.setIfInBounds_toArray,List.set_cons_zero,List.set_cons_succ,i64_w,i32_w,HS1.out,HS2.out,HS3.out,HS4.out,HMIN.out]
  rfl
 refine pure_ (i:=49) (N:=some 93) (v:=?_) (a':=?_) (ba_ 64 335515964491627519) rfl rfl (any_of HT_.out (by kernel_rfl)) (fun _ _ _ h => h) (Or.inl ⟨by rfl,?_⟩) ?_ ?_
 rotate_left
 ·intro w'
  go_simp
  with_reducible rfl
 rotate_left
 ·simp only [Act.put,List.setIfInBounds_toArray,List.set_cons_zero,List.set_cons_succ,i64_w,i32_w,HS1.out,HS2.out,HS3.out,HS4.out,HMIN.out]
  rfl
 refine take_ (i:=54) (N:=some 98) (v:=?_) (a':=?_) (ba_ 64 353530363001109503) rfl rfl (take_ofW HT_.out HW_.out (by kernel_rfl)) (fun _ _ _ h => h) (Or.inl ⟨by rfl,?_⟩) hHeld ?_ ?_
 rotate_left
 ·rintro w' ⟨⟨-,-,-,-,-,-,c6,-,-,-,-,-,-,-,-⟩,-,-,-,-,-,-⟩
  go_simp
  with_reducible rfl
 rotate_left
 ·simp only [Act.put,List.setIfInBounds_toArray,List.set_cons_zero,List.set_cons_succ,i64_w,i32_w,HS1.out,HS2.out,HS3.out,HS4.out,HMIN.out]
  rfl
 refine pure_ (i:=56) (N:=some 100) (v:=?_) (a':=?_) (ba_ 64 425587957039037439) rfl rfl (any_of HT_.out (by kernel_rfl)) (fun _ _ _ h => h) (Or.inl ⟨by rfl,?_⟩) ?_ ?_
 rotate_left
 ·intro w'
  go_simp
  with_reducible rfl
 rotate_left
 ·simp only [Act.put,List.setIfInBounds_toArray,List.set_cons_zero,List.set_cons_succ,i64_w,i32_w,HS1.out,HS2.out,HS3.out,HS4.out,HMIN.out]
  rfl
 refine take_ (i:=57) (N:=some 101) (v:=?_) (a':=?_) (ba_ 64 569703145114893311) rfl rfl (take_ofW HT_.out HW_.out (by kernel_rfl)) (fun _ _ _ h => h) (Or.inl ⟨by rfl,?_⟩) hHeld ?_ ?_
 rotate_left
 ·rintro w' ⟨⟨-,-,-,-,-,-,-,-,-,-,-,-,-,-,-⟩,s0,s1,s2,s3,s4,s5⟩
  go_simp
  with_reducible rfl
 rotate_left
 ·simp only [Act.put,List.setIfInBounds_toArray,List.set_cons_zero,List.set_cons_succ,i64_w,i32_w,HS1.out,HS2.out,HS3.out,HS4.out,HMIN.out]
  rfl
 refine pure_ (i:=59) (N:=some 103) (v:=?_) (a':=?_) (ba_ 64 1146163897418316799) rfl rfl (any_of HT_.out (by kernel_rfl)) (fun _ _ _ h => h) (Or.inl ⟨by rfl,?_⟩) ?_ ?_
 rotate_left
 ·intro w'
  go_simp
  with_reducible rfl
 rotate_left
 ·simp only [Act.put,List.setIfInBounds_toArray,List.set_cons_zero,List.set_cons_succ,i64_w,i32_w,HS1.out,HS2.out,HS3.out,HS4.out,HMIN.out]
  rfl
 refine take_ (i:=60) (N:=some 104) (v:=?_) (a':=?_) (ba_ 64 2299085402025163775) rfl rfl (take_ofW HT_.out HW_.out (by kernel_rfl)) (fun _ _ _ h => h) (Or.inl ⟨by rfl,?_⟩) hHeld ?_ ?_
 rotate_left
 ·rintro w' ⟨⟨-,-,-,-,-,-,-,-,-,-,-,-,-,-,-⟩,s0,s1,s2,s3,s4,s5⟩
  go_simp
  with_reducible rfl
 rotate_left
 ·simp only [Act.put,List.setIfInBounds_toArray,List.set_cons_zero,List.set_cons_succ,i64_w,i32_w,HS1.out,HS2.out,HS3.out,HS4.out,HMIN.out]
  rfl
 refine one_ (i:=10) (N:=some 54) (ba_ 64 2299085402025164799) rfl rfl (one_of HT_.out (by kernel_rfl)) (by decide) (fun K hK => ?_)
 refine goes_ Try.func58 (by kernel_rfl) rfl #[.agg #[v0,v1,(.slice (some ad2) A cp2),(.slice (some ad3) B cp3),(.slice (some ad4) A cp4),(.slice (some ad5) B cp5),(.slice (some ad6) A cp6)],.agg #[.int .i64 ((i : Nat) : Int),.int .i64 ((p : Nat) : Int),.int .i64 ((k : Nat) : Int),.int .i64 ((q + 1 : Nat) : Int)],.map (some b)] (by rfl) rfl rfl (by simp only [List.map_toArray,List.map_cons,List.map_nil];rfl) ?_
 refine (FS.goes IH.out hHeld.1 (i':=i) (j':=p) (k':=k) (m':=q + 1) (by omega) (by omega) (by omega) (by omega) (by omega)).mono ?_
 rintro e w' ⟨rfl,hfs,hol⟩
 refine ⟨_,rfl,?_⟩
 obtain ⟨_,e0,e1,e2,e3,e4,e5⟩:=hHeld
 refine hK.out _ _ ⟨hfs,hol.cell (by rw [add_block];exact NB2.out) e0,hol.cell (by rw [add_block];exact NB3.out) e1,hol.cell (by rw [add_block];exact NB4.out) e2,hol.cell (by rw [add_block];exact NB5.out) e3,hol.cell (by rw [add_block];exact NB6.out) e4,hol.cell (by rw [add_block];exact NB7.out) e5⟩ (fun hHeld => ?_)
 clear hK K
 refine norm_ (a':=?_) ?_ ?_
 rotate_left
 ·show Act.put _ (some 54) _ = _
  simp only [Act.put,List.setIfInBounds_toArray,List.set_cons_zero,List.set_cons_succ,i64_w,i32_w,HS1.out,HS2.out,HS3.out,HS4.out,HMIN.out]
  rfl
 refine pure_ (i:=16) (N:=some 60) (v:=?_) (a':=?_) (ba_ 64 2299085402025230335) rfl rfl (any_of HT_.out (by kernel_rfl)) (fun _ _ _ h => h) (Or.inl ⟨by rfl,?_⟩) ?_ ?_
 rotate_left
 ·intro w'
  go_simp
  with_reducible rfl
 rotate_left
 ·simp only [Act.put,List.setIfInBounds_toArray,List.set_cons_zero,List.set_cons_succ,i64_w,i32_w,HS1.out,HS2.out,HS3.out,HS4.out,HMIN.out]
  rfl
 refine one_ (i:=27) (N:=some 71) (ba_ 64 2299085402159448063) rfl rfl (one_of HT_.out (by kernel_rfl)) (by decide) (fun K hK => ?_)
 refine goes_ Try.func58 (by kernel_rfl) rfl #[.agg #[v0,v1,(.slice (some ad2) A cp2),(.slice (some ad3) B cp3),(.slice (some ad4) A cp4),(.slice (some ad5) B cp5),(.slice (some ad6) A cp6)],.agg #[.int .i64 ((i : Nat) : Int),.int .i64 ((p + 1 : Nat) : Int),.int .i64 ((k : Nat) : Int),.int .i64 ((q : Nat) : Int)],.map (some b)] (by rfl) rfl rfl (by simp only [List.map_toArray,List.map_cons,List.map_nil];rfl) ?_
 refine (FS.goes IH.out hHeld.1 (i':=i) (j':=p + 1) (k':=k) (m':=q) (by omega) (by omega) (by omega) (by omega) (by omega)).mono ?_
 rintro e w' ⟨rfl,hfs,hol⟩
 refine ⟨_,rfl,?_⟩
 obtain ⟨_,e0,e1,e2,e3,e4,e5⟩:=hHeld
 refine hK.out _ _ ⟨hfs,hol.cell (by rw [add_block];exact NB2.out) e0,hol.cell (by rw [add_block];exact NB3.out) e1,hol.cell (by rw [add_block];exact NB4.out) e2,hol.cell (by rw [add_block];exact NB5.out) e3,hol.cell (by rw [add_block];exact NB6.out) e4,hol.cell (by rw [add_block];exact NB7.out) e5⟩ (fun hHeld => ?_)
 clear hK K
 refine norm_ (a':=?_) ?_ ?_
 rotate_left
 ·show Act.put _ (some 71) _ = _
  simp only [Act.put,List.setIfInBounds_toArray,List.set_cons_zero,List.set_cons_succ,i64_w,i32_w,HS1.out,HS2.out,HS3.out,HS4.out,HMIN.out]
  rfl
 refine pure_ (i:=33) (N:=some 77) (v:=?_) (a':=?_) (ba_ 64 2299085410749382655) rfl rfl (any_of HT_.out (by kernel_rfl)) (fun _ _ _ h => h) (Or.inl ⟨by rfl,?_⟩) ?_ ?_
 rotate_left
 ·intro w'
  go_simp
  with_reducible rfl
 rotate_left
 ·simp only [Act.put,List.setIfInBounds_toArray,List.set_cons_zero,List.set_cons_succ,i64_w,i32_w,HS1.out,HS2.out,HS3.out,HS4.out,HMIN.out]
  rfl
 refine one_ (i:=41) (N:=some 85) (ba_ 64 2299087609772638207) rfl rfl (one_of HT_.out (by kernel_rfl)) (by decide) (fun K hK => ?_)
 refine goes_ Try.func58 (by kernel_rfl) rfl #[.agg #[v0,v1,(.slice (some ad2) A cp2),(.slice (some ad3) B cp3),(.slice (some ad4) A cp4),(.slice (some ad5) B cp5),(.slice (some ad6) A cp6)],.agg #[.int .i64 ((x : Nat) : Int),.int .i64 ((p : Nat) : Int),.int .i64 ((y : Nat) : Int),.int .i64 ((q : Nat) : Int)],.map (some b)] (by rfl) rfl rfl (by simp only [List.map_toArray,List.map_cons,List.map_nil];rfl) ?_
 refine (FS.goes IH.out hHeld.1 (i':=x) (j':=p) (k':=y) (m':=q) (by omega) (by omega) (by omega) (by omega) (by omega)).mono ?_
 rintro e w' ⟨rfl,hfs,hol⟩
 refine ⟨_,rfl,?_⟩
 obtain ⟨_,e0,e1,e2,e3,e4,e5⟩:=hHeld
 refine hK.out _ _ ⟨hfs,hol.cell (by rw [add_block];exact NB2.out) e0,hol.cell (by rw [add_block];exact NB3.out) e1,hol.cell (by rw [add_block];exact NB4.out) e2,hol.cell (by rw [add_block];exact NB5.out) e3,hol.cell (by rw [add_block];exact NB6.out) e4,hol.cell (by rw [add_block];exact NB7.out) e5⟩ (fun hHeld => ?_)
 clear hK K
 refine norm_ (a':=?_) ?_ ?_
 rotate_left
 ·show Act.put _ (some 85) _ = _
  simp only [Act.put,List.setIfInBounds_toArray,List.set_cons_zero,List.set_cons_succ,i64_w,i32_w,HS1.out,HS2.out,HS3.out,HS4.out,HMIN.out]
  rfl
 refine one_ (i:=51) (N:=some 95) (ba_ 64 2301339409586323455) rfl rfl (one_of HT_.out (by kernel_rfl)) (by decide) (fun K hK => ?_)
 refine goes_ Try.func58 (by kernel_rfl) rfl #[.agg #[v0,v1,(.slice (some ad2) A cp2),(.slice (some ad3) B cp3),(.slice (some ad4) A cp4),(.slice (some ad5) B cp5),(.slice (some ad6) A cp6)],.agg #[.int .i64 ((i : Nat) : Int),.int .i64 ((x : Nat) : Int),.int .i64 ((k : Nat) : Int),.int .i64 ((y : Nat) : Int)],.map (some b)] (by rfl) rfl rfl (by simp only [List.map_toArray,List.map_cons,List.map_nil];rfl) ?_
 refine (FS.goes IH.out hHeld.1 (i':=i) (j':=x) (k':=k) (m':=y) (by omega) (by omega) (by omega) (by omega) (by omega)).mono ?_
 rintro e w' ⟨rfl,hfs,hol⟩
 refine ⟨_,rfl,?_⟩
 obtain ⟨_,e0,e1,e2,e3,e4,e5⟩:=hHeld
 refine hK.out _ _ ⟨hfs,hol.cell (by rw [add_block];exact NB2.out) e0,hol.cell (by rw [add_block];exact NB3.out) e1,hol.cell (by rw [add_block];exact NB4.out) e2,hol.cell (by rw [add_block];exact NB5.out) e3,hol.cell (by rw [add_block];exact NB6.out) e4,hol.cell (by rw [add_block];exact NB7.out) e5⟩ (fun hHeld => ?_)
 clear hK K
 refine norm_ (a':=?_) ?_ ?_
 rotate_left
 ·show Act.put _ (some 95) _ = _
  simp only [Act.put,List.setIfInBounds_toArray,List.set_cons_zero,List.set_cons_succ,i64_w,i32_w,HS1.out,HS2.out,HS3.out,HS4.out,HMIN.out]
  rfl
 refine pure_ (i:=52) (N:=some 96) (v:=?_) (a':=?_) (ba_ 64 2305843009213693951) rfl rfl (any_of HT_.out (by kernel_rfl)) (fun _ _ _ h => h) (Or.inl ⟨by rfl,?_⟩) ?_ ?_
 rotate_left
 ·intro w'
  go_simp
  with_reducible rfl
 rotate_left
 ·simp only [Act.put,List.setIfInBounds_toArray,List.set_cons_zero,List.set_cons_succ,i64_w,i32_w,HS1.out,HS2.out,HS3.out,HS4.out,HMIN.out]
  rfl
 refine pure_ (i:=61) (N:=some 105) (v:=?_) (a':=?_) (ba_ 64 4611686018427387903) rfl rfl (any_of HT_.out (by kernel_rfl)) (fun _ _ _ h => h) (Or.inl ⟨by rfl,?_⟩) ?_ ?_
 rotate_left
 ·intro w'
  go_simp
  with_reducible rfl
 rotate_left
 ·simp only [Act.put,List.setIfInBounds_toArray,List.set_cons_zero,List.set_cons_succ,i64_w,i32_w,HS1.out,HS2.out,HS3.out,HS4.out,HMIN.out]
  rfl
 refine pure_ (i:=62) (N:=some 106) (v:=?_) (a':=?_) (ba_ 64 9223372036854775807) rfl rfl (any_of HT_.out (by kernel_rfl)) (fun _ _ _ h => h) (Or.inl ⟨by rfl,?_⟩) ?_ ?_
 rotate_left
 ·intro w'
  go_simp
  with_reducible rfl
 rotate_left
 ·simp only [Act.put,List.setIfInBounds_toArray,List.set_cons_zero,List.set_cons_succ,i64_w,i32_w,HS1.out,HS2.out,HS3.out,HS4.out,HMIN.out]
  rfl
 refine pure_ (i:=63) (N:=some 9) (v:=?_) (a':=?_) (ba_ 64 18446744073709551615) rfl rfl (any_of HT_.out (by kernel_rfl)) (fun _ _ _ h => h) (Or.inl ⟨by rfl,?_⟩) ?_ ?_
 rotate_left
 ·intro w'
  go_simp
  with_reducible rfl
 rotate_left
 ·simp only [Act.put,List.setIfInBounds_toArray,List.set_cons_zero,List.set_cons_succ,i64_w,i32_w,HS1.out,HS2.out,HS3.out,HS4.out,HMIN.out]
  rfl
 refine done_ (done_of HT_.out (by kernel_rfl)) ?_
 obtain ⟨hfs,_⟩:=hHeld
 obtain ⟨ks1,DD1,hown1,hroom1,hst⟩:=hfs.store HSZ.out HBX.out HIN.out
 have d0:=hfs.d0
 have d1:=hfs.d1
 have d2:=hfs.d2
 have d3:=hfs.d3
 have HST9:=Aside0.mk hst
 have HO9:=Aside0.mk hown1
 have HR9:=Aside0.mk hroom1
 clear hst hown1 hroom1
 go_wp2_with (first | (at_mapUpdate;refine wpList_mapUpdate_own _ rfl _ _ _ 76 rfl 75 3 keyed75 Try.underlying76 elem3 b _ _ rfl HO9.out HR9.out _ _ (klit (i,p + 1,k,q + 1)) rfl rfl HX.out (.lit (.int .i64 (valOf M (i,p + 1,k,q + 1)))) [] HV.out ?_;intro w9 hown9 hgrow9))
 go_ret
 exact ⟨rfl,HST9.out _ hown9 hgrow9⟩
theorem forest_calls {M : Ted.Ms} {A B : Nat} (hs : Small M) (hA : A ≤ 24) (hB : B ≤ 24) (hla : ∀ p,p < A → M.la p ≤ p) (hlb : ∀ q,q < B → M.lb q ≤ q) : ∀ N : Nat,ForestAt M A B N:=by
 intro N
 induction N using Nat.strongRecOn with
 | _ N IH =>
  intro i j k m hN hij hj hkm hm W b v ks mea hmemo
  obtain ⟨v0,v1,v2,v3,v4,v5,v6,rfl,hrest⟩:=mea.is
  have hx : InBox (i,j,k,m):=⟨by simp only;omega,by simp only;omega,by simp only;omega,by simp only;omega⟩
  by_cases hin : (i,j,k,m) ∈ ks
  ·refine (forest_hit W b v0 v1 v2 v3 v4 v5 v6 ks hmemo hx hin).mono ?_
   rintro e w' ⟨h1,h2,ks',h3,h4⟩
   exact ⟨h1,h2,ks',h3,fun y hy => (h4 y hy).imp id (fun z => by simp only [sz] at z ⊢;omega)⟩
  ·by_cases h1 : i < j
   ·obtain ⟨p,rfl⟩ : ∃ p,j = p + 1:=⟨j - 1,by omega⟩
    by_cases h2 : k < m
    ·obtain ⟨q,rfl⟩ : ∃ q,m = q + 1:=⟨m - 1,by omega⟩
     exact forest_ab hs hA hB IH hN (by omega) hj (by omega) hm (hla p (by omega)) (hlb q (by omega)) W b ks mea hmemo hx hin
    ·obtain rfl : k = m:=by omega
     exact forest_c hs hA hB IH (by omega) hm (by omega) hj W b ks mea hmemo hx hin
   ·obtain rfl : i = j:=by omega
    by_cases h2 : k < m
    ·obtain ⟨q,rfl⟩ : ∃ q,m = q + 1:=⟨m - 1,by omega⟩
     exact forest_b hs hA hB IH (by omega) hj (by omega) hm W b ks mea hmemo hx hin
    ·obtain rfl : k = m:=by omega
     exact forest_none hs hA hB IH (by omega) hj hm W b ks mea hmemo hx hin
end Go.Proofs.Ytelglbebffdaaaa.X
namespace Go.Proofs.Ytelglbebffdaaaa.X
open Go.RowKit Go.Proofs.YtelglbebffdaaaaW.PrintWords Go.Proofs.YtelglbebffdaaaaW.PrintLast Go.Proofs.YtelglbebffdaaaaW.PrintMore
set_option linter.unusedVariables false
set_option linter.unusedSimpArgs false
theorem two_lt {a b x y : Nat} (hx : x < a) (hy : y < b) : x * b + y < a * b:=by
 have h : (x + 1) * b ≤ a * b:=Nat.mul_le_mul_right b (by omega)
 rw [Nat.add_mul,Nat.one_mul] at h
 omega
theorem two_inj {b x y x' y' : Nat} (hy : y < b) (hy' : y' < b) (h : x * b + y = x' * b + y') : x = x' ∧ y = y':=by
 have h1 : (x * b + y) / b = (x' * b + y') / b:=by rw [h]
 have e : ∀ u v,v < b → (u * b + v) / b = u:=fun u v hv => by
  rw [Nat.mul_comm,Nat.mul_add_div (by omega),Nat.div_eq_of_lt hv,Nat.add_zero]
 rw [e x y hy,e x' y' hy'] at h1
 subst h1
 exact ⟨rfl,by omega⟩
def kix (A B : Nat) (i j k m : Nat) : Nat:=((i * (A + 1) + j) * (B + 1) + k) * (B + 1) + m
def ksz (A B : Nat) : Nat:=(A + 1) * (A + 1) * (B + 1) * (B + 1)
theorem kix_lt {A B i j k m : Nat} (hi : i ≤ A) (hj : j ≤ A) (hk : k ≤ B) (hm : m ≤ B) : kix A B i j k m < ksz A B :=
 two_lt (two_lt (two_lt (by omega) (by omega)) (by omega)) (by omega)
theorem kix_inj {A B i j k m i' j' k' m' : Nat} (hj : j ≤ A) (hk : k ≤ B) (hm : m ≤ B) (hj' : j' ≤ A) (hk' : k' ≤ B) (hm' : m' ≤ B) (h : kix A B i j k m = kix A B i' j' k' m') : i = i' ∧ j = j' ∧ k = k' ∧ m = m':=by
 obtain ⟨h1,h2⟩:=two_inj (by omega) (by omega) h
 obtain ⟨h3,h4⟩:=two_inj (by omega) (by omega) h1
 obtain ⟨h5,h6⟩:=two_inj (by omega) (by omega) h3
 exact ⟨h5,h6,h4,h2⟩
theorem ksz_le {A B : Nat} (hA : A ≤ 24) (hB : B ≤ 24) : ksz A B ≤ 390625:=by
 have h1 : (A + 1) * (A + 1) ≤ 25 * 25:=Nat.mul_le_mul (by omega) (by omega)
 have h2 : (A + 1) * (A + 1) * (B + 1) ≤ 25 * 25 * 25:=Nat.mul_le_mul h1 (by omega)
 have h3 : (A + 1) * (A + 1) * (B + 1) * (B + 1) ≤ 25 * 25 * 25 * 25:=Nat.mul_le_mul h2 (by omega)
 exact h3
structure Kn (M : Ted.Ms) (A B : Nat) (W : World) (b : Nat) : Prop where
 is : ∃ L : List Int,W.heap[b]? = some (.cells (nums .i64 L).toArray 3 (0,0)) ∧ L.length = ksz A B ∧ ∀ i j k m,i ≤ j → j ≤ A → k ≤ m → m ≤ B → L.getD (kix A B i j k m) 0 = 0 ∨ L.getD (kix A B i j k m) 0 = Ted.D M i j k m + 1
theorem Kn.lt {M : Ted.Ms} {A B : Nat} {W : World} {b : Nat} (h : Kn M A B W b) : b < W.heap.size:=by
 obtain ⟨L,h1,_⟩:=h.is
 exact blk_lt h1
theorem Kn.keep {M : Ted.Ms} {A B : Nat} {W W' : World} {b : Nat} (h : Kn M A B W b) (hb : W'.heap[b]? = W.heap[b]?) : Kn M A B W' b:=by
 obtain ⟨L,h1,h2⟩:=h.is
 exact ⟨L,hb.trans h1,h2⟩
theorem Kn.cell {M : Ted.Ms} {A B : Nat} {W : World} {b : Nat} (h : Kn M A B W b) {i j k m : Nat} (hi : i ≤ j) (hj : j ≤ A) (hk : k ≤ m) (hm : m ≤ B) :
  ∃ z,W.cell? ⟨b,kix A B i j k m,none⟩ = some (.int .i64 z) ∧ (z = 0 ∨ z = Ted.D M i j k m + 1):=by
 obtain ⟨L,h1,h2,h3⟩:=h.is
 have hl:=kix_lt (show i ≤ A by omega) hj (show k ≤ B by omega) hm
 refine ⟨_,(blk_cell h1 _).trans ?_,h3 i j k m hi hj hk hm⟩
 rw [List.getElem?_toArray,nums,List.getElem?_map,List.getD_eq_getElem?_getD,List.getElem?_eq_getElem (by omega)]
 rfl
theorem Kn.frozen {M : Ted.Ms} {A B : Nat} {W : World} {b : Nat} (h : Kn M A B W b) (n : Nat) : W.frozen? ⟨b,n,none⟩ = false:=by
 obtain ⟨L,h1,_⟩:=h.is
 exact blk_frozen h1 n
theorem Kn.put {M : Ted.Ms} {A B : Nat} {W : World} {b : Nat} (h : Kn M A B W b) {i j k m : Nat} (hi : i ≤ j) (hj : j ≤ A) (hk : k ≤ m) (hm : m ≤ B) : Kn M A B (W.setCell ⟨b,kix A B i j k m,none⟩ (.int .i64 (Ted.D M i j k m + 1))) b:=by
 obtain ⟨L,h1,h2,h3⟩:=h.is
 have hl:=kix_lt (show i ≤ A by omega) hj (show k ≤ B by omega) hm
 refine ⟨L.set (kix A B i j k m) (Ted.D M i j k m + 1),?_,by rw [List.length_set];exact h2,fun i' j' k' m' hi' hj' hk' hm' => ?_⟩
 ·refine (blk_set h1 _ _).trans ?_
  rw [List.setIfInBounds_toArray,nums,nums,← List.map_set]
 ·rw [List.getD_eq_getElem?_getD,List.getElem?_set]
  by_cases e : kix A B i j k m = kix A B i' j' k' m'
  ·obtain ⟨rfl,rfl,rfl,rfl⟩:=kix_inj hj (by omega) hm hj' (by omega) hm' e
   rw [if_pos rfl,if_pos (by omega)]
   exact Or.inr rfl
  ·rw [if_neg e,← List.getD_eq_getElem?_getD]
   exact h3 i' j' k' m' hi' hj' hk' hm'
theorem Only.setCell {b : Nat} {W W1 : World} (h : Only b W W1) (n : Nat) (v : Value) : Only b W (W1.setCell ⟨b,n,none⟩ v) :=
 ⟨h.os,h.tape,h.output,by rw [show (W1.setCell ⟨b,n,none⟩ v).heap.size = W1.heap.size from by simp [World.setCell]];exact h.size,fun i hi hn => (Below.heap_setCell W1 ⟨b,n,none⟩ v i (fun e => hn (by rw [e]))).trans (h.block i hi hn)⟩
structure Mem (M : Ted.Ms) (A B : Nat) (X Y : Nat → Nat) (W : World) (b g : Nat) : Prop where
 is : ∃ v0 v1 v2 v3 v5 v6 v7,W.heap[g]? = some (.cells #[v0,v1,v2,v3,.slice (some ⟨b,0,none⟩) (ksz A B) (ksz A B),v5,v6,v7] 100 (0,0)) ∧ g ≠ b ∧
  Row1 W b v0 A (fun p => X p) ∧ Row1 W b v1 B (fun q => Y q) ∧ Row1 W b v2 A (fun p => M.la p) ∧ Row1 W b v3 B (fun q => M.lb q) ∧
  ∃ d n r : Nat → Int,Row1 W b v5 6 d ∧ Row1 W b v6 6 n ∧ Row1 W b v7 36 r ∧ (∀ p,p < A → X p < 6 ∧ M.del p = d (X p)) ∧ (∀ q,q < B → Y q < 6 ∧ M.ins q = n (Y q)) ∧ (∀ p q,p < A → q < B → M.rel p q = r (6 * X p + Y q))
theorem Mem.only {M : Ted.Ms} {A B : Nat} {X Y : Nat → Nat} {b g : Nat} {W W1 : World} (h : Only b W W1) (r : Mem M A B X Y W b g) : Mem M A B X Y W1 b g:=by
 obtain ⟨v0,v1,v2,v3,v5,v6,v7,e,hg,h0,h1,h2,h3,d,n,rr,h5,h6,h7,h8⟩:=r.is
 exact ⟨v0,v1,v2,v3,v5,v6,v7,(h.block g (blk_lt e) (by simpa using hg)).trans e,hg,h0.only h,h1.only h,h2.only h,h3.only h,d,n,rr,h5.only h,h6.only h,h7.only h,h8⟩
end Go.Proofs.Ytelglbebffdaaaa.X
namespace Go.Proofs.Ytelglbebffdaaaa.X
open Go.RowKit Go.Proofs.YtelglbebffdaaaaW.PrintWords Go.Proofs.YtelglbebffdaaaaW.PrintLast Go.Proofs.YtelglbebffdaaaaW.PrintMore
set_option linter.unusedVariables false
set_option linter.unusedSimpArgs false
attribute [local go_sem] max2_int min2_int max_two min_two
theorem match_facts {M : Ted.Ms} (hs : Small M) {i p k q : Nat} (hi : i ≤ p) (hk : k ≤ q) (hp : p + 1 ≤ 24) (hq : q + 1 ≤ 24) (hla : M.la p ≤ p) (hlb : M.lb q ≤ q) :
  ∃ (x y : Nat) (zz : Int),(i ≤ x ∧ x ≤ p) ∧ (k ≤ y ∧ y ≤ q) ∧ x = Ted.cut M.la i (p + 1) ∧ y = Ted.cut M.lb k (q + 1) ∧
   Aside0 ((if (i : Int) < (M.la p : Int) then (M.la p : Int) else (i : Int)) = (x : Int)) ∧ Aside0 ((if i < M.la p then (M.la p : Int) else (i : Int)) = (x : Int)) ∧
   Aside0 ((if (k : Int) < (M.lb q : Int) then (M.lb q : Int) else (k : Int)) = (y : Int)) ∧ Aside0 ((if k < M.lb q then (M.lb q : Int) else (k : Int)) = (y : Int)) ∧
   Aside0 (wrap64 (Ted.D M i x k y + Ted.D M x p y q) = Ted.D M i x k y + Ted.D M x p y q) ∧ Aside0 (wrap64 (Ted.D M i x k y + Ted.D M x p y q + M.rel p q) = zz) ∧ Aside0 (zz = Ted.D M i x k y + Ted.D M x p y q + M.rel p q):=by
 obtain ⟨c1,c2,c3⟩:=cut_facts hi hla
 obtain ⟨e1,e2,e3⟩:=cut_facts hk hlb
 have b3:=D_small hs (Ted.cut M.la i (p + 1)) p (Ted.cut M.lb k (q + 1)) q
 have b4:=D_small hs i (Ted.cut M.la i (p + 1)) k (Ted.cut M.lb k (q + 1))
 have b7:=hs.rel p q
 refine ⟨Ted.cut M.la i (p + 1),Ted.cut M.lb k (q + 1),_,⟨c1,c2⟩,⟨e1,e2⟩,rfl,rfl,⟨max_int c3⟩,⟨max_nat c3⟩,⟨max_int e3⟩,⟨max_nat e3⟩,⟨wid ?_ ?_⟩,⟨wid ?_ ?_⟩,⟨rfl⟩⟩
 all_goals (clear c3 e3;omega)
def DistAt (M : Ted.Ms) (A B : Nat) (X Y : Nat → Nat) (N : Nat) : Prop:=∀ i j k m : Nat,(j - i) + (m - k) = N → i ≤ j → j ≤ A → k ≤ m → m ≤ B → ∀ (W : World) (b g : Nat),Mem M A B X Y W b g → Kn M A B W b →
 Calls Try.prog 53 #[.pointer (some ⟨g,0,none⟩),.int .i64 (i : Int),.int .i64 (j : Int),.int .i64 (k : Int),.int .i64 (m : Int)] W fun e w' => e = .returned (.int .i64 (Ted.D M i j k m)) ∧ Only b W w' ∧ Kn M A B w' b
structure DS (M : Ted.Ms) (A B : Nat) (X Y : Nat → Nat) (W : World) (b g : Nat) (v0 v1 v2 v3 v5 v6 v7 : Value) (w' : World) : Prop where
 c0 : w'.cell? ⟨g,0,none⟩ = some v0
 c1 : w'.cell? ⟨g,1,none⟩ = some v1
 c2 : w'.cell? ⟨g,2,none⟩ = some v2
 c3 : w'.cell? ⟨g,3,none⟩ = some v3
 c4 : w'.cell? ⟨g,4,none⟩ = some (.slice (some ⟨b,0,none⟩) (ksz A B) (ksz A B))
 c5 : w'.cell? ⟨g,5,none⟩ = some v5
 c6 : w'.cell? ⟨g,6,none⟩ = some v6
 c7 : w'.cell? ⟨g,7,none⟩ = some v7
 sm : Mem M A B X Y w' b g
 sk : Kn M A B w' b
 so : Only b W w'
theorem DS.start {M : Ted.Ms} {A B : Nat} {X Y : Nat → Nat} {W : World} {b g : Nat} {v0 v1 v2 v3 v5 v6 v7 : Value} (mem : Mem M A B X Y W b g) (kn : Kn M A B W b) (h : W.heap[g]? = some (.cells #[v0,v1,v2,v3,.slice (some ⟨b,0,none⟩) (ksz A B) (ksz A B),v5,v6,v7] 100 (0,0))) :
  DS M A B X Y W b g v0 v1 v2 v3 v5 v6 v7 W :=
 ⟨(blk_cell h 0).trans rfl,(blk_cell h 1).trans rfl,(blk_cell h 2).trans rfl,(blk_cell h 3).trans rfl,(blk_cell h 4).trans rfl,(blk_cell h 5).trans rfl,(blk_cell h 6).trans rfl,(blk_cell h 7).trans rfl,mem,kn,Only.refl b W⟩
theorem DS.drew {M : Ted.Ms} {A B : Nat} {X Y : Nat → Nat} {W : World} {b g : Nat} {v0 v1 v2 v3 v5 v6 v7 : Value} {w : World} (h : DS M A B X Y W b g v0 v1 v2 v3 v5 v6 v7 w) : DS M A B X Y W b g v0 v1 v2 v3 v5 v6 v7 w.drew :=
 ⟨h.c0,h.c1,h.c2,h.c3,h.c4,h.c5,h.c6,h.c7,h.sm.only ((Only.refl b w).drew),h.sk.keep rfl,h.so.drew⟩
theorem DS.far {M : Ted.Ms} {A B : Nat} {X Y : Nat → Nat} {W : World} {b g : Nat} {v0 v1 v2 v3 v5 v6 v7 : Value} {w : World} (h : DS M A B X Y W b g v0 v1 v2 v3 v5 v6 v7 w) : g ≠ b:=by
 obtain ⟨_,_,_,_,_,_,_,_,hg,_⟩:=h.sm.is
 exact hg
theorem DS.goes {M : Ted.Ms} {A B : Nat} {X Y : Nat → Nat} {W : World} {b g N : Nat} {v0 v1 v2 v3 v5 v6 v7 : Value} {w : World} (IH : ∀ N',N' < N → DistAt M A B X Y N') (h : DS M A B X Y W b g v0 v1 v2 v3 v5 v6 v7 w)
  {i' j' k' m' : Nat} (hN : (j' - i') + (m' - k') < N) (h1 : i' ≤ j') (h2 : j' ≤ A) (h3 : k' ≤ m') (h4 : m' ≤ B) :
  Calls Try.prog 53 #[.pointer (some ⟨g,0,none⟩),.int .i64 (i' : Int),.int .i64 (j' : Int),.int .i64 (k' : Int),.int .i64 (m' : Int)] w fun e w' => e = .returned (.int .i64 (Ted.D M i' j' k' m')) ∧ DS M A B X Y W b g v0 v1 v2 v3 v5 v6 v7 w' ∧ Only b w w':=by
 refine (IH _ hN i' j' k' m' rfl h1 h2 h3 h4 w b g h.sm h.sk).mono ?_
 rintro e w' ⟨rfl,ho,hk⟩
 have n:=h.far
 exact ⟨rfl,⟨ho.cell n h.c0,ho.cell n h.c1,ho.cell n h.c2,ho.cell n h.c3,ho.cell n h.c4,ho.cell n h.c5,ho.cell n h.c6,ho.cell n h.c7,h.sm.only ho,hk,h.so.trans ho⟩,ho⟩
theorem Kn.put' {M : Ted.Ms} {A B : Nat} {W : World} {b : Nat} (h : Kn M A B W b) {i j k m : Nat} (hi : i ≤ j) (hj : j ≤ A) (hk : k ≤ m) (hm : m ≤ B) {n : Nat} (hn : n = kix A B i j k m) {x : Int} (hv : wrap64 (x + 1) = Ted.D M i j k m + 1) : Kn M A B (W.setCell ⟨b,n,none⟩ (.int .i64 (wrap64 (x + 1)))) b:=by
 rw [hn,hv]
 exact h.put hi hj hk hm
theorem at_facts {A B i j k m : Nat} (hA : A ≤ 24) (hB : B ≤ 24) (hi : i ≤ j) (hj : j ≤ A) (hk : k ≤ m) (hm : m ≤ B) :
  ∃ (at_ : Nat) (a1 a2 a3 a4 a5 : Int),at_ = kix A B i j k m ∧ ((0 ≤ (at_ : Int)) = True) ∧ (((at_ : Int) < ((ksz A B : Nat) : Int)) = True) ∧ Aside0 (wrap64 ((A : Int) + 1) = (A : Int) + 1) ∧ Aside0 (wrap64 ((B : Int) + 1) = (B : Int) + 1) ∧ ((((j : Nat) : Int) < (i : Int)) = False) ∧ ((j < i) = False) ∧
   Aside0 (wrap64 ((i : Int) * ((A : Int) + 1)) = a1) ∧ Aside0 (wrap64 (a1 + (j : Int)) = a2) ∧ Aside0 (wrap64 (a2 * ((B : Int) + 1)) = a3) ∧ ((((m : Nat) : Int) < (k : Int)) = False) ∧ ((m < k) = False) ∧ Aside0 (wrap64 (a3 + (k : Int)) = a4) ∧ Aside0 (wrap64 (a4 * ((B : Int) + 1)) = a5) ∧ Aside0 (wrap64 (a5 + (m : Int)) = (at_ : Int)):=by
 have hl:=kix_lt (A:=A) (B:=B) (i:=i) (j:=j) (k:=k) (m:=m) (by omega) hj (by omega) hm
 have hs:=ksz_le hA hB
 have w : ∀ n : Nat,n ≤ 1000000 → wrap64 (n : Int) = (n : Int):=fun n hn => wid (by omega) (by omega)
 have b1 : i * (A + 1) ≤ 24 * 25:=Nat.mul_le_mul (by omega) (by omega)
 have b2 : (i * (A + 1) + j) * (B + 1) ≤ 624 * 25:=Nat.mul_le_mul (by omega) (by omega)
 have b3 : ((i * (A + 1) + j) * (B + 1) + k) * (B + 1) ≤ 15624 * 25:=Nat.mul_le_mul (by omega) (by omega)
 have eA : (A : Int) + 1 = ((A + 1 : Nat) : Int):=by omega
 have eB : (B : Int) + 1 = ((B + 1 : Nat) : Int):=by omega
 rw [eA,eB]
 refine ⟨_,((i * (A + 1) : Nat) : Int),((i * (A + 1) + j : Nat) : Int),(((i * (A + 1) + j) * (B + 1) : Nat) : Int),(((i * (A + 1) + j) * (B + 1) + k : Nat) : Int),((((i * (A + 1) + j) * (B + 1) + k) * (B + 1) : Nat) : Int),rfl,eq_true (by omega),eq_true (by omega),⟨?_⟩,⟨?_⟩,eq_false (by omega),eq_false (by omega),⟨?_⟩,⟨?_⟩,⟨?_⟩,eq_false (by omega),eq_false (by omega),⟨?_⟩,⟨?_⟩,⟨?_⟩⟩
 ·exact w (A + 1) (by omega)
 ·exact w (B + 1) (by omega)
 ·rw [← Int.natCast_mul];exact w _ (by omega)
 ·rw [← Int.natCast_add];exact w _ (by omega)
 ·rw [← Int.natCast_mul];exact w _ (by omega)
 ·rw [← Int.natCast_add];exact w _ (by omega)
 ·rw [← Int.natCast_mul];exact w _ (by omega)
 ·rw [← Int.natCast_add];exact w _ (by unfold kix at hl;omega)
theorem dist_facts {M : Ted.Ms} (hs : Small M) {i p k q : Nat} (hi : i ≤ p) (hk : k ≤ q) (hp : p + 1 ≤ 24) (hq : q + 1 ≤ 24) (hla : M.la p ≤ p) (hlb : M.lb q ≤ q) :
  ∃ (z1 z2 zz dd : Int),Aside0 (wrap64 (Ted.D M i p k (q + 1) + M.del p) = z1) ∧ Aside0 (wrap64 (Ted.D M i (p + 1) k q + M.ins q) = z2) ∧
   Aside0 (zz = Ted.D M i (Ted.cut M.la i (p + 1)) k (Ted.cut M.lb k (q + 1)) + Ted.D M (Ted.cut M.la i (p + 1)) p (Ted.cut M.lb k (q + 1)) q + M.rel p q) ∧ Aside0 (dd = Ted.D M i (p + 1) k (q + 1)) ∧ Aside0 (wrap64 (dd + 1) = Ted.D M i (p + 1) k (q + 1) + 1) ∧
   Aside0 ((if zz < (if z2 < z1 then z2 else z1) then zz else (if z2 < z1 then z2 else z1)) = dd):=by
 have hD:=D_step M hi hk
 have b1:=D_small hs i p k (q + 1)
 have b2:=D_small hs i (p + 1) k q
 have b0:=D_small hs i (p + 1) k (q + 1)
 have b5:=hs.del p
 have b6:=hs.ins q
 refine ⟨Ted.D M i p k (q + 1) + M.del p,Ted.D M i (p + 1) k q + M.ins q,_,_,⟨wid ?_ ?_⟩,⟨wid ?_ ?_⟩,⟨rfl⟩,⟨rfl⟩,⟨wid ?_ ?_⟩,⟨min3 ?_⟩⟩
 all_goals (first | (clear hD;omega) | (rw [hD];congr 1;congr 1;omega))
def l9DistR.T10 : Bool × List (List Nat × List Nat):=(true,[([],[]),([],[]),([],[]),([2],[2]),([],[]),([],[]),([0,1,3,4,5],[0,1,3,4,5]),([],[]),([7],[7]),([8],[8]),([9],[9]),([10],[10]),([],[]),([12],[12]),([13],[13]),([14],[14]),([],[]),([16],[16]),([15,17],[15,17]),([18],[18]),([11,19],[11,19]),([20],[20]),([6,21],[6,21]),([22,6,0,1,2,3,4,5,6,7,8,9,10,11,12,13,14,15,16,17,18,19,20,21,22],[22])])
def l9DistR.B10 : List Nat:=[0,0,0,4,0,0,63,0,128,384,896,1920,0,4096,12288,28672,0,65536,258048,520192,1048448,2097024,4194303,8388607]
theorem l9DistR.tab10 : rtab .any (opsOf Try.f53 10) = l9DistR.T10:=by kernel_rfl
theorem l9DistR.bits10 : waitsOk l9DistR.T10.2 l9DistR.B10 = true:=by kernel_rfl
def l9DistR.T12 : Bool × List (List Nat × List Nat):=(true,[([],[]),([],[]),([],[]),([],[]),([],[]),([4],[4]),([0,1,2,3,5],[0,1,2,3,5]),([],[]),([7],[7]),([8],[8]),([9],[9]),([10],[10]),([],[]),([12],[12]),([13],[13]),([14],[14]),([],[]),([16],[16]),([15,17],[15,17]),([18],[18]),([11,19],[11,19]),([20],[20]),([6,21],[6,21]),([22,6,0,1,2,3,4,5,6,7,8,9,10,11,12,13,14,15,16,17,18,19,20,21,22],[22])])
def l9DistR.B12 : List Nat:=[0,0,0,0,0,16,63,0,128,384,896,1920,0,4096,12288,28672,0,65536,258048,520192,1048448,2097024,4194303,8388607]
theorem l9DistR.tab12 : rtab .any (opsOf Try.f53 12) = l9DistR.T12:=by kernel_rfl
theorem l9DistR.bits12 : waitsOk l9DistR.T12.2 l9DistR.B12 = true:=by kernel_rfl
def l9MatchR.T3 : Bool × List (List Nat × List Nat):=(true,[([],[]),([],[]),([],[]),([],[]),([],[]),([0,1,2,3,4],[0,1,2,3,4]),([],[]),([],[]),([],[]),([8],[8]),([],[]),([],[]),([11],[11]),([6,7,9,10,12,5],[6,7,9,10,12]),([5,13],[5,13]),([],[]),([15],[15]),([16],[16]),([17],[17]),([18],[18]),([],[]),([20],[20]),([21],[21]),([22],[22]),([],[]),([24],[24]),([23,25],[23,25]),([26],[26]),([27],[27]),([],[]),([29],[29]),([30],[30]),([31],[31]),([],[]),([33],[33]),([32,34],[32,34]),([35],[35]),([28,36],[28,36]),([19,37],[19,37]),([38],[38]),([14,39],[14,39]),([40,13,0,1,2,3,4,5,6,7,8,9,10,11,12,13,14,15,16,17,18,19,20,21,22,23,24,25,26,27,28,29,30,31,32,33,34,35,36,37,38,39,40],[40])])
def l9MatchR.B3 : List Nat:=[0,0,0,0,0,31,0,0,0,256,0,0,2048,8191,16383,0,32768,98304,229376,491520,0,1048576,3145728,7340032,0,16777216,66060288,133169152,267386880,0,536870912,1610612736,3758096384,0,8589934592,33822867456,68182605824,137437904896,274877874176,549755781120,1099511627775,2199023255551]
theorem l9MatchR.tab3 : rtab .any (opsOf Try.f60 3) = l9MatchR.T3:=by kernel_rfl
theorem l9MatchR.bits3 : waitsOk l9MatchR.T3.2 l9MatchR.B3 = true:=by kernel_rfl
set_option maxHeartbeats 8000000 in
set_option maxRecDepth 100000 in
theorem l9match {M : Ted.Ms} {A B : Nat} {X Y : Nat → Nat} {N : Nat} (hs : Small M) (hA : A ≤ 24) (hB : B ≤ 24) (IH : ∀ N',N' < N → DistAt M A B X Y N') {i p k q : Nat} (hN : (p + 1 - i) + (q + 1 - k) = N) (hi : i ≤ p) (hp : p + 1 ≤ A) (hk : k ≤ q) (hq : q + 1 ≤ B) (hla : M.la p ≤ p) (hlb : M.lb q ≤ q) (W : World) (b g : Nat) (mem : Mem M A B X Y W b g) (kn : Kn M A B W b) :
  Calls Try.prog 60 #[.pointer (some ⟨g,0,none⟩),.int .i64 ((i : Nat) : Int),.int .i64 ((p + 1 : Nat) : Int),.int .i64 ((k : Nat) : Int),.int .i64 ((q + 1 : Nat) : Int)] W fun e w' => e = .returned (.int .i64 (Ted.D M i (Ted.cut M.la i (p + 1)) k (Ted.cut M.lb k (q + 1)) + Ted.D M (Ted.cut M.la i (p + 1)) p (Ted.cut M.lb k (q + 1)) q + M.rel p q)) ∧ Only b W w' ∧ Kn M A B w' b:=by
 obtain ⟨v0,v1,v2,v3,v5,v6,v7,hblk,hg,m0,m1,m2,m3,d,n,r,m5,m6,m7,hX,hY,hR⟩:=mem.is
 obtain ⟨ad0,cp0,rfl,hcp0,nb0,r0⟩:=m0.is
 obtain ⟨ad1,cp1,rfl,hcp1,nb1,r1⟩:=m1.is
 have NB0:=Aside0.mk nb0
 have NB1:=Aside0.mk nb1
 have HST0:=DS.start mem kn hblk
 clear m0 m1 nb0 nb1
 have hx6:=(hX p (by omega)).1
 have hy6:=(hY q (by omega)).1
 have hrr:=hR p q (by omega) (by omega)
 have x0:=Aside0.mk (r0 p (by omega))
 have x1:=Aside0.mk (r1 q (by omega))
 obtain ⟨ad2,cp2,rfl,hcp2,nb2,r2⟩:=m2.is
 have x2:=Aside0.mk (r2 p (by omega))
 have NB2:=Aside0.mk nb2
 clear m2 r2 nb2
 obtain ⟨ad3,cp3,rfl,hcp3,nb3,r3⟩:=m3.is
 have x3:=Aside0.mk (r3 q (by omega))
 have NB3:=Aside0.mk nb3
 clear m3 r3 nb3
 obtain ⟨z7,hz7⟩ : ∃ z,z = 6 * X p + Y q:=⟨_,rfl⟩
 rw [← hz7] at hrr
 obtain ⟨ad7,cp7,rfl,hcp7,nb7,r7⟩:=m7.is
 have x7:=Aside0.mk (r7 z7 (by omega))
 have NB7:=Aside0.mk nb7
 clear m7 r7 nb7
 rw [← hrr] at x7
 obtain ⟨x,y,zz,⟨hx1,hx2⟩,⟨hy1,hy2⟩,ex,ey,HMX,HMX2,HMY,HMY2,HS3,HS4,HZ⟩:=match_facts hs hi hk (by omega) (by omega) hla hlb
 rw [← ex,← ey,← HZ.out]
 clear ex ey
 have p4 : (0 ≤ (p : Int)) = True:=eq_true (by omega)
 have q4 : ((p : Int) < (A : Int)) = True:=eq_true (by omega)
 have p5 : (0 ≤ (q : Int)) = True:=eq_true (by omega)
 have q5 : ((q : Int) < (B : Int)) = True:=eq_true (by omega)
 have p7 : (0 ≤ (z7 : Int)) = True:=eq_true (by omega)
 have q7 : ((z7 : Int) < ((36 : Nat) : Int)) = True:=eq_true (by omega)
 have q8 : ((z7 : Int) < (36 : Int)) = True:=eq_true (by omega)
 obtain ⟨z6,hz6⟩ : ∃ z : Int,z = 6 * (X p : Int):=⟨_,rfl⟩
 have HL1 : Aside0 (wrap64 ((X p : Int) * 6) = z6):=⟨by rw [wid (by omega) (by omega)];omega⟩
 have HL2 : Aside0 (wrap64 (z6 + (Y q : Int)) = (z7 : Int)):=⟨by rw [wid (by omega) (by omega)];omega⟩
 have HL3 : Aside0 (wrap64 (6 * (X p : Int) + (Y q : Int)) = (z7 : Int)):=⟨by rw [wid (by omega) (by omega)];omega⟩
 clear hz6 hz7 hrr
 have HAp:=Aside0.mk (num_sub (p:=p) (by omega))
 have HBp:=Aside0.mk (num_id (p:=p) (by omega))
 have HAq:=Aside0.mk (num_sub (p:=q) (by omega))
 have HBq:=Aside0.mk (num_id (p:=q) (by omega))
 have HW_p:=HAp.out
 have HW_q:=HAq.out
 have y2:=x2.out
 have y3:=x3.out
 have k1:=HMX.out
 have k2:=HMX2.out
 have k3:=HMY.out
 have k4:=HMY2.out
 have HST:=Aside0.mk HST0
 have IH:=Aside0.mk IH
 obtain ⟨c0,c1,c2,c3,c4,c5,c6,c7,sm,sk,so⟩:=HST0
 clear hblk hg mem kn sm sk so
 go_enter Try.func60,Try.ntmps60
 go_wp2
 refine start_ (n:=42) (S:=fun w' => DS M A B X Y W b g (.slice (some ad0) A cp0) (.slice (some ad1) B cp1) (.slice (some ad2) A cp2) (.slice (some ad3) B cp3) v5 v6 (.slice (some ad7) 36 cp7) w' ∧ w'.cell? (ad0.add p) = some (.int .i64 ((X p : Nat) : Int)) ∧ w'.cell? (ad1.add q) = some (.int .i64 ((Y q : Nat) : Int)) ∧ w'.cell? (ad7.add z7) = some (.int .i64 (M.rel p q))) (ds:=[]) (ba_ 42 0) (by kernel_rfl) rfl rfl ⟨HST.out.drew,x0.out,x1.out,x7.out⟩ (fun hHeld => ?_)
 refine with_tabW l9MatchR.tab3 l9MatchR.bits3 (fun HT_ HW_ => ?_)
 refine pure_ (i:=0) (N:=some 33) (v:=?_) (a':=?_) (ba_ 42 1) rfl rfl (any_of HT_.out (by kernel_rfl)) (fun _ _ _ h => h) (Or.inl ⟨by rfl,?_⟩) ?_ ?_
 rotate_left
 ·intro w'
  go_simp
  with_reducible rfl
 rotate_left
 ·simp only [Act.put,List.setIfInBounds_toArray,List.set_cons_zero,List.set_cons_succ,i64_w,i32_w,HAp.out,HAq.out,HBp.out,HBq.out,HL1.out,HL2.out,HL3.out,HS3.out,HS4.out]
  rfl
 refine pure_ (i:=1) (N:=some 34) (v:=?_) (a':=?_) (ba_ 42 3) rfl rfl (any_of HT_.out (by kernel_rfl)) (fun _ _ _ h => h) (Or.inl ⟨by rfl,?_⟩) ?_ ?_
 rotate_left
 ·intro w'
  go_simp
  with_reducible rfl
 rotate_left
 ·simp only [Act.put,List.setIfInBounds_toArray,List.set_cons_zero,List.set_cons_succ,i64_w,i32_w,HAp.out,HAq.out,HBp.out,HBq.out,HL1.out,HL2.out,HL3.out,HS3.out,HS4.out]
  rfl
 refine pure_ (i:=2) (N:=some 35) (v:=?_) (a':=?_) (ba_ 42 7) rfl rfl (any_of HT_.out (by kernel_rfl)) (fun _ _ _ h => h) (Or.inl ⟨by rfl,?_⟩) ?_ ?_
 rotate_left
 ·intro w'
  go_simp
  with_reducible rfl
 rotate_left
 ·simp only [Act.put,List.setIfInBounds_toArray,List.set_cons_zero,List.set_cons_succ,i64_w,i32_w,HAp.out,HAq.out,HBp.out,HBq.out,HL1.out,HL2.out,HL3.out,HS3.out,HS4.out]
  rfl
 refine pure_ (i:=3) (N:=some 36) (v:=?_) (a':=?_) (ba_ 42 15) rfl rfl (any_of HT_.out (by kernel_rfl)) (fun _ _ _ h => h) (Or.inl ⟨by rfl,?_⟩) ?_ ?_
 rotate_left
 ·intro w'
  go_simp
  with_reducible rfl
 rotate_left
 ·simp only [Act.put,List.setIfInBounds_toArray,List.set_cons_zero,List.set_cons_succ,i64_w,i32_w,HAp.out,HAq.out,HBp.out,HBq.out,HL1.out,HL2.out,HL3.out,HS3.out,HS4.out]
  rfl
 refine pure_ (i:=4) (N:=some 37) (v:=?_) (a':=?_) (ba_ 42 31) rfl rfl (any_of HT_.out (by kernel_rfl)) (fun _ _ _ h => h) (Or.inl ⟨by rfl,?_⟩) ?_ ?_
 rotate_left
 ·intro w'
  go_simp
  with_reducible rfl
 rotate_left
 ·simp only [Act.put,List.setIfInBounds_toArray,List.set_cons_zero,List.set_cons_succ,i64_w,i32_w,HAp.out,HAq.out,HBp.out,HBq.out,HL1.out,HL2.out,HL3.out,HS3.out,HS4.out]
  rfl
 refine pure_ (i:=6) (N:=some 39) (v:=?_) (a':=?_) (ba_ 42 95) rfl rfl (any_of HT_.out (by kernel_rfl)) (fun _ _ _ h => h) (Or.inl ⟨by rfl,?_⟩) ?_ ?_
 rotate_left
 ·intro w'
  go_simp
  with_reducible rfl
 rotate_left
 ·simp only [Act.put,List.setIfInBounds_toArray,List.set_cons_zero,List.set_cons_succ,i64_w,i32_w,HAp.out,HAq.out,HBp.out,HBq.out,HL1.out,HL2.out,HL3.out,HS3.out,HS4.out]
  rfl
 refine pure_ (i:=7) (N:=some 40) (v:=?_) (a':=?_) (ba_ 42 223) rfl rfl (any_of HT_.out (by kernel_rfl)) (fun _ _ _ h => h) (Or.inl ⟨by rfl,?_⟩) ?_ ?_
 rotate_left
 ·intro w'
  go_simp
  with_reducible rfl
 rotate_left
 ·simp only [Act.put,List.setIfInBounds_toArray,List.set_cons_zero,List.set_cons_succ,i64_w,i32_w,HAp.out,HAq.out,HBp.out,HBq.out,HL1.out,HL2.out,HL3.out,HS3.out,HS4.out]
  rfl
 refine pure_ (i:=8) (N:=some 41) (v:=?_) (a':=?_) (ba_ 42 479) rfl rfl (any_of HT_.out (by kernel_rfl)) (fun _ _ _ h => h) (Or.inl ⟨by rfl,?_⟩) ?_ ?_
 rotate_left
 ·intro w'
  go_simp
  with_reducible rfl
 rotate_left
 ·simp only [Act.put,List.setIfInBounds_toArray,List.set_cons_zero,List.set_cons_succ,i64_w,i32_w,HAp.out,HAq.out,HBp.out,HBq.out,HL1.out,HL2.out,HL3.out,HS3.out,HS4.out]
  rfl
 refine pure_ (i:=9) (N:=some 42) (v:=?_) (a':=?_) (ba_ 42 991) rfl rfl (any_of HT_.out (by kernel_rfl)) (fun _ _ _ h => h) (Or.inl ⟨by rfl,?_⟩) ?_ ?_
 rotate_left
 ·intro w'
  go_simp
  with_reducible rfl
 rotate_left
 ·simp only [Act.put,List.setIfInBounds_toArray,List.set_cons_zero,List.set_cons_succ,i64_w,i32_w,HAp.out,HAq.out,HBp.out,HBq.out,HL1.out,HL2.out,HL3.out,HS3.out,HS4.out]
  rfl
 refine pure_ (i:=10) (N:=some 43) (v:=?_) (a':=?_) (ba_ 42 2015) rfl rfl (any_of HT_.out (by kernel_rfl)) (fun _ _ _ h => h) (Or.inl ⟨by rfl,?_⟩) ?_ ?_
 rotate_left
 ·intro w'
  go_simp
  with_reducible rfl
 rotate_left
 ·simp only [Act.put,List.setIfInBounds_toArray,List.set_cons_zero,List.set_cons_succ,i64_w,i32_w,HAp.out,HAq.out,HBp.out,HBq.out,HL1.out,HL2.out,HL3.out,HS3.out,HS4.out]
  rfl
 refine pure_ (i:=11) (N:=some 44) (v:=?_) (a':=?_) (ba_ 42 4063) rfl rfl (any_of HT_.out (by kernel_rfl)) (fun _ _ _ h => h) (Or.inl ⟨by rfl,?_⟩) ?_ ?_
 rotate_left
 ·intro w'
  go_simp
  with_reducible rfl
 rotate_left
 ·simp only [Act.put,List.setIfInBounds_toArray,List.set_cons_zero,List.set_cons_succ,i64_w,i32_w,HAp.out,HAq.out,HBp.out,HBq.out,HL1.out,HL2.out,HL3.out,HS3.out,HS4.out]
  rfl
 refine pure_ (i:=12) (N:=some 45) (v:=?_) (a':=?_) (ba_ 42 8159) rfl rfl (any_of HT_.out (by kernel_rfl)) (fun _ _ _ h => h) (Or.inl ⟨by rfl,?_⟩) ?_ ?_
 rotate_left
 ·intro w'
  go_simp
  with_reducible rfl
 rotate_left
 ·simp only [Act.put,List.setIfInBounds_toArray,List.set_cons_zero,List.set_cons_succ,i64_w,i32_w,HAp.out,HAq.out,HBp.out,HBq.out,HL1.out,HL2.out,HL3.out,HS3.out,HS4.out]
  rfl
 refine pure_ (i:=15) (N:=some 48) (v:=?_) (a':=?_) (ba_ 42 40927) rfl rfl (any_of HT_.out (by kernel_rfl)) (fun _ _ _ h => h) (Or.inl ⟨by rfl,?_⟩) ?_ ?_
 rotate_left
 ·intro w'
  go_simp
  with_reducible rfl
 rotate_left
 ·simp only [Act.put,List.setIfInBounds_toArray,List.set_cons_zero,List.set_cons_succ,i64_w,i32_w,HAp.out,HAq.out,HBp.out,HBq.out,HL1.out,HL2.out,HL3.out,HS3.out,HS4.out]
  rfl
 refine pure_ (i:=16) (N:=some 49) (v:=?_) (a':=?_) (ba_ 42 106463) rfl rfl (any_of HT_.out (by kernel_rfl)) (fun _ _ _ h => h) (Or.inl ⟨by rfl,?_⟩) ?_ ?_
 rotate_left
 ·intro w'
  go_simp
  with_reducible rfl
 rotate_left
 ·simp only [Act.put,List.setIfInBounds_toArray,List.set_cons_zero,List.set_cons_succ,i64_w,i32_w,HAp.out,HAq.out,HBp.out,HBq.out,HL1.out,HL2.out,HL3.out,HS3.out,HS4.out]
  rfl
 refine pure_ (i:=17) (N:=some 50) (v:=?_) (a':=?_) (ba_ 42 237535) rfl rfl (any_of HT_.out (by kernel_rfl)) (fun _ _ _ h => h) (Or.inl ⟨by rfl,?_⟩) ?_ ?_
 rotate_left
 ·intro w'
  go_simp
  with_reducible rfl
 rotate_left
 ·simp only [Act.put,List.setIfInBounds_toArray,List.set_cons_zero,List.set_cons_succ,i64_w,i32_w,HAp.out,HAq.out,HBp.out,HBq.out,HL1.out,HL2.out,HL3.out,HS3.out,HS4.out]
  rfl
 refine pure_ (i:=18) (N:=some 51) (v:=?_) (a':=?_) (ba_ 42 499679) rfl rfl (any_of HT_.out (by kernel_rfl)) (fun _ _ _ h => h) (Or.inl ⟨by rfl,?_⟩) ?_ ?_
 rotate_left
 ·intro w'
  go_simp
  with_reducible rfl
 rotate_left
 ·simp only [Act.put,List.setIfInBounds_toArray,List.set_cons_zero,List.set_cons_succ,i64_w,i32_w,HAp.out,HAq.out,HBp.out,HBq.out,HL1.out,HL2.out,HL3.out,HS3.out,HS4.out]
  rfl
 refine pure_ (i:=20) (N:=some 53) (v:=?_) (a':=?_) (ba_ 42 1548255) rfl rfl (any_of HT_.out (by kernel_rfl)) (fun _ _ _ h => h) (Or.inl ⟨by rfl,?_⟩) ?_ ?_
 rotate_left
 ·intro w'
  go_simp
  with_reducible rfl
 rotate_left
 ·simp only [Act.put,List.setIfInBounds_toArray,List.set_cons_zero,List.set_cons_succ,i64_w,i32_w,HAp.out,HAq.out,HBp.out,HBq.out,HL1.out,HL2.out,HL3.out,HS3.out,HS4.out]
  rfl
 refine pure_ (i:=21) (N:=some 54) (v:=?_) (a':=?_) (ba_ 42 3645407) rfl rfl (any_of HT_.out (by kernel_rfl)) (fun _ _ _ h => h) (Or.inl ⟨by rfl,?_⟩) ?_ ?_
 rotate_left
 ·intro w'
  go_simp
  with_reducible rfl
 rotate_left
 ·simp only [Act.put,List.setIfInBounds_toArray,List.set_cons_zero,List.set_cons_succ,i64_w,i32_w,HAp.out,HAq.out,HBp.out,HBq.out,HL1.out,HL2.out,HL3.out,HS3.out,HS4.out]
  rfl
 refine pure_ (i:=22) (N:=some 55) (v:=?_) (a':=?_) (ba_ 42 7839711) rfl rfl (any_of HT_.out (by kernel_rfl)) (fun _ _ _ h => h) (Or.inl ⟨by rfl,?_⟩) ?_ ?_
 rotate_left
 ·intro w'
  go_simp
  with_reducible rfl
 rotate_left
 ·simp only [Act.put,List.setIfInBounds_toArray,List.set_cons_zero,List.set_cons_succ,i64_w,i32_w,HAp.out,HAq.out,HBp.out,HBq.out,HL1.out,HL2.out,HL3.out,HS3.out,HS4.out]
  rfl
 refine pure_ (i:=24) (N:=some 57) (v:=?_) (a':=?_) (ba_ 42 24616927) rfl rfl (any_of HT_.out (by kernel_rfl)) (fun _ _ _ h => h) (Or.inl ⟨by rfl,?_⟩) ?_ ?_
 rotate_left
 ·intro w'
  go_simp
  with_reducible rfl
 rotate_left
 ·simp only [Act.put,List.setIfInBounds_toArray,List.set_cons_zero,List.set_cons_succ,i64_w,i32_w,HAp.out,HAq.out,HBp.out,HBq.out,HL1.out,HL2.out,HL3.out,HS3.out,HS4.out]
  rfl
 refine pure_ (i:=25) (N:=some 58) (v:=?_) (a':=?_) (ba_ 42 58171359) rfl rfl (any_of HT_.out (by kernel_rfl)) (fun _ _ _ h => h) (Or.inl ⟨by rfl,?_⟩) ?_ ?_
 rotate_left
 ·intro w'
  go_simp
  with_reducible rfl
 rotate_left
 ·simp only [Act.put,List.setIfInBounds_toArray,List.set_cons_zero,List.set_cons_succ,i64_w,i32_w,HAp.out,HAq.out,HBp.out,HBq.out,HL1.out,HL2.out,HL3.out,HS3.out,HS4.out]
  rfl
 refine pure_ (i:=29) (N:=some 62) (v:=?_) (a':=?_) (ba_ 42 595042271) rfl rfl (any_of HT_.out (by kernel_rfl)) (fun _ _ _ h => h) (Or.inl ⟨by rfl,?_⟩) ?_ ?_
 rotate_left
 ·intro w'
  go_simp
  with_reducible rfl
 rotate_left
 ·simp only [Act.put,List.setIfInBounds_toArray,List.set_cons_zero,List.set_cons_succ,i64_w,i32_w,HAp.out,HAq.out,HBp.out,HBq.out,HL1.out,HL2.out,HL3.out,HS3.out,HS4.out]
  rfl
 refine pure_ (i:=30) (N:=some 63) (v:=?_) (a':=?_) (ba_ 42 1668784095) rfl rfl (any_of HT_.out (by kernel_rfl)) (fun _ _ _ h => h) (Or.inl ⟨by rfl,?_⟩) ?_ ?_
 rotate_left
 ·intro w'
  go_simp
  with_reducible rfl
 rotate_left
 ·simp only [Act.put,List.setIfInBounds_toArray,List.set_cons_zero,List.set_cons_succ,i64_w,i32_w,HAp.out,HAq.out,HBp.out,HBq.out,HL1.out,HL2.out,HL3.out,HS3.out,HS4.out]
  rfl
 refine pure_ (i:=31) (N:=some 64) (v:=?_) (a':=?_) (ba_ 42 3816267743) rfl rfl (any_of HT_.out (by kernel_rfl)) (fun _ _ _ h => h) (Or.inl ⟨by rfl,?_⟩) ?_ ?_
 rotate_left
 ·intro w'
  go_simp
  with_reducible rfl
 rotate_left
 ·simp only [Act.put,List.setIfInBounds_toArray,List.set_cons_zero,List.set_cons_succ,i64_w,i32_w,HAp.out,HAq.out,HBp.out,HBq.out,HL1.out,HL2.out,HL3.out,HS3.out,HS4.out]
  rfl
 refine pure_ (i:=33) (N:=some 66) (v:=?_) (a':=?_) (ba_ 42 12406202335) rfl rfl (any_of HT_.out (by kernel_rfl)) (fun _ _ _ h => h) (Or.inl ⟨by rfl,?_⟩) ?_ ?_
 rotate_left
 ·intro w'
  go_simp
  with_reducible rfl
 rotate_left
 ·simp only [Act.put,List.setIfInBounds_toArray,List.set_cons_zero,List.set_cons_succ,i64_w,i32_w,HAp.out,HAq.out,HBp.out,HBq.out,HL1.out,HL2.out,HL3.out,HS3.out,HS4.out]
  rfl
 refine pure_ (i:=34) (N:=some 67) (v:=?_) (a':=?_) (ba_ 42 29586071519) rfl rfl (any_of HT_.out (by kernel_rfl)) (fun _ _ _ h => h) (Or.inl ⟨by rfl,?_⟩) ?_ ?_
 rotate_left
 ·intro w'
  go_simp
  with_reducible rfl
 rotate_left
 ·simp only [Act.put,List.setIfInBounds_toArray,List.set_cons_zero,List.set_cons_succ,i64_w,i32_w,HAp.out,HAq.out,HBp.out,HBq.out,HL1.out,HL2.out,HL3.out,HS3.out,HS4.out]
  rfl
 refine take_ (i:=19) (N:=some 52) (v:=?_) (a':=?_) (ba_ 42 29586595807) rfl rfl (take_ofW HT_.out HW_.out (by kernel_rfl)) (fun _ _ _ h => h) (Or.inl ⟨by rfl,?_⟩) hHeld ?_ ?_
 rotate_left
 ·rintro w' ⟨⟨-,-,-,-,-,-,-,c7,-,-,-⟩,-,-,-⟩
  go_simp
  with_reducible rfl
 rotate_left
 ·simp only [Act.put,List.setIfInBounds_toArray,List.set_cons_zero,List.set_cons_succ,i64_w,i32_w,HAp.out,HAq.out,HBp.out,HBq.out,HL1.out,HL2.out,HL3.out,HS3.out,HS4.out]
  rfl
 refine take_ (i:=23) (N:=some 56) (v:=?_) (a':=?_) (ba_ 42 29594984415) rfl rfl (take_ofW HT_.out HW_.out (by kernel_rfl)) (fun _ _ _ h => h) (Or.inl ⟨by rfl,?_⟩) hHeld ?_ ?_
 rotate_left
 ·rintro w' ⟨⟨c0,-,-,-,-,-,-,-,-,-,-⟩,-,-,-⟩
  go_simp
  with_reducible rfl
 rotate_left
 ·simp only [Act.put,List.setIfInBounds_toArray,List.set_cons_zero,List.set_cons_succ,i64_w,i32_w,HAp.out,HAq.out,HBp.out,HBq.out,HL1.out,HL2.out,HL3.out,HS3.out,HS4.out]
  rfl
 refine pure_ (i:=26) (N:=some 59) (v:=?_) (a':=?_) (ba_ 42 29662093279) rfl rfl (any_of HT_.out (by kernel_rfl)) (fun _ _ _ h => h) (Or.inl ⟨by rfl,?_⟩) ?_ ?_
 rotate_left
 ·intro w'
  go_simp
  with_reducible rfl
 rotate_left
 ·simp only [Act.put,List.setIfInBounds_toArray,List.set_cons_zero,List.set_cons_succ,i64_w,i32_w,HAp.out,HAq.out,HBp.out,HBq.out,HL1.out,HL2.out,HL3.out,HS3.out,HS4.out]
  rfl
 refine take_ (i:=27) (N:=some 60) (v:=?_) (a':=?_) (ba_ 42 29796311007) rfl rfl (take_ofW HT_.out HW_.out (by kernel_rfl)) (fun _ _ _ h => h) (Or.inl ⟨by rfl,?_⟩) hHeld ?_ ?_
 rotate_left
 ·rintro w' ⟨⟨-,-,-,-,-,-,-,-,-,-,-⟩,s0,s1,s2⟩
  go_simp
  with_reducible rfl
 rotate_left
 ·simp only [Act.put,List.setIfInBounds_toArray,List.set_cons_zero,List.set_cons_succ,i64_w,i32_w,HAp.out,HAq.out,HBp.out,HBq.out,HL1.out,HL2.out,HL3.out,HS3.out,HS4.out]
  rfl
 refine pure_ (i:=28) (N:=some 61) (v:=?_) (a':=?_) (ba_ 42 30064746463) rfl rfl (any_of HT_.out (by kernel_rfl)) (fun _ _ _ h => h) (Or.inl ⟨by rfl,?_⟩) ?_ ?_
 rotate_left
 ·intro w'
  go_simp
  with_reducible rfl
 rotate_left
 ·simp only [Act.put,List.setIfInBounds_toArray,List.set_cons_zero,List.set_cons_succ,i64_w,i32_w,HAp.out,HAq.out,HBp.out,HBq.out,HL1.out,HL2.out,HL3.out,HS3.out,HS4.out]
  rfl
 refine take_ (i:=32) (N:=some 65) (v:=?_) (a':=?_) (ba_ 42 34359713759) rfl rfl (take_ofW HT_.out HW_.out (by kernel_rfl)) (fun _ _ _ h => h) (Or.inl ⟨by rfl,?_⟩) hHeld ?_ ?_
 rotate_left
 ·rintro w' ⟨⟨-,c1,-,-,-,-,-,-,-,-,-⟩,-,-,-⟩
  go_simp
  with_reducible rfl
 rotate_left
 ·simp only [Act.put,List.setIfInBounds_toArray,List.set_cons_zero,List.set_cons_succ,i64_w,i32_w,HAp.out,HAq.out,HBp.out,HBq.out,HL1.out,HL2.out,HL3.out,HS3.out,HS4.out]
  rfl
 refine pure_ (i:=35) (N:=some 68) (v:=?_) (a':=?_) (ba_ 42 68719452127) rfl rfl (any_of HT_.out (by kernel_rfl)) (fun _ _ _ h => h) (Or.inl ⟨by rfl,?_⟩) ?_ ?_
 rotate_left
 ·intro w'
  go_simp
  with_reducible rfl
 rotate_left
 ·simp only [Act.put,List.setIfInBounds_toArray,List.set_cons_zero,List.set_cons_succ,i64_w,i32_w,HAp.out,HAq.out,HBp.out,HBq.out,HL1.out,HL2.out,HL3.out,HS3.out,HS4.out]
  rfl
 refine take_ (i:=36) (N:=some 69) (v:=?_) (a':=?_) (ba_ 42 137438928863) rfl rfl (take_ofW HT_.out HW_.out (by kernel_rfl)) (fun _ _ _ h => h) (Or.inl ⟨by rfl,?_⟩) hHeld ?_ ?_
 rotate_left
 ·rintro w' ⟨⟨-,-,-,-,-,-,-,-,-,-,-⟩,s0,s1,s2⟩
  go_simp
  with_reducible rfl
 rotate_left
 ·simp only [Act.put,List.setIfInBounds_toArray,List.set_cons_zero,List.set_cons_succ,i64_w,i32_w,HAp.out,HAq.out,HBp.out,HBq.out,HL1.out,HL2.out,HL3.out,HS3.out,HS4.out]
  rfl
 refine pure_ (i:=37) (N:=some 70) (v:=?_) (a':=?_) (ba_ 42 274877882335) rfl rfl (any_of HT_.out (by kernel_rfl)) (fun _ _ _ h => h) (Or.inl ⟨by rfl,?_⟩) ?_ ?_
 rotate_left
 ·intro w'
  go_simp
  with_reducible rfl
 rotate_left
 ·simp only [Act.put,List.setIfInBounds_toArray,List.set_cons_zero,List.set_cons_succ,i64_w,i32_w,HAp.out,HAq.out,HBp.out,HBq.out,HL1.out,HL2.out,HL3.out,HS3.out,HS4.out]
  rfl
 refine pure_ (i:=38) (N:=some 71) (v:=?_) (a':=?_) (ba_ 42 549755789279) rfl rfl (any_of HT_.out (by kernel_rfl)) (fun _ _ _ h => h) (Or.inl ⟨by rfl,?_⟩) ?_ ?_
 rotate_left
 ·intro w'
  go_simp
  with_reducible rfl
 rotate_left
 ·simp only [Act.put,List.setIfInBounds_toArray,List.set_cons_zero,List.set_cons_succ,i64_w,i32_w,HAp.out,HAq.out,HBp.out,HBq.out,HL1.out,HL2.out,HL3.out,HS3.out,HS4.out]
  rfl
 refine take_ (i:=39) (N:=some 72) (v:=?_) (a':=?_) (ba_ 42 1099511603167) rfl rfl (take_ofW HT_.out HW_.out (by kernel_rfl)) (fun _ _ _ h => h) (Or.inl ⟨by rfl,?_⟩) hHeld ?_ ?_
 rotate_left
 ·rintro w' ⟨⟨-,-,-,-,-,-,-,-,-,-,-⟩,s0,s1,s2⟩
  go_simp
  with_reducible rfl
 rotate_left
 ·simp only [Act.put,List.setIfInBounds_toArray,List.set_cons_zero,List.set_cons_succ,i64_w,i32_w,HAp.out,HAq.out,HBp.out,HBq.out,HL1.out,HL2.out,HL3.out,HS3.out,HS4.out]
  rfl
 refine one_ (i:=5) (N:=some 38) (ba_ 42 1099511603199) rfl rfl (one_of HT_.out (by kernel_rfl)) (by decide) (fun K hK => ?_)
 refine goes_ Try.func53 (by kernel_rfl) rfl #[.pointer (some ⟨g,0,none⟩),.int .i64 ((i : Nat) : Int),.int .i64 ((x : Nat) : Int),.int .i64 ((k : Nat) : Int),.int .i64 ((y : Nat) : Int)] (by rfl) rfl rfl (by simp only [List.map_toArray,List.map_cons,List.map_nil];rfl) ?_
 refine (DS.goes IH.out hHeld.1 (i':=i) (j':=x) (k':=k) (m':=y) (by omega) (by omega) (by omega) (by omega) (by omega)).mono ?_
 rintro e w' ⟨rfl,hfs,hol⟩
 refine ⟨_,rfl,?_⟩
 obtain ⟨_,e0,e1,e2⟩:=hHeld
 refine hK.out _ _ ⟨hfs,hol.cell (by rw [add_block];exact NB0.out) e0,hol.cell (by rw [add_block];exact NB1.out) e1,hol.cell (by rw [add_block];exact NB7.out) e2⟩ (fun hHeld => ?_)
 clear hK K
 refine norm_ (a':=?_) ?_ ?_
 rotate_left
 ·show Act.put _ (some 38) _ = _
  simp only [Act.put,List.setIfInBounds_toArray,List.set_cons_zero,List.set_cons_succ,i64_w,i32_w,HAp.out,HAq.out,HBp.out,HBq.out,HL1.out,HL2.out,HL3.out,HS3.out,HS4.out]
  rfl
 refine one_ (i:=13) (N:=some 46) (ba_ 42 1099511611391) rfl rfl (one_of HT_.out (by kernel_rfl)) (by decide) (fun K hK => ?_)
 refine goes_ Try.func53 (by kernel_rfl) rfl #[.pointer (some ⟨g,0,none⟩),.int .i64 ((x : Nat) : Int),.int .i64 ((p : Nat) : Int),.int .i64 ((y : Nat) : Int),.int .i64 ((q : Nat) : Int)] (by rfl) rfl rfl (by simp only [List.map_toArray,List.map_cons,List.map_nil];rfl) ?_
 refine (DS.goes IH.out hHeld.1 (i':=x) (j':=p) (k':=y) (m':=q) (by omega) (by omega) (by omega) (by omega) (by omega)).mono ?_
 rintro e w' ⟨rfl,hfs,hol⟩
 refine ⟨_,rfl,?_⟩
 obtain ⟨_,e0,e1,e2⟩:=hHeld
 refine hK.out _ _ ⟨hfs,hol.cell (by rw [add_block];exact NB0.out) e0,hol.cell (by rw [add_block];exact NB1.out) e1,hol.cell (by rw [add_block];exact NB7.out) e2⟩ (fun hHeld => ?_)
 clear hK K
 refine norm_ (a':=?_) ?_ ?_
 rotate_left
 ·show Act.put _ (some 46) _ = _
  simp only [Act.put,List.setIfInBounds_toArray,List.set_cons_zero,List.set_cons_succ,i64_w,i32_w,HAp.out,HAq.out,HBp.out,HBq.out,HL1.out,HL2.out,HL3.out,HS3.out,HS4.out]
  rfl
 refine pure_ (i:=14) (N:=some 47) (v:=?_) (a':=?_) (ba_ 42 1099511627775) rfl rfl (any_of HT_.out (by kernel_rfl)) (fun _ _ _ h => h) (Or.inl ⟨by rfl,?_⟩) ?_ ?_
 rotate_left
 ·intro w'
  go_simp
  with_reducible rfl
 rotate_left
 ·simp only [Act.put,List.setIfInBounds_toArray,List.set_cons_zero,List.set_cons_succ,i64_w,i32_w,HAp.out,HAq.out,HBp.out,HBq.out,HL1.out,HL2.out,HL3.out,HS3.out,HS4.out]
  rfl
 refine pure_ (i:=40) (N:=some 73) (v:=?_) (a':=?_) (ba_ 42 2199023255551) rfl rfl (any_of HT_.out (by kernel_rfl)) (fun _ _ _ h => h) (Or.inl ⟨by rfl,?_⟩) ?_ ?_
 rotate_left
 ·intro w'
  go_simp
  with_reducible rfl
 rotate_left
 ·simp only [Act.put,List.setIfInBounds_toArray,List.set_cons_zero,List.set_cons_succ,i64_w,i32_w,HAp.out,HAq.out,HBp.out,HBq.out,HL1.out,HL2.out,HL3.out,HS3.out,HS4.out]
  rfl
 refine pure_ (i:=41) (N:=some 10) (v:=?_) (a':=?_) (ba_ 42 4398046511103) rfl rfl (any_of HT_.out (by kernel_rfl)) (fun _ _ _ h => h) (Or.inl ⟨by rfl,?_⟩) ?_ ?_
 rotate_left
 ·intro w'
  go_simp
  with_reducible rfl
 rotate_left
 ·simp only [Act.put,List.setIfInBounds_toArray,List.set_cons_zero,List.set_cons_succ,i64_w,i32_w,HAp.out,HAq.out,HBp.out,HBq.out,HL1.out,HL2.out,HL3.out,HS3.out,HS4.out]
  rfl
 refine done_ (done_of HT_.out (by kernel_rfl)) ?_
 go_wp2
 go_ret
 exact ⟨rfl,hHeld.1.so,hHeld.1.sk⟩
set_option maxHeartbeats 8000000 in
set_option maxRecDepth 100000 in
theorem dist_none {M : Ted.Ms} {A B : Nat} {X Y : Nat → Nat} {N : Nat} (hs : Small M) (hA : A ≤ 24) (hB : B ≤ 24) (IH : ∀ N',N' < N → DistAt M A B X Y N') {i k : Nat} (hi : i ≤ A) (hk : k ≤ B) (W : World) (b g : Nat) (mem : Mem M A B X Y W b g) (kn : Kn M A B W b) :
  Calls Try.prog 53 #[.pointer (some ⟨g,0,none⟩),.int .i64 ((i : Nat) : Int),.int .i64 ((i : Nat) : Int),.int .i64 ((k : Nat) : Int),.int .i64 ((k : Nat) : Int)] W fun e w' => e = .returned (.int .i64 (Ted.D M i i k k)) ∧ Only b W w' ∧ Kn M A B w' b:=by
 rw [Ted.D_none M (Nat.lt_irrefl i) (Nat.lt_irrefl k)]
 go_enter Try.func53,Try.ntmps53
 go_wp2
 go_ret
 exact ⟨rfl,Only.refl b W,kn⟩
set_option maxHeartbeats 8000000 in
set_option maxRecDepth 100000 in
theorem dist_b {M : Ted.Ms} {A B : Nat} {X Y : Nat → Nat} {N : Nat} (hs : Small M) (hA : A ≤ 24) (hB : B ≤ 24) (IH : ∀ N',N' < N → DistAt M A B X Y N') {i k q : Nat} (hN : q + 1 - k = N) (hi : i ≤ A) (hk : k ≤ q) (hq : q + 1 ≤ B) (W : World) (b g : Nat) (mem : Mem M A B X Y W b g) (kn : Kn M A B W b) :
  Calls Try.prog 53 #[.pointer (some ⟨g,0,none⟩),.int .i64 ((i : Nat) : Int),.int .i64 ((i : Nat) : Int),.int .i64 ((k : Nat) : Int),.int .i64 ((q + 1 : Nat) : Int)] W fun e w' => e = .returned (.int .i64 (Ted.D M i i k (q + 1))) ∧ Only b W w' ∧ Kn M A B w' b:=by
 obtain ⟨v0,v1,v2,v3,v5,v6,v7,hblk,hg,m0,m1,m2,m3,d,n,r,m5,m6,m7,hX,hY,hR⟩:=mem.is
 obtain ⟨ad0,cp0,rfl,hcp0,nb0,r0⟩:=m0.is
 obtain ⟨ad1,cp1,rfl,hcp1,nb1,r1⟩:=m1.is
 have NB0:=Aside0.mk nb0
 have NB1:=Aside0.mk nb1
 have HST0:=DS.start mem kn hblk
 clear m0 m1 nb0 nb1
 obtain ⟨z,hz,hzv⟩:=kn.cell (i:=i) (j:=i) (k:=k) (m:=q + 1) (by omega) (by omega) (by omega) (by omega)
 obtain ⟨at_,a1,a2,a3,a4,a5,hat,hat0,hat1,fn,fw,g1,g2,fa1,fa2,fa3,g3,g4,fa4,fa5,fa6⟩:=at_facts (A:=A) (B:=B) (i:=i) (j:=i) (k:=k) (m:=q + 1) (by omega) (by omega) (by omega) (by omega) (by omega) (by omega)
 rw [← hat] at hz
 have hz' : W.cell? ((⟨b,0,none⟩ : Addr).add at_) = some (.int .i64 z):=by rw [add_plain];exact hz
 rcases hzv with rfl | hzv
 ·have HST0:=HST0
  obtain ⟨hy6,hyd⟩:=hY q (by omega)
  have x1:=Aside0.mk (r1 q (by omega))
  obtain ⟨ad6,cp6,rfl,hcp6,nb6,r6⟩:=m6.is
  have x6:=Aside0.mk (r6 (Y q) hy6)
  have NB6:=Aside0.mk nb6
  clear m6 r6 nb6
  rw [← hyd] at x6
  clear hyd
  obtain ⟨dd,hdd⟩ : ∃ dd,dd = Ted.D M (i) (i) (k) (q + 1):=⟨_,rfl⟩
  have HS1 : Aside0 (wrap64 (Ted.D M i i k q + M.ins q) = dd):=⟨by
   rw [hdd,Ted.D_b M (Nat.lt_irrefl i) (show k < q + 1 by omega),Nat.add_sub_cancel]
   have h1:=D_small hs i i k q
   have h2:=hs.ins q
   exact wid (by omega) (by omega)⟩
  have HD1 : Aside0 (wrap64 (dd + 1) = Ted.D M (i) (i) (k) (q + 1) + 1):=⟨by have h1:=D_small hs (i) (i) (k) (q + 1);rw [← hdd] at h1 ⊢;exact wid (by omega) (by omega)⟩
  rw [← hdd]
  clear hdd
  have p1 : (0 ≤ (Y q : Int)) = True:=eq_true (by omega)
  have q1 : ((Y q : Int) < ((6 : Nat) : Int)) = True:=eq_true (by omega)
  have q1' : ((Y q : Int) < (6 : Int)) = True:=eq_true (by omega)
  have p5 : (0 ≤ (q : Int)) = True:=eq_true (by omega)
  have q5 : ((q : Int) < (B : Int)) = True:=eq_true (by omega)
  have k1 : ¬ ((q + 1 : Nat) : Int) ≤ (k : Int):=by omega
  have k2 : (k : Int) < ((q + 1 : Nat) : Int):=by omega
  have k1c:=k1
  have k2c:=k2
  push_cast at k1c k2c
  have HAq:=Aside0.mk (num_sub (p:=q) (by omega))
  have HBq:=Aside0.mk (num_id (p:=q) (by omega))
  replace hat:=Aside0.mk hat
  have g1c:=g1
  have g3c:=g3
  push_cast at g1c g3c
  have fn:=congrArg (Value.int .i64) fn.out
  have fw:=congrArg (Value.int .i64) fw.out
  have fa1:=congrArg (Value.int .i64) fa1.out
  have fa2:=congrArg (Value.int .i64) fa2.out
  have fa3:=congrArg (Value.int .i64) fa3.out
  have fa4:=congrArg (Value.int .i64) fa4.out
  have fa5:=congrArg (Value.int .i64) fa5.out
  have fa6:=congrArg (Value.int .i64) fa6.out
  have fa2c:=fa2
  have fa6c:=fa6
  push_cast at fa2c fa6c
  have HST:=Aside0.mk HST0
  have IH:=Aside0.mk IH
  obtain ⟨c0,c1,c2,c3,c4,c5,c6,c7,sm,sk,so⟩:=HST0
  clear hblk hg mem kn sm sk so
  go_enter Try.func53,Try.ntmps53
  go_wp2
  clear fn fw fa1 fa2 fa3 fa4 fa5 fa6 fa2c fa6c
  refine start_ (n:=24) (S:=fun w' => DS M A B X Y W b g (.slice (some ad0) A cp0) (.slice (some ad1) B cp1) v2 v3 v5 (.slice (some ad6) 6 cp6) v7 w' ∧ w'.cell? (ad1.add q) = some (.int .i64 ((Y q : Nat) : Int)) ∧ w'.cell? (ad6.add (Y q)) = some (.int .i64 (M.ins q))) (ds:=[]) (ba_ 24 0) (by kernel_rfl) rfl rfl ⟨HST.out.drew,x1.out,x6.out⟩ (fun hHeld => ?_)
  refine with_tabW l9DistR.tab12 l9DistR.bits12 (fun HT_ HW_ => ?_)
  refine pure_ (i:=0) (N:=some 98) (v:=?_) (a':=?_) (ba_ 24 1) rfl rfl (any_of HT_.out (by kernel_rfl)) (fun _ _ _ h => h) (Or.inl ⟨by rfl,?_⟩) ?_ ?_
  rotate_left
  ·intro w'
   go_simp
   with_reducible rfl
  rotate_left
  ·simp only [Act.put,List.setIfInBounds_toArray,List.set_cons_zero,List.set_cons_succ,i64_w,i32_w,HAq.out,HBq.out,HS1.out]
   rfl
  refine pure_ (i:=1) (N:=some 99) (v:=?_) (a':=?_) (ba_ 24 3) rfl rfl (any_of HT_.out (by kernel_rfl)) (fun _ _ _ h => h) (Or.inl ⟨by rfl,?_⟩) ?_ ?_
  rotate_left
  ·intro w'
   go_simp
   with_reducible rfl
  rotate_left
  ·simp only [Act.put,List.setIfInBounds_toArray,List.set_cons_zero,List.set_cons_succ,i64_w,i32_w,HAq.out,HBq.out,HS1.out]
   rfl
  refine pure_ (i:=2) (N:=some 100) (v:=?_) (a':=?_) (ba_ 24 7) rfl rfl (any_of HT_.out (by kernel_rfl)) (fun _ _ _ h => h) (Or.inl ⟨by rfl,?_⟩) ?_ ?_
  rotate_left
  ·intro w'
   go_simp
   with_reducible rfl
  rotate_left
  ·simp only [Act.put,List.setIfInBounds_toArray,List.set_cons_zero,List.set_cons_succ,i64_w,i32_w,HAq.out,HBq.out,HS1.out]
   rfl
  refine pure_ (i:=3) (N:=some 101) (v:=?_) (a':=?_) (ba_ 24 15) rfl rfl (any_of HT_.out (by kernel_rfl)) (fun _ _ _ h => h) (Or.inl ⟨by rfl,?_⟩) ?_ ?_
  rotate_left
  ·intro w'
   go_simp
   with_reducible rfl
  rotate_left
  ·simp only [Act.put,List.setIfInBounds_toArray,List.set_cons_zero,List.set_cons_succ,i64_w,i32_w,HAq.out,HBq.out,HS1.out]
   rfl
  refine pure_ (i:=4) (N:=some 102) (v:=?_) (a':=?_) (ba_ 24 31) rfl rfl (any_of HT_.out (by kernel_rfl)) (fun _ _ _ h => h) (Or.inl ⟨by rfl,?_⟩) ?_ ?_
  rotate_left
  ·intro w'
   go_simp
   with_reducible rfl
  rotate_left
  ·simp only [Act.put,List.setIfInBounds_toArray,List.set_cons_zero,List.set_cons_succ,i64_w,i32_w,HAq.out,HBq.out,HS1.out]
   rfl
  refine pure_ (i:=5) (N:=some 103) (v:=?_) (a':=?_) (ba_ 24 63) rfl rfl (any_of HT_.out (by kernel_rfl)) (fun _ _ _ h => h) (Or.inl ⟨by rfl,?_⟩) ?_ ?_
  rotate_left
  ·intro w'
   go_simp
   with_reducible rfl
  rotate_left
  ·simp only [Act.put,List.setIfInBounds_toArray,List.set_cons_zero,List.set_cons_succ,i64_w,i32_w,HAq.out,HBq.out,HS1.out]
   rfl
  refine pure_ (i:=7) (N:=some 105) (v:=?_) (a':=?_) (ba_ 24 191) rfl rfl (any_of HT_.out (by kernel_rfl)) (fun _ _ _ h => h) (Or.inl ⟨by rfl,?_⟩) ?_ ?_
  rotate_left
  ·intro w'
   go_simp
   with_reducible rfl
  rotate_left
  ·simp only [Act.put,List.setIfInBounds_toArray,List.set_cons_zero,List.set_cons_succ,i64_w,i32_w,HAq.out,HBq.out,HS1.out]
   rfl
  refine pure_ (i:=8) (N:=some 106) (v:=?_) (a':=?_) (ba_ 24 447) rfl rfl (any_of HT_.out (by kernel_rfl)) (fun _ _ _ h => h) (Or.inl ⟨by rfl,?_⟩) ?_ ?_
  rotate_left
  ·intro w'
   go_simp
   with_reducible rfl
  rotate_left
  ·simp only [Act.put,List.setIfInBounds_toArray,List.set_cons_zero,List.set_cons_succ,i64_w,i32_w,HAq.out,HBq.out,HS1.out]
   rfl
  refine pure_ (i:=9) (N:=some 107) (v:=?_) (a':=?_) (ba_ 24 959) rfl rfl (any_of HT_.out (by kernel_rfl)) (fun _ _ _ h => h) (Or.inl ⟨by rfl,?_⟩) ?_ ?_
  rotate_left
  ·intro w'
   go_simp
   with_reducible rfl
  rotate_left
  ·simp only [Act.put,List.setIfInBounds_toArray,List.set_cons_zero,List.set_cons_succ,i64_w,i32_w,HAq.out,HBq.out,HS1.out]
   rfl
  refine pure_ (i:=10) (N:=some 108) (v:=?_) (a':=?_) (ba_ 24 1983) rfl rfl (any_of HT_.out (by kernel_rfl)) (fun _ _ _ h => h) (Or.inl ⟨by rfl,?_⟩) ?_ ?_
  rotate_left
  ·intro w'
   go_simp
   with_reducible rfl
  rotate_left
  ·simp only [Act.put,List.setIfInBounds_toArray,List.set_cons_zero,List.set_cons_succ,i64_w,i32_w,HAq.out,HBq.out,HS1.out]
   rfl
  refine pure_ (i:=12) (N:=some 110) (v:=?_) (a':=?_) (ba_ 24 6079) rfl rfl (any_of HT_.out (by kernel_rfl)) (fun _ _ _ h => h) (Or.inl ⟨by rfl,?_⟩) ?_ ?_
  rotate_left
  ·intro w'
   go_simp
   with_reducible rfl
  rotate_left
  ·simp only [Act.put,List.setIfInBounds_toArray,List.set_cons_zero,List.set_cons_succ,i64_w,i32_w,HAq.out,HBq.out,HS1.out]
   rfl
  refine pure_ (i:=13) (N:=some 111) (v:=?_) (a':=?_) (ba_ 24 14271) rfl rfl (any_of HT_.out (by kernel_rfl)) (fun _ _ _ h => h) (Or.inl ⟨by rfl,?_⟩) ?_ ?_
  rotate_left
  ·intro w'
   go_simp
   with_reducible rfl
  rotate_left
  ·simp only [Act.put,List.setIfInBounds_toArray,List.set_cons_zero,List.set_cons_succ,i64_w,i32_w,HAq.out,HBq.out,HS1.out]
   rfl
  refine pure_ (i:=14) (N:=some 112) (v:=?_) (a':=?_) (ba_ 24 30655) rfl rfl (any_of HT_.out (by kernel_rfl)) (fun _ _ _ h => h) (Or.inl ⟨by rfl,?_⟩) ?_ ?_
  rotate_left
  ·intro w'
   go_simp
   with_reducible rfl
  rotate_left
  ·simp only [Act.put,List.setIfInBounds_toArray,List.set_cons_zero,List.set_cons_succ,i64_w,i32_w,HAq.out,HBq.out,HS1.out]
   rfl
  refine pure_ (i:=16) (N:=some 114) (v:=?_) (a':=?_) (ba_ 24 96191) rfl rfl (any_of HT_.out (by kernel_rfl)) (fun _ _ _ h => h) (Or.inl ⟨by rfl,?_⟩) ?_ ?_
  rotate_left
  ·intro w'
   go_simp
   with_reducible rfl
  rotate_left
  ·simp only [Act.put,List.setIfInBounds_toArray,List.set_cons_zero,List.set_cons_succ,i64_w,i32_w,HAq.out,HBq.out,HS1.out]
   rfl
  refine pure_ (i:=17) (N:=some 115) (v:=?_) (a':=?_) (ba_ 24 227263) rfl rfl (any_of HT_.out (by kernel_rfl)) (fun _ _ _ h => h) (Or.inl ⟨by rfl,?_⟩) ?_ ?_
  rotate_left
  ·intro w'
   go_simp
   with_reducible rfl
  rotate_left
  ·simp only [Act.put,List.setIfInBounds_toArray,List.set_cons_zero,List.set_cons_succ,i64_w,i32_w,HAq.out,HBq.out,HS1.out]
   rfl
  refine take_ (i:=11) (N:=some 109) (v:=?_) (a':=?_) (ba_ 24 229311) rfl rfl (take_ofW HT_.out HW_.out (by kernel_rfl)) (fun _ _ _ h => h) (Or.inl ⟨by rfl,?_⟩) hHeld ?_ ?_
  rotate_left
  ·rintro w' ⟨⟨-,-,-,-,-,-,c6,-,-,-,-⟩,-,-⟩
   go_simp
   with_reducible rfl
  rotate_left
  ·simp only [Act.put,List.setIfInBounds_toArray,List.set_cons_zero,List.set_cons_succ,i64_w,i32_w,HAq.out,HBq.out,HS1.out]
   rfl
  refine take_ (i:=15) (N:=some 113) (v:=?_) (a':=?_) (ba_ 24 262079) rfl rfl (take_ofW HT_.out HW_.out (by kernel_rfl)) (fun _ _ _ h => h) (Or.inl ⟨by rfl,?_⟩) hHeld ?_ ?_
  rotate_left
  ·rintro w' ⟨⟨-,c1,-,-,-,-,-,-,-,-,-⟩,-,-⟩
   go_simp
   with_reducible rfl
  rotate_left
  ·simp only [Act.put,List.setIfInBounds_toArray,List.set_cons_zero,List.set_cons_succ,i64_w,i32_w,HAq.out,HBq.out,HS1.out]
   rfl
  refine pure_ (i:=18) (N:=some 116) (v:=?_) (a':=?_) (ba_ 24 524223) rfl rfl (any_of HT_.out (by kernel_rfl)) (fun _ _ _ h => h) (Or.inl ⟨by rfl,?_⟩) ?_ ?_
  rotate_left
  ·intro w'
   go_simp
   with_reducible rfl
  rotate_left
  ·simp only [Act.put,List.setIfInBounds_toArray,List.set_cons_zero,List.set_cons_succ,i64_w,i32_w,HAq.out,HBq.out,HS1.out]
   rfl
  refine take_ (i:=19) (N:=some 117) (v:=?_) (a':=?_) (ba_ 24 1048511) rfl rfl (take_ofW HT_.out HW_.out (by kernel_rfl)) (fun _ _ _ h => h) (Or.inl ⟨by rfl,?_⟩) hHeld ?_ ?_
  rotate_left
  ·rintro w' ⟨⟨-,-,-,-,-,-,-,-,-,-,-⟩,s0,s1⟩
   go_simp
   with_reducible rfl
  rotate_left
  ·simp only [Act.put,List.setIfInBounds_toArray,List.set_cons_zero,List.set_cons_succ,i64_w,i32_w,HAq.out,HBq.out,HS1.out]
   rfl
  refine pure_ (i:=20) (N:=some 118) (v:=?_) (a':=?_) (ba_ 24 2097087) rfl rfl (any_of HT_.out (by kernel_rfl)) (fun _ _ _ h => h) (Or.inl ⟨by rfl,?_⟩) ?_ ?_
  rotate_left
  ·intro w'
   go_simp
   with_reducible rfl
  rotate_left
  ·simp only [Act.put,List.setIfInBounds_toArray,List.set_cons_zero,List.set_cons_succ,i64_w,i32_w,HAq.out,HBq.out,HS1.out]
   rfl
  refine take_ (i:=21) (N:=some 119) (v:=?_) (a':=?_) (ba_ 24 4194239) rfl rfl (take_ofW HT_.out HW_.out (by kernel_rfl)) (fun _ _ _ h => h) (Or.inl ⟨by rfl,?_⟩) hHeld ?_ ?_
  rotate_left
  ·rintro w' ⟨⟨-,-,-,-,-,-,-,-,-,-,-⟩,s0,s1⟩
   go_simp
   with_reducible rfl
  rotate_left
  ·simp only [Act.put,List.setIfInBounds_toArray,List.set_cons_zero,List.set_cons_succ,i64_w,i32_w,HAq.out,HBq.out,HS1.out]
   rfl
  refine one_ (i:=6) (N:=some 104) (ba_ 24 4194303) rfl rfl (one_of HT_.out (by kernel_rfl)) (by decide) (fun K hK => ?_)
  refine goes_ Try.func53 (by kernel_rfl) rfl #[.pointer (some ⟨g,0,none⟩),.int .i64 ((i : Nat) : Int),.int .i64 ((i : Nat) : Int),.int .i64 ((k : Nat) : Int),.int .i64 ((q : Nat) : Int)] (by rfl) rfl rfl (by simp only [List.map_toArray,List.map_cons,List.map_nil];rfl) ?_
  refine (DS.goes IH.out hHeld.1 (i':=i) (j':=i) (k':=k) (m':=q) (by omega) (by omega) (by omega) (by omega) (by omega)).mono ?_
  rintro e w' ⟨rfl,hfs,hol⟩
  refine ⟨_,rfl,?_⟩
  obtain ⟨_,e0,e1⟩:=hHeld
  refine hK.out _ _ ⟨hfs,hol.cell (by rw [add_block];exact NB1.out) e0,hol.cell (by rw [add_block];exact NB6.out) e1⟩ (fun hHeld => ?_)
  clear hK K
  refine norm_ (a':=?_) ?_ ?_
  rotate_left
  ·show Act.put _ (some 104) _ = _
   simp only [Act.put,List.setIfInBounds_toArray,List.set_cons_zero,List.set_cons_succ,i64_w,i32_w,HAq.out,HBq.out,HS1.out]
   rfl
  refine pure_ (i:=22) (N:=some 120) (v:=?_) (a':=?_) (ba_ 24 8388607) rfl rfl (any_of HT_.out (by kernel_rfl)) (fun _ _ _ h => h) (Or.inl ⟨by rfl,?_⟩) ?_ ?_
  rotate_left
  ·intro w'
   go_simp
   with_reducible rfl
  rotate_left
  ·simp only [Act.put,List.setIfInBounds_toArray,List.set_cons_zero,List.set_cons_succ,i64_w,i32_w,HAq.out,HBq.out,HS1.out]
   rfl
  refine pure_ (i:=23) (N:=some 15) (v:=?_) (a':=?_) (ba_ 24 16777215) rfl rfl (any_of HT_.out (by kernel_rfl)) (fun _ _ _ h => h) (Or.inl ⟨by rfl,?_⟩) ?_ ?_
  rotate_left
  ·intro w'
   go_simp
   with_reducible rfl
  rotate_left
  ·simp only [Act.put,List.setIfInBounds_toArray,List.set_cons_zero,List.set_cons_succ,i64_w,i32_w,HAq.out,HBq.out,HS1.out]
   rfl
  refine done_ (done_of HT_.out (by kernel_rfl)) ?_
  obtain ⟨z9,hz9,_⟩:=hHeld.1.sk.cell (i:=i) (j:=i) (k:=k) (m:=q + 1) (by omega) (by omega) (by omega) (by omega)
  rw [← hat.out] at hz9
  have hz8:=hHeld.1.sk.frozen at_
  have c4:=hHeld.1.c4
  go_wp2
  go_ret
  exact ⟨rfl,hHeld.1.so.setCell _ _,hHeld.1.sk.put' (by omega) (by omega) (by omega) (by omega) hat.out HD1.out⟩
 ·have hpos : (0 : Int) < z:=by have:=D_small hs (i) (i) (k) (q + 1);omega
  obtain ⟨dd,hdd⟩ : ∃ dd,dd = Ted.D M (i) (i) (k) (q + 1):=⟨_,rfl⟩
  rw [← hdd] at hzv ⊢
  have hw : Aside0 (wrap64 (z - 1) = dd):=⟨by have:=D_small hs (i) (i) (k) (q + 1);rw [← hdd] at this;rw [wid (by omega) (by omega)];omega⟩
  have k1 : ¬ ((q + 1 : Nat) : Int) ≤ (k : Int):=by omega
  have k2 : (k : Int) < ((q + 1 : Nat) : Int):=by omega
  have k1c:=k1
  have k2c:=k2
  push_cast at k1c k2c
  clear hdd hzv hat
  have g1c:=g1
  have g3c:=g3
  push_cast at g1c g3c
  have fn:=congrArg (Value.int .i64) fn.out
  have fw:=congrArg (Value.int .i64) fw.out
  have fa1:=congrArg (Value.int .i64) fa1.out
  have fa2:=congrArg (Value.int .i64) fa2.out
  have fa3:=congrArg (Value.int .i64) fa3.out
  have fa4:=congrArg (Value.int .i64) fa4.out
  have fa5:=congrArg (Value.int .i64) fa5.out
  have fa6:=congrArg (Value.int .i64) fa6.out
  have fa2c:=fa2
  have fa6c:=fa6
  push_cast at fa2c fa6c
  have hw:=congrArg (Value.int .i64) hw.out
  have HST:=Aside0.mk HST0
  obtain ⟨c0,c1,c2,c3,c4,c5,c6,c7,sm,sk,so⟩:=HST0
  clear hblk hg mem kn sm sk so
  go_enter Try.func53,Try.ntmps53
  go_wp2
  go_ret
  exact ⟨rfl,HST.out.so,HST.out.sk⟩
set_option maxHeartbeats 8000000 in
set_option maxRecDepth 100000 in
theorem dist_a {M : Ted.Ms} {A B : Nat} {X Y : Nat → Nat} {N : Nat} (hs : Small M) (hA : A ≤ 24) (hB : B ≤ 24) (IH : ∀ N',N' < N → DistAt M A B X Y N') {i k p : Nat} (hN : p + 1 - i = N) (hk : k ≤ B) (hi : i ≤ p) (hp : p + 1 ≤ A) (W : World) (b g : Nat) (mem : Mem M A B X Y W b g) (kn : Kn M A B W b) :
  Calls Try.prog 53 #[.pointer (some ⟨g,0,none⟩),.int .i64 ((i : Nat) : Int),.int .i64 ((p + 1 : Nat) : Int),.int .i64 ((k : Nat) : Int),.int .i64 ((k : Nat) : Int)] W fun e w' => e = .returned (.int .i64 (Ted.D M i (p + 1) k k)) ∧ Only b W w' ∧ Kn M A B w' b:=by
 obtain ⟨v0,v1,v2,v3,v5,v6,v7,hblk,hg,m0,m1,m2,m3,d,n,r,m5,m6,m7,hX,hY,hR⟩:=mem.is
 obtain ⟨ad0,cp0,rfl,hcp0,nb0,r0⟩:=m0.is
 obtain ⟨ad1,cp1,rfl,hcp1,nb1,r1⟩:=m1.is
 have NB0:=Aside0.mk nb0
 have NB1:=Aside0.mk nb1
 have HST0:=DS.start mem kn hblk
 clear m0 m1 nb0 nb1
 obtain ⟨z,hz,hzv⟩:=kn.cell (i:=i) (j:=p + 1) (k:=k) (m:=k) (by omega) (by omega) (by omega) (by omega)
 obtain ⟨at_,a1,a2,a3,a4,a5,hat,hat0,hat1,fn,fw,g1,g2,fa1,fa2,fa3,g3,g4,fa4,fa5,fa6⟩:=at_facts (A:=A) (B:=B) (i:=i) (j:=p + 1) (k:=k) (m:=k) (by omega) (by omega) (by omega) (by omega) (by omega) (by omega)
 rw [← hat] at hz
 have hz' : W.cell? ((⟨b,0,none⟩ : Addr).add at_) = some (.int .i64 z):=by rw [add_plain];exact hz
 rcases hzv with rfl | hzv
 ·have HST0:=HST0
  obtain ⟨hx6,hxd⟩:=hX p (by omega)
  have x0:=Aside0.mk (r0 p (by omega))
  obtain ⟨ad5,cp5,rfl,hcp5,nb5,r5⟩:=m5.is
  have x5:=Aside0.mk (r5 (X p) hx6)
  have NB5:=Aside0.mk nb5
  clear m5 r5 nb5
  rw [← hxd] at x5
  clear hxd
  obtain ⟨dd,hdd⟩ : ∃ dd,dd = Ted.D M (i) (p + 1) (k) (k):=⟨_,rfl⟩
  have HS1 : Aside0 (wrap64 (Ted.D M i p k k + M.del p) = dd):=⟨by
   rw [hdd,Ted.D_a M (show i < p + 1 by omega) (Nat.lt_irrefl k),Nat.add_sub_cancel]
   have h1:=D_small hs i p k k
   have h2:=hs.del p
   exact wid (by omega) (by omega)⟩
  have HD1 : Aside0 (wrap64 (dd + 1) = Ted.D M (i) (p + 1) (k) (k) + 1):=⟨by have h1:=D_small hs (i) (p + 1) (k) (k);rw [← hdd] at h1 ⊢;exact wid (by omega) (by omega)⟩
  rw [← hdd]
  clear hdd
  have p0 : (0 ≤ (X p : Int)) = True:=eq_true (by omega)
  have q0 : ((X p : Int) < ((6 : Nat) : Int)) = True:=eq_true (by omega)
  have q0' : ((X p : Int) < (6 : Int)) = True:=eq_true (by omega)
  have p4 : (0 ≤ (p : Int)) = True:=eq_true (by omega)
  have q4 : ((p : Int) < (A : Int)) = True:=eq_true (by omega)
  have k1 : ¬ ((p + 1 : Nat) : Int) ≤ (i : Int):=by omega
  have k2 : (i : Int) < ((p + 1 : Nat) : Int):=by omega
  have k1c:=k1
  have k2c:=k2
  push_cast at k1c k2c
  have HAp:=Aside0.mk (num_sub (p:=p) (by omega))
  have HBp:=Aside0.mk (num_id (p:=p) (by omega))
  replace hat:=Aside0.mk hat
  have g1c:=g1
  have g3c:=g3
  push_cast at g1c g3c
  have fn:=congrArg (Value.int .i64) fn.out
  have fw:=congrArg (Value.int .i64) fw.out
  have fa1:=congrArg (Value.int .i64) fa1.out
  have fa2:=congrArg (Value.int .i64) fa2.out
  have fa3:=congrArg (Value.int .i64) fa3.out
  have fa4:=congrArg (Value.int .i64) fa4.out
  have fa5:=congrArg (Value.int .i64) fa5.out
  have fa6:=congrArg (Value.int .i64) fa6.out
  have fa2c:=fa2
  have fa6c:=fa6
  push_cast at fa2c fa6c
  have HST:=Aside0.mk HST0
  have IH:=Aside0.mk IH
  obtain ⟨c0,c1,c2,c3,c4,c5,c6,c7,sm,sk,so⟩:=HST0
  clear hblk hg mem kn sm sk so
  go_enter Try.func53,Try.ntmps53
  go_wp2
  clear fn fw fa1 fa2 fa3 fa4 fa5 fa6 fa2c fa6c
  refine start_ (n:=24) (S:=fun w' => DS M A B X Y W b g (.slice (some ad0) A cp0) (.slice (some ad1) B cp1) v2 v3 (.slice (some ad5) 6 cp5) v6 v7 w' ∧ w'.cell? (ad0.add p) = some (.int .i64 ((X p : Nat) : Int)) ∧ w'.cell? (ad5.add (X p)) = some (.int .i64 (M.del p))) (ds:=[]) (ba_ 24 0) (by kernel_rfl) rfl rfl ⟨HST.out.drew,x0.out,x5.out⟩ (fun hHeld => ?_)
  refine with_tabW l9DistR.tab10 l9DistR.bits10 (fun HT_ HW_ => ?_)
  refine pure_ (i:=0) (N:=some 72) (v:=?_) (a':=?_) (ba_ 24 1) rfl rfl (any_of HT_.out (by kernel_rfl)) (fun _ _ _ h => h) (Or.inl ⟨by rfl,?_⟩) ?_ ?_
  rotate_left
  ·intro w'
   go_simp
   with_reducible rfl
  rotate_left
  ·simp only [Act.put,List.setIfInBounds_toArray,List.set_cons_zero,List.set_cons_succ,i64_w,i32_w,HAp.out,HBp.out,HS1.out]
   rfl
  refine pure_ (i:=1) (N:=some 73) (v:=?_) (a':=?_) (ba_ 24 3) rfl rfl (any_of HT_.out (by kernel_rfl)) (fun _ _ _ h => h) (Or.inl ⟨by rfl,?_⟩) ?_ ?_
  rotate_left
  ·intro w'
   go_simp
   with_reducible rfl
  rotate_left
  ·simp only [Act.put,List.setIfInBounds_toArray,List.set_cons_zero,List.set_cons_succ,i64_w,i32_w,HAp.out,HBp.out,HS1.out]
   rfl
  refine pure_ (i:=2) (N:=some 74) (v:=?_) (a':=?_) (ba_ 24 7) rfl rfl (any_of HT_.out (by kernel_rfl)) (fun _ _ _ h => h) (Or.inl ⟨by rfl,?_⟩) ?_ ?_
  rotate_left
  ·intro w'
   go_simp
   with_reducible rfl
  rotate_left
  ·simp only [Act.put,List.setIfInBounds_toArray,List.set_cons_zero,List.set_cons_succ,i64_w,i32_w,HAp.out,HBp.out,HS1.out]
   rfl
  refine pure_ (i:=3) (N:=some 75) (v:=?_) (a':=?_) (ba_ 24 15) rfl rfl (any_of HT_.out (by kernel_rfl)) (fun _ _ _ h => h) (Or.inl ⟨by rfl,?_⟩) ?_ ?_
  rotate_left
  ·intro w'
   go_simp
   with_reducible rfl
  rotate_left
  ·simp only [Act.put,List.setIfInBounds_toArray,List.set_cons_zero,List.set_cons_succ,i64_w,i32_w,HAp.out,HBp.out,HS1.out]
   rfl
  refine pure_ (i:=4) (N:=some 76) (v:=?_) (a':=?_) (ba_ 24 31) rfl rfl (any_of HT_.out (by kernel_rfl)) (fun _ _ _ h => h) (Or.inl ⟨by rfl,?_⟩) ?_ ?_
  rotate_left
  ·intro w'
   go_simp
   with_reducible rfl
  rotate_left
  ·simp only [Act.put,List.setIfInBounds_toArray,List.set_cons_zero,List.set_cons_succ,i64_w,i32_w,HAp.out,HBp.out,HS1.out]
   rfl
  refine pure_ (i:=5) (N:=some 77) (v:=?_) (a':=?_) (ba_ 24 63) rfl rfl (any_of HT_.out (by kernel_rfl)) (fun _ _ _ h => h) (Or.inl ⟨by rfl,?_⟩) ?_ ?_
  rotate_left
  ·intro w'
   go_simp
   with_reducible rfl
  rotate_left
  ·simp only [Act.put,List.setIfInBounds_toArray,List.set_cons_zero,List.set_cons_succ,i64_w,i32_w,HAp.out,HBp.out,HS1.out]
   rfl
  refine pure_ (i:=7) (N:=some 79) (v:=?_) (a':=?_) (ba_ 24 191) rfl rfl (any_of HT_.out (by kernel_rfl)) (fun _ _ _ h => h) (Or.inl ⟨by rfl,?_⟩) ?_ ?_
  rotate_left
  ·intro w'
   go_simp
   with_reducible rfl
  rotate_left
  ·simp only [Act.put,List.setIfInBounds_toArray,List.set_cons_zero,List.set_cons_succ,i64_w,i32_w,HAp.out,HBp.out,HS1.out]
   rfl
  refine pure_ (i:=8) (N:=some 80) (v:=?_) (a':=?_) (ba_ 24 447) rfl rfl (any_of HT_.out (by kernel_rfl)) (fun _ _ _ h => h) (Or.inl ⟨by rfl,?_⟩) ?_ ?_
  rotate_left
  ·intro w'
   go_simp
   with_reducible rfl
  rotate_left
  ·simp only [Act.put,List.setIfInBounds_toArray,List.set_cons_zero,List.set_cons_succ,i64_w,i32_w,HAp.out,HBp.out,HS1.out]
   rfl
  refine pure_ (i:=9) (N:=some 81) (v:=?_) (a':=?_) (ba_ 24 959) rfl rfl (any_of HT_.out (by kernel_rfl)) (fun _ _ _ h => h) (Or.inl ⟨by rfl,?_⟩) ?_ ?_
  rotate_left
  ·intro w'
   go_simp
   with_reducible rfl
  rotate_left
  ·simp only [Act.put,List.setIfInBounds_toArray,List.set_cons_zero,List.set_cons_succ,i64_w,i32_w,HAp.out,HBp.out,HS1.out]
   rfl
  refine pure_ (i:=10) (N:=some 82) (v:=?_) (a':=?_) (ba_ 24 1983) rfl rfl (any_of HT_.out (by kernel_rfl)) (fun _ _ _ h => h) (Or.inl ⟨by rfl,?_⟩) ?_ ?_
  rotate_left
  ·intro w'
   go_simp
   with_reducible rfl
  rotate_left
  ·simp only [Act.put,List.setIfInBounds_toArray,List.set_cons_zero,List.set_cons_succ,i64_w,i32_w,HAp.out,HBp.out,HS1.out]
   rfl
  refine pure_ (i:=12) (N:=some 84) (v:=?_) (a':=?_) (ba_ 24 6079) rfl rfl (any_of HT_.out (by kernel_rfl)) (fun _ _ _ h => h) (Or.inl ⟨by rfl,?_⟩) ?_ ?_
  rotate_left
  ·intro w'
   go_simp
   with_reducible rfl
  rotate_left
  ·simp only [Act.put,List.setIfInBounds_toArray,List.set_cons_zero,List.set_cons_succ,i64_w,i32_w,HAp.out,HBp.out,HS1.out]
   rfl
  refine pure_ (i:=13) (N:=some 85) (v:=?_) (a':=?_) (ba_ 24 14271) rfl rfl (any_of HT_.out (by kernel_rfl)) (fun _ _ _ h => h) (Or.inl ⟨by rfl,?_⟩) ?_ ?_
  rotate_left
  ·intro w'
   go_simp
   with_reducible rfl
  rotate_left
  ·simp only [Act.put,List.setIfInBounds_toArray,List.set_cons_zero,List.set_cons_succ,i64_w,i32_w,HAp.out,HBp.out,HS1.out]
   rfl
  refine pure_ (i:=14) (N:=some 86) (v:=?_) (a':=?_) (ba_ 24 30655) rfl rfl (any_of HT_.out (by kernel_rfl)) (fun _ _ _ h => h) (Or.inl ⟨by rfl,?_⟩) ?_ ?_
  rotate_left
  ·intro w'
   go_simp
   with_reducible rfl
  rotate_left
  ·simp only [Act.put,List.setIfInBounds_toArray,List.set_cons_zero,List.set_cons_succ,i64_w,i32_w,HAp.out,HBp.out,HS1.out]
   rfl
  refine pure_ (i:=16) (N:=some 88) (v:=?_) (a':=?_) (ba_ 24 96191) rfl rfl (any_of HT_.out (by kernel_rfl)) (fun _ _ _ h => h) (Or.inl ⟨by rfl,?_⟩) ?_ ?_
  rotate_left
  ·intro w'
   go_simp
   with_reducible rfl
  rotate_left
  ·simp only [Act.put,List.setIfInBounds_toArray,List.set_cons_zero,List.set_cons_succ,i64_w,i32_w,HAp.out,HBp.out,HS1.out]
   rfl
  refine pure_ (i:=17) (N:=some 89) (v:=?_) (a':=?_) (ba_ 24 227263) rfl rfl (any_of HT_.out (by kernel_rfl)) (fun _ _ _ h => h) (Or.inl ⟨by rfl,?_⟩) ?_ ?_
  rotate_left
  ·intro w'
   go_simp
   with_reducible rfl
  rotate_left
  ·simp only [Act.put,List.setIfInBounds_toArray,List.set_cons_zero,List.set_cons_succ,i64_w,i32_w,HAp.out,HBp.out,HS1.out]
   rfl
  refine take_ (i:=11) (N:=some 83) (v:=?_) (a':=?_) (ba_ 24 229311) rfl rfl (take_ofW HT_.out HW_.out (by kernel_rfl)) (fun _ _ _ h => h) (Or.inl ⟨by rfl,?_⟩) hHeld ?_ ?_
  rotate_left
  ·rintro w' ⟨⟨-,-,-,-,-,c5,-,-,-,-,-⟩,-,-⟩
   go_simp
   with_reducible rfl
  rotate_left
  ·simp only [Act.put,List.setIfInBounds_toArray,List.set_cons_zero,List.set_cons_succ,i64_w,i32_w,HAp.out,HBp.out,HS1.out]
   rfl
  refine take_ (i:=15) (N:=some 87) (v:=?_) (a':=?_) (ba_ 24 262079) rfl rfl (take_ofW HT_.out HW_.out (by kernel_rfl)) (fun _ _ _ h => h) (Or.inl ⟨by rfl,?_⟩) hHeld ?_ ?_
  rotate_left
  ·rintro w' ⟨⟨c0,-,-,-,-,-,-,-,-,-,-⟩,-,-⟩
   go_simp
   with_reducible rfl
  rotate_left
  ·simp only [Act.put,List.setIfInBounds_toArray,List.set_cons_zero,List.set_cons_succ,i64_w,i32_w,HAp.out,HBp.out,HS1.out]
   rfl
  refine pure_ (i:=18) (N:=some 90) (v:=?_) (a':=?_) (ba_ 24 524223) rfl rfl (any_of HT_.out (by kernel_rfl)) (fun _ _ _ h => h) (Or.inl ⟨by rfl,?_⟩) ?_ ?_
  rotate_left
  ·intro w'
   go_simp
   with_reducible rfl
  rotate_left
  ·simp only [Act.put,List.setIfInBounds_toArray,List.set_cons_zero,List.set_cons_succ,i64_w,i32_w,HAp.out,HBp.out,HS1.out]
   rfl
  refine take_ (i:=19) (N:=some 91) (v:=?_) (a':=?_) (ba_ 24 1048511) rfl rfl (take_ofW HT_.out HW_.out (by kernel_rfl)) (fun _ _ _ h => h) (Or.inl ⟨by rfl,?_⟩) hHeld ?_ ?_
  rotate_left
  ·rintro w' ⟨⟨-,-,-,-,-,-,-,-,-,-,-⟩,s0,s1⟩
   go_simp
   with_reducible rfl
  rotate_left
  ·simp only [Act.put,List.setIfInBounds_toArray,List.set_cons_zero,List.set_cons_succ,i64_w,i32_w,HAp.out,HBp.out,HS1.out]
   rfl
  refine pure_ (i:=20) (N:=some 92) (v:=?_) (a':=?_) (ba_ 24 2097087) rfl rfl (any_of HT_.out (by kernel_rfl)) (fun _ _ _ h => h) (Or.inl ⟨by rfl,?_⟩) ?_ ?_
  rotate_left
  ·intro w'
   go_simp
   with_reducible rfl
  rotate_left
  ·simp only [Act.put,List.setIfInBounds_toArray,List.set_cons_zero,List.set_cons_succ,i64_w,i32_w,HAp.out,HBp.out,HS1.out]
   rfl
  refine take_ (i:=21) (N:=some 93) (v:=?_) (a':=?_) (ba_ 24 4194239) rfl rfl (take_ofW HT_.out HW_.out (by kernel_rfl)) (fun _ _ _ h => h) (Or.inl ⟨by rfl,?_⟩) hHeld ?_ ?_
  rotate_left
  ·rintro w' ⟨⟨-,-,-,-,-,-,-,-,-,-,-⟩,s0,s1⟩
   go_simp
   with_reducible rfl
  rotate_left
  ·simp only [Act.put,List.setIfInBounds_toArray,List.set_cons_zero,List.set_cons_succ,i64_w,i32_w,HAp.out,HBp.out,HS1.out]
   rfl
  refine one_ (i:=6) (N:=some 78) (ba_ 24 4194303) rfl rfl (one_of HT_.out (by kernel_rfl)) (by decide) (fun K hK => ?_)
  refine goes_ Try.func53 (by kernel_rfl) rfl #[.pointer (some ⟨g,0,none⟩),.int .i64 ((i : Nat) : Int),.int .i64 ((p : Nat) : Int),.int .i64 ((k : Nat) : Int),.int .i64 ((k : Nat) : Int)] (by rfl) rfl rfl (by simp only [List.map_toArray,List.map_cons,List.map_nil];rfl) ?_
  refine (DS.goes IH.out hHeld.1 (i':=i) (j':=p) (k':=k) (m':=k) (by omega) (by omega) (by omega) (by omega) (by omega)).mono ?_
  rintro e w' ⟨rfl,hfs,hol⟩
  refine ⟨_,rfl,?_⟩
  obtain ⟨_,e0,e1⟩:=hHeld
  refine hK.out _ _ ⟨hfs,hol.cell (by rw [add_block];exact NB0.out) e0,hol.cell (by rw [add_block];exact NB5.out) e1⟩ (fun hHeld => ?_)
  clear hK K
  refine norm_ (a':=?_) ?_ ?_
  rotate_left
  ·show Act.put _ (some 78) _ = _
   simp only [Act.put,List.setIfInBounds_toArray,List.set_cons_zero,List.set_cons_succ,i64_w,i32_w,HAp.out,HBp.out,HS1.out]
   rfl
  refine pure_ (i:=22) (N:=some 94) (v:=?_) (a':=?_) (ba_ 24 8388607) rfl rfl (any_of HT_.out (by kernel_rfl)) (fun _ _ _ h => h) (Or.inl ⟨by rfl,?_⟩) ?_ ?_
  rotate_left
  ·intro w'
   go_simp
   with_reducible rfl
  rotate_left
  ·simp only [Act.put,List.setIfInBounds_toArray,List.set_cons_zero,List.set_cons_succ,i64_w,i32_w,HAp.out,HBp.out,HS1.out]
   rfl
  refine pure_ (i:=23) (N:=some 14) (v:=?_) (a':=?_) (ba_ 24 16777215) rfl rfl (any_of HT_.out (by kernel_rfl)) (fun _ _ _ h => h) (Or.inl ⟨by rfl,?_⟩) ?_ ?_
  rotate_left
  ·intro w'
   go_simp
   with_reducible rfl
  rotate_left
  ·simp only [Act.put,List.setIfInBounds_toArray,List.set_cons_zero,List.set_cons_succ,i64_w,i32_w,HAp.out,HBp.out,HS1.out]
   rfl
  refine done_ (done_of HT_.out (by kernel_rfl)) ?_
  obtain ⟨z9,hz9,_⟩:=hHeld.1.sk.cell (i:=i) (j:=p + 1) (k:=k) (m:=k) (by omega) (by omega) (by omega) (by omega)
  rw [← hat.out] at hz9
  have hz8:=hHeld.1.sk.frozen at_
  have c4:=hHeld.1.c4
  go_wp2
  go_ret
  exact ⟨rfl,hHeld.1.so.setCell _ _,hHeld.1.sk.put' (by omega) (by omega) (by omega) (by omega) hat.out HD1.out⟩
 ·have hpos : (0 : Int) < z:=by have:=D_small hs (i) (p + 1) (k) (k);omega
  obtain ⟨dd,hdd⟩ : ∃ dd,dd = Ted.D M (i) (p + 1) (k) (k):=⟨_,rfl⟩
  rw [← hdd] at hzv ⊢
  have hw : Aside0 (wrap64 (z - 1) = dd):=⟨by have:=D_small hs (i) (p + 1) (k) (k);rw [← hdd] at this;rw [wid (by omega) (by omega)];omega⟩
  have k1 : ¬ ((p + 1 : Nat) : Int) ≤ (i : Int):=by omega
  have k2 : (i : Int) < ((p + 1 : Nat) : Int):=by omega
  have k1c:=k1
  have k2c:=k2
  push_cast at k1c k2c
  clear hdd hzv hat
  have g1c:=g1
  have g3c:=g3
  push_cast at g1c g3c
  have fn:=congrArg (Value.int .i64) fn.out
  have fw:=congrArg (Value.int .i64) fw.out
  have fa1:=congrArg (Value.int .i64) fa1.out
  have fa2:=congrArg (Value.int .i64) fa2.out
  have fa3:=congrArg (Value.int .i64) fa3.out
  have fa4:=congrArg (Value.int .i64) fa4.out
  have fa5:=congrArg (Value.int .i64) fa5.out
  have fa6:=congrArg (Value.int .i64) fa6.out
  have fa2c:=fa2
  have fa6c:=fa6
  push_cast at fa2c fa6c
  have hw:=congrArg (Value.int .i64) hw.out
  have HST:=Aside0.mk HST0
  obtain ⟨c0,c1,c2,c3,c4,c5,c6,c7,sm,sk,so⟩:=HST0
  clear hblk hg mem kn sm sk so
  go_enter Try.func53,Try.ntmps53
  go_wp2
  go_ret
  exact ⟨rfl,HST.out.so,HST.out.sk⟩
set_option maxHeartbeats 8000000 in
set_option maxRecDepth 100000 in
theorem dist_ab {M : Ted.Ms} {A B : Nat} {X Y : Nat → Nat} {N : Nat} (hs : Small M) (hA : A ≤ 24) (hB : B ≤ 24) (IH : ∀ N',N' < N → DistAt M A B X Y N') {i k p q : Nat} (hN : (p + 1 - i) + (q + 1 - k) = N) (hi : i ≤ p) (hp : p + 1 ≤ A) (hk : k ≤ q) (hq : q + 1 ≤ B) (hla : M.la p ≤ p) (hlb : M.lb q ≤ q) (W : World) (b g : Nat) (mem : Mem M A B X Y W b g) (kn : Kn M A B W b) :
  Calls Try.prog 53 #[.pointer (some ⟨g,0,none⟩),.int .i64 ((i : Nat) : Int),.int .i64 ((p + 1 : Nat) : Int),.int .i64 ((k : Nat) : Int),.int .i64 ((q + 1 : Nat) : Int)] W fun e w' => e = .returned (.int .i64 (Ted.D M i (p + 1) k (q + 1))) ∧ Only b W w' ∧ Kn M A B w' b:=by
 obtain ⟨v0,v1,v2,v3,v5,v6,v7,hblk,hg,m0,m1,m2,m3,d,n,r,m5,m6,m7,hX,hY,hR⟩:=mem.is
 obtain ⟨ad0,cp0,rfl,hcp0,nb0,r0⟩:=m0.is
 obtain ⟨ad1,cp1,rfl,hcp1,nb1,r1⟩:=m1.is
 have NB0:=Aside0.mk nb0
 have NB1:=Aside0.mk nb1
 have HST0:=DS.start mem kn hblk
 clear m0 m1 nb0 nb1
 obtain ⟨z,hz,hzv⟩:=kn.cell (i:=i) (j:=p + 1) (k:=k) (m:=q + 1) (by omega) (by omega) (by omega) (by omega)
 obtain ⟨at_,a1,a2,a3,a4,a5,hat,hat0,hat1,fn,fw,g1,g2,fa1,fa2,fa3,g3,g4,fa4,fa5,fa6⟩:=at_facts (A:=A) (B:=B) (i:=i) (j:=p + 1) (k:=k) (m:=q + 1) (by omega) (by omega) (by omega) (by omega) (by omega) (by omega)
 rw [← hat] at hz
 have hz' : W.cell? ((⟨b,0,none⟩ : Addr).add at_) = some (.int .i64 z):=by rw [add_plain];exact hz
 rcases hzv with rfl | hzv
 ·have HST0:=HST0
  obtain ⟨hx6,hxd⟩:=hX p (by omega)
  have x0:=Aside0.mk (r0 p (by omega))
  obtain ⟨ad5,cp5,rfl,hcp5,nb5,r5⟩:=m5.is
  have x5:=Aside0.mk (r5 (X p) hx6)
  have NB5:=Aside0.mk nb5
  clear m5 r5 nb5
  rw [← hxd] at x5
  clear hxd
  obtain ⟨hy6,hyd⟩:=hY q (by omega)
  have x1:=Aside0.mk (r1 q (by omega))
  obtain ⟨ad6,cp6,rfl,hcp6,nb6,r6⟩:=m6.is
  have x6:=Aside0.mk (r6 (Y q) hy6)
  have NB6:=Aside0.mk nb6
  clear m6 r6 nb6
  rw [← hyd] at x6
  clear hyd
  obtain ⟨z1,z2,zz,dd,HS1,HS2,HZZ,hdd,HD1,HMIN⟩:=dist_facts hs hi hk (by omega) (by omega) hla hlb
  rw [← hdd.out]
  have p0 : (0 ≤ (X p : Int)) = True:=eq_true (by omega)
  have q0 : ((X p : Int) < ((6 : Nat) : Int)) = True:=eq_true (by omega)
  have q0' : ((X p : Int) < (6 : Int)) = True:=eq_true (by omega)
  have p4 : (0 ≤ (p : Int)) = True:=eq_true (by omega)
  have q4 : ((p : Int) < (A : Int)) = True:=eq_true (by omega)
  have p1 : (0 ≤ (Y q : Int)) = True:=eq_true (by omega)
  have q1 : ((Y q : Int) < ((6 : Nat) : Int)) = True:=eq_true (by omega)
  have q1' : ((Y q : Int) < (6 : Int)) = True:=eq_true (by omega)
  have p5 : (0 ≤ (q : Int)) = True:=eq_true (by omega)
  have q5 : ((q : Int) < (B : Int)) = True:=eq_true (by omega)
  have k1 : ¬ ((p + 1 : Nat) : Int) ≤ (i : Int):=by omega
  have k2 : (i : Int) < ((p + 1 : Nat) : Int):=by omega
  have k3 : ¬ ((q + 1 : Nat) : Int) ≤ (k : Int):=by omega
  have k4 : (k : Int) < ((q + 1 : Nat) : Int):=by omega
  have k1c:=k1
  have k2c:=k2
  have k3c:=k3
  have k4c:=k4
  push_cast at k1c k2c k3c k4c
  have HAp:=Aside0.mk (num_sub (p:=p) (by omega))
  have HBp:=Aside0.mk (num_id (p:=p) (by omega))
  have HAq:=Aside0.mk (num_sub (p:=q) (by omega))
  have HBq:=Aside0.mk (num_id (p:=q) (by omega))
  replace hat:=Aside0.mk hat
  have g1c:=g1
  have g3c:=g3
  push_cast at g1c g3c
  have fn:=congrArg (Value.int .i64) fn.out
  have fw:=congrArg (Value.int .i64) fw.out
  have fa1:=congrArg (Value.int .i64) fa1.out
  have fa2:=congrArg (Value.int .i64) fa2.out
  have fa3:=congrArg (Value.int .i64) fa3.out
  have fa4:=congrArg (Value.int .i64) fa4.out
  have fa5:=congrArg (Value.int .i64) fa5.out
  have fa6:=congrArg (Value.int .i64) fa6.out
  have fa2c:=fa2
  have fa6c:=fa6
  push_cast at fa2c fa6c
  have HST:=Aside0.mk HST0
  have IH:=Aside0.mk IH
  obtain ⟨c0,c1,c2,c3,c4,c5,c6,c7,sm,sk,so⟩:=HST0
  clear hblk hg mem kn sm sk so
  go_enter Try.func53,Try.ntmps53
  go_wp2
  clear fn fw fa1 fa2 fa3 fa4 fa5 fa6 fa2c fa6c
  refine start_ (n:=24) (S:=fun w' => DS M A B X Y W b g (.slice (some ad0) A cp0) (.slice (some ad1) B cp1) v2 v3 (.slice (some ad5) 6 cp5) (.slice (some ad6) 6 cp6) v7 w' ∧ w'.cell? (ad0.add p) = some (.int .i64 ((X p : Nat) : Int)) ∧ w'.cell? (ad5.add (X p)) = some (.int .i64 (M.del p)) ∧ w'.cell? (ad1.add q) = some (.int .i64 ((Y q : Nat) : Int)) ∧ w'.cell? (ad6.add (Y q)) = some (.int .i64 (M.ins q))) (ds:=[]) (ba_ 24 0) (by kernel_rfl) rfl rfl ⟨HST.out.drew,x0.out,x5.out,x1.out,x6.out⟩ (fun hHeld => ?_)
  refine with_tabW l9DistR.tab10 l9DistR.bits10 (fun HT_ HW_ => ?_)
  refine pure_ (i:=0) (N:=some 72) (v:=?_) (a':=?_) (ba_ 24 1) rfl rfl (any_of HT_.out (by kernel_rfl)) (fun _ _ _ h => h) (Or.inl ⟨by rfl,?_⟩) ?_ ?_
  rotate_left
  ·intro w'
   go_simp
   with_reducible rfl
  rotate_left
  ·simp only [Act.put,List.setIfInBounds_toArray,List.set_cons_zero,List.set_cons_succ,i64_w,i32_w,HAp.out,HBp.out,HS1.out]
   rfl
  refine pure_ (i:=1) (N:=some 73) (v:=?_) (a':=?_) (ba_ 24 3) rfl rfl (any_of HT_.out (by kernel_rfl)) (fun _ _ _ h => h) (Or.inl ⟨by rfl,?_⟩) ?_ ?_
  rotate_left
  ·intro w'
   go_simp
   with_reducible rfl
  rotate_left
  ·simp only [Act.put,List.setIfInBounds_toArray,List.set_cons_zero,List.set_cons_succ,i64_w,i32_w,HAp.out,HBp.out,HS1.out]
   rfl
  refine pure_ (i:=2) (N:=some 74) (v:=?_) (a':=?_) (ba_ 24 7) rfl rfl (any_of HT_.out (by kernel_rfl)) (fun _ _ _ h => h) (Or.inl ⟨by rfl,?_⟩) ?_ ?_
  rotate_left
  ·intro w'
   go_simp
   with_reducible rfl
  rotate_left
  ·simp only [Act.put,List.setIfInBounds_toArray,List.set_cons_zero,List.set_cons_succ,i64_w,i32_w,HAp.out,HBp.out,HS1.out]
   rfl
  refine pure_ (i:=3) (N:=some 75) (v:=?_) (a':=?_) (ba_ 24 15) rfl rfl (any_of HT_.out (by kernel_rfl)) (fun _ _ _ h => h) (Or.inl ⟨by rfl,?_⟩) ?_ ?_
  rotate_left
  ·intro w'
   go_simp
   with_reducible rfl
  rotate_left
  ·simp only [Act.put,List.setIfInBounds_toArray,List.set_cons_zero,List.set_cons_succ,i64_w,i32_w,HAp.out,HBp.out,HS1.out]
   rfl
  refine pure_ (i:=4) (N:=some 76) (v:=?_) (a':=?_) (ba_ 24 31) rfl rfl (any_of HT_.out (by kernel_rfl)) (fun _ _ _ h => h) (Or.inl ⟨by rfl,?_⟩) ?_ ?_
  rotate_left
  ·intro w'
   go_simp
   with_reducible rfl
  rotate_left
  ·simp only [Act.put,List.setIfInBounds_toArray,List.set_cons_zero,List.set_cons_succ,i64_w,i32_w,HAp.out,HBp.out,HS1.out]
   rfl
  refine pure_ (i:=5) (N:=some 77) (v:=?_) (a':=?_) (ba_ 24 63) rfl rfl (any_of HT_.out (by kernel_rfl)) (fun _ _ _ h => h) (Or.inl ⟨by rfl,?_⟩) ?_ ?_
  rotate_left
  ·intro w'
   go_simp
   with_reducible rfl
  rotate_left
  ·simp only [Act.put,List.setIfInBounds_toArray,List.set_cons_zero,List.set_cons_succ,i64_w,i32_w,HAp.out,HBp.out,HS1.out]
   rfl
  refine pure_ (i:=7) (N:=some 79) (v:=?_) (a':=?_) (ba_ 24 191) rfl rfl (any_of HT_.out (by kernel_rfl)) (fun _ _ _ h => h) (Or.inl ⟨by rfl,?_⟩) ?_ ?_
  rotate_left
  ·intro w'
   go_simp
   with_reducible rfl
  rotate_left
  ·simp only [Act.put,List.setIfInBounds_toArray,List.set_cons_zero,List.set_cons_succ,i64_w,i32_w,HAp.out,HBp.out,HS1.out]
   rfl
  refine pure_ (i:=8) (N:=some 80) (v:=?_) (a':=?_) (ba_ 24 447) rfl rfl (any_of HT_.out (by kernel_rfl)) (fun _ _ _ h => h) (Or.inl ⟨by rfl,?_⟩) ?_ ?_
  rotate_left
  ·intro w'
   go_simp
   with_reducible rfl
  rotate_left
  ·simp only [Act.put,List.setIfInBounds_toArray,List.set_cons_zero,List.set_cons_succ,i64_w,i32_w,HAp.out,HBp.out,HS1.out]
   rfl
  refine pure_ (i:=9) (N:=some 81) (v:=?_) (a':=?_) (ba_ 24 959) rfl rfl (any_of HT_.out (by kernel_rfl)) (fun _ _ _ h => h) (Or.inl ⟨by rfl,?_⟩) ?_ ?_
  rotate_left
  ·intro w'
   go_simp
   with_reducible rfl
  rotate_left
  ·simp only [Act.put,List.setIfInBounds_toArray,List.set_cons_zero,List.set_cons_succ,i64_w,i32_w,HAp.out,HBp.out,HS1.out]
   rfl
  refine pure_ (i:=10) (N:=some 82) (v:=?_) (a':=?_) (ba_ 24 1983) rfl rfl (any_of HT_.out (by kernel_rfl)) (fun _ _ _ h => h) (Or.inl ⟨by rfl,?_⟩) ?_ ?_
  rotate_left
  ·intro w'
   go_simp
   with_reducible rfl
  rotate_left
  ·simp only [Act.put,List.setIfInBounds_toArray,List.set_cons_zero,List.set_cons_succ,i64_w,i32_w,HAp.out,HBp.out,HS1.out]
   rfl
  refine pure_ (i:=12) (N:=some 84) (v:=?_) (a':=?_) (ba_ 24 6079) rfl rfl (any_of HT_.out (by kernel_rfl)) (fun _ _ _ h => h) (Or.inl ⟨by rfl,?_⟩) ?_ ?_
  rotate_left
  ·intro w'
   go_simp
   with_reducible rfl
  rotate_left
  ·simp only [Act.put,List.setIfInBounds_toArray,List.set_cons_zero,List.set_cons_succ,i64_w,i32_w,HAp.out,HBp.out,HS1.out]
   rfl
  refine pure_ (i:=13) (N:=some 85) (v:=?_) (a':=?_) (ba_ 24 14271) rfl rfl (any_of HT_.out (by kernel_rfl)) (fun _ _ _ h => h) (Or.inl ⟨by rfl,?_⟩) ?_ ?_
  rotate_left
  ·intro w'
   go_simp
   with_reducible rfl
  rotate_left
  ·simp only [Act.put,List.setIfInBounds_toArray,List.set_cons_zero,List.set_cons_succ,i64_w,i32_w,HAp.out,HBp.out,HS1.out]
   rfl
  refine pure_ (i:=14) (N:=some 86) (v:=?_) (a':=?_) (ba_ 24 30655) rfl rfl (any_of HT_.out (by kernel_rfl)) (fun _ _ _ h => h) (Or.inl ⟨by rfl,?_⟩) ?_ ?_
  rotate_left
  ·intro w'
   go_simp
   with_reducible rfl
  rotate_left
  ·simp only [Act.put,List.setIfInBounds_toArray,List.set_cons_zero,List.set_cons_succ,i64_w,i32_w,HAp.out,HBp.out,HS1.out]
   rfl
  refine pure_ (i:=16) (N:=some 88) (v:=?_) (a':=?_) (ba_ 24 96191) rfl rfl (any_of HT_.out (by kernel_rfl)) (fun _ _ _ h => h) (Or.inl ⟨by rfl,?_⟩) ?_ ?_
  rotate_left
  ·intro w'
   go_simp
   with_reducible rfl
  rotate_left
  ·simp only [Act.put,List.setIfInBounds_toArray,List.set_cons_zero,List.set_cons_succ,i64_w,i32_w,HAp.out,HBp.out,HS1.out]
   rfl
  refine pure_ (i:=17) (N:=some 89) (v:=?_) (a':=?_) (ba_ 24 227263) rfl rfl (any_of HT_.out (by kernel_rfl)) (fun _ _ _ h => h) (Or.inl ⟨by rfl,?_⟩) ?_ ?_
  rotate_left
  ·intro w'
   go_simp
   with_reducible rfl
  rotate_left
  ·simp only [Act.put,List.setIfInBounds_toArray,List.set_cons_zero,List.set_cons_succ,i64_w,i32_w,HAp.out,HBp.out,HS1.out]
   rfl
  refine take_ (i:=11) (N:=some 83) (v:=?_) (a':=?_) (ba_ 24 229311) rfl rfl (take_ofW HT_.out HW_.out (by kernel_rfl)) (fun _ _ _ h => h) (Or.inl ⟨by rfl,?_⟩) hHeld ?_ ?_
  rotate_left
  ·rintro w' ⟨⟨-,-,-,-,-,c5,-,-,-,-,-⟩,-,-,-,-⟩
   go_simp
   with_reducible rfl
  rotate_left
  ·simp only [Act.put,List.setIfInBounds_toArray,List.set_cons_zero,List.set_cons_succ,i64_w,i32_w,HAp.out,HBp.out,HS1.out]
   rfl
  refine take_ (i:=15) (N:=some 87) (v:=?_) (a':=?_) (ba_ 24 262079) rfl rfl (take_ofW HT_.out HW_.out (by kernel_rfl)) (fun _ _ _ h => h) (Or.inl ⟨by rfl,?_⟩) hHeld ?_ ?_
  rotate_left
  ·rintro w' ⟨⟨c0,-,-,-,-,-,-,-,-,-,-⟩,-,-,-,-⟩
   go_simp
   with_reducible rfl
  rotate_left
  ·simp only [Act.put,List.setIfInBounds_toArray,List.set_cons_zero,List.set_cons_succ,i64_w,i32_w,HAp.out,HBp.out,HS1.out]
   rfl
  refine pure_ (i:=18) (N:=some 90) (v:=?_) (a':=?_) (ba_ 24 524223) rfl rfl (any_of HT_.out (by kernel_rfl)) (fun _ _ _ h => h) (Or.inl ⟨by rfl,?_⟩) ?_ ?_
  rotate_left
  ·intro w'
   go_simp
   with_reducible rfl
  rotate_left
  ·simp only [Act.put,List.setIfInBounds_toArray,List.set_cons_zero,List.set_cons_succ,i64_w,i32_w,HAp.out,HBp.out,HS1.out]
   rfl
  refine take_ (i:=19) (N:=some 91) (v:=?_) (a':=?_) (ba_ 24 1048511) rfl rfl (take_ofW HT_.out HW_.out (by kernel_rfl)) (fun _ _ _ h => h) (Or.inl ⟨by rfl,?_⟩) hHeld ?_ ?_
  rotate_left
  ·rintro w' ⟨⟨-,-,-,-,-,-,-,-,-,-,-⟩,s0,s1,s2,s3⟩
   go_simp
   with_reducible rfl
  rotate_left
  ·simp only [Act.put,List.setIfInBounds_toArray,List.set_cons_zero,List.set_cons_succ,i64_w,i32_w,HAp.out,HBp.out,HS1.out]
   rfl
  refine pure_ (i:=20) (N:=some 92) (v:=?_) (a':=?_) (ba_ 24 2097087) rfl rfl (any_of HT_.out (by kernel_rfl)) (fun _ _ _ h => h) (Or.inl ⟨by rfl,?_⟩) ?_ ?_
  rotate_left
  ·intro w'
   go_simp
   with_reducible rfl
  rotate_left
  ·simp only [Act.put,List.setIfInBounds_toArray,List.set_cons_zero,List.set_cons_succ,i64_w,i32_w,HAp.out,HBp.out,HS1.out]
   rfl
  refine take_ (i:=21) (N:=some 93) (v:=?_) (a':=?_) (ba_ 24 4194239) rfl rfl (take_ofW HT_.out HW_.out (by kernel_rfl)) (fun _ _ _ h => h) (Or.inl ⟨by rfl,?_⟩) hHeld ?_ ?_
  rotate_left
  ·rintro w' ⟨⟨-,-,-,-,-,-,-,-,-,-,-⟩,s0,s1,s2,s3⟩
   go_simp
   with_reducible rfl
  rotate_left
  ·simp only [Act.put,List.setIfInBounds_toArray,List.set_cons_zero,List.set_cons_succ,i64_w,i32_w,HAp.out,HBp.out,HS1.out]
   rfl
  refine one_ (i:=6) (N:=some 78) (ba_ 24 4194303) rfl rfl (one_of HT_.out (by kernel_rfl)) (by decide) (fun K hK => ?_)
  refine goes_ Try.func53 (by kernel_rfl) rfl #[.pointer (some ⟨g,0,none⟩),.int .i64 ((i : Nat) : Int),.int .i64 ((p : Nat) : Int),.int .i64 ((k : Nat) : Int),.int .i64 ((q + 1 : Nat) : Int)] (by rfl) rfl rfl (by simp only [List.map_toArray,List.map_cons,List.map_nil];rfl) ?_
  refine (DS.goes IH.out hHeld.1 (i':=i) (j':=p) (k':=k) (m':=q + 1) (by omega) (by omega) (by omega) (by omega) (by omega)).mono ?_
  rintro e w' ⟨rfl,hfs,hol⟩
  refine ⟨_,rfl,?_⟩
  obtain ⟨_,e0,e1,e2,e3⟩:=hHeld
  refine hK.out _ _ ⟨hfs,hol.cell (by rw [add_block];exact NB0.out) e0,hol.cell (by rw [add_block];exact NB5.out) e1,hol.cell (by rw [add_block];exact NB1.out) e2,hol.cell (by rw [add_block];exact NB6.out) e3⟩ (fun hHeld => ?_)
  clear hK K
  refine norm_ (a':=?_) ?_ ?_
  rotate_left
  ·show Act.put _ (some 78) _ = _
   simp only [Act.put,List.setIfInBounds_toArray,List.set_cons_zero,List.set_cons_succ,i64_w,i32_w,HAp.out,HBp.out,HS1.out]
   rfl
  refine pure_ (i:=22) (N:=some 94) (v:=?_) (a':=?_) (ba_ 24 8388607) rfl rfl (any_of HT_.out (by kernel_rfl)) (fun _ _ _ h => h) (Or.inl ⟨by rfl,?_⟩) ?_ ?_
  rotate_left
  ·intro w'
   go_simp
   with_reducible rfl
  rotate_left
  ·simp only [Act.put,List.setIfInBounds_toArray,List.set_cons_zero,List.set_cons_succ,i64_w,i32_w,HAp.out,HBp.out,HS1.out]
   rfl
  refine pure_ (i:=23) (N:=some 14) (v:=?_) (a':=?_) (ba_ 24 16777215) rfl rfl (any_of HT_.out (by kernel_rfl)) (fun _ _ _ h => h) (Or.inl ⟨by rfl,?_⟩) ?_ ?_
  rotate_left
  ·intro w'
   go_simp
   with_reducible rfl
  rotate_left
  ·simp only [Act.put,List.setIfInBounds_toArray,List.set_cons_zero,List.set_cons_succ,i64_w,i32_w,HAp.out,HBp.out,HS1.out]
   rfl
  refine done_ (done_of HT_.out (by kernel_rfl)) ?_
  go_wp2
  refine start_ (n:=24) (S:=fun w' => DS M A B X Y W b g (.slice (some ad0) A cp0) (.slice (some ad1) B cp1) v2 v3 (.slice (some ad5) 6 cp5) (.slice (some ad6) 6 cp6) v7 w' ∧ w'.cell? (ad0.add p) = some (.int .i64 ((X p : Nat) : Int)) ∧ w'.cell? (ad5.add (X p)) = some (.int .i64 (M.del p)) ∧ w'.cell? (ad1.add q) = some (.int .i64 ((Y q : Nat) : Int)) ∧ w'.cell? (ad6.add (Y q)) = some (.int .i64 (M.ins q))) (ds:=[]) (ba_ 24 0) (by kernel_rfl) rfl rfl ⟨hHeld.1.drew,hHeld.2⟩ (fun hHeld => ?_)
  refine with_tabW l9DistR.tab12 l9DistR.bits12 (fun HT_ HW_ => ?_)
  refine pure_ (i:=0) (N:=some 98) (v:=?_) (a':=?_) (ba_ 24 1) rfl rfl (any_of HT_.out (by kernel_rfl)) (fun _ _ _ h => h) (Or.inl ⟨by rfl,?_⟩) ?_ ?_
  rotate_left
  ·intro w'
   go_simp
   with_reducible rfl
  rotate_left
  ·simp only [Act.put,List.setIfInBounds_toArray,List.set_cons_zero,List.set_cons_succ,i64_w,i32_w,HAq.out,HBq.out,HS2.out]
   rfl
  refine pure_ (i:=1) (N:=some 99) (v:=?_) (a':=?_) (ba_ 24 3) rfl rfl (any_of HT_.out (by kernel_rfl)) (fun _ _ _ h => h) (Or.inl ⟨by rfl,?_⟩) ?_ ?_
  rotate_left
  ·intro w'
   go_simp
   with_reducible rfl
  rotate_left
  ·simp only [Act.put,List.setIfInBounds_toArray,List.set_cons_zero,List.set_cons_succ,i64_w,i32_w,HAq.out,HBq.out,HS2.out]
   rfl
  refine pure_ (i:=2) (N:=some 100) (v:=?_) (a':=?_) (ba_ 24 7) rfl rfl (any_of HT_.out (by kernel_rfl)) (fun _ _ _ h => h) (Or.inl ⟨by rfl,?_⟩) ?_ ?_
  rotate_left
  ·intro w'
   go_simp
   with_reducible rfl
  rotate_left
  ·simp only [Act.put,List.setIfInBounds_toArray,List.set_cons_zero,List.set_cons_succ,i64_w,i32_w,HAq.out,HBq.out,HS2.out]
   rfl
  refine pure_ (i:=3) (N:=some 101) (v:=?_) (a':=?_) (ba_ 24 15) rfl rfl (any_of HT_.out (by kernel_rfl)) (fun _ _ _ h => h) (Or.inl ⟨by rfl,?_⟩) ?_ ?_
  rotate_left
  ·intro w'
   go_simp
   with_reducible rfl
  rotate_left
  ·simp only [Act.put,List.setIfInBounds_toArray,List.set_cons_zero,List.set_cons_succ,i64_w,i32_w,HAq.out,HBq.out,HS2.out]
   rfl
  refine pure_ (i:=4) (N:=some 102) (v:=?_) (a':=?_) (ba_ 24 31) rfl rfl (any_of HT_.out (by kernel_rfl)) (fun _ _ _ h => h) (Or.inl ⟨by rfl,?_⟩) ?_ ?_
  rotate_left
  ·intro w'
   go_simp
   with_reducible rfl
  rotate_left
  ·simp only [Act.put,List.setIfInBounds_toArray,List.set_cons_zero,List.set_cons_succ,i64_w,i32_w,HAq.out,HBq.out,HS2.out]
   rfl
  refine pure_ (i:=5) (N:=some 103) (v:=?_) (a':=?_) (ba_ 24 63) rfl rfl (any_of HT_.out (by kernel_rfl)) (fun _ _ _ h => h) (Or.inl ⟨by rfl,?_⟩) ?_ ?_
  rotate_left
  ·intro w'
   go_simp
   with_reducible rfl
  rotate_left
  ·simp only [Act.put,List.setIfInBounds_toArray,List.set_cons_zero,List.set_cons_succ,i64_w,i32_w,HAq.out,HBq.out,HS2.out]
   rfl
  refine pure_ (i:=7) (N:=some 105) (v:=?_) (a':=?_) (ba_ 24 191) rfl rfl (any_of HT_.out (by kernel_rfl)) (fun _ _ _ h => h) (Or.inl ⟨by rfl,?_⟩) ?_ ?_
  rotate_left
  ·intro w'
   go_simp
   with_reducible rfl
  rotate_left
  ·simp only [Act.put,List.setIfInBounds_toArray,List.set_cons_zero,List.set_cons_succ,i64_w,i32_w,HAq.out,HBq.out,HS2.out]
   rfl
  refine pure_ (i:=8) (N:=some 106) (v:=?_) (a':=?_) (ba_ 24 447) rfl rfl (any_of HT_.out (by kernel_rfl)) (fun _ _ _ h => h) (Or.inl ⟨by rfl,?_⟩) ?_ ?_
  rotate_left
  ·intro w'
   go_simp
   with_reducible rfl
  rotate_left
  ·simp only [Act.put,List.setIfInBounds_toArray,List.set_cons_zero,List.set_cons_succ,i64_w,i32_w,HAq.out,HBq.out,HS2.out]
   rfl
  refine pure_ (i:=9) (N:=some 107) (v:=?_) (a':=?_) (ba_ 24 959) rfl rfl (any_of HT_.out (by kernel_rfl)) (fun _ _ _ h => h) (Or.inl ⟨by rfl,?_⟩) ?_ ?_
  rotate_left
  ·intro w'
   go_simp
   with_reducible rfl
  rotate_left
  ·simp only [Act.put,List.setIfInBounds_toArray,List.set_cons_zero,List.set_cons_succ,i64_w,i32_w,HAq.out,HBq.out,HS2.out]
   rfl
  refine pure_ (i:=10) (N:=some 108) (v:=?_) (a':=?_) (ba_ 24 1983) rfl rfl (any_of HT_.out (by kernel_rfl)) (fun _ _ _ h => h) (Or.inl ⟨by rfl,?_⟩) ?_ ?_
  rotate_left
  ·intro w'
   go_simp
   with_reducible rfl
  rotate_left
  ·simp only [Act.put,List.setIfInBounds_toArray,List.set_cons_zero,List.set_cons_succ,i64_w,i32_w,HAq.out,HBq.out,HS2.out]
   rfl
  refine pure_ (i:=12) (N:=some 110) (v:=?_) (a':=?_) (ba_ 24 6079) rfl rfl (any_of HT_.out (by kernel_rfl)) (fun _ _ _ h => h) (Or.inl ⟨by rfl,?_⟩) ?_ ?_
  rotate_left
  ·intro w'
   go_simp
   with_reducible rfl
  rotate_left
  ·simp only [Act.put,List.setIfInBounds_toArray,List.set_cons_zero,List.set_cons_succ,i64_w,i32_w,HAq.out,HBq.out,HS2.out]
   rfl
  refine pure_ (i:=13) (N:=some 111) (v:=?_) (a':=?_) (ba_ 24 14271) rfl rfl (any_of HT_.out (by kernel_rfl)) (fun _ _ _ h => h) (Or.inl ⟨by rfl,?_⟩) ?_ ?_
  rotate_left
  ·intro w'
   go_simp
   with_reducible rfl
  rotate_left
  ·simp only [Act.put,List.setIfInBounds_toArray,List.set_cons_zero,List.set_cons_succ,i64_w,i32_w,HAq.out,HBq.out,HS2.out]
   rfl
  refine pure_ (i:=14) (N:=some 112) (v:=?_) (a':=?_) (ba_ 24 30655) rfl rfl (any_of HT_.out (by kernel_rfl)) (fun _ _ _ h => h) (Or.inl ⟨by rfl,?_⟩) ?_ ?_
  rotate_left
  ·intro w'
   go_simp
   with_reducible rfl
  rotate_left
  ·simp only [Act.put,List.setIfInBounds_toArray,List.set_cons_zero,List.set_cons_succ,i64_w,i32_w,HAq.out,HBq.out,HS2.out]
   rfl
  refine pure_ (i:=16) (N:=some 114) (v:=?_) (a':=?_) (ba_ 24 96191) rfl rfl (any_of HT_.out (by kernel_rfl)) (fun _ _ _ h => h) (Or.inl ⟨by rfl,?_⟩) ?_ ?_
  rotate_left
  ·intro w'
   go_simp
   with_reducible rfl
  rotate_left
  ·simp only [Act.put,List.setIfInBounds_toArray,List.set_cons_zero,List.set_cons_succ,i64_w,i32_w,HAq.out,HBq.out,HS2.out]
   rfl
  refine pure_ (i:=17) (N:=some 115) (v:=?_) (a':=?_) (ba_ 24 227263) rfl rfl (any_of HT_.out (by kernel_rfl)) (fun _ _ _ h => h) (Or.inl ⟨by rfl,?_⟩) ?_ ?_
  rotate_left
  ·intro w'
   go_simp
   with_reducible rfl
  rotate_left
  ·simp only [Act.put,List.setIfInBounds_toArray,List.set_cons_zero,List.set_cons_succ,i64_w,i32_w,HAq.out,HBq.out,HS2.out]
   rfl
  refine take_ (i:=11) (N:=some 109) (v:=?_) (a':=?_) (ba_ 24 229311) rfl rfl (take_ofW HT_.out HW_.out (by kernel_rfl)) (fun _ _ _ h => h) (Or.inl ⟨by rfl,?_⟩) hHeld ?_ ?_
  rotate_left
  ·rintro w' ⟨⟨-,-,-,-,-,-,c6,-,-,-,-⟩,-,-,-,-⟩
   go_simp
   with_reducible rfl
  rotate_left
  ·simp only [Act.put,List.setIfInBounds_toArray,List.set_cons_zero,List.set_cons_succ,i64_w,i32_w,HAq.out,HBq.out,HS2.out]
   rfl
  refine take_ (i:=15) (N:=some 113) (v:=?_) (a':=?_) (ba_ 24 262079) rfl rfl (take_ofW HT_.out HW_.out (by kernel_rfl)) (fun _ _ _ h => h) (Or.inl ⟨by rfl,?_⟩) hHeld ?_ ?_
  rotate_left
  ·rintro w' ⟨⟨-,c1,-,-,-,-,-,-,-,-,-⟩,-,-,-,-⟩
   go_simp
   with_reducible rfl
  rotate_left
  ·simp only [Act.put,List.setIfInBounds_toArray,List.set_cons_zero,List.set_cons_succ,i64_w,i32_w,HAq.out,HBq.out,HS2.out]
   rfl
  refine pure_ (i:=18) (N:=some 116) (v:=?_) (a':=?_) (ba_ 24 524223) rfl rfl (any_of HT_.out (by kernel_rfl)) (fun _ _ _ h => h) (Or.inl ⟨by rfl,?_⟩) ?_ ?_
  rotate_left
  ·intro w'
   go_simp
   with_reducible rfl
  rotate_left
  ·simp only [Act.put,List.setIfInBounds_toArray,List.set_cons_zero,List.set_cons_succ,i64_w,i32_w,HAq.out,HBq.out,HS2.out]
   rfl
  refine take_ (i:=19) (N:=some 117) (v:=?_) (a':=?_) (ba_ 24 1048511) rfl rfl (take_ofW HT_.out HW_.out (by kernel_rfl)) (fun _ _ _ h => h) (Or.inl ⟨by rfl,?_⟩) hHeld ?_ ?_
  rotate_left
  ·rintro w' ⟨⟨-,-,-,-,-,-,-,-,-,-,-⟩,s0,s1,s2,s3⟩
   go_simp
   with_reducible rfl
  rotate_left
  ·simp only [Act.put,List.setIfInBounds_toArray,List.set_cons_zero,List.set_cons_succ,i64_w,i32_w,HAq.out,HBq.out,HS2.out]
   rfl
  refine pure_ (i:=20) (N:=some 118) (v:=?_) (a':=?_) (ba_ 24 2097087) rfl rfl (any_of HT_.out (by kernel_rfl)) (fun _ _ _ h => h) (Or.inl ⟨by rfl,?_⟩) ?_ ?_
  rotate_left
  ·intro w'
   go_simp
   with_reducible rfl
  rotate_left
  ·simp only [Act.put,List.setIfInBounds_toArray,List.set_cons_zero,List.set_cons_succ,i64_w,i32_w,HAq.out,HBq.out,HS2.out]
   rfl
  refine take_ (i:=21) (N:=some 119) (v:=?_) (a':=?_) (ba_ 24 4194239) rfl rfl (take_ofW HT_.out HW_.out (by kernel_rfl)) (fun _ _ _ h => h) (Or.inl ⟨by rfl,?_⟩) hHeld ?_ ?_
  rotate_left
  ·rintro w' ⟨⟨-,-,-,-,-,-,-,-,-,-,-⟩,s0,s1,s2,s3⟩
   go_simp
   with_reducible rfl
  rotate_left
  ·simp only [Act.put,List.setIfInBounds_toArray,List.set_cons_zero,List.set_cons_succ,i64_w,i32_w,HAq.out,HBq.out,HS2.out]
   rfl
  refine one_ (i:=6) (N:=some 104) (ba_ 24 4194303) rfl rfl (one_of HT_.out (by kernel_rfl)) (by decide) (fun K hK => ?_)
  refine goes_ Try.func53 (by kernel_rfl) rfl #[.pointer (some ⟨g,0,none⟩),.int .i64 ((i : Nat) : Int),.int .i64 ((p + 1 : Nat) : Int),.int .i64 ((k : Nat) : Int),.int .i64 ((q : Nat) : Int)] (by rfl) rfl rfl (by simp only [List.map_toArray,List.map_cons,List.map_nil];rfl) ?_
  refine (DS.goes IH.out hHeld.1 (i':=i) (j':=p + 1) (k':=k) (m':=q) (by omega) (by omega) (by omega) (by omega) (by omega)).mono ?_
  rintro e w' ⟨rfl,hfs,hol⟩
  refine ⟨_,rfl,?_⟩
  obtain ⟨_,e0,e1,e2,e3⟩:=hHeld
  refine hK.out _ _ ⟨hfs,hol.cell (by rw [add_block];exact NB0.out) e0,hol.cell (by rw [add_block];exact NB5.out) e1,hol.cell (by rw [add_block];exact NB1.out) e2,hol.cell (by rw [add_block];exact NB6.out) e3⟩ (fun hHeld => ?_)
  clear hK K
  refine norm_ (a':=?_) ?_ ?_
  rotate_left
  ·show Act.put _ (some 104) _ = _
   simp only [Act.put,List.setIfInBounds_toArray,List.set_cons_zero,List.set_cons_succ,i64_w,i32_w,HAq.out,HBq.out,HS2.out]
   rfl
  refine pure_ (i:=22) (N:=some 120) (v:=?_) (a':=?_) (ba_ 24 8388607) rfl rfl (any_of HT_.out (by kernel_rfl)) (fun _ _ _ h => h) (Or.inl ⟨by rfl,?_⟩) ?_ ?_
  rotate_left
  ·intro w'
   go_simp
   with_reducible rfl
  rotate_left
  ·simp only [Act.put,List.setIfInBounds_toArray,List.set_cons_zero,List.set_cons_succ,i64_w,i32_w,HAq.out,HBq.out,HS2.out]
   rfl
  refine pure_ (i:=23) (N:=some 15) (v:=?_) (a':=?_) (ba_ 24 16777215) rfl rfl (any_of HT_.out (by kernel_rfl)) (fun _ _ _ h => h) (Or.inl ⟨by rfl,?_⟩) ?_ ?_
  rotate_left
  ·intro w'
   go_simp
   with_reducible rfl
  rotate_left
  ·simp only [Act.put,List.setIfInBounds_toArray,List.set_cons_zero,List.set_cons_succ,i64_w,i32_w,HAq.out,HBq.out,HS2.out]
   rfl
  refine done_ (done_of HT_.out (by kernel_rfl)) ?_
  have HMC:=Aside0.mk (fun w1 hm1 hk1 => l9match hs hA hB IH.out (i:=i) (p:=p) (k:=k) (q:=q) hN hi hp hk hq hla hlb w1 b g hm1 hk1)
  rw [← HZZ.out] at HMC
  by_cases hlt : z2 < z1
  ·have HM:=HMIN.out
   rw [if_pos hlt] at HM
   go_wp2_with (first | (go_at_call 60;refine (HMC.out _ hHeld.1.sm hHeld.1.sk).mono ?_;rintro e w9 ⟨rfl,hol,hkn⟩;have HOL:=Aside0.mk (hHeld.1.so.trans hol);have HKN:=Aside0.mk hkn;have c4:=hol.cell hHeld.1.far hHeld.1.c4;obtain ⟨z9,hz9,_⟩:=hkn.cell (i:=i) (j:=p + 1) (k:=k) (m:=q + 1) (by omega) (by omega) (by omega) (by omega);rw [← hat.out] at hz9;have hz8:=hkn.frozen at_;clear hol hkn))
   go_ret
   exact ⟨rfl,HOL.out.setCell _ _,HKN.out.put' (by omega) (by omega) (by omega) (by omega) hat.out HD1.out⟩
  ·have HM:=HMIN.out
   rw [if_neg hlt] at HM
   go_wp2_with (first | (go_at_call 60;refine (HMC.out _ hHeld.1.sm hHeld.1.sk).mono ?_;rintro e w9 ⟨rfl,hol,hkn⟩;have HOL:=Aside0.mk (hHeld.1.so.trans hol);have HKN:=Aside0.mk hkn;have c4:=hol.cell hHeld.1.far hHeld.1.c4;obtain ⟨z9,hz9,_⟩:=hkn.cell (i:=i) (j:=p + 1) (k:=k) (m:=q + 1) (by omega) (by omega) (by omega) (by omega);rw [← hat.out] at hz9;have hz8:=hkn.frozen at_;clear hol hkn))
   go_ret
   exact ⟨rfl,HOL.out.setCell _ _,HKN.out.put' (by omega) (by omega) (by omega) (by omega) hat.out HD1.out⟩
 ·have hpos : (0 : Int) < z:=by have:=D_small hs (i) (p + 1) (k) (q + 1);omega
  obtain ⟨dd,hdd⟩ : ∃ dd,dd = Ted.D M (i) (p + 1) (k) (q + 1):=⟨_,rfl⟩
  rw [← hdd] at hzv ⊢
  have hw : Aside0 (wrap64 (z - 1) = dd):=⟨by have:=D_small hs (i) (p + 1) (k) (q + 1);rw [← hdd] at this;rw [wid (by omega) (by omega)];omega⟩
  have k1 : ¬ ((p + 1 : Nat) : Int) ≤ (i : Int):=by omega
  have k2 : (i : Int) < ((p + 1 : Nat) : Int):=by omega
  have k3 : ¬ ((q + 1 : Nat) : Int) ≤ (k : Int):=by omega
  have k4 : (k : Int) < ((q + 1 : Nat) : Int):=by omega
  have k1c:=k1
  have k2c:=k2
  have k3c:=k3
  have k4c:=k4
  push_cast at k1c k2c k3c k4c
  clear hdd hzv hat
  have g1c:=g1
  have g3c:=g3
  push_cast at g1c g3c
  have fn:=congrArg (Value.int .i64) fn.out
  have fw:=congrArg (Value.int .i64) fw.out
  have fa1:=congrArg (Value.int .i64) fa1.out
  have fa2:=congrArg (Value.int .i64) fa2.out
  have fa3:=congrArg (Value.int .i64) fa3.out
  have fa4:=congrArg (Value.int .i64) fa4.out
  have fa5:=congrArg (Value.int .i64) fa5.out
  have fa6:=congrArg (Value.int .i64) fa6.out
  have fa2c:=fa2
  have fa6c:=fa6
  push_cast at fa2c fa6c
  have hw:=congrArg (Value.int .i64) hw.out
  have HST:=Aside0.mk HST0
  obtain ⟨c0,c1,c2,c3,c4,c5,c6,c7,sm,sk,so⟩:=HST0
  clear hblk hg mem kn sm sk so
  go_enter Try.func53,Try.ntmps53
  go_wp2
  go_ret
  exact ⟨rfl,HST.out.so,HST.out.sk⟩
theorem dist_calls {M : Ted.Ms} {A B : Nat} {X Y : Nat → Nat} (hs : Small M) (hA : A ≤ 24) (hB : B ≤ 24) (hla : ∀ p,p < A → M.la p ≤ p) (hlb : ∀ q,q < B → M.lb q ≤ q) : ∀ N : Nat,DistAt M A B X Y N:=by
 intro N
 induction N using Nat.strongRecOn with
 | _ N IH =>
  intro i j k m hN hij hj hkm hm W b g mem kn
  by_cases h1 : i < j
  ·obtain ⟨p,rfl⟩ : ∃ p,j = p + 1:=⟨j - 1,by omega⟩
   by_cases h2 : k < m
   ·obtain ⟨q,rfl⟩ : ∃ q,m = q + 1:=⟨m - 1,by omega⟩
    exact dist_ab hs hA hB IH hN (by omega) hj (by omega) hm (hla p (by omega)) (hlb q (by omega)) W b g mem kn
   ·obtain rfl : k = m:=by omega
    exact dist_a hs hA hB IH (by omega) hm (by omega) hj W b g mem kn
  ·obtain rfl : i = j:=by omega
   by_cases h2 : k < m
   ·obtain ⟨q,rfl⟩ : ∃ q,m = q + 1:=⟨m - 1,by omega⟩
    exact dist_b hs hA hB IH (by omega) hj (by omega) hm W b g mem kn
   ·obtain rfl : k = m:=by omega
    exact dist_none hs hA hB IH hj hm W b g mem kn
end Go.Proofs.Ytelglbebffdaaaa.X
namespace Go.Proofs.Ytelglbebffdaaaa.X
open Go.RowKit Go.Proofs.YtelglbebffdaaaaW.PrintWords Go.Proofs.YtelglbebffdaaaaW.PrintLast Go.Proofs.YtelglbebffdaaaaW.PrintMore
set_option linter.unusedVariables false
set_option linter.unusedSimpArgs false
section
variable {P : Program} {ops : Array Oper} {o : Oper} {a : Act} {Q : Exit → Act → World → Prop} {Kc : Act → World → Prop}
theorem make_step {W : World} (hw : Region.wanted o (yielded ops a.tmps) = true) {N : Tmp} (hd : o.dst = some N) (t : TypeId) (x y : Operand) (ho : o.op = .makeSlice t x y) (m : Nat) (hx : a.eval x = .int .i64 (m : Int)) (hy : a.eval y = .int .i64 (m : Int))
  {e : TypeId} (ht : P.underlying t = some (.slice e)) (hinfo : (P.info? e).map (fun i => (i.zero,i.size,i.bytes)) = some (some (.int .i64 0),1,8)) (hl : m ≤ 1000000)
  (h : ∀ g,g = W.heap.size → ∀ w1,w1.heap[g]? = some (.cells (nums .i64 (List.replicate m 0)).toArray e (0,0)) → Below W.heap.size W w1 → Kc (a.put o.dst (.slice (some ⟨g,0,none⟩) m m)) w1) :
  if Region.wanted o (yielded ops a.tmps) = true then Oper.wp P o a W Kc Q else Kc (a.put o.dst undef) W:=by
 obtain ⟨i0,hi,hzz⟩:=Option.map_eq_some_iff.1 hinfo
 simp only [Prod.mk.injEq] at hzz
 obtain ⟨hz0,hz1,hz2⟩:=hzz
 have hr:=run_make (P:=P) W t e i0 _ ht hi hz0 .i64 .i64 (m : Int) (m : Int) (by omega) (by omega) (by rw [hz2];omega) (by omega)
 simp only [Int.toNat_natCast] at hr
 rw [hz1] at hr
 have hc : madeCells (Value.int .i64 0).cells (m * 1) = (nums .i64 (List.replicate m 0)).toArray:=by
  apply Array.ext
  ·simp [size_madeCells,nums]
  ·intro j h1 h2
   simp [madeCells,Value.cells,nums,Nat.mod_one]
 rw [hc] at hr
 exact event_step hw (by simp [execOp,ho,hx,hy,hr]) (h _ rfl _ (blk_new W _) (below_alloc (Below.refl _ _) _))
end
structure RV (W : World) (lo hi : Nat) (v : Value) (n : Nat) (f : Nat → Int) : Prop where
 is : ∃ g c,v = .slice (some ⟨g,0,none⟩) n c ∧ n ≤ c ∧ lo ≤ g ∧ g < hi ∧ ∀ p,p < n → W.cell? ((⟨g,0,none⟩ : Addr).add p) = some (.int .i64 (f p))
theorem RV.below {W W1 : World} {lo hi : Nat} {v : Value} {n : Nat} {f : Nat → Int} (h : RV W lo hi v n f) (k : Below W.heap.size W W1) : RV W1 lo hi v n f:=by
 obtain ⟨g,c,e,hc,h1,h2,h3⟩:=h.is
 exact ⟨g,c,e,hc,h1,h2,fun p hp => pw_cell_below k (h3 p hp)⟩
theorem RV.row1 {W : World} {lo hi b : Nat} {v : Value} {n : Nat} {f : Nat → Int} (h : RV W lo hi v n f) (hb : b < lo ∨ hi ≤ b) : Row1 W b v n f:=by
 obtain ⟨g,c,e,hc,h1,h2,h3⟩:=h.is
 exact ⟨⟨g,0,none⟩,c,e,hc,by show g ≠ b;omega,h3⟩
theorem RV.val {W : World} {lo hi : Nat} {v : Value} {n : Nat} {f : Nat → Int} (h : RV W lo hi v n f) : ∃ g c,v = .slice (some ⟨g,0,none⟩) n c:=by
 obtain ⟨g,c,e,_⟩:=h.is
 exact ⟨g,c,e⟩
theorem row_iv {w1 w2 : World} {ok : Nat → Prop} {v : Value} {n : Nat} {f : Nat → Int} (h : Kd.R (Kd.int .i64) 3 w2 w1.heap.size ok v ((List.range n).map f)) (hn : 0 < n) : RV w2 w1.heap.size w2.heap.size v n f:=by
 have hl : ((List.range n).map f).length = n:=by simp
 obtain ⟨g,c,e,h1,h2,_⟩:=Kd.R_form h (by omega)
 subst e
 obtain ⟨_,h3,h4⟩:=Kd.R_reads' h
 rw [hl] at h3 h4 ⊢
 refine ⟨g,c,rfl,h3,h1,h2,fun p hp => ?_⟩
 obtain ⟨ad,e,hx⟩:=Kd.at_int h4 (p : Int) (by omega) (by omega)
 cases e
 rw [Int.toNat_natCast] at hx
 rw [hx]
 have : rd ((List.range n).map f) (p : Int) = f p:=by
  unfold rd
  rw [Int.toNat_natCast,List.getD_eq_getElem?_getD,List.getElem?_map,List.getElem?_range hp];rfl
 rw [this]
structure NS (w : World) (g : Nat) (x0 x1 x2 : Value) (w' : World) : Prop where
 c0 : w'.cell? ⟨g,0,none⟩ = some x0
 c1 : w'.cell? ⟨g,1,none⟩ = some x1
 c2 : w'.cell? ⟨g,2,none⟩ = some x2
 bel : Below w.heap.size w w'
theorem NS.start {w : World} {ty : TypeId} (x0 x1 x2 : Value) : NS w w.heap.size x0 x1 x2 (w.alloc (.cells #[x0,x1,x2] ty)).drew :=
 have h : (w.alloc (.cells #[x0,x1,x2] ty)).heap[w.heap.size]? = some (.cells #[x0,x1,x2] ty (0,0)):=(MapKept.heap_alloc w _).1
 ⟨(blk_cell h 0).trans rfl,(blk_cell h 1).trans rfl,(blk_cell h 2).trans rfl,below_drew (below_alloc (Below.refl _ _) _)⟩
theorem NS.step {w w1 w2 : World} {g : Nat} {x0 x1 x2 : Value} (h : NS w g x0 x1 x2 w1) (k : Below w1.heap.size w1 w2) : NS w g x0 x1 x2 w2 :=
 ⟨pw_cell_below k h.c0,pw_cell_below k h.c1,pw_cell_below k h.c2,below_step h.bel k⟩
theorem new_facts {A B : Nat} (hA : A ≤ 24) (hB : B ≤ 24) : ∃ (nn : Nat) (y1 y2 : Int),Aside0 (nn = ksz A B) ∧ nn ≤ 1000000 ∧ Aside0 (wrap64 ((A : Int) + 1) = (A : Int) + 1) ∧ Aside0 (wrap64 ((B : Int) + 1) = (B : Int) + 1) ∧ Aside0 (wrap64 (((A : Int) + 1) * ((A : Int) + 1)) = y1) ∧ Aside0 (wrap64 (y1 * ((B : Int) + 1)) = y2) ∧ Aside0 (wrap64 (y2 * ((B : Int) + 1)) = (nn : Int)):=by
 have hs:=ksz_le hA hB
 have w : ∀ n : Nat,n ≤ 1000000 → wrap64 (n : Int) = (n : Int):=fun n hn => wid (by omega) (by omega)
 have b1 : (A + 1) * (A + 1) ≤ 25 * 25:=Nat.mul_le_mul (by omega) (by omega)
 have b2 : (A + 1) * (A + 1) * (B + 1) ≤ 25 * 25 * 25:=Nat.mul_le_mul b1 (by omega)
 have eA : (A : Int) + 1 = ((A + 1 : Nat) : Int):=by omega
 have eB : (B : Int) + 1 = ((B + 1 : Nat) : Int):=by omega
 rw [eA,eB]
 refine ⟨ksz A B,(((A + 1) * (A + 1) : Nat) : Int),(((A + 1) * (A + 1) * (B + 1) : Nat) : Int),⟨rfl⟩,by omega,⟨w _ (by omega)⟩,⟨w _ (by omega)⟩,⟨?_⟩,⟨?_⟩,⟨?_⟩⟩
 ·rw [← Int.natCast_mul];exact w _ (by omega)
 ·rw [← Int.natCast_mul];exact w _ (by omega)
 ·rw [← Int.natCast_mul];exact w _ (by have:=hs;unfold ksz at this;omega)
def l9NewR.T3 : Bool × List (List Nat × List Nat):=(true,[([],[]),([0],[0]),([],[]),([2,1],[2]),([],[]),([4,3],[4]),([],[]),([6,5],[6]),([],[]),([],[]),([8,9],[8,9]),([],[]),([10,11],[10,11]),([],[]),([12,13],[12,13]),([14,14],[14]),([],[]),([1,3,5,7,15,16],[1,3,5,7,15,16]),([17],[17]),([18,7,0,1,2,3,4,5,6,7,8,9,10,11,12,13,14,15,16,17,18],[18])])
def l9NewR.B3 : List Nat:=[0,1,0,7,0,31,0,127,0,0,768,0,3840,0,16128,32512,0,131071,262143,524287]
theorem l9NewR.tab3 : rtab .any (opsOf Try.f54 3) = l9NewR.T3:=by kernel_rfl
theorem l9NewR.bits3 : waitsOk l9NewR.T3.2 l9NewR.B3 = true:=by kernel_rfl
set_option maxHeartbeats 8000000 in
set_option maxRecDepth 100000 in
theorem l9New_calls (q : Nat) (A0 : Option Addr) (c0 : Nat) (a : List S53) (A1 : Option Addr) (c1 : Nat) (b : List S53) (A2 : Option Addr) (c2 : Nat) (d : List Int) (A3 : Option Addr) (c3 : Nat) (n : List Int) (A4 : Option Addr) (c4 : Nat) (r : List Int) (fa fb fc fd : Nat → Int) (w : World)
  (la : 0 < a.length) (lb : 0 < b.length) (ha24 : a.length ≤ 24) (hb24 : b.length ≤ 24) (hr0 : Kd.C k53 w A0 a.length a) (hc0 : a.length ≤ c0) (hr1 : Kd.C k53 w A1 b.length b) (hc1 : b.length ≤ c1)
  (ha : spec_l8Labels.f q a = some ((List.range a.length).map fa)) (hb : spec_l8Labels.f q b = some ((List.range b.length).map fb)) (hc : spec_LeftLeaf.f q a = some ((List.range a.length).map fc)) (hd : spec_LeftLeaf.f q b = some ((List.range b.length).map fd)) :
  Calls Try.prog 54 #[.slice A0 a.length c0,.slice A1 b.length c1,.agg #[.slice A2 d.length c2,.slice A3 n.length c3,.slice A4 r.length c4]] w fun e w' => ∃ g bk : Nat,e = .returned (.pointer (some ⟨g,0,none⟩)) ∧ Below w.heap.size w w' ∧ g ≠ bk ∧ w.heap.size ≤ bk ∧ w'.heap[bk]? = some (.cells (nums .i64 (List.replicate (ksz a.length b.length) 0)).toArray 3 (0,0)) ∧
   ∃ v0 v1 v2 v3,w'.heap[g]? = some (.cells #[v0,v1,v2,v3,.slice (some ⟨bk,0,none⟩) (ksz a.length b.length) (ksz a.length b.length),.slice A2 d.length c2,.slice A3 n.length c3,.slice A4 r.length c4] 100 (0,0)) ∧
    Row1 w' bk v0 a.length fa ∧ Row1 w' bk v1 b.length fb ∧ Row1 w' bk v2 a.length fc ∧ Row1 w' bk v3 b.length fd:=by
 obtain ⟨nn,y1,y2,hnn,hnl,f1,f2,f3,f4,f5⟩:=new_facts ha24 hb24
 rw [← hnn.out]
 have HNL:=Aside0.mk hnl
 have Ha:=Aside0.mk ha
 have Hb:=Aside0.mk hb
 have Hc:=Aside0.mk hc
 have Hd:=Aside0.mk hd
 have HR0:=Aside0.mk hr0
 have HR1:=Aside0.mk hr1
 have HC0:=Aside0.mk hc0
 have HC1:=Aside0.mk hc1
 clear hnl ha hb hc hd hr0 hr1 hc0 hc1
 go_enter Try.func54,Try.ntmps54
 go_wp2
 have HN:=NS.start (w:=w) (ty:=31) (.slice A2 d.length c2) (.slice A3 n.length c3) (.slice A4 r.length c4)
 have s0:=HN.bel.size
 refine start_ (n:=20) (S:=NS w w.heap.size (.slice A2 d.length c2) (.slice A3 n.length c3) (.slice A4 r.length c4)) (ds:=[]) (ba_ 20 0) (by kernel_rfl) rfl rfl HN (fun hHeld => ?_)
 refine with_tabW l9NewR.tab3 l9NewR.bits3 (fun HT_ HW_ => ?_)
 refine pure_ (i:=0) (N:=some 15) (v:=?_) (a':=?_) (ba_ 20 1) rfl rfl (any_of HT_.out (by kernel_rfl)) (fun _ _ _ h => h) (Or.inl ⟨by rfl,?_⟩) ?_ ?_
 rotate_left
 ·intro w'
  go_simp
  with_reducible rfl
 rotate_left
 ·simp only [Act.put,List.setIfInBounds_toArray,List.set_cons_zero,List.set_cons_succ,i64_w,i32_w,f1.out,f2.out,f3.out,f4.out,f5.out]
  rfl
 refine pure_ (i:=2) (N:=some 17) (v:=?_) (a':=?_) (ba_ 20 5) rfl rfl (any_of HT_.out (by kernel_rfl)) (fun _ _ _ h => h) (Or.inl ⟨by rfl,?_⟩) ?_ ?_
 rotate_left
 ·intro w'
  go_simp
  with_reducible rfl
 rotate_left
 ·simp only [Act.put,List.setIfInBounds_toArray,List.set_cons_zero,List.set_cons_succ,i64_w,i32_w,f1.out,f2.out,f3.out,f4.out,f5.out]
  rfl
 refine pure_ (i:=4) (N:=some 19) (v:=?_) (a':=?_) (ba_ 20 21) rfl rfl (any_of HT_.out (by kernel_rfl)) (fun _ _ _ h => h) (Or.inl ⟨by rfl,?_⟩) ?_ ?_
 rotate_left
 ·intro w'
  go_simp
  with_reducible rfl
 rotate_left
 ·simp only [Act.put,List.setIfInBounds_toArray,List.set_cons_zero,List.set_cons_succ,i64_w,i32_w,f1.out,f2.out,f3.out,f4.out,f5.out]
  rfl
 refine pure_ (i:=6) (N:=some 21) (v:=?_) (a':=?_) (ba_ 20 85) rfl rfl (any_of HT_.out (by kernel_rfl)) (fun _ _ _ h => h) (Or.inl ⟨by rfl,?_⟩) ?_ ?_
 rotate_left
 ·intro w'
  go_simp
  with_reducible rfl
 rotate_left
 ·simp only [Act.put,List.setIfInBounds_toArray,List.set_cons_zero,List.set_cons_succ,i64_w,i32_w,f1.out,f2.out,f3.out,f4.out,f5.out]
  rfl
 refine pure_ (i:=8) (N:=some 23) (v:=?_) (a':=?_) (ba_ 20 341) rfl rfl (any_of HT_.out (by kernel_rfl)) (fun _ _ _ h => h) (Or.inl ⟨by rfl,?_⟩) ?_ ?_
 rotate_left
 ·intro w'
  go_simp
  with_reducible rfl
 rotate_left
 ·simp only [Act.put,List.setIfInBounds_toArray,List.set_cons_zero,List.set_cons_succ,i64_w,i32_w,f1.out,f2.out,f3.out,f4.out,f5.out]
  rfl
 refine pure_ (i:=9) (N:=some 24) (v:=?_) (a':=?_) (ba_ 20 853) rfl rfl (any_of HT_.out (by kernel_rfl)) (fun _ _ _ h => h) (Or.inl ⟨by rfl,?_⟩) ?_ ?_
 rotate_left
 ·intro w'
  go_simp
  with_reducible rfl
 rotate_left
 ·simp only [Act.put,List.setIfInBounds_toArray,List.set_cons_zero,List.set_cons_succ,i64_w,i32_w,f1.out,f2.out,f3.out,f4.out,f5.out]
  rfl
 refine pure_ (i:=10) (N:=some 25) (v:=?_) (a':=?_) (ba_ 20 1877) rfl rfl (any_of HT_.out (by kernel_rfl)) (fun _ _ _ h => h) (Or.inl ⟨by rfl,?_⟩) ?_ ?_
 rotate_left
 ·intro w'
  go_simp
  with_reducible rfl
 rotate_left
 ·simp only [Act.put,List.setIfInBounds_toArray,List.set_cons_zero,List.set_cons_succ,i64_w,i32_w,f1.out,f2.out,f3.out,f4.out,f5.out]
  rfl
 refine pure_ (i:=11) (N:=some 26) (v:=?_) (a':=?_) (ba_ 20 3925) rfl rfl (any_of HT_.out (by kernel_rfl)) (fun _ _ _ h => h) (Or.inl ⟨by rfl,?_⟩) ?_ ?_
 rotate_left
 ·intro w'
  go_simp
  with_reducible rfl
 rotate_left
 ·simp only [Act.put,List.setIfInBounds_toArray,List.set_cons_zero,List.set_cons_succ,i64_w,i32_w,f1.out,f2.out,f3.out,f4.out,f5.out]
  rfl
 refine pure_ (i:=12) (N:=some 27) (v:=?_) (a':=?_) (ba_ 20 8021) rfl rfl (any_of HT_.out (by kernel_rfl)) (fun _ _ _ h => h) (Or.inl ⟨by rfl,?_⟩) ?_ ?_
 rotate_left
 ·intro w'
  go_simp
  with_reducible rfl
 rotate_left
 ·simp only [Act.put,List.setIfInBounds_toArray,List.set_cons_zero,List.set_cons_succ,i64_w,i32_w,f1.out,f2.out,f3.out,f4.out,f5.out]
  rfl
 refine pure_ (i:=13) (N:=some 28) (v:=?_) (a':=?_) (ba_ 20 16213) rfl rfl (any_of HT_.out (by kernel_rfl)) (fun _ _ _ h => h) (Or.inl ⟨by rfl,?_⟩) ?_ ?_
 rotate_left
 ·intro w'
  go_simp
  with_reducible rfl
 rotate_left
 ·simp only [Act.put,List.setIfInBounds_toArray,List.set_cons_zero,List.set_cons_succ,i64_w,i32_w,f1.out,f2.out,f3.out,f4.out,f5.out]
  rfl
 refine pure_ (i:=14) (N:=some 29) (v:=?_) (a':=?_) (ba_ 20 32597) rfl rfl (any_of HT_.out (by kernel_rfl)) (fun _ _ _ h => h) (Or.inl ⟨by rfl,?_⟩) ?_ ?_
 rotate_left
 ·intro w'
  go_simp
  with_reducible rfl
 rotate_left
 ·simp only [Act.put,List.setIfInBounds_toArray,List.set_cons_zero,List.set_cons_succ,i64_w,i32_w,f1.out,f2.out,f3.out,f4.out,f5.out]
  rfl
 refine take_ (i:=16) (N:=some 31) (v:=?_) (a':=?_) (ba_ 20 98133) rfl rfl (take_ofW HT_.out HW_.out (by kernel_rfl)) (fun _ _ _ h => h) (Or.inl ⟨by rfl,?_⟩) hHeld ?_ ?_
 rotate_left
 ·rintro w' ⟨c0,c1,c2,sb⟩
  go_simp
  with_reducible rfl
 rotate_left
 ·simp only [Act.put,List.setIfInBounds_toArray,List.set_cons_zero,List.set_cons_succ,i64_w,i32_w,f1.out,f2.out,f3.out,f4.out,f5.out]
  rfl
 refine two_ (i:=1) (j:=15) (Ni:=some 16) (Nj:=some 30) (ba_ 20 98135) (ba_ 20 130901) rfl rfl rfl rfl (two_of HT_.out (by kernel_rfl)) (by decide) (by decide) (fun K hK => ?_) (fun K hK => ?_)
 ·refine goes_ Try.func81 (by kernel_rfl) rfl #[.slice A0 a.length c0] (by rfl) rfl rfl (by simp only [List.map_toArray,List.map_cons,List.map_nil];rfl) ?_
  refine (spec_l8Labels.calls q A0 c0 a _ _ (Kd.C_below HR0.out hHeld.bel) HC0.out Ha.out).mono ?_
  rintro e w16 ⟨v16,rfl,o16,b16⟩
  have r16:=row_iv o16 la
  clear o16
  obtain ⟨g16,k16,rfl⟩:=r16.val
  refine ⟨_,rfl,?_⟩
  have O16:=Aside0.mk r16
  have B16:=Aside0.mk b16
  have s16:=b16.size
  refine hK.out _ _ (hHeld.step b16) (fun hHeld => ?_)
  clear r16 b16
  clear hK K
  refine norm_ (a':=?_) ?_ ?_
  rotate_left
  ·show Act.put _ (some 16) _ = _
   simp only [Act.put,List.setIfInBounds_toArray,List.set_cons_zero,List.set_cons_succ,i64_w,i32_w,f1.out,f2.out,f3.out,f4.out,f5.out]
   rfl
  refine two_ (i:=3) (j:=15) (Ni:=some 18) (Nj:=some 30) (ba_ 20 98143) (ba_ 20 130903) rfl rfl rfl rfl (two_of HT_.out (by kernel_rfl)) (by decide) (by decide) (fun K hK => ?_) (fun K hK => ?_)
  ·refine goes_ Try.func81 (by kernel_rfl) rfl #[.slice A1 b.length c1] (by rfl) rfl rfl (by simp only [List.map_toArray,List.map_cons,List.map_nil];rfl) ?_
   refine (spec_l8Labels.calls q A1 c1 b _ _ (Kd.C_below HR1.out hHeld.bel) HC1.out Hb.out).mono ?_
   rintro e w18 ⟨v18,rfl,o18,b18⟩
   have r18:=row_iv o18 lb
   clear o18
   obtain ⟨g18,k18,rfl⟩:=r18.val
   refine ⟨_,rfl,?_⟩
   have O18:=Aside0.mk r18
   have B18:=Aside0.mk b18
   have s18:=b18.size
   refine hK.out _ _ (hHeld.step b18) (fun hHeld => ?_)
   clear r18 b18
   clear hK K
   refine norm_ (a':=?_) ?_ ?_
   rotate_left
   ·show Act.put _ (some 18) _ = _
    simp only [Act.put,List.setIfInBounds_toArray,List.set_cons_zero,List.set_cons_succ,i64_w,i32_w,f1.out,f2.out,f3.out,f4.out,f5.out]
    rfl
   refine two_ (i:=5) (j:=15) (Ni:=some 20) (Nj:=some 30) (ba_ 20 98175) (ba_ 20 130911) rfl rfl rfl rfl (two_of HT_.out (by kernel_rfl)) (by decide) (by decide) (fun K hK => ?_) (fun K hK => ?_)
   ·refine goes_ Try.func48 (by kernel_rfl) rfl #[.slice A0 a.length c0] (by rfl) rfl rfl (by simp only [List.map_toArray,List.map_cons,List.map_nil];rfl) ?_
    refine (spec_LeftLeaf.calls q A0 c0 a _ _ (Kd.C_below HR0.out hHeld.bel) HC0.out Hc.out).mono ?_
    rintro e w20 ⟨v20,rfl,o20,b20⟩
    have r20:=row_iv o20 la
    clear o20
    obtain ⟨g20,k20,rfl⟩:=r20.val
    refine ⟨_,rfl,?_⟩
    have O20:=Aside0.mk r20
    have B20:=Aside0.mk b20
    have s20:=b20.size
    refine hK.out _ _ (hHeld.step b20) (fun hHeld => ?_)
    clear r20 b20
    clear hK K
    refine norm_ (a':=?_) ?_ ?_
    rotate_left
    ·show Act.put _ (some 20) _ = _
     simp only [Act.put,List.setIfInBounds_toArray,List.set_cons_zero,List.set_cons_succ,i64_w,i32_w,f1.out,f2.out,f3.out,f4.out,f5.out]
     rfl
    refine two_ (i:=7) (j:=15) (Ni:=some 22) (Nj:=some 30) (ba_ 20 98303) (ba_ 20 130943) rfl rfl rfl rfl (two_of HT_.out (by kernel_rfl)) (by decide) (by decide) (fun K hK => ?_) (fun K hK => ?_)
    ·refine goes_ Try.func48 (by kernel_rfl) rfl #[.slice A1 b.length c1] (by rfl) rfl rfl (by simp only [List.map_toArray,List.map_cons,List.map_nil];rfl) ?_
     refine (spec_LeftLeaf.calls q A1 c1 b _ _ (Kd.C_below HR1.out hHeld.bel) HC1.out Hd.out).mono ?_
     rintro e w22 ⟨v22,rfl,o22,b22⟩
     have r22:=row_iv o22 lb
     clear o22
     obtain ⟨g22,k22,rfl⟩:=r22.val
     refine ⟨_,rfl,?_⟩
     have O22:=Aside0.mk r22
     have B22:=Aside0.mk b22
     have s22:=b22.size
     refine hK.out _ _ (hHeld.step b22) (fun hHeld => ?_)
     clear r22 b22
     clear hK K
     refine norm_ (a':=?_) ?_ ?_
     rotate_left
     ·show Act.put _ (some 22) _ = _
      simp only [Act.put,List.setIfInBounds_toArray,List.set_cons_zero,List.set_cons_succ,i64_w,i32_w,f1.out,f2.out,f3.out,f4.out,f5.out]
      rfl
     refine one_ (i:=15) (N:=some 30) (ba_ 20 131071) rfl rfl (one_of HT_.out (by kernel_rfl)) (by decide) (fun K hK => ?_)
     refine make_step (by rfl) (N:=30) rfl 23 _ _ rfl nn (by rfl) (by rfl) Try.underlying23 info3 HNL.out ?_
     intro gb hgb w30 hb30 b30
     replace hgb:=Aside0.mk hgb
     have O30:=Aside0.mk hb30
     have B30:=Aside0.mk b30
     have s30:=b30.size
     have t30:=blk_lt hb30
     refine hK.out _ _ (hHeld.step b30) (fun hHeld => ?_)
     clear hb30 b30
     clear hK K
     refine norm_ (a':=?_) ?_ ?_
     rotate_left
     ·show Act.put _ (some 30) _ = _
      simp only [Act.put,List.setIfInBounds_toArray,List.set_cons_zero,List.set_cons_succ,i64_w,i32_w,f1.out,f2.out,f3.out,f4.out,f5.out]
      rfl
     refine pure_ (i:=17) (N:=some 32) (v:=?_) (a':=?_) (ba_ 20 262143) rfl rfl (any_of HT_.out (by kernel_rfl)) (fun _ _ _ h => h) (Or.inl ⟨by rfl,?_⟩) ?_ ?_
     rotate_left
     ·intro w'
      go_simp
      with_reducible rfl
     rotate_left
     ·simp only [Act.put,List.setIfInBounds_toArray,List.set_cons_zero,List.set_cons_succ,i64_w,i32_w,f1.out,f2.out,f3.out,f4.out,f5.out]
      rfl
     refine one_ (i:=18) (N:=some 33) (ba_ 20 524287) rfl rfl (one_of HT_.out (by kernel_rfl)) (by decide) (fun K hK => ?_)
     refine box_step (by rfl) (N:=33) (by rfl) (cs:=#[.slice (some ⟨g16,0,none⟩) a.length k16,.slice (some ⟨g18,0,none⟩) b.length k18,.slice (some ⟨g20,0,none⟩) a.length k20,.slice (some ⟨g22,0,none⟩) b.length k22,.slice (some ⟨gb,0,none⟩) nn nn,.slice A2 d.length c2,.slice A3 n.length c3,.slice A4 r.length c4]) (t:=100) (by first | (go_simp;done) | (go_simp;rfl)) ?_
     intro g hg w33 hb33 b33
     replace hg:=Aside0.mk hg
     have O33:=Aside0.mk hb33
     have B33:=Aside0.mk b33
     have s33:=b33.size
     have t33:=blk_lt hb33
     refine hK.out _ _ (hHeld.step b33) (fun hHeld => ?_)
     clear hb33 b33
     clear hK K
     refine norm_ (a':=?_) ?_ ?_
     rotate_left
     ·show Act.put _ (some 33) _ = _
      simp only [Act.put,List.setIfInBounds_toArray,List.set_cons_zero,List.set_cons_succ,i64_w,i32_w,f1.out,f2.out,f3.out,f4.out,f5.out]
      rfl
     refine pure_ (i:=19) (N:=some 6) (v:=?_) (a':=?_) (ba_ 20 1048575) rfl rfl (any_of HT_.out (by kernel_rfl)) (fun _ _ _ h => h) (Or.inl ⟨by rfl,?_⟩) ?_ ?_
     rotate_left
     ·intro w'
      go_simp
      with_reducible rfl
     rotate_left
     ·simp only [Act.put,List.setIfInBounds_toArray,List.set_cons_zero,List.set_cons_succ,i64_w,i32_w,f1.out,f2.out,f3.out,f4.out,f5.out]
      rfl
     refine done_ (done_of HT_.out (by kernel_rfl)) ?_
     go_wp2
     go_ret
     have hg:=hg.out
     have hgb:=hgb.out
     refine ⟨g,gb,rfl,hHeld.bel,by omega,by omega,(B33.out.block gb t30).trans O30.out,_,_,_,_,O33.out,(O16.out.below (below_step (below_step (below_step (below_step B18.out B20.out) B22.out) B30.out) B33.out)).row1 (by omega),(O18.out.below (below_step (below_step (below_step B20.out B22.out) B30.out) B33.out)).row1 (by omega),(O20.out.below (below_step (below_step B22.out B30.out) B33.out)).row1 (by omega),(O22.out.below (below_step B30.out B33.out)).row1 (by omega)⟩
    ·refine make_step (by rfl) (N:=30) rfl 23 _ _ rfl nn (by rfl) (by rfl) Try.underlying23 info3 HNL.out ?_
     intro gb hgb w30 hb30 b30
     replace hgb:=Aside0.mk hgb
     have O30:=Aside0.mk hb30
     have B30:=Aside0.mk b30
     have s30:=b30.size
     have t30:=blk_lt hb30
     refine hK.out _ _ (hHeld.step b30) (fun hHeld => ?_)
     clear hb30 b30
     clear hK K
     refine norm_ (a':=?_) ?_ ?_
     rotate_left
     ·show Act.put _ (some 30) _ = _
      simp only [Act.put,List.setIfInBounds_toArray,List.set_cons_zero,List.set_cons_succ,i64_w,i32_w,f1.out,f2.out,f3.out,f4.out,f5.out]
      rfl
     refine one_ (i:=7) (N:=some 22) (ba_ 20 131071) rfl rfl (one_of HT_.out (by kernel_rfl)) (by decide) (fun K hK => ?_)
     refine goes_ Try.func48 (by kernel_rfl) rfl #[.slice A1 b.length c1] (by rfl) rfl rfl (by simp only [List.map_toArray,List.map_cons,List.map_nil];rfl) ?_
     refine (spec_LeftLeaf.calls q A1 c1 b _ _ (Kd.C_below HR1.out hHeld.bel) HC1.out Hd.out).mono ?_
     rintro e w22 ⟨v22,rfl,o22,b22⟩
     have r22:=row_iv o22 lb
     clear o22
     obtain ⟨g22,k22,rfl⟩:=r22.val
     refine ⟨_,rfl,?_⟩
     have O22:=Aside0.mk r22
     have B22:=Aside0.mk b22
     have s22:=b22.size
     refine hK.out _ _ (hHeld.step b22) (fun hHeld => ?_)
     clear r22 b22
     clear hK K
     refine norm_ (a':=?_) ?_ ?_
     rotate_left
     ·show Act.put _ (some 22) _ = _
      simp only [Act.put,List.setIfInBounds_toArray,List.set_cons_zero,List.set_cons_succ,i64_w,i32_w,f1.out,f2.out,f3.out,f4.out,f5.out]
      rfl
     refine pure_ (i:=17) (N:=some 32) (v:=?_) (a':=?_) (ba_ 20 262143) rfl rfl (any_of HT_.out (by kernel_rfl)) (fun _ _ _ h => h) (Or.inl ⟨by rfl,?_⟩) ?_ ?_
     rotate_left
     ·intro w'
      go_simp
      with_reducible rfl
     rotate_left
     ·simp only [Act.put,List.setIfInBounds_toArray,List.set_cons_zero,List.set_cons_succ,i64_w,i32_w,f1.out,f2.out,f3.out,f4.out,f5.out]
      rfl
     refine one_ (i:=18) (N:=some 33) (ba_ 20 524287) rfl rfl (one_of HT_.out (by kernel_rfl)) (by decide) (fun K hK => ?_)
     refine box_step (by rfl) (N:=33) (by rfl) (cs:=#[.slice (some ⟨g16,0,none⟩) a.length k16,.slice (some ⟨g18,0,none⟩) b.length k18,.slice (some ⟨g20,0,none⟩) a.length k20,.slice (some ⟨g22,0,none⟩) b.length k22,.slice (some ⟨gb,0,none⟩) nn nn,.slice A2 d.length c2,.slice A3 n.length c3,.slice A4 r.length c4]) (t:=100) (by first | (go_simp;done) | (go_simp;rfl)) ?_
     intro g hg w33 hb33 b33
     replace hg:=Aside0.mk hg
     have O33:=Aside0.mk hb33
     have B33:=Aside0.mk b33
     have s33:=b33.size
     have t33:=blk_lt hb33
     refine hK.out _ _ (hHeld.step b33) (fun hHeld => ?_)
     clear hb33 b33
     clear hK K
     refine norm_ (a':=?_) ?_ ?_
     rotate_left
     ·show Act.put _ (some 33) _ = _
      simp only [Act.put,List.setIfInBounds_toArray,List.set_cons_zero,List.set_cons_succ,i64_w,i32_w,f1.out,f2.out,f3.out,f4.out,f5.out]
      rfl
     refine pure_ (i:=19) (N:=some 6) (v:=?_) (a':=?_) (ba_ 20 1048575) rfl rfl (any_of HT_.out (by kernel_rfl)) (fun _ _ _ h => h) (Or.inl ⟨by rfl,?_⟩) ?_ ?_
     rotate_left
     ·intro w'
      go_simp
      with_reducible rfl
     rotate_left
     ·simp only [Act.put,List.setIfInBounds_toArray,List.set_cons_zero,List.set_cons_succ,i64_w,i32_w,f1.out,f2.out,f3.out,f4.out,f5.out]
      rfl
     refine done_ (done_of HT_.out (by kernel_rfl)) ?_
     go_wp2
     go_ret
     have hg:=hg.out
     have hgb:=hgb.out
     refine ⟨g,gb,rfl,hHeld.bel,by omega,by omega,((below_step B22.out B33.out).block gb t30).trans O30.out,_,_,_,_,O33.out,(O16.out.below (below_step (below_step (below_step (below_step B18.out B20.out) B30.out) B22.out) B33.out)).row1 (by omega),(O18.out.below (below_step (below_step (below_step B20.out B30.out) B22.out) B33.out)).row1 (by omega),(O20.out.below (below_step (below_step B30.out B22.out) B33.out)).row1 (by omega),(O22.out.below B33.out).row1 (by omega)⟩
   ·refine make_step (by rfl) (N:=30) rfl 23 _ _ rfl nn (by rfl) (by rfl) Try.underlying23 info3 HNL.out ?_
    intro gb hgb w30 hb30 b30
    replace hgb:=Aside0.mk hgb
    have O30:=Aside0.mk hb30
    have B30:=Aside0.mk b30
    have s30:=b30.size
    have t30:=blk_lt hb30
    refine hK.out _ _ (hHeld.step b30) (fun hHeld => ?_)
    clear hb30 b30
    clear hK K
    refine norm_ (a':=?_) ?_ ?_
    rotate_left
    ·show Act.put _ (some 30) _ = _
     simp only [Act.put,List.setIfInBounds_toArray,List.set_cons_zero,List.set_cons_succ,i64_w,i32_w,f1.out,f2.out,f3.out,f4.out,f5.out]
     rfl
    refine one_ (i:=5) (N:=some 20) (ba_ 20 130943) rfl rfl (one_of HT_.out (by kernel_rfl)) (by decide) (fun K hK => ?_)
    refine goes_ Try.func48 (by kernel_rfl) rfl #[.slice A0 a.length c0] (by rfl) rfl rfl (by simp only [List.map_toArray,List.map_cons,List.map_nil];rfl) ?_
    refine (spec_LeftLeaf.calls q A0 c0 a _ _ (Kd.C_below HR0.out hHeld.bel) HC0.out Hc.out).mono ?_
    rintro e w20 ⟨v20,rfl,o20,b20⟩
    have r20:=row_iv o20 la
    clear o20
    obtain ⟨g20,k20,rfl⟩:=r20.val
    refine ⟨_,rfl,?_⟩
    have O20:=Aside0.mk r20
    have B20:=Aside0.mk b20
    have s20:=b20.size
    refine hK.out _ _ (hHeld.step b20) (fun hHeld => ?_)
    clear r20 b20
    clear hK K
    refine norm_ (a':=?_) ?_ ?_
    rotate_left
    ·show Act.put _ (some 20) _ = _
     simp only [Act.put,List.setIfInBounds_toArray,List.set_cons_zero,List.set_cons_succ,i64_w,i32_w,f1.out,f2.out,f3.out,f4.out,f5.out]
     rfl
    refine one_ (i:=7) (N:=some 22) (ba_ 20 131071) rfl rfl (one_of HT_.out (by kernel_rfl)) (by decide) (fun K hK => ?_)
    refine goes_ Try.func48 (by kernel_rfl) rfl #[.slice A1 b.length c1] (by rfl) rfl rfl (by simp only [List.map_toArray,List.map_cons,List.map_nil];rfl) ?_
    refine (spec_LeftLeaf.calls q A1 c1 b _ _ (Kd.C_below HR1.out hHeld.bel) HC1.out Hd.out).mono ?_
    rintro e w22 ⟨v22,rfl,o22,b22⟩
    have r22:=row_iv o22 lb
    clear o22
    obtain ⟨g22,k22,rfl⟩:=r22.val
    refine ⟨_,rfl,?_⟩
    have O22:=Aside0.mk r22
    have B22:=Aside0.mk b22
    have s22:=b22.size
    refine hK.out _ _ (hHeld.step b22) (fun hHeld => ?_)
    clear r22 b22
    clear hK K
    refine norm_ (a':=?_) ?_ ?_
    rotate_left
    ·show Act.put _ (some 22) _ = _
     simp only [Act.put,List.setIfInBounds_toArray,List.set_cons_zero,List.set_cons_succ,i64_w,i32_w,f1.out,f2.out,f3.out,f4.out,f5.out]
     rfl
    refine pure_ (i:=17) (N:=some 32) (v:=?_) (a':=?_) (ba_ 20 262143) rfl rfl (any_of HT_.out (by kernel_rfl)) (fun _ _ _ h => h) (Or.inl ⟨by rfl,?_⟩) ?_ ?_
    rotate_left
    ·intro w'
     go_simp
     with_reducible rfl
    rotate_left
    ·simp only [Act.put,List.setIfInBounds_toArray,List.set_cons_zero,List.set_cons_succ,i64_w,i32_w,f1.out,f2.out,f3.out,f4.out,f5.out]
     rfl
    refine one_ (i:=18) (N:=some 33) (ba_ 20 524287) rfl rfl (one_of HT_.out (by kernel_rfl)) (by decide) (fun K hK => ?_)
    refine box_step (by rfl) (N:=33) (by rfl) (cs:=#[.slice (some ⟨g16,0,none⟩) a.length k16,.slice (some ⟨g18,0,none⟩) b.length k18,.slice (some ⟨g20,0,none⟩) a.length k20,.slice (some ⟨g22,0,none⟩) b.length k22,.slice (some ⟨gb,0,none⟩) nn nn,.slice A2 d.length c2,.slice A3 n.length c3,.slice A4 r.length c4]) (t:=100) (by first | (go_simp;done) | (go_simp;rfl)) ?_
    intro g hg w33 hb33 b33
    replace hg:=Aside0.mk hg
    have O33:=Aside0.mk hb33
    have B33:=Aside0.mk b33
    have s33:=b33.size
    have t33:=blk_lt hb33
    refine hK.out _ _ (hHeld.step b33) (fun hHeld => ?_)
    clear hb33 b33
    clear hK K
    refine norm_ (a':=?_) ?_ ?_
    rotate_left
    ·show Act.put _ (some 33) _ = _
     simp only [Act.put,List.setIfInBounds_toArray,List.set_cons_zero,List.set_cons_succ,i64_w,i32_w,f1.out,f2.out,f3.out,f4.out,f5.out]
     rfl
    refine pure_ (i:=19) (N:=some 6) (v:=?_) (a':=?_) (ba_ 20 1048575) rfl rfl (any_of HT_.out (by kernel_rfl)) (fun _ _ _ h => h) (Or.inl ⟨by rfl,?_⟩) ?_ ?_
    rotate_left
    ·intro w'
     go_simp
     with_reducible rfl
    rotate_left
    ·simp only [Act.put,List.setIfInBounds_toArray,List.set_cons_zero,List.set_cons_succ,i64_w,i32_w,f1.out,f2.out,f3.out,f4.out,f5.out]
     rfl
    refine done_ (done_of HT_.out (by kernel_rfl)) ?_
    go_wp2
    go_ret
    have hg:=hg.out
    have hgb:=hgb.out
    refine ⟨g,gb,rfl,hHeld.bel,by omega,by omega,((below_step (below_step B20.out B22.out) B33.out).block gb t30).trans O30.out,_,_,_,_,O33.out,(O16.out.below (below_step (below_step (below_step (below_step B18.out B30.out) B20.out) B22.out) B33.out)).row1 (by omega),(O18.out.below (below_step (below_step (below_step B30.out B20.out) B22.out) B33.out)).row1 (by omega),(O20.out.below (below_step B22.out B33.out)).row1 (by omega),(O22.out.below B33.out).row1 (by omega)⟩
  ·refine make_step (by rfl) (N:=30) rfl 23 _ _ rfl nn (by rfl) (by rfl) Try.underlying23 info3 HNL.out ?_
   intro gb hgb w30 hb30 b30
   replace hgb:=Aside0.mk hgb
   have O30:=Aside0.mk hb30
   have B30:=Aside0.mk b30
   have s30:=b30.size
   have t30:=blk_lt hb30
   refine hK.out _ _ (hHeld.step b30) (fun hHeld => ?_)
   clear hb30 b30
   clear hK K
   refine norm_ (a':=?_) ?_ ?_
   rotate_left
   ·show Act.put _ (some 30) _ = _
    simp only [Act.put,List.setIfInBounds_toArray,List.set_cons_zero,List.set_cons_succ,i64_w,i32_w,f1.out,f2.out,f3.out,f4.out,f5.out]
    rfl
   refine one_ (i:=3) (N:=some 18) (ba_ 20 130911) rfl rfl (one_of HT_.out (by kernel_rfl)) (by decide) (fun K hK => ?_)
   refine goes_ Try.func81 (by kernel_rfl) rfl #[.slice A1 b.length c1] (by rfl) rfl rfl (by simp only [List.map_toArray,List.map_cons,List.map_nil];rfl) ?_
   refine (spec_l8Labels.calls q A1 c1 b _ _ (Kd.C_below HR1.out hHeld.bel) HC1.out Hb.out).mono ?_
   rintro e w18 ⟨v18,rfl,o18,b18⟩
   have r18:=row_iv o18 lb
   clear o18
   obtain ⟨g18,k18,rfl⟩:=r18.val
   refine ⟨_,rfl,?_⟩
   have O18:=Aside0.mk r18
   have B18:=Aside0.mk b18
   have s18:=b18.size
   refine hK.out _ _ (hHeld.step b18) (fun hHeld => ?_)
   clear r18 b18
   clear hK K
   refine norm_ (a':=?_) ?_ ?_
   rotate_left
   ·show Act.put _ (some 18) _ = _
    simp only [Act.put,List.setIfInBounds_toArray,List.set_cons_zero,List.set_cons_succ,i64_w,i32_w,f1.out,f2.out,f3.out,f4.out,f5.out]
    rfl
   refine one_ (i:=5) (N:=some 20) (ba_ 20 130943) rfl rfl (one_of HT_.out (by kernel_rfl)) (by decide) (fun K hK => ?_)
   refine goes_ Try.func48 (by kernel_rfl) rfl #[.slice A0 a.length c0] (by rfl) rfl rfl (by simp only [List.map_toArray,List.map_cons,List.map_nil];rfl) ?_
   refine (spec_LeftLeaf.calls q A0 c0 a _ _ (Kd.C_below HR0.out hHeld.bel) HC0.out Hc.out).mono ?_
   rintro e w20 ⟨v20,rfl,o20,b20⟩
   have r20:=row_iv o20 la
   clear o20
   obtain ⟨g20,k20,rfl⟩:=r20.val
   refine ⟨_,rfl,?_⟩
   have O20:=Aside0.mk r20
   have B20:=Aside0.mk b20
   have s20:=b20.size
   refine hK.out _ _ (hHeld.step b20) (fun hHeld => ?_)
   clear r20 b20
   clear hK K
   refine norm_ (a':=?_) ?_ ?_
   rotate_left
   ·show Act.put _ (some 20) _ = _
    simp only [Act.put,List.setIfInBounds_toArray,List.set_cons_zero,List.set_cons_succ,i64_w,i32_w,f1.out,f2.out,f3.out,f4.out,f5.out]
    rfl
   refine one_ (i:=7) (N:=some 22) (ba_ 20 131071) rfl rfl (one_of HT_.out (by kernel_rfl)) (by decide) (fun K hK => ?_)
   refine goes_ Try.func48 (by kernel_rfl) rfl #[.slice A1 b.length c1] (by rfl) rfl rfl (by simp only [List.map_toArray,List.map_cons,List.map_nil];rfl) ?_
   refine (spec_LeftLeaf.calls q A1 c1 b _ _ (Kd.C_below HR1.out hHeld.bel) HC1.out Hd.out).mono ?_
   rintro e w22 ⟨v22,rfl,o22,b22⟩
   have r22:=row_iv o22 lb
   clear o22
   obtain ⟨g22,k22,rfl⟩:=r22.val
   refine ⟨_,rfl,?_⟩
   have O22:=Aside0.mk r22
   have B22:=Aside0.mk b22
   have s22:=b22.size
   refine hK.out _ _ (hHeld.step b22) (fun hHeld => ?_)
   clear r22 b22
   clear hK K
   refine norm_ (a':=?_) ?_ ?_
   rotate_left
   ·show Act.put _ (some 22) _ = _
    simp only [Act.put,List.setIfInBounds_toArray,List.set_cons_zero,List.set_cons_succ,i64_w,i32_w,f1.out,f2.out,f3.out,f4.out,f5.out]
    rfl
   refine pure_ (i:=17) (N:=some 32) (v:=?_) (a':=?_) (ba_ 20 262143) rfl rfl (any_of HT_.out (by kernel_rfl)) (fun _ _ _ h => h) (Or.inl ⟨by rfl,?_⟩) ?_ ?_
   rotate_left
   ·intro w'
    go_simp
    with_reducible rfl
   rotate_left
   ·simp only [Act.put,List.setIfInBounds_toArray,List.set_cons_zero,List.set_cons_succ,i64_w,i32_w,f1.out,f2.out,f3.out,f4.out,f5.out]
    rfl
   refine one_ (i:=18) (N:=some 33) (ba_ 20 524287) rfl rfl (one_of HT_.out (by kernel_rfl)) (by decide) (fun K hK => ?_)
   refine box_step (by rfl) (N:=33) (by rfl) (cs:=#[.slice (some ⟨g16,0,none⟩) a.length k16,.slice (some ⟨g18,0,none⟩) b.length k18,.slice (some ⟨g20,0,none⟩) a.length k20,.slice (some ⟨g22,0,none⟩) b.length k22,.slice (some ⟨gb,0,none⟩) nn nn,.slice A2 d.length c2,.slice A3 n.length c3,.slice A4 r.length c4]) (t:=100) (by first | (go_simp;done) | (go_simp;rfl)) ?_
   intro g hg w33 hb33 b33
   replace hg:=Aside0.mk hg
   have O33:=Aside0.mk hb33
   have B33:=Aside0.mk b33
   have s33:=b33.size
   have t33:=blk_lt hb33
   refine hK.out _ _ (hHeld.step b33) (fun hHeld => ?_)
   clear hb33 b33
   clear hK K
   refine norm_ (a':=?_) ?_ ?_
   rotate_left
   ·show Act.put _ (some 33) _ = _
    simp only [Act.put,List.setIfInBounds_toArray,List.set_cons_zero,List.set_cons_succ,i64_w,i32_w,f1.out,f2.out,f3.out,f4.out,f5.out]
    rfl
   refine pure_ (i:=19) (N:=some 6) (v:=?_) (a':=?_) (ba_ 20 1048575) rfl rfl (any_of HT_.out (by kernel_rfl)) (fun _ _ _ h => h) (Or.inl ⟨by rfl,?_⟩) ?_ ?_
   rotate_left
   ·intro w'
    go_simp
    with_reducible rfl
   rotate_left
   ·simp only [Act.put,List.setIfInBounds_toArray,List.set_cons_zero,List.set_cons_succ,i64_w,i32_w,f1.out,f2.out,f3.out,f4.out,f5.out]
    rfl
   refine done_ (done_of HT_.out (by kernel_rfl)) ?_
   go_wp2
   go_ret
   have hg:=hg.out
   have hgb:=hgb.out
   refine ⟨g,gb,rfl,hHeld.bel,by omega,by omega,((below_step (below_step (below_step B18.out B20.out) B22.out) B33.out).block gb t30).trans O30.out,_,_,_,_,O33.out,(O16.out.below (below_step (below_step (below_step (below_step B30.out B18.out) B20.out) B22.out) B33.out)).row1 (by omega),(O18.out.below (below_step (below_step B20.out B22.out) B33.out)).row1 (by omega),(O20.out.below (below_step B22.out B33.out)).row1 (by omega),(O22.out.below B33.out).row1 (by omega)⟩
 ·refine make_step (by rfl) (N:=30) rfl 23 _ _ rfl nn (by rfl) (by rfl) Try.underlying23 info3 HNL.out ?_
  intro gb hgb w30 hb30 b30
  replace hgb:=Aside0.mk hgb
  have O30:=Aside0.mk hb30
  have B30:=Aside0.mk b30
  have s30:=b30.size
  have t30:=blk_lt hb30
  refine hK.out _ _ (hHeld.step b30) (fun hHeld => ?_)
  clear hb30 b30
  clear hK K
  refine norm_ (a':=?_) ?_ ?_
  rotate_left
  ·show Act.put _ (some 30) _ = _
   simp only [Act.put,List.setIfInBounds_toArray,List.set_cons_zero,List.set_cons_succ,i64_w,i32_w,f1.out,f2.out,f3.out,f4.out,f5.out]
   rfl
  refine one_ (i:=1) (N:=some 16) (ba_ 20 130903) rfl rfl (one_of HT_.out (by kernel_rfl)) (by decide) (fun K hK => ?_)
  refine goes_ Try.func81 (by kernel_rfl) rfl #[.slice A0 a.length c0] (by rfl) rfl rfl (by simp only [List.map_toArray,List.map_cons,List.map_nil];rfl) ?_
  refine (spec_l8Labels.calls q A0 c0 a _ _ (Kd.C_below HR0.out hHeld.bel) HC0.out Ha.out).mono ?_
  rintro e w16 ⟨v16,rfl,o16,b16⟩
  have r16:=row_iv o16 la
  clear o16
  obtain ⟨g16,k16,rfl⟩:=r16.val
  refine ⟨_,rfl,?_⟩
  have O16:=Aside0.mk r16
  have B16:=Aside0.mk b16
  have s16:=b16.size
  refine hK.out _ _ (hHeld.step b16) (fun hHeld => ?_)
  clear r16 b16
  clear hK K
  refine norm_ (a':=?_) ?_ ?_
  rotate_left
  ·show Act.put _ (some 16) _ = _
   simp only [Act.put,List.setIfInBounds_toArray,List.set_cons_zero,List.set_cons_succ,i64_w,i32_w,f1.out,f2.out,f3.out,f4.out,f5.out]
   rfl
  refine one_ (i:=3) (N:=some 18) (ba_ 20 130911) rfl rfl (one_of HT_.out (by kernel_rfl)) (by decide) (fun K hK => ?_)
  refine goes_ Try.func81 (by kernel_rfl) rfl #[.slice A1 b.length c1] (by rfl) rfl rfl (by simp only [List.map_toArray,List.map_cons,List.map_nil];rfl) ?_
  refine (spec_l8Labels.calls q A1 c1 b _ _ (Kd.C_below HR1.out hHeld.bel) HC1.out Hb.out).mono ?_
  rintro e w18 ⟨v18,rfl,o18,b18⟩
  have r18:=row_iv o18 lb
  clear o18
  obtain ⟨g18,k18,rfl⟩:=r18.val
  refine ⟨_,rfl,?_⟩
  have O18:=Aside0.mk r18
  have B18:=Aside0.mk b18
  have s18:=b18.size
  refine hK.out _ _ (hHeld.step b18) (fun hHeld => ?_)
  clear r18 b18
  clear hK K
  refine norm_ (a':=?_) ?_ ?_
  rotate_left
  ·show Act.put _ (some 18) _ = _
   simp only [Act.put,List.setIfInBounds_toArray,List.set_cons_zero,List.set_cons_succ,i64_w,i32_w,f1.out,f2.out,f3.out,f4.out,f5.out]
   rfl
  refine one_ (i:=5) (N:=some 20) (ba_ 20 130943) rfl rfl (one_of HT_.out (by kernel_rfl)) (by decide) (fun K hK => ?_)
  refine goes_ Try.func48 (by kernel_rfl) rfl #[.slice A0 a.length c0] (by rfl) rfl rfl (by simp only [List.map_toArray,List.map_cons,List.map_nil];rfl) ?_
  refine (spec_LeftLeaf.calls q A0 c0 a _ _ (Kd.C_below HR0.out hHeld.bel) HC0.out Hc.out).mono ?_
  rintro e w20 ⟨v20,rfl,o20,b20⟩
  have r20:=row_iv o20 la
  clear o20
  obtain ⟨g20,k20,rfl⟩:=r20.val
  refine ⟨_,rfl,?_⟩
  have O20:=Aside0.mk r20
  have B20:=Aside0.mk b20
  have s20:=b20.size
  refine hK.out _ _ (hHeld.step b20) (fun hHeld => ?_)
  clear r20 b20
  clear hK K
  refine norm_ (a':=?_) ?_ ?_
  rotate_left
  ·show Act.put _ (some 20) _ = _
   simp only [Act.put,List.setIfInBounds_toArray,List.set_cons_zero,List.set_cons_succ,i64_w,i32_w,f1.out,f2.out,f3.out,f4.out,f5.out]
   rfl
  refine one_ (i:=7) (N:=some 22) (ba_ 20 131071) rfl rfl (one_of HT_.out (by kernel_rfl)) (by decide) (fun K hK => ?_)
  refine goes_ Try.func48 (by kernel_rfl) rfl #[.slice A1 b.length c1] (by rfl) rfl rfl (by simp only [List.map_toArray,List.map_cons,List.map_nil];rfl) ?_
  refine (spec_LeftLeaf.calls q A1 c1 b _ _ (Kd.C_below HR1.out hHeld.bel) HC1.out Hd.out).mono ?_
  rintro e w22 ⟨v22,rfl,o22,b22⟩
  have r22:=row_iv o22 lb
  clear o22
  obtain ⟨g22,k22,rfl⟩:=r22.val
  refine ⟨_,rfl,?_⟩
  have O22:=Aside0.mk r22
  have B22:=Aside0.mk b22
  have s22:=b22.size
  refine hK.out _ _ (hHeld.step b22) (fun hHeld => ?_)
  clear r22 b22
  clear hK K
  refine norm_ (a':=?_) ?_ ?_
  rotate_left
  ·show Act.put _ (some 22) _ = _
   simp only [Act.put,List.setIfInBounds_toArray,List.set_cons_zero,List.set_cons_succ,i64_w,i32_w,f1.out,f2.out,f3.out,f4.out,f5.out]
   rfl
  refine pure_ (i:=17) (N:=some 32) (v:=?_) (a':=?_) (ba_ 20 262143) rfl rfl (any_of HT_.out (by kernel_rfl)) (fun _ _ _ h => h) (Or.inl ⟨by rfl,?_⟩) ?_ ?_
  rotate_left
  ·intro w'
   go_simp
   with_reducible rfl
  rotate_left
  ·simp only [Act.put,List.setIfInBounds_toArray,List.set_cons_zero,List.set_cons_succ,i64_w,i32_w,f1.out,f2.out,f3.out,f4.out,f5.out]
   rfl
  refine one_ (i:=18) (N:=some 33) (ba_ 20 524287) rfl rfl (one_of HT_.out (by kernel_rfl)) (by decide) (fun K hK => ?_)
  refine box_step (by rfl) (N:=33) (by rfl) (cs:=#[.slice (some ⟨g16,0,none⟩) a.length k16,.slice (some ⟨g18,0,none⟩) b.length k18,.slice (some ⟨g20,0,none⟩) a.length k20,.slice (some ⟨g22,0,none⟩) b.length k22,.slice (some ⟨gb,0,none⟩) nn nn,.slice A2 d.length c2,.slice A3 n.length c3,.slice A4 r.length c4]) (t:=100) (by first | (go_simp;done) | (go_simp;rfl)) ?_
  intro g hg w33 hb33 b33
  replace hg:=Aside0.mk hg
  have O33:=Aside0.mk hb33
  have B33:=Aside0.mk b33
  have s33:=b33.size
  have t33:=blk_lt hb33
  refine hK.out _ _ (hHeld.step b33) (fun hHeld => ?_)
  clear hb33 b33
  clear hK K
  refine norm_ (a':=?_) ?_ ?_
  rotate_left
  ·show Act.put _ (some 33) _ = _
   simp only [Act.put,List.setIfInBounds_toArray,List.set_cons_zero,List.set_cons_succ,i64_w,i32_w,f1.out,f2.out,f3.out,f4.out,f5.out]
   rfl
  refine pure_ (i:=19) (N:=some 6) (v:=?_) (a':=?_) (ba_ 20 1048575) rfl rfl (any_of HT_.out (by kernel_rfl)) (fun _ _ _ h => h) (Or.inl ⟨by rfl,?_⟩) ?_ ?_
  rotate_left
  ·intro w'
   go_simp
   with_reducible rfl
  rotate_left
  ·simp only [Act.put,List.setIfInBounds_toArray,List.set_cons_zero,List.set_cons_succ,i64_w,i32_w,f1.out,f2.out,f3.out,f4.out,f5.out]
   rfl
  refine done_ (done_of HT_.out (by kernel_rfl)) ?_
  go_wp2
  go_ret
  have hg:=hg.out
  have hgb:=hgb.out
  refine ⟨g,gb,rfl,hHeld.bel,by omega,by omega,((below_step (below_step (below_step (below_step B16.out B18.out) B20.out) B22.out) B33.out).block gb t30).trans O30.out,_,_,_,_,O33.out,(O16.out.below (below_step (below_step (below_step B18.out B20.out) B22.out) B33.out)).row1 (by omega),(O18.out.below (below_step (below_step B20.out B22.out) B33.out)).row1 (by omega),(O20.out.below (below_step B22.out B33.out)).row1 (by omega),(O22.out.below B33.out).row1 (by omega)⟩
end Go.Proofs.Ytelglbebffdaaaa.X
