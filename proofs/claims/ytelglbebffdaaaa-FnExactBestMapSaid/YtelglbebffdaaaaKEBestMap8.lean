/- Part 8 of the proof of FnExactBestMap: what it needs. -/
import Derived.Deep.RegionHeld3
import Derived.Deep.QuietTactic
import Derived.BigQuiet
import Derived.StillTailTactics
import Derived.Test.YtelglbebffdaaaaKEBestMap4
import Derived.Test.YtelglbebffdaaaaKEBestMap6
import Derived.Test.YtelglbebffdaaaaKEBestMap7
namespace Go.Proofs.Ytelglbebffdaaaa.X
open Go.RowKit Go.Proofs.YtelglbebffdaaaaW.PrintWords Go.Proofs.YtelglbebffdaaaaW.PrintLast Go.Proofs.YtelglbebffdaaaaW.PrintMore Go.Proofs.Ytelglbebffdaaaa.Q
set_option linter.unusedVariables false
set_option linter.unusedSimpArgs false
attribute [local go_sem] max2_int min2_int max_two min_two
def pairsL (oa ob : Nat → Nat) (L : List (Nat × Nat)) : List PairI:=L.map fun p => ⟨(oa p.1 : Int),(ob p.2 : Int)⟩
structure Ts (M : Ted.Ms) (A B : Nat) (oa ob : Nat → Nat) (b : Nat) (v0 v1 v2 v3 v4 v5 v6 : Value) (w : World) : Prop where
 mea : Mea M A B w b #[v0,v1,v2,v3,v4,v5,v6]
 oA : Row1 w b v0 A (fun x => (oa x : Int))
 oB : Row1 w b v1 B (fun x => (ob x : Int))
 memo : ∃ ks,Memo M w b ks
section
variable {M : Ted.Ms} {A B : Nat} {oa ob : Nat → Nat} {b : Nat} {v0 v1 v2 v3 v4 v5 v6 : Value} {w w' : World}
theorem Ts.lt (h : Ts M A B oa ob b v0 v1 v2 v3 v4 v5 v6 w) : b < w.heap.size:=by obtain ⟨ks,h1⟩:=h.memo;exact h1.lt
theorem Ts.only (h : Ts M A B oa ob b v0 v1 v2 v3 v4 v5 v6 w) (k : Only b w w') (hm : ∃ ks,Memo M w' b ks) : Ts M A B oa ob b v0 v1 v2 v3 v4 v5 v6 w':=⟨h.mea.only k,h.oA.only k,h.oB.only k,hm⟩
theorem only_below (k : Below w.heap.size w w') : Only b w w':=⟨k.os,k.tape,k.output,k.size,fun x hx _ => k.block x hx⟩
theorem Ts.below (h : Ts M A B oa ob b v0 v1 v2 v3 v4 v5 v6 w) (k : Below w.heap.size w w') : Ts M A B oa ob b v0 v1 v2 v3 v4 v5 v6 w' :=
 h.only (only_below k) (h.memo.elim fun ks hk => ⟨ks,hk.kept (k.block b hk.lt)⟩)
theorem Ts.ch (h : Ts M A B oa ob b v0 v1 v2 v3 v4 v5 v6 w) [c : Ch w w'] : Ts M A B oa ob b v0 v1 v2 v3 v4 v5 v6 w':=h.below c.out
end
abbrev rg (i j k m : Nat) : Value:=.agg #[.int .i64 (i : Int),.int .i64 (j : Int),.int .i64 (k : Int),.int .i64 (m : Int)]
def TraceAt (M : Ted.Ms) (A B : Nat) (oa ob : Nat → Nat) (N : Nat) : Prop:=∀ i j k m : Nat,(j - i) + (m - k) = N → i ≤ j → j ≤ A → k ≤ m → m ≤ B → ∀ (W : World) (b : Nat) (v0 v1 v2 v3 v4 v5 v6 : Value),Ts M A B oa ob b v0 v1 v2 v3 v4 v5 v6 W →
 Calls Try.prog 91 #[.agg #[v0,v1,v2,v3,v4,v5,v6,.map (some b)],rg i j k m] W fun e w' => ∃ u,e = .returned u ∧ PX w' W.heap.size u (pairsL oa ob (Ted.way M i j k m)) ∧ Only b W w' ∧ Ts M A B oa ob b v0 v1 v2 v3 v4 v5 v6 w'
def MatchAt (M : Ted.Ms) (A B : Nat) (oa ob : Nat → Nat) (N : Nat) : Prop:=∀ i j k m : Nat,(j - i) + (m - k) = N → i < j → j ≤ A → k < m → m ≤ B → ∀ (W : World) (b : Nat) (v0 v1 v2 v3 v4 v5 v6 : Value),Ts M A B oa ob b v0 v1 v2 v3 v4 v5 v6 W →
 Calls Try.prog 66 #[.agg #[v0,v1,v2,v3,v4,v5,v6,.map (some b)],rg i j k m] W fun e w' => ∃ u,e = .returned u ∧ PX w' W.heap.size u (pairsL oa ob (Ted.wayM M i j k m)) ∧ Only b W w' ∧ Ts M A B oa ob b v0 v1 v2 v3 v4 v5 v6 w'
structure Fr (W : World) (b g : Nat) (v0 v1 v2 v3 v4 v5 v6 : Value) (i j k m : Nat) (w : World) : Prop where
 bx : w.heap[g]? = some (.cells #[v0,v1,v2,v3,v4,v5,v6,.map (some b)] 86 (0,0))
 rx : w.heap[g + 1]? = some (.cells #[.int .i64 (i : Int),.int .i64 (j : Int),.int .i64 (k : Int),.int .i64 (m : Int)] 75 (0,0))
 only : Only b W w
 far : b < g
 own : W.heap.size ≤ g
section
variable {W w w' : World} {b g i j k m : Nat} {v0 v1 v2 v3 v4 v5 v6 : Value}
theorem Fr.below (h : Fr W b g v0 v1 v2 v3 v4 v5 v6 i j k m w) (q : Below w.heap.size w w') : Fr W b g v0 v1 v2 v3 v4 v5 v6 i j k m w' :=
 ⟨blk_below h.bx q,blk_below h.rx q,h.only.trans (only_below q),h.far,h.own⟩
theorem Fr.after (h : Fr W b g v0 v1 v2 v3 v4 v5 v6 i j k m w) (q : Only b w w') : Fr W b g v0 v1 v2 v3 v4 v5 v6 i j k m w' :=
 have hf:=h.far
 ⟨(q.block g (blk_lt h.bx) (by simp;omega)).trans h.bx,(q.block (g + 1) (blk_lt h.rx) (by simp;omega)).trans h.rx,h.only.trans q,hf,h.own⟩
theorem Fr.start (hb : b < W.heap.size) : Fr W b W.heap.size v0 v1 v2 v3 v4 v5 v6 i j k m ((W.alloc (.cells #[v0,v1,v2,v3,v4,v5,v6,.map (some b)] 86)).alloc (.cells #[.int .i64 (i : Int),.int .i64 (j : Int),.int .i64 (k : Int),.int .i64 (m : Int)] 75)):=by
 have h2:=blk_new (W.alloc (.cells #[v0,v1,v2,v3,v4,v5,v6,.map (some b)] 86)) (.cells #[.int .i64 (i : Int),.int .i64 (j : Int),.int .i64 (k : Int),.int .i64 (m : Int)] 75)
 rw [show (W.alloc (.cells #[v0,v1,v2,v3,v4,v5,v6,.map (some b)] 86)).heap.size = W.heap.size + 1 by simp] at h2
 exact ⟨blk_alloc (blk_new W _) _,h2,only_below (below_alloc (below_alloc (Below.refl _ _) _) _),hb,Nat.le_refl _⟩
end
theorem px_only {w w' : World} {base b : Nat} {v : Value} {l : List PairI} (h : PX w base v l) (k : Only b w w') (hb : b < base) : PX w' base v l:=by
 have h1 : Kd.R k84 84 w base (fun x => x ≠ b) v l:=Kd.R_mono (Kd.R_bound h) (fun x hx => by have:=hx.2.1;omega)
 exact Kd.R_mono (Kd.R_step h1 (fun x ho hlt => k.block x hlt (by simpa using ho))) (fun _ _ => trivial)
section
variable {ops : Array Oper} {o : Oper} {a : Act} {Q : Exit → Act → World → Prop} {Kc : Act → World → Prop} {W : World}
end
section
variable {M : Ted.Ms} {A B : Nat} {oa ob : Nat → Nat} {b g : Nat} {v0 v1 v2 v3 v4 v5 v6 : Value} {w W1 w' : World} {i j k m : Nat}
theorem pairs_len (L : List (Nat × Nat)) : (pairsL oa ob L).length = L.length:=by unfold pairsL;rw [List.length_map]
theorem tr_v {N : Nat} (h : TraceAt M A B oa ob N) (hN : (j - i) + (m - k) = N) (h1 : i ≤ j) (h2 : j ≤ A) (h3 : k ≤ m) (h4 : m ≤ B) (t : Ts M A B oa ob b v0 v1 v2 v3 v4 v5 v6 w) [c : Ch w W1] {L : List PairI} (hL : L = pairsL oa ob (Ted.way M i j k m)) :
  Calls Try.prog 91 #[.agg #[v0,v1,v2,v3,v4,v5,v6,.map (some b)],.agg #[.int .i64 (i : Int),.int .i64 (j : Int),.int .i64 (k : Int),.int .i64 (m : Int)]] W1 fun e w' => ∃ Au cu,e = .returned (.slice Au L.length cu) ∧ PX w' W1.heap.size (.slice Au L.length cu) L ∧ Only b W1 w' ∧ Ts M A B oa ob b v0 v1 v2 v3 v4 v5 v6 w':=by
 subst hL
 refine (h i j k m hN h1 h2 h3 h4 W1 b v0 v1 v2 v3 v4 v5 v6 (t.below c.out)).mono ?_
 rintro e w' ⟨u,rfl,hp,ho,ht⟩
 obtain ⟨Au,cu,rfl⟩:=Kd.R_slice hp
 exact ⟨Au,cu,rfl,hp,ho,ht⟩
theorem blk_two {x : Nat} {o : Obj} (h : w.heap[x]? = some o) [c : Ch w W1] (ho : Only b W1 w') (hx : b < x) : w'.heap[x]? = some o :=
 have h1:=blk_below h c.out
 (ho.block x (blk_lt h1) (by simp;omega)).trans h1
theorem px_two {base : Nat} {v : Value} {l : List PairI} (h : PX w base v l) [c : Ch w W1] (ho : Only b W1 w') (hb : b < base) : PX w' base v l:=px_only (Kd.R_below h c.out) ho hb
theorem Fr.two {W : World} (h : Fr W b g v0 v1 v2 v3 v4 v5 v6 i j k m w) [c : Ch w W1] (ho : Only b W1 w') : Fr W b g v0 v1 v2 v3 v4 v5 v6 i j k m w':=(h.below c.out).after ho
end
theorem px_C {w : World} {base n c : Nat} {A : Option Addr} {l : List PairI} (h : PX w base (.slice A n c) l) : Kd.C k84 w A l.length l:=(Kd.R_reads' h).2.2
theorem one_C {w : World} {g t : Nat} {x y : Int} (h : w.heap[g]? = some (.cells #[.int .i64 x,.int .i64 y] t (0,0))) : Kd.C k84 w (some ⟨g,0,none⟩) 1 [(⟨x,y⟩ : PairI)]:=by
 refine ⟨rfl,by omega,fun _ => ⟨_,rfl,fun j p hj => ?_⟩⟩
 obtain rfl : j = 0:=by
  have:=(List.getElem?_eq_some_iff.1 hj).1
  simp at this
  exact this
 obtain rfl : (⟨x,y⟩ : PairI) = p:=by simpa using hj
 refine ⟨_,rfl,k84_mk w _,fun i u hu => ?_⟩
 rw [add_plain]
 match i,hu with
 | 0,hu =>
  obtain rfl : Value.int .i64 x = u:=by simpa using hu
  exact (blk_cell h 0).trans rfl
 | 1,hu =>
  obtain rfl : Value.int .i64 y = u:=by simpa using hu
  exact (blk_cell h 1).trans rfl
 | n + 2,hu => simp at hu
theorem co_v {w W1 : World} {g gl t t1 b0 b2 : Nat} {A0 A2 : Option Addr} {c0 c2 : Nat} {x y : Int} {L0 L2 : List PairI} (h0 : PX w b0 (.slice A0 L0.length c0) L0) (lb : w.heap[gl]? = some (.cells #[.int .i64 x,.int .i64 y] t1 (0,0))) (h2 : PX w b2 (.slice A2 L2.length c2) L2) (l0 : L0.length ≤ 100) (l2 : L2.length ≤ 100) [c : Ch w W1]
  (hg : W1.heap[g]? = some (.cells #[.slice A0 L0.length c0,.slice (some ⟨gl,0,none⟩) 1 1,.slice A2 L2.length c2] t (0,0)):=by first | exact blk_new _ _ | exact blk_drew (blk_new _ _)) :
  Calls Try.prog 90 #[.slice (some ⟨g,0,none⟩) 3 3] W1 fun e w' => ∃ v,e = .returned v ∧ PX w' W1.heap.size v (L0 ++ ([⟨x,y⟩] ++ L2)) ∧ Below w.heap.size w w' ∧ w.heap.size ≤ W1.heap.size:=by
 refine (concat3 (L1:=[⟨x,y⟩]) hg (Kd.C_below (px_C h0) c.out) (one_C (blk_below lb c.out)) (Kd.C_below (px_C h2) c.out) l0 (by simp) l2).mono ?_
 rintro e w' ⟨v,rfl,hp,hb⟩
 exact ⟨v,rfl,hp,below_step c.out hb,c.out.size⟩
theorem co_w {w W1 : World} {g t t1 b0 b2 : Nat} {A0 A2 : Option Addr} {c0 c2 : Nat} {x y : Int} {L0 L2 : List PairI} (h0 : PX w b0 (.slice A0 L0.length c0) L0) (h2 : PX w b2 (.slice A2 L2.length c2) L2) (l0 : L0.length ≤ 100) (l2 : L2.length ≤ 100) [c : Ch (w.alloc (.cells #[.int .i64 x,.int .i64 y] t1)) W1]
  (hg : W1.heap[g]? = some (.cells #[.slice A0 L0.length c0,.slice (some ⟨w.heap.size,0,none⟩) 1 1,.slice A2 L2.length c2] t (0,0))) :
  Calls Try.prog 90 #[.slice (some ⟨g,0,none⟩) 3 3] W1 fun e w' => ∃ v,e = .returned v ∧ PX w' W1.heap.size v (L0 ++ ([⟨x,y⟩] ++ L2)) ∧ Below w.heap.size w w' ∧ w.heap.size ≤ W1.heap.size:=by
 have hb:=below_alloc (Below.refl w.heap.size w) (.cells #[.int .i64 x,.int .i64 y] t1)
 refine (concat3 (L1:=[⟨x,y⟩]) hg (Kd.C_below (Kd.C_below (px_C h0) hb) c.out) (one_C (blk_below (blk_new w _) c.out)) (Kd.C_below (Kd.C_below (px_C h2) hb) c.out) l0 (by simp) l2).mono ?_
 rintro e w' ⟨v,rfl,hp,hb2⟩
 exact ⟨v,rfl,hp,below_step hb (below_step c.out hb2),Nat.le_trans hb.size c.out.size⟩
set_option maxHeartbeats 8000000 in
set_option maxRecDepth 100000 in
theorem match_calls {M : Ted.Ms} {A B : Nat} (hA : A ≤ 24) (hB : B ≤ 24) (hla : ∀ p,p < A → M.la p ≤ p) (hlb : ∀ q,q < B → M.lb q ≤ q) {oa ob : Nat → Nat} {N : Nat} (IH : ∀ N',N' < N → TraceAt M A B oa ob N') : MatchAt M A B oa ob N:=by
 intro i j k m hN hip hpA hkq hqB W b v0 v1 v2 v3 v4 v5 v6 hT
 have hu:=Try.underlying86
 have hu2:=Try.underlying75
 have hu3:=Try.underlying70
 obtain ⟨p,hp⟩ : ∃ p,j = p + 1:=⟨j - 1,by omega⟩
 obtain ⟨q,hq⟩ : ∃ q,m = q + 1:=⟨m - 1,by omega⟩
 obtain ⟨c1,c2,c3⟩:=cut_facts (i:=i) (p:=p) (by omega) (hla p (by omega))
 obtain ⟨e1,e2,e3⟩:=cut_facts (i:=k) (p:=q) (by omega) (hlb q (by omega))
 rw [← hp] at c1 c2 c3
 rw [← hq] at e1 e2 e3
 obtain ⟨x,hx⟩ : ∃ x,x = Ted.cut M.la i j:=⟨_,rfl⟩
 obtain ⟨y,hy⟩ : ∃ y,y = Ted.cut M.lb k m:=⟨_,rfl⟩
 rw [← hx] at c1 c2 c3
 rw [← hy] at e1 e2 e3
 have HM1:=Aside0.mk (show Ted.wayM M i j k m = Ted.way M i x k y ++ (p,q) :: Ted.way M x p y q by unfold Ted.wayM;rw [← hx,← hy,hp,hq];rfl)
 have HT:=Aside0.mk hT
 have HI:=Aside0.mk (show TraceAt M A B oa ob ((x - i) + (y - k)) ∧ TraceAt M A B oa ob ((p - x) + (q - y)) from ⟨IH _ (by omega),IH _ (by omega)⟩)
 have HX:=Aside0.mk (show i ≤ x ∧ x ≤ p ∧ k ≤ y ∧ y ≤ q ∧ p < A ∧ q < B ∧ x ≤ A ∧ y ≤ B ∧ p ≤ A ∧ q ≤ B ∧ A ≤ 24 ∧ B ≤ 24 from ⟨c1,c2,e1,e2,by omega,by omega,by omega,by omega,by omega,by omega,hA,hB⟩)
 have g1 : IntKind.i64.wrap ((j : Int) - 1) = (p : Int):=(i64_w _).trans (by rw [hp];exact num_sub (by omega))
 have g2 : IntKind.i64.wrap ((m : Int) - 1) = (q : Int):=(i64_w _).trans (by rw [hq];exact num_sub (by omega))
 have m1:=max_int c3
 have m2:=max_nat c3
 have m3:=max_int e3
 have m4:=max_nat e3
 have b1 : ((p : Int) < (A : Int)) = True:=eq_true (by omega)
 have b2 : (0 ≤ (p : Int)) = True:=eq_true (by omega)
 have b3 : ((q : Int) < (B : Int)) = True:=eq_true (by omega)
 have b4 : (0 ≤ (q : Int)) = True:=eq_true (by omega)
 obtain ⟨u0,u1,u2,u3,u4,u5,u6,eq,h2,h3,h4,h5,h6⟩:=hT.mea.is
 simp only [Array.mk.injEq,List.cons.injEq,and_true] at eq
 obtain ⟨rfl,rfl,rfl,rfl,rfl,rfl,rfl⟩:=eq
 obtain ⟨a2,d2,rfl,_,_,p2⟩:=h2.is
 obtain ⟨a3,d3,rfl,_,_,p3⟩:=h3.is
 obtain ⟨a0,d0,rfl,_,_,p0⟩:=hT.oA.is
 obtain ⟨a1,d1,rfl,_,_,p1⟩:=hT.oB.is
 have HF:=Aside0.mk (Fr.start (v0:=.slice (some a0) A d0) (v1:=.slice (some a1) B d1) (v2:=.slice (some a2) A d2) (v3:=.slice (some a3) B d3) (v4:=v4) (v5:=v5) (v6:=v6) (i:=i) (j:=j) (k:=k) (m:=m) hT.lt)
 have HR:=Aside0.mk (show W.cell? (a2.add p) = some (.int .i64 (M.la p : Int)) ∧ W.cell? (a3.add q) = some (.int .i64 (M.lb q : Int)) ∧ W.cell? (a0.add p) = some (.int .i64 (oa p : Int)) ∧ W.cell? (a1.add q) = some (.int .i64 (ob q : Int)) from ⟨p2 p (by omega),p3 q (by omega),p0 p (by omega),p1 q (by omega)⟩)
 have HB0:=below_alloc (below_alloc (Below.refl W.heap.size W) (.cells #[.slice (some a0) A d0,.slice (some a1) B d1,.slice (some a2) A d2,.slice (some a3) B d3,v4,v5,v6,.map (some b)] 86)) (.cells #[.int .i64 (i : Int),.int .i64 (j : Int),.int .i64 (k : Int),.int .i64 (m : Int)] 75)
 have HB:=Aside0.mk HB0
 clear hla hlb IH hT h2 h3 h4 h5 h6 p0 p1 p2 p3 c1 c2 c3 e1 e2 e3 hp hq hx hy hN hip hpA hkq hqB hA hB HB0
 go_enter Try.func66,Try.ntmps66
 go_upto_region 1 with fail
 obtain ⟨g,hg⟩ : ∃ g,g = W.heap.size:=⟨_,rfl⟩
 have HG:=Aside0.mk hg
 rw [← hg] at HF ⊢
 clear hg
 generalize (W.alloc (.cells #[.slice (some a0) A d0,.slice (some a1) B d1,.slice (some a2) A d2,.slice (some a3) B d3,v4,v5,v6,.map (some b)] 86)).alloc (.cells #[.int .i64 (i : Int),.int .i64 (j : Int),.int .i64 (k : Int),.int .i64 (m : Int)] 75) = w1 at HF HB ⊢
 have y1 : w1.cell? ⟨g + 1,1,none⟩ = some (.int .i64 (j : Int)):=(blk_cell HF.out.rx 1).trans rfl
 have y3 : w1.cell? ⟨g + 1,3,none⟩ = some (.int .i64 (m : Int)):=(blk_cell HF.out.rx 3).trans rfl
 go_still (by kernel_rfl)
 change Exit.then _ _ _ _ w1.drew
 replace HB:=Aside0.mk (below_drew HB.out)
 replace HF:=Aside0.mk (HF.out.below (below_drew (Below.refl _ _)))
 clear y1 y3 g1 g2
 generalize w1.drew = w2 at HB HF ⊢
 go_upto_region 2 with fail
 have y0 : w2.cell? ⟨g + 1,0,none⟩ = some (.int .i64 (i : Int)):=(blk_cell HF.out.rx 0).trans rfl
 have y2 : w2.cell? ⟨g + 1,2,none⟩ = some (.int .i64 (k : Int)):=(blk_cell HF.out.rx 2).trans rfl
 have t2 : w2.cell? ⟨g,2,none⟩ = some (.slice (some a2) A d2):=(blk_cell HF.out.bx 2).trans rfl
 have t3 : w2.cell? ⟨g,3,none⟩ = some (.slice (some a3) B d3):=(blk_cell HF.out.bx 3).trans rfl
 have z2:=pw_cell_below HB.out HR.out.1
 have z3:=pw_cell_below HB.out HR.out.2.1
 go_still (by kernel_rfl)
 change Exit.then _ _ _ _ w2.drew
 replace HB:=Aside0.mk (below_drew HB.out)
 replace HF:=Aside0.mk (HF.out.below (below_drew (Below.refl _ _)))
 clear y0 y2 t2 t3 z2 z3 m1 m2 m3 m4
 generalize w2.drew = w3 at HB HF ⊢
 go_upto_region 3 with fail
 have t0 : w3.cell? ⟨g,0,none⟩ = some (.slice (some a0) A d0):=(blk_cell HF.out.bx 0).trans rfl
 have t1 : w3.cell? ⟨g,1,none⟩ = some (.slice (some a1) B d1):=(blk_cell HF.out.bx 1).trans rfl
 have z0:=pw_cell_below HB.out HR.out.2.2.1
 have z1:=pw_cell_below HB.out HR.out.2.2.2
 go_region_held3 (fun w' => w'.cell? ⟨g,0,none⟩ = some (.slice (some a0) A d0) ∧ w'.cell? ⟨g,1,none⟩ = some (.slice (some a1) B d1) ∧ w'.cell? (a0.add p) = some (.int .i64 (oa p : Int)) ∧ w'.cell? (a1.add q) = some (.int .i64 (ob q : Int))) (first | exact ⟨t0,t1,z0,z1⟩ | exact ⟨pw_cell_below Ch.out t0,pw_cell_below Ch.out t1,pw_cell_below Ch.out z0,pw_cell_below Ch.out z1⟩) ((first | fail))
 clear t0 t1 z0 z1
 obtain ⟨k9,hk9⟩ : ∃ k9,k9 = w3.heap.size:=⟨_,rfl⟩
 have hK:=blk_new w3 (.cells #[.int .i64 (oa p : Int),.int .i64 (ob q : Int)] 84)
 have HX2:=Aside0.mk (show b < k9 by have h1:=blk_lt HF.out.bx;have h2:=HF.out.far;omega)
 rw [← hk9] at hK ⊢
 clear hk9
 have HK:=Aside0.mk (blk_drew hK)
 replace HF:=Aside0.mk (HF.out.below (below_drew (below_alloc (Below.refl w3.heap.size w3) (.cells #[.int .i64 (oa p : Int),.int .i64 (ob q : Int)] 84))))
 replace HT:=Aside0.mk (HT.out.below (below_drew (below_alloc HB.out (.cells #[.int .i64 (oa p : Int),.int .i64 (ob q : Int)] 84))))
 clear hK HB HR
 generalize (w3.alloc (.cells #[.int .i64 (oa p : Int),.int .i64 (ob q : Int)] 84)).drew = w5 at HF HT HK ⊢
 go_upto_region 4 with fail
 obtain ⟨L1,hL1⟩ : ∃ L,L = pairsL oa ob (Ted.way M i x k y):=⟨_,rfl⟩
 obtain ⟨L2,hL2⟩ : ∃ L,L = pairsL oa ob (Ted.way M x p y q):=⟨_,rfl⟩
 have HL:=Aside0.mk (show L1 = pairsL oa ob (Ted.way M i x k y) ∧ L2 = pairsL oa ob (Ted.way M x p y q) ∧ L1.length ≤ 100 ∧ L2.length ≤ 100 from ⟨hL1,hL2,by have:=Ted.way_len M _ i x k y (Nat.le_refl _);have:=HX.out;rw [hL1,pairs_len];omega,by have:=Ted.way_len M _ x p y q (Nat.le_refl _);have:=HX.out;rw [hL2,pairs_len];omega⟩)
 have HX0:=Aside0.mk (Nat.lt_of_lt_of_le HF.out.far (Nat.le_of_lt (blk_lt HF.out.bx)))
 have HX5:=Aside0.mk HT.out.lt
 have HPW:=Aside0.mk (show pairsL oa ob (Ted.wayM M i j k m) = L1 ++ ([⟨(oa p : Int),(ob q : Int)⟩] ++ L2) by rw [HM1.out,hL1,hL2];unfold pairsL;rw [List.map_append,List.map_cons];rfl)
 clear hL1 hL2
 have s0 : w5.cell? ⟨g,0,none⟩ = some _:=(blk_cell HF.out.bx 0).trans rfl;have s1 : w5.cell? ⟨g,1,none⟩ = some _:=(blk_cell HF.out.bx 1).trans rfl;have s2 : w5.cell? ⟨g,2,none⟩ = some _:=(blk_cell HF.out.bx 2).trans rfl;have s3 : w5.cell? ⟨g,3,none⟩ = some _:=(blk_cell HF.out.bx 3).trans rfl;have s4 : w5.cell? ⟨g,4,none⟩ = some _:=(blk_cell HF.out.bx 4).trans rfl;have s5 : w5.cell? ⟨g,5,none⟩ = some _:=(blk_cell HF.out.bx 5).trans rfl;have s6 : w5.cell? ⟨g,6,none⟩ = some _:=(blk_cell HF.out.bx 6).trans rfl;have s7 : w5.cell? ⟨g,7,none⟩ = some _:=(blk_cell HF.out.bx 7).trans rfl;have s8 : w5.cell? ⟨g + 1,0,none⟩ = some _:=(blk_cell HF.out.rx 0).trans rfl;have s9 : w5.cell? ⟨g + 1,2,none⟩ = some _:=(blk_cell HF.out.rx 2).trans rfl;have s10 : w5.cell? ⟨k9,0,none⟩ = some _:=(blk_cell HK.out 0).trans rfl;have s11 : w5.cell? ⟨k9,1,none⟩ = some _:=(blk_cell HK.out 1).trans rfl
 go_region_held3 (fun w' => w'.cell? ⟨g,0,none⟩ = some (.slice (some a0) A d0) ∧ w'.cell? ⟨g,1,none⟩ = some (.slice (some a1) B d1) ∧ w'.cell? ⟨g,2,none⟩ = some (.slice (some a2) A d2) ∧ w'.cell? ⟨g,3,none⟩ = some (.slice (some a3) B d3) ∧ w'.cell? ⟨g,4,none⟩ = some v4 ∧ w'.cell? ⟨g,5,none⟩ = some v5 ∧ w'.cell? ⟨g,6,none⟩ = some v6 ∧ w'.cell? ⟨g,7,none⟩ = some (.map (some b)) ∧ w'.cell? ⟨g + 1,0,none⟩ = some (.int .i64 (i : Int)) ∧ w'.cell? ⟨g + 1,2,none⟩ = some (.int .i64 (k : Int)) ∧ w'.cell? ⟨k9,0,none⟩ = some (.int .i64 (oa p : Int)) ∧ w'.cell? ⟨k9,1,none⟩ = some (.int .i64 (ob q : Int))) (first | exact ⟨pw_cell_below Ch.out s0,pw_cell_below Ch.out s1,pw_cell_below Ch.out s2,pw_cell_below Ch.out s3,pw_cell_below Ch.out s4,pw_cell_below Ch.out s5,pw_cell_below Ch.out s6,pw_cell_below Ch.out s7,pw_cell_below Ch.out s8,pw_cell_below Ch.out s9,pw_cell_below Ch.out s10,pw_cell_below Ch.out s11⟩) ((first | (go_at_call 91;((with_reducible refine (tr_v (i:=i) (j:=x) (k:=k) (m:=y) HI.out.1 rfl HX.out.1 HX.out.2.2.2.2.2.2.1 HX.out.2.2.1 HX.out.2.2.2.2.2.2.2.1 HT.out HL.out.1).mono ?_));rintro e w55 ⟨A55,d55,rfl,hp,ho,ht⟩;(first | have LB:=Aside0.mk (show w55.heap[w5.heap.size]? = some _ from blk_two (w:=w5.drew.alloc (.cells #[.int .i64 (oa p : Int),.int .i64 (ob q : Int)] 84)) (blk_new w5.drew (.cells #[.int .i64 (oa p : Int),.int .i64 (ob q : Int)] 84)) ho HX5.out) | have LB:=Aside0.mk (blk_two (w:=w5.alloc (.cells #[.int .i64 (oa p : Int),.int .i64 (ob q : Int)] 84)) (blk_new w5 (.cells #[.int .i64 (oa p : Int),.int .i64 (ob q : Int)] 84)) ho HX5.out) | skip);have P1:=Aside0.mk hp;replace HK:=Aside0.mk (blk_two HK.out ho HX2.out);replace HF:=Aside0.mk (HF.out.two ho);replace HT:=Aside0.mk ht;clear hp ho ht;clear s0 s1 s2 s3 s4 s5 s6 s7 s8 s9 s10 s11;have s0 : w55.cell? ⟨g,0,none⟩ = some _:=(blk_cell HF.out.bx 0).trans rfl;have s1 : w55.cell? ⟨g,1,none⟩ = some _:=(blk_cell HF.out.bx 1).trans rfl;have s2 : w55.cell? ⟨g,2,none⟩ = some _:=(blk_cell HF.out.bx 2).trans rfl;have s3 : w55.cell? ⟨g,3,none⟩ = some _:=(blk_cell HF.out.bx 3).trans rfl;have s4 : w55.cell? ⟨g,4,none⟩ = some _:=(blk_cell HF.out.bx 4).trans rfl;have s5 : w55.cell? ⟨g,5,none⟩ = some _:=(blk_cell HF.out.bx 5).trans rfl;have s6 : w55.cell? ⟨g,6,none⟩ = some _:=(blk_cell HF.out.bx 6).trans rfl;have s7 : w55.cell? ⟨g,7,none⟩ = some _:=(blk_cell HF.out.bx 7).trans rfl;have s8 : w55.cell? ⟨g + 1,0,none⟩ = some _:=(blk_cell HF.out.rx 0).trans rfl;have s9 : w55.cell? ⟨g + 1,2,none⟩ = some _:=(blk_cell HF.out.rx 2).trans rfl;have s10 : w55.cell? ⟨k9,0,none⟩ = some _:=(blk_cell HK.out 0).trans rfl;have s11 : w55.cell? ⟨k9,1,none⟩ = some _:=(blk_cell HK.out 1).trans rfl) | (go_at_call 91;((with_reducible refine (tr_v (i:=x) (j:=p) (k:=y) (m:=q) HI.out.2 rfl HX.out.2.1 HX.out.2.2.2.2.2.2.2.2.1 HX.out.2.2.2.1 HX.out.2.2.2.2.2.2.2.2.2.1 HT.out HL.out.2.1).mono ?_));rintro e w64 ⟨A64,d64,rfl,hp,ho,ht⟩;(first | replace P1:=Aside0.mk (px_two P1.out ho HX0.out) | replace P1:=Aside0.mk (px_two P1.out ho (by have:=HX0.out;simp;omega)));have HX55:=Aside0.mk HT.out.lt;(first | replace LB:=Aside0.mk (blk_two LB.out ho HX5.out) | have LB:=Aside0.mk (blk_two (w:=w55.alloc (.cells #[.int .i64 (oa p : Int),.int .i64 (ob q : Int)] 84)) (blk_new w55 (.cells #[.int .i64 (oa p : Int),.int .i64 (ob q : Int)] 84)) ho HX55.out) | skip);have P2:=Aside0.mk hp;replace HK:=Aside0.mk (blk_two HK.out ho HX2.out);replace HF:=Aside0.mk (HF.out.two ho);replace HT:=Aside0.mk ht;clear hp ho ht;clear s0 s1 s2 s3 s4 s5 s6 s7 s8 s9 s10 s11;have s0 : w64.cell? ⟨g,0,none⟩ = some _:=(blk_cell HF.out.bx 0).trans rfl;have s1 : w64.cell? ⟨g,1,none⟩ = some _:=(blk_cell HF.out.bx 1).trans rfl;have s2 : w64.cell? ⟨g,2,none⟩ = some _:=(blk_cell HF.out.bx 2).trans rfl;have s3 : w64.cell? ⟨g,3,none⟩ = some _:=(blk_cell HF.out.bx 3).trans rfl;have s4 : w64.cell? ⟨g,4,none⟩ = some _:=(blk_cell HF.out.bx 4).trans rfl;have s5 : w64.cell? ⟨g,5,none⟩ = some _:=(blk_cell HF.out.bx 5).trans rfl;have s6 : w64.cell? ⟨g,6,none⟩ = some _:=(blk_cell HF.out.bx 6).trans rfl;have s7 : w64.cell? ⟨g,7,none⟩ = some _:=(blk_cell HF.out.bx 7).trans rfl;have s8 : w64.cell? ⟨g + 1,0,none⟩ = some _:=(blk_cell HF.out.rx 0).trans rfl;have s9 : w64.cell? ⟨g + 1,2,none⟩ = some _:=(blk_cell HF.out.rx 2).trans rfl;have s10 : w64.cell? ⟨k9,0,none⟩ = some _:=(blk_cell HK.out 0).trans rfl;have s11 : w64.cell? ⟨k9,1,none⟩ = some _:=(blk_cell HK.out 1).trans rfl) | (go_at_call 90;(first | (have hh:=co_v (W1:=w64.alloc (.cells #[.slice A55 L1.length d55,.slice (some ⟨w55.heap.size,0,none⟩) 1 1,.slice A64 L2.length d64] 43)) P1.out LB.out P2.out HL.out.2.2.1 HL.out.2.2.2 (hg:=blk_new _ _);with_reducible refine hh.mono ?_;clear hh) | (have hh:=co_v (W1:=w64.alloc (.cells #[.slice A55 L1.length d55,.slice (some ⟨w5.heap.size,0,none⟩) 1 1,.slice A64 L2.length d64] 43)) P1.out LB.out P2.out HL.out.2.2.1 HL.out.2.2.2 (hg:=blk_new _ _);with_reducible refine hh.mono ?_;clear hh) | (have hh:=co_v (W1:=w64.alloc (.cells #[.slice A55 L1.length d55,.slice (some ⟨w5.drew.heap.size,0,none⟩) 1 1,.slice A64 L2.length d64] 43)) P1.out LB.out P2.out HL.out.2.2.1 HL.out.2.2.2 (hg:=blk_new _ _);with_reducible refine hh.mono ?_;clear hh) | (have hh:=co_w (x:=(oa p : Int)) (y:=(ob q : Int)) (t1:=84) (W1:=(w64.alloc (.cells #[.int .i64 (oa p : Int),.int .i64 (ob q : Int)] 84)).alloc (.cells #[.slice A55 L1.length d55,.slice (some ⟨w64.heap.size,0,none⟩) 1 1,.slice A64 L2.length d64] 43)) P1.out P2.out HL.out.2.2.1 HL.out.2.2.2 (g:=w64.heap.size + 1) (hg:=by have h:=blk_new (w64.alloc (.cells #[.int .i64 (oa p : Int),.int .i64 (ob q : Int)] 84)) (.cells #[.slice A55 L1.length d55,.slice (some ⟨w64.heap.size,0,none⟩) 1 1,.slice A64 L2.length d64] 43);rw [show (w64.alloc (.cells #[.int .i64 (oa p : Int),.int .i64 (ob q : Int)] 84)).heap.size = w64.heap.size + 1 by simp] at h;exact h);refine hh.mono ?_;clear hh));rintro e w66 ⟨v66,rfl,hp,hb,hsz⟩;obtain ⟨A66,d66,e66⟩:=Kd.R_slice hp;subst e66;have PR:=Aside0.mk (Kd.R_lower hp (Nat.le_trans HF.out.only.size hsz));replace HK:=Aside0.mk (blk_below HK.out hb);replace HF:=Aside0.mk (HF.out.below hb);replace HT:=Aside0.mk (HT.out.below hb);clear hp hb hsz;clear s0 s1 s2 s3 s4 s5 s6 s7 s8 s9 s10 s11;have s0 : w66.cell? ⟨g,0,none⟩ = some _:=(blk_cell HF.out.bx 0).trans rfl;have s1 : w66.cell? ⟨g,1,none⟩ = some _:=(blk_cell HF.out.bx 1).trans rfl;have s2 : w66.cell? ⟨g,2,none⟩ = some _:=(blk_cell HF.out.bx 2).trans rfl;have s3 : w66.cell? ⟨g,3,none⟩ = some _:=(blk_cell HF.out.bx 3).trans rfl;have s4 : w66.cell? ⟨g,4,none⟩ = some _:=(blk_cell HF.out.bx 4).trans rfl;have s5 : w66.cell? ⟨g,5,none⟩ = some _:=(blk_cell HF.out.bx 5).trans rfl;have s6 : w66.cell? ⟨g,6,none⟩ = some _:=(blk_cell HF.out.bx 6).trans rfl;have s7 : w66.cell? ⟨g,7,none⟩ = some _:=(blk_cell HF.out.bx 7).trans rfl;have s8 : w66.cell? ⟨g + 1,0,none⟩ = some _:=(blk_cell HF.out.rx 0).trans rfl;have s9 : w66.cell? ⟨g + 1,2,none⟩ = some _:=(blk_cell HF.out.rx 2).trans rfl;have s10 : w66.cell? ⟨k9,0,none⟩ = some _:=(blk_cell HK.out 0).trans rfl;have s11 : w66.cell? ⟨k9,1,none⟩ = some _:=(blk_cell HK.out 1).trans rfl) | fail))
 all_goals (go_wp2;go_ret;exact ⟨_,rfl,by have PR2:=PR.out;rw [show (L1 ++ ([(⟨(oa p : Int),(ob q : Int)⟩ : PairI)] ++ L2)).length = L1.length + (L2.length + 1) by rw [List.length_append];rfl] at PR2;rw [HPW.out];exact PR2,HF.out.only,HT.out⟩)
section
variable {M : Ted.Ms} {A B : Nat} {oa ob : Nat → Nat} {b g : Nat} {v0 v1 v2 v3 v4 v5 v6 : Value} {w W1 w' : World} {i j k m : Nat}
theorem fo_v {N : Nat} (h : ForestAt M A B N) (hN : (j - i) + (m - k) = N) (h1 : i ≤ j) (h2 : j ≤ A) (h3 : k ≤ m) (h4 : m ≤ B) (t : Ts M A B oa ob b v0 v1 v2 v3 v4 v5 v6 w) [c : Ch w W1] :
  Calls Try.prog 58 #[.agg #[v0,v1,v2,v3,v4,v5,v6],.agg #[.int .i64 (i : Int),.int .i64 (j : Int),.int .i64 (k : Int),.int .i64 (m : Int)],.map (some b)] W1 fun e w' => e = .returned (.int .i64 (Ted.D M i j k m)) ∧ Only b W1 w' ∧ Ts M A B oa ob b v0 v1 v2 v3 v4 v5 v6 w':=by
 have t1:=t.below c.out
 obtain ⟨ks,hk⟩:=t1.memo
 refine (show Calls Try.prog 58 #[.agg #[v0,v1,v2,v3,v4,v5,v6],.agg #[.int .i64 (i : Int),.int .i64 (j : Int),.int .i64 (k : Int),.int .i64 (m : Int)],.map (some b)] W1 _ from h i j k m hN h1 h2 h3 h4 W1 b #[v0,v1,v2,v3,v4,v5,v6] ks t1.mea hk).mono ?_
 rintro e w' ⟨rfl,ho,ks',hm,_⟩
 exact ⟨rfl,ho,t1.only ho ⟨ks',hm⟩⟩
theorem ma_v {N : Nat} (h : MatchAt M A B oa ob N) (hN : (j - i) + (m - k) = N) (h1 : i < j) (h2 : j ≤ A) (h3 : k < m) (h4 : m ≤ B) (t : Ts M A B oa ob b v0 v1 v2 v3 v4 v5 v6 w) [c : Ch w W1] {L : List PairI} (hL : L = pairsL oa ob (Ted.wayM M i j k m)) :
  Calls Try.prog 66 #[.agg #[v0,v1,v2,v3,v4,v5,v6,.map (some b)],.agg #[.int .i64 (i : Int),.int .i64 (j : Int),.int .i64 (k : Int),.int .i64 (m : Int)]] W1 fun e w' => ∃ Au cu,e = .returned (.slice Au L.length cu) ∧ PX w' W1.heap.size (.slice Au L.length cu) L ∧ Only b W1 w' ∧ Ts M A B oa ob b v0 v1 v2 v3 v4 v5 v6 w':=by
 subst hL
 refine (h i j k m hN h1 h2 h3 h4 W1 b v0 v1 v2 v3 v4 v5 v6 (t.below c.out)).mono ?_
 rintro e w' ⟨u,rfl,hp,ho,ht⟩
 obtain ⟨Au,cu,rfl⟩:=Kd.R_slice hp
 exact ⟨Au,cu,rfl,hp,ho,ht⟩
end
theorem put4 {w : World} {k t b : Nat} {c0 c1 c2 c3 : Value} (h : w.heap[k]? = some (.cells #[c0,c1,c2,c3] t (0,0))) (x0 x1 x2 x3 : Value) (hb : b < k) :
  ((((w.setCell ⟨k,0,none⟩ x0).setCell ⟨k,1,none⟩ x1).setCell ⟨k,2,none⟩ x2).setCell ⟨k,3,none⟩ x3).heap[k]? = some (.cells #[x0,x1,x2,x3] t (0,0)) ∧ ∀ g0,g0 ≤ k → Below g0 w ((((w.setCell ⟨k,0,none⟩ x0).setCell ⟨k,1,none⟩ x1).setCell ⟨k,2,none⟩ x2).setCell ⟨k,3,none⟩ x3) ∧ ∀ g,g ≠ k → ((((w.setCell ⟨k,0,none⟩ x0).setCell ⟨k,1,none⟩ x1).setCell ⟨k,2,none⟩ x2).setCell ⟨k,3,none⟩ x3).heap[g]? = w.heap[g]?:=by
 have b0:=blk_put h 0 x0 (cs':=#[x0,c1,c2,c3]) rfl
 have b1:=blk_put b0 1 x1 (cs':=#[x0,x1,c2,c3]) rfl
 have b2:=blk_put b1 2 x2 (cs':=#[x0,x1,x2,c3]) rfl
 have far : ∀ (W : World) (j g : Nat) (x : Value),g ≠ k → (W.setCell ⟨k,j,none⟩ x).heap[g]? = W.heap[g]?:=fun W j g x hg => Below.heap_setCell W ⟨k,j,none⟩ x g hg
 refine ⟨blk_put b2 3 x3 rfl,fun g0 hg0 => ⟨((((Below.refl g0 w).setCell hg0 _).setCell hg0 _).setCell hg0 _).setCell hg0 _,fun g hg => ?_⟩⟩
 rw [far _ _ _ _ hg,far _ _ _ _ hg,far _ _ _ _ hg,far _ _ _ _ hg]
section
variable {M : Ted.Ms} {A B : Nat} {oa ob : Nat → Nat} {b g gl i j k m : Nat} {v0 v1 v2 v3 v4 v5 v6 : Value} {W w w' : World}
theorem Ts.set (h : Ts M A B oa ob b v0 v1 v2 v3 v4 v5 v6 w) (h0 : Ts M A B oa ob b v0 v1 v2 v3 v4 v5 v6 W) (f : Fr W b g v0 v1 v2 v3 v4 v5 v6 i j k m w') (q : ∀ g0,g0 ≤ gl → Below g0 w w' ∧ ∀ x,x ≠ gl → w'.heap[x]? = w.heap[x]?) (hb : b < gl) : Ts M A B oa ob b v0 v1 v2 v3 v4 v5 v6 w' :=
 h0.only f.only (h.memo.elim fun ks hk => ⟨ks,hk.kept ((q gl (Nat.le_refl _)).2 b (by omega))⟩)
theorem Fr.set (h : Fr W b g v0 v1 v2 v3 v4 v5 v6 i j k m w) (hg : gl ≠ g ∧ gl ≠ g + 1 ∧ W.heap.size ≤ gl) (q : ∀ g0,g0 ≤ gl → Below g0 w w' ∧ ∀ x,x ≠ gl → w'.heap[x]? = w.heap[x]?) : Fr W b g v0 v1 v2 v3 v4 v5 v6 i j k m w':=by
 obtain ⟨q1,q2⟩:=q W.heap.size hg.2.2
 exact ⟨(q2 g (fun e => hg.1 e.symm)).trans h.bx,(q2 (g + 1) (fun e => hg.2.1 e.symm)).trans h.rx,⟨q1.os.trans h.only.os,q1.tape.trans h.only.tape,q1.output.trans h.only.output,Nat.le_trans h.only.size q1.size,fun x hx hn => (q1.block x hx).trans (h.only.block x hx hn)⟩,h.far,h.own⟩
end
set_option maxHeartbeats 16000000 in
set_option maxRecDepth 100000 in
theorem trace_step {M : Ted.Ms} {A B : Nat} (hs : Small M) (hA : A ≤ 24) (hB : B ≤ 24) (hla : ∀ p,p < A → M.la p ≤ p) (hlb : ∀ q,q < B → M.lb q ≤ q) {oa ob : Nat → Nat} {N : Nat} (IH : ∀ N',N' < N → TraceAt M A B oa ob N') {i j k m : Nat} (hN : (j - i) + (m - k) = N) (hij : i < j) (hj : j ≤ A) (hkm : k < m) (hm : m ≤ B) (W : World) (b : Nat) (v0 v1 v2 v3 v4 v5 v6 : Value) (hT : Ts M A B oa ob b v0 v1 v2 v3 v4 v5 v6 W) :
  Calls Try.prog 91 #[.agg #[v0,v1,v2,v3,v4,v5,v6,.map (some b)],rg i j k m] W fun e w' => ∃ u,e = .returned u ∧ PX w' W.heap.size u (pairsL oa ob (Ted.way M i j k m)) ∧ Only b W w' ∧ Ts M A B oa ob b v0 v1 v2 v3 v4 v5 v6 w':=by
 obtain ⟨u0,u1,u2,u3,u4,u5,u6,eq,h2,h3,h4,h5,h6⟩:=hT.mea.is
 simp only [Array.mk.injEq,List.cons.injEq,and_true] at eq
 obtain ⟨rfl,rfl,rfl,rfl,rfl,rfl,rfl⟩:=eq
 obtain ⟨a4,d4,rfl,_,q4,p4⟩:=h4.is
 obtain ⟨a5,d5,rfl,_,q5,p5⟩:=h5.is
 obtain ⟨p,hp⟩ : ∃ p,j = p + 1:=⟨j - 1,by omega⟩
 obtain ⟨q,hq⟩ : ∃ q,m = q + 1:=⟨m - 1,by omega⟩
 have g1 : IntKind.i64.wrap ((j : Int) - 1) = (p : Int):=(i64_w _).trans (by rw [hp];exact num_sub (by omega))
 have g2 : IntKind.i64.wrap ((m : Int) - 1) = (q : Int):=(i64_w _).trans (by rw [hq];exact num_sub (by omega))
 have g3 : Value.int .i64 (wrap64 ((j : Int) - 1)) = Value.int .i64 (p : Int):=congrArg _ ((i64_w _).symm.trans g1)
 have g4 : Value.int .i64 (wrap64 ((m : Int) - 1)) = Value.int .i64 (q : Int):=congrArg _ ((i64_w _).symm.trans g2)
 have k1 : ((i : Int) = (j : Int)) = False:=eq_false (by omega)
 have k2 : ((k : Int) = (m : Int)) = False:=eq_false (by omega)
 have k3 : (i = j) = False:=eq_false (by omega)
 have k4 : (k = m) = False:=eq_false (by omega)
 have k5 : ((i : Int) == (j : Int)) = false:=beq_eq_false_iff_ne.2 (by omega)
 have k6 : ((k : Int) == (m : Int)) = false:=beq_eq_false_iff_ne.2 (by omega)
 have b1 : ((p : Int) < (A : Int)) = True:=eq_true (by omega)
 have b2 : (0 ≤ (p : Int)) = True:=eq_true (by omega)
 have b3 : ((q : Int) < (B : Int)) = True:=eq_true (by omega)
 have b4 : (0 ≤ (q : Int)) = True:=eq_true (by omega)
 have z4:=p4 p (by omega)
 have z5:=p5 q (by omega)
 have D0:=D_small hs i j k m
 have D1:=D_small hs i p k m
 have D2:=D_small hs i j k q
 have e1:=hs.del p
 have e2:=hs.ins q
 obtain ⟨zz,hzz⟩ : ∃ z,z = Ted.D M i j k m:=⟨_,rfl⟩
 obtain ⟨za,hza⟩ : ∃ z,z = Ted.D M i p k m:=⟨_,rfl⟩
 obtain ⟨zb,hzb⟩ : ∃ z,z = Ted.D M i j k q:=⟨_,rfl⟩
 obtain ⟨pd,hpd⟩ : ∃ z,z = M.del p:=⟨_,rfl⟩
 obtain ⟨pi,hpi⟩ : ∃ z,z = M.ins q:=⟨_,rfl⟩
 rw [← hzz] at D0
 rw [← hza] at D1
 rw [← hzb] at D2
 rw [← hpd] at z4 e1
 rw [← hpi] at z5 e2
 obtain ⟨sa,hsa⟩ : ∃ s,s = za + pd:=⟨_,rfl⟩
 obtain ⟨sb,hsb⟩ : ∃ s,s = zb + pi:=⟨_,rfl⟩
 have g5 : IntKind.i64.wrap (za + pd) = sa:=(i64_w _).trans (by rw [hsa];exact wid (by omega) (by omega))
 have g6 : IntKind.i64.wrap (zb + pi) = sb:=(i64_w _).trans (by rw [hsb];exact wid (by omega) (by omega))
 have HZ:=Aside0.mk (show (W.cell? (a4.add p) = some (.int .i64 pd) ∧ W.cell? (a5.add q) = some (.int .i64 pi)) ∧ a4.block ≠ b ∧ a5.block ≠ b from ⟨⟨z4,z5⟩,by omega,by omega⟩)
 have HDD:=Aside0.mk (show ForestAt M A B ((j - i) + (m - k)) ∧ ForestAt M A B ((p - i) + (m - k)) ∧ ForestAt M A B ((j - i) + (q - k)) from ⟨forest_calls hs hA hB hla hlb _,forest_calls hs hA hB hla hlb _,forest_calls hs hA hB hla hlb _⟩)
 have HE:=Aside0.mk (And.intro hzz (And.intro hza hzb))
 have HX:=Aside0.mk (show i ≤ j ∧ j ≤ A ∧ k ≤ m ∧ m ≤ B ∧ i ≤ p ∧ p ≤ A ∧ k ≤ q ∧ q ≤ B ∧ i < j ∧ k < m from ⟨by omega,by omega,by omega,by omega,by omega,by omega,by omega,by omega,by omega,by omega⟩)
 have hu:=Try.underlying86
 have hu2:=Try.underlying75
 have hu3:=Try.underlying70
 have HG0:=Aside0.mk (below_alloc (below_alloc (Below.refl W.heap.size W) (.cells #[v0,v1,v2,v3,(.slice (some a4) A d4),(.slice (some a5) B d5),v6,.map (some b)] 86)) (.cells #[.int .i64 (i : Int),.int .i64 (j : Int),.int .i64 (k : Int),.int .i64 (m : Int)] 75))
 have HF:=Aside0.mk (Fr.start (v0:=v0) (v1:=v1) (v2:=v2) (v3:=v3) (v4:=(.slice (some a4) A d4)) (v5:=(.slice (some a5) B d5)) (v6:=v6) (i:=i) (j:=j) (k:=k) (m:=m) hT.lt)
 have HT0:=Aside0.mk hT
 have HT:=Aside0.mk (hT.below HG0.out)
 by_cases ha : zz = sa
 ·have HP:=Aside0.mk (show Ted.way M i j k m = Ted.way M i p k m by rw [Ted.way_del hij hkm (by rw [← hzz,ha,hsa,hza,hpd,hp,Nat.add_sub_cancel])];rw [hp,Nat.add_sub_cancel])
  have HI:=Aside0.mk (IH ((p - i) + (m - k)) (by omega))
  rw [HP.out]
  have qa : (zz == sa) = true:=by rw [ha];simp
  clear hs hA hB hla hlb IH hN hij hj hkm hm hT h2 h3 h4 h5 h6 p4 p5 q4 q5 z4 z5 D0 D1 D2 e1 e2 hzz hza hzb hpd hpi hsa hsb hp hq
  clear HP
  go_enter Try.func91,Try.ntmps91
  go_upto_region 1 with fail
  obtain ⟨g,hg⟩ : ∃ g,g = W.heap.size:=⟨_,rfl⟩
  rw [← hg] at HF ⊢
  have HGW:=Aside0.mk hg
  clear hg
  generalize (W.alloc (.cells #[v0,v1,v2,v3,(.slice (some a4) A d4),(.slice (some a5) B d5),v6,.map (some b)] 86)).alloc (.cells #[.int .i64 (i : Int),.int .i64 (j : Int),.int .i64 (k : Int),.int .i64 (m : Int)] 75) = w1 at HF HT HG0 ⊢
  have r0 : w1.cell? ⟨g + 1,0,none⟩ = some _:=(blk_cell HF.out.rx 0).trans rfl
  have r1 : w1.cell? ⟨g + 1,1,none⟩ = some _:=(blk_cell HF.out.rx 1).trans rfl
  have r2 : w1.cell? ⟨g + 1,2,none⟩ = some _:=(blk_cell HF.out.rx 2).trans rfl
  have r3 : w1.cell? ⟨g + 1,3,none⟩ = some _:=(blk_cell HF.out.rx 3).trans rfl
  have s0 : w1.cell? ⟨g,0,none⟩ = some _:=(blk_cell HF.out.bx 0).trans rfl
  have s1 : w1.cell? ⟨g,1,none⟩ = some _:=(blk_cell HF.out.bx 1).trans rfl
  have s2 : w1.cell? ⟨g,2,none⟩ = some _:=(blk_cell HF.out.bx 2).trans rfl
  have s3 : w1.cell? ⟨g,3,none⟩ = some _:=(blk_cell HF.out.bx 3).trans rfl
  have s4 : w1.cell? ⟨g,4,none⟩ = some _:=(blk_cell HF.out.bx 4).trans rfl
  have s5 : w1.cell? ⟨g,5,none⟩ = some _:=(blk_cell HF.out.bx 5).trans rfl
  have s6 : w1.cell? ⟨g,6,none⟩ = some _:=(blk_cell HF.out.bx 6).trans rfl
  have s7 : w1.cell? ⟨g,7,none⟩ = some _:=(blk_cell HF.out.bx 7).trans rfl
  go_upto_region 4 with (go_at_call 58;((with_reducible refine (fo_v (i:=i) (j:=j) (k:=k) (m:=m) HDD.out.1 rfl HX.out.1 HX.out.2.1 HX.out.2.2.1 HX.out.2.2.2.1 HT.out).mono ?_));rw [← HE.out.1];rintro e w24 ⟨rfl,ho,ht⟩;replace HF:=Aside0.mk (HF.out.two ho);replace HT:=Aside0.mk ht;clear ho ht s0 s1 s2 s3 s4 s5 s6 s7 r0 r1 r2 r3;have s0 : w24.cell? ⟨g,0,none⟩ = some _:=(blk_cell HF.out.bx 0).trans rfl;have s1 : w24.cell? ⟨g,1,none⟩ = some _:=(blk_cell HF.out.bx 1).trans rfl;have s2 : w24.cell? ⟨g,2,none⟩ = some _:=(blk_cell HF.out.bx 2).trans rfl;have s3 : w24.cell? ⟨g,3,none⟩ = some _:=(blk_cell HF.out.bx 3).trans rfl;have s4 : w24.cell? ⟨g,4,none⟩ = some _:=(blk_cell HF.out.bx 4).trans rfl;have s5 : w24.cell? ⟨g,5,none⟩ = some _:=(blk_cell HF.out.bx 5).trans rfl;have s6 : w24.cell? ⟨g,6,none⟩ = some _:=(blk_cell HF.out.bx 6).trans rfl;have s7 : w24.cell? ⟨g,7,none⟩ = some _:=(blk_cell HF.out.bx 7).trans rfl;have r0 : w24.cell? ⟨g + 1,0,none⟩ = some _:=(blk_cell HF.out.rx 0).trans rfl;have r1 : w24.cell? ⟨g + 1,1,none⟩ = some _:=(blk_cell HF.out.rx 1).trans rfl;have r2 : w24.cell? ⟨g + 1,2,none⟩ = some _:=(blk_cell HF.out.rx 2).trans rfl;have r3 : w24.cell? ⟨g + 1,3,none⟩ = some _:=(blk_cell HF.out.rx 3).trans rfl)
  clear s0 s1 s2 s3 s4 s5 s6 s7
  go_upto_region 5 with fail
  obtain ⟨gl,hgl⟩ : ∃ gl,gl = w24.heap.size:=⟨_,rfl⟩
  have hB:=blk_new w24 (.cells #[.int .i64 (i : Int),.int .i64 (p : Int),.int .i64 (k : Int),.int .i64 (m : Int)] 75)
  have HGLX:=Aside0.mk (show gl ≠ g ∧ gl ≠ g + 1 ∧ W.heap.size ≤ gl by have h1:=blk_lt HF.out.bx;have h2:=blk_lt HF.out.rx;have h3:=HF.out.only.size;omega)
  have HBG:=Aside0.mk (show b < gl by have h1:=blk_lt HF.out.bx;have h2:=HF.out.far;omega)
  rw [← hgl] at hB ⊢
  clear hgl
  have HB:=Aside0.mk hB
  replace HF:=Aside0.mk (HF.out.below (below_alloc (Below.refl w24.heap.size w24) (.cells #[.int .i64 (i : Int),.int .i64 (p : Int),.int .i64 (k : Int),.int .i64 (m : Int)] 75)))
  replace HT:=Aside0.mk (HT.out.below (below_alloc (Below.refl w24.heap.size w24) (.cells #[.int .i64 (i : Int),.int .i64 (p : Int),.int .i64 (k : Int),.int .i64 (m : Int)] 75)))
  clear hB r0 r1 r2 r3
  generalize w24.alloc (.cells #[.int .i64 (i : Int),.int .i64 (p : Int),.int .i64 (k : Int),.int .i64 (m : Int)] 75) = w25 at HF HT HB ⊢
  have s0 : w25.cell? ⟨g,0,none⟩ = some _:=(blk_cell HF.out.bx 0).trans rfl
  have s1 : w25.cell? ⟨g,1,none⟩ = some _:=(blk_cell HF.out.bx 1).trans rfl
  have s2 : w25.cell? ⟨g,2,none⟩ = some _:=(blk_cell HF.out.bx 2).trans rfl
  have s3 : w25.cell? ⟨g,3,none⟩ = some _:=(blk_cell HF.out.bx 3).trans rfl
  have s4 : w25.cell? ⟨g,4,none⟩ = some _:=(blk_cell HF.out.bx 4).trans rfl
  have s5 : w25.cell? ⟨g,5,none⟩ = some _:=(blk_cell HF.out.bx 5).trans rfl
  have s6 : w25.cell? ⟨g,6,none⟩ = some _:=(blk_cell HF.out.bx 6).trans rfl
  have s7 : w25.cell? ⟨g,7,none⟩ = some _:=(blk_cell HF.out.bx 7).trans rfl
  have r1 : w25.cell? ⟨g + 1,1,none⟩ = some _:=(blk_cell HF.out.rx 1).trans rfl
  have l0 : w25.cell? ⟨gl,0,none⟩ = some _:=(blk_cell HB.out 0).trans rfl
  have l1 : w25.cell? ⟨gl,1,none⟩ = some _:=(blk_cell HB.out 1).trans rfl
  have l2 : w25.cell? ⟨gl,2,none⟩ = some _:=(blk_cell HB.out 2).trans rfl
  have l3 : w25.cell? ⟨gl,3,none⟩ = some _:=(blk_cell HB.out 3).trans rfl
  have zp:=HF.out.only.cell (by rw [add_block];exact HZ.out.2.1) HZ.out.1.1
  go_region_held3 (fun w' => w'.cell? ⟨g,0,none⟩ = some v0 ∧ w'.cell? ⟨g,1,none⟩ = some v1 ∧ w'.cell? ⟨g,2,none⟩ = some v2 ∧ w'.cell? ⟨g,3,none⟩ = some v3 ∧ w'.cell? ⟨g,4,none⟩ = some (.slice (some a4) A d4) ∧ w'.cell? ⟨g,5,none⟩ = some (.slice (some a5) B d5) ∧ w'.cell? ⟨g,6,none⟩ = some v6 ∧ w'.cell? ⟨g,7,none⟩ = some (.map (some b)) ∧ w'.cell? ⟨gl,0,none⟩ = some (.int .i64 (i : Int)) ∧ w'.cell? ⟨gl,1,none⟩ = some (.int .i64 (p : Int)) ∧ w'.cell? ⟨gl,2,none⟩ = some (.int .i64 (k : Int)) ∧ w'.cell? ⟨gl,3,none⟩ = some (.int .i64 (m : Int)) ∧ w'.cell? ⟨g + 1,1,none⟩ = some (.int .i64 (j : Int)) ∧ w'.cell? (a4.add p) = some (.int .i64 pd)) (first | exact ⟨s0,s1,s2,s3,s4,s5,s6,s7,l0,l1,l2,l3,r1,zp⟩) ((go_at_call 58;((with_reducible refine (fo_v (i:=i) (j:=p) (k:=k) (m:=m) HDD.out.2.1 rfl HX.out.2.2.2.2.1 HX.out.2.2.2.2.2.1 HX.out.2.2.1 HX.out.2.2.2.1 HT.out).mono ?_));rw [← HE.out.2.1];rintro e w41 ⟨rfl,ho,ht⟩;replace HB:=Aside0.mk (blk_two HB.out ho HBG.out);replace HF:=Aside0.mk (HF.out.two ho);replace HT:=Aside0.mk ht;clear ho ht s0 s1 s2 s3 s4 s5 s6 s7 l0 l1 l2 l3 r1 zp;have s0 : w41.cell? ⟨g,0,none⟩ = some _:=(blk_cell HF.out.bx 0).trans rfl;have s1 : w41.cell? ⟨g,1,none⟩ = some _:=(blk_cell HF.out.bx 1).trans rfl;have s2 : w41.cell? ⟨g,2,none⟩ = some _:=(blk_cell HF.out.bx 2).trans rfl;have s3 : w41.cell? ⟨g,3,none⟩ = some _:=(blk_cell HF.out.bx 3).trans rfl;have s4 : w41.cell? ⟨g,4,none⟩ = some _:=(blk_cell HF.out.bx 4).trans rfl;have s5 : w41.cell? ⟨g,5,none⟩ = some _:=(blk_cell HF.out.bx 5).trans rfl;have s6 : w41.cell? ⟨g,6,none⟩ = some _:=(blk_cell HF.out.bx 6).trans rfl;have s7 : w41.cell? ⟨g,7,none⟩ = some _:=(blk_cell HF.out.bx 7).trans rfl;have r1 : w41.cell? ⟨g + 1,1,none⟩ = some _:=(blk_cell HF.out.rx 1).trans rfl;have l0 : w41.cell? ⟨gl,0,none⟩ = some _:=(blk_cell HB.out 0).trans rfl;have l1 : w41.cell? ⟨gl,1,none⟩ = some _:=(blk_cell HB.out 1).trans rfl;have l2 : w41.cell? ⟨gl,2,none⟩ = some _:=(blk_cell HB.out 2).trans rfl;have l3 : w41.cell? ⟨gl,3,none⟩ = some _:=(blk_cell HB.out 3).trans rfl;have zp:=HF.out.only.cell (by rw [add_block];exact HZ.out.2.1) HZ.out.1.1))
  clear s0 s1 s2 s3 s4 s5 s6 s7 l0 l1 l2 l3 r1 zp
  have s0 : w41.cell? ⟨g,0,none⟩ = some _:=(blk_cell HF.out.bx 0).trans rfl
  have s1 : w41.cell? ⟨g,1,none⟩ = some _:=(blk_cell HF.out.bx 1).trans rfl
  have s2 : w41.cell? ⟨g,2,none⟩ = some _:=(blk_cell HF.out.bx 2).trans rfl
  have s3 : w41.cell? ⟨g,3,none⟩ = some _:=(blk_cell HF.out.bx 3).trans rfl
  have s4 : w41.cell? ⟨g,4,none⟩ = some _:=(blk_cell HF.out.bx 4).trans rfl
  have s5 : w41.cell? ⟨g,5,none⟩ = some _:=(blk_cell HF.out.bx 5).trans rfl
  have s6 : w41.cell? ⟨g,6,none⟩ = some _:=(blk_cell HF.out.bx 6).trans rfl
  have s7 : w41.cell? ⟨g,7,none⟩ = some _:=(blk_cell HF.out.bx 7).trans rfl
  have l0 : w41.cell? ⟨gl,0,none⟩ = some _:=(blk_cell HB.out 0).trans rfl
  have l1 : w41.cell? ⟨gl,1,none⟩ = some _:=(blk_cell HB.out 1).trans rfl
  have l2 : w41.cell? ⟨gl,2,none⟩ = some _:=(blk_cell HB.out 2).trans rfl
  have l3 : w41.cell? ⟨gl,3,none⟩ = some _:=(blk_cell HB.out 3).trans rfl
  have HSZ : Aside0 (W.heap.size ≤ _):=⟨HF.out.only.size⟩
  go_wp2_with (go_at_call 91;((with_reducible refine (tr_v (i:=i) (j:=p) (k:=k) (m:=m) HI.out rfl HX.out.2.2.2.2.1 HX.out.2.2.2.2.2.1 HX.out.2.2.1 HX.out.2.2.2.1 HT.out rfl).mono ?_));rintro e w54 ⟨Ar,dr,rfl,hp,ho,ht⟩;have PR:=Aside0.mk hp;replace HF:=Aside0.mk (HF.out.two ho);replace HT:=Aside0.mk ht;clear ho ht hp s0 s1 s2 s3 s4 s5 s6 s7)
  go_ret
  exact ⟨_,rfl,Kd.R_lower PR.out HSZ.out,HF.out.only,HT.out⟩
 ·have qa : (zz == sa) = false:=beq_eq_false_iff_ne.2 ha
  have na : ¬ Ted.D M i j k m = Ted.D M i (j - 1) k m + M.del (j - 1):=fun h => ha (by rw [hzz,h,hsa,hza,hpd,hp,Nat.add_sub_cancel])
  by_cases hb : zz = sb
  ·have qb : (zz == sb) = true:=by rw [hb];simp
   have HP:=Aside0.mk (show Ted.way M i j k m = Ted.way M i j k q by rw [Ted.way_ins hij hkm na (by rw [← hzz,hb,hsb,hzb,hpi,hq,Nat.add_sub_cancel])];rw [hq,Nat.add_sub_cancel])
   have HI:=Aside0.mk (IH ((j - i) + (q - k)) (by omega))
   rw [HP.out]
   clear hs hA hB hla hlb IH hN hij hj hkm hm hT h2 h3 h4 h5 h6 p4 p5 q4 q5 z4 z5 D0 D1 D2 e1 e2 hzz hza hzb hpd hpi hsa hsb hp hq
   clear HP na ha
   go_enter Try.func91,Try.ntmps91
   go_upto_region 1 with fail
   obtain ⟨g,hg⟩ : ∃ g,g = W.heap.size:=⟨_,rfl⟩
   rw [← hg] at HF ⊢
   have HGW:=Aside0.mk hg
   clear hg
   generalize (W.alloc (.cells #[v0,v1,v2,v3,(.slice (some a4) A d4),(.slice (some a5) B d5),v6,.map (some b)] 86)).alloc (.cells #[.int .i64 (i : Int),.int .i64 (j : Int),.int .i64 (k : Int),.int .i64 (m : Int)] 75) = w1 at HF HT HG0 ⊢
   have r0 : w1.cell? ⟨g + 1,0,none⟩ = some _:=(blk_cell HF.out.rx 0).trans rfl
   have r1 : w1.cell? ⟨g + 1,1,none⟩ = some _:=(blk_cell HF.out.rx 1).trans rfl
   have r2 : w1.cell? ⟨g + 1,2,none⟩ = some _:=(blk_cell HF.out.rx 2).trans rfl
   have r3 : w1.cell? ⟨g + 1,3,none⟩ = some _:=(blk_cell HF.out.rx 3).trans rfl
   have s0 : w1.cell? ⟨g,0,none⟩ = some _:=(blk_cell HF.out.bx 0).trans rfl
   have s1 : w1.cell? ⟨g,1,none⟩ = some _:=(blk_cell HF.out.bx 1).trans rfl
   have s2 : w1.cell? ⟨g,2,none⟩ = some _:=(blk_cell HF.out.bx 2).trans rfl
   have s3 : w1.cell? ⟨g,3,none⟩ = some _:=(blk_cell HF.out.bx 3).trans rfl
   have s4 : w1.cell? ⟨g,4,none⟩ = some _:=(blk_cell HF.out.bx 4).trans rfl
   have s5 : w1.cell? ⟨g,5,none⟩ = some _:=(blk_cell HF.out.bx 5).trans rfl
   have s6 : w1.cell? ⟨g,6,none⟩ = some _:=(blk_cell HF.out.bx 6).trans rfl
   have s7 : w1.cell? ⟨g,7,none⟩ = some _:=(blk_cell HF.out.bx 7).trans rfl
   go_upto_region 4 with (go_at_call 58;((with_reducible refine (fo_v (i:=i) (j:=j) (k:=k) (m:=m) HDD.out.1 rfl HX.out.1 HX.out.2.1 HX.out.2.2.1 HX.out.2.2.2.1 HT.out).mono ?_));rw [← HE.out.1];rintro e w24 ⟨rfl,ho,ht⟩;replace HF:=Aside0.mk (HF.out.two ho);replace HT:=Aside0.mk ht;clear ho ht s0 s1 s2 s3 s4 s5 s6 s7 r0 r1 r2 r3;have s0 : w24.cell? ⟨g,0,none⟩ = some _:=(blk_cell HF.out.bx 0).trans rfl;have s1 : w24.cell? ⟨g,1,none⟩ = some _:=(blk_cell HF.out.bx 1).trans rfl;have s2 : w24.cell? ⟨g,2,none⟩ = some _:=(blk_cell HF.out.bx 2).trans rfl;have s3 : w24.cell? ⟨g,3,none⟩ = some _:=(blk_cell HF.out.bx 3).trans rfl;have s4 : w24.cell? ⟨g,4,none⟩ = some _:=(blk_cell HF.out.bx 4).trans rfl;have s5 : w24.cell? ⟨g,5,none⟩ = some _:=(blk_cell HF.out.bx 5).trans rfl;have s6 : w24.cell? ⟨g,6,none⟩ = some _:=(blk_cell HF.out.bx 6).trans rfl;have s7 : w24.cell? ⟨g,7,none⟩ = some _:=(blk_cell HF.out.bx 7).trans rfl;have r0 : w24.cell? ⟨g + 1,0,none⟩ = some _:=(blk_cell HF.out.rx 0).trans rfl;have r1 : w24.cell? ⟨g + 1,1,none⟩ = some _:=(blk_cell HF.out.rx 1).trans rfl;have r2 : w24.cell? ⟨g + 1,2,none⟩ = some _:=(blk_cell HF.out.rx 2).trans rfl;have r3 : w24.cell? ⟨g + 1,3,none⟩ = some _:=(blk_cell HF.out.rx 3).trans rfl)
   clear s0 s1 s2 s3 s4 s5 s6 s7
   go_upto_region 5 with fail
   obtain ⟨gl,hgl⟩ : ∃ gl,gl = w24.heap.size:=⟨_,rfl⟩
   have hB:=blk_new w24 (.cells #[.int .i64 (i : Int),.int .i64 (p : Int),.int .i64 (k : Int),.int .i64 (m : Int)] 75)
   have HGLX:=Aside0.mk (show gl ≠ g ∧ gl ≠ g + 1 ∧ W.heap.size ≤ gl by have h1:=blk_lt HF.out.bx;have h2:=blk_lt HF.out.rx;have h3:=HF.out.only.size;omega)
   have HBG:=Aside0.mk (show b < gl by have h1:=blk_lt HF.out.bx;have h2:=HF.out.far;omega)
   rw [← hgl] at hB ⊢
   clear hgl
   have HB:=Aside0.mk hB
   replace HF:=Aside0.mk (HF.out.below (below_alloc (Below.refl w24.heap.size w24) (.cells #[.int .i64 (i : Int),.int .i64 (p : Int),.int .i64 (k : Int),.int .i64 (m : Int)] 75)))
   replace HT:=Aside0.mk (HT.out.below (below_alloc (Below.refl w24.heap.size w24) (.cells #[.int .i64 (i : Int),.int .i64 (p : Int),.int .i64 (k : Int),.int .i64 (m : Int)] 75)))
   clear hB r0 r1 r2 r3
   generalize w24.alloc (.cells #[.int .i64 (i : Int),.int .i64 (p : Int),.int .i64 (k : Int),.int .i64 (m : Int)] 75) = w25 at HF HT HB ⊢
   have s0 : w25.cell? ⟨g,0,none⟩ = some _:=(blk_cell HF.out.bx 0).trans rfl
   have s1 : w25.cell? ⟨g,1,none⟩ = some _:=(blk_cell HF.out.bx 1).trans rfl
   have s2 : w25.cell? ⟨g,2,none⟩ = some _:=(blk_cell HF.out.bx 2).trans rfl
   have s3 : w25.cell? ⟨g,3,none⟩ = some _:=(blk_cell HF.out.bx 3).trans rfl
   have s4 : w25.cell? ⟨g,4,none⟩ = some _:=(blk_cell HF.out.bx 4).trans rfl
   have s5 : w25.cell? ⟨g,5,none⟩ = some _:=(blk_cell HF.out.bx 5).trans rfl
   have s6 : w25.cell? ⟨g,6,none⟩ = some _:=(blk_cell HF.out.bx 6).trans rfl
   have s7 : w25.cell? ⟨g,7,none⟩ = some _:=(blk_cell HF.out.bx 7).trans rfl
   have r1 : w25.cell? ⟨g + 1,1,none⟩ = some _:=(blk_cell HF.out.rx 1).trans rfl
   have l0 : w25.cell? ⟨gl,0,none⟩ = some _:=(blk_cell HB.out 0).trans rfl
   have l1 : w25.cell? ⟨gl,1,none⟩ = some _:=(blk_cell HB.out 1).trans rfl
   have l2 : w25.cell? ⟨gl,2,none⟩ = some _:=(blk_cell HB.out 2).trans rfl
   have l3 : w25.cell? ⟨gl,3,none⟩ = some _:=(blk_cell HB.out 3).trans rfl
   have zp:=HF.out.only.cell (by rw [add_block];exact HZ.out.2.1) HZ.out.1.1
   go_region_held3 (fun w' => w'.cell? ⟨g,0,none⟩ = some v0 ∧ w'.cell? ⟨g,1,none⟩ = some v1 ∧ w'.cell? ⟨g,2,none⟩ = some v2 ∧ w'.cell? ⟨g,3,none⟩ = some v3 ∧ w'.cell? ⟨g,4,none⟩ = some (.slice (some a4) A d4) ∧ w'.cell? ⟨g,5,none⟩ = some (.slice (some a5) B d5) ∧ w'.cell? ⟨g,6,none⟩ = some v6 ∧ w'.cell? ⟨g,7,none⟩ = some (.map (some b)) ∧ w'.cell? ⟨gl,0,none⟩ = some (.int .i64 (i : Int)) ∧ w'.cell? ⟨gl,1,none⟩ = some (.int .i64 (p : Int)) ∧ w'.cell? ⟨gl,2,none⟩ = some (.int .i64 (k : Int)) ∧ w'.cell? ⟨gl,3,none⟩ = some (.int .i64 (m : Int)) ∧ w'.cell? ⟨g + 1,1,none⟩ = some (.int .i64 (j : Int)) ∧ w'.cell? (a4.add p) = some (.int .i64 pd)) (first | exact ⟨s0,s1,s2,s3,s4,s5,s6,s7,l0,l1,l2,l3,r1,zp⟩) ((go_at_call 58;((with_reducible refine (fo_v (i:=i) (j:=p) (k:=k) (m:=m) HDD.out.2.1 rfl HX.out.2.2.2.2.1 HX.out.2.2.2.2.2.1 HX.out.2.2.1 HX.out.2.2.2.1 HT.out).mono ?_));rw [← HE.out.2.1];rintro e w41 ⟨rfl,ho,ht⟩;replace HB:=Aside0.mk (blk_two HB.out ho HBG.out);replace HF:=Aside0.mk (HF.out.two ho);replace HT:=Aside0.mk ht;clear ho ht s0 s1 s2 s3 s4 s5 s6 s7 l0 l1 l2 l3 r1 zp;have s0 : w41.cell? ⟨g,0,none⟩ = some _:=(blk_cell HF.out.bx 0).trans rfl;have s1 : w41.cell? ⟨g,1,none⟩ = some _:=(blk_cell HF.out.bx 1).trans rfl;have s2 : w41.cell? ⟨g,2,none⟩ = some _:=(blk_cell HF.out.bx 2).trans rfl;have s3 : w41.cell? ⟨g,3,none⟩ = some _:=(blk_cell HF.out.bx 3).trans rfl;have s4 : w41.cell? ⟨g,4,none⟩ = some _:=(blk_cell HF.out.bx 4).trans rfl;have s5 : w41.cell? ⟨g,5,none⟩ = some _:=(blk_cell HF.out.bx 5).trans rfl;have s6 : w41.cell? ⟨g,6,none⟩ = some _:=(blk_cell HF.out.bx 6).trans rfl;have s7 : w41.cell? ⟨g,7,none⟩ = some _:=(blk_cell HF.out.bx 7).trans rfl;have r1 : w41.cell? ⟨g + 1,1,none⟩ = some _:=(blk_cell HF.out.rx 1).trans rfl;have l0 : w41.cell? ⟨gl,0,none⟩ = some _:=(blk_cell HB.out 0).trans rfl;have l1 : w41.cell? ⟨gl,1,none⟩ = some _:=(blk_cell HB.out 1).trans rfl;have l2 : w41.cell? ⟨gl,2,none⟩ = some _:=(blk_cell HB.out 2).trans rfl;have l3 : w41.cell? ⟨gl,3,none⟩ = some _:=(blk_cell HB.out 3).trans rfl;have zp:=HF.out.only.cell (by rw [add_block];exact HZ.out.2.1) HZ.out.1.1))
   clear s0 s1 s2 s3 s4 s5 s6 s7 l0 l1 l2 l3 r1 zp
   have HBGG:=Aside0.mk (show gl ≠ g ∧ gl ≠ g + 1 ∧ W.heap.size ≤ gl from HGLX.out)
   go_upto_region 7 with fail
   have r0 : w41.cell? ⟨g + 1,0,none⟩ = some _:=(blk_cell HF.out.rx 0).trans rfl
   have r1 : w41.cell? ⟨g + 1,1,none⟩ = some _:=(blk_cell HF.out.rx 1).trans rfl
   have r2 : w41.cell? ⟨g + 1,2,none⟩ = some _:=(blk_cell HF.out.rx 2).trans rfl
   have r3 : w41.cell? ⟨g + 1,3,none⟩ = some _:=(blk_cell HF.out.rx 3).trans rfl
   have l0 : w41.cell? ⟨gl,0,none⟩ = some _:=(blk_cell HB.out 0).trans rfl
   have l1 : w41.cell? ⟨gl,1,none⟩ = some _:=(blk_cell HB.out 1).trans rfl
   have l2 : w41.cell? ⟨gl,2,none⟩ = some _:=(blk_cell HB.out 2).trans rfl
   have l3 : w41.cell? ⟨gl,3,none⟩ = some _:=(blk_cell HB.out 3).trans rfl
   have x0 : w41.frozen? ⟨gl,0,none⟩ = false:=blk_frozen HB.out 0
   have x1 : w41.frozen? ⟨gl,1,none⟩ = false:=blk_frozen HB.out 1
   have x2 : w41.frozen? ⟨gl,2,none⟩ = false:=blk_frozen HB.out 2
   have x3 : w41.frozen? ⟨gl,3,none⟩ = false:=blk_frozen HB.out 3
   go_upto_region 8 with fail
   have hB4:=put4 HB.out (.int .i64 (i : Int)) (.int .i64 (j : Int)) (.int .i64 (k : Int)) (.int .i64 (q : Int)) HBG.out
   replace HB:=Aside0.mk hB4.1
   replace HF:=Aside0.mk (HF.out.set HBGG.out hB4.2)
   replace HT:=Aside0.mk (HT.out.set HT0.out HF.out hB4.2 HBG.out)
   clear hB4 x0 x1 x2 x3 r0 r1 r2 r3 l0 l1 l2 l3
   generalize (((w41.setCell ⟨gl,0,none⟩ (.int .i64 (i : Int))).setCell ⟨gl,1,none⟩ (.int .i64 (j : Int))).setCell ⟨gl,2,none⟩ (.int .i64 (k : Int))).setCell ⟨gl,3,none⟩ (.int .i64 (q : Int)) = w42 at HF HT HB ⊢
   have s0 : w42.cell? ⟨g,0,none⟩ = some _:=(blk_cell HF.out.bx 0).trans rfl
   have s1 : w42.cell? ⟨g,1,none⟩ = some _:=(blk_cell HF.out.bx 1).trans rfl
   have s2 : w42.cell? ⟨g,2,none⟩ = some _:=(blk_cell HF.out.bx 2).trans rfl
   have s3 : w42.cell? ⟨g,3,none⟩ = some _:=(blk_cell HF.out.bx 3).trans rfl
   have s4 : w42.cell? ⟨g,4,none⟩ = some _:=(blk_cell HF.out.bx 4).trans rfl
   have s5 : w42.cell? ⟨g,5,none⟩ = some _:=(blk_cell HF.out.bx 5).trans rfl
   have s6 : w42.cell? ⟨g,6,none⟩ = some _:=(blk_cell HF.out.bx 6).trans rfl
   have s7 : w42.cell? ⟨g,7,none⟩ = some _:=(blk_cell HF.out.bx 7).trans rfl
   have r3 : w42.cell? ⟨g + 1,3,none⟩ = some _:=(blk_cell HF.out.rx 3).trans rfl
   have l0 : w42.cell? ⟨gl,0,none⟩ = some _:=(blk_cell HB.out 0).trans rfl
   have l1 : w42.cell? ⟨gl,1,none⟩ = some _:=(blk_cell HB.out 1).trans rfl
   have l2 : w42.cell? ⟨gl,2,none⟩ = some _:=(blk_cell HB.out 2).trans rfl
   have l3 : w42.cell? ⟨gl,3,none⟩ = some _:=(blk_cell HB.out 3).trans rfl
   have zp:=HF.out.only.cell (by rw [add_block];exact HZ.out.2.2) HZ.out.1.2
   go_region_held3 (fun w' => w'.cell? ⟨g,0,none⟩ = some v0 ∧ w'.cell? ⟨g,1,none⟩ = some v1 ∧ w'.cell? ⟨g,2,none⟩ = some v2 ∧ w'.cell? ⟨g,3,none⟩ = some v3 ∧ w'.cell? ⟨g,4,none⟩ = some (.slice (some a4) A d4) ∧ w'.cell? ⟨g,5,none⟩ = some (.slice (some a5) B d5) ∧ w'.cell? ⟨g,6,none⟩ = some v6 ∧ w'.cell? ⟨g,7,none⟩ = some (.map (some b)) ∧ w'.cell? ⟨gl,0,none⟩ = some (.int .i64 (i : Int)) ∧ w'.cell? ⟨gl,1,none⟩ = some (.int .i64 (j : Int)) ∧ w'.cell? ⟨gl,2,none⟩ = some (.int .i64 (k : Int)) ∧ w'.cell? ⟨gl,3,none⟩ = some (.int .i64 (q : Int)) ∧ w'.cell? ⟨g + 1,3,none⟩ = some (.int .i64 (m : Int)) ∧ w'.cell? (a5.add q) = some (.int .i64 pi)) (first | exact ⟨s0,s1,s2,s3,s4,s5,s6,s7,l0,l1,l2,l3,r3,zp⟩) ((go_at_call 58;((with_reducible refine (fo_v (i:=i) (j:=j) (k:=k) (m:=q) HDD.out.2.2 rfl HX.out.1 HX.out.2.1 HX.out.2.2.2.2.2.2.1 HX.out.2.2.2.2.2.2.2.1 HT.out).mono ?_));rw [← HE.out.2.2];rintro e w71 ⟨rfl,ho,ht⟩;replace HB:=Aside0.mk (blk_two HB.out ho HBG.out);replace HF:=Aside0.mk (HF.out.two ho);replace HT:=Aside0.mk ht;clear ho ht s0 s1 s2 s3 s4 s5 s6 s7 l0 l1 l2 l3 r3 zp;have s0 : w71.cell? ⟨g,0,none⟩ = some _:=(blk_cell HF.out.bx 0).trans rfl;have s1 : w71.cell? ⟨g,1,none⟩ = some _:=(blk_cell HF.out.bx 1).trans rfl;have s2 : w71.cell? ⟨g,2,none⟩ = some _:=(blk_cell HF.out.bx 2).trans rfl;have s3 : w71.cell? ⟨g,3,none⟩ = some _:=(blk_cell HF.out.bx 3).trans rfl;have s4 : w71.cell? ⟨g,4,none⟩ = some _:=(blk_cell HF.out.bx 4).trans rfl;have s5 : w71.cell? ⟨g,5,none⟩ = some _:=(blk_cell HF.out.bx 5).trans rfl;have s6 : w71.cell? ⟨g,6,none⟩ = some _:=(blk_cell HF.out.bx 6).trans rfl;have s7 : w71.cell? ⟨g,7,none⟩ = some _:=(blk_cell HF.out.bx 7).trans rfl;have r3 : w71.cell? ⟨g + 1,3,none⟩ = some _:=(blk_cell HF.out.rx 3).trans rfl;have l0 : w71.cell? ⟨gl,0,none⟩ = some _:=(blk_cell HB.out 0).trans rfl;have l1 : w71.cell? ⟨gl,1,none⟩ = some _:=(blk_cell HB.out 1).trans rfl;have l2 : w71.cell? ⟨gl,2,none⟩ = some _:=(blk_cell HB.out 2).trans rfl;have l3 : w71.cell? ⟨gl,3,none⟩ = some _:=(blk_cell HB.out 3).trans rfl;have zp:=HF.out.only.cell (by rw [add_block];exact HZ.out.2.2) HZ.out.1.2))
   clear s0 s1 s2 s3 s4 s5 s6 s7 l0 l1 l2 l3 r3 zp
   have s0 : w71.cell? ⟨g,0,none⟩ = some _:=(blk_cell HF.out.bx 0).trans rfl
   have s1 : w71.cell? ⟨g,1,none⟩ = some _:=(blk_cell HF.out.bx 1).trans rfl
   have s2 : w71.cell? ⟨g,2,none⟩ = some _:=(blk_cell HF.out.bx 2).trans rfl
   have s3 : w71.cell? ⟨g,3,none⟩ = some _:=(blk_cell HF.out.bx 3).trans rfl
   have s4 : w71.cell? ⟨g,4,none⟩ = some _:=(blk_cell HF.out.bx 4).trans rfl
   have s5 : w71.cell? ⟨g,5,none⟩ = some _:=(blk_cell HF.out.bx 5).trans rfl
   have s6 : w71.cell? ⟨g,6,none⟩ = some _:=(blk_cell HF.out.bx 6).trans rfl
   have s7 : w71.cell? ⟨g,7,none⟩ = some _:=(blk_cell HF.out.bx 7).trans rfl
   have l0 : w71.cell? ⟨gl,0,none⟩ = some _:=(blk_cell HB.out 0).trans rfl
   have l1 : w71.cell? ⟨gl,1,none⟩ = some _:=(blk_cell HB.out 1).trans rfl
   have l2 : w71.cell? ⟨gl,2,none⟩ = some _:=(blk_cell HB.out 2).trans rfl
   have l3 : w71.cell? ⟨gl,3,none⟩ = some _:=(blk_cell HB.out 3).trans rfl
   have HSZ : Aside0 (W.heap.size ≤ _):=⟨HF.out.only.size⟩
   go_wp2_with (go_at_call 91;((with_reducible refine (tr_v (i:=i) (j:=j) (k:=k) (m:=q) HI.out rfl HX.out.1 HX.out.2.1 HX.out.2.2.2.2.2.2.1 HX.out.2.2.2.2.2.2.2.1 HT.out rfl).mono ?_));rintro e w84 ⟨Ar,dr,rfl,hp,ho,ht⟩;have PR:=Aside0.mk hp;replace HF:=Aside0.mk (HF.out.two ho);replace HT:=Aside0.mk ht;clear ho ht hp s0 s1 s2 s3 s4 s5 s6 s7)
   go_ret
   exact ⟨_,rfl,Kd.R_lower PR.out HSZ.out,HF.out.only,HT.out⟩
  ·have qb : (zz == sb) = false:=beq_eq_false_iff_ne.2 hb
   have nb : ¬ Ted.D M i j k m = Ted.D M i j k (m - 1) + M.ins (m - 1):=fun h => hb (by rw [hzz,h,hsb,hzb,hpi,hq,Nat.add_sub_cancel])
   have HI:=Aside0.mk (match_calls hA hB hla hlb (N:=(j - i) + (m - k)) (fun N' hN' => IH N' (by omega)))
   rw [Ted.way_rel hij hkm na nb]
   clear hs hA hB hla hlb IH hN hij hj hkm hm hT h2 h3 h4 h5 h6 p4 p5 q4 q5 z4 z5 D0 D1 D2 e1 e2 hzz hza hzb hpd hpi hsa hsb hp hq
   clear na nb ha hb
   go_enter Try.func91,Try.ntmps91
   go_upto_region 1 with fail
   obtain ⟨g,hg⟩ : ∃ g,g = W.heap.size:=⟨_,rfl⟩
   rw [← hg] at HF ⊢
   have HGW:=Aside0.mk hg
   clear hg
   generalize (W.alloc (.cells #[v0,v1,v2,v3,(.slice (some a4) A d4),(.slice (some a5) B d5),v6,.map (some b)] 86)).alloc (.cells #[.int .i64 (i : Int),.int .i64 (j : Int),.int .i64 (k : Int),.int .i64 (m : Int)] 75) = w1 at HF HT HG0 ⊢
   have r0 : w1.cell? ⟨g + 1,0,none⟩ = some _:=(blk_cell HF.out.rx 0).trans rfl
   have r1 : w1.cell? ⟨g + 1,1,none⟩ = some _:=(blk_cell HF.out.rx 1).trans rfl
   have r2 : w1.cell? ⟨g + 1,2,none⟩ = some _:=(blk_cell HF.out.rx 2).trans rfl
   have r3 : w1.cell? ⟨g + 1,3,none⟩ = some _:=(blk_cell HF.out.rx 3).trans rfl
   have s0 : w1.cell? ⟨g,0,none⟩ = some _:=(blk_cell HF.out.bx 0).trans rfl
   have s1 : w1.cell? ⟨g,1,none⟩ = some _:=(blk_cell HF.out.bx 1).trans rfl
   have s2 : w1.cell? ⟨g,2,none⟩ = some _:=(blk_cell HF.out.bx 2).trans rfl
   have s3 : w1.cell? ⟨g,3,none⟩ = some _:=(blk_cell HF.out.bx 3).trans rfl
   have s4 : w1.cell? ⟨g,4,none⟩ = some _:=(blk_cell HF.out.bx 4).trans rfl
   have s5 : w1.cell? ⟨g,5,none⟩ = some _:=(blk_cell HF.out.bx 5).trans rfl
   have s6 : w1.cell? ⟨g,6,none⟩ = some _:=(blk_cell HF.out.bx 6).trans rfl
   have s7 : w1.cell? ⟨g,7,none⟩ = some _:=(blk_cell HF.out.bx 7).trans rfl
   go_upto_region 4 with (go_at_call 58;((with_reducible refine (fo_v (i:=i) (j:=j) (k:=k) (m:=m) HDD.out.1 rfl HX.out.1 HX.out.2.1 HX.out.2.2.1 HX.out.2.2.2.1 HT.out).mono ?_));rw [← HE.out.1];rintro e w24 ⟨rfl,ho,ht⟩;replace HF:=Aside0.mk (HF.out.two ho);replace HT:=Aside0.mk ht;clear ho ht s0 s1 s2 s3 s4 s5 s6 s7 r0 r1 r2 r3;have s0 : w24.cell? ⟨g,0,none⟩ = some _:=(blk_cell HF.out.bx 0).trans rfl;have s1 : w24.cell? ⟨g,1,none⟩ = some _:=(blk_cell HF.out.bx 1).trans rfl;have s2 : w24.cell? ⟨g,2,none⟩ = some _:=(blk_cell HF.out.bx 2).trans rfl;have s3 : w24.cell? ⟨g,3,none⟩ = some _:=(blk_cell HF.out.bx 3).trans rfl;have s4 : w24.cell? ⟨g,4,none⟩ = some _:=(blk_cell HF.out.bx 4).trans rfl;have s5 : w24.cell? ⟨g,5,none⟩ = some _:=(blk_cell HF.out.bx 5).trans rfl;have s6 : w24.cell? ⟨g,6,none⟩ = some _:=(blk_cell HF.out.bx 6).trans rfl;have s7 : w24.cell? ⟨g,7,none⟩ = some _:=(blk_cell HF.out.bx 7).trans rfl;have r0 : w24.cell? ⟨g + 1,0,none⟩ = some _:=(blk_cell HF.out.rx 0).trans rfl;have r1 : w24.cell? ⟨g + 1,1,none⟩ = some _:=(blk_cell HF.out.rx 1).trans rfl;have r2 : w24.cell? ⟨g + 1,2,none⟩ = some _:=(blk_cell HF.out.rx 2).trans rfl;have r3 : w24.cell? ⟨g + 1,3,none⟩ = some _:=(blk_cell HF.out.rx 3).trans rfl)
   clear s0 s1 s2 s3 s4 s5 s6 s7
   go_upto_region 5 with fail
   obtain ⟨gl,hgl⟩ : ∃ gl,gl = w24.heap.size:=⟨_,rfl⟩
   have hB:=blk_new w24 (.cells #[.int .i64 (i : Int),.int .i64 (p : Int),.int .i64 (k : Int),.int .i64 (m : Int)] 75)
   have HGLX:=Aside0.mk (show gl ≠ g ∧ gl ≠ g + 1 ∧ W.heap.size ≤ gl by have h1:=blk_lt HF.out.bx;have h2:=blk_lt HF.out.rx;have h3:=HF.out.only.size;omega)
   have HBG:=Aside0.mk (show b < gl by have h1:=blk_lt HF.out.bx;have h2:=HF.out.far;omega)
   rw [← hgl] at hB ⊢
   clear hgl
   have HB:=Aside0.mk hB
   replace HF:=Aside0.mk (HF.out.below (below_alloc (Below.refl w24.heap.size w24) (.cells #[.int .i64 (i : Int),.int .i64 (p : Int),.int .i64 (k : Int),.int .i64 (m : Int)] 75)))
   replace HT:=Aside0.mk (HT.out.below (below_alloc (Below.refl w24.heap.size w24) (.cells #[.int .i64 (i : Int),.int .i64 (p : Int),.int .i64 (k : Int),.int .i64 (m : Int)] 75)))
   clear hB r0 r1 r2 r3
   generalize w24.alloc (.cells #[.int .i64 (i : Int),.int .i64 (p : Int),.int .i64 (k : Int),.int .i64 (m : Int)] 75) = w25 at HF HT HB ⊢
   have s0 : w25.cell? ⟨g,0,none⟩ = some _:=(blk_cell HF.out.bx 0).trans rfl
   have s1 : w25.cell? ⟨g,1,none⟩ = some _:=(blk_cell HF.out.bx 1).trans rfl
   have s2 : w25.cell? ⟨g,2,none⟩ = some _:=(blk_cell HF.out.bx 2).trans rfl
   have s3 : w25.cell? ⟨g,3,none⟩ = some _:=(blk_cell HF.out.bx 3).trans rfl
   have s4 : w25.cell? ⟨g,4,none⟩ = some _:=(blk_cell HF.out.bx 4).trans rfl
   have s5 : w25.cell? ⟨g,5,none⟩ = some _:=(blk_cell HF.out.bx 5).trans rfl
   have s6 : w25.cell? ⟨g,6,none⟩ = some _:=(blk_cell HF.out.bx 6).trans rfl
   have s7 : w25.cell? ⟨g,7,none⟩ = some _:=(blk_cell HF.out.bx 7).trans rfl
   have r1 : w25.cell? ⟨g + 1,1,none⟩ = some _:=(blk_cell HF.out.rx 1).trans rfl
   have l0 : w25.cell? ⟨gl,0,none⟩ = some _:=(blk_cell HB.out 0).trans rfl
   have l1 : w25.cell? ⟨gl,1,none⟩ = some _:=(blk_cell HB.out 1).trans rfl
   have l2 : w25.cell? ⟨gl,2,none⟩ = some _:=(blk_cell HB.out 2).trans rfl
   have l3 : w25.cell? ⟨gl,3,none⟩ = some _:=(blk_cell HB.out 3).trans rfl
   have zp:=HF.out.only.cell (by rw [add_block];exact HZ.out.2.1) HZ.out.1.1
   go_region_held3 (fun w' => w'.cell? ⟨g,0,none⟩ = some v0 ∧ w'.cell? ⟨g,1,none⟩ = some v1 ∧ w'.cell? ⟨g,2,none⟩ = some v2 ∧ w'.cell? ⟨g,3,none⟩ = some v3 ∧ w'.cell? ⟨g,4,none⟩ = some (.slice (some a4) A d4) ∧ w'.cell? ⟨g,5,none⟩ = some (.slice (some a5) B d5) ∧ w'.cell? ⟨g,6,none⟩ = some v6 ∧ w'.cell? ⟨g,7,none⟩ = some (.map (some b)) ∧ w'.cell? ⟨gl,0,none⟩ = some (.int .i64 (i : Int)) ∧ w'.cell? ⟨gl,1,none⟩ = some (.int .i64 (p : Int)) ∧ w'.cell? ⟨gl,2,none⟩ = some (.int .i64 (k : Int)) ∧ w'.cell? ⟨gl,3,none⟩ = some (.int .i64 (m : Int)) ∧ w'.cell? ⟨g + 1,1,none⟩ = some (.int .i64 (j : Int)) ∧ w'.cell? (a4.add p) = some (.int .i64 pd)) (first | exact ⟨s0,s1,s2,s3,s4,s5,s6,s7,l0,l1,l2,l3,r1,zp⟩) ((go_at_call 58;((with_reducible refine (fo_v (i:=i) (j:=p) (k:=k) (m:=m) HDD.out.2.1 rfl HX.out.2.2.2.2.1 HX.out.2.2.2.2.2.1 HX.out.2.2.1 HX.out.2.2.2.1 HT.out).mono ?_));rw [← HE.out.2.1];rintro e w41 ⟨rfl,ho,ht⟩;replace HB:=Aside0.mk (blk_two HB.out ho HBG.out);replace HF:=Aside0.mk (HF.out.two ho);replace HT:=Aside0.mk ht;clear ho ht s0 s1 s2 s3 s4 s5 s6 s7 l0 l1 l2 l3 r1 zp;have s0 : w41.cell? ⟨g,0,none⟩ = some _:=(blk_cell HF.out.bx 0).trans rfl;have s1 : w41.cell? ⟨g,1,none⟩ = some _:=(blk_cell HF.out.bx 1).trans rfl;have s2 : w41.cell? ⟨g,2,none⟩ = some _:=(blk_cell HF.out.bx 2).trans rfl;have s3 : w41.cell? ⟨g,3,none⟩ = some _:=(blk_cell HF.out.bx 3).trans rfl;have s4 : w41.cell? ⟨g,4,none⟩ = some _:=(blk_cell HF.out.bx 4).trans rfl;have s5 : w41.cell? ⟨g,5,none⟩ = some _:=(blk_cell HF.out.bx 5).trans rfl;have s6 : w41.cell? ⟨g,6,none⟩ = some _:=(blk_cell HF.out.bx 6).trans rfl;have s7 : w41.cell? ⟨g,7,none⟩ = some _:=(blk_cell HF.out.bx 7).trans rfl;have r1 : w41.cell? ⟨g + 1,1,none⟩ = some _:=(blk_cell HF.out.rx 1).trans rfl;have l0 : w41.cell? ⟨gl,0,none⟩ = some _:=(blk_cell HB.out 0).trans rfl;have l1 : w41.cell? ⟨gl,1,none⟩ = some _:=(blk_cell HB.out 1).trans rfl;have l2 : w41.cell? ⟨gl,2,none⟩ = some _:=(blk_cell HB.out 2).trans rfl;have l3 : w41.cell? ⟨gl,3,none⟩ = some _:=(blk_cell HB.out 3).trans rfl;have zp:=HF.out.only.cell (by rw [add_block];exact HZ.out.2.1) HZ.out.1.1))
   clear s0 s1 s2 s3 s4 s5 s6 s7 l0 l1 l2 l3 r1 zp
   have HBGG:=Aside0.mk (show gl ≠ g ∧ gl ≠ g + 1 ∧ W.heap.size ≤ gl from HGLX.out)
   go_upto_region 7 with fail
   have r0 : w41.cell? ⟨g + 1,0,none⟩ = some _:=(blk_cell HF.out.rx 0).trans rfl
   have r1 : w41.cell? ⟨g + 1,1,none⟩ = some _:=(blk_cell HF.out.rx 1).trans rfl
   have r2 : w41.cell? ⟨g + 1,2,none⟩ = some _:=(blk_cell HF.out.rx 2).trans rfl
   have r3 : w41.cell? ⟨g + 1,3,none⟩ = some _:=(blk_cell HF.out.rx 3).trans rfl
   have l0 : w41.cell? ⟨gl,0,none⟩ = some _:=(blk_cell HB.out 0).trans rfl
   have l1 : w41.cell? ⟨gl,1,none⟩ = some _:=(blk_cell HB.out 1).trans rfl
   have l2 : w41.cell? ⟨gl,2,none⟩ = some _:=(blk_cell HB.out 2).trans rfl
   have l3 : w41.cell? ⟨gl,3,none⟩ = some _:=(blk_cell HB.out 3).trans rfl
   have x0 : w41.frozen? ⟨gl,0,none⟩ = false:=blk_frozen HB.out 0
   have x1 : w41.frozen? ⟨gl,1,none⟩ = false:=blk_frozen HB.out 1
   have x2 : w41.frozen? ⟨gl,2,none⟩ = false:=blk_frozen HB.out 2
   have x3 : w41.frozen? ⟨gl,3,none⟩ = false:=blk_frozen HB.out 3
   go_upto_region 8 with fail
   have hB4:=put4 HB.out (.int .i64 (i : Int)) (.int .i64 (j : Int)) (.int .i64 (k : Int)) (.int .i64 (q : Int)) HBG.out
   replace HB:=Aside0.mk hB4.1
   replace HF:=Aside0.mk (HF.out.set HBGG.out hB4.2)
   replace HT:=Aside0.mk (HT.out.set HT0.out HF.out hB4.2 HBG.out)
   clear hB4 x0 x1 x2 x3 r0 r1 r2 r3 l0 l1 l2 l3
   generalize (((w41.setCell ⟨gl,0,none⟩ (.int .i64 (i : Int))).setCell ⟨gl,1,none⟩ (.int .i64 (j : Int))).setCell ⟨gl,2,none⟩ (.int .i64 (k : Int))).setCell ⟨gl,3,none⟩ (.int .i64 (q : Int)) = w42 at HF HT HB ⊢
   have s0 : w42.cell? ⟨g,0,none⟩ = some _:=(blk_cell HF.out.bx 0).trans rfl
   have s1 : w42.cell? ⟨g,1,none⟩ = some _:=(blk_cell HF.out.bx 1).trans rfl
   have s2 : w42.cell? ⟨g,2,none⟩ = some _:=(blk_cell HF.out.bx 2).trans rfl
   have s3 : w42.cell? ⟨g,3,none⟩ = some _:=(blk_cell HF.out.bx 3).trans rfl
   have s4 : w42.cell? ⟨g,4,none⟩ = some _:=(blk_cell HF.out.bx 4).trans rfl
   have s5 : w42.cell? ⟨g,5,none⟩ = some _:=(blk_cell HF.out.bx 5).trans rfl
   have s6 : w42.cell? ⟨g,6,none⟩ = some _:=(blk_cell HF.out.bx 6).trans rfl
   have s7 : w42.cell? ⟨g,7,none⟩ = some _:=(blk_cell HF.out.bx 7).trans rfl
   have r3 : w42.cell? ⟨g + 1,3,none⟩ = some _:=(blk_cell HF.out.rx 3).trans rfl
   have l0 : w42.cell? ⟨gl,0,none⟩ = some _:=(blk_cell HB.out 0).trans rfl
   have l1 : w42.cell? ⟨gl,1,none⟩ = some _:=(blk_cell HB.out 1).trans rfl
   have l2 : w42.cell? ⟨gl,2,none⟩ = some _:=(blk_cell HB.out 2).trans rfl
   have l3 : w42.cell? ⟨gl,3,none⟩ = some _:=(blk_cell HB.out 3).trans rfl
   have zp:=HF.out.only.cell (by rw [add_block];exact HZ.out.2.2) HZ.out.1.2
   go_region_held3 (fun w' => w'.cell? ⟨g,0,none⟩ = some v0 ∧ w'.cell? ⟨g,1,none⟩ = some v1 ∧ w'.cell? ⟨g,2,none⟩ = some v2 ∧ w'.cell? ⟨g,3,none⟩ = some v3 ∧ w'.cell? ⟨g,4,none⟩ = some (.slice (some a4) A d4) ∧ w'.cell? ⟨g,5,none⟩ = some (.slice (some a5) B d5) ∧ w'.cell? ⟨g,6,none⟩ = some v6 ∧ w'.cell? ⟨g,7,none⟩ = some (.map (some b)) ∧ w'.cell? ⟨gl,0,none⟩ = some (.int .i64 (i : Int)) ∧ w'.cell? ⟨gl,1,none⟩ = some (.int .i64 (j : Int)) ∧ w'.cell? ⟨gl,2,none⟩ = some (.int .i64 (k : Int)) ∧ w'.cell? ⟨gl,3,none⟩ = some (.int .i64 (q : Int)) ∧ w'.cell? ⟨g + 1,3,none⟩ = some (.int .i64 (m : Int)) ∧ w'.cell? (a5.add q) = some (.int .i64 pi)) (first | exact ⟨s0,s1,s2,s3,s4,s5,s6,s7,l0,l1,l2,l3,r3,zp⟩) ((go_at_call 58;((with_reducible refine (fo_v (i:=i) (j:=j) (k:=k) (m:=q) HDD.out.2.2 rfl HX.out.1 HX.out.2.1 HX.out.2.2.2.2.2.2.1 HX.out.2.2.2.2.2.2.2.1 HT.out).mono ?_));rw [← HE.out.2.2];rintro e w71 ⟨rfl,ho,ht⟩;replace HB:=Aside0.mk (blk_two HB.out ho HBG.out);replace HF:=Aside0.mk (HF.out.two ho);replace HT:=Aside0.mk ht;clear ho ht s0 s1 s2 s3 s4 s5 s6 s7 l0 l1 l2 l3 r3 zp;have s0 : w71.cell? ⟨g,0,none⟩ = some _:=(blk_cell HF.out.bx 0).trans rfl;have s1 : w71.cell? ⟨g,1,none⟩ = some _:=(blk_cell HF.out.bx 1).trans rfl;have s2 : w71.cell? ⟨g,2,none⟩ = some _:=(blk_cell HF.out.bx 2).trans rfl;have s3 : w71.cell? ⟨g,3,none⟩ = some _:=(blk_cell HF.out.bx 3).trans rfl;have s4 : w71.cell? ⟨g,4,none⟩ = some _:=(blk_cell HF.out.bx 4).trans rfl;have s5 : w71.cell? ⟨g,5,none⟩ = some _:=(blk_cell HF.out.bx 5).trans rfl;have s6 : w71.cell? ⟨g,6,none⟩ = some _:=(blk_cell HF.out.bx 6).trans rfl;have s7 : w71.cell? ⟨g,7,none⟩ = some _:=(blk_cell HF.out.bx 7).trans rfl;have r3 : w71.cell? ⟨g + 1,3,none⟩ = some _:=(blk_cell HF.out.rx 3).trans rfl;have l0 : w71.cell? ⟨gl,0,none⟩ = some _:=(blk_cell HB.out 0).trans rfl;have l1 : w71.cell? ⟨gl,1,none⟩ = some _:=(blk_cell HB.out 1).trans rfl;have l2 : w71.cell? ⟨gl,2,none⟩ = some _:=(blk_cell HB.out 2).trans rfl;have l3 : w71.cell? ⟨gl,3,none⟩ = some _:=(blk_cell HB.out 3).trans rfl;have zp:=HF.out.only.cell (by rw [add_block];exact HZ.out.2.2) HZ.out.1.2))
   clear s0 s1 s2 s3 s4 s5 s6 s7 l0 l1 l2 l3 r3 zp
   have s0 : w71.cell? ⟨g,0,none⟩ = some _:=(blk_cell HF.out.bx 0).trans rfl
   have s1 : w71.cell? ⟨g,1,none⟩ = some _:=(blk_cell HF.out.bx 1).trans rfl
   have s2 : w71.cell? ⟨g,2,none⟩ = some _:=(blk_cell HF.out.bx 2).trans rfl
   have s3 : w71.cell? ⟨g,3,none⟩ = some _:=(blk_cell HF.out.bx 3).trans rfl
   have s4 : w71.cell? ⟨g,4,none⟩ = some _:=(blk_cell HF.out.bx 4).trans rfl
   have s5 : w71.cell? ⟨g,5,none⟩ = some _:=(blk_cell HF.out.bx 5).trans rfl
   have s6 : w71.cell? ⟨g,6,none⟩ = some _:=(blk_cell HF.out.bx 6).trans rfl
   have s7 : w71.cell? ⟨g,7,none⟩ = some _:=(blk_cell HF.out.bx 7).trans rfl
   have r0 : w71.cell? ⟨g + 1,0,none⟩ = some _:=(blk_cell HF.out.rx 0).trans rfl
   have r1 : w71.cell? ⟨g + 1,1,none⟩ = some _:=(blk_cell HF.out.rx 1).trans rfl
   have r2 : w71.cell? ⟨g + 1,2,none⟩ = some _:=(blk_cell HF.out.rx 2).trans rfl
   have r3 : w71.cell? ⟨g + 1,3,none⟩ = some _:=(blk_cell HF.out.rx 3).trans rfl
   have HSZ : Aside0 (W.heap.size ≤ _):=⟨HF.out.only.size⟩
   go_wp2_with (go_at_call 66;((with_reducible refine (ma_v HI.out rfl HX.out.2.2.2.2.2.2.2.2.1 HX.out.2.1 HX.out.2.2.2.2.2.2.2.2.2 HX.out.2.2.2.1 HT.out rfl).mono ?_));rintro e w87 ⟨Ar,dr,rfl,hp,ho,ht⟩;have PR:=Aside0.mk hp;replace HF:=Aside0.mk (HF.out.two ho);replace HT:=Aside0.mk ht;clear ho ht hp s0 s1 s2 s3 s4 s5 s6 s7)
   go_ret
   exact ⟨_,rfl,Kd.R_lower PR.out HSZ.out,HF.out.only,HT.out⟩
set_option maxHeartbeats 8000000 in
set_option maxRecDepth 100000 in
theorem trace_none {M : Ted.Ms} {A B : Nat} {oa ob : Nat → Nat} {i j k m : Nat} (h : i = j ∨ k = m) (W : World) (b : Nat) (v0 v1 v2 v3 v4 v5 v6 : Value) (hT : Ts M A B oa ob b v0 v1 v2 v3 v4 v5 v6 W) :
  Calls Try.prog 91 #[.agg #[v0,v1,v2,v3,v4,v5,v6,.map (some b)],rg i j k m] W fun e w' => ∃ u,e = .returned u ∧ PX w' W.heap.size u [] ∧ Only b W w' ∧ Ts M A B oa ob b v0 v1 v2 v3 v4 v5 v6 w':=by
 have hu:=Try.underlying86
 have hu2:=Try.underlying75
 have hu3:=Try.underlying70
 have HG0:=Aside0.mk (below_alloc (below_alloc (Below.refl W.heap.size W) (.cells #[v0,v1,v2,v3,v4,v5,v6,.map (some b)] 86)) (.cells #[.int .i64 (i : Int),.int .i64 (j : Int),.int .i64 (k : Int),.int .i64 (m : Int)] 75))
 have HF:=Aside0.mk (Fr.start (v0:=v0) (v1:=v1) (v2:=v2) (v3:=v3) (v4:=v4) (v5:=v5) (v6:=v6) (i:=i) (j:=j) (k:=k) (m:=m) hT.lt)
 have HT0:=Aside0.mk hT
 have HT:=Aside0.mk (hT.below HG0.out)
 clear hT
 by_cases h1 : i = j
 ·have k5 : ((i : Int) == (j : Int)) = true:=by rw [h1];simp
  have k1 : ((i : Int) = (j : Int)) = True:=eq_true (by omega)
  clear h h1
  go_enter Try.func91,Try.ntmps91
  go_upto_region 1 with fail
  obtain ⟨g,hg⟩ : ∃ g,g = W.heap.size:=⟨_,rfl⟩
  rw [← hg] at HF ⊢
  have HGW:=Aside0.mk hg
  clear hg
  generalize (W.alloc (.cells #[v0,v1,v2,v3,v4,v5,v6,.map (some b)] 86)).alloc (.cells #[.int .i64 (i : Int),.int .i64 (j : Int),.int .i64 (k : Int),.int .i64 (m : Int)] 75) = w1 at HF HT HG0 ⊢
  have r0 : w1.cell? ⟨g + 1,0,none⟩ = some _:=(blk_cell HF.out.rx 0).trans rfl
  have r1 : w1.cell? ⟨g + 1,1,none⟩ = some _:=(blk_cell HF.out.rx 1).trans rfl
  have r2 : w1.cell? ⟨g + 1,2,none⟩ = some _:=(blk_cell HF.out.rx 2).trans rfl
  have r3 : w1.cell? ⟨g + 1,3,none⟩ = some _:=(blk_cell HF.out.rx 3).trans rfl
  go_wp2
  go_ret
  exact ⟨_,rfl,Kd.R_nil _ _ _ _ _,HF.out.only,HT.out⟩
 ·have h2 : k = m:=by omega
  have k5 : ((i : Int) == (j : Int)) = false:=beq_eq_false_iff_ne.2 (by omega)
  have k1 : ((i : Int) = (j : Int)) = False:=eq_false (by omega)
  have k3 : (i = j) = False:=eq_false h1
  have k6 : ((k : Int) == (m : Int)) = true:=by rw [h2];simp
  have k2 : ((k : Int) = (m : Int)) = True:=eq_true (by omega)
  have k4 : (k = m) = True:=eq_true h2
  clear h h1 h2
  go_enter Try.func91,Try.ntmps91
  go_upto_region 1 with fail
  obtain ⟨g,hg⟩ : ∃ g,g = W.heap.size:=⟨_,rfl⟩
  rw [← hg] at HF ⊢
  have HGW:=Aside0.mk hg
  clear hg
  generalize (W.alloc (.cells #[v0,v1,v2,v3,v4,v5,v6,.map (some b)] 86)).alloc (.cells #[.int .i64 (i : Int),.int .i64 (j : Int),.int .i64 (k : Int),.int .i64 (m : Int)] 75) = w1 at HF HT HG0 ⊢
  have r0 : w1.cell? ⟨g + 1,0,none⟩ = some _:=(blk_cell HF.out.rx 0).trans rfl
  have r1 : w1.cell? ⟨g + 1,1,none⟩ = some _:=(blk_cell HF.out.rx 1).trans rfl
  have r2 : w1.cell? ⟨g + 1,2,none⟩ = some _:=(blk_cell HF.out.rx 2).trans rfl
  have r3 : w1.cell? ⟨g + 1,3,none⟩ = some _:=(blk_cell HF.out.rx 3).trans rfl
  go_wp2
  go_ret
  exact ⟨_,rfl,Kd.R_nil _ _ _ _ _,HF.out.only,HT.out⟩
theorem trace_calls {M : Ted.Ms} {A B : Nat} (hs : Small M) (hA : A ≤ 24) (hB : B ≤ 24) (hla : ∀ p,p < A → M.la p ≤ p) (hlb : ∀ q,q < B → M.lb q ≤ q) {oa ob : Nat → Nat} : ∀ N : Nat,TraceAt M A B oa ob N:=by
 intro N
 induction N using Nat.strongRecOn with
 | _ N IH =>
  intro i j k m hN hij hj hkm hm W b v0 v1 v2 v3 v4 v5 v6 hT
  by_cases h : i < j ∧ k < m
  ·exact trace_step hs hA hB hla hlb IH hN h.1 hj h.2 hm W b v0 v1 v2 v3 v4 v5 v6 hT
  ·rw [Ted.way_none h]
   exact trace_none (by omega) W b v0 v1 v2 v3 v4 v5 v6 hT
end Go.Proofs.Ytelglbebffdaaaa.X
