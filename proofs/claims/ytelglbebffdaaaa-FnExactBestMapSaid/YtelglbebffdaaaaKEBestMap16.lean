/- Part 16 of the proof of FnExactBestMap: what it needs. -/
import Derived.Deep.RegionHeld3
import Derived.BigQuiet
import Derived.Test.YtelglbebffdaaaaKEBestMap4
import Derived.Test.YtelglbebffdaaaaKEBestMap6
import Derived.Test.YtelglbebffdaaaaKEBestMap7
namespace Go.Proofs.Ytelglbebffdaaaa.X
open Go.RowKit Go.Proofs.YtelglbebffdaaaaW.PrintWords Go.Proofs.YtelglbebffdaaaaW.PrintLast Go.Proofs.YtelglbebffdaaaaW.PrintMore Go.Proofs.Ytelglbebffdaaaa.Q
set_option linter.unusedVariables false
set_option linter.unusedSimpArgs false
attribute [local go_sem] max2_int min2_int max_two min_two
def pairsR (L : List (Nat × Nat)) : List PairI:=L.map fun p => ⟨(p.1 : Int),(p.2 : Int)⟩
theorem pairsR_len (L : List (Nat × Nat)) : (pairsR L).length = L.length:=by unfold pairsR;rw [List.length_map]
theorem wayS_len (M : Ted.Ms) (i j k m : Nat) : (Ted.wayS M i j k m).length ≤ j - i:=by
 rw [(Ted.way_perm M _ i j k m (Nat.le_refl _)).length_eq]
 exact Ted.way_len M _ i j k m (Nat.le_refl _)
def WalkAt (M : Ted.Ms) (A B : Nat) (X Y : Nat → Nat) (N : Nat) : Prop:=∀ i j k m : Nat,(j - i) + (m - k) = N → i ≤ j → j ≤ A → k ≤ m → m ≤ B → ∀ (W : World) (b g : Nat),Mem M A B X Y W b g → Kn M A B W b →
 Calls Try.prog 89 #[.pointer (some ⟨g,0,none⟩),.int .i64 (i : Int),.int .i64 (j : Int),.int .i64 (k : Int),.int .i64 (m : Int)] W fun e w' => ∃ u,e = .returned u ∧ PX w' W.heap.size u (pairsR (Ted.wayS M i j k m)) ∧ Only b W w' ∧ Kn M A B w' b
section
variable {M : Ted.Ms} {A B : Nat} {X Y : Nat → Nat} {N : Nat} {i j k m b g : Nat} {w : World}
theorem wk_v (h : WalkAt M A B X Y N) (hN : (j - i) + (m - k) = N) (h1 : i ≤ j) (h2 : j ≤ A) (h3 : k ≤ m) (h4 : m ≤ B) (hm : Mem M A B X Y w b g) (hk : Kn M A B w b) {L : List PairI} (hL : L = pairsR (Ted.wayS M i j k m)) :
  Calls Try.prog 89 #[.pointer (some ⟨g,0,none⟩),.int .i64 (i : Int),.int .i64 (j : Int),.int .i64 (k : Int),.int .i64 (m : Int)] w fun e w' => ∃ Au cu,e = .returned (.slice Au L.length cu) ∧ PX w' w.heap.size (.slice Au L.length cu) L ∧ Only b w w' ∧ Kn M A B w' b:=by
 subst hL
 refine (h i j k m hN h1 h2 h3 h4 w b g hm hk).mono ?_
 rintro e w' ⟨u,rfl,hp,ho,ht⟩
 obtain ⟨Au,cu,rfl⟩:=Kd.R_slice hp
 exact ⟨Au,cu,rfl,hp,ho,ht⟩
theorem only_base {W w w' : World} (h : Only b W w) (k : Below W.heap.size w w') : Only b W w' :=
 ⟨k.os.trans h.os,k.tape.trans h.tape,k.output.trans h.output,Nat.le_trans h.size k.size,fun x hx hn => (k.block x hx).trans (h.block x hx hn)⟩
theorem px_lit0 (W : World) : PX (W.alloc (.cells #[] 84)) W.heap.size (.slice (some ⟨W.heap.size,0,none⟩) 0 0) [] :=
 ⟨fun _ _ => trivial,[],⟨rfl,.inr ⟨W.heap.size,0,#[],rfl,Nat.le_refl _,blk_new W _,Nat.le_refl _,by unfold maxLen;omega,rfl,rfl⟩⟩,Reps.none _ _⟩
end
theorem px_keep {w w' : World} {base b : Nat} {v : Value} {l : List PairI} (h : PX w base v l) (k : Only b w w') (hb : b < base) : PX w' base v l:=by
 have h1 : Kd.R k84 84 w base (fun x => x ≠ b) v l:=Kd.R_mono (Kd.R_bound h) (fun x hx => by have:=hx.2.1;omega)
 exact Kd.R_mono (Kd.R_step h1 (fun x ho hlt => k.block x hlt (by simpa using ho))) (fun _ _ => trivial)
theorem px_reads {w : World} {base n c : Nat} {A : Option Addr} {l : List PairI} (h : PX w base (.slice A n c) l) : Kd.C k84 w A l.length l:=(Kd.R_reads' h).2.2
theorem ds_v {M : Ted.Ms} {A B : Nat} {X Y : Nat → Nat} {N : Nat} {i j k m b g : Nat} {w W1 : World} (h : DistAt M A B X Y N) (hN : (j - i) + (m - k) = N) (h1 : i ≤ j) (h2 : j ≤ A) (h3 : k ≤ m) (h4 : m ≤ B) (hm : Mem M A B X Y w b g) (hk : Kn M A B w b) [c : Ch w W1] :
  Calls Try.prog 53 #[.pointer (some ⟨g,0,none⟩),.int .i64 (i : Int),.int .i64 (j : Int),.int .i64 (k : Int),.int .i64 (m : Int)] W1 fun e w' => e = .returned (.int .i64 (Ted.D M i j k m)) ∧ Only b w w' ∧ Kn M A B w' b:=by
 have ho : Only b w W1:=⟨c.out.os,c.out.tape,c.out.output,c.out.size,fun x hx _ => c.out.block x hx⟩
 refine (h i j k m hN h1 h2 h3 h4 W1 b g (hm.only ho) (hk.keep (c.out.block b hk.lt))).mono ?_
 rintro e w' ⟨rfl,h5,h6⟩
 exact ⟨rfl,ho.trans h5,h6⟩
set_option maxHeartbeats 8000000 in
set_option maxRecDepth 100000 in
theorem l11match {M : Ted.Ms} {A B : Nat} {X Y : Nat → Nat} (hA : A ≤ 24) (hB : B ≤ 24) (hla : ∀ p,p < A → M.la p ≤ p) (hlb : ∀ q,q < B → M.lb q ≤ q) {N : Nat} (IH : ∀ N',N' < N → WalkAt M A B X Y N') {i j k m : Nat} (hN : (j - i) + (m - k) = N) (hij : i < j) (hj : j ≤ A) (hkm : k < m) (hm : m ≤ B) (W : World) (b g : Nat) (mem : Mem M A B X Y W b g) (kn : Kn M A B W b) :
  Calls Try.prog 65 #[.pointer (some ⟨g,0,none⟩),.int .i64 (i : Int),.int .i64 (j : Int),.int .i64 (k : Int),.int .i64 (m : Int)] W fun e w' => ∃ u,e = .returned u ∧ PX w' W.heap.size u (pairsR (Ted.wayN M i j k m)) ∧ Only b W w' ∧ Kn M A B w' b:=by
 obtain ⟨p,hp⟩ : ∃ p,j = p + 1:=⟨j - 1,by omega⟩
 obtain ⟨q,hq⟩ : ∃ q,m = q + 1:=⟨m - 1,by omega⟩
 obtain ⟨c1,c2,c3⟩:=cut_facts (i:=i) (p:=p) (by omega) (hla p (by omega))
 obtain ⟨e1,e2,e3⟩:=cut_facts (i:=k) (p:=q) (by omega) (hlb q (by omega))
 rw [← hp] at c1 c2 c3
 rw [← hq] at e1 e2 e3
 obtain ⟨x,hx⟩ : ∃ x,x = Ted.cut M.la i j:=⟨_,rfl⟩
 obtain ⟨y,hy⟩ : ∃ y,y = Ted.cut M.lb k m:=⟨_,rfl⟩
 rw [← hx] at c1 c2 c3
 rw [← hy] at e1 e2 e3
 obtain ⟨L1,hL1⟩ : ∃ L,L = pairsR (Ted.wayS M i x k y):=⟨_,rfl⟩
 obtain ⟨L2,hL2⟩ : ∃ L,L = pairsR (Ted.wayS M x p y q):=⟨_,rfl⟩
 have HW:=Aside0.mk (show pairsR (Ted.wayN M i j k m) = (L1 ++ L2) ++ [⟨(p : Int),(q : Int)⟩] by unfold Ted.wayN;rw [← hx,← hy,hp,hq,hL1,hL2];unfold pairsR;rw [List.map_append,List.map_append];rfl)
 have HL:=Aside0.mk (show L1 = pairsR (Ted.wayS M i x k y) ∧ L2 = pairsR (Ted.wayS M x p y q) ∧ L1.length ≤ 100 ∧ L2.length ≤ 100 from ⟨hL1,hL2,by have:=wayS_len M i x k y;rw [hL1,pairsR_len];omega,by have:=wayS_len M x p y q;rw [hL2,pairsR_len];omega⟩)
 have HI:=Aside0.mk (show WalkAt M A B X Y ((x - i) + (y - k)) ∧ WalkAt M A B X Y ((p - x) + (q - y)) from ⟨IH _ (by omega),IH _ (by omega)⟩)
 have HX:=Aside0.mk (show (i ≤ x ∧ x ≤ A ∧ k ≤ y ∧ y ≤ B) ∧ (x ≤ p ∧ p ≤ A ∧ y ≤ q ∧ q ≤ B) from ⟨⟨c1,by omega,e1,by omega⟩,c2,by omega,e2,by omega⟩)
 have g1 : IntKind.i64.wrap ((j : Int) - 1) = (p : Int):=(i64_w _).trans (by rw [hp];exact num_sub (by omega))
 have g2 : IntKind.i64.wrap ((m : Int) - 1) = (q : Int):=(i64_w _).trans (by rw [hq];exact num_sub (by omega))
 have g3 : Value.int .i64 (wrap64 ((j : Int) - 1)) = Value.int .i64 (p : Int):=congrArg _ ((i64_w _).symm.trans g1)
 have g4 : Value.int .i64 (wrap64 ((m : Int) - 1)) = Value.int .i64 (q : Int):=congrArg _ ((i64_w _).symm.trans g2)
 have m1:=max_int c3
 have m2:=max_nat c3
 have m3:=max_int e3
 have m4:=max_nat e3
 have b1 : ((p : Int) < (A : Int)) = True:=eq_true (by omega)
 have b2 : (0 ≤ (p : Int)) = True:=eq_true (by omega)
 have b3 : ((q : Int) < (B : Int)) = True:=eq_true (by omega)
 have b4 : (0 ≤ (q : Int)) = True:=eq_true (by omega)
 have HME:=Aside0.mk mem
 have HKN:=Aside0.mk kn
 have HO:=Aside0.mk (Only.refl b W)
 have HBL:=Aside0.mk kn.lt
 obtain ⟨v0,v1,v2,v3,v5,v6,v7,e,hgb,h0,h1,h2,h3,_⟩:=mem.is
 obtain ⟨a2,d2,rfl,_,_,p2⟩:=h2.is
 obtain ⟨a3,d3,rfl,_,_,p3⟩:=h3.is
 have y2 : W.cell? ⟨g,2,none⟩ = some (.slice (some a2) A d2):=(blk_cell e 2).trans rfl
 have y3 : W.cell? ⟨g,3,none⟩ = some (.slice (some a3) B d3):=(blk_cell e 3).trans rfl
 have z2:=p2 p (by omega)
 have z3:=p3 q (by omega)
 rw [HW.out]
 clear hla hlb IH mem kn hN hij hj hkm hm c1 c2 c3 e1 e2 e3 hp hq hx hy hL1 hL2 e hgb h0 h1 h2 h3 p2 p3 hA hB
 go_enter Try.func65,Try.ntmps65
 go_wp2_with (first | (go_at_call 89;((with_reducible refine (wk_v (i:=i) (j:=x) (k:=k) (m:=y) HI.out.1 rfl HX.out.1.1 HX.out.1.2.1 HX.out.1.2.2.1 HX.out.1.2.2.2 HME.out HKN.out HL.out.1).mono ?_));rintro e w39 ⟨A39,d39,rfl,hp,ho,hk⟩;have P1:=Aside0.mk hp;replace HME:=Aside0.mk (HME.out.only ho);replace HKN:=Aside0.mk hk;replace HO:=Aside0.mk ho;clear hp ho hk y2 y3 z2 z3) | (go_at_call 89;((with_reducible refine (wk_v (i:=x) (j:=p) (k:=y) (m:=q) HI.out.2 rfl HX.out.2.1 HX.out.2.2.1 HX.out.2.2.2.1 HX.out.2.2.2.2 HME.out HKN.out HL.out.2.1).mono ?_));rintro e w47 ⟨A47,d47,rfl,hp,ho,hk⟩;have P2:=Aside0.mk hp;replace P1:=Aside0.mk (px_keep P1.out ho HBL.out);replace HKN:=Aside0.mk hk;replace HO:=Aside0.mk (HO.out.trans ho);clear hp ho hk) | (at_builtin;refine papp2 39 47 P1.out HO.out.size (px_reads P2.out) (by have:=HL.out;omega) ?_ (Nat.le_refl _) (ho:=rfl);intro v48 w48 h1 hb;have P3:=Aside0.mk h1;replace HKN:=Aside0.mk (HKN.out.keep (hb.block b HBL.out));replace HO:=Aside0.mk (only_base HO.out hb);clear h1 hb) | (at_builtin;refine papp1 49 55 (p : Int) (q : Int) P3.out HO.out.size (by rw [List.length_append];have:=HL.out;omega) ?_ (ho:=rfl);intro v56 w56 h1 hb;have P4:=Aside0.mk h1;replace HKN:=Aside0.mk (HKN.out.keep (hb.block b HBL.out));replace HO:=Aside0.mk (only_base HO.out hb);clear h1 hb))
 go_ret
 exact ⟨_,rfl,P4.out,HO.out,HKN.out⟩
set_option maxHeartbeats 16000000 in
set_option maxRecDepth 100000 in
theorem walk_step {M : Ted.Ms} {A B : Nat} {X Y : Nat → Nat} (hs : Small M) (hA : A ≤ 24) (hB : B ≤ 24) (hla : ∀ p,p < A → M.la p ≤ p) (hlb : ∀ q,q < B → M.lb q ≤ q) {N : Nat} (IH : ∀ N',N' < N → WalkAt M A B X Y N') {i j k m : Nat} (hN : (j - i) + (m - k) = N) (hij : i < j) (hj : j ≤ A) (hkm : k < m) (hm : m ≤ B) (W : World) (b g : Nat) (mem : Mem M A B X Y W b g) (kn : Kn M A B W b) :
  Calls Try.prog 89 #[.pointer (some ⟨g,0,none⟩),.int .i64 (i : Int),.int .i64 (j : Int),.int .i64 (k : Int),.int .i64 (m : Int)] W fun e w' => ∃ u,e = .returned u ∧ PX w' W.heap.size u (pairsR (Ted.wayS M i j k m)) ∧ Only b W w' ∧ Kn M A B w' b:=by
 obtain ⟨p,hp⟩ : ∃ p,j = p + 1:=⟨j - 1,by omega⟩
 obtain ⟨q,hq⟩ : ∃ q,m = q + 1:=⟨m - 1,by omega⟩
 have g1 : IntKind.i64.wrap ((j : Int) - 1) = (p : Int):=(i64_w _).trans (by rw [hp];exact num_sub (by omega))
 have g2 : IntKind.i64.wrap ((m : Int) - 1) = (q : Int):=(i64_w _).trans (by rw [hq];exact num_sub (by omega))
 have g3 : Value.int .i64 (wrap64 ((j : Int) - 1)) = Value.int .i64 (p : Int):=congrArg _ ((i64_w _).symm.trans g1)
 have g4 : Value.int .i64 (wrap64 ((m : Int) - 1)) = Value.int .i64 (q : Int):=congrArg _ ((i64_w _).symm.trans g2)
 have k1 : ((j : Int) ≤ (i : Int)) = False:=eq_false (by omega)
 have k2 : ((m : Int) ≤ (k : Int)) = False:=eq_false (by omega)
 have k3 : (j ≤ i) = False:=eq_false (by omega)
 have k4 : (m ≤ k) = False:=eq_false (by omega)
 have b1 : ((p : Int) < (A : Int)) = True:=eq_true (by omega)
 have b2 : (0 ≤ (p : Int)) = True:=eq_true (by omega)
 have b3 : ((q : Int) < (B : Int)) = True:=eq_true (by omega)
 have b4 : (0 ≤ (q : Int)) = True:=eq_true (by omega)
 obtain ⟨v0,v1,v2,v3,v5,v6,v7,e,hgb,h0,h1,h2,h3,dd,nn,rr,h5,h6,h7,h8,h9,_⟩:=mem.is
 obtain ⟨a0,d0,rfl,_,q0,p0⟩:=h0.is
 obtain ⟨a1,d1,rfl,_,q1,p1⟩:=h1.is
 obtain ⟨a5,d5,rfl,_,q5,p5⟩:=h5.is
 obtain ⟨a6,d6,rfl,_,q6,p6⟩:=h6.is
 obtain ⟨x6,hd⟩:=h8 p (by omega)
 obtain ⟨y6,hn⟩:=h9 q (by omega)
 have z0:=p0 p (by omega)
 have z1:=p1 q (by omega)
 have z5:=p5 (X p) x6
 have z6:=p6 (Y q) y6
 rw [← hd] at z5
 rw [← hn] at z6
 obtain ⟨xp,hxp⟩ : ∃ xp,xp = X p:=⟨_,rfl⟩
 obtain ⟨yq,hyq⟩ : ∃ yq,yq = Y q:=⟨_,rfl⟩
 rw [← hxp] at z0 z5 x6
 rw [← hyq] at z1 z6 y6
 have b5 : (0 ≤ (xp : Int)) = True:=eq_true (by omega)
 have b6 : ((xp : Int) < 6) = True:=eq_true (by omega)
 have b7 : (0 ≤ (yq : Int)) = True:=eq_true (by omega)
 have b8 : ((yq : Int) < 6) = True:=eq_true (by omega)
 have HY:=Aside0.mk (show W.cell? ⟨g,0,none⟩ = some (.slice (some a0) A d0) ∧ W.cell? ⟨g,1,none⟩ = some (.slice (some a1) B d1) ∧ W.cell? ⟨g,5,none⟩ = some (.slice (some a5) 6 d5) ∧ W.cell? ⟨g,6,none⟩ = some (.slice (some a6) 6 d6) from ⟨(blk_cell e 0).trans rfl,(blk_cell e 1).trans rfl,(blk_cell e 5).trans rfl,(blk_cell e 6).trans rfl⟩)
 have HNE:=Aside0.mk (show g ≠ b ∧ a0.block ≠ b ∧ a1.block ≠ b ∧ a5.block ≠ b ∧ a6.block ≠ b from ⟨hgb,by omega,by omega,by omega,by omega⟩)
 have HZ:=Aside0.mk (show W.cell? (a0.add p) = some (.int .i64 (xp : Int)) ∧ W.cell? (a1.add q) = some (.int .i64 (yq : Int)) ∧ W.cell? (a5.add xp) = some (.int .i64 (M.del p)) ∧ W.cell? (a6.add yq) = some (.int .i64 (M.ins q)) from ⟨z0,z1,z5,z6⟩)
 have D0:=D_small hs i j k m
 have D1:=D_small hs i p k m
 have D2:=D_small hs i j k q
 have e1:=hs.del p
 have e2:=hs.ins q
 obtain ⟨zz,hzz⟩ : ∃ z,z = Ted.D M i j k m:=⟨_,rfl⟩
 obtain ⟨za,hza⟩ : ∃ z,z = Ted.D M i p k m:=⟨_,rfl⟩
 obtain ⟨zb,hzb⟩ : ∃ z,z = Ted.D M i j k q:=⟨_,rfl⟩
 obtain ⟨pd,hpd⟩ : ∃ z,z = M.del p:=⟨_,rfl⟩
 obtain ⟨pi,hpi⟩ : ∃ z,z = M.ins q:=⟨_,rfl⟩
 rw [← hzz] at D0
 rw [← hza] at D1
 rw [← hzb] at D2
 rw [← hpd] at HZ e1
 rw [← hpi] at HZ e2
 obtain ⟨sa,hsa⟩ : ∃ s,s = za + pd:=⟨_,rfl⟩
 obtain ⟨sb,hsb⟩ : ∃ s,s = zb + pi:=⟨_,rfl⟩
 have g5 : IntKind.i64.wrap (za + pd) = sa:=(i64_w _).trans (by rw [hsa];exact wid (by omega) (by omega))
 have g6 : IntKind.i64.wrap (zb + pi) = sb:=(i64_w _).trans (by rw [hsb];exact wid (by omega) (by omega))
 have HDD:=Aside0.mk (show DistAt M A B X Y ((j - i) + (m - k)) ∧ DistAt M A B X Y ((p - i) + (m - k)) ∧ DistAt M A B X Y ((j - i) + (q - k)) from ⟨dist_calls hs hA hB hla hlb _,dist_calls hs hA hB hla hlb _,dist_calls hs hA hB hla hlb _⟩)
 have HE:=Aside0.mk (And.intro hzz (And.intro hza hzb))
 have HX:=Aside0.mk (show i ≤ j ∧ j ≤ A ∧ k ≤ m ∧ m ≤ B ∧ i ≤ p ∧ p ≤ A ∧ k ≤ q ∧ q ≤ B from ⟨by omega,by omega,by omega,by omega,by omega,by omega,by omega,by omega⟩)
 have HME:=Aside0.mk mem
 have HKN:=Aside0.mk kn
 have HO:=Aside0.mk (Only.refl b W)
 by_cases ha : zz = sa
 ·have HP:=Aside0.mk (show Ted.wayS M i j k m = Ted.wayS M i p k m by rw [Ted.wayS_del hij hkm (by rw [← hzz,ha,hsa,hza,hpd,hp,Nat.add_sub_cancel])];rw [hp,Nat.add_sub_cancel])
  have HI:=Aside0.mk (IH ((p - i) + (m - k)) (by omega))
  rw [HP.out]
  have qa : (zz == sa) = true:=by rw [ha];simp
  clear hs hA hB hla hlb IH hN hij hj hkm hm mem kn e hgb h0 h1 h2 h3 h5 h6 h7 h8 h9 p0 p1 p5 p6 q0 q1 q5 q6 x6 y6 hd hn z0 z1 z5 z6 hxp hyq D0 D1 D2 e1 e2 hzz hza hzb hpd hpi hsa hsb hp hq
  clear HP
  go_enter Try.func89,Try.ntmps89
  go_upto_region 4 with (go_at_call 53;have hh:=HDD.out.1 i j k m rfl HX.out.1 HX.out.2.1 HX.out.2.2.1 HX.out.2.2.2.1 _ b g HME.out HKN.out;(with_reducible refine hh.mono ?_);clear hh;rw [← HE.out.1];rintro e w26 ⟨rfl,ho,hk⟩;replace HME:=Aside0.mk (HME.out.only ho);replace HKN:=Aside0.mk hk;replace HO:=Aside0.mk (HO.out.trans ho);clear ho hk)
  have y0:=HO.out.cell HNE.out.1 HY.out.2.2.1
  have y1:=HO.out.cell HNE.out.1 HY.out.1
  have y2:=HO.out.cell (by rw [add_block];exact HNE.out.2.1) HZ.out.1
  have y3:=HO.out.cell (by rw [add_block];exact HNE.out.2.2.2.1) HZ.out.2.2.1
  go_region_held3 (fun w' => w'.cell? ⟨g,5,none⟩ = some (.slice (some a5) 6 d5) ∧ w'.cell? ⟨g,0,none⟩ = some (.slice (some a0) A d0) ∧ w'.cell? (a0.add p) = some (.int .i64 (xp : Int)) ∧ w'.cell? (a5.add xp) = some (.int .i64 pd)) (first | exact ⟨y0,y1,y2,y3⟩) ((go_at_call 53;((with_reducible refine (ds_v (i:=i) (j:=p) (k:=k) (m:=m) HDD.out.2.1 rfl HX.out.2.2.2.2.1 HX.out.2.2.2.2.2.1 HX.out.2.2.1 HX.out.2.2.2.1 HME.out HKN.out).mono ?_));rw [← HE.out.2.1];rintro e w35 ⟨rfl,ho,hk⟩;replace HME:=Aside0.mk (HME.out.only ho);replace HKN:=Aside0.mk hk;replace HO:=Aside0.mk (HO.out.trans ho);clear ho hk y0 y1 y2 y3;have y0:=HO.out.cell HNE.out.1 HY.out.2.2.1;have y1:=HO.out.cell HNE.out.1 HY.out.1;have y2:=HO.out.cell (by rw [add_block];exact HNE.out.2.1) HZ.out.1;have y3:=HO.out.cell (by rw [add_block];exact HNE.out.2.2.2.1) HZ.out.2.2.1))
  clear y0 y1 y2 y3
  go_wp2_with (go_at_call 89;have hh:=HI.out i p k m rfl HX.out.2.2.2.2.1 HX.out.2.2.2.2.2.1 HX.out.2.2.1 HX.out.2.2.2.1 _ b g HME.out HKN.out;(with_reducible refine hh.mono ?_);clear hh;rintro e w59 ⟨u,rfl,hp,ho,hk⟩;have PR:=Aside0.mk (Kd.R_lower hp HO.out.size);replace HO:=Aside0.mk (HO.out.trans ho);replace HKN:=Aside0.mk hk;clear hp ho hk)
  go_ret
  exact ⟨_,rfl,PR.out,HO.out,HKN.out⟩
 ·have qa : (zz == sa) = false:=beq_eq_false_iff_ne.2 ha
  have na : ¬ Ted.D M i j k m = Ted.D M i (j - 1) k m + M.del (j - 1):=fun h => ha (by rw [hzz,h,hsa,hza,hpd,hp,Nat.add_sub_cancel])
  by_cases hb : zz = sb
  ·have qb : (zz == sb) = true:=by rw [hb];simp
   have HP:=Aside0.mk (show Ted.wayS M i j k m = Ted.wayS M i j k q by rw [Ted.wayS_ins hij hkm na (by rw [← hzz,hb,hsb,hzb,hpi,hq,Nat.add_sub_cancel])];rw [hq,Nat.add_sub_cancel])
   have HI:=Aside0.mk (IH ((j - i) + (q - k)) (by omega))
   rw [HP.out]
   clear hs hA hB hla hlb IH hN hij hj hkm hm mem kn e hgb h0 h1 h2 h3 h5 h6 h7 h8 h9 p0 p1 p5 p6 q0 q1 q5 q6 x6 y6 hd hn z0 z1 z5 z6 hxp hyq D0 D1 D2 e1 e2 hzz hza hzb hpd hpi hsa hsb hp hq
   clear HP na ha
   go_enter Try.func89,Try.ntmps89
   go_upto_region 4 with (go_at_call 53;have hh:=HDD.out.1 i j k m rfl HX.out.1 HX.out.2.1 HX.out.2.2.1 HX.out.2.2.2.1 _ b g HME.out HKN.out;(with_reducible refine hh.mono ?_);clear hh;rw [← HE.out.1];rintro e w26 ⟨rfl,ho,hk⟩;replace HME:=Aside0.mk (HME.out.only ho);replace HKN:=Aside0.mk hk;replace HO:=Aside0.mk (HO.out.trans ho);clear ho hk)
   have y0:=HO.out.cell HNE.out.1 HY.out.2.2.1
   have y1:=HO.out.cell HNE.out.1 HY.out.1
   have y2:=HO.out.cell (by rw [add_block];exact HNE.out.2.1) HZ.out.1
   have y3:=HO.out.cell (by rw [add_block];exact HNE.out.2.2.2.1) HZ.out.2.2.1
   go_region_held3 (fun w' => w'.cell? ⟨g,5,none⟩ = some (.slice (some a5) 6 d5) ∧ w'.cell? ⟨g,0,none⟩ = some (.slice (some a0) A d0) ∧ w'.cell? (a0.add p) = some (.int .i64 (xp : Int)) ∧ w'.cell? (a5.add xp) = some (.int .i64 pd)) (first | exact ⟨y0,y1,y2,y3⟩) ((go_at_call 53;((with_reducible refine (ds_v (i:=i) (j:=p) (k:=k) (m:=m) HDD.out.2.1 rfl HX.out.2.2.2.2.1 HX.out.2.2.2.2.2.1 HX.out.2.2.1 HX.out.2.2.2.1 HME.out HKN.out).mono ?_));rw [← HE.out.2.1];rintro e w35 ⟨rfl,ho,hk⟩;replace HME:=Aside0.mk (HME.out.only ho);replace HKN:=Aside0.mk hk;replace HO:=Aside0.mk (HO.out.trans ho);clear ho hk y0 y1 y2 y3;have y0:=HO.out.cell HNE.out.1 HY.out.2.2.1;have y1:=HO.out.cell HNE.out.1 HY.out.1;have y2:=HO.out.cell (by rw [add_block];exact HNE.out.2.1) HZ.out.1;have y3:=HO.out.cell (by rw [add_block];exact HNE.out.2.2.2.1) HZ.out.2.2.1))
   clear y0 y1 y2 y3
   go_upto_region 6 with fail
   have y0:=HO.out.cell HNE.out.1 HY.out.2.2.2
   have y1:=HO.out.cell HNE.out.1 HY.out.2.1
   have y2:=HO.out.cell (by rw [add_block];exact HNE.out.2.2.1) HZ.out.2.1
   have y3:=HO.out.cell (by rw [add_block];exact HNE.out.2.2.2.2) HZ.out.2.2.2
   go_region_held3 (fun w' => w'.cell? ⟨g,6,none⟩ = some (.slice (some a6) 6 d6) ∧ w'.cell? ⟨g,1,none⟩ = some (.slice (some a1) B d1) ∧ w'.cell? (a1.add q) = some (.int .i64 (yq : Int)) ∧ w'.cell? (a6.add yq) = some (.int .i64 pi)) (first | exact ⟨y0,y1,y2,y3⟩) ((go_at_call 53;((with_reducible refine (ds_v (i:=i) (j:=j) (k:=k) (m:=q) HDD.out.2.2 rfl HX.out.1 HX.out.2.1 HX.out.2.2.2.2.2.2.1 HX.out.2.2.2.2.2.2.2 HME.out HKN.out).mono ?_));rw [← HE.out.2.2];rintro e w68 ⟨rfl,ho,hk⟩;replace HME:=Aside0.mk (HME.out.only ho);replace HKN:=Aside0.mk hk;replace HO:=Aside0.mk (HO.out.trans ho);clear ho hk y0 y1 y2 y3;have y0:=HO.out.cell HNE.out.1 HY.out.2.2.2;have y1:=HO.out.cell HNE.out.1 HY.out.2.1;have y2:=HO.out.cell (by rw [add_block];exact HNE.out.2.2.1) HZ.out.2.1;have y3:=HO.out.cell (by rw [add_block];exact HNE.out.2.2.2.2) HZ.out.2.2.2))
   clear y0 y1 y2 y3
   go_wp2_with (go_at_call 89;have hh:=HI.out i j k q rfl HX.out.1 HX.out.2.1 HX.out.2.2.2.2.2.2.1 HX.out.2.2.2.2.2.2.2 _ b g HME.out HKN.out;(with_reducible refine hh.mono ?_);clear hh;rintro e w92 ⟨u,rfl,hp,ho,hk⟩;have PR:=Aside0.mk (Kd.R_lower hp HO.out.size);replace HO:=Aside0.mk (HO.out.trans ho);replace HKN:=Aside0.mk hk;clear hp ho hk)
   go_ret
   exact ⟨_,rfl,PR.out,HO.out,HKN.out⟩
  ·have qb : (zz == sb) = false:=beq_eq_false_iff_ne.2 hb
   have nb : ¬ Ted.D M i j k m = Ted.D M i j k (m - 1) + M.ins (m - 1):=fun h => hb (by rw [hzz,h,hsb,hzb,hpi,hq,Nat.add_sub_cancel])
   have HI : Aside0 (∀ W',Mem M A B X Y W' b g → Kn M A B W' b → _):=⟨fun W' mem' kn' => l11match hA hB hla hlb IH hN hij hj hkm hm W' b g mem' kn'⟩
   rw [Ted.wayS_rel hij hkm na nb]
   clear hs hA hB hla hlb IH hN hij hj hkm hm mem kn e hgb h0 h1 h2 h3 h5 h6 h7 h8 h9 p0 p1 p5 p6 q0 q1 q5 q6 x6 y6 hd hn z0 z1 z5 z6 hxp hyq D0 D1 D2 e1 e2 hzz hza hzb hpd hpi hsa hsb hp hq
   clear na nb ha hb
   go_enter Try.func89,Try.ntmps89
   go_upto_region 4 with (go_at_call 53;have hh:=HDD.out.1 i j k m rfl HX.out.1 HX.out.2.1 HX.out.2.2.1 HX.out.2.2.2.1 _ b g HME.out HKN.out;(with_reducible refine hh.mono ?_);clear hh;rw [← HE.out.1];rintro e w26 ⟨rfl,ho,hk⟩;replace HME:=Aside0.mk (HME.out.only ho);replace HKN:=Aside0.mk hk;replace HO:=Aside0.mk (HO.out.trans ho);clear ho hk)
   have y0:=HO.out.cell HNE.out.1 HY.out.2.2.1
   have y1:=HO.out.cell HNE.out.1 HY.out.1
   have y2:=HO.out.cell (by rw [add_block];exact HNE.out.2.1) HZ.out.1
   have y3:=HO.out.cell (by rw [add_block];exact HNE.out.2.2.2.1) HZ.out.2.2.1
   go_region_held3 (fun w' => w'.cell? ⟨g,5,none⟩ = some (.slice (some a5) 6 d5) ∧ w'.cell? ⟨g,0,none⟩ = some (.slice (some a0) A d0) ∧ w'.cell? (a0.add p) = some (.int .i64 (xp : Int)) ∧ w'.cell? (a5.add xp) = some (.int .i64 pd)) (first | exact ⟨y0,y1,y2,y3⟩) ((go_at_call 53;((with_reducible refine (ds_v (i:=i) (j:=p) (k:=k) (m:=m) HDD.out.2.1 rfl HX.out.2.2.2.2.1 HX.out.2.2.2.2.2.1 HX.out.2.2.1 HX.out.2.2.2.1 HME.out HKN.out).mono ?_));rw [← HE.out.2.1];rintro e w35 ⟨rfl,ho,hk⟩;replace HME:=Aside0.mk (HME.out.only ho);replace HKN:=Aside0.mk hk;replace HO:=Aside0.mk (HO.out.trans ho);clear ho hk y0 y1 y2 y3;have y0:=HO.out.cell HNE.out.1 HY.out.2.2.1;have y1:=HO.out.cell HNE.out.1 HY.out.1;have y2:=HO.out.cell (by rw [add_block];exact HNE.out.2.1) HZ.out.1;have y3:=HO.out.cell (by rw [add_block];exact HNE.out.2.2.2.1) HZ.out.2.2.1))
   clear y0 y1 y2 y3
   go_upto_region 6 with fail
   have y0:=HO.out.cell HNE.out.1 HY.out.2.2.2
   have y1:=HO.out.cell HNE.out.1 HY.out.2.1
   have y2:=HO.out.cell (by rw [add_block];exact HNE.out.2.2.1) HZ.out.2.1
   have y3:=HO.out.cell (by rw [add_block];exact HNE.out.2.2.2.2) HZ.out.2.2.2
   go_region_held3 (fun w' => w'.cell? ⟨g,6,none⟩ = some (.slice (some a6) 6 d6) ∧ w'.cell? ⟨g,1,none⟩ = some (.slice (some a1) B d1) ∧ w'.cell? (a1.add q) = some (.int .i64 (yq : Int)) ∧ w'.cell? (a6.add yq) = some (.int .i64 pi)) (first | exact ⟨y0,y1,y2,y3⟩) ((go_at_call 53;((with_reducible refine (ds_v (i:=i) (j:=j) (k:=k) (m:=q) HDD.out.2.2 rfl HX.out.1 HX.out.2.1 HX.out.2.2.2.2.2.2.1 HX.out.2.2.2.2.2.2.2 HME.out HKN.out).mono ?_));rw [← HE.out.2.2];rintro e w68 ⟨rfl,ho,hk⟩;replace HME:=Aside0.mk (HME.out.only ho);replace HKN:=Aside0.mk hk;replace HO:=Aside0.mk (HO.out.trans ho);clear ho hk y0 y1 y2 y3;have y0:=HO.out.cell HNE.out.1 HY.out.2.2.2;have y1:=HO.out.cell HNE.out.1 HY.out.2.1;have y2:=HO.out.cell (by rw [add_block];exact HNE.out.2.2.1) HZ.out.2.1;have y3:=HO.out.cell (by rw [add_block];exact HNE.out.2.2.2.2) HZ.out.2.2.2))
   clear y0 y1 y2 y3
   go_wp2_with (go_at_call 65;have hh:=HI.out _ HME.out HKN.out;(with_reducible refine hh.mono ?_);clear hh;rintro e w98 ⟨u,rfl,hp,ho,hk⟩;have PR:=Aside0.mk (Kd.R_lower hp HO.out.size);replace HO:=Aside0.mk (HO.out.trans ho);replace HKN:=Aside0.mk hk;clear hp ho hk)
   go_ret
   exact ⟨_,rfl,PR.out,HO.out,HKN.out⟩
set_option maxHeartbeats 4000000 in
set_option maxRecDepth 100000 in
theorem walk_calls {M : Ted.Ms} {A B : Nat} {X Y : Nat → Nat} (hs : Small M) (hA : A ≤ 24) (hB : B ≤ 24) (hla : ∀ p,p < A → M.la p ≤ p) (hlb : ∀ q,q < B → M.lb q ≤ q) : ∀ N : Nat,WalkAt M A B X Y N:=by
 intro N
 induction N using Nat.strongRecOn with
 | _ N IH =>
  intro i j k m hN hij hj hkm hm W b g mem kn
  by_cases h1 : i < j
  ·by_cases h2 : k < m
   ·exact walk_step hs hA hB hla hlb IH hN h1 hj h2 hm W b g mem kn
   ·have k1 : ((j : Int) ≤ (i : Int)) = False:=eq_false (by omega)
    have k2 : ((m : Int) ≤ (k : Int)) = True:=eq_true (by omega)
    have k3 : (j ≤ i) = False:=eq_false (by omega)
    have k4 : (m ≤ k) = True:=eq_true (by omega)
    rw [Ted.wayS_none (by omega)]
    have HK:=Aside0.mk kn
    clear IH hs hla hlb mem kn hN hij hj hkm hm h1 h2 hA hB
    go_enter Try.func89,Try.ntmps89
    go_wp2
    go_ret
    exact ⟨_,rfl,px_lit0 W,(Only.refl b W).alloc _,HK.out.keep ((below_alloc (Below.refl _ _) _).block b HK.out.lt)⟩
  ·have k1 : ((j : Int) ≤ (i : Int)) = True:=eq_true (by omega)
   have k3 : (j ≤ i) = True:=eq_true (by omega)
   rw [Ted.wayS_none (by omega)]
   have HK:=Aside0.mk kn
   clear IH hs hla hlb mem kn hN hij hj hkm hm h1 hA hB
   go_enter Try.func89,Try.ntmps89
   go_wp2
   go_ret
   exact ⟨_,rfl,px_lit0 W,(Only.refl b W).alloc _,HK.out.keep ((below_alloc (Below.refl _ _) _).block b HK.out.lt)⟩
end Go.Proofs.Ytelglbebffdaaaa.X
