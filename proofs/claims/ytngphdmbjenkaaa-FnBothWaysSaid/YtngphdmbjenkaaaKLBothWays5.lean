/- Part 5 of the proof of FnBothWays: what it needs. -/
import Derived.Test.YtngphdmbjenkaaaKLBothWays3
namespace Go.Proofs.Ytngphdmbjenkaaa.X
open Go.RowKit Go.Proofs.YtngphdmbjenkaaaW.PrintWords Go.Proofs.YtngphdmbjenkaaaW.PrintLast Go.Proofs.YtngphdmbjenkaaaW.PrintMore
attribute [local go_sem] max2_int min2_int max_two min_two max_three min_three max_four min_four   -- for this text's walks alone
set_option linter.unusedVariables false
set_option linter.unusedSimpArgs false
def spec_RankOf.l0 : Nat → List Int → List Int → Int → Option (List Int)
 | 0,_,_,_ => none
 | k + 1,x3,x4,x5 => if x5 < (x3.length : Int) then (if 0 ≤ x5 then (if 0 ≤ (rd x3 x5) then (if (rd x3 x5) < (x4.length : Int) then (spec_RankOf.l0 k x3 (x4.set ((rd x3 x5) : Int).toNat x5) (wrap64 (x5 + 1))) else (none)) else (none)) else (none)) else (some x4)
def spec_RankOf.f (k : Nat) (l0 : List (S77)) : Option (List Int) := (spec_PostOrder.f k l0).bind fun t871 => (if 0 ≤ (t871.length : Int) then (if ((t871.length : Int) : Int).toNat ≤ 35184372088832 then (spec_RankOf.l0 k t871 (List.replicate ((t871.length : Int) : Int).toNat 0) 0) else (none)) else (none))
theorem spec_RankOf.mono_l : ∀ k,(∀ y0 y1 y2,LeO (spec_RankOf.l0 k y0 y1 y2) (spec_RankOf.l0 (k + 1) y0 y1 y2))
 | 0 => fun _ _ _ r h => by simp [spec_RankOf.l0] at h
 | k + 1 => by
  have ih0 := spec_RankOf.mono_l k
  ·intro y0 y1 y2
   unfold spec_RankOf.l0
   repeat' first
   | (with_reducible exact ih0 _ _ _)
   | (with_reducible exact spec_PostOrder.mono _ _)
   | (with_reducible exact LeO.refl _)
   | (with_reducible exact LeO.none _)
   | (with_reducible refine LeO.ite ?_ ?_)
   | (with_reducible refine LeO.bind ?_ (fun _ => ?_))
   | exact ih0 _ _ _
   | exact spec_PostOrder.mono _ _
   | exact LeO.none _
   | refine LeO.ite ?_ ?_
   | refine LeO.bind ?_ (fun _ => ?_)
theorem spec_RankOf.mono : ∀ a0 k,LeO (spec_RankOf.f k a0) (spec_RankOf.f (k + 1) a0) := by
 intro a0 k
 have ih0 := spec_RankOf.mono_l k
 unfold spec_RankOf.f
 repeat' first
   | (with_reducible exact ih0 _ _ _)
   | (with_reducible exact spec_PostOrder.mono _ _)
   | (with_reducible exact LeO.refl _)
   | (with_reducible exact LeO.none _)
   | (with_reducible refine LeO.ite ?_ ?_)
   | (with_reducible refine LeO.bind ?_ (fun _ => ?_))
   | exact ih0 _ _ _
   | exact spec_PostOrder.mono _ _
   | exact LeO.none _
   | refine LeO.ite ?_ ?_
   | refine LeO.bind ?_ (fun _ => ?_)
set_option maxHeartbeats 8000000 in
set_option maxRecDepth 100000 in
theorem spec_RankOf.calls (k : Nat) (A0 : Option Addr) (c0 : Nat) (l0 : List (S77)) (r : List Int) (w : World) (hr0 : Kd.C k77 w A0 l0.length l0) (hc0 : l0.length ≤ c0) (h : spec_RankOf.f k l0 = some r) :
  Calls Try.prog 148 #[.slice A0 l0.length c0] w fun e w' => ∃ v0_ : Value,e = .returned (v0_) ∧ Kd.R (Kd.int .i64) 3 w' w.heap.size (fun _ => True) v0_ r ∧ Below w.heap.size w w' := by
 have HR0 := Aside0.mk hr0
 have HC0 := Aside0.mk hc0
 clear hr0 hc0
 have HB := Aside0.mk (Below.refl w.heap.size w)
 have H : ((spec_PostOrder.f k l0).bind fun t871 => (if 0 ≤ (t871.length : Int) then (if ((t871.length : Int) : Int).toNat ≤ 35184372088832 then (spec_RankOf.l0 k t871 (List.replicate ((t871.length : Int) : Int).toNat 0) 0) else (none)) else (none))) = some r := h
 clear h
 replace H := Option.bind_eq_some_iff.mp H
 obtain ⟨t871,A20,H⟩ := H
 try dsimp only at H
 have A2 := Aside0.mk A20
 clear A20
 by_cases c3 : 0 ≤ (t871.length : Int)
 ·rw [if_pos c3] at H
  have c3b0 := eq_true c3
  have c3b1 : decide (0 ≤ (t871.length : Int)) = true := decide_eq_true c3
  clear c3
  by_cases c4 : ((t871.length : Int) : Int).toNat ≤ 35184372088832
  ·rw [if_pos c4] at H
   have c4b0 := eq_true c4
   have c4b1 : decide (((t871.length : Int) : Int).toNat ≤ 35184372088832) = true := decide_eq_true c4
   clear c4
   obtain ⟨y874,hy874⟩ : ∃ y_ : List Int,y_ = (List.replicate ((t871.length : Int) : Int).toNat 0) := ⟨_,rfl⟩
   replace H : (spec_RankOf.l0 k t871 y874 0) = some r := by first | (rw [hy874];with_reducible exact H) | (have H2_ := (Option.bind_some _ _).symm.trans H;rw [hy874];with_reducible exact H2_) | (have H2_ := (Option.bind_some _ _).symm.trans H;with_reducible exact H2_) | with_reducible exact H | (rw [hy874];exact H) | exact H
   have Ny874 := Aside0.mk hy874
   clear hy874
   have H' := Aside0.mk H
   clear H
   go_enter Try.func148,Try.ntmps148
   go_wp2_with (first | ((with_reducible refine gate_callee (f := 98) rfl ?_);refine gL_ (some 7) Try.func98 #[.slice A0 l0.length c0] ?_;(with_reducible refine (spec_PostOrder.calls k _ _ l0 t871 _ (cc_ HR0.out) HC0.out A2.out).mono ?_);rintro e w5 ⟨v872,rfl,ho0,hb⟩;refine ⟨_,rfl,?_⟩;have HO873 := Aside0.mk (Kd.R_lower ho0 (bs_ HB));replace HB := tB_ HB hb;(try clear hb);(try clear ho0);obtain ⟨Ao6,co6,eo6⟩ := Kd.R_slice HO873.out;subst eo6) | ((with_reducible refine gate_dst (N := 10) rfl ?_);refine Kd.R_make (Kd.int .i64) _ 3 rfl (N := 10) rfl 25 _ _ rfl (t871.length : Int) rfl rfl Try.underlying25 (.int .i64 0) 8 info3 rfl (by decide) (by omega) 0 (ok := fun _ => True) (okp := fun _ => True) rfl (fun _ hk => hk) trivial (od_) (Nat.le_trans (Nat.mul_le_mul_right _ (od_ : (t871.length : Int).toNat ≤ 35184372088832)) (by omega)) (Below.refl _ _) (Nat.le_refl _) ?_;intro v875 w7 ho8 hb hg_ hnew_;clear hg_ hnew_;(first | rw [← Ny874.out] at ho8 | (simp only [Int.reduceToNat] at ho8;rw [← Ny874.out] at ho8));have HO876 := Aside0.mk (Kd.R_lower (Kd.R_new' ho8 (Kd.R_lt (rx_ HO873.out))) (bs_ HB));replace HO873 := Aside0.mk (Kd.R_elder' (rx_ HO873.out) (Kd.R_base ho8) hb);replace HB := tB_ HB hb;clear hb ho8))
   go_loopg [5] k (fun kq v5 w' => ∃ (x4_1 : List Int) (x5_1 : Int),v5 = .int .i64 x5_1 ∧ Aside0 (spec_RankOf.l0 kq t871 x4_1 x5_1 = some r) ∧ Aside0 (kq ≤ k) ∧ Aside0 (Kd.R (Kd.int .i64) 3 w' w.heap.size (fun k_ => some k_ ≠ (v875 : Value).ownBlock) (.slice Ao6 t871.length co6) t871) ∧ Aside0 (Kd.R (Kd.int .i64) 3 w' w.heap.size (fun k_ => some k_ ≠ ((.slice Ao6 t871.length co6) : Value).ownBlock) v875 x4_1) ∧ Aside0 (Below w.heap.size w w'))
   case atStart => exact ⟨(y874),(0),eb_,H',⟨Nat.le_refl _⟩,⟨rx_ (Kd.R_mono HO873.out (fun _ hk => hk.2))⟩,⟨rx_ (Kd.R_mono HO876.out (fun _ hk => hk.2))⟩,bl_ HB⟩
   case round =>
    clear H'
    try clear c1
    try clear p2
    try clear c3
    try clear c3b0
    try clear c3b1
    try clear c4
    try clear c4b0
    try clear c4b1
    obtain ⟨x4_1,x5_1,rfl,HA,HK1,HO_3,HO_4,HB⟩ := hrel
    cases gk with
    | zero => exact absurd HA.out (by simp [spec_RankOf.l0])
    | succ k1 =>
     have H := HA.out
     clear HA
     simp only [spec_RankOf.l0] at H
     by_cases c9 : x5_1 < (t871.length : Int)
     ·rw [if_pos c9] at H
      have c9b0 : decide (x5_1 < (t871.length : Int)) = true := decide_eq_true c9
      clear c9
      by_cases c10 : 0 ≤ x5_1
      ·rw [if_pos c10] at H
       have c10b0 : decide (0 ≤ x5_1) = true := decide_eq_true c10
       clear c10
       by_cases c11 : 0 ≤ (rd t871 x5_1)
       ·rw [if_pos c11] at H
        have c11b0 : decide (0 ≤ (rd t871 x5_1)) = true := decide_eq_true c11
        clear c11
        by_cases c12 : (rd t871 x5_1) < (x4_1.length : Int)
        ·rw [if_pos c12] at H
         have c12b0 : decide ((rd t871 x5_1) < (x4_1.length : Int)) = true := decide_eq_true c12
         clear c12
         obtain ⟨y878,hy878⟩ : ∃ y_ : List Int,y_ = (x4_1.set ((rd t871 x5_1) : Int).toNat x5_1) := ⟨_,rfl⟩
         replace H : (spec_RankOf.l0 k1 t871 y878 (wrap64 (x5_1 + 1))) = some r := by first | (rw [hy878];with_reducible exact H) | (have H2_ := (Option.bind_some _ _).symm.trans H;rw [hy878];with_reducible exact H2_) | (have H2_ := (Option.bind_some _ _).symm.trans H;with_reducible exact H2_) | with_reducible exact H | (rw [hy878];exact H) | exact H
         have Ny878 := Aside0.mk hy878
         clear hy878
         have H' := Aside0.mk H
         clear H
         have p877 : 0 ≤ (x5_1 : Int) := od_
         have q877 : x5_1 < (t871.length : Int) := od_
         obtain ⟨ad877,e877,hx877_0⟩ := Kd.at_int (Kd.R_reads' HO_3.out).2.2 x5_1 p877 q877
         cases e877
         replace p877 := eq_true p877
         replace q877 := eq_true q877
         have p13 : 0 ≤ ((rd t871 x5_1) : Int) := od_
         have q13 : ((rd t871 x5_1) : Int) < ((x4_1.length : Int) : Int) := od_
         obtain ⟨go13,co13,eo13,gb13,gl13,cl13,HG13⟩ := Kd.R_form HO_4.out (by omega)
         (first | cases eo13 | (injection eo13 with ea_ en_ ec_;(first | subst ea_ | (injection ea_ with ea_;subst ea_));subst ec_;clear en_))
         have GB13 := Aside0.mk gb13
         have GG13 := Aside0.mk HG13
         clear gb13 gl13 HG13
         obtain ⟨hx13_0,hf13_0⟩ := Kd.R_celln 0 HO_4.out ((rd t871 x5_1) : Int) p13 q13
         replace p13 := eq_true p13
         replace q13 := eq_true q13
         have HP14 := Kd.R_putg HO_4.out ((rd t871 x5_1) : Int) x5_1
         go_wp2_with (first | ((with_reducible refine gate_store (t := 3) (p := 23) rfl ?_);refine store_event (t := 3) (p := 23) (v := ?vo_w15) (w1 := (wr.setCell ⟨go13,((rd t871 x5_1) : Int).toNat,none⟩ (.int .i64 x5_1))) ?hg ?ho ?hn ?hr ?_;(case ho => rfl);(case hg => rfl);(case hn => rfl);(case hr => first | (go_simp;done) | (go_simp;rfl));intro w15 hw;have hg : wr.grownBy w15 (some go13) := (by rw [hw];exact HP14.2);have hp_ : Kd.R (Kd.int .i64) 3 w15 w.heap.size (fun k_ => some k_ ≠ (.slice (some ad877) t871.length co6 : Value).ownBlock) (.slice (some ⟨go13,0,none⟩) x4_1.length co13) y878 := (by rw [hw,Ny878.out];exact HP14.1);clear HP14;replace HO_3 := Aside0.mk (Kd.R_after (v := (.slice (some ⟨go13,0,none⟩) x4_1.length co13)) (v1 := (.slice (some ⟨go13,0,none⟩) x4_1.length co13)) (ok := (fun _ => True)) (rx_ (Kd.R_mono HO_3.out (fun _ hk => ⟨trivial,hk⟩))) hg (.inl rfl));replace HO_4 := Aside0.mk (hp_);replace HB := Aside0.mk ((by rw [hw];exact below_set (HB.out) GB13.out : Below w.heap.size w w15));clear hg hw hp_))
         go_roundg k1
         case measure => have := HK1.out;omega
         case rel => exact ⟨(y878),(wrap64 (x5_1 + 1)),eb_,H',⟨by have := HK1.out;omega⟩,⟨rx_ (Kd.R_mono HO_3.out (fun _ hk => hk.2))⟩,⟨rx_ HO_4.out⟩,bl_ HB⟩
        ·rw [if_neg c12] at H
         exact absurd H (by simp)
       ·rw [if_neg c11] at H
        exact absurd H (by simp)
      ·rw [if_neg c10] at H
       exact absurd H (by simp)
     ·rw [if_neg c9] at H
      have c9b0 : decide (x5_1 < (t871.length : Int)) = false := decide_eq_false c9
      clear c9
      obtain rfl := Option.some.inj H
      go_wp2
      go_ret
      exact ⟨_,ea_,rx_ (Kd.R_mono HO_4.out (fun _ hk => trivial)),(bl_ HB).out⟩
  ·rw [if_neg c4] at H
   exact absurd H (by simp)
 ·rw [if_neg c3] at H
  exact absurd H (by simp)
end Go.Proofs.Ytngphdmbjenkaaa.X
namespace Go.Proofs.Ytngphdmbjenkaaa.X
open Go.RowKit Go.Proofs.YtngphdmbjenkaaaW.PrintWords Go.Proofs.YtngphdmbjenkaaaW.PrintLast Go.Proofs.YtngphdmbjenkaaaW.PrintMore
attribute [local go_sem] max2_int min2_int max_two min_two max_three min_three max_four min_four   -- for this text's walks alone
set_option linter.unusedVariables false
set_option linter.unusedSimpArgs false
mutual
def spec_LeftLeaf.l0 : Nat → List (S77) → List Int → List Int → List Int → Int → Option (List Int)
 | 0,_,_,_,_,_ => none
 | k + 1,x0,x3,x4,x5,x6 => if x6 < (x4.length : Int) then (if 0 ≤ x6 then (spec_LeftLeaf.l1 k x0 x3 x4 x5 x6 (rd x4 x6)) else (none)) else (some x3)
def spec_LeftLeaf.l1 : Nat → List (S77) → List Int → List Int → List Int → Int → Int → Option (List Int)
 | 0,_,_,_,_,_,_ => none
 | k + 1,x0,x3,x4,x5,x6,x7 => if 0 ≤ x6 then (if x6 < (x4.length : Int) then ((spec_EndOf.f k x0 (rd x4 x6)).bind fun t890 => (if (wrap64 (x7 + 1)) < t890 then (if 0 ≤ (wrap64 (x7 + 1)) then (if (wrap64 (x7 + 1)) < (x0.length : Int) then (if 0 ≤ x7 then (if x7 < (x0.length : Int) then (if ((rd_T77 x0 (wrap64 (x7 + 1))).f1) = (wrap64 (((rd_T77 x0 x7).f1) + 1)) then (spec_LeftLeaf.l1 k x0 x3 x4 x5 x6 (wrap64 (x7 + 1))) else (if x7 < (x5.length : Int) then (if x3.length < 17592186044416 then (spec_LeftLeaf.l0 k x0 (x3 ++ [rd x5 x7]) x4 x5 (wrap64 (x6 + 1))) else (none)) else (none))) else (none)) else (none)) else (none)) else (none)) else (if 0 ≤ x7 then (if x7 < (x5.length : Int) then (if x3.length < 17592186044416 then (spec_LeftLeaf.l0 k x0 (x3 ++ [rd x5 x7]) x4 x5 (wrap64 (x6 + 1))) else (none)) else (none)) else (none)))) else (none)) else (none)
end
def spec_LeftLeaf.f (k : Nat) (l0 : List (S77)) : Option (List Int) := (spec_PostOrder.f k l0).bind fun t882 => ((spec_RankOf.f k l0).bind fun t885 => (spec_LeftLeaf.l0 k l0 (([] : List Int)) t882 t885 0))
theorem spec_LeftLeaf.mono_l : ∀ k,(∀ y0 y1 y2 y3 y4,LeO (spec_LeftLeaf.l0 k y0 y1 y2 y3 y4) (spec_LeftLeaf.l0 (k + 1) y0 y1 y2 y3 y4)) ∧ (∀ y0 y1 y2 y3 y4 y5,LeO (spec_LeftLeaf.l1 k y0 y1 y2 y3 y4 y5) (spec_LeftLeaf.l1 (k + 1) y0 y1 y2 y3 y4 y5))
 | 0 => ⟨fun _ _ _ _ _ r h => by simp [spec_LeftLeaf.l0] at h,fun _ _ _ _ _ _ r h => by simp [spec_LeftLeaf.l1] at h⟩
 | k + 1 => by
  obtain ⟨ih0,ih1⟩ := spec_LeftLeaf.mono_l k
  refine ⟨?_,?_⟩
  ·intro y0 y1 y2 y3 y4
   unfold spec_LeftLeaf.l0
   repeat' first
   | (with_reducible exact ih0 _ _ _ _ _)
   | (with_reducible exact ih1 _ _ _ _ _ _)
   | (with_reducible exact spec_EndOf.mono _ _ _)
   | (with_reducible exact spec_PostOrder.mono _ _)
   | (with_reducible exact spec_RankOf.mono _ _)
   | (with_reducible exact LeO.refl _)
   | (with_reducible exact LeO.none _)
   | (with_reducible refine LeO.ite ?_ ?_)
   | (with_reducible refine LeO.bind ?_ (fun _ => ?_))
   | exact ih0 _ _ _ _ _
   | exact ih1 _ _ _ _ _ _
   | exact spec_EndOf.mono _ _ _
   | exact spec_PostOrder.mono _ _
   | exact spec_RankOf.mono _ _
   | exact LeO.none _
   | refine LeO.ite ?_ ?_
   | refine LeO.bind ?_ (fun _ => ?_)
  ·intro y0 y1 y2 y3 y4 y5
   unfold spec_LeftLeaf.l1
   repeat' first
   | (with_reducible exact ih0 _ _ _ _ _)
   | (with_reducible exact ih1 _ _ _ _ _ _)
   | (with_reducible exact spec_EndOf.mono _ _ _)
   | (with_reducible exact spec_PostOrder.mono _ _)
   | (with_reducible exact spec_RankOf.mono _ _)
   | (with_reducible exact LeO.refl _)
   | (with_reducible exact LeO.none _)
   | (with_reducible refine LeO.ite ?_ ?_)
   | (with_reducible refine LeO.bind ?_ (fun _ => ?_))
   | exact ih0 _ _ _ _ _
   | exact ih1 _ _ _ _ _ _
   | exact spec_EndOf.mono _ _ _
   | exact spec_PostOrder.mono _ _
   | exact spec_RankOf.mono _ _
   | exact LeO.none _
   | refine LeO.ite ?_ ?_
   | refine LeO.bind ?_ (fun _ => ?_)
theorem spec_LeftLeaf.mono : ∀ a0 k,LeO (spec_LeftLeaf.f k a0) (spec_LeftLeaf.f (k + 1) a0) := by
 intro a0 k
 obtain ⟨ih0,ih1⟩ := spec_LeftLeaf.mono_l k
 unfold spec_LeftLeaf.f
 repeat' first
   | (with_reducible exact ih0 _ _ _ _ _)
   | (with_reducible exact ih1 _ _ _ _ _ _)
   | (with_reducible exact spec_EndOf.mono _ _ _)
   | (with_reducible exact spec_PostOrder.mono _ _)
   | (with_reducible exact spec_RankOf.mono _ _)
   | (with_reducible exact LeO.refl _)
   | (with_reducible exact LeO.none _)
   | (with_reducible refine LeO.ite ?_ ?_)
   | (with_reducible refine LeO.bind ?_ (fun _ => ?_))
   | exact ih0 _ _ _ _ _
   | exact ih1 _ _ _ _ _ _
   | exact spec_EndOf.mono _ _ _
   | exact spec_PostOrder.mono _ _
   | exact spec_RankOf.mono _ _
   | exact LeO.none _
   | refine LeO.ite ?_ ?_
   | refine LeO.bind ?_ (fun _ => ?_)
def spec_LeftLeaf.T8 : Bool × List (List Nat × List Nat) := (true,[([],[]),([0],[0]),([],[]),([],[]),([],[]),([3,4],[3,4]),([5],[5]),([2,6],[2,6]),([1,7],[1,7]),([8,7],[8]),([9],[9]),([9],[9]),([11,9],[9,11]),([10,12,9],[9,10,12]),([13,9],[9,13]),([14,9],[9,14]),([9],[9]),([9],[9]),([16,17,9],[9,16,17]),([18,9],[9,18]),([19,9],[9,19]),([20,9],[9,20]),([15,21,9],[9,15,21]),([9,22],[9,22])])
def spec_LeftLeaf.B8 : List Nat := [0,1,0,0,0,24,56,124,255,511,1023,1023,3071,8191,16383,32767,1023,1023,197631,459775,984063,2032639,4194303,8388607]
theorem spec_LeftLeaf.tab8 : rtab .any (opsOf Try.f122 8) = spec_LeftLeaf.T8 := by kernel_rfl
theorem spec_LeftLeaf.bits8 : waitsOk spec_LeftLeaf.T8.2 spec_LeftLeaf.B8 = true := by kernel_rfl
set_option maxHeartbeats 8000000 in
set_option maxRecDepth 100000 in
theorem spec_LeftLeaf.calls (k : Nat) (A0 : Option Addr) (c0 : Nat) (l0 : List (S77)) (r : List Int) (w : World) (hr0 : Kd.C k77 w A0 l0.length l0) (hc0 : l0.length ≤ c0) (h : spec_LeftLeaf.f k l0 = some r) :
  Calls Try.prog 122 #[.slice A0 l0.length c0] w fun e w' => ∃ v0_ : Value,e = .returned (v0_) ∧ Kd.R (Kd.int .i64) 3 w' w.heap.size (fun _ => True) v0_ r ∧ Below w.heap.size w w' := by
 have HR0 := Aside0.mk hr0
 have HC0 := Aside0.mk hc0
 clear hr0 hc0
 have HB := Aside0.mk (Below.refl w.heap.size w)
 have H : ((spec_PostOrder.f k l0).bind fun t882 => ((spec_RankOf.f k l0).bind fun t885 => (spec_LeftLeaf.l0 k l0 (([] : List Int)) t882 t885 0))) = some r := h
 clear h
 obtain ⟨y879,hy879⟩ : ∃ y_ : List Int,y_ = (([] : List Int)) := ⟨_,rfl⟩
 replace H : ((spec_PostOrder.f k l0).bind fun t882 => ((spec_RankOf.f k l0).bind fun t885 => (spec_LeftLeaf.l0 k l0 y879 t882 t885 0))) = some r := by first | (rw [hy879];with_reducible exact H) | (have H2_ := (Option.bind_some _ _).symm.trans H;rw [hy879];with_reducible exact H2_) | (have H2_ := (Option.bind_some _ _).symm.trans H;with_reducible exact H2_) | with_reducible exact H | (rw [hy879];exact H) | exact H
 have Ny879 := Aside0.mk hy879
 clear hy879
 replace H := Option.bind_eq_some_iff.mp H
 obtain ⟨t882,A20,H⟩ := H
 replace H : ((spec_RankOf.f k l0).bind fun t885 => (spec_LeftLeaf.l0 k l0 y879 t882 t885 0)) = some r := H
 have A2 := Aside0.mk A20
 clear A20
 replace H := Option.bind_eq_some_iff.mp H
 obtain ⟨t885,A30,H⟩ := H
 replace H : (spec_LeftLeaf.l0 k l0 y879 t882 t885 0) = some r := H
 have A3 := Aside0.mk A30
 clear A30
 have H' := Aside0.mk H
 clear H
 go_enter Try.func122,Try.ntmps122
 go_wp2_with (first | ((with_reducible refine gate_dst (N := 8) rfl ?_);refine Kd.R_lit (Kd.int .i64) _ 3 ?hg (N := 8) ?hd (xs := ([] : List Int)) (inner := []) (ok := fun _ => True) (okp := fun _ => True) ?hr ?hp (fun _ hk => hk) trivial (Below.refl _ _) (Nat.le_refl _) (by simp) ?_;(case hd => rfl);(case hg => rfl);(case hr => first | (go_simp;done) | (go_simp;rfl));(case hp => exact (Reps.none _ _));intro v880 w4 ho5 hb hg_ hnew_;clear hg_ hnew_;(first | rw [← Ny879.out] at ho5 | (simp only [Int.reduceToNat] at ho5;rw [← Ny879.out] at ho5));have HO881 := Aside0.mk (Kd.R_lower ho5 (bs_ HB));replace HB := tB_ HB hb;clear hb ho5) | ((with_reducible refine gate_callee (f := 98) rfl ?_);refine gL_ (some 10) Try.func98 #[.slice A0 l0.length c0] ?_;(with_reducible refine (spec_PostOrder.calls k _ _ l0 t882 _ (cx_ HR0 HB) HC0.out A2.out).mono ?_);rintro e w6 ⟨v883,rfl,ho0,hb⟩;refine ⟨_,rfl,?_⟩;have HO884 := Aside0.mk (Kd.R_lower (Kd.R_new' ho0 (Kd.R_lt (rx_ HO881.out))) (bs_ HB));replace HO881 := Aside0.mk (Kd.R_elder' (rx_ HO881.out) (Kd.R_base ho0) hb);replace HB := tB_ HB hb;(try clear hb);(try clear ho0)) | ((with_reducible refine gate_callee (f := 148) rfl ?_);refine gL_ (some 12) Try.func148 #[.slice A0 l0.length c0] ?_;(with_reducible refine (spec_RankOf.calls k _ _ l0 t885 _ (cx_ HR0 HB) HC0.out A3.out).mono ?_);rintro e w7 ⟨v886,rfl,ho0,hb⟩;refine ⟨_,rfl,?_⟩;have HO887 := Aside0.mk (Kd.R_lower (Kd.R_new' (Kd.R_new' ho0 (Kd.R_lt (rx_ HO881.out))) (Kd.R_lt (rx_ HO884.out))) (bs_ HB));replace HO881 := Aside0.mk (Kd.R_elder' (rx_ HO881.out) (Kd.R_base ho0) hb);replace HO884 := Aside0.mk (Kd.R_elder' (rx_ HO884.out) (Kd.R_base ho0) hb);replace HB := tB_ HB hb;(try clear hb);(try clear ho0)))
 go_loopg [3,6] k (fun kq v3 v6 w' => ∃ (x3_1 : List Int) (x6_1 : Int),v6 = .int .i64 x6_1 ∧ Aside0 (spec_LeftLeaf.l0 kq l0 x3_1 t882 t885 x6_1 = some r) ∧ Aside0 (kq ≤ k) ∧ Aside0 (Kd.R (Kd.int .i64) 3 w' w.heap.size (fun k_ => some k_ ≠ (v883 : Value).ownBlock ∧ some k_ ≠ (v886 : Value).ownBlock) v3 x3_1) ∧ Aside0 (Kd.R (Kd.int .i64) 3 w' w.heap.size (fun k_ => some k_ ≠ (v3 : Value).ownBlock ∧ some k_ ≠ (v886 : Value).ownBlock) v883 t882) ∧ Aside0 (Kd.R (Kd.int .i64) 3 w' w.heap.size (fun k_ => some k_ ≠ (v3 : Value).ownBlock ∧ some k_ ≠ (v883 : Value).ownBlock) v886 t885) ∧ Aside0 (Below w.heap.size w w'))
 case atStart => exact ⟨(y879),(0),eb_,H',⟨Nat.le_refl _⟩,⟨rx_ (Kd.R_mono HO881.out (fun _ hk => ⟨hk.1.2,hk.2⟩))⟩,⟨rx_ (Kd.R_mono HO884.out (fun _ hk => ⟨hk.1.2,hk.2⟩))⟩,⟨rx_ (Kd.R_mono HO887.out (fun _ hk => ⟨hk.1.2,hk.2⟩))⟩,bl_ HB⟩
 case round =>
  clear H'
  try clear c1
  try clear p2
  obtain ⟨x3_1,x6_1,rfl,HA,HK1,HO_3,HO_4,HO_5,HB⟩ := hrel
  cases gk with
  | zero => exact absurd HA.out (by simp [spec_LeftLeaf.l0])
  | succ k1 =>
   have H := HA.out
   clear HA
   simp only [spec_LeftLeaf.l0] at H
   by_cases c8 : x6_1 < (t882.length : Int)
   ·rw [if_pos c8] at H
    have c8b0 : decide (x6_1 < (t882.length : Int)) = true := decide_eq_true c8
    clear c8
    by_cases c9 : 0 ≤ x6_1
    ·rw [if_pos c9] at H
     have c9b0 : decide (0 ≤ x6_1) = true := decide_eq_true c9
     clear c9
     have H' := Aside0.mk H
     clear H
     obtain ⟨Ao10,co10,eo10⟩ := Kd.R_slice HO_4.out
     subst eo10
     have p888 : 0 ≤ (x6_1 : Int) := od_
     have q888 : x6_1 < (t882.length : Int) := od_
     obtain ⟨ad888,e888,hx888_0⟩ := Kd.at_int (Kd.R_reads' HO_4.out).2.2 x6_1 p888 q888
     cases e888
     replace p888 := eq_true p888
     replace q888 := eq_true q888
     go_wp2
     go_loopg [7] k1 (fun kq v7 w' => ∃ (x7_2 : Int),v7 = .int .i64 x7_2 ∧ Aside0 (spec_LeftLeaf.l1 kq l0 x3_1 t882 t885 x6_1 x7_2 = some r) ∧ Aside0 (kq ≤ k1) ∧ Aside0 (Kd.R (Kd.int .i64) 3 w' w.heap.size (fun k_ => some k_ ≠ ((.slice (some ad888) t882.length co10) : Value).ownBlock ∧ some k_ ≠ (v886 : Value).ownBlock) u3 x3_1) ∧ Aside0 (Kd.R (Kd.int .i64) 3 w' w.heap.size (fun k_ => some k_ ≠ (u3 : Value).ownBlock ∧ some k_ ≠ (v886 : Value).ownBlock) (.slice (some ad888) t882.length co10) t882) ∧ Aside0 (Kd.R (Kd.int .i64) 3 w' w.heap.size (fun k_ => some k_ ≠ (u3 : Value).ownBlock ∧ some k_ ≠ ((.slice (some ad888) t882.length co10) : Value).ownBlock) v886 t885) ∧ Aside0 (Below w.heap.size w w'))
     case atStart => exact ⟨(rd t882 x6_1),eb_,H',⟨Nat.le_refl _⟩,⟨rx_ HO_3.out⟩,⟨rx_ HO_4.out⟩,⟨rx_ HO_5.out⟩,bl_ HB⟩
     case round =>
      clear H'
      try clear c1
      try clear p2
      try clear c8
      try clear c8b0
      try clear p8
      try clear q8
      try clear hx8
      try clear c9
      try clear c9b0
      try clear hx888_0
      try clear p2
      try clear p888
      try clear q888
      obtain ⟨x7_2,rfl,HA,HK2,HO_3,HO_4,HO_5,HB⟩ := hrel
      cases gk with
      | zero => exact absurd HA.out (by simp [spec_LeftLeaf.l1])
      | succ k2 =>
       have H := HA.out
       clear HA
       simp only [spec_LeftLeaf.l1] at H
       by_cases c11 : 0 ≤ x6_1
       ·rw [if_pos c11] at H
        have c11b0 : decide (0 ≤ x6_1) = true := decide_eq_true c11
        clear c11
        by_cases c12 : x6_1 < (t882.length : Int)
        ·rw [if_pos c12] at H
         have c12b0 : decide (x6_1 < (t882.length : Int)) = true := decide_eq_true c12
         clear c12
         replace H := Option.bind_eq_some_iff.mp H
         obtain ⟨t890,A130,H⟩ := H
         try dsimp only at H
         have A13 := Aside0.mk A130
         clear A130
         by_cases c14 : (wrap64 (x7_2 + 1)) < t890
         ·rw [if_pos c14] at H
          have c14b0 : decide ((wrap64 (x7_2 + 1)) < t890) = true := decide_eq_true c14
          clear c14
          obtain ⟨ji15,hji15⟩ : ∃ j_ : Int,(wrap64 (x7_2 + 1)) = j_ := ⟨_,rfl⟩
          replace H : (if 0 ≤ (ji15) then (if (ji15) < (l0.length : Int) then (if 0 ≤ x7_2 then (if x7_2 < (l0.length : Int) then (if ((rd_T77 l0 (ji15)).f1) = (wrap64 (((rd_T77 l0 x7_2).f1) + 1)) then (spec_LeftLeaf.l1 k2 l0 x3_1 t882 t885 x6_1 ji15) else (if x7_2 < (t885.length : Int) then (if x3_1.length < 17592186044416 then (spec_LeftLeaf.l0 k2 l0 (x3_1 ++ [rd t885 x7_2]) t882 t885 (wrap64 (x6_1 + 1))) else (none)) else (none))) else (none)) else (none)) else (none)) else (none)) = some r := by first | (rw [hji15] at H;exact H) | (simp only [hji15] at H ⊢;exact H)
          (try rw [hji15] at c14b0)
          (try rw [hji15] at A13)
          have hji15w : (IntKind.i64.wrap (x7_2 + 1)) = ji15 := (i64_w _).trans hji15
          by_cases c16 : 0 ≤ (ji15)
          ·rw [if_pos c16] at H
           have c16b0 : decide (0 ≤ (ji15)) = true := decide_eq_true c16
           clear c16
           by_cases c17 : (ji15) < (l0.length : Int)
           ·rw [if_pos c17] at H
            have c17b0 : decide ((ji15) < (l0.length : Int)) = true := decide_eq_true c17
            clear c17
            by_cases c18 : 0 ≤ x7_2
            ·rw [if_pos c18] at H
             have c18b0 : decide (0 ≤ x7_2) = true := decide_eq_true c18
             clear c18
             by_cases c19 : x7_2 < (l0.length : Int)
             ·rw [if_pos c19] at H
              have c19b0 : decide (x7_2 < (l0.length : Int)) = true := decide_eq_true c19
              clear c19
              by_cases c20 : ((rd_T77 l0 (ji15)).f1) = (wrap64 (((rd_T77 l0 x7_2).f1) + 1))
              ·rw [if_pos c20] at H
               have c20b0 : (((rd_T77 l0 (ji15)).f1) == (wrap64 (((rd_T77 l0 x7_2).f1) + 1))) = true := beq_iff_eq.mpr c20
               have c20b1 : (((rd_T77 l0 (ji15)).f1) != (wrap64 (((rd_T77 l0 x7_2).f1) + 1))) = false := bne_eq_false_iff_eq.mpr c20
               clear c20
               have H' := Aside0.mk H
               clear H
               try go_wp2
               have n0_ := Aside0.mk (Kd.R_drew HO_3.out)
               have n1_ := Aside0.mk (Kd.R_drew HO_4.out)
               have n2_ := Aside0.mk (Kd.R_drew HO_5.out)
               have n3_ := Aside0.mk (below_drew1 HB.out)
               clear HO_3
               clear HO_4
               clear HO_5
               clear HB
               have HO_3 := n0_
               have HO_4 := n1_
               have HO_5 := n2_
               have HB := n3_
               clear n0_ n1_ n2_ n3_
               have p889 : 0 ≤ (x6_1 : Int) := od_
               have q889 : x6_1 < (t882.length : Int) := od_
               obtain ⟨ad889,e889,hx889_0⟩ := Kd.at_int (Kd.R_reads' HO_4.out).2.2 x6_1 p889 q889
               obtain rfl : ad888 = ad889 := (by injection e889)
               replace p889 := eq_true p889
               replace q889 := eq_true q889
               have p891 : 0 ≤ ((ji15) : Int) := od_
               have q891 : (ji15) < (l0.length : Int) := od_
               obtain ⟨ad891,e891,hx891_0,hx891_1⟩ := at_T77 HR0.out (ji15) p891 q891
               have hw891_1 := hx891_1
               have hw891_0 := hx891_0
               cases e891
               replace hx891_0 := ce_ HB hx891_0
               replace hx891_1 := ce_ HB hx891_1
               replace p891 := eq_true p891
               replace q891 := eq_true q891
               have p892 : 0 ≤ (x7_2 : Int) := od_
               have q892 : x7_2 < (l0.length : Int) := od_
               obtain ⟨ad892,e892,hx892_0,hx892_1⟩ := at_T77 HR0.out x7_2 p892 q892
               have hw892_1 := hx892_1
               have hw892_0 := hx892_0
               obtain rfl : ad891 = ad892 := (by injection e892)
               replace hx892_0 := ce_ HB hx892_0
               replace hx892_1 := ce_ HB hx892_1
               replace p892 := eq_true p892
               replace q892 := eq_true q892
               refine start_ (n := 24) (S := fun w' => w'.cell? (ad888.add (x6_1).toNat) = some (.int .i64 (rd t882 x6_1)) ∧ w'.cell? (ad891.add (((ji15)).toNat * 2)) = some (.int .i64 ((rd_T77 l0 (ji15)).f0)) ∧ w'.cell? ⟨(ad891.add (((ji15)).toNat * 2)).block,(ad891.add (((ji15)).toNat * 2)).off + 1,none⟩ = some (.int .i64 ((rd_T77 l0 (ji15)).f1)) ∧ w'.cell? (ad891.add ((x7_2).toNat * 2)) = some (.int .i64 ((rd_T77 l0 x7_2).f0)) ∧ w'.cell? ⟨(ad891.add ((x7_2).toNat * 2)).block,(ad891.add ((x7_2).toNat * 2)).off + 1,none⟩ = some (.int .i64 ((rd_T77 l0 x7_2).f1))) (ds := []) (ba_ 24 0) (by kernel_rfl) rfl rfl ⟨hx889_0,(ce_ HB hw891_0),(ce_ HB hw891_1),(ce_ HB hw892_0),(ce_ HB hw892_1)⟩ (fun hHeld => ?_);refine with_tabW spec_LeftLeaf.tab8 spec_LeftLeaf.bits8 (fun HT_ HW_ => ?_)
               generalize wr.drew = w21 at HO_3 HO_4 HO_5 HB hx889_0 hx891_0 hx891_1 hx892_0 hx892_1 hHeld ⊢
               refine pu_ 0 (some 23) (ba_ 24 1) rfl rfl (any_of HT_.out (by kernel_rfl)) ?_
               refine pu_ 1 (some 24) (ba_ 24 3) rfl rfl (any_of HT_.out (by kernel_rfl)) ?_
               refine pu_ 2 (some 25) (ba_ 24 7) rfl rfl (any_of HT_.out (by kernel_rfl)) ?_
               refine pu_ 3 (some 26) (ba_ 24 15) rfl rfl (any_of HT_.out (by kernel_rfl)) ?_
               refine pu_ 4 (some 27) (ba_ 24 31) rfl rfl (any_of HT_.out (by kernel_rfl)) ?_
               refine pu_ 5 (some 28) (ba_ 24 63) rfl rfl (any_of HT_.out (by kernel_rfl)) ?_
               refine ta_ 6 (some 29) (ba_ 24 127) rfl rfl (take_ofW HT_.out HW_.out (by kernel_rfl)) hHeld (by rintro w' ⟨s0,s1,s2,s3,s4⟩;go_simp;with_reducible rfl) ?_
               refine one_ (i := 7) (N := some 30) (ba_ 24 255) rfl rfl (one_of HT_.out (by kernel_rfl)) (by decide) (fun K hK => ?_)
               refine goes_ Try.func91 (by kernel_rfl) rfl #[.slice (some ad891) l0.length c0,.int .i64 (rd t882 x6_1)] (by rfl) rfl rfl (by (try simp only [List.map_toArray,List.map_cons,List.map_nil]);first | done | rfl | (simp only [List.length_drop,List.length_take];rfl)) ?_
               with_reducible refine (spec_EndOf.calls k2 _ _ l0 (rd t882 x6_1) t890 _ ?side1 ?side2 A13.out).mono ?_
               (case side1 => exact cx_ HR0 HB)
               (case side2 => exact HC0.out)
               rintro e w22 ⟨rfl,hb⟩
               have HS0_ := (hb.cell (World.block_lt_of_cell? _ _ (hHeld.1))).trans (hHeld.1)
               refine ⟨_,rfl,?_⟩
               have n0_ := tR_ HO_3 hb
               have n1_ := tR_ HO_4 hb
               have n2_ := tR_ HO_5 hb
               have n3_ := tB_ HB hb
               clear HO_3
               clear HO_4
               clear HO_5
               clear HB
               have HO_3 := n0_
               have HO_4 := n1_
               have HO_5 := n2_
               have HB := n3_
               clear n0_ n1_ n2_ n3_
               (try clear hb)
               (try clear hb2)
               (try clear hk)
               (try clear hi)
               refine hK.out _ _ ⟨HS0_,(ce_ HB hw891_0),(ce_ HB hw891_1),(ce_ HB hw892_0),(ce_ HB hw892_1)⟩ (fun hHeld => ?_)
               clear hK K
               refine norm_ (a' := ?_) ?_ ?_
               rotate_left
               ·show Act.put _ (some 30) _ = _
                simp only [Act.put,List.setIfInBounds_toArray,List.set_cons_zero,List.set_cons_succ,i64_w,i32_w]
                rfl
               refine pu_ 8 (some 31) (ba_ 24 511) rfl rfl (any_of HT_.out (by kernel_rfl)) ?_
               refine pu_ 9 (some 32) (ba_ 24 1023) rfl rfl (any_of HT_.out (by kernel_rfl)) ?_
               refine pu_ 10 (some 33) (ba_ 24 2047) rfl rfl (any_of HT_.out (by kernel_rfl)) ?_
               refine pu_ 11 (some 34) (ba_ 24 4095) rfl rfl (any_of HT_.out (by kernel_rfl)) ?_
               refine pu_ 12 (some 35) (ba_ 24 8191) rfl rfl (any_of HT_.out (by kernel_rfl)) ?_
               refine pu_ 13 (some 36) (ba_ 24 16383) rfl rfl (any_of HT_.out (by kernel_rfl)) ?_
               refine pu_ 14 (some 37) (ba_ 24 32767) rfl rfl (any_of HT_.out (by kernel_rfl)) ?_
               refine pu_ 16 (some 39) (ba_ 24 98303) rfl rfl (any_of HT_.out (by kernel_rfl)) ?_
               refine pu_ 17 (some 40) (ba_ 24 229375) rfl rfl (any_of HT_.out (by kernel_rfl)) ?_
               refine pu_ 18 (some 41) (ba_ 24 491519) rfl rfl (any_of HT_.out (by kernel_rfl)) ?_
               refine pu_ 19 (some 42) (ba_ 24 1015807) rfl rfl (any_of HT_.out (by kernel_rfl)) ?_
               refine ta_ 15 (some 38) (ba_ 24 1048575) rfl rfl (take_ofW HT_.out HW_.out (by kernel_rfl)) hHeld (by rintro w' ⟨s0,s1,s2,s3,s4⟩;go_simp;with_reducible rfl) ?_
               refine ta_ 20 (some 43) (ba_ 24 2097151) rfl rfl (take_ofW HT_.out HW_.out (by kernel_rfl)) hHeld (by rintro w' ⟨s0,s1,s2,s3,s4⟩;go_simp;with_reducible rfl) ?_
               refine pu_ 21 (some 44) (ba_ 24 4194303) rfl rfl (any_of HT_.out (by kernel_rfl)) ?_
               refine pu_ 22 (some 45) (ba_ 24 8388607) rfl rfl (any_of HT_.out (by kernel_rfl)) ?_
               refine pu_ 23 (some 46) (ba_ 24 16777215) rfl rfl (any_of HT_.out (by kernel_rfl)) ?_
               refine done_ (done_of HT_.out (by kernel_rfl)) ?_
               try go_wp2
               go_roundg k2
               case measure => have := HK1.out;have := HK2.out;omega
               case rel => exact ⟨(ji15),(by first | rfl | (simp;done) | (simp only [← hji15] <;> (first | rfl | simp)) | (simp [*];done)),H',⟨by have := HK1.out;have := HK2.out;omega⟩,⟨rx_ HO_3.out⟩,⟨rx_ HO_4.out⟩,⟨rx_ HO_5.out⟩,bl_ HB⟩
              ·rw [if_neg c20] at H
               have c20b0 : (((rd_T77 l0 (ji15)).f1) == (wrap64 (((rd_T77 l0 x7_2).f1) + 1))) = false := beq_eq_false_iff_ne.mpr c20
               have c20b1 : (((rd_T77 l0 (ji15)).f1) != (wrap64 (((rd_T77 l0 x7_2).f1) + 1))) = true := bne_iff_ne.mpr c20
               by_cases c23 : x7_2 < (t885.length : Int)
               ·rw [if_pos c23] at H
                have c23b0 : decide (x7_2 < (t885.length : Int)) = true := decide_eq_true c23
                clear c23
                by_cases c24 : x3_1.length < 17592186044416
                ·rw [if_pos c24] at H
                 have LMc24 := Aside0.mk c24
                 clear c24
                 obtain ⟨y894,hy894⟩ : ∃ y_ : List Int,y_ = (x3_1 ++ [rd t885 x7_2]) := ⟨_,rfl⟩
                 replace H : (spec_LeftLeaf.l0 k2 l0 y894 t882 t885 (wrap64 (x6_1 + 1))) = some r := by first | (rw [hy894];with_reducible exact H) | (have H2_ := (Option.bind_some _ _).symm.trans H;rw [hy894];with_reducible exact H2_) | (have H2_ := (Option.bind_some _ _).symm.trans H;with_reducible exact H2_) | with_reducible exact H | (rw [hy894];exact H) | exact H
                 have Ny894 := Aside0.mk hy894
                 clear hy894
                 have H' := Aside0.mk H
                 clear H
                 try go_wp2
                 have n0_ := Aside0.mk (Kd.R_drew HO_3.out)
                 have n1_ := Aside0.mk (Kd.R_drew HO_4.out)
                 have n2_ := Aside0.mk (Kd.R_drew HO_5.out)
                 have n3_ := Aside0.mk (below_drew1 HB.out)
                 clear HO_3
                 clear HO_4
                 clear HO_5
                 clear HB
                 have HO_3 := n0_
                 have HO_4 := n1_
                 have HO_5 := n2_
                 have HB := n3_
                 clear n0_ n1_ n2_ n3_
                 have p889 : 0 ≤ (x6_1 : Int) := od_
                 have q889 : x6_1 < (t882.length : Int) := od_
                 obtain ⟨ad889,e889,hx889_0⟩ := Kd.at_int (Kd.R_reads' HO_4.out).2.2 x6_1 p889 q889
                 obtain rfl : ad888 = ad889 := (by injection e889)
                 replace p889 := eq_true p889
                 replace q889 := eq_true q889
                 have p891 : 0 ≤ ((ji15) : Int) := od_
                 have q891 : (ji15) < (l0.length : Int) := od_
                 obtain ⟨ad891,e891,hx891_0,hx891_1⟩ := at_T77 HR0.out (ji15) p891 q891
                 have hw891_1 := hx891_1
                 have hw891_0 := hx891_0
                 cases e891
                 replace hx891_0 := ce_ HB hx891_0
                 replace hx891_1 := ce_ HB hx891_1
                 replace p891 := eq_true p891
                 replace q891 := eq_true q891
                 have p892 : 0 ≤ (x7_2 : Int) := od_
                 have q892 : x7_2 < (l0.length : Int) := od_
                 obtain ⟨ad892,e892,hx892_0,hx892_1⟩ := at_T77 HR0.out x7_2 p892 q892
                 have hw892_1 := hx892_1
                 have hw892_0 := hx892_0
                 obtain rfl : ad891 = ad892 := (by injection e892)
                 replace hx892_0 := ce_ HB hx892_0
                 replace hx892_1 := ce_ HB hx892_1
                 replace p892 := eq_true p892
                 replace q892 := eq_true q892
                 refine start_ (n := 24) (S := fun w' => w'.cell? (ad888.add (x6_1).toNat) = some (.int .i64 (rd t882 x6_1)) ∧ w'.cell? (ad891.add (((ji15)).toNat * 2)) = some (.int .i64 ((rd_T77 l0 (ji15)).f0)) ∧ w'.cell? ⟨(ad891.add (((ji15)).toNat * 2)).block,(ad891.add (((ji15)).toNat * 2)).off + 1,none⟩ = some (.int .i64 ((rd_T77 l0 (ji15)).f1)) ∧ w'.cell? (ad891.add ((x7_2).toNat * 2)) = some (.int .i64 ((rd_T77 l0 x7_2).f0)) ∧ w'.cell? ⟨(ad891.add ((x7_2).toNat * 2)).block,(ad891.add ((x7_2).toNat * 2)).off + 1,none⟩ = some (.int .i64 ((rd_T77 l0 x7_2).f1))) (ds := []) (ba_ 24 0) (by kernel_rfl) rfl rfl ⟨hx889_0,(ce_ HB hw891_0),(ce_ HB hw891_1),(ce_ HB hw892_0),(ce_ HB hw892_1)⟩ (fun hHeld => ?_);refine with_tabW spec_LeftLeaf.tab8 spec_LeftLeaf.bits8 (fun HT_ HW_ => ?_)
                 generalize wr.drew = w25 at HO_3 HO_4 HO_5 HB hx889_0 hx891_0 hx891_1 hx892_0 hx892_1 hHeld ⊢
                 refine pu_ 0 (some 23) (ba_ 24 1) rfl rfl (any_of HT_.out (by kernel_rfl)) ?_
                 refine pu_ 1 (some 24) (ba_ 24 3) rfl rfl (any_of HT_.out (by kernel_rfl)) ?_
                 refine pu_ 2 (some 25) (ba_ 24 7) rfl rfl (any_of HT_.out (by kernel_rfl)) ?_
                 refine pu_ 3 (some 26) (ba_ 24 15) rfl rfl (any_of HT_.out (by kernel_rfl)) ?_
                 refine pu_ 4 (some 27) (ba_ 24 31) rfl rfl (any_of HT_.out (by kernel_rfl)) ?_
                 refine pu_ 5 (some 28) (ba_ 24 63) rfl rfl (any_of HT_.out (by kernel_rfl)) ?_
                 refine ta_ 6 (some 29) (ba_ 24 127) rfl rfl (take_ofW HT_.out HW_.out (by kernel_rfl)) hHeld (by rintro w' ⟨s0,s1,s2,s3,s4⟩;go_simp;with_reducible rfl) ?_
                 refine one_ (i := 7) (N := some 30) (ba_ 24 255) rfl rfl (one_of HT_.out (by kernel_rfl)) (by decide) (fun K hK => ?_)
                 refine goes_ Try.func91 (by kernel_rfl) rfl #[.slice (some ad891) l0.length c0,.int .i64 (rd t882 x6_1)] (by rfl) rfl rfl (by (try simp only [List.map_toArray,List.map_cons,List.map_nil]);first | done | rfl | (simp only [List.length_drop,List.length_take];rfl)) ?_
                 with_reducible refine (spec_EndOf.calls k2 _ _ l0 (rd t882 x6_1) t890 _ ?side1 ?side2 A13.out).mono ?_
                 (case side1 => exact cx_ HR0 HB)
                 (case side2 => exact HC0.out)
                 rintro e w26 ⟨rfl,hb⟩
                 have HS0_ := (hb.cell (World.block_lt_of_cell? _ _ (hHeld.1))).trans (hHeld.1)
                 refine ⟨_,rfl,?_⟩
                 have n0_ := tR_ HO_3 hb
                 have n1_ := tR_ HO_4 hb
                 have n2_ := tR_ HO_5 hb
                 have n3_ := tB_ HB hb
                 clear HO_3
                 clear HO_4
                 clear HO_5
                 clear HB
                 have HO_3 := n0_
                 have HO_4 := n1_
                 have HO_5 := n2_
                 have HB := n3_
                 clear n0_ n1_ n2_ n3_
                 (try clear hb)
                 (try clear hb2)
                 (try clear hk)
                 (try clear hi)
                 refine hK.out _ _ ⟨HS0_,(ce_ HB hw891_0),(ce_ HB hw891_1),(ce_ HB hw892_0),(ce_ HB hw892_1)⟩ (fun hHeld => ?_)
                 clear hK K
                 refine norm_ (a' := ?_) ?_ ?_
                 rotate_left
                 ·show Act.put _ (some 30) _ = _
                  simp only [Act.put,List.setIfInBounds_toArray,List.set_cons_zero,List.set_cons_succ,i64_w,i32_w]
                  rfl
                 refine pu_ 8 (some 31) (ba_ 24 511) rfl rfl (any_of HT_.out (by kernel_rfl)) ?_
                 refine pu_ 9 (some 32) (ba_ 24 1023) rfl rfl (any_of HT_.out (by kernel_rfl)) ?_
                 refine pu_ 10 (some 33) (ba_ 24 2047) rfl rfl (any_of HT_.out (by kernel_rfl)) ?_
                 refine pu_ 11 (some 34) (ba_ 24 4095) rfl rfl (any_of HT_.out (by kernel_rfl)) ?_
                 refine pu_ 12 (some 35) (ba_ 24 8191) rfl rfl (any_of HT_.out (by kernel_rfl)) ?_
                 refine pu_ 13 (some 36) (ba_ 24 16383) rfl rfl (any_of HT_.out (by kernel_rfl)) ?_
                 refine pu_ 14 (some 37) (ba_ 24 32767) rfl rfl (any_of HT_.out (by kernel_rfl)) ?_
                 refine pu_ 16 (some 39) (ba_ 24 98303) rfl rfl (any_of HT_.out (by kernel_rfl)) ?_
                 refine pu_ 17 (some 40) (ba_ 24 229375) rfl rfl (any_of HT_.out (by kernel_rfl)) ?_
                 refine pu_ 18 (some 41) (ba_ 24 491519) rfl rfl (any_of HT_.out (by kernel_rfl)) ?_
                 refine pu_ 19 (some 42) (ba_ 24 1015807) rfl rfl (any_of HT_.out (by kernel_rfl)) ?_
                 refine ta_ 15 (some 38) (ba_ 24 1048575) rfl rfl (take_ofW HT_.out HW_.out (by kernel_rfl)) hHeld (by rintro w' ⟨s0,s1,s2,s3,s4⟩;go_simp;with_reducible rfl) ?_
                 refine ta_ 20 (some 43) (ba_ 24 2097151) rfl rfl (take_ofW HT_.out HW_.out (by kernel_rfl)) hHeld (by rintro w' ⟨s0,s1,s2,s3,s4⟩;go_simp;with_reducible rfl) ?_
                 refine pu_ 21 (some 44) (ba_ 24 4194303) rfl rfl (any_of HT_.out (by kernel_rfl)) ?_
                 refine pu_ 22 (some 45) (ba_ 24 8388607) rfl rfl (any_of HT_.out (by kernel_rfl)) ?_
                 refine pu_ 23 (some 46) (ba_ 24 16777215) rfl rfl (any_of HT_.out (by kernel_rfl)) ?_
                 refine done_ (done_of HT_.out (by kernel_rfl)) ?_
                 obtain ⟨Ao27,co27,eo27⟩ := Kd.R_slice HO_5.out
                 subst eo27
                 have p893 : 0 ≤ (x7_2 : Int) := od_
                 have q893 : x7_2 < (t885.length : Int) := od_
                 obtain ⟨ad893,e893,hx893_0⟩ := Kd.at_int (Kd.R_reads' HO_5.out).2.2 x7_2 p893 q893
                 cases e893
                 replace p893 := eq_true p893
                 replace q893 := eq_true q893
                 try go_wp2_with (first | ((with_reducible refine gate_builtin (b := .append) (xs := #[.tmp 49,.tmp 54]) rfl ?_);at_builtin;refine Kd.R_append (Kd.int .i64) (w0 := w) w.heap.size rfl (.tmp 49) (.tmp 54) 25 3 (.int .i64 0) 8 rfl Try.underlying25 info3 rfl (by decide) (by omega) u3 x3_1 (rd t885 x7_2) [.int .i64 (rd t885 x7_2)] (fun k_ => some k_ ≠ (.slice (some ad888) t882.length co10 : Value).ownBlock ∧ some k_ ≠ (.slice (some ad893) t885.length co27 : Value).ownBlock) (fun _ => False) rfl rfl ?aP (fun _ hk => hk.elim) ?aF ?aO ?aB ?aS ?aL ?_;(case aP => exact rfl);(case aB => exact ((bl_ HB).out));(case aF => exact (fun k_ hk => ⟨Kd.fresh' (Kd.R_lt (rx_ HO_4.out)) k_ hk,Kd.fresh' (Kd.R_lt (rx_ HO_5.out)) k_ hk⟩));(case aO => exact (rx_ HO_3.out));(case aS => exact (bs_ HB));(case aL => have := LMc24.out;omega);intro v895 w28 ho hb hg hat;rw [← Ny894.out] at ho;replace HO_4 := Aside0.mk (Kd.R_after (ok := (fun k_ => some k_ ≠ (.slice (some ad893) t885.length co27 : Value).ownBlock)) (rx_ (Kd.R_mono HO_4.out (fun _ hk => ⟨hk.2,hk.1⟩))) hg hat);replace HO_5 := Aside0.mk (Kd.R_after (ok := (fun k_ => some k_ ≠ (.slice (some ad888) t882.length co10 : Value).ownBlock)) (rx_ (Kd.R_mono HO_5.out (fun _ hk => ⟨hk.2,hk.1⟩))) hg hat);replace HB := Aside0.mk (hb);have HO896 := Aside0.mk (ho);clear HO_3;clear ho hb hg hat))
                 go_roundg k2
                 case measure => have := HK1.out;have := HK2.out;omega
                 case rel => exact ⟨(y894),(wrap64 (x6_1 + 1)),eb_,H',⟨by have := HK1.out;have := HK2.out;omega⟩,⟨rx_ HO896.out⟩,⟨rx_ (Kd.R_mono HO_4.out (fun _ hk => ⟨hk.2,hk.1⟩))⟩,⟨rx_ (Kd.R_mono HO_5.out (fun _ hk => ⟨hk.2,hk.1⟩))⟩,bl_ HB⟩
                ·rw [if_neg c24] at H
                 exact absurd H (by simp)
               ·rw [if_neg c23] at H
                exact absurd H (by simp)
             ·rw [if_neg c19] at H
              exact absurd H (by simp)
            ·rw [if_neg c18] at H
             exact absurd H (by simp)
           ·rw [if_neg c17] at H
            exact absurd H (by simp)
          ·rw [if_neg c16] at H
           exact absurd H (by simp)
         ·rw [if_neg c14] at H
          have c14b0 : decide ((wrap64 (x7_2 + 1)) < t890) = false := decide_eq_false c14
          clear c14
          by_cases c29 : 0 ≤ x7_2
          ·rw [if_pos c29] at H
           have c29b0 : decide (0 ≤ x7_2) = true := decide_eq_true c29
           clear c29
           by_cases c30 : x7_2 < (t885.length : Int)
           ·rw [if_pos c30] at H
            have c30b0 : decide (x7_2 < (t885.length : Int)) = true := decide_eq_true c30
            clear c30
            by_cases c31 : x3_1.length < 17592186044416
            ·rw [if_pos c31] at H
             have LMc31 := Aside0.mk c31
             clear c31
             obtain ⟨y898,hy898⟩ : ∃ y_ : List Int,y_ = (x3_1 ++ [rd t885 x7_2]) := ⟨_,rfl⟩
             replace H : (spec_LeftLeaf.l0 k2 l0 y898 t882 t885 (wrap64 (x6_1 + 1))) = some r := by first | (rw [hy898];with_reducible exact H) | (have H2_ := (Option.bind_some _ _).symm.trans H;rw [hy898];with_reducible exact H2_) | (have H2_ := (Option.bind_some _ _).symm.trans H;with_reducible exact H2_) | with_reducible exact H | (rw [hy898];exact H) | exact H
             have Ny898 := Aside0.mk hy898
             clear hy898
             have H' := Aside0.mk H
             clear H
             try go_wp2
             have n0_ := Aside0.mk (Kd.R_drew HO_3.out)
             have n1_ := Aside0.mk (Kd.R_drew HO_4.out)
             have n2_ := Aside0.mk (Kd.R_drew HO_5.out)
             have n3_ := Aside0.mk (below_drew1 HB.out)
             clear HO_3
             clear HO_4
             clear HO_5
             clear HB
             have HO_3 := n0_
             have HO_4 := n1_
             have HO_5 := n2_
             have HB := n3_
             clear n0_ n1_ n2_ n3_
             have p889 : 0 ≤ (x6_1 : Int) := od_
             have q889 : x6_1 < (t882.length : Int) := od_
             obtain ⟨ad889,e889,hx889_0⟩ := Kd.at_int (Kd.R_reads' HO_4.out).2.2 x6_1 p889 q889
             obtain rfl : ad888 = ad889 := (by injection e889)
             replace p889 := eq_true p889
             replace q889 := eq_true q889
             refine start_ (n := 24) (S := fun w' => w'.cell? (ad888.add (x6_1).toNat) = some (.int .i64 (rd t882 x6_1))) (ds := []) (ba_ 24 0) (by kernel_rfl) rfl rfl (hx889_0) (fun hHeld => ?_);refine with_tabW spec_LeftLeaf.tab8 spec_LeftLeaf.bits8 (fun HT_ HW_ => ?_)
             generalize wr.drew = w32 at HO_3 HO_4 HO_5 HB hx889_0 hHeld ⊢
             refine pu_ 0 (some 23) (ba_ 24 1) rfl rfl (any_of HT_.out (by kernel_rfl)) ?_
             refine pu_ 1 (some 24) (ba_ 24 3) rfl rfl (any_of HT_.out (by kernel_rfl)) ?_
             refine pu_ 2 (some 25) (ba_ 24 7) rfl rfl (any_of HT_.out (by kernel_rfl)) ?_
             refine pu_ 3 (some 26) (ba_ 24 15) rfl rfl (any_of HT_.out (by kernel_rfl)) ?_
             refine pu_ 4 (some 27) (ba_ 24 31) rfl rfl (any_of HT_.out (by kernel_rfl)) ?_
             refine pu_ 5 (some 28) (ba_ 24 63) rfl rfl (any_of HT_.out (by kernel_rfl)) ?_
             refine take_ (i := 6) (N := some 29) (v := ?_) (a' := ?_) (ba_ 24 127) rfl rfl (take_ofW HT_.out HW_.out (by kernel_rfl)) (fun _ _ _ h => h) (Or.inl ⟨by rfl,?_⟩) hHeld ?_ ?_
             rotate_left
             ·intro w' s0
              go_simp
              with_reducible rfl
             rotate_left
             ·simp only [Act.put,List.setIfInBounds_toArray,List.set_cons_zero,List.set_cons_succ,i64_w,i32_w]
              rfl
             refine one_ (i := 7) (N := some 30) (ba_ 24 255) rfl rfl (one_of HT_.out (by kernel_rfl)) (by decide) (fun K hK => ?_)
             refine goes_ Try.func91 (by kernel_rfl) rfl #[.slice A0 l0.length c0,.int .i64 (rd t882 x6_1)] (by rfl) rfl rfl (by (try simp only [List.map_toArray,List.map_cons,List.map_nil]);first | done | rfl | (simp only [List.length_drop,List.length_take];rfl)) ?_
             with_reducible refine (spec_EndOf.calls k2 _ _ l0 (rd t882 x6_1) t890 _ ?side1 ?side2 A13.out).mono ?_
             (case side1 => exact cx_ HR0 HB)
             (case side2 => exact HC0.out)
             rintro e w33 ⟨rfl,hb⟩
             have HS0_ := (hb.cell (World.block_lt_of_cell? _ _ (hHeld))).trans (hHeld)
             refine ⟨_,rfl,?_⟩
             have n0_ := tR_ HO_3 hb
             have n1_ := tR_ HO_4 hb
             have n2_ := tR_ HO_5 hb
             have n3_ := tB_ HB hb
             clear HO_3
             clear HO_4
             clear HO_5
             clear HB
             have HO_3 := n0_
             have HO_4 := n1_
             have HO_5 := n2_
             have HB := n3_
             clear n0_ n1_ n2_ n3_
             (try clear hb)
             (try clear hb2)
             (try clear hk)
             (try clear hi)
             refine hK.out _ _ (HS0_) (fun hHeld => ?_)
             clear hK K
             refine norm_ (a' := ?_) ?_ ?_
             rotate_left
             ·show Act.put _ (some 30) _ = _
              simp only [Act.put,List.setIfInBounds_toArray,List.set_cons_zero,List.set_cons_succ,i64_w,i32_w]
              rfl
             refine pu_ 8 (some 31) (ba_ 24 511) rfl rfl (any_of HT_.out (by kernel_rfl)) ?_
             refine pu_ 9 (some 32) (ba_ 24 1023) rfl rfl (any_of HT_.out (by kernel_rfl)) ?_
             refine pn_ 10 (some 33) (ba_ 24 2047) rfl rfl (any_of HT_.out (by kernel_rfl)) ?_
             refine pn_ 11 (some 34) (ba_ 24 4095) rfl rfl (any_of HT_.out (by kernel_rfl)) ?_
             refine pn_ 12 (some 35) (ba_ 24 8191) rfl rfl (any_of HT_.out (by kernel_rfl)) ?_
             refine pn_ 13 (some 36) (ba_ 24 16383) rfl rfl (any_of HT_.out (by kernel_rfl)) ?_
             refine pn_ 14 (some 37) (ba_ 24 32767) rfl rfl (any_of HT_.out (by kernel_rfl)) ?_
             refine pn_ 15 (some 38) (ba_ 24 65535) rfl rfl (any_of HT_.out (by kernel_rfl)) ?_
             refine pn_ 16 (some 39) (ba_ 24 131071) rfl rfl (any_of HT_.out (by kernel_rfl)) ?_
             refine pn_ 17 (some 40) (ba_ 24 262143) rfl rfl (any_of HT_.out (by kernel_rfl)) ?_
             refine pn_ 18 (some 41) (ba_ 24 524287) rfl rfl (any_of HT_.out (by kernel_rfl)) ?_
             refine pn_ 19 (some 42) (ba_ 24 1048575) rfl rfl (any_of HT_.out (by kernel_rfl)) ?_
             refine pn_ 20 (some 43) (ba_ 24 2097151) rfl rfl (any_of HT_.out (by kernel_rfl)) ?_
             refine pn_ 21 (some 44) (ba_ 24 4194303) rfl rfl (any_of HT_.out (by kernel_rfl)) ?_
             refine pn_ 22 (some 45) (ba_ 24 8388607) rfl rfl (any_of HT_.out (by kernel_rfl)) ?_
             refine pu_ 23 (some 46) (ba_ 24 16777215) rfl rfl (any_of HT_.out (by kernel_rfl)) ?_
             refine done_ (done_of HT_.out (by kernel_rfl)) ?_
             obtain ⟨Ao34,co34,eo34⟩ := Kd.R_slice HO_5.out
             subst eo34
             have p897 : 0 ≤ (x7_2 : Int) := od_
             have q897 : x7_2 < (t885.length : Int) := od_
             obtain ⟨ad897,e897,hx897_0⟩ := Kd.at_int (Kd.R_reads' HO_5.out).2.2 x7_2 p897 q897
             cases e897
             replace p897 := eq_true p897
             replace q897 := eq_true q897
             try go_wp2_with (first | ((with_reducible refine gate_builtin (b := .append) (xs := #[.tmp 49,.tmp 54]) rfl ?_);at_builtin;refine Kd.R_append (Kd.int .i64) (w0 := w) w.heap.size rfl (.tmp 49) (.tmp 54) 25 3 (.int .i64 0) 8 rfl Try.underlying25 info3 rfl (by decide) (by omega) u3 x3_1 (rd t885 x7_2) [.int .i64 (rd t885 x7_2)] (fun k_ => some k_ ≠ (.slice (some ad888) t882.length co10 : Value).ownBlock ∧ some k_ ≠ (.slice (some ad897) t885.length co34 : Value).ownBlock) (fun _ => False) rfl rfl ?aP (fun _ hk => hk.elim) ?aF ?aO ?aB ?aS ?aL ?_;(case aP => exact rfl);(case aB => exact ((bl_ HB).out));(case aF => exact (fun k_ hk => ⟨Kd.fresh' (Kd.R_lt (rx_ HO_4.out)) k_ hk,Kd.fresh' (Kd.R_lt (rx_ HO_5.out)) k_ hk⟩));(case aO => exact (rx_ HO_3.out));(case aS => exact (bs_ HB));(case aL => have := LMc31.out;omega);intro v899 w35 ho hb hg hat;rw [← Ny898.out] at ho;replace HO_4 := Aside0.mk (Kd.R_after (ok := (fun k_ => some k_ ≠ (.slice (some ad897) t885.length co34 : Value).ownBlock)) (rx_ (Kd.R_mono HO_4.out (fun _ hk => ⟨hk.2,hk.1⟩))) hg hat);replace HO_5 := Aside0.mk (Kd.R_after (ok := (fun k_ => some k_ ≠ (.slice (some ad888) t882.length co10 : Value).ownBlock)) (rx_ (Kd.R_mono HO_5.out (fun _ hk => ⟨hk.2,hk.1⟩))) hg hat);replace HB := Aside0.mk (hb);have HO900 := Aside0.mk (ho);clear HO_3;clear ho hb hg hat))
             go_roundg k2
             case measure => have := HK1.out;have := HK2.out;omega
             case rel => exact ⟨(y898),(wrap64 (x6_1 + 1)),eb_,H',⟨by have := HK1.out;have := HK2.out;omega⟩,⟨rx_ HO900.out⟩,⟨rx_ (Kd.R_mono HO_4.out (fun _ hk => ⟨hk.2,hk.1⟩))⟩,⟨rx_ (Kd.R_mono HO_5.out (fun _ hk => ⟨hk.2,hk.1⟩))⟩,bl_ HB⟩
            ·rw [if_neg c31] at H
             exact absurd H (by simp)
           ·rw [if_neg c30] at H
            exact absurd H (by simp)
          ·rw [if_neg c29] at H
           exact absurd H (by simp)
        ·rw [if_neg c12] at H
         exact absurd H (by simp)
       ·rw [if_neg c11] at H
        exact absurd H (by simp)
    ·rw [if_neg c9] at H
     exact absurd H (by simp)
   ·rw [if_neg c8] at H
    have c8b0 : decide (x6_1 < (t882.length : Int)) = false := decide_eq_false c8
    clear c8
    obtain rfl := Option.some.inj H
    obtain ⟨Ao36,co36,eo36⟩ := Kd.R_slice HO_4.out
    subst eo36
    go_wp2
    go_ret
    exact ⟨_,ea_,rx_ (Kd.R_mono HO_3.out (fun _ hk => trivial)),(bl_ HB).out⟩
end Go.Proofs.Ytngphdmbjenkaaa.X
namespace Go.Proofs.Ytngphdmbjenkaaa.X
open Go.RowKit Go.Proofs.YtngphdmbjenkaaaW.PrintWords Go.Proofs.YtngphdmbjenkaaaW.PrintLast Go.Proofs.YtngphdmbjenkaaaW.PrintMore
attribute [local go_sem] max2_int min2_int max_two min_two max_three min_three max_four min_four   -- for this text's walks alone
set_option linter.unusedVariables false
set_option linter.unusedSimpArgs false
def spec_l8Labels.l0 : Nat → List (S77) → List Int → List Int → Int → Option (List Int)
 | 0,_,_,_,_ => none
 | k + 1,x0,x3,x4,x5 => if x5 < (x4.length : Int) then (if 0 ≤ x5 then (if 0 ≤ (rd x4 x5) then (if (rd x4 x5) < (x0.length : Int) then (if x3.length < 17592186044416 then (spec_l8Labels.l0 k x0 (x3 ++ [(rd_T77 x0 (rd x4 x5)).f0]) x4 (wrap64 (x5 + 1))) else (none)) else (none)) else (none)) else (none)) else (some x3)
def spec_l8Labels.f (k : Nat) (l0 : List (S77)) : Option (List Int) := (spec_PostOrder.f k l0).bind fun t863 => (spec_l8Labels.l0 k l0 (([] : List Int)) t863 0)
theorem spec_l8Labels.mono_l : ∀ k,(∀ y0 y1 y2 y3,LeO (spec_l8Labels.l0 k y0 y1 y2 y3) (spec_l8Labels.l0 (k + 1) y0 y1 y2 y3))
 | 0 => fun _ _ _ _ r h => by simp [spec_l8Labels.l0] at h
 | k + 1 => by
  have ih0 := spec_l8Labels.mono_l k
  ·intro y0 y1 y2 y3
   unfold spec_l8Labels.l0
   repeat' first
   | (with_reducible exact ih0 _ _ _ _)
   | (with_reducible exact spec_PostOrder.mono _ _)
   | (with_reducible exact LeO.refl _)
   | (with_reducible exact LeO.none _)
   | (with_reducible refine LeO.ite ?_ ?_)
   | (with_reducible refine LeO.bind ?_ (fun _ => ?_))
   | exact ih0 _ _ _ _
   | exact spec_PostOrder.mono _ _
   | exact LeO.none _
   | refine LeO.ite ?_ ?_
   | refine LeO.bind ?_ (fun _ => ?_)
theorem spec_l8Labels.mono : ∀ a0 k,LeO (spec_l8Labels.f k a0) (spec_l8Labels.f (k + 1) a0) := by
 intro a0 k
 have ih0 := spec_l8Labels.mono_l k
 unfold spec_l8Labels.f
 repeat' first
   | (with_reducible exact ih0 _ _ _ _)
   | (with_reducible exact spec_PostOrder.mono _ _)
   | (with_reducible exact LeO.refl _)
   | (with_reducible exact LeO.none _)
   | (with_reducible refine LeO.ite ?_ ?_)
   | (with_reducible refine LeO.bind ?_ (fun _ => ?_))
   | exact ih0 _ _ _ _
   | exact spec_PostOrder.mono _ _
   | exact LeO.none _
   | refine LeO.ite ?_ ?_
   | refine LeO.bind ?_ (fun _ => ?_)
set_option maxHeartbeats 8000000 in
set_option maxRecDepth 100000 in
theorem spec_l8Labels.calls (k : Nat) (A0 : Option Addr) (c0 : Nat) (l0 : List (S77)) (r : List Int) (w : World) (hr0 : Kd.C k77 w A0 l0.length l0) (hc0 : l0.length ≤ c0) (h : spec_l8Labels.f k l0 = some r) :
  Calls Try.prog 121 #[.slice A0 l0.length c0] w fun e w' => ∃ v0_ : Value,e = .returned (v0_) ∧ Kd.R (Kd.int .i64) 3 w' w.heap.size (fun _ => True) v0_ r ∧ Below w.heap.size w w' := by
 have HR0 := Aside0.mk hr0
 have HC0 := Aside0.mk hc0
 clear hr0 hc0
 have HB := Aside0.mk (Below.refl w.heap.size w)
 have H : ((spec_PostOrder.f k l0).bind fun t863 => (spec_l8Labels.l0 k l0 (([] : List Int)) t863 0)) = some r := h
 clear h
 obtain ⟨y860,hy860⟩ : ∃ y_ : List Int,y_ = (([] : List Int)) := ⟨_,rfl⟩
 replace H : ((spec_PostOrder.f k l0).bind fun t863 => (spec_l8Labels.l0 k l0 y860 t863 0)) = some r := by first | (rw [hy860];with_reducible exact H) | (have H2_ := (Option.bind_some _ _).symm.trans H;rw [hy860];with_reducible exact H2_) | (have H2_ := (Option.bind_some _ _).symm.trans H;with_reducible exact H2_) | with_reducible exact H | (rw [hy860];exact H) | exact H
 have Ny860 := Aside0.mk hy860
 clear hy860
 replace H := Option.bind_eq_some_iff.mp H
 obtain ⟨t863,A20,H⟩ := H
 replace H : (spec_l8Labels.l0 k l0 y860 t863 0) = some r := H
 have A2 := Aside0.mk A20
 clear A20
 have H' := Aside0.mk H
 clear H
 go_enter Try.func121,Try.ntmps121
 go_wp2_with (first | ((with_reducible refine gate_dst (N := 6) rfl ?_);refine Kd.R_lit (Kd.int .i64) _ 3 ?hg (N := 6) ?hd (xs := ([] : List Int)) (inner := []) (ok := fun _ => True) (okp := fun _ => True) ?hr ?hp (fun _ hk => hk) trivial (Below.refl _ _) (Nat.le_refl _) (by simp) ?_;(case hd => rfl);(case hg => rfl);(case hr => first | (go_simp;done) | (go_simp;rfl));(case hp => exact (Reps.none _ _));intro v861 w3 ho4 hb hg_ hnew_;clear hg_ hnew_;(first | rw [← Ny860.out] at ho4 | (simp only [Int.reduceToNat] at ho4;rw [← Ny860.out] at ho4));have HO862 := Aside0.mk (Kd.R_lower ho4 (bs_ HB));replace HB := tB_ HB hb;clear hb ho4) | ((with_reducible refine gate_callee (f := 98) rfl ?_);refine gL_ (some 8) Try.func98 #[.slice A0 l0.length c0] ?_;(with_reducible refine (spec_PostOrder.calls k _ _ l0 t863 _ (cx_ HR0 HB) HC0.out A2.out).mono ?_);rintro e w5 ⟨v864,rfl,ho0,hb⟩;refine ⟨_,rfl,?_⟩;have HO865 := Aside0.mk (Kd.R_lower (Kd.R_new' ho0 (Kd.R_lt (rx_ HO862.out))) (bs_ HB));replace HO862 := Aside0.mk (Kd.R_elder' (rx_ HO862.out) (Kd.R_base ho0) hb);replace HB := tB_ HB hb;(try clear hb);(try clear ho0)))
 go_loopg [3,5] k (fun kq v3 v5 w' => ∃ (x3_1 : List Int) (x5_1 : Int),v5 = .int .i64 x5_1 ∧ Aside0 (spec_l8Labels.l0 kq l0 x3_1 t863 x5_1 = some r) ∧ Aside0 (kq ≤ k) ∧ Aside0 (Kd.R (Kd.int .i64) 3 w' w.heap.size (fun k_ => some k_ ≠ (v864 : Value).ownBlock) v3 x3_1) ∧ Aside0 (Kd.R (Kd.int .i64) 3 w' w.heap.size (fun k_ => some k_ ≠ (v3 : Value).ownBlock) v864 t863) ∧ Aside0 (Below w.heap.size w w'))
 case atStart => exact ⟨(y860),(0),eb_,H',⟨Nat.le_refl _⟩,⟨rx_ (Kd.R_mono HO862.out (fun _ hk => hk.2))⟩,⟨rx_ (Kd.R_mono HO865.out (fun _ hk => hk.2))⟩,bl_ HB⟩
 case round =>
  clear H'
  try clear c1
  try clear p2
  obtain ⟨x3_1,x5_1,rfl,HA,HK1,HO_3,HO_4,HB⟩ := hrel
  cases gk with
  | zero => exact absurd HA.out (by simp [spec_l8Labels.l0])
  | succ k1 =>
   have H := HA.out
   clear HA
   simp only [spec_l8Labels.l0] at H
   by_cases c6 : x5_1 < (t863.length : Int)
   ·rw [if_pos c6] at H
    have c6b0 : decide (x5_1 < (t863.length : Int)) = true := decide_eq_true c6
    clear c6
    by_cases c7 : 0 ≤ x5_1
    ·rw [if_pos c7] at H
     have c7b0 : decide (0 ≤ x5_1) = true := decide_eq_true c7
     clear c7
     by_cases c8 : 0 ≤ (rd t863 x5_1)
     ·rw [if_pos c8] at H
      have c8b0 : decide (0 ≤ (rd t863 x5_1)) = true := decide_eq_true c8
      clear c8
      by_cases c9 : (rd t863 x5_1) < (l0.length : Int)
      ·rw [if_pos c9] at H
       have c9b0 : decide ((rd t863 x5_1) < (l0.length : Int)) = true := decide_eq_true c9
       clear c9
       by_cases c10 : x3_1.length < 17592186044416
       ·rw [if_pos c10] at H
        have LMc10 := Aside0.mk c10
        clear c10
        obtain ⟨y868,hy868⟩ : ∃ y_ : List Int,y_ = (x3_1 ++ [(rd_T77 l0 (rd t863 x5_1)).f0]) := ⟨_,rfl⟩
        replace H : (spec_l8Labels.l0 k1 l0 y868 t863 (wrap64 (x5_1 + 1))) = some r := by first | (rw [hy868];with_reducible exact H) | (have H2_ := (Option.bind_some _ _).symm.trans H;rw [hy868];with_reducible exact H2_) | (have H2_ := (Option.bind_some _ _).symm.trans H;with_reducible exact H2_) | with_reducible exact H | (rw [hy868];exact H) | exact H
        have Ny868 := Aside0.mk hy868
        clear hy868
        have H' := Aside0.mk H
        clear H
        obtain ⟨Ao11,co11,eo11⟩ := Kd.R_slice HO_4.out
        subst eo11
        have p866 : 0 ≤ (x5_1 : Int) := od_
        have q866 : x5_1 < (t863.length : Int) := od_
        obtain ⟨ad866,e866,hx866_0⟩ := Kd.at_int (Kd.R_reads' HO_4.out).2.2 x5_1 p866 q866
        cases e866
        replace p866 := eq_true p866
        replace q866 := eq_true q866
        have p867 : 0 ≤ ((rd t863 x5_1) : Int) := od_
        have q867 : (rd t863 x5_1) < (l0.length : Int) := od_
        obtain ⟨ad867,e867,hx867_0,hx867_1⟩ := at_T77 HR0.out (rd t863 x5_1) p867 q867
        cases e867
        replace hx867_0 := ce_ HB hx867_0
        replace hx867_1 := ce_ HB hx867_1
        replace p867 := eq_true p867
        replace q867 := eq_true q867
        go_wp2_with (first | ((with_reducible refine gate_builtin (b := .append) (xs := #[.tmp 15,.tmp 24]) rfl ?_);at_builtin;refine Kd.R_append (Kd.int .i64) (w0 := w) w.heap.size rfl (.tmp 15) (.tmp 24) 25 3 (.int .i64 0) 8 rfl Try.underlying25 info3 rfl (by decide) (by omega) u3 x3_1 ((rd_T77 l0 (rd t863 x5_1)).f0) [.int .i64 ((rd_T77 l0 (rd t863 x5_1)).f0)] (fun k_ => some k_ ≠ (.slice (some ad866) t863.length co11 : Value).ownBlock) (fun _ => False) rfl rfl ?aP (fun _ hk => hk.elim) ?aF ?aO ?aB ?aS ?aL ?_;(case aP => exact rfl);(case aB => exact ((bl_ HB).out));(case aF => exact (fun k_ hk => Kd.fresh' (Kd.R_lt (rx_ HO_4.out)) k_ hk));(case aO => exact (rx_ HO_3.out));(case aS => exact (bs_ HB));(case aL => have := LMc10.out;omega);intro v869 w12 ho hb hg hat;rw [← Ny868.out] at ho;replace HO_4 := Aside0.mk (Kd.R_after (ok := (fun _ => True)) (rx_ (Kd.R_mono HO_4.out (fun _ hk => ⟨trivial,hk⟩))) hg hat);replace HB := Aside0.mk (hb);have HO870 := Aside0.mk (ho);clear HO_3;clear ho hb hg hat))
        go_roundg k1
        case measure => have := HK1.out;omega
        case rel => exact ⟨(y868),(wrap64 (x5_1 + 1)),eb_,H',⟨by have := HK1.out;omega⟩,⟨rx_ HO870.out⟩,⟨rx_ (Kd.R_mono HO_4.out (fun _ hk => hk.2))⟩,bl_ HB⟩
       ·rw [if_neg c10] at H
        exact absurd H (by simp)
      ·rw [if_neg c9] at H
       exact absurd H (by simp)
     ·rw [if_neg c8] at H
      exact absurd H (by simp)
    ·rw [if_neg c7] at H
     exact absurd H (by simp)
   ·rw [if_neg c6] at H
    have c6b0 : decide (x5_1 < (t863.length : Int)) = false := decide_eq_false c6
    clear c6
    obtain rfl := Option.some.inj H
    obtain ⟨Ao13,co13,eo13⟩ := Kd.R_slice HO_4.out
    subst eo13
    go_wp2
    go_ret
    exact ⟨_,ea_,rx_ (Kd.R_mono HO_3.out (fun _ hk => trivial)),(bl_ HB).out⟩
end Go.Proofs.Ytngphdmbjenkaaa.X
namespace Go.Proofs.Ytngphdmbjenkaaa.X
open Go.RowKit Go.Proofs.YtngphdmbjenkaaaW.PrintWords Go.Proofs.YtngphdmbjenkaaaW.PrintLast Go.Proofs.YtngphdmbjenkaaaW.PrintMore
attribute [local go_sem] max2_int min2_int max_two min_two max_three min_three max_four min_four   -- for this text's walks alone
set_option linter.unusedVariables false
set_option linter.unusedSimpArgs false
mutual
def spec_KeyRoots.l0 : Nat → List Int → List Int → Int → Option (List Int)
 | 0,_,_,_ => none
 | k + 1,x3,x4,x5 => if x5 < (x4.length : Int) then (spec_KeyRoots.l1 k x3 x4 x5 true (wrap64 (x5 + 1))) else (some x3)
def spec_KeyRoots.l1 : Nat → List Int → List Int → Int → Bool → Int → Option (List Int)
 | 0,_,_,_,_,_ => none
 | k + 1,x3,x4,x5,x6,x7 => if x7 < (x4.length : Int) then (if x6 = true then (if 0 ≤ x7 then (if 0 ≤ x5 then (if x5 < (x4.length : Int) then (spec_KeyRoots.l1 k x3 x4 x5 ((rd x4 x7) != (rd x4 x5)) (wrap64 (x7 + 1))) else (none)) else (none)) else (none)) else (spec_KeyRoots.l1 k x3 x4 x5 false (wrap64 (x7 + 1)))) else (if x6 = true then (if x3.length < 17592186044416 then (spec_KeyRoots.l0 k (x3 ++ [x5]) x4 (wrap64 (x5 + 1))) else (none)) else (spec_KeyRoots.l0 k x3 x4 (wrap64 (x5 + 1))))
end
def spec_KeyRoots.f (k : Nat) (l0 : List (S77)) : Option (List Int) := (spec_LeftLeaf.f k l0).bind fun t904 => (spec_KeyRoots.l0 k (([] : List Int)) t904 0)
theorem spec_KeyRoots.mono_l : ∀ k,(∀ y0 y1 y2,LeO (spec_KeyRoots.l0 k y0 y1 y2) (spec_KeyRoots.l0 (k + 1) y0 y1 y2)) ∧ (∀ y0 y1 y2 y3 y4,LeO (spec_KeyRoots.l1 k y0 y1 y2 y3 y4) (spec_KeyRoots.l1 (k + 1) y0 y1 y2 y3 y4))
 | 0 => ⟨fun _ _ _ r h => by simp [spec_KeyRoots.l0] at h,fun _ _ _ _ _ r h => by simp [spec_KeyRoots.l1] at h⟩
 | k + 1 => by
  obtain ⟨ih0,ih1⟩ := spec_KeyRoots.mono_l k
  refine ⟨?_,?_⟩
  ·intro y0 y1 y2
   unfold spec_KeyRoots.l0
   repeat' first
   | (with_reducible exact ih0 _ _ _)
   | (with_reducible exact ih1 _ _ _ _ _)
   | (with_reducible exact spec_LeftLeaf.mono _ _)
   | (with_reducible exact LeO.refl _)
   | (with_reducible exact LeO.none _)
   | (with_reducible refine LeO.ite ?_ ?_)
   | (with_reducible refine LeO.bind ?_ (fun _ => ?_))
   | exact ih0 _ _ _
   | exact ih1 _ _ _ _ _
   | exact spec_LeftLeaf.mono _ _
   | exact LeO.none _
   | refine LeO.ite ?_ ?_
   | refine LeO.bind ?_ (fun _ => ?_)
  ·intro y0 y1 y2 y3 y4
   unfold spec_KeyRoots.l1
   repeat' first
   | (with_reducible exact ih0 _ _ _)
   | (with_reducible exact ih1 _ _ _ _ _)
   | (with_reducible exact spec_LeftLeaf.mono _ _)
   | (with_reducible exact LeO.refl _)
   | (with_reducible exact LeO.none _)
   | (with_reducible refine LeO.ite ?_ ?_)
   | (with_reducible refine LeO.bind ?_ (fun _ => ?_))
   | exact ih0 _ _ _
   | exact ih1 _ _ _ _ _
   | exact spec_LeftLeaf.mono _ _
   | exact LeO.none _
   | refine LeO.ite ?_ ?_
   | refine LeO.bind ?_ (fun _ => ?_)
theorem spec_KeyRoots.mono : ∀ a0 k,LeO (spec_KeyRoots.f k a0) (spec_KeyRoots.f (k + 1) a0) := by
 intro a0 k
 obtain ⟨ih0,ih1⟩ := spec_KeyRoots.mono_l k
 unfold spec_KeyRoots.f
 repeat' first
   | (with_reducible exact ih0 _ _ _)
   | (with_reducible exact ih1 _ _ _ _ _)
   | (with_reducible exact spec_LeftLeaf.mono _ _)
   | (with_reducible exact LeO.refl _)
   | (with_reducible exact LeO.none _)
   | (with_reducible refine LeO.ite ?_ ?_)
   | (with_reducible refine LeO.bind ?_ (fun _ => ?_))
   | exact ih0 _ _ _
   | exact ih1 _ _ _ _ _
   | exact spec_LeftLeaf.mono _ _
   | exact LeO.none _
   | refine LeO.ite ?_ ?_
   | refine LeO.bind ?_ (fun _ => ?_)
set_option maxHeartbeats 8000000 in
set_option maxRecDepth 100000 in
theorem spec_KeyRoots.calls (k : Nat) (A0 : Option Addr) (c0 : Nat) (l0 : List (S77)) (r : List Int) (w : World) (hr0 : Kd.C k77 w A0 l0.length l0) (hc0 : l0.length ≤ c0) (h : spec_KeyRoots.f k l0 = some r) :
  Calls Try.prog 123 #[.slice A0 l0.length c0] w fun e w' => ∃ v0_ : Value,e = .returned (v0_) ∧ Kd.R (Kd.int .i64) 3 w' w.heap.size (fun _ => True) v0_ r ∧ Below w.heap.size w w' := by
 have HR0 := Aside0.mk hr0
 have HC0 := Aside0.mk hc0
 clear hr0 hc0
 have HB := Aside0.mk (Below.refl w.heap.size w)
 have H : ((spec_LeftLeaf.f k l0).bind fun t904 => (spec_KeyRoots.l0 k (([] : List Int)) t904 0)) = some r := h
 clear h
 obtain ⟨y901,hy901⟩ : ∃ y_ : List Int,y_ = (([] : List Int)) := ⟨_,rfl⟩
 replace H : ((spec_LeftLeaf.f k l0).bind fun t904 => (spec_KeyRoots.l0 k y901 t904 0)) = some r := by first | (rw [hy901];with_reducible exact H) | (have H2_ := (Option.bind_some _ _).symm.trans H;rw [hy901];with_reducible exact H2_) | (have H2_ := (Option.bind_some _ _).symm.trans H;with_reducible exact H2_) | with_reducible exact H | (rw [hy901];exact H) | exact H
 have Ny901 := Aside0.mk hy901
 clear hy901
 replace H := Option.bind_eq_some_iff.mp H
 obtain ⟨t904,A20,H⟩ := H
 replace H : (spec_KeyRoots.l0 k y901 t904 0) = some r := H
 have A2 := Aside0.mk A20
 clear A20
 have H' := Aside0.mk H
 clear H
 go_enter Try.func123,Try.ntmps123
 go_wp2_with (first | ((with_reducible refine gate_dst (N := 8) rfl ?_);refine Kd.R_lit (Kd.int .i64) _ 3 ?hg (N := 8) ?hd (xs := ([] : List Int)) (inner := []) (ok := fun _ => True) (okp := fun _ => True) ?hr ?hp (fun _ hk => hk) trivial (Below.refl _ _) (Nat.le_refl _) (by simp) ?_;(case hd => rfl);(case hg => rfl);(case hr => first | (go_simp;done) | (go_simp;rfl));(case hp => exact (Reps.none _ _));intro v902 w3 ho4 hb hg_ hnew_;clear hg_ hnew_;(first | rw [← Ny901.out] at ho4 | (simp only [Int.reduceToNat] at ho4;rw [← Ny901.out] at ho4));have HO903 := Aside0.mk (Kd.R_lower ho4 (bs_ HB));replace HB := tB_ HB hb;clear hb ho4) | (go_at_call 122;(with_reducible refine (spec_LeftLeaf.calls k _ _ l0 t904 _ (cx_ HR0 HB) HC0.out A2.out).mono ?_);rintro e w5 ⟨v905,rfl,ho0,hb⟩;have HO906 := Aside0.mk (Kd.R_lower (Kd.R_new' ho0 (Kd.R_lt (rx_ HO903.out))) (bs_ HB));replace HO903 := Aside0.mk (Kd.R_elder' (rx_ HO903.out) (Kd.R_base ho0) hb);replace HB := tB_ HB hb;(try clear hb);(try clear ho0)))
 repeat (go_quiet (first | ((with_reducible refine gate_dst (N := 8) rfl ?_);refine Kd.R_lit (Kd.int .i64) _ 3 ?hg (N := 8) ?hd (xs := ([] : List Int)) (inner := []) (ok := fun _ => True) (okp := fun _ => True) ?hr ?hp (fun _ hk => hk) trivial (Below.refl _ _) (Nat.le_refl _) (by simp) ?_;(case hd => rfl);(case hg => rfl);(case hr => first | (go_simp;done) | (go_simp;rfl));(case hp => exact (Reps.none _ _));intro v902 w3 ho4 hb hg_ hnew_;clear hg_ hnew_;(first | rw [← Ny901.out] at ho4 | (simp only [Int.reduceToNat] at ho4;rw [← Ny901.out] at ho4));have HO903 := Aside0.mk (Kd.R_lower ho4 (bs_ HB));replace HB := tB_ HB hb;clear hb ho4) | (go_at_call 122;(with_reducible refine (spec_LeftLeaf.calls k _ _ l0 t904 _ (cx_ HR0 HB) HC0.out A2.out).mono ?_);rintro e w5 ⟨v905,rfl,ho0,hb⟩;have HO906 := Aside0.mk (Kd.R_lower (Kd.R_new' ho0 (Kd.R_lt (rx_ HO903.out))) (bs_ HB));replace HO903 := Aside0.mk (Kd.R_elder' (rx_ HO903.out) (Kd.R_base ho0) hb);replace HB := tB_ HB hb;(try clear hb);(try clear ho0)));try go_wp2_with (first | ((with_reducible refine gate_dst (N := 8) rfl ?_);refine Kd.R_lit (Kd.int .i64) _ 3 ?hg (N := 8) ?hd (xs := ([] : List Int)) (inner := []) (ok := fun _ => True) (okp := fun _ => True) ?hr ?hp (fun _ hk => hk) trivial (Below.refl _ _) (Nat.le_refl _) (by simp) ?_;(case hd => rfl);(case hg => rfl);(case hr => first | (go_simp;done) | (go_simp;rfl));(case hp => exact (Reps.none _ _));intro v902 w3 ho4 hb hg_ hnew_;clear hg_ hnew_;(first | rw [← Ny901.out] at ho4 | (simp only [Int.reduceToNat] at ho4;rw [← Ny901.out] at ho4));have HO903 := Aside0.mk (Kd.R_lower ho4 (bs_ HB));replace HB := tB_ HB hb;clear hb ho4) | (go_at_call 122;(with_reducible refine (spec_LeftLeaf.calls k _ _ l0 t904 _ (cx_ HR0 HB) HC0.out A2.out).mono ?_);rintro e w5 ⟨v905,rfl,ho0,hb⟩;have HO906 := Aside0.mk (Kd.R_lower (Kd.R_new' ho0 (Kd.R_lt (rx_ HO903.out))) (bs_ HB));replace HO903 := Aside0.mk (Kd.R_elder' (rx_ HO903.out) (Kd.R_base ho0) hb);replace HB := tB_ HB hb;(try clear hb);(try clear ho0))))
 go_loopg [3,5] k (fun kq v3 v5 w' => ∃ (x3_1 : List Int) (x5_1 : Int),v5 = .int .i64 x5_1 ∧ Aside0 (spec_KeyRoots.l0 kq x3_1 t904 x5_1 = some r) ∧ Aside0 (kq ≤ k) ∧ Aside0 (Kd.R (Kd.int .i64) 3 w' w.heap.size (fun k_ => some k_ ≠ (v905 : Value).ownBlock) v3 x3_1) ∧ Aside0 (Kd.R (Kd.int .i64) 3 w' w.heap.size (fun k_ => some k_ ≠ (v3 : Value).ownBlock) v905 t904) ∧ Aside0 (Below w.heap.size w w'))
 case atStart => exact ⟨(y901),(0),eb_,H',⟨Nat.le_refl _⟩,⟨rx_ (Kd.R_mono HO903.out (fun _ hk => hk.2))⟩,⟨rx_ (Kd.R_mono HO906.out (fun _ hk => hk.2))⟩,bl_ HB⟩
 case round =>
  clear H'
  try clear c1
  try clear p2
  obtain ⟨x3_1,x5_1,rfl,HA,HK1,HO_3,HO_4,HB⟩ := hrel
  cases gk with
  | zero => exact absurd HA.out (by simp [spec_KeyRoots.l0])
  | succ k1 =>
   have H := HA.out
   clear HA
   simp only [spec_KeyRoots.l0] at H
   by_cases c6 : x5_1 < (t904.length : Int)
   ·rw [if_pos c6] at H
    have c6b0 : decide (x5_1 < (t904.length : Int)) = true := decide_eq_true c6
    clear c6
    have H' := Aside0.mk H
    clear H
    obtain ⟨Ao7,co7,eo7⟩ := Kd.R_slice HO_4.out
    subst eo7
    go_wp2
    repeat (go_quiet (fail);try go_wp2)
    go_loopg [6,7] k1 (fun kq v6 v7 w' => ∃ (x6_2 : Bool) (x7_2 : Int),v6 = .bool x6_2 ∧ v7 = .int .i64 x7_2 ∧ Aside0 (spec_KeyRoots.l1 kq x3_1 t904 x5_1 x6_2 x7_2 = some r) ∧ Aside0 (kq ≤ k1) ∧ Aside0 (Kd.R (Kd.int .i64) 3 w' w.heap.size (fun k_ => some k_ ≠ ((.slice Ao7 t904.length co7) : Value).ownBlock) u3 x3_1) ∧ Aside0 (Kd.R (Kd.int .i64) 3 w' w.heap.size (fun k_ => some k_ ≠ (u3 : Value).ownBlock) (.slice Ao7 t904.length co7) t904) ∧ Aside0 (Below w.heap.size w w'))
    case atStart => exact ⟨(true),(wrap64 (x5_1 + 1)),eb_,eb_,H',⟨Nat.le_refl _⟩,⟨rx_ HO_3.out⟩,⟨rx_ HO_4.out⟩,bl_ HB⟩
    case round =>
     clear H'
     try clear c1
     try clear p2
     try clear c6
     try clear c6b0
     try clear p6
     try clear p2
     obtain ⟨x6_2,x7_2,rfl,rfl,HA,HK2,HO_3,HO_4,HB⟩ := hrel
     cases gk with
     | zero => exact absurd HA.out (by simp [spec_KeyRoots.l1])
     | succ k2 =>
      have H := HA.out
      clear HA
      simp only [spec_KeyRoots.l1] at H
      by_cases c8 : x7_2 < (t904.length : Int)
      ·rw [if_pos c8] at H
       have c8b0 : decide (x7_2 < (t904.length : Int)) = true := decide_eq_true c8
       clear c8
       by_cases c9 : x6_2 = true
       ·subst c9
        have H1 : (if 0 ≤ x7_2 then (if 0 ≤ x5_1 then (if x5_1 < (t904.length : Int) then (spec_KeyRoots.l1 k2 x3_1 t904 x5_1 ((rd t904 x7_2) != (rd t904 x5_1)) (wrap64 (x7_2 + 1))) else (none)) else (none)) else (none)) = some r := by rw [if_pos rfl] at H;exact H
        clear H
        have H := H1
        clear H1
        by_cases c10 : 0 ≤ x7_2
        ·rw [if_pos c10] at H
         have c10b0 : decide (0 ≤ x7_2) = true := decide_eq_true c10
         clear c10
         by_cases c11 : 0 ≤ x5_1
         ·rw [if_pos c11] at H
          have c11b0 : decide (0 ≤ x5_1) = true := decide_eq_true c11
          clear c11
          by_cases c12 : x5_1 < (t904.length : Int)
          ·rw [if_pos c12] at H
           have c12b0 : decide (x5_1 < (t904.length : Int)) = true := decide_eq_true c12
           clear c12
           have H' := Aside0.mk H
           clear H
           have p907 : 0 ≤ (x7_2 : Int) := od_
           have q907 : x7_2 < (t904.length : Int) := od_
           obtain ⟨ad907,e907,hx907_0⟩ := Kd.at_int (Kd.R_reads' HO_4.out).2.2 x7_2 p907 q907
           cases e907
           replace p907 := eq_true p907
           replace q907 := eq_true q907
           have p908 : 0 ≤ (x5_1 : Int) := od_
           have q908 : x5_1 < (t904.length : Int) := od_
           obtain ⟨ad908,e908,hx908_0⟩ := Kd.at_int (Kd.R_reads' HO_4.out).2.2 x5_1 p908 q908
           obtain rfl : ad907 = ad908 := (by injection e908)
           replace p908 := eq_true p908
           replace q908 := eq_true q908
           go_wp2
           repeat (go_quiet (fail);try go_wp2)
           go_roundg k2
           case measure => have := HK1.out;have := HK2.out;omega
           case rel => exact ⟨(((rd t904 x7_2) != (rd t904 x5_1))),(wrap64 (x7_2 + 1)),eb_,eb_,H',⟨by have := HK1.out;have := HK2.out;omega⟩,⟨rx_ HO_3.out⟩,⟨rx_ HO_4.out⟩,bl_ HB⟩
          ·rw [if_neg c12] at H
           exact absurd H (by simp)
         ·rw [if_neg c11] at H
          exact absurd H (by simp)
        ·rw [if_neg c10] at H
         exact absurd H (by simp)
       ·replace c9 := Bool.eq_false_iff.mpr c9
        subst c9
        have H1 : (spec_KeyRoots.l1 k2 x3_1 t904 x5_1 false (wrap64 (x7_2 + 1))) = some r := by rw [if_neg (show ¬ (false = true) by decide)] at H;exact H
        clear H
        have H := H1
        clear H1
        have H' := Aside0.mk H
        clear H
        go_wp2
        repeat (go_quiet (fail);try go_wp2)
        go_roundg k2
        case measure => have := HK1.out;have := HK2.out;omega
        case rel => exact ⟨(false),(wrap64 (x7_2 + 1)),eb_,eb_,H',⟨by have := HK1.out;have := HK2.out;omega⟩,⟨rx_ HO_3.out⟩,⟨rx_ HO_4.out⟩,bl_ HB⟩
      ·rw [if_neg c8] at H
       have c8b0 : decide (x7_2 < (t904.length : Int)) = false := decide_eq_false c8
       clear c8
       by_cases c13 : x6_2 = true
       ·subst c13
        have H1 : (if x3_1.length < 17592186044416 then (spec_KeyRoots.l0 k2 (x3_1 ++ [x5_1]) t904 (wrap64 (x5_1 + 1))) else (none)) = some r := by rw [if_pos rfl] at H;exact H
        clear H
        have H := H1
        clear H1
        by_cases c14 : x3_1.length < 17592186044416
        ·rw [if_pos c14] at H
         have LMc14 := Aside0.mk c14
         clear c14
         obtain ⟨y909,hy909⟩ : ∃ y_ : List Int,y_ = (x3_1 ++ [x5_1]) := ⟨_,rfl⟩
         replace H : (spec_KeyRoots.l0 k2 y909 t904 (wrap64 (x5_1 + 1))) = some r := by first | (rw [hy909];with_reducible exact H) | (have H2_ := (Option.bind_some _ _).symm.trans H;rw [hy909];with_reducible exact H2_) | (have H2_ := (Option.bind_some _ _).symm.trans H;with_reducible exact H2_) | with_reducible exact H | (rw [hy909];exact H) | exact H
         have Ny909 := Aside0.mk hy909
         clear hy909
         have H' := Aside0.mk H
         clear H
         go_wp2_with (first | ((with_reducible refine gate_builtin (b := .append) (xs := #[.tmp 38,.tmp 40]) rfl ?_);at_builtin;refine Kd.R_append (Kd.int .i64) (w0 := w) w.heap.size rfl (.tmp 38) (.tmp 40) 25 3 (.int .i64 0) 8 rfl Try.underlying25 info3 rfl (by decide) (by omega) u3 x3_1 x5_1 [.int .i64 x5_1] (fun k_ => some k_ ≠ (.slice Ao7 t904.length co7 : Value).ownBlock) (fun _ => False) rfl rfl ?aP (fun _ hk => hk.elim) ?aF ?aO ?aB ?aS ?aL ?_;(case aP => exact rfl);(case aB => exact ((bl_ HB).out));(case aF => exact (fun k_ hk => Kd.fresh' (Kd.R_lt (rx_ HO_4.out)) k_ hk));(case aO => exact (rx_ HO_3.out));(case aS => exact (bs_ HB));(case aL => have := LMc14.out;omega);intro v910 w15 ho hb hg hat;rw [← Ny909.out] at ho;replace HO_4 := Aside0.mk (Kd.R_after (ok := (fun _ => True)) (rx_ (Kd.R_mono HO_4.out (fun _ hk => ⟨trivial,hk⟩))) hg hat);replace HB := Aside0.mk (hb);have HO911 := Aside0.mk (ho);clear HO_3;clear ho hb hg hat))
         repeat (go_quiet (first | ((with_reducible refine gate_builtin (b := .append) (xs := #[.tmp 38,.tmp 40]) rfl ?_);at_builtin;refine Kd.R_append (Kd.int .i64) (w0 := w) w.heap.size rfl (.tmp 38) (.tmp 40) 25 3 (.int .i64 0) 8 rfl Try.underlying25 info3 rfl (by decide) (by omega) u3 x3_1 x5_1 [.int .i64 x5_1] (fun k_ => some k_ ≠ (.slice Ao7 t904.length co7 : Value).ownBlock) (fun _ => False) rfl rfl ?aP (fun _ hk => hk.elim) ?aF ?aO ?aB ?aS ?aL ?_;(case aP => exact rfl);(case aB => exact ((bl_ HB).out));(case aF => exact (fun k_ hk => Kd.fresh' (Kd.R_lt (rx_ HO_4.out)) k_ hk));(case aO => exact (rx_ HO_3.out));(case aS => exact (bs_ HB));(case aL => have := LMc14.out;omega);intro v910 w15 ho hb hg hat;rw [← Ny909.out] at ho;replace HO_4 := Aside0.mk (Kd.R_after (ok := (fun _ => True)) (rx_ (Kd.R_mono HO_4.out (fun _ hk => ⟨trivial,hk⟩))) hg hat);replace HB := Aside0.mk (hb);have HO911 := Aside0.mk (ho);clear HO_3;clear ho hb hg hat));try go_wp2_with (first | ((with_reducible refine gate_builtin (b := .append) (xs := #[.tmp 38,.tmp 40]) rfl ?_);at_builtin;refine Kd.R_append (Kd.int .i64) (w0 := w) w.heap.size rfl (.tmp 38) (.tmp 40) 25 3 (.int .i64 0) 8 rfl Try.underlying25 info3 rfl (by decide) (by omega) u3 x3_1 x5_1 [.int .i64 x5_1] (fun k_ => some k_ ≠ (.slice Ao7 t904.length co7 : Value).ownBlock) (fun _ => False) rfl rfl ?aP (fun _ hk => hk.elim) ?aF ?aO ?aB ?aS ?aL ?_;(case aP => exact rfl);(case aB => exact ((bl_ HB).out));(case aF => exact (fun k_ hk => Kd.fresh' (Kd.R_lt (rx_ HO_4.out)) k_ hk));(case aO => exact (rx_ HO_3.out));(case aS => exact (bs_ HB));(case aL => have := LMc14.out;omega);intro v910 w15 ho hb hg hat;rw [← Ny909.out] at ho;replace HO_4 := Aside0.mk (Kd.R_after (ok := (fun _ => True)) (rx_ (Kd.R_mono HO_4.out (fun _ hk => ⟨trivial,hk⟩))) hg hat);replace HB := Aside0.mk (hb);have HO911 := Aside0.mk (ho);clear HO_3;clear ho hb hg hat)))
         go_roundg k2
         case measure => have := HK1.out;have := HK2.out;omega
         case rel => exact ⟨(y909),(wrap64 (x5_1 + 1)),eb_,H',⟨by have := HK1.out;have := HK2.out;omega⟩,⟨rx_ HO911.out⟩,⟨rx_ (Kd.R_mono HO_4.out (fun _ hk => hk.2))⟩,bl_ HB⟩
        ·rw [if_neg c14] at H
         exact absurd H (by simp)
       ·replace c13 := Bool.eq_false_iff.mpr c13
        subst c13
        have H1 : (spec_KeyRoots.l0 k2 x3_1 t904 (wrap64 (x5_1 + 1))) = some r := by rw [if_neg (show ¬ (false = true) by decide)] at H;exact H
        clear H
        have H := H1
        clear H1
        have H' := Aside0.mk H
        clear H
        go_wp2
        repeat (go_quiet (fail);try go_wp2)
        go_roundg k2
        case measure => have := HK1.out;have := HK2.out;omega
        case rel => exact ⟨(x3_1),(wrap64 (x5_1 + 1)),eb_,H',⟨by have := HK1.out;have := HK2.out;omega⟩,⟨rx_ HO_3.out⟩,⟨rx_ HO_4.out⟩,bl_ HB⟩
   ·rw [if_neg c6] at H
    have c6b0 : decide (x5_1 < (t904.length : Int)) = false := decide_eq_false c6
    clear c6
    obtain rfl := Option.some.inj H
    obtain ⟨Ao16,co16,eo16⟩ := Kd.R_slice HO_4.out
    subst eo16
    go_wp2
    repeat (go_quiet (fail);try go_wp2)
    go_ret
    exact ⟨_,ea_,rx_ (Kd.R_mono HO_3.out (fun _ hk => trivial)),(bl_ HB).out⟩
end Go.Proofs.Ytngphdmbjenkaaa.X
namespace Go.Proofs.Ytngphdmbjenkaaa.X
open Go.RowKit Go.Proofs.YtngphdmbjenkaaaW.PrintWords Go.Proofs.YtngphdmbjenkaaaW.PrintLast Go.Proofs.YtngphdmbjenkaaaW.PrintMore
attribute [local go_sem] max2_int min2_int max_two min_two max_three min_three max_four min_four   -- for this text's walks alone
set_option linter.unusedVariables false
set_option linter.unusedSimpArgs false
def spec_l8Three.f (k : Nat) (l0 : List (S77)) (l1 : List (S77)) (l2_0 : List Int) (l2_1 : List Int) (l2_2 : List Int) : Option (Bool) := (spec_TreeOk.f k l0).bind fun t824 => (if t824 = true then ((spec_TreeOk.f k l1).bind fun t825 => (if t825 = true then ((spec_CostOk.f k l2_0 l2_1 l2_2).bind fun t826 => (some t826)) else (some false))) else (some false))
theorem spec_l8Three.mono : ∀ a0 a1 a2 a3 a4 k,LeO (spec_l8Three.f k a0 a1 a2 a3 a4) (spec_l8Three.f (k + 1) a0 a1 a2 a3 a4) := by
 intro a0 a1 a2 a3 a4 k
 unfold spec_l8Three.f
 repeat' first
   | (with_reducible exact spec_CostOk.mono _ _ _ _)
   | (with_reducible exact spec_TreeOk.mono _ _)
   | (with_reducible exact LeO.refl _)
   | (with_reducible exact LeO.none _)
   | (with_reducible refine LeO.ite ?_ ?_)
   | (with_reducible refine LeO.bind ?_ (fun _ => ?_))
   | exact spec_CostOk.mono _ _ _ _
   | exact spec_TreeOk.mono _ _
   | exact LeO.none _
   | refine LeO.ite ?_ ?_
   | refine LeO.bind ?_ (fun _ => ?_)
set_option maxHeartbeats 8000000 in
set_option maxRecDepth 100000 in
theorem spec_l8Three.calls (k : Nat) (A0 : Option Addr) (c0 : Nat) (l0 : List (S77)) (A1 : Option Addr) (c1 : Nat) (l1 : List (S77)) (A2_0 : Option Addr) (c2_0 : Nat) (l2_0 : List Int) (A2_1 : Option Addr) (c2_1 : Nat) (l2_1 : List Int) (A2_2 : Option Addr) (c2_2 : Nat) (l2_2 : List Int) (r : Bool) (w : World) (hr0 : Kd.C k77 w A0 l0.length l0) (hc0 : l0.length ≤ c0) (hr1 : Kd.C k77 w A1 l1.length l1) (hc1 : l1.length ≤ c1) (hr2_0 : Kd.C (Kd.int .i64) w A2_0 l2_0.length l2_0) (hc2_0 : l2_0.length ≤ c2_0) (hr2_1 : Kd.C (Kd.int .i64) w A2_1 l2_1.length l2_1) (hc2_1 : l2_1.length ≤ c2_1) (hr2_2 : Kd.C (Kd.int .i64) w A2_2 l2_2.length l2_2) (hc2_2 : l2_2.length ≤ c2_2) (h : spec_l8Three.f k l0 l1 l2_0 l2_1 l2_2 = some r) :
  Calls Try.prog 73 #[.slice A0 l0.length c0,.slice A1 l1.length c1,.agg #[.slice A2_0 l2_0.length c2_0,.slice A2_1 l2_1.length c2_1,.slice A2_2 l2_2.length c2_2]] w fun e w' => e = .returned (.bool r) ∧ Below w.heap.size w w' := by
 have hu27 := Try.underlying27
 have HR0 := Aside0.mk hr0
 have HC0 := Aside0.mk hc0
 clear hr0 hc0
 have HR1 := Aside0.mk hr1
 have HC1 := Aside0.mk hc1
 clear hr1 hc1
 have HR2_0 := Aside0.mk hr2_0
 have HC2_0 := Aside0.mk hc2_0
 clear hr2_0 hc2_0
 have HR2_1 := Aside0.mk hr2_1
 have HC2_1 := Aside0.mk hc2_1
 clear hr2_1 hc2_1
 have HR2_2 := Aside0.mk hr2_2
 have HC2_2 := Aside0.mk hc2_2
 clear hr2_2 hc2_2
 have HB := Aside0.mk (Below.refl w.heap.size w)
 have H : ((spec_TreeOk.f k l0).bind fun t824 => (if t824 = true then ((spec_TreeOk.f k l1).bind fun t825 => (if t825 = true then ((spec_CostOk.f k l2_0 l2_1 l2_2).bind fun t826 => (some t826)) else (some false))) else (some false))) = some r := h
 clear h
 replace H := Option.bind_eq_some_iff.mp H
 obtain ⟨t824,A40,H⟩ := H
 try dsimp only at H
 have A4 := Aside0.mk A40
 clear A40
 by_cases c5 : t824 = true
 ·subst c5
  have H1 : ((spec_TreeOk.f k l1).bind fun t825 => (if t825 = true then ((spec_CostOk.f k l2_0 l2_1 l2_2).bind fun t826 => (some t826)) else (some false))) = some r := by rw [if_pos rfl] at H;exact H
  clear H
  have H := H1
  clear H1
  replace H := Option.bind_eq_some_iff.mp H
  obtain ⟨t825,A60,H⟩ := H
  try dsimp only at H
  have A6 := Aside0.mk A60
  clear A60
  by_cases c7 : t825 = true
  ·subst c7
   have H1 : ((spec_CostOk.f k l2_0 l2_1 l2_2).bind fun t826 => (some t826)) = some r := by rw [if_pos rfl] at H;exact H
   clear H
   have H := H1
   clear H1
   replace H := Option.bind_eq_some_iff.mp H
   obtain ⟨t826,A80,H⟩ := H
   replace H : (some t826) = some r := H
   have A8 := Aside0.mk A80
   clear A80
   obtain rfl := Option.some.inj H
   go_enter Try.func73,Try.ntmps73
   go_wp2_with (first | ((with_reducible refine gate_dst (N := 5) rfl ?_);refine bx_ 5 #[.slice A2_0 l2_0.length c2_0,.slice A2_1 l2_1.length c2_1,.slice A2_2 l2_2.length c2_2] 27 ?_;intro gb823 hg w9 hbox hb;have BK823 := Aside0.mk (hbox);have GW823 := Aside0.mk ((by rw [hg];exact (bs_ HB) : w.heap.size ≤ gb823));have GE823 := Aside0.mk ((by rw [hg];exact (bs_ HB) : w.heap.size ≤ gb823));replace HB := tB_ HB hb;clear hb hbox hg) | ((with_reducible refine gate_callee (f := 16) rfl ?_);refine gL_ (some 8) Try.func16 #[.slice A0 l0.length c0] ?_;(with_reducible refine (spec_TreeOk.calls k _ _ l0 true _ (cx_ HR0 HB) HC0.out A4.out).mono ?_);rintro e w10 ⟨rfl,hb⟩;refine ⟨_,rfl,?_⟩;replace BK823 := tK_ BK823 hb;replace HB := tB_ HB hb;(try clear hb)) | (go_at_call 16;(with_reducible refine (spec_TreeOk.calls k _ _ l1 true _ (cx_ HR1 HB) HC1.out A6.out).mono ?_);rintro e w11 ⟨rfl,hb⟩;replace BK823 := tK_ BK823 hb;replace HB := tB_ HB hb;(try clear hb);obtain ⟨hcz12_0,hcz12_1,hcz12_2,hfz12_0,hfz12_1,hfz12_2⟩ := bk3_ BK823) | (go_at_call 17;(with_reducible refine (spec_CostOk.calls k _ _ l2_0 _ _ l2_1 _ _ l2_2 t826 _ (cx_ HR2_0 HB) HC2_0.out (cx_ HR2_1 HB) HC2_1.out (cx_ HR2_2 HB) HC2_2.out A8.out).mono ?_);rintro e w13 ⟨rfl,hb⟩;replace BK823 := tK_ BK823 hb;replace HB := tB_ HB hb;(try clear hb)))
   go_ret
   exact ⟨ea_,(bl_ HB).out⟩
  ·replace c7 := Bool.eq_false_iff.mpr c7
   subst c7
   have H1 : (some false) = some r := by rw [if_neg (show ¬ (false = true) by decide)] at H;exact H
   clear H
   have H := H1
   clear H1
   obtain rfl := Option.some.inj H
   go_enter Try.func73,Try.ntmps73
   go_wp2_with (first | ((with_reducible refine gate_dst (N := 5) rfl ?_);refine bx_ 5 #[.slice A2_0 l2_0.length c2_0,.slice A2_1 l2_1.length c2_1,.slice A2_2 l2_2.length c2_2] 27 ?_;intro gb823 hg w14 hbox hb;have BK823 := Aside0.mk (hbox);have GW823 := Aside0.mk ((by rw [hg];exact (bs_ HB) : w.heap.size ≤ gb823));have GE823 := Aside0.mk ((by rw [hg];exact (bs_ HB) : w.heap.size ≤ gb823));replace HB := tB_ HB hb;clear hb hbox hg) | ((with_reducible refine gate_callee (f := 16) rfl ?_);refine gL_ (some 8) Try.func16 #[.slice A0 l0.length c0] ?_;(with_reducible refine (spec_TreeOk.calls k _ _ l0 true _ (cx_ HR0 HB) HC0.out A4.out).mono ?_);rintro e w15 ⟨rfl,hb⟩;refine ⟨_,rfl,?_⟩;replace BK823 := tK_ BK823 hb;replace HB := tB_ HB hb;(try clear hb)) | (go_at_call 16;(with_reducible refine (spec_TreeOk.calls k _ _ l1 false _ (cx_ HR1 HB) HC1.out A6.out).mono ?_);rintro e w16 ⟨rfl,hb⟩;replace BK823 := tK_ BK823 hb;replace HB := tB_ HB hb;(try clear hb)))
   go_ret
   exact ⟨ea_,(bl_ HB).out⟩
 ·replace c5 := Bool.eq_false_iff.mpr c5
  subst c5
  have H1 : (some false) = some r := by rw [if_neg (show ¬ (false = true) by decide)] at H;exact H
  clear H
  have H := H1
  clear H1
  obtain rfl := Option.some.inj H
  go_enter Try.func73,Try.ntmps73
  go_wp2_with (first | ((with_reducible refine gate_dst (N := 5) rfl ?_);refine bx_ 5 #[.slice A2_0 l2_0.length c2_0,.slice A2_1 l2_1.length c2_1,.slice A2_2 l2_2.length c2_2] 27 ?_;intro gb823 hg w17 hbox hb;have BK823 := Aside0.mk (hbox);have GW823 := Aside0.mk ((by rw [hg];exact (bs_ HB) : w.heap.size ≤ gb823));have GE823 := Aside0.mk ((by rw [hg];exact (bs_ HB) : w.heap.size ≤ gb823));replace HB := tB_ HB hb;clear hb hbox hg) | ((with_reducible refine gate_callee (f := 16) rfl ?_);refine gL_ (some 8) Try.func16 #[.slice A0 l0.length c0] ?_;(with_reducible refine (spec_TreeOk.calls k _ _ l0 false _ (cx_ HR0 HB) HC0.out A4.out).mono ?_);rintro e w18 ⟨rfl,hb⟩;refine ⟨_,rfl,?_⟩;replace BK823 := tK_ BK823 hb;replace HB := tB_ HB hb;(try clear hb)))
  go_ret
  exact ⟨ea_,(bl_ HB).out⟩
end Go.Proofs.Ytngphdmbjenkaaa.X
namespace Go.Proofs.Ytngphdmbjenkaaa.X
open Go.RowKit Go.Proofs.YtngphdmbjenkaaaW.PrintWords Go.Proofs.YtngphdmbjenkaaaW.PrintLast Go.Proofs.YtngphdmbjenkaaaW.PrintMore
attribute [local go_sem] max2_int min2_int max_two min_two max_three min_three max_four min_four   -- for this text's walks alone
set_option linter.unusedVariables false
set_option linter.unusedSimpArgs false
def spec_RelCost.f (k : Nat) (l0_0 : List Int) (l0_1 : List Int) (l0_2 : List Int) (a1 : Int) (a2 : Int) : Option (Int) := (spec_CostOk.f k l0_0 l0_1 l0_2).bind fun t998 => (if t998 = true then ((spec_LabelOk.f a1).bind fun t999 => (if t999 = true then ((spec_LabelOk.f a2).bind fun t1000 => (if t1000 = true then (if 0 ≤ (wrap64 ((wrap64 (a1 * 6)) + a2)) then (if (wrap64 ((wrap64 (a1 * 6)) + a2)) < (l0_2.length : Int) then (some (rd l0_2 (wrap64 ((wrap64 (a1 * 6)) + a2)))) else (none)) else (none)) else (some 0))) else (some 0))) else (some 0))
theorem spec_RelCost.mono : ∀ a0 a1 a2 a3 a4 k,LeO (spec_RelCost.f k a0 a1 a2 a3 a4) (spec_RelCost.f (k + 1) a0 a1 a2 a3 a4) := by
 intro a0 a1 a2 a3 a4 k
 unfold spec_RelCost.f
 repeat' first
   | (with_reducible exact spec_CostOk.mono _ _ _ _)
   | (with_reducible exact LeO.refl _)
   | (with_reducible exact LeO.none _)
   | (with_reducible refine LeO.ite ?_ ?_)
   | (with_reducible refine LeO.bind ?_ (fun _ => ?_))
   | exact spec_CostOk.mono _ _ _ _
   | exact LeO.none _
   | refine LeO.ite ?_ ?_
   | refine LeO.bind ?_ (fun _ => ?_)
set_option maxHeartbeats 8000000 in
set_option maxRecDepth 100000 in
theorem spec_RelCost.calls (k : Nat) (A0_0 : Option Addr) (c0_0 : Nat) (l0_0 : List Int) (A0_1 : Option Addr) (c0_1 : Nat) (l0_1 : List Int) (A0_2 : Option Addr) (c0_2 : Nat) (l0_2 : List Int) (a1 : Int) (a2 : Int) (r : Int) (w : World) (hr0_0 : Kd.C (Kd.int .i64) w A0_0 l0_0.length l0_0) (hc0_0 : l0_0.length ≤ c0_0) (hr0_1 : Kd.C (Kd.int .i64) w A0_1 l0_1.length l0_1) (hc0_1 : l0_1.length ≤ c0_1) (hr0_2 : Kd.C (Kd.int .i64) w A0_2 l0_2.length l0_2) (hc0_2 : l0_2.length ≤ c0_2) (h : spec_RelCost.f k l0_0 l0_1 l0_2 a1 a2 = some r) :
  Calls Try.prog 75 #[.agg #[.slice A0_0 l0_0.length c0_0,.slice A0_1 l0_1.length c0_1,.slice A0_2 l0_2.length c0_2],.int .i64 a1,.int .i64 a2] w fun e w' => e = .returned (.int .i64 r) ∧ Below w.heap.size w w' := by
 have hu27 := Try.underlying27
 have HR0_0 := Aside0.mk hr0_0
 have HC0_0 := Aside0.mk hc0_0
 clear hr0_0 hc0_0
 have HR0_1 := Aside0.mk hr0_1
 have HC0_1 := Aside0.mk hc0_1
 clear hr0_1 hc0_1
 have HR0_2 := Aside0.mk hr0_2
 have HC0_2 := Aside0.mk hc0_2
 clear hr0_2 hc0_2
 have HB := Aside0.mk (Below.refl w.heap.size w)
 have H : ((spec_CostOk.f k l0_0 l0_1 l0_2).bind fun t998 => (if t998 = true then ((spec_LabelOk.f a1).bind fun t999 => (if t999 = true then ((spec_LabelOk.f a2).bind fun t1000 => (if t1000 = true then (if 0 ≤ (wrap64 ((wrap64 (a1 * 6)) + a2)) then (if (wrap64 ((wrap64 (a1 * 6)) + a2)) < (l0_2.length : Int) then (some (rd l0_2 (wrap64 ((wrap64 (a1 * 6)) + a2)))) else (none)) else (none)) else (some 0))) else (some 0))) else (some 0))) = some r := h
 clear h
 replace H := Option.bind_eq_some_iff.mp H
 obtain ⟨t998,A40,H⟩ := H
 try dsimp only at H
 have A4 := Aside0.mk A40
 clear A40
 by_cases c5 : t998 = true
 ·subst c5
  have H1 : ((spec_LabelOk.f a1).bind fun t999 => (if t999 = true then ((spec_LabelOk.f a2).bind fun t1000 => (if t1000 = true then (if 0 ≤ (wrap64 ((wrap64 (a1 * 6)) + a2)) then (if (wrap64 ((wrap64 (a1 * 6)) + a2)) < (l0_2.length : Int) then (some (rd l0_2 (wrap64 ((wrap64 (a1 * 6)) + a2)))) else (none)) else (none)) else (some 0))) else (some 0))) = some r := by rw [if_pos rfl] at H;exact H
  clear H
  have H := H1
  clear H1
  replace H := Option.bind_eq_some_iff.mp H
  obtain ⟨t999,A60,H⟩ := H
  try dsimp only at H
  have A6 := Aside0.mk A60
  clear A60
  by_cases c7 : t999 = true
  ·subst c7
   have H1 : ((spec_LabelOk.f a2).bind fun t1000 => (if t1000 = true then (if 0 ≤ (wrap64 ((wrap64 (a1 * 6)) + a2)) then (if (wrap64 ((wrap64 (a1 * 6)) + a2)) < (l0_2.length : Int) then (some (rd l0_2 (wrap64 ((wrap64 (a1 * 6)) + a2)))) else (none)) else (none)) else (some 0))) = some r := by rw [if_pos rfl] at H;exact H
   clear H
   have H := H1
   clear H1
   replace H := Option.bind_eq_some_iff.mp H
   obtain ⟨t1000,A80,H⟩ := H
   try dsimp only at H
   have A8 := Aside0.mk A80
   clear A80
   by_cases c9 : t1000 = true
   ·subst c9
    have H1 : (if 0 ≤ (wrap64 ((wrap64 (a1 * 6)) + a2)) then (if (wrap64 ((wrap64 (a1 * 6)) + a2)) < (l0_2.length : Int) then (some (rd l0_2 (wrap64 ((wrap64 (a1 * 6)) + a2)))) else (none)) else (none)) = some r := by rw [if_pos rfl] at H;exact H
    clear H
    have H := H1
    clear H1
    obtain ⟨ji10,hji10⟩ : ∃ j_ : Int,(wrap64 ((wrap64 (a1 * 6)) + a2)) = j_ := ⟨_,rfl⟩
    replace H : (if 0 ≤ (ji10) then (if (ji10) < (l0_2.length : Int) then (some (rd l0_2 (ji10))) else (none)) else (none)) = some r := by first | (rw [hji10] at H;exact H) | (simp only [hji10] at H ⊢;exact H)
    (try rw [hji10] at A4)
    (try rw [hji10] at A6)
    (try rw [hji10] at A8)
    have hji10w : (IntKind.i64.wrap ((wrap64 (a1 * 6)) + a2)) = ji10 := (i64_w _).trans hji10
    by_cases c11 : 0 ≤ (ji10)
    ·rw [if_pos c11] at H
     have c11b0 : decide (0 ≤ (ji10)) = true := decide_eq_true c11
     clear c11
     by_cases c12 : (ji10) < (l0_2.length : Int)
     ·rw [if_pos c12] at H
      have c12b0 : decide ((ji10) < (l0_2.length : Int)) = true := decide_eq_true c12
      clear c12
      obtain rfl := Option.some.inj H
      go_enter Try.func75,Try.ntmps75
      go_wp2_with (first | ((with_reducible refine gate_dst (N := 3) rfl ?_);refine bx_ 3 #[.slice A0_0 l0_0.length c0_0,.slice A0_1 l0_1.length c0_1,.slice A0_2 l0_2.length c0_2] 27 ?_;intro gb997 hg w13 hbox hb;have BK997 := Aside0.mk (hbox);have GW997 := Aside0.mk ((by rw [hg];exact (bs_ HB) : w.heap.size ≤ gb997));have GE997 := Aside0.mk ((by rw [hg];exact (bs_ HB) : w.heap.size ≤ gb997));replace HB := tB_ HB hb;clear hb hbox hg;obtain ⟨hcz14_0,hcz14_1,hcz14_2,hfz14_0,hfz14_1,hfz14_2⟩ := bk3_ BK997) | ((with_reducible refine gate_callee (f := 17) rfl ?_);refine gL_ (some 8) Try.func17 #[.agg #[.slice A0_0 l0_0.length c0_0,.slice A0_1 l0_1.length c0_1,.slice A0_2 l0_2.length c0_2]] ?_;(with_reducible refine (spec_CostOk.calls k _ _ l0_0 _ _ l0_1 _ _ l0_2 true _ (cx_ HR0_0 HB) HC0_0.out (cx_ HR0_1 HB) HC0_1.out (cx_ HR0_2 HB) HC0_2.out A4.out).mono ?_);rintro e w15 ⟨rfl,hb⟩;refine ⟨_,rfl,?_⟩;replace BK997 := tK_ BK997 hb;replace HB := tB_ HB hb;(try clear hb)) | (go_at_call 61;(with_reducible refine (spec_LabelOk.calls a1 true _ A6.out).mono ?_);rintro e w' ⟨rfl,⟨nd,rfl⟩⟩) | (go_at_call 61;(with_reducible refine (spec_LabelOk.calls a2 true _ A8.out).mono ?_);rintro e w' ⟨rfl,⟨nd,rfl⟩⟩;obtain ⟨hcz16_0,hcz16_1,hcz16_2,hfz16_0,hfz16_1,hfz16_2⟩ := bk3_ BK997;have p1001 : 0 ≤ ((ji10) : Int) := od_;have q1001 : (ji10) < (l0_2.length : Int) := od_;obtain ⟨ad1001,e1001,hx1001_0⟩ := Kd.at_int HR0_2.out (ji10) p1001 q1001;cases e1001;replace hx1001_0 := ce_ HB hx1001_0;replace p1001 := eq_true p1001;replace q1001 := eq_true q1001))
      go_ret
      exact ⟨by first | rfl | (simp [errW_none,errW_some] <;> rfl) | (simp only [← hji10];first | rfl | (simp [errW_none,errW_some] <;> rfl)) | (simp [*,errW_none,errW_some] <;> rfl),(bl_ HB).out⟩
     ·rw [if_neg c12] at H
      exact absurd H (by simp)
    ·rw [if_neg c11] at H
     exact absurd H (by simp)
   ·replace c9 := Bool.eq_false_iff.mpr c9
    subst c9
    have H1 : (some 0) = some r := by rw [if_neg (show ¬ (false = true) by decide)] at H;exact H
    clear H
    have H := H1
    clear H1
    obtain rfl := Option.some.inj H
    go_enter Try.func75,Try.ntmps75
    go_wp2_with (first | ((with_reducible refine gate_dst (N := 3) rfl ?_);refine bx_ 3 #[.slice A0_0 l0_0.length c0_0,.slice A0_1 l0_1.length c0_1,.slice A0_2 l0_2.length c0_2] 27 ?_;intro gb997 hg w17 hbox hb;have BK997 := Aside0.mk (hbox);have GW997 := Aside0.mk ((by rw [hg];exact (bs_ HB) : w.heap.size ≤ gb997));have GE997 := Aside0.mk ((by rw [hg];exact (bs_ HB) : w.heap.size ≤ gb997));replace HB := tB_ HB hb;clear hb hbox hg;obtain ⟨hcz18_0,hcz18_1,hcz18_2,hfz18_0,hfz18_1,hfz18_2⟩ := bk3_ BK997) | ((with_reducible refine gate_callee (f := 17) rfl ?_);refine gL_ (some 8) Try.func17 #[.agg #[.slice A0_0 l0_0.length c0_0,.slice A0_1 l0_1.length c0_1,.slice A0_2 l0_2.length c0_2]] ?_;(with_reducible refine (spec_CostOk.calls k _ _ l0_0 _ _ l0_1 _ _ l0_2 true _ (cx_ HR0_0 HB) HC0_0.out (cx_ HR0_1 HB) HC0_1.out (cx_ HR0_2 HB) HC0_2.out A4.out).mono ?_);rintro e w19 ⟨rfl,hb⟩;refine ⟨_,rfl,?_⟩;replace BK997 := tK_ BK997 hb;replace HB := tB_ HB hb;(try clear hb)) | (go_at_call 61;(with_reducible refine (spec_LabelOk.calls a1 true _ A6.out).mono ?_);rintro e w' ⟨rfl,⟨nd,rfl⟩⟩) | (go_at_call 61;(with_reducible refine (spec_LabelOk.calls a2 false _ A8.out).mono ?_);rintro e w' ⟨rfl,⟨nd,rfl⟩⟩))
    go_ret
    exact ⟨ea_,(bl_ HB).out⟩
  ·replace c7 := Bool.eq_false_iff.mpr c7
   subst c7
   have H1 : (some 0) = some r := by rw [if_neg (show ¬ (false = true) by decide)] at H;exact H
   clear H
   have H := H1
   clear H1
   obtain rfl := Option.some.inj H
   go_enter Try.func75,Try.ntmps75
   go_wp2_with (first | ((with_reducible refine gate_dst (N := 3) rfl ?_);refine bx_ 3 #[.slice A0_0 l0_0.length c0_0,.slice A0_1 l0_1.length c0_1,.slice A0_2 l0_2.length c0_2] 27 ?_;intro gb997 hg w20 hbox hb;have BK997 := Aside0.mk (hbox);have GW997 := Aside0.mk ((by rw [hg];exact (bs_ HB) : w.heap.size ≤ gb997));have GE997 := Aside0.mk ((by rw [hg];exact (bs_ HB) : w.heap.size ≤ gb997));replace HB := tB_ HB hb;clear hb hbox hg;obtain ⟨hcz21_0,hcz21_1,hcz21_2,hfz21_0,hfz21_1,hfz21_2⟩ := bk3_ BK997) | ((with_reducible refine gate_callee (f := 17) rfl ?_);refine gL_ (some 8) Try.func17 #[.agg #[.slice A0_0 l0_0.length c0_0,.slice A0_1 l0_1.length c0_1,.slice A0_2 l0_2.length c0_2]] ?_;(with_reducible refine (spec_CostOk.calls k _ _ l0_0 _ _ l0_1 _ _ l0_2 true _ (cx_ HR0_0 HB) HC0_0.out (cx_ HR0_1 HB) HC0_1.out (cx_ HR0_2 HB) HC0_2.out A4.out).mono ?_);rintro e w22 ⟨rfl,hb⟩;refine ⟨_,rfl,?_⟩;replace BK997 := tK_ BK997 hb;replace HB := tB_ HB hb;(try clear hb)) | (go_at_call 61;(with_reducible refine (spec_LabelOk.calls a1 false _ A6.out).mono ?_);rintro e w' ⟨rfl,⟨nd,rfl⟩⟩))
   go_ret
   exact ⟨ea_,(bl_ HB).out⟩
 ·replace c5 := Bool.eq_false_iff.mpr c5
  subst c5
  have H1 : (some 0) = some r := by rw [if_neg (show ¬ (false = true) by decide)] at H;exact H
  clear H
  have H := H1
  clear H1
  obtain rfl := Option.some.inj H
  go_enter Try.func75,Try.ntmps75
  go_wp2_with (first | ((with_reducible refine gate_dst (N := 3) rfl ?_);refine bx_ 3 #[.slice A0_0 l0_0.length c0_0,.slice A0_1 l0_1.length c0_1,.slice A0_2 l0_2.length c0_2] 27 ?_;intro gb997 hg w23 hbox hb;have BK997 := Aside0.mk (hbox);have GW997 := Aside0.mk ((by rw [hg];exact (bs_ HB) : w.heap.size ≤ gb997));have GE997 := Aside0.mk ((by rw [hg];exact (bs_ HB) : w.heap.size ≤ gb997));replace HB := tB_ HB hb;clear hb hbox hg;obtain ⟨hcz24_0,hcz24_1,hcz24_2,hfz24_0,hfz24_1,hfz24_2⟩ := bk3_ BK997) | ((with_reducible refine gate_callee (f := 17) rfl ?_);refine gL_ (some 8) Try.func17 #[.agg #[.slice A0_0 l0_0.length c0_0,.slice A0_1 l0_1.length c0_1,.slice A0_2 l0_2.length c0_2]] ?_;(with_reducible refine (spec_CostOk.calls k _ _ l0_0 _ _ l0_1 _ _ l0_2 false _ (cx_ HR0_0 HB) HC0_0.out (cx_ HR0_1 HB) HC0_1.out (cx_ HR0_2 HB) HC0_2.out A4.out).mono ?_);rintro e w25 ⟨rfl,hb⟩;refine ⟨_,rfl,?_⟩;replace BK997 := tK_ BK997 hb;replace HB := tB_ HB hb;(try clear hb)))
  go_ret
  exact ⟨ea_,(bl_ HB).out⟩
end Go.Proofs.Ytngphdmbjenkaaa.X
namespace Go.Proofs.Ytngphdmbjenkaaa.X
open Go.RowKit Go.Proofs.YtngphdmbjenkaaaW.PrintWords Go.Proofs.YtngphdmbjenkaaaW.PrintLast Go.Proofs.YtngphdmbjenkaaaW.PrintMore
attribute [local go_sem] max2_int min2_int max_two min_two max_three min_three max_four min_four   -- for this text's walks alone
set_option linter.unusedVariables false
set_option linter.unusedSimpArgs false
def slices_Index_int_int.l0 : Nat → List Int → Int → Int → Int → Option (Int)
 | 0,_,_,_,_ => none
 | k + 1,x0,x1,x7,x8 => if x8 < x7 then (if 0 ≤ x8 then (if x8 < (x0.length : Int) then (if x1 = (rd x0 x8) then (some x8) else (slices_Index_int_int.l0 k x0 x1 x7 (wrap64 (x8 + 1)))) else (none)) else (none)) else (some (-1))
def slices_Index_int_int.f (k : Nat) (l0 : List Int) (a1 : Int) : Option (Int) := slices_Index_int_int.l0 k l0 a1 (l0.length : Int) 0
theorem slices_Index_int_int.mono_l : ∀ k,(∀ y0 y1 y2 y3,LeO (slices_Index_int_int.l0 k y0 y1 y2 y3) (slices_Index_int_int.l0 (k + 1) y0 y1 y2 y3))
 | 0 => fun _ _ _ _ r h => by simp [slices_Index_int_int.l0] at h
 | k + 1 => by
  have ih0 := slices_Index_int_int.mono_l k
  ·intro y0 y1 y2 y3
   unfold slices_Index_int_int.l0
   repeat' first
   | (with_reducible exact ih0 _ _ _ _)
   | (with_reducible exact LeO.refl _)
   | (with_reducible exact LeO.none _)
   | (with_reducible refine LeO.ite ?_ ?_)
   | (with_reducible refine LeO.bind ?_ (fun _ => ?_))
   | exact ih0 _ _ _ _
   | exact LeO.none _
   | refine LeO.ite ?_ ?_
   | refine LeO.bind ?_ (fun _ => ?_)
theorem slices_Index_int_int.mono : ∀ a0 a1 k,LeO (slices_Index_int_int.f k a0 a1) (slices_Index_int_int.f (k + 1) a0 a1) := by
 intro a0 a1 k
 have ih0 := slices_Index_int_int.mono_l k
 unfold slices_Index_int_int.f
 repeat' first
   | (with_reducible exact ih0 _ _ _ _)
   | (with_reducible exact LeO.refl _)
   | (with_reducible exact LeO.none _)
   | (with_reducible refine LeO.ite ?_ ?_)
   | (with_reducible refine LeO.bind ?_ (fun _ => ?_))
   | exact ih0 _ _ _ _
   | exact LeO.none _
   | refine LeO.ite ?_ ?_
   | refine LeO.bind ?_ (fun _ => ?_)
set_option maxHeartbeats 8000000 in
set_option maxRecDepth 100000 in
theorem slices_Index_int_int.calls (k : Nat) (A0 : Option Addr) (c0 : Nat) (l0 : List Int) (a1 : Int) (r : Int) (w : World) (hr0 : Kd.C (Kd.int .i64) w A0 l0.length l0) (hc0 : l0.length ≤ c0) (h : slices_Index_int_int.f k l0 a1 = some r) :
  Calls Try.prog 176 #[.slice A0 l0.length c0,.int .i64 a1] w fun e w' => e = .returned (.int .i64 r) ∧ Drawn0 w w' := by
 have HR0 := Aside0.mk hr0
 have HC0 := Aside0.mk hc0
 clear hr0 hc0
 have H : (slices_Index_int_int.l0 k l0 a1 (l0.length : Int) 0) = some r := h
 clear h
 have H' := Aside0.mk H
 clear H
 go_enter Try.func176,Try.ntmps176
 go_wp2
 go_loopg [8] k (fun kq v8 w' => ∃ (x8_1 : Int),v8 = .int .i64 x8_1 ∧ Aside0 (slices_Index_int_int.l0 kq l0 a1 (l0.length : Int) x8_1 = some r) ∧ Aside0 (kq ≤ k) ∧ Drawn0 w w')
 case atStart => exact ⟨(0),eb_,H',⟨Nat.le_refl _⟩,by repeat (first | exact Drawn0.refl _ | apply Drawn0.step)⟩
 case round =>
  clear H'
  try clear c1
  try clear p2
  obtain ⟨x8_1,rfl,HA,HK1,⟨m1,rfl⟩⟩ := hrel
  cases gk with
  | zero => exact absurd HA.out (by simp [slices_Index_int_int.l0])
  | succ k1 =>
   have H := HA.out
   clear HA
   simp only [slices_Index_int_int.l0] at H
   by_cases c3 : x8_1 < (l0.length : Int)
   ·rw [if_pos c3] at H
    have c3b0 : decide (x8_1 < (l0.length : Int)) = true := decide_eq_true c3
    clear c3
    by_cases c4 : 0 ≤ x8_1
    ·rw [if_pos c4] at H
     have c4b0 : decide (0 ≤ x8_1) = true := decide_eq_true c4
     clear c4
     by_cases c5 : x8_1 < (l0.length : Int)
     ·rw [if_pos c5] at H
      have c5b0 : decide (x8_1 < (l0.length : Int)) = true := decide_eq_true c5
      clear c5
      by_cases c6 : a1 = (rd l0 x8_1)
      ·rw [if_pos c6] at H
       have c6b0 : (a1 == (rd l0 x8_1)) = true := beq_iff_eq.mpr c6
       have c6b1 : (a1 != (rd l0 x8_1)) = false := bne_eq_false_iff_eq.mpr c6
       clear c6
       obtain rfl := Option.some.inj H
       have p1175 : 0 ≤ (x8_1 : Int) := od_
       have q1175 : x8_1 < (l0.length : Int) := od_
       obtain ⟨ad1175,e1175,hx1175_0⟩ := Kd.at_int HR0.out x8_1 p1175 q1175
       cases e1175
       replace p1175 := eq_true p1175
       replace q1175 := eq_true q1175
       go_wp2
       go_ret
       exact ⟨by first | rfl | (simp;done) | (simp [*];done),by repeat (first | exact Drawn0.refl _ | apply Drawn0.step)⟩
      ·rw [if_neg c6] at H
       have c6b0 : (a1 == (rd l0 x8_1)) = false := beq_eq_false_iff_ne.mpr c6
       have c6b1 : (a1 != (rd l0 x8_1)) = true := bne_iff_ne.mpr c6
       have H' := Aside0.mk H
       clear H
       have p1175 : 0 ≤ (x8_1 : Int) := od_
       have q1175 : x8_1 < (l0.length : Int) := od_
       obtain ⟨ad1175,e1175,hx1175_0⟩ := Kd.at_int HR0.out x8_1 p1175 q1175
       cases e1175
       replace p1175 := eq_true p1175
       replace q1175 := eq_true q1175
       go_wp2
       go_roundg k1
       case measure => have := HK1.out;omega
       case rel => exact ⟨(wrap64 (x8_1 + 1)),eb_,H',⟨by have := HK1.out;omega⟩,by repeat (first | exact Drawn0.refl _ | apply Drawn0.step)⟩
     ·rw [if_neg c5] at H
      exact absurd H (by simp)
    ·rw [if_neg c4] at H
     exact absurd H (by simp)
   ·rw [if_neg c3] at H
    have c3b0 : decide (x8_1 < (l0.length : Int)) = false := decide_eq_false c3
    clear c3
    obtain rfl := Option.some.inj H
    go_wp2
    go_ret
    exact ⟨by first | rfl | (simp;done) | (simp [*];done),by repeat (first | exact Drawn0.refl _ | apply Drawn0.step)⟩
end Go.Proofs.Ytngphdmbjenkaaa.X
namespace Go.Proofs.Ytngphdmbjenkaaa.X
open Go.RowKit Go.Proofs.YtngphdmbjenkaaaW.PrintWords Go.Proofs.YtngphdmbjenkaaaW.PrintLast Go.Proofs.YtngphdmbjenkaaaW.PrintMore
attribute [local go_sem] max2_int min2_int max_two min_two max_three min_three max_four min_four   -- for this text's walks alone
set_option linter.unusedVariables false
set_option linter.unusedSimpArgs false
def slices_Contains_int_int.f (k : Nat) (l0 : List Int) (a1 : Int) : Option (Bool) := (slices_Index_int_int.f k l0 a1).bind fun t1176 => (some (decide (t1176 ≥ 0)))
theorem slices_Contains_int_int.mono : ∀ a0 a1 k,LeO (slices_Contains_int_int.f k a0 a1) (slices_Contains_int_int.f (k + 1) a0 a1) := by
 intro a0 a1 k
 unfold slices_Contains_int_int.f
 repeat' first
   | (with_reducible exact slices_Index_int_int.mono _ _ _)
   | (with_reducible exact LeO.refl _)
   | (with_reducible exact LeO.none _)
   | (with_reducible refine LeO.ite ?_ ?_)
   | (with_reducible refine LeO.bind ?_ (fun _ => ?_))
   | exact slices_Index_int_int.mono _ _ _
   | exact LeO.none _
   | refine LeO.ite ?_ ?_
   | refine LeO.bind ?_ (fun _ => ?_)
set_option maxHeartbeats 8000000 in
set_option maxRecDepth 100000 in
theorem slices_Contains_int_int.calls (k : Nat) (A0 : Option Addr) (c0 : Nat) (l0 : List Int) (a1 : Int) (r : Bool) (w : World) (hr0 : Kd.C (Kd.int .i64) w A0 l0.length l0) (hc0 : l0.length ≤ c0) (h : slices_Contains_int_int.f k l0 a1 = some r) :
  Calls Try.prog 163 #[.slice A0 l0.length c0,.int .i64 a1] w fun e w' => e = .returned (.bool r) ∧ Drawn0 w w' := by
 have HR0 := Aside0.mk hr0
 have HC0 := Aside0.mk hc0
 clear hr0 hc0
 have H : ((slices_Index_int_int.f k l0 a1).bind fun t1176 => (some (decide (t1176 ≥ 0)))) = some r := h
 clear h
 replace H := Option.bind_eq_some_iff.mp H
 obtain ⟨t1176,A30,H⟩ := H
 replace H : (some (decide (t1176 ≥ 0))) = some r := H
 have A3 := Aside0.mk A30
 clear A30
 obtain rfl := Option.some.inj H
 go_enter Try.func163,Try.ntmps163
 go_wp2_with (first | ((with_reducible refine gate_callee (f := 176) rfl ?_);refine gL_ (some 7) Try.func176 #[.slice A0 l0.length c0,.int .i64 a1] ?_;(with_reducible refine (slices_Index_int_int.calls k _ _ l0 a1 t1176 _ (cc_ HR0.out) HC0.out A3.out).mono ?_);rintro e w' ⟨rfl,⟨nd,rfl⟩⟩;refine ⟨_,rfl,?_⟩))
 go_ret
 exact ⟨by first | rfl | (simp;done) | (simp [*];done),by repeat (first | exact Drawn0.refl _ | apply Drawn0.step)⟩
end Go.Proofs.Ytngphdmbjenkaaa.X
namespace Go.Proofs.Ytngphdmbjenkaaa.X
open Go.RowKit Go.Proofs.YtngphdmbjenkaaaW.PrintWords Go.Proofs.YtngphdmbjenkaaaW.PrintLast Go.Proofs.YtngphdmbjenkaaaW.PrintMore
attribute [local go_sem] max2_int min2_int max_two min_two max_three min_three max_four min_four   -- for this text's walks alone
set_option linter.unusedVariables false
set_option linter.unusedSimpArgs false
def laws_swapped.l0 : Nat → Int → Int → List Int → List Int → List Int → List Int → List Int → List Int → Option (List Int × List Int × List Int)
 | 0,_,_,_,_,_,_,_,_ => none
 | k + 1,x4,x5,x1133000,x1133001,x1133002,x1147000,x1147001,x1147002 => if x5 < (wrap64 (x4 * x4)) then (if (x1133002.length : Int) = (wrap64 (x4 * x4)) then (if x4 = 0 then (none) else (if 0 ≤ (wrap64 ((wrap64 ((Int.tmod x5 x4) * x4)) + (wrap64 (Int.tdiv x5 x4)))) then (if (wrap64 ((wrap64 ((Int.tmod x5 x4) * x4)) + (wrap64 (Int.tdiv x5 x4)))) < (x1133002.length : Int) then (if x1147002.length < 17592186044416 then (laws_swapped.l0 k x4 (wrap64 (x5 + 1)) x1133000 x1133001 x1133002 x1147000 x1147001 (x1147002 ++ [rd x1133002 (wrap64 ((wrap64 ((Int.tmod x5 x4) * x4)) + (wrap64 (Int.tdiv x5 x4))))])) else (none)) else (none)) else (none))) else (some (x1147000,x1147001,x1147002))) else (some (x1147000,x1147001,x1147002))
def laws_swapped.f (k : Nat) (l0_0 : List Int) (l0_1 : List Int) (l0_2 : List Int) : Option (List Int × List Int × List Int) := (some (([] : List Int) : List Int)).bind fun y1134 => (if y1134.length + l0_1.length < 17592186044416 then ((some (([] : List Int) : List Int)).bind fun y1140 => (if y1140.length + l0_0.length < 17592186044416 then (laws_swapped.l0 k 6 0 l0_0 l0_1 l0_2 (y1134 ++ l0_1) (y1140 ++ l0_0) ([] : List Int)) else (none))) else (none))
def laws_swapped.T1 : Bool × List (List Nat × List Nat) := (true,[([],[]),([],[]),([1],[1]),([0,2],[0,2]),([],[]),([],[]),([5],[5]),([4,6,3],[4,6]),([3,7],[3,7]),([],[]),([9,8,7,0,1,2,3,4,5,6,7,8,9],[8,9])])
def laws_swapped.B1 : List Nat := [0,0,2,7,0,0,32,127,255,0,1023]
theorem laws_swapped.tab1 : rtab .any (opsOf Try.f34 1) = laws_swapped.T1 := by kernel_rfl
theorem laws_swapped.bits1 : waitsOk laws_swapped.T1.2 laws_swapped.B1 = true := by kernel_rfl
def laws_swapped.T6 : Bool × List (List Nat × List Nat) := (true,[([],[]),([0],[0]),([],[]),([2],[2]),([],[]),([],[]),([4,5],[4,5]),([],[]),([6,7],[6,7]),([],[]),([],[]),([9,10],[9,10]),([8,11],[8,11]),([3,12],[3,12]),([13],[13]),([14],[14]),([1,15],[1,15]),([0,1,2,3,4,5,6,7,8,9,10,11,12,13,14,15,16],[]),([17,16,16,0,1,2,3,4,5,6,7,8,9,10,11,12,13,14,15,16],[16,17])])
def laws_swapped.B6 : List Nat := [0,1,0,4,0,0,48,0,240,0,0,1536,4080,8188,16380,32764,65535,131071,262143]
theorem laws_swapped.tab6 : rtab .any (opsOf Try.f34 6) = laws_swapped.T6 := by kernel_rfl
theorem laws_swapped.bits6 : waitsOk laws_swapped.T6.2 laws_swapped.B6 = true := by kernel_rfl
set_option maxHeartbeats 8000000 in
set_option maxRecDepth 100000 in
theorem laws_swapped.calls (k : Nat) (A0_0 : Option Addr) (c0_0 : Nat) (l0_0 : List Int) (A0_1 : Option Addr) (c0_1 : Nat) (l0_1 : List Int) (A0_2 : Option Addr) (c0_2 : Nat) (l0_2 : List Int) (r1 : List Int) (r2 : List Int) (r3 : List Int) (w : World) (hr0_0 : Kd.C (Kd.int .i64) w A0_0 l0_0.length l0_0) (hc0_0 : l0_0.length ≤ c0_0) (hr0_1 : Kd.C (Kd.int .i64) w A0_1 l0_1.length l0_1) (hc0_1 : l0_1.length ≤ c0_1) (hr0_2 : Kd.C (Kd.int .i64) w A0_2 l0_2.length l0_2) (hc0_2 : l0_2.length ≤ c0_2) (h : laws_swapped.f k l0_0 l0_1 l0_2 = some (r1,r2,r3)) :
  Calls Try.prog 34 #[.agg #[.slice A0_0 l0_0.length c0_0,.slice A0_1 l0_1.length c0_1,.slice A0_2 l0_2.length c0_2]] w fun e w' => ∃ v0_ v1_ v2_ : Value,e = .returned (.agg #[v0_,v1_,v2_]) ∧ Kd.R (Kd.int .i64) 3 w' w.heap.size (fun k_ => some k_ ≠ (v1_ : Value).ownBlock ∧ some k_ ≠ (v2_ : Value).ownBlock) v0_ r1 ∧ Kd.R (Kd.int .i64) 3 w' w.heap.size (fun k_ => some k_ ≠ (v0_ : Value).ownBlock ∧ some k_ ≠ (v2_ : Value).ownBlock) v1_ r2 ∧ Kd.R (Kd.int .i64) 3 w' w.heap.size (fun k_ => some k_ ≠ (v0_ : Value).ownBlock ∧ some k_ ≠ (v1_ : Value).ownBlock) v2_ r3 ∧ Below w.heap.size w w' := by
 have hu27 := Try.underlying27
 have HR0_0 := Aside0.mk hr0_0
 have HC0_0 := Aside0.mk hc0_0
 clear hr0_0 hc0_0
 have HR0_1 := Aside0.mk hr0_1
 have HC0_1 := Aside0.mk hc0_1
 clear hr0_1 hc0_1
 have HR0_2 := Aside0.mk hr0_2
 have HC0_2 := Aside0.mk hc0_2
 clear hr0_2 hc0_2
 have HB := Aside0.mk (Below.refl w.heap.size w)
 have H : ((some (([] : List Int) : List Int)).bind fun y1134 => (if y1134.length + l0_1.length < 17592186044416 then ((some (([] : List Int) : List Int)).bind fun y1140 => (if y1140.length + l0_0.length < 17592186044416 then (laws_swapped.l0 k 6 0 l0_0 l0_1 l0_2 (y1134 ++ l0_1) (y1140 ++ l0_0) ([] : List Int)) else (none))) else (none))) = some (r1,r2,r3) := h
 clear h
 obtain ⟨y1134,hy1134⟩ : ∃ y_ : List Int,y_ = (([] : List Int)) := ⟨_,rfl⟩
 replace H : (if y1134.length + l0_1.length < 17592186044416 then ((some (([] : List Int) : List Int)).bind fun y1140 => (if y1140.length + l0_0.length < 17592186044416 then (laws_swapped.l0 k 6 0 l0_0 l0_1 l0_2 (y1134 ++ l0_1) (y1140 ++ l0_0) ([] : List Int)) else (none))) else (none)) = some (r1,r2,r3) := by first | (rw [hy1134];with_reducible exact H) | (have H2_ := (Option.bind_some _ _).symm.trans H;rw [hy1134];with_reducible exact H2_) | (have H2_ := (Option.bind_some _ _).symm.trans H;with_reducible exact H2_) | with_reducible exact H | (rw [hy1134];exact H) | exact H
 have Ny1134 := Aside0.mk hy1134
 clear hy1134
 by_cases c2 : y1134.length + l0_1.length < 17592186044416
 ·rw [if_pos c2] at H
  have LMc2 := Aside0.mk c2
  clear c2
  obtain ⟨y1137,hy1137⟩ : ∃ y_ : List Int,y_ = (y1134 ++ l0_1) := ⟨_,rfl⟩
  replace H : ((some (([] : List Int) : List Int)).bind fun y1140 => (if y1140.length + l0_0.length < 17592186044416 then (laws_swapped.l0 k 6 0 l0_0 l0_1 l0_2 y1137 (y1140 ++ l0_0) ([] : List Int)) else (none))) = some (r1,r2,r3) := by first | (rw [hy1137];with_reducible exact H) | (have H2_ := (Option.bind_some _ _).symm.trans H;rw [hy1137];with_reducible exact H2_) | (have H2_ := (Option.bind_some _ _).symm.trans H;with_reducible exact H2_) | with_reducible exact H | (rw [hy1137];exact H) | exact H
  have Ny1137 := Aside0.mk hy1137
  clear hy1137
  obtain ⟨y1140,hy1140⟩ : ∃ y_ : List Int,y_ = (([] : List Int)) := ⟨_,rfl⟩
  replace H : (if y1140.length + l0_0.length < 17592186044416 then (laws_swapped.l0 k 6 0 l0_0 l0_1 l0_2 y1137 (y1140 ++ l0_0) ([] : List Int)) else (none)) = some (r1,r2,r3) := by first | (rw [hy1140];with_reducible exact H) | (have H2_ := (Option.bind_some _ _).symm.trans H;rw [hy1140];with_reducible exact H2_) | (have H2_ := (Option.bind_some _ _).symm.trans H;with_reducible exact H2_) | with_reducible exact H | (rw [hy1140];exact H) | exact H
  have Ny1140 := Aside0.mk hy1140
  clear hy1140
  by_cases c3 : y1140.length + l0_0.length < 17592186044416
  ·rw [if_pos c3] at H
   have LMc3 := Aside0.mk c3
   clear c3
   obtain ⟨y1143,hy1143⟩ : ∃ y_ : List Int,y_ = (y1140 ++ l0_0) := ⟨_,rfl⟩
   replace H : (laws_swapped.l0 k 6 0 l0_0 l0_1 l0_2 y1137 y1143 ([] : List Int)) = some (r1,r2,r3) := by first | (rw [hy1143];with_reducible exact H) | (have H2_ := (Option.bind_some _ _).symm.trans H;rw [hy1143];with_reducible exact H2_) | (have H2_ := (Option.bind_some _ _).symm.trans H;with_reducible exact H2_) | with_reducible exact H | (rw [hy1143];exact H) | exact H
   have Ny1143 := Aside0.mk hy1143
   clear hy1143
   have H' := Aside0.mk H
   clear H
   go_enter Try.func34,Try.ntmps34
   try go_wp2_with (first | ((with_reducible refine gate_dst (N := 1) rfl ?_);(try (refine gate_guard (by rfl) ?_;dsimp only));refine bx_ 1 #[.slice A0_0 l0_0.length c0_0,.slice A0_1 l0_1.length c0_1,.slice A0_2 l0_2.length c0_2] 27 ?_;intro gb1132 hg w4 hbox hb;have BK1132 := Aside0.mk (hbox);have GW1132 := Aside0.mk ((by rw [hg];exact (bs_ HB) : w.heap.size ≤ gb1132));have GE1132 := Aside0.mk ((by rw [hg];exact (bs_ HB) : w.heap.size ≤ gb1132));replace HB := tB_ HB hb;clear hb hbox hg) | ((with_reducible refine gate_dst (N := 2) rfl ?_);(try (refine gate_guard (by rfl) ?_;dsimp only));refine bx_ 2 #[.slice none 0 0,.slice none 0 0,.slice none 0 0] 27 ?_;intro gb1133 hg w5 hbox hb;have BK1133 := Aside0.mk (hbox);have GW1133 := Aside0.mk ((by rw [hg];exact (bs_ HB) : w.heap.size ≤ gb1133));have GE1133 := Aside0.mk ((by rw [hg];exact (bs_ HB) : w.heap.size ≤ gb1133));replace HB := tB_ HB hb;have NB1132_1133 := Aside0.mk ((by rw [hg];exact Nat.ne_of_lt (blk_lt (g := gb1132) (o := .cells #[.slice A0_0 l0_0.length c0_0,.slice A0_1 l0_1.length c0_1,.slice A0_2 l0_2.length c0_2] 27 (0,0)) (kx_ BK1132.out)) : gb1132 ≠ gb1133));have NB1133_1132 := Aside0.mk ((by rw [hg];exact Nat.ne_of_gt (blk_lt (g := gb1132) (o := .cells #[.slice A0_0 l0_0.length c0_0,.slice A0_1 l0_1.length c0_1,.slice A0_2 l0_2.length c0_2] 27 (0,0)) (kx_ BK1132.out)) : gb1133 ≠ gb1132));replace BK1132 := tK_ BK1132 hb;clear hb hbox hg))
   have n0_ := Aside0.mk (blk_drew BK1132.out)
   have n1_ := Aside0.mk (blk_drew BK1133.out)
   have n2_ := Aside0.mk (below_drew1 HB.out)
   clear BK1132
   clear BK1133
   clear HB
   have BK1132 := n0_
   have BK1133 := n1_
   have HB := n2_
   clear n0_ n1_ n2_
   refine start_ (n := 11) (S := fun w' => w'.cell? ⟨gb1132,0,none⟩ = some (.slice A0_0 l0_0.length c0_0) ∧ w'.cell? ⟨gb1132,1,none⟩ = some (.slice A0_1 l0_1.length c0_1) ∧ w'.cell? ⟨gb1132,2,none⟩ = some (.slice A0_2 l0_2.length c0_2)) (ds := []) (ba_ 11 0) (by kernel_rfl) rfl rfl ⟨(blk_cell BK1132.out 0).trans rfl,(blk_cell BK1132.out 1).trans rfl,(blk_cell BK1132.out 2).trans rfl⟩ (fun hHeld => ?_);refine with_tabW laws_swapped.tab1 laws_swapped.bits1 (fun HT_ HW_ => ?_)
   generalize w5.drew = w6 at BK1132 BK1133 HB hHeld ⊢
   refine pu_ 1 (some 7) (ba_ 11 2) rfl rfl (any_of HT_.out (by kernel_rfl)) ?_
   refine pu_ 5 (some 11) (ba_ 11 34) rfl rfl (any_of HT_.out (by kernel_rfl)) ?_
   refine ta_ 2 (some 8) (ba_ 11 38) rfl rfl (take_ofW HT_.out HW_.out (by kernel_rfl)) hHeld (by rintro w' ⟨s0,s1,s2⟩;go_simp;with_reducible rfl) ?_
   refine ta_ 6 (some 12) (ba_ 11 102) rfl rfl (take_ofW HT_.out HW_.out (by kernel_rfl)) hHeld (by rintro w' ⟨s0,s1,s2⟩;go_simp;with_reducible rfl) ?_
   refine join_ (σ := Value × Value × Value × Value × Nat) 1 (ba_ 11 1023) (fun s_ => [(6,s_.1),(9,s_.2.1),(10,s_.2.2.1),(13,s_.2.2.2.1),(3,.pointer (some ⟨s_.2.2.2.2,0,none⟩)),(14,.agg #[s_.2.1,s_.2.2.2.1,.slice none 0 0])]) (fun s_ w' => (w'.cell? ⟨gb1132,0,none⟩ = some (.slice A0_0 l0_0.length c0_0) ∧ w'.cell? ⟨gb1132,1,none⟩ = some (.slice A0_1 l0_1.length c0_1) ∧ w'.cell? ⟨gb1132,2,none⟩ = some (.slice A0_2 l0_2.length c0_2)) ∧ (Kd.R (Kd.int .i64) 3 w' w.heap.size (fun k_ => some k_ ≠ (s_.2.2.2.1 : Value).ownBlock) s_.2.1 y1137) ∧ (Kd.R (Kd.int .i64) 3 w' w.heap.size (fun k_ => some k_ ≠ (s_.2.1 : Value).ownBlock) s_.2.2.2.1 y1143) ∧ (w'.heap[gb1132]? = some (.cells #[.slice A0_0 l0_0.length c0_0,.slice A0_1 l0_1.length c0_1,.slice A0_2 l0_2.length c0_2] 27 (0,0))) ∧ (w'.heap[gb1133]? = some (.cells #[.slice none 0 0,.slice none 0 0,.slice none 0 0] 27 (0,0))) ∧ (w'.heap[s_.2.2.2.2]? = some (.cells #[.slice none 0 0,.slice none 0 0,.slice none 0 0] 27 (0,0))) ∧ (w.heap.size ≤ s_.2.2.2.2) ∧ (w.heap.size ≤ s_.2.2.2.2) ∧ (gb1132 ≠ s_.2.2.2.2) ∧ (s_.2.2.2.2 ≠ gb1132) ∧ (gb1133 ≠ s_.2.2.2.2) ∧ (s_.2.2.2.2 ≠ gb1133) ∧ (Below w.heap.size w w')) ?_ ?_
   rotate_left
   ·intro hJ0_3_4_7_9
    refine join_ (σ := Value × Value × Value × Value) 2 (ba_ 11 511) (fun s_ => [(6,s_.1),(9,s_.2.1),(10,s_.2.2.1),(13,s_.2.2.2),(14,.agg #[s_.2.1,s_.2.2.2,.slice none 0 0])]) (fun s_ w' => (w'.cell? ⟨gb1132,0,none⟩ = some (.slice A0_0 l0_0.length c0_0) ∧ w'.cell? ⟨gb1132,1,none⟩ = some (.slice A0_1 l0_1.length c0_1) ∧ w'.cell? ⟨gb1132,2,none⟩ = some (.slice A0_2 l0_2.length c0_2)) ∧ (Kd.R (Kd.int .i64) 3 w' w.heap.size (fun k_ => some k_ ≠ (s_.2.2.2 : Value).ownBlock) s_.2.1 y1137) ∧ (Kd.R (Kd.int .i64) 3 w' w.heap.size (fun k_ => some k_ ≠ (s_.2.1 : Value).ownBlock) s_.2.2.2 y1143) ∧ (w'.heap[gb1132]? = some (.cells #[.slice A0_0 l0_0.length c0_0,.slice A0_1 l0_1.length c0_1,.slice A0_2 l0_2.length c0_2] 27 (0,0))) ∧ (w'.heap[gb1133]? = some (.cells #[.slice none 0 0,.slice none 0 0,.slice none 0 0] 27 (0,0))) ∧ (Below w.heap.size w w')) ?_ ?_
    rotate_left
    ·intro hJ0_3_4_7
     refine join_ (σ := Value × Value × Value × Nat) 3 (ba_ 11 639) (fun s_ => [(6,s_.1),(9,s_.2.1),(10,s_.2.2.1),(3,.pointer (some ⟨s_.2.2.2,0,none⟩))]) (fun s_ w' => (w'.cell? ⟨gb1132,0,none⟩ = some (.slice A0_0 l0_0.length c0_0) ∧ w'.cell? ⟨gb1132,1,none⟩ = some (.slice A0_1 l0_1.length c0_1) ∧ w'.cell? ⟨gb1132,2,none⟩ = some (.slice A0_2 l0_2.length c0_2)) ∧ (Kd.R (Kd.int .i64) 3 w' w.heap.size (fun k_ => some k_ ≠ (s_.2.2.1 : Value).ownBlock) s_.2.1 y1137) ∧ (Kd.R (Kd.int .i64) 3 w' w.heap.size (fun k_ => some k_ ≠ (s_.2.1 : Value).ownBlock) s_.2.2.1 y1140) ∧ (w'.heap[gb1132]? = some (.cells #[.slice A0_0 l0_0.length c0_0,.slice A0_1 l0_1.length c0_1,.slice A0_2 l0_2.length c0_2] 27 (0,0))) ∧ (w'.heap[gb1133]? = some (.cells #[.slice none 0 0,.slice none 0 0,.slice none 0 0] 27 (0,0))) ∧ (w'.heap[s_.2.2.2]? = some (.cells #[.slice none 0 0,.slice none 0 0,.slice none 0 0] 27 (0,0))) ∧ (w.heap.size ≤ s_.2.2.2) ∧ (w.heap.size ≤ s_.2.2.2) ∧ (gb1132 ≠ s_.2.2.2) ∧ (s_.2.2.2 ≠ gb1132) ∧ (gb1133 ≠ s_.2.2.2) ∧ (s_.2.2.2 ≠ gb1133) ∧ (Below w.heap.size w w')) ?_ ?_
     rotate_left
     ·intro hJ0_3_4_9
      refine join_ (σ := Value × Value × Value) 4 (ba_ 11 127) (fun s_ => [(6,s_.1),(9,s_.2.1),(10,s_.2.2)]) (fun s_ w' => (w'.cell? ⟨gb1132,0,none⟩ = some (.slice A0_0 l0_0.length c0_0) ∧ w'.cell? ⟨gb1132,1,none⟩ = some (.slice A0_1 l0_1.length c0_1) ∧ w'.cell? ⟨gb1132,2,none⟩ = some (.slice A0_2 l0_2.length c0_2)) ∧ (Kd.R (Kd.int .i64) 3 w' w.heap.size (fun k_ => some k_ ≠ (s_.2.2 : Value).ownBlock) s_.2.1 y1137) ∧ (Kd.R (Kd.int .i64) 3 w' w.heap.size (fun k_ => some k_ ≠ (s_.2.1 : Value).ownBlock) s_.2.2 y1140) ∧ (w'.heap[gb1132]? = some (.cells #[.slice A0_0 l0_0.length c0_0,.slice A0_1 l0_1.length c0_1,.slice A0_2 l0_2.length c0_2] 27 (0,0))) ∧ (w'.heap[gb1133]? = some (.cells #[.slice none 0 0,.slice none 0 0,.slice none 0 0] 27 (0,0))) ∧ (Below w.heap.size w w')) ?_ ?_
      rotate_left
      ·intro hJ0_3_4
       refine join_ (σ := Value × Value × Nat) 4 (ba_ 11 623) (fun s_ => [(6,s_.1),(9,s_.2.1),(3,.pointer (some ⟨s_.2.2,0,none⟩))]) (fun s_ w' => (w'.cell? ⟨gb1132,0,none⟩ = some (.slice A0_0 l0_0.length c0_0) ∧ w'.cell? ⟨gb1132,1,none⟩ = some (.slice A0_1 l0_1.length c0_1) ∧ w'.cell? ⟨gb1132,2,none⟩ = some (.slice A0_2 l0_2.length c0_2)) ∧ (Kd.R (Kd.int .i64) 3 w' w.heap.size (fun _ => True) s_.2.1 y1137) ∧ (w'.heap[gb1132]? = some (.cells #[.slice A0_0 l0_0.length c0_0,.slice A0_1 l0_1.length c0_1,.slice A0_2 l0_2.length c0_2] 27 (0,0))) ∧ (w'.heap[gb1133]? = some (.cells #[.slice none 0 0,.slice none 0 0,.slice none 0 0] 27 (0,0))) ∧ (w'.heap[s_.2.2]? = some (.cells #[.slice none 0 0,.slice none 0 0,.slice none 0 0] 27 (0,0))) ∧ (w.heap.size ≤ s_.2.2) ∧ (w.heap.size ≤ s_.2.2) ∧ (gb1132 ≠ s_.2.2) ∧ (s_.2.2 ≠ gb1132) ∧ (gb1133 ≠ s_.2.2) ∧ (s_.2.2 ≠ gb1133) ∧ (Below w.heap.size w w')) ?_ ?_
       rotate_left
       ·intro hJ0_3_9
        refine join_ (σ := Value × Value × Nat) 4 (ba_ 11 631) (fun s_ => [(6,s_.1),(10,s_.2.1),(3,.pointer (some ⟨s_.2.2,0,none⟩))]) (fun s_ w' => (w'.cell? ⟨gb1132,0,none⟩ = some (.slice A0_0 l0_0.length c0_0) ∧ w'.cell? ⟨gb1132,1,none⟩ = some (.slice A0_1 l0_1.length c0_1) ∧ w'.cell? ⟨gb1132,2,none⟩ = some (.slice A0_2 l0_2.length c0_2)) ∧ (Kd.R (Kd.int .i64) 3 w' w.heap.size (fun k_ => some k_ ≠ (s_.2.1 : Value).ownBlock) s_.1 y1134) ∧ (Kd.R (Kd.int .i64) 3 w' w.heap.size (fun k_ => some k_ ≠ (s_.1 : Value).ownBlock) s_.2.1 y1140) ∧ (w'.heap[gb1132]? = some (.cells #[.slice A0_0 l0_0.length c0_0,.slice A0_1 l0_1.length c0_1,.slice A0_2 l0_2.length c0_2] 27 (0,0))) ∧ (w'.heap[gb1133]? = some (.cells #[.slice none 0 0,.slice none 0 0,.slice none 0 0] 27 (0,0))) ∧ (w'.heap[s_.2.2]? = some (.cells #[.slice none 0 0,.slice none 0 0,.slice none 0 0] 27 (0,0))) ∧ (w.heap.size ≤ s_.2.2) ∧ (w.heap.size ≤ s_.2.2) ∧ (gb1132 ≠ s_.2.2) ∧ (s_.2.2 ≠ gb1132) ∧ (gb1133 ≠ s_.2.2) ∧ (s_.2.2 ≠ gb1133) ∧ (Below w.heap.size w w')) ?_ ?_
        rotate_left
        ·intro hJ0_4_9
         refine join_ (σ := Value × Value) 5 (ba_ 11 111) (fun s_ => [(6,s_.1),(9,s_.2)]) (fun s_ w' => (w'.cell? ⟨gb1132,0,none⟩ = some (.slice A0_0 l0_0.length c0_0) ∧ w'.cell? ⟨gb1132,1,none⟩ = some (.slice A0_1 l0_1.length c0_1) ∧ w'.cell? ⟨gb1132,2,none⟩ = some (.slice A0_2 l0_2.length c0_2)) ∧ (Kd.R (Kd.int .i64) 3 w' w.heap.size (fun _ => True) s_.2 y1137) ∧ (w'.heap[gb1132]? = some (.cells #[.slice A0_0 l0_0.length c0_0,.slice A0_1 l0_1.length c0_1,.slice A0_2 l0_2.length c0_2] 27 (0,0))) ∧ (w'.heap[gb1133]? = some (.cells #[.slice none 0 0,.slice none 0 0,.slice none 0 0] 27 (0,0))) ∧ (Below w.heap.size w w')) ?_ ?_
         rotate_left
         ·intro hJ0_3
          refine join_ (σ := Value × Value) 5 (ba_ 11 119) (fun s_ => [(6,s_.1),(10,s_.2)]) (fun s_ w' => (w'.cell? ⟨gb1132,0,none⟩ = some (.slice A0_0 l0_0.length c0_0) ∧ w'.cell? ⟨gb1132,1,none⟩ = some (.slice A0_1 l0_1.length c0_1) ∧ w'.cell? ⟨gb1132,2,none⟩ = some (.slice A0_2 l0_2.length c0_2)) ∧ (Kd.R (Kd.int .i64) 3 w' w.heap.size (fun k_ => some k_ ≠ (s_.2 : Value).ownBlock) s_.1 y1134) ∧ (Kd.R (Kd.int .i64) 3 w' w.heap.size (fun k_ => some k_ ≠ (s_.1 : Value).ownBlock) s_.2 y1140) ∧ (w'.heap[gb1132]? = some (.cells #[.slice A0_0 l0_0.length c0_0,.slice A0_1 l0_1.length c0_1,.slice A0_2 l0_2.length c0_2] 27 (0,0))) ∧ (w'.heap[gb1133]? = some (.cells #[.slice none 0 0,.slice none 0 0,.slice none 0 0] 27 (0,0))) ∧ (Below w.heap.size w w')) ?_ ?_
          rotate_left
          ·intro hJ0_4
           refine join_ (σ := Value × Nat) 5 (ba_ 11 615) (fun s_ => [(6,s_.1),(3,.pointer (some ⟨s_.2,0,none⟩))]) (fun s_ w' => (w'.cell? ⟨gb1132,0,none⟩ = some (.slice A0_0 l0_0.length c0_0) ∧ w'.cell? ⟨gb1132,1,none⟩ = some (.slice A0_1 l0_1.length c0_1) ∧ w'.cell? ⟨gb1132,2,none⟩ = some (.slice A0_2 l0_2.length c0_2)) ∧ (Kd.R (Kd.int .i64) 3 w' w.heap.size (fun _ => True) s_.1 y1134) ∧ (w'.heap[gb1132]? = some (.cells #[.slice A0_0 l0_0.length c0_0,.slice A0_1 l0_1.length c0_1,.slice A0_2 l0_2.length c0_2] 27 (0,0))) ∧ (w'.heap[gb1133]? = some (.cells #[.slice none 0 0,.slice none 0 0,.slice none 0 0] 27 (0,0))) ∧ (w'.heap[s_.2]? = some (.cells #[.slice none 0 0,.slice none 0 0,.slice none 0 0] 27 (0,0))) ∧ (w.heap.size ≤ s_.2) ∧ (w.heap.size ≤ s_.2) ∧ (gb1132 ≠ s_.2) ∧ (s_.2 ≠ gb1132) ∧ (gb1133 ≠ s_.2) ∧ (s_.2 ≠ gb1133) ∧ (Below w.heap.size w w')) ?_ ?_
           rotate_left
           ·intro hJ0_9
            refine join_ (σ := Value × Nat) 5 (ba_ 11 630) (fun s_ => [(10,s_.1),(3,.pointer (some ⟨s_.2,0,none⟩))]) (fun s_ w' => (w'.cell? ⟨gb1132,0,none⟩ = some (.slice A0_0 l0_0.length c0_0) ∧ w'.cell? ⟨gb1132,1,none⟩ = some (.slice A0_1 l0_1.length c0_1) ∧ w'.cell? ⟨gb1132,2,none⟩ = some (.slice A0_2 l0_2.length c0_2)) ∧ (Kd.R (Kd.int .i64) 3 w' w.heap.size (fun _ => True) s_.1 y1140) ∧ (w'.heap[gb1132]? = some (.cells #[.slice A0_0 l0_0.length c0_0,.slice A0_1 l0_1.length c0_1,.slice A0_2 l0_2.length c0_2] 27 (0,0))) ∧ (w'.heap[gb1133]? = some (.cells #[.slice none 0 0,.slice none 0 0,.slice none 0 0] 27 (0,0))) ∧ (w'.heap[s_.2]? = some (.cells #[.slice none 0 0,.slice none 0 0,.slice none 0 0] 27 (0,0))) ∧ (w.heap.size ≤ s_.2) ∧ (w.heap.size ≤ s_.2) ∧ (gb1132 ≠ s_.2) ∧ (s_.2 ≠ gb1132) ∧ (gb1133 ≠ s_.2) ∧ (s_.2 ≠ gb1133) ∧ (Below w.heap.size w w')) ?_ ?_
            rotate_left
            ·intro hJ4_9
             refine join_ (σ := Value) 6 (ba_ 11 103) (fun s_ => [(6,s_)]) (fun s_ w' => (w'.cell? ⟨gb1132,0,none⟩ = some (.slice A0_0 l0_0.length c0_0) ∧ w'.cell? ⟨gb1132,1,none⟩ = some (.slice A0_1 l0_1.length c0_1) ∧ w'.cell? ⟨gb1132,2,none⟩ = some (.slice A0_2 l0_2.length c0_2)) ∧ (Kd.R (Kd.int .i64) 3 w' w.heap.size (fun _ => True) s_ y1134) ∧ (w'.heap[gb1132]? = some (.cells #[.slice A0_0 l0_0.length c0_0,.slice A0_1 l0_1.length c0_1,.slice A0_2 l0_2.length c0_2] 27 (0,0))) ∧ (w'.heap[gb1133]? = some (.cells #[.slice none 0 0,.slice none 0 0,.slice none 0 0] 27 (0,0))) ∧ (Below w.heap.size w w')) ?_ ?_
             rotate_left
             ·intro hJ0
              refine join_ (σ := Value) 6 (ba_ 11 118) (fun s_ => [(10,s_)]) (fun s_ w' => (w'.cell? ⟨gb1132,0,none⟩ = some (.slice A0_0 l0_0.length c0_0) ∧ w'.cell? ⟨gb1132,1,none⟩ = some (.slice A0_1 l0_1.length c0_1) ∧ w'.cell? ⟨gb1132,2,none⟩ = some (.slice A0_2 l0_2.length c0_2)) ∧ (Kd.R (Kd.int .i64) 3 w' w.heap.size (fun _ => True) s_ y1140) ∧ (w'.heap[gb1132]? = some (.cells #[.slice A0_0 l0_0.length c0_0,.slice A0_1 l0_1.length c0_1,.slice A0_2 l0_2.length c0_2] 27 (0,0))) ∧ (w'.heap[gb1133]? = some (.cells #[.slice none 0 0,.slice none 0 0,.slice none 0 0] 27 (0,0))) ∧ (Below w.heap.size w w')) ?_ ?_
              rotate_left
              ·intro hJ4
               refine join_ (σ := Nat) 6 (ba_ 11 614) (fun s_ => [(3,.pointer (some ⟨s_,0,none⟩))]) (fun s_ w' => (w'.cell? ⟨gb1132,0,none⟩ = some (.slice A0_0 l0_0.length c0_0) ∧ w'.cell? ⟨gb1132,1,none⟩ = some (.slice A0_1 l0_1.length c0_1) ∧ w'.cell? ⟨gb1132,2,none⟩ = some (.slice A0_2 l0_2.length c0_2)) ∧ (w'.heap[gb1132]? = some (.cells #[.slice A0_0 l0_0.length c0_0,.slice A0_1 l0_1.length c0_1,.slice A0_2 l0_2.length c0_2] 27 (0,0))) ∧ (w'.heap[gb1133]? = some (.cells #[.slice none 0 0,.slice none 0 0,.slice none 0 0] 27 (0,0))) ∧ (w'.heap[s_]? = some (.cells #[.slice none 0 0,.slice none 0 0,.slice none 0 0] 27 (0,0))) ∧ (w.heap.size ≤ s_) ∧ (w.heap.size ≤ s_) ∧ (gb1132 ≠ s_) ∧ (s_ ≠ gb1132) ∧ (gb1133 ≠ s_) ∧ (s_ ≠ gb1133) ∧ (Below w.heap.size w w')) ?_ ?_
               rotate_left
               ·intro hJ9
                refine three_ (i := 0) (j := 4) (k := 9) (Ni := some 6) (Nj := some 10) (Nk := some 3) (ba_ 11 103) (ba_ 11 118) (ba_ 11 614) rfl rfl rfl rfl rfl rfl (three_of HT_.out (by kernel_rfl)) (by decide) (by decide) (by decide) (fun K hK => ?_) (fun K hK => ?_) (fun K hK => ?_)
                ·skip
                 refine Kd.R_lit_step (Kd.int .i64) _ 3 ?hg (N := 6) ?hd (xs := ([] : List Int)) (inner := []) (ok := fun _ => True) (okp := fun _ => True) ?hr ?hp (fun _ hk => hk) trivial (Below.refl _ _) (Nat.le_refl _) (by simp) ?_;(case hd => rfl);(case hg => rfl);(case hr => first | (go_simp;done) | (go_simp;rfl));(case hp => exact (Reps.none _ _))
                 intro v1135 w7 ho8 hb hg_ hnew_
                 clear hg_ hnew_
                 (first | rw [← Ny1134.out] at ho8 | (simp only [Int.reduceToNat] at ho8;rw [← Ny1134.out] at ho8))
                 have n0_ := Aside0.mk (Kd.R_lower ho8 (bs_ HB))
                 have n1_ := tK_ BK1132 hb
                 have n2_ := tK_ BK1133 hb
                 have n3_ := tB_ HB hb
                 clear BK1132
                 clear BK1133
                 clear HB
                 have HO1136 := n0_
                 have BK1132 := n1_
                 have BK1133 := n2_
                 have HB := n3_
                 clear n0_ n1_ n2_ n3_
                 clear hb ho8
                 refine hK.out _ _ ⟨(blk_cell BK1132.out 0).trans rfl,(blk_cell BK1132.out 1).trans rfl,(blk_cell BK1132.out 2).trans rfl⟩ (fun hHeld => ?_)
                 clear hK K
                 refine norm_ (a' := ?_) ?_ ?_
                 rotate_left
                 ·show Act.put _ (some 6) _ = _
                  simp only [Act.put,List.setIfInBounds_toArray,List.set_cons_zero,List.set_cons_succ,i64_w,i32_w]
                  rfl
                 exact norm_ (by first | (simp only [putAll,Act.put,List.setIfInBounds_toArray,List.set_cons_zero,List.set_cons_succ];done) | (simp only [putAll,Act.put,List.setIfInBounds_toArray,List.set_cons_zero,List.set_cons_succ];rfl)) (hJ0 (v1135) _ ⟨hHeld,(rx_ HO1136.out),(kx_ BK1132.out),(kx_ BK1133.out),((bl_ HB).out)⟩)
                ·skip
                 refine Kd.R_lit_step (Kd.int .i64) _ 3 ?hg (N := 10) ?hd (xs := ([] : List Int)) (inner := []) (ok := fun _ => True) (okp := fun _ => True) ?hr ?hp (fun _ hk => hk) trivial (Below.refl _ _) (Nat.le_refl _) (by simp) ?_;(case hd => rfl);(case hg => rfl);(case hr => first | (go_simp;done) | (go_simp;rfl));(case hp => exact (Reps.none _ _))
                 intro v1141 w7 ho8 hb hg_ hnew_
                 clear hg_ hnew_
                 (first | rw [← Ny1140.out] at ho8 | (simp only [Int.reduceToNat] at ho8;rw [← Ny1140.out] at ho8))
                 have n0_ := Aside0.mk (Kd.R_lower ho8 (bs_ HB))
                 have n1_ := tK_ BK1132 hb
                 have n2_ := tK_ BK1133 hb
                 have n3_ := tB_ HB hb
                 clear BK1132
                 clear BK1133
                 clear HB
                 have HO1142 := n0_
                 have BK1132 := n1_
                 have BK1133 := n2_
                 have HB := n3_
                 clear n0_ n1_ n2_ n3_
                 clear hb ho8
                 refine hK.out _ _ ⟨(blk_cell BK1132.out 0).trans rfl,(blk_cell BK1132.out 1).trans rfl,(blk_cell BK1132.out 2).trans rfl⟩ (fun hHeld => ?_)
                 clear hK K
                 refine norm_ (a' := ?_) ?_ ?_
                 rotate_left
                 ·show Act.put _ (some 10) _ = _
                  simp only [Act.put,List.setIfInBounds_toArray,List.set_cons_zero,List.set_cons_succ,i64_w,i32_w]
                  rfl
                 exact norm_ (by first | (simp only [putAll,Act.put,List.setIfInBounds_toArray,List.set_cons_zero,List.set_cons_succ];done) | (simp only [putAll,Act.put,List.setIfInBounds_toArray,List.set_cons_zero,List.set_cons_succ];rfl)) (hJ4 (v1141) _ ⟨hHeld,(rx_ HO1142.out),(kx_ BK1132.out),(kx_ BK1133.out),((bl_ HB).out)⟩)
                ·skip
                 refine box_step ?hg (N := 3) ?hd (cs := #[.slice none 0 0,.slice none 0 0,.slice none 0 0]) (t := 27) ?hr ?_;(case hd => rfl);(case hg => rfl);(case hr => first | (go_simp;done) | (go_simp;rfl))
                 intro gb1146 hg w7 hbox hb
                 have n0_ := tK_ BK1132 hb
                 have n1_ := tK_ BK1133 hb
                 have n2_ := tB_ HB hb
                 have n3_ := Aside0.mk (hbox)
                 have n4_ := Aside0.mk ((by rw [hg];exact (bs_ HB) : w.heap.size ≤ gb1146))
                 have n5_ := Aside0.mk ((by rw [hg];exact (bs_ HB) : w.heap.size ≤ gb1146))
                 have n6_ := Aside0.mk ((by rw [hg];exact Nat.ne_of_lt (blk_lt (g := gb1132) (o := .cells #[.slice A0_0 l0_0.length c0_0,.slice A0_1 l0_1.length c0_1,.slice A0_2 l0_2.length c0_2] 27 (0,0)) (kx_ BK1132.out)) : gb1132 ≠ gb1146))
                 have n7_ := Aside0.mk ((by rw [hg];exact Nat.ne_of_gt (blk_lt (g := gb1132) (o := .cells #[.slice A0_0 l0_0.length c0_0,.slice A0_1 l0_1.length c0_1,.slice A0_2 l0_2.length c0_2] 27 (0,0)) (kx_ BK1132.out)) : gb1146 ≠ gb1132))
                 have n8_ := Aside0.mk ((by rw [hg];exact Nat.ne_of_lt (blk_lt (g := gb1133) (o := .cells #[.slice none 0 0,.slice none 0 0,.slice none 0 0] 27 (0,0)) (kx_ BK1133.out)) : gb1133 ≠ gb1146))
                 have n9_ := Aside0.mk ((by rw [hg];exact Nat.ne_of_gt (blk_lt (g := gb1133) (o := .cells #[.slice none 0 0,.slice none 0 0,.slice none 0 0] 27 (0,0)) (kx_ BK1133.out)) : gb1146 ≠ gb1133))
                 clear BK1132
                 clear BK1133
                 clear HB
                 have BK1132 := n0_
                 have BK1133 := n1_
                 have HB := n2_
                 have BK1146 := n3_
                 have GW1146 := n4_
                 have GE1146 := n5_
                 have NB1132_1146 := n6_
                 have NB1146_1132 := n7_
                 have NB1133_1146 := n8_
                 have NB1146_1133 := n9_
                 clear n0_ n1_ n2_ n3_ n4_ n5_ n6_ n7_ n8_ n9_
                 clear hb hbox hg
                 refine hK.out _ _ ⟨(blk_cell BK1132.out 0).trans rfl,(blk_cell BK1132.out 1).trans rfl,(blk_cell BK1132.out 2).trans rfl⟩ (fun hHeld => ?_)
                 clear hK K
                 refine norm_ (a' := ?_) ?_ ?_
                 rotate_left
                 ·show Act.put _ (some 3) _ = _
                  simp only [Act.put,List.setIfInBounds_toArray,List.set_cons_zero,List.set_cons_succ,i64_w,i32_w]
                  rfl
                 exact norm_ (by first | (simp only [putAll,Act.put,List.setIfInBounds_toArray,List.set_cons_zero,List.set_cons_succ];done) | (simp only [putAll,Act.put,List.setIfInBounds_toArray,List.set_cons_zero,List.set_cons_succ];rfl)) (hJ9 (gb1146) _ ⟨hHeld,(kx_ BK1132.out),(kx_ BK1133.out),(kx_ BK1146.out),GW1146.out,GE1146.out,NB1132_1146.out,NB1146_1132.out,NB1133_1146.out,NB1146_1133.out,((bl_ HB).out)⟩)
               ·skip
                rintro gb1146 w8 ⟨hS_,h0_,h1_,h2_,h3_,h4_,h5_,h6_,h7_,h8_,h9_⟩
                have n0_ : Aside0 (w8.heap[gb1132]? = some (.cells #[.slice A0_0 l0_0.length c0_0,.slice A0_1 l0_1.length c0_1,.slice A0_2 l0_2.length c0_2] 27 (0,0))) := ⟨h0_⟩
                have n1_ : Aside0 (w8.heap[gb1133]? = some (.cells #[.slice none 0 0,.slice none 0 0,.slice none 0 0] 27 (0,0))) := ⟨h1_⟩
                have n2_ : Aside0 (w8.heap[gb1146]? = some (.cells #[.slice none 0 0,.slice none 0 0,.slice none 0 0] 27 (0,0))) := ⟨h2_⟩
                have n3_ : Aside0 (w.heap.size ≤ gb1146) := ⟨h3_⟩
                have n4_ : Aside0 (w.heap.size ≤ gb1146) := ⟨h4_⟩
                have n5_ : Aside0 (gb1132 ≠ gb1146) := ⟨h5_⟩
                have n6_ : Aside0 (gb1146 ≠ gb1132) := ⟨h6_⟩
                have n7_ : Aside0 (gb1133 ≠ gb1146) := ⟨h7_⟩
                have n8_ : Aside0 (gb1146 ≠ gb1133) := ⟨h8_⟩
                have n9_ : Aside0 (Below w.heap.size w w8) := ⟨h9_⟩
                clear BK1132
                clear BK1133
                clear HB
                clear h0_ h1_ h2_ h3_ h4_ h5_ h6_ h7_ h8_ h9_
                have BK1132 := n0_
                have BK1133 := n1_
                have BK1146 := n2_
                have GW1146 := n3_
                have GE1146 := n4_
                have NB1132_1146 := n5_
                have NB1146_1132 := n6_
                have NB1133_1146 := n7_
                have NB1146_1133 := n8_
                have HB := n9_
                clear n0_ n1_ n2_ n3_ n4_ n5_ n6_ n7_ n8_ n9_
                have hHeld : w8.cell? ⟨gb1132,0,none⟩ = some (.slice A0_0 l0_0.length c0_0) ∧ w8.cell? ⟨gb1132,1,none⟩ = some (.slice A0_1 l0_1.length c0_1) ∧ w8.cell? ⟨gb1132,2,none⟩ = some (.slice A0_2 l0_2.length c0_2) := hS_
                refine norm_ (a' := ?_) ?_ ?_
                rotate_left
                ·simp only [putAll,Act.put,List.setIfInBounds_toArray,List.set_cons_zero,List.set_cons_succ]
                 rfl
                refine two_ (i := 0) (j := 4) (Ni := some 6) (Nj := some 10) (ba_ 11 615) (ba_ 11 630) rfl rfl rfl rfl (two_of HT_.out (by kernel_rfl)) (by decide) (by decide) (fun K hK => ?_) (fun K hK => ?_)
                ·skip
                 refine Kd.R_lit_step (Kd.int .i64) _ 3 ?hg (N := 6) ?hd (xs := ([] : List Int)) (inner := []) (ok := fun _ => True) (okp := fun _ => True) ?hr ?hp (fun _ hk => hk) trivial (Below.refl _ _) (Nat.le_refl _) (by simp) ?_;(case hd => rfl);(case hg => rfl);(case hr => first | (go_simp;done) | (go_simp;rfl));(case hp => exact (Reps.none _ _))
                 intro v1135 w9 ho10 hb hg_ hnew_
                 clear hg_ hnew_
                 (first | rw [← Ny1134.out] at ho10 | (simp only [Int.reduceToNat] at ho10;rw [← Ny1134.out] at ho10))
                 have n0_ := Aside0.mk (Kd.R_lower ho10 (bs_ HB))
                 have n1_ := tK_ BK1132 hb
                 have n2_ := tK_ BK1133 hb
                 have n3_ := tK_ BK1146 hb
                 have n4_ := tB_ HB hb
                 clear BK1132
                 clear BK1133
                 clear BK1146
                 clear HB
                 have HO1136 := n0_
                 have BK1132 := n1_
                 have BK1133 := n2_
                 have BK1146 := n3_
                 have HB := n4_
                 clear n0_ n1_ n2_ n3_ n4_
                 clear hb ho10
                 refine hK.out _ _ ⟨(blk_cell BK1132.out 0).trans rfl,(blk_cell BK1132.out 1).trans rfl,(blk_cell BK1132.out 2).trans rfl⟩ (fun hHeld => ?_)
                 clear hK K
                 refine norm_ (a' := ?_) ?_ ?_
                 rotate_left
                 ·show Act.put _ (some 6) _ = _
                  simp only [Act.put,List.setIfInBounds_toArray,List.set_cons_zero,List.set_cons_succ,i64_w,i32_w]
                  rfl
                 exact norm_ (by first | (simp only [putAll,Act.put,List.setIfInBounds_toArray,List.set_cons_zero,List.set_cons_succ];done) | (simp only [putAll,Act.put,List.setIfInBounds_toArray,List.set_cons_zero,List.set_cons_succ];rfl)) (hJ0_9 (v1135,gb1146) _ ⟨hHeld,(rx_ HO1136.out),(kx_ BK1132.out),(kx_ BK1133.out),(kx_ BK1146.out),GW1146.out,GE1146.out,NB1132_1146.out,NB1146_1132.out,NB1133_1146.out,NB1146_1133.out,((bl_ HB).out)⟩)
                ·skip
                 refine Kd.R_lit_step (Kd.int .i64) _ 3 ?hg (N := 10) ?hd (xs := ([] : List Int)) (inner := []) (ok := fun _ => True) (okp := fun _ => True) ?hr ?hp (fun _ hk => hk) trivial (Below.refl _ _) (Nat.le_refl _) (by simp) ?_;(case hd => rfl);(case hg => rfl);(case hr => first | (go_simp;done) | (go_simp;rfl));(case hp => exact (Reps.none _ _))
                 intro v1141 w9 ho10 hb hg_ hnew_
                 clear hg_ hnew_
                 (first | rw [← Ny1140.out] at ho10 | (simp only [Int.reduceToNat] at ho10;rw [← Ny1140.out] at ho10))
                 have n0_ := Aside0.mk (Kd.R_lower ho10 (bs_ HB))
                 have n1_ := tK_ BK1132 hb
                 have n2_ := tK_ BK1133 hb
                 have n3_ := tK_ BK1146 hb
                 have n4_ := tB_ HB hb
                 clear BK1132
                 clear BK1133
                 clear BK1146
                 clear HB
                 have HO1142 := n0_
                 have BK1132 := n1_
                 have BK1133 := n2_
                 have BK1146 := n3_
                 have HB := n4_
                 clear n0_ n1_ n2_ n3_ n4_
                 clear hb ho10
                 refine hK.out _ _ ⟨(blk_cell BK1132.out 0).trans rfl,(blk_cell BK1132.out 1).trans rfl,(blk_cell BK1132.out 2).trans rfl⟩ (fun hHeld => ?_)
                 clear hK K
                 refine norm_ (a' := ?_) ?_ ?_
                 rotate_left
                 ·show Act.put _ (some 10) _ = _
                  simp only [Act.put,List.setIfInBounds_toArray,List.set_cons_zero,List.set_cons_succ,i64_w,i32_w]
                  rfl
                 exact norm_ (by first | (simp only [putAll,Act.put,List.setIfInBounds_toArray,List.set_cons_zero,List.set_cons_succ];done) | (simp only [putAll,Act.put,List.setIfInBounds_toArray,List.set_cons_zero,List.set_cons_succ];rfl)) (hJ4_9 (v1141,gb1146) _ ⟨hHeld,(rx_ HO1142.out),(kx_ BK1132.out),(kx_ BK1133.out),(kx_ BK1146.out),GW1146.out,GE1146.out,NB1132_1146.out,NB1146_1132.out,NB1133_1146.out,NB1146_1133.out,((bl_ HB).out)⟩)
              ·skip
               rintro v1141 w9 ⟨hS_,h0_,h1_,h2_,h3_⟩
               have n0_ : Aside0 (Kd.R (Kd.int .i64) 3 w9 w.heap.size (fun _ => True) v1141 y1140) := ⟨h0_⟩
               have n1_ : Aside0 (w9.heap[gb1132]? = some (.cells #[.slice A0_0 l0_0.length c0_0,.slice A0_1 l0_1.length c0_1,.slice A0_2 l0_2.length c0_2] 27 (0,0))) := ⟨h1_⟩
               have n2_ : Aside0 (w9.heap[gb1133]? = some (.cells #[.slice none 0 0,.slice none 0 0,.slice none 0 0] 27 (0,0))) := ⟨h2_⟩
               have n3_ : Aside0 (Below w.heap.size w w9) := ⟨h3_⟩
               clear BK1132
               clear BK1133
               clear HB
               clear h0_ h1_ h2_ h3_
               have HO1142 := n0_
               have BK1132 := n1_
               have BK1133 := n2_
               have HB := n3_
               clear n0_ n1_ n2_ n3_
               have hHeld : w9.cell? ⟨gb1132,0,none⟩ = some (.slice A0_0 l0_0.length c0_0) ∧ w9.cell? ⟨gb1132,1,none⟩ = some (.slice A0_1 l0_1.length c0_1) ∧ w9.cell? ⟨gb1132,2,none⟩ = some (.slice A0_2 l0_2.length c0_2) := hS_
               refine norm_ (a' := ?_) ?_ ?_
               rotate_left
               ·simp only [putAll,Act.put,List.setIfInBounds_toArray,List.set_cons_zero,List.set_cons_succ]
                rfl
               refine two_ (i := 0) (j := 9) (Ni := some 6) (Nj := some 3) (ba_ 11 119) (ba_ 11 630) rfl rfl rfl rfl (two_of HT_.out (by kernel_rfl)) (by decide) (by decide) (fun K hK => ?_) (fun K hK => ?_)
               ·skip
                refine Kd.R_lit_step (Kd.int .i64) _ 3 ?hg (N := 6) ?hd (xs := ([] : List Int)) (inner := []) (ok := fun _ => True) (okp := fun _ => True) ?hr ?hp (fun _ hk => hk) trivial (Below.refl _ _) (Nat.le_refl _) (by simp) ?_;(case hd => rfl);(case hg => rfl);(case hr => first | (go_simp;done) | (go_simp;rfl));(case hp => exact (Reps.none _ _))
                intro v1135 w10 ho11 hb hg_ hnew_
                clear hg_ hnew_
                (first | rw [← Ny1134.out] at ho11 | (simp only [Int.reduceToNat] at ho11;rw [← Ny1134.out] at ho11))
                have n0_ := Aside0.mk (Kd.R_elder' (rx_ HO1142.out) (Kd.R_base ho11) hb)
                have n1_ := Aside0.mk (Kd.R_lower (Kd.R_new' ho11 (Kd.R_lt (rx_ HO1142.out))) (bs_ HB))
                have n2_ := tK_ BK1132 hb
                have n3_ := tK_ BK1133 hb
                have n4_ := tB_ HB hb
                clear HO1142
                clear BK1132
                clear BK1133
                clear HB
                have HO1142 := n0_
                have HO1136 := n1_
                have BK1132 := n2_
                have BK1133 := n3_
                have HB := n4_
                clear n0_ n1_ n2_ n3_ n4_
                clear hb ho11
                refine hK.out _ _ ⟨(blk_cell BK1132.out 0).trans rfl,(blk_cell BK1132.out 1).trans rfl,(blk_cell BK1132.out 2).trans rfl⟩ (fun hHeld => ?_)
                clear hK K
                refine norm_ (a' := ?_) ?_ ?_
                rotate_left
                ·show Act.put _ (some 6) _ = _
                 simp only [Act.put,List.setIfInBounds_toArray,List.set_cons_zero,List.set_cons_succ,i64_w,i32_w]
                 rfl
                exact norm_ (by first | (simp only [putAll,Act.put,List.setIfInBounds_toArray,List.set_cons_zero,List.set_cons_succ];done) | (simp only [putAll,Act.put,List.setIfInBounds_toArray,List.set_cons_zero,List.set_cons_succ];rfl)) (hJ0_4 (v1135,v1141) _ ⟨hHeld,(rx_ (Kd.R_mono HO1136.out (fun _ hk => hk.2))),(rx_ (Kd.R_mono HO1142.out (fun _ hk => hk.2))),(kx_ BK1132.out),(kx_ BK1133.out),((bl_ HB).out)⟩)
               ·skip
                refine box_step ?hg (N := 3) ?hd (cs := #[.slice none 0 0,.slice none 0 0,.slice none 0 0]) (t := 27) ?hr ?_;(case hd => rfl);(case hg => rfl);(case hr => first | (go_simp;done) | (go_simp;rfl))
                intro gb1146 hg w10 hbox hb
                have n0_ := tR_ HO1142 hb
                have n1_ := tK_ BK1132 hb
                have n2_ := tK_ BK1133 hb
                have n3_ := tB_ HB hb
                have n4_ := Aside0.mk (hbox)
                have n5_ := Aside0.mk ((by rw [hg];exact (bs_ HB) : w.heap.size ≤ gb1146))
                have n6_ := Aside0.mk ((by rw [hg];exact (bs_ HB) : w.heap.size ≤ gb1146))
                have n7_ := Aside0.mk ((by rw [hg];exact Nat.ne_of_lt (blk_lt (g := gb1132) (o := .cells #[.slice A0_0 l0_0.length c0_0,.slice A0_1 l0_1.length c0_1,.slice A0_2 l0_2.length c0_2] 27 (0,0)) (kx_ BK1132.out)) : gb1132 ≠ gb1146))
                have n8_ := Aside0.mk ((by rw [hg];exact Nat.ne_of_gt (blk_lt (g := gb1132) (o := .cells #[.slice A0_0 l0_0.length c0_0,.slice A0_1 l0_1.length c0_1,.slice A0_2 l0_2.length c0_2] 27 (0,0)) (kx_ BK1132.out)) : gb1146 ≠ gb1132))
                have n9_ := Aside0.mk ((by rw [hg];exact Nat.ne_of_lt (blk_lt (g := gb1133) (o := .cells #[.slice none 0 0,.slice none 0 0,.slice none 0 0] 27 (0,0)) (kx_ BK1133.out)) : gb1133 ≠ gb1146))
                have n10_ := Aside0.mk ((by rw [hg];exact Nat.ne_of_gt (blk_lt (g := gb1133) (o := .cells #[.slice none 0 0,.slice none 0 0,.slice none 0 0] 27 (0,0)) (kx_ BK1133.out)) : gb1146 ≠ gb1133))
                clear HO1142
                clear BK1132
                clear BK1133
                clear HB
                have HO1142 := n0_
                have BK1132 := n1_
                have BK1133 := n2_
                have HB := n3_
                have BK1146 := n4_
                have GW1146 := n5_
                have GE1146 := n6_
                have NB1132_1146 := n7_
                have NB1146_1132 := n8_
                have NB1133_1146 := n9_
                have NB1146_1133 := n10_
                clear n0_ n1_ n2_ n3_ n4_ n5_ n6_ n7_ n8_ n9_ n10_
                clear hb hbox hg
                refine hK.out _ _ ⟨(blk_cell BK1132.out 0).trans rfl,(blk_cell BK1132.out 1).trans rfl,(blk_cell BK1132.out 2).trans rfl⟩ (fun hHeld => ?_)
                clear hK K
                refine norm_ (a' := ?_) ?_ ?_
                rotate_left
                ·show Act.put _ (some 3) _ = _
                 simp only [Act.put,List.setIfInBounds_toArray,List.set_cons_zero,List.set_cons_succ,i64_w,i32_w]
                 rfl
                exact norm_ (by first | (simp only [putAll,Act.put,List.setIfInBounds_toArray,List.set_cons_zero,List.set_cons_succ];done) | (simp only [putAll,Act.put,List.setIfInBounds_toArray,List.set_cons_zero,List.set_cons_succ];rfl)) (hJ4_9 (v1141,gb1146) _ ⟨hHeld,(rx_ HO1142.out),(kx_ BK1132.out),(kx_ BK1133.out),(kx_ BK1146.out),GW1146.out,GE1146.out,NB1132_1146.out,NB1146_1132.out,NB1133_1146.out,NB1146_1133.out,((bl_ HB).out)⟩)
             ·skip
              rintro v1135 w9 ⟨hS_,h0_,h1_,h2_,h3_⟩
              have n0_ : Aside0 (Kd.R (Kd.int .i64) 3 w9 w.heap.size (fun _ => True) v1135 y1134) := ⟨h0_⟩
              have n1_ : Aside0 (w9.heap[gb1132]? = some (.cells #[.slice A0_0 l0_0.length c0_0,.slice A0_1 l0_1.length c0_1,.slice A0_2 l0_2.length c0_2] 27 (0,0))) := ⟨h1_⟩
              have n2_ : Aside0 (w9.heap[gb1133]? = some (.cells #[.slice none 0 0,.slice none 0 0,.slice none 0 0] 27 (0,0))) := ⟨h2_⟩
              have n3_ : Aside0 (Below w.heap.size w w9) := ⟨h3_⟩
              clear BK1132
              clear BK1133
              clear HB
              clear h0_ h1_ h2_ h3_
              have HO1136 := n0_
              have BK1132 := n1_
              have BK1133 := n2_
              have HB := n3_
              clear n0_ n1_ n2_ n3_
              have hHeld : w9.cell? ⟨gb1132,0,none⟩ = some (.slice A0_0 l0_0.length c0_0) ∧ w9.cell? ⟨gb1132,1,none⟩ = some (.slice A0_1 l0_1.length c0_1) ∧ w9.cell? ⟨gb1132,2,none⟩ = some (.slice A0_2 l0_2.length c0_2) := hS_
              refine norm_ (a' := ?_) ?_ ?_
              rotate_left
              ·simp only [putAll,Act.put,List.setIfInBounds_toArray,List.set_cons_zero,List.set_cons_succ]
               rfl
              refine three_ (i := 3) (j := 4) (k := 9) (Ni := some 9) (Nj := some 10) (Nk := some 3) (ba_ 11 111) (ba_ 11 119) (ba_ 11 615) rfl rfl rfl rfl rfl rfl (three_of HT_.out (by kernel_rfl)) (by decide) (by decide) (by decide) (fun K hK => ?_) (fun K hK => ?_) (fun K hK => ?_)
              ·skip
               refine Kd.R_append_rows_step (Kd.int .i64) (w0 := w) w.heap.size (by rfl) (.tmp 6) (.tmp 8) 25 3 (.int .i64 0) 8 rfl Try.underlying25 info3 rfl (by decide) (by omega) v1135 y1134 l0_1 _ _ _ (fun _ => True) (fun _ => False) rfl rfl ?aO ?aR (fun _ _ h => h) (fun _ h => h.elim) ?aF ?aB ?aS ?aL ?_
               (case aR => exact cx_ HR0_1 HB)
               (case aB => exact ((bl_ HB).out))
               (case aF => exact (fun _ _ => trivial))
               (case aO => exact (rx_ HO1136.out))
               (case aS => exact (bs_ HB))
               (case aL => have := LMc2.out;omega)
               intro v1138 w10 ho hb hg hat
               rw [← Ny1137.out] at ho
               have n0_ := Aside0.mk (blk_grown (g := gb1132) (o := .cells #[.slice A0_0 l0_0.length c0_0,.slice A0_1 l0_1.length c0_1,.slice A0_2 l0_2.length c0_2] 27 (0,0)) (kx_ BK1132.out) hg (Kd.R_ne HO1136.out BK1132.out (by decide)))
               have n1_ := Aside0.mk (blk_grown (g := gb1133) (o := .cells #[.slice none 0 0,.slice none 0 0,.slice none 0 0] 27 (0,0)) (kx_ BK1133.out) hg (Kd.R_ne HO1136.out BK1133.out (by decide)))
               have n2_ := Aside0.mk (hb)
               have n3_ := Aside0.mk (ho)
               clear BK1132
               clear BK1133
               clear HB
               clear HO1136
               have BK1132 := n0_
               have BK1133 := n1_
               have HB := n2_
               have HO1139 := n3_
               clear n0_ n1_ n2_ n3_
               clear ho hb hg hat
               refine hK.out _ _ ⟨(blk_cell BK1132.out 0).trans rfl,(blk_cell BK1132.out 1).trans rfl,(blk_cell BK1132.out 2).trans rfl⟩ (fun hHeld => ?_)
               clear hK K
               refine norm_ (a' := ?_) ?_ ?_
               rotate_left
               ·show Act.put _ (some 9) _ = _
                simp only [Act.put,List.setIfInBounds_toArray,List.set_cons_zero,List.set_cons_succ,i64_w,i32_w]
                rfl
               exact norm_ (by first | (simp only [putAll,Act.put,List.setIfInBounds_toArray,List.set_cons_zero,List.set_cons_succ];done) | (simp only [putAll,Act.put,List.setIfInBounds_toArray,List.set_cons_zero,List.set_cons_succ];rfl)) (hJ0_3 (v1135,v1138) _ ⟨hHeld,(rx_ HO1139.out),(kx_ BK1132.out),(kx_ BK1133.out),((bl_ HB).out)⟩)
              ·skip
               refine Kd.R_lit_step (Kd.int .i64) _ 3 ?hg (N := 10) ?hd (xs := ([] : List Int)) (inner := []) (ok := fun _ => True) (okp := fun _ => True) ?hr ?hp (fun _ hk => hk) trivial (Below.refl _ _) (Nat.le_refl _) (by simp) ?_;(case hd => rfl);(case hg => rfl);(case hr => first | (go_simp;done) | (go_simp;rfl));(case hp => exact (Reps.none _ _))
               intro v1141 w10 ho11 hb hg_ hnew_
               clear hg_ hnew_
               (first | rw [← Ny1140.out] at ho11 | (simp only [Int.reduceToNat] at ho11;rw [← Ny1140.out] at ho11))
               have n0_ := Aside0.mk (Kd.R_elder' (rx_ HO1136.out) (Kd.R_base ho11) hb)
               have n1_ := Aside0.mk (Kd.R_lower (Kd.R_new' ho11 (Kd.R_lt (rx_ HO1136.out))) (bs_ HB))
               have n2_ := tK_ BK1132 hb
               have n3_ := tK_ BK1133 hb
               have n4_ := tB_ HB hb
               clear HO1136
               clear BK1132
               clear BK1133
               clear HB
               have HO1136 := n0_
               have HO1142 := n1_
               have BK1132 := n2_
               have BK1133 := n3_
               have HB := n4_
               clear n0_ n1_ n2_ n3_ n4_
               clear hb ho11
               refine hK.out _ _ ⟨(blk_cell BK1132.out 0).trans rfl,(blk_cell BK1132.out 1).trans rfl,(blk_cell BK1132.out 2).trans rfl⟩ (fun hHeld => ?_)
               clear hK K
               refine norm_ (a' := ?_) ?_ ?_
               rotate_left
               ·show Act.put _ (some 10) _ = _
                simp only [Act.put,List.setIfInBounds_toArray,List.set_cons_zero,List.set_cons_succ,i64_w,i32_w]
                rfl
               exact norm_ (by first | (simp only [putAll,Act.put,List.setIfInBounds_toArray,List.set_cons_zero,List.set_cons_succ];done) | (simp only [putAll,Act.put,List.setIfInBounds_toArray,List.set_cons_zero,List.set_cons_succ];rfl)) (hJ0_4 (v1135,v1141) _ ⟨hHeld,(rx_ (Kd.R_mono HO1136.out (fun _ hk => hk.2))),(rx_ (Kd.R_mono HO1142.out (fun _ hk => hk.2))),(kx_ BK1132.out),(kx_ BK1133.out),((bl_ HB).out)⟩)
              ·skip
               refine box_step ?hg (N := 3) ?hd (cs := #[.slice none 0 0,.slice none 0 0,.slice none 0 0]) (t := 27) ?hr ?_;(case hd => rfl);(case hg => rfl);(case hr => first | (go_simp;done) | (go_simp;rfl))
               intro gb1146 hg w10 hbox hb
               have n0_ := tR_ HO1136 hb
               have n1_ := tK_ BK1132 hb
               have n2_ := tK_ BK1133 hb
               have n3_ := tB_ HB hb
               have n4_ := Aside0.mk (hbox)
               have n5_ := Aside0.mk ((by rw [hg];exact (bs_ HB) : w.heap.size ≤ gb1146))
               have n6_ := Aside0.mk ((by rw [hg];exact (bs_ HB) : w.heap.size ≤ gb1146))
               have n7_ := Aside0.mk ((by rw [hg];exact Nat.ne_of_lt (blk_lt (g := gb1132) (o := .cells #[.slice A0_0 l0_0.length c0_0,.slice A0_1 l0_1.length c0_1,.slice A0_2 l0_2.length c0_2] 27 (0,0)) (kx_ BK1132.out)) : gb1132 ≠ gb1146))
               have n8_ := Aside0.mk ((by rw [hg];exact Nat.ne_of_gt (blk_lt (g := gb1132) (o := .cells #[.slice A0_0 l0_0.length c0_0,.slice A0_1 l0_1.length c0_1,.slice A0_2 l0_2.length c0_2] 27 (0,0)) (kx_ BK1132.out)) : gb1146 ≠ gb1132))
               have n9_ := Aside0.mk ((by rw [hg];exact Nat.ne_of_lt (blk_lt (g := gb1133) (o := .cells #[.slice none 0 0,.slice none 0 0,.slice none 0 0] 27 (0,0)) (kx_ BK1133.out)) : gb1133 ≠ gb1146))
               have n10_ := Aside0.mk ((by rw [hg];exact Nat.ne_of_gt (blk_lt (g := gb1133) (o := .cells #[.slice none 0 0,.slice none 0 0,.slice none 0 0] 27 (0,0)) (kx_ BK1133.out)) : gb1146 ≠ gb1133))
               clear HO1136
               clear BK1132
               clear BK1133
               clear HB
               have HO1136 := n0_
               have BK1132 := n1_
               have BK1133 := n2_
               have HB := n3_
               have BK1146 := n4_
               have GW1146 := n5_
               have GE1146 := n6_
               have NB1132_1146 := n7_
               have NB1146_1132 := n8_
               have NB1133_1146 := n9_
               have NB1146_1133 := n10_
               clear n0_ n1_ n2_ n3_ n4_ n5_ n6_ n7_ n8_ n9_ n10_
               clear hb hbox hg
               refine hK.out _ _ ⟨(blk_cell BK1132.out 0).trans rfl,(blk_cell BK1132.out 1).trans rfl,(blk_cell BK1132.out 2).trans rfl⟩ (fun hHeld => ?_)
               clear hK K
               refine norm_ (a' := ?_) ?_ ?_
               rotate_left
               ·show Act.put _ (some 3) _ = _
                simp only [Act.put,List.setIfInBounds_toArray,List.set_cons_zero,List.set_cons_succ,i64_w,i32_w]
                rfl
               exact norm_ (by first | (simp only [putAll,Act.put,List.setIfInBounds_toArray,List.set_cons_zero,List.set_cons_succ];done) | (simp only [putAll,Act.put,List.setIfInBounds_toArray,List.set_cons_zero,List.set_cons_succ];rfl)) (hJ0_9 (v1135,gb1146) _ ⟨hHeld,(rx_ HO1136.out),(kx_ BK1132.out),(kx_ BK1133.out),(kx_ BK1146.out),GW1146.out,GE1146.out,NB1132_1146.out,NB1146_1132.out,NB1133_1146.out,NB1146_1133.out,((bl_ HB).out)⟩)
            ·skip
             rintro ⟨v1141,gb1146⟩ w10 ⟨hS_,h0_,h1_,h2_,h3_,h4_,h5_,h6_,h7_,h8_,h9_,h10_⟩
             have n0_ : Aside0 (Kd.R (Kd.int .i64) 3 w10 w.heap.size (fun _ => True) v1141 y1140) := ⟨h0_⟩
             have n1_ : Aside0 (w10.heap[gb1132]? = some (.cells #[.slice A0_0 l0_0.length c0_0,.slice A0_1 l0_1.length c0_1,.slice A0_2 l0_2.length c0_2] 27 (0,0))) := ⟨h1_⟩
             have n2_ : Aside0 (w10.heap[gb1133]? = some (.cells #[.slice none 0 0,.slice none 0 0,.slice none 0 0] 27 (0,0))) := ⟨h2_⟩
             have n3_ : Aside0 (w10.heap[gb1146]? = some (.cells #[.slice none 0 0,.slice none 0 0,.slice none 0 0] 27 (0,0))) := ⟨h3_⟩
             have n4_ : Aside0 (w.heap.size ≤ gb1146) := ⟨h4_⟩
             have n5_ : Aside0 (w.heap.size ≤ gb1146) := ⟨h5_⟩
             have n6_ : Aside0 (gb1132 ≠ gb1146) := ⟨h6_⟩
             have n7_ : Aside0 (gb1146 ≠ gb1132) := ⟨h7_⟩
             have n8_ : Aside0 (gb1133 ≠ gb1146) := ⟨h8_⟩
             have n9_ : Aside0 (gb1146 ≠ gb1133) := ⟨h9_⟩
             have n10_ : Aside0 (Below w.heap.size w w10) := ⟨h10_⟩
             clear BK1132
             clear BK1133
             clear HB
             clear h0_ h1_ h2_ h3_ h4_ h5_ h6_ h7_ h8_ h9_ h10_
             have HO1142 := n0_
             have BK1132 := n1_
             have BK1133 := n2_
             have BK1146 := n3_
             have GW1146 := n4_
             have GE1146 := n5_
             have NB1132_1146 := n6_
             have NB1146_1132 := n7_
             have NB1133_1146 := n8_
             have NB1146_1133 := n9_
             have HB := n10_
             clear n0_ n1_ n2_ n3_ n4_ n5_ n6_ n7_ n8_ n9_ n10_
             have hHeld : w10.cell? ⟨gb1132,0,none⟩ = some (.slice A0_0 l0_0.length c0_0) ∧ w10.cell? ⟨gb1132,1,none⟩ = some (.slice A0_1 l0_1.length c0_1) ∧ w10.cell? ⟨gb1132,2,none⟩ = some (.slice A0_2 l0_2.length c0_2) := hS_
             refine norm_ (a' := ?_) ?_ ?_
             rotate_left
             ·simp only [putAll,Act.put,List.setIfInBounds_toArray,List.set_cons_zero,List.set_cons_succ]
              rfl
             refine one_ (i := 0) (N := some 6) (ba_ 11 631) rfl rfl (one_of HT_.out (by kernel_rfl)) (by decide) (fun K hK => ?_)
             refine Kd.R_lit_step (Kd.int .i64) _ 3 ?hg (N := 6) ?hd (xs := ([] : List Int)) (inner := []) (ok := fun _ => True) (okp := fun _ => True) ?hr ?hp (fun _ hk => hk) trivial (Below.refl _ _) (Nat.le_refl _) (by simp) ?_;(case hd => rfl);(case hg => rfl);(case hr => first | (go_simp;done) | (go_simp;rfl));(case hp => exact (Reps.none _ _))
             intro v1135 w11 ho12 hb hg_ hnew_
             clear hg_ hnew_
             (first | rw [← Ny1134.out] at ho12 | (simp only [Int.reduceToNat] at ho12;rw [← Ny1134.out] at ho12))
             have n0_ := Aside0.mk (Kd.R_elder' (rx_ HO1142.out) (Kd.R_base ho12) hb)
             have n1_ := Aside0.mk (Kd.R_lower (Kd.R_new' ho12 (Kd.R_lt (rx_ HO1142.out))) (bs_ HB))
             have n2_ := tK_ BK1132 hb
             have n3_ := tK_ BK1133 hb
             have n4_ := tK_ BK1146 hb
             have n5_ := tB_ HB hb
             clear HO1142
             clear BK1132
             clear BK1133
             clear BK1146
             clear HB
             have HO1142 := n0_
             have HO1136 := n1_
             have BK1132 := n2_
             have BK1133 := n3_
             have BK1146 := n4_
             have HB := n5_
             clear n0_ n1_ n2_ n3_ n4_ n5_
             clear hb ho12
             refine hK.out _ _ ⟨(blk_cell BK1132.out 0).trans rfl,(blk_cell BK1132.out 1).trans rfl,(blk_cell BK1132.out 2).trans rfl⟩ (fun hHeld => ?_)
             clear hK K
             refine norm_ (a' := ?_) ?_ ?_
             rotate_left
             ·show Act.put _ (some 6) _ = _
              simp only [Act.put,List.setIfInBounds_toArray,List.set_cons_zero,List.set_cons_succ,i64_w,i32_w]
              rfl
             exact norm_ (by first | (simp only [putAll,Act.put,List.setIfInBounds_toArray,List.set_cons_zero,List.set_cons_succ];done) | (simp only [putAll,Act.put,List.setIfInBounds_toArray,List.set_cons_zero,List.set_cons_succ];rfl)) (hJ0_4_9 (v1135,v1141,gb1146) _ ⟨hHeld,(rx_ (Kd.R_mono HO1136.out (fun _ hk => hk.2))),(rx_ (Kd.R_mono HO1142.out (fun _ hk => hk.2))),(kx_ BK1132.out),(kx_ BK1133.out),(kx_ BK1146.out),GW1146.out,GE1146.out,NB1132_1146.out,NB1146_1132.out,NB1133_1146.out,NB1146_1133.out,((bl_ HB).out)⟩)
           ·skip
            rintro ⟨v1135,gb1146⟩ w10 ⟨hS_,h0_,h1_,h2_,h3_,h4_,h5_,h6_,h7_,h8_,h9_,h10_⟩
            have n0_ : Aside0 (Kd.R (Kd.int .i64) 3 w10 w.heap.size (fun _ => True) v1135 y1134) := ⟨h0_⟩
            have n1_ : Aside0 (w10.heap[gb1132]? = some (.cells #[.slice A0_0 l0_0.length c0_0,.slice A0_1 l0_1.length c0_1,.slice A0_2 l0_2.length c0_2] 27 (0,0))) := ⟨h1_⟩
            have n2_ : Aside0 (w10.heap[gb1133]? = some (.cells #[.slice none 0 0,.slice none 0 0,.slice none 0 0] 27 (0,0))) := ⟨h2_⟩
            have n3_ : Aside0 (w10.heap[gb1146]? = some (.cells #[.slice none 0 0,.slice none 0 0,.slice none 0 0] 27 (0,0))) := ⟨h3_⟩
            have n4_ : Aside0 (w.heap.size ≤ gb1146) := ⟨h4_⟩
            have n5_ : Aside0 (w.heap.size ≤ gb1146) := ⟨h5_⟩
            have n6_ : Aside0 (gb1132 ≠ gb1146) := ⟨h6_⟩
            have n7_ : Aside0 (gb1146 ≠ gb1132) := ⟨h7_⟩
            have n8_ : Aside0 (gb1133 ≠ gb1146) := ⟨h8_⟩
            have n9_ : Aside0 (gb1146 ≠ gb1133) := ⟨h9_⟩
            have n10_ : Aside0 (Below w.heap.size w w10) := ⟨h10_⟩
            clear BK1132
            clear BK1133
            clear HB
            clear h0_ h1_ h2_ h3_ h4_ h5_ h6_ h7_ h8_ h9_ h10_
            have HO1136 := n0_
            have BK1132 := n1_
            have BK1133 := n2_
            have BK1146 := n3_
            have GW1146 := n4_
            have GE1146 := n5_
            have NB1132_1146 := n6_
            have NB1146_1132 := n7_
            have NB1133_1146 := n8_
            have NB1146_1133 := n9_
            have HB := n10_
            clear n0_ n1_ n2_ n3_ n4_ n5_ n6_ n7_ n8_ n9_ n10_
            have hHeld : w10.cell? ⟨gb1132,0,none⟩ = some (.slice A0_0 l0_0.length c0_0) ∧ w10.cell? ⟨gb1132,1,none⟩ = some (.slice A0_1 l0_1.length c0_1) ∧ w10.cell? ⟨gb1132,2,none⟩ = some (.slice A0_2 l0_2.length c0_2) := hS_
            refine norm_ (a' := ?_) ?_ ?_
            rotate_left
            ·simp only [putAll,Act.put,List.setIfInBounds_toArray,List.set_cons_zero,List.set_cons_succ]
             rfl
            refine two_ (i := 3) (j := 4) (Ni := some 9) (Nj := some 10) (ba_ 11 623) (ba_ 11 631) rfl rfl rfl rfl (two_of HT_.out (by kernel_rfl)) (by decide) (by decide) (fun K hK => ?_) (fun K hK => ?_)
            ·skip
             refine Kd.R_append_rows_step (Kd.int .i64) (w0 := w) w.heap.size (by rfl) (.tmp 6) (.tmp 8) 25 3 (.int .i64 0) 8 rfl Try.underlying25 info3 rfl (by decide) (by omega) v1135 y1134 l0_1 _ _ _ (fun _ => True) (fun _ => False) rfl rfl ?aO ?aR (fun _ _ h => h) (fun _ h => h.elim) ?aF ?aB ?aS ?aL ?_
             (case aR => exact cx_ HR0_1 HB)
             (case aB => exact ((bl_ HB).out))
             (case aF => exact (fun _ _ => trivial))
             (case aO => exact (rx_ HO1136.out))
             (case aS => exact (bs_ HB))
             (case aL => have := LMc2.out;omega)
             intro v1138 w11 ho hb hg hat
             rw [← Ny1137.out] at ho
             have n0_ := Aside0.mk (blk_grown (g := gb1132) (o := .cells #[.slice A0_0 l0_0.length c0_0,.slice A0_1 l0_1.length c0_1,.slice A0_2 l0_2.length c0_2] 27 (0,0)) (kx_ BK1132.out) hg (Kd.R_ne HO1136.out BK1132.out (by decide)))
             have n1_ := Aside0.mk (blk_grown (g := gb1133) (o := .cells #[.slice none 0 0,.slice none 0 0,.slice none 0 0] 27 (0,0)) (kx_ BK1133.out) hg (Kd.R_ne HO1136.out BK1133.out (by decide)))
             have n2_ := Aside0.mk (blk_grown (g := gb1146) (o := .cells #[.slice none 0 0,.slice none 0 0,.slice none 0 0] 27 (0,0)) (kx_ BK1146.out) hg (Kd.R_ne HO1136.out BK1146.out (by decide)))
             have n3_ := Aside0.mk (hb)
             have n4_ := Aside0.mk (ho)
             clear BK1132
             clear BK1133
             clear BK1146
             clear HB
             clear HO1136
             have BK1132 := n0_
             have BK1133 := n1_
             have BK1146 := n2_
             have HB := n3_
             have HO1139 := n4_
             clear n0_ n1_ n2_ n3_ n4_
             clear ho hb hg hat
             refine hK.out _ _ ⟨(blk_cell BK1132.out 0).trans rfl,(blk_cell BK1132.out 1).trans rfl,(blk_cell BK1132.out 2).trans rfl⟩ (fun hHeld => ?_)
             clear hK K
             refine norm_ (a' := ?_) ?_ ?_
             rotate_left
             ·show Act.put _ (some 9) _ = _
              simp only [Act.put,List.setIfInBounds_toArray,List.set_cons_zero,List.set_cons_succ,i64_w,i32_w]
              rfl
             exact norm_ (by first | (simp only [putAll,Act.put,List.setIfInBounds_toArray,List.set_cons_zero,List.set_cons_succ];done) | (simp only [putAll,Act.put,List.setIfInBounds_toArray,List.set_cons_zero,List.set_cons_succ];rfl)) (hJ0_3_9 (v1135,v1138,gb1146) _ ⟨hHeld,(rx_ HO1139.out),(kx_ BK1132.out),(kx_ BK1133.out),(kx_ BK1146.out),GW1146.out,GE1146.out,NB1132_1146.out,NB1146_1132.out,NB1133_1146.out,NB1146_1133.out,((bl_ HB).out)⟩)
            ·skip
             refine Kd.R_lit_step (Kd.int .i64) _ 3 ?hg (N := 10) ?hd (xs := ([] : List Int)) (inner := []) (ok := fun _ => True) (okp := fun _ => True) ?hr ?hp (fun _ hk => hk) trivial (Below.refl _ _) (Nat.le_refl _) (by simp) ?_;(case hd => rfl);(case hg => rfl);(case hr => first | (go_simp;done) | (go_simp;rfl));(case hp => exact (Reps.none _ _))
             intro v1141 w11 ho12 hb hg_ hnew_
             clear hg_ hnew_
             (first | rw [← Ny1140.out] at ho12 | (simp only [Int.reduceToNat] at ho12;rw [← Ny1140.out] at ho12))
             have n0_ := Aside0.mk (Kd.R_elder' (rx_ HO1136.out) (Kd.R_base ho12) hb)
             have n1_ := Aside0.mk (Kd.R_lower (Kd.R_new' ho12 (Kd.R_lt (rx_ HO1136.out))) (bs_ HB))
             have n2_ := tK_ BK1132 hb
             have n3_ := tK_ BK1133 hb
             have n4_ := tK_ BK1146 hb
             have n5_ := tB_ HB hb
             clear HO1136
             clear BK1132
             clear BK1133
             clear BK1146
             clear HB
             have HO1136 := n0_
             have HO1142 := n1_
             have BK1132 := n2_
             have BK1133 := n3_
             have BK1146 := n4_
             have HB := n5_
             clear n0_ n1_ n2_ n3_ n4_ n5_
             clear hb ho12
             refine hK.out _ _ ⟨(blk_cell BK1132.out 0).trans rfl,(blk_cell BK1132.out 1).trans rfl,(blk_cell BK1132.out 2).trans rfl⟩ (fun hHeld => ?_)
             clear hK K
             refine norm_ (a' := ?_) ?_ ?_
             rotate_left
             ·show Act.put _ (some 10) _ = _
              simp only [Act.put,List.setIfInBounds_toArray,List.set_cons_zero,List.set_cons_succ,i64_w,i32_w]
              rfl
             exact norm_ (by first | (simp only [putAll,Act.put,List.setIfInBounds_toArray,List.set_cons_zero,List.set_cons_succ];done) | (simp only [putAll,Act.put,List.setIfInBounds_toArray,List.set_cons_zero,List.set_cons_succ];rfl)) (hJ0_4_9 (v1135,v1141,gb1146) _ ⟨hHeld,(rx_ (Kd.R_mono HO1136.out (fun _ hk => hk.2))),(rx_ (Kd.R_mono HO1142.out (fun _ hk => hk.2))),(kx_ BK1132.out),(kx_ BK1133.out),(kx_ BK1146.out),GW1146.out,GE1146.out,NB1132_1146.out,NB1146_1132.out,NB1133_1146.out,NB1146_1133.out,((bl_ HB).out)⟩)
          ·skip
           rintro ⟨v1135,v1141⟩ w11 ⟨hS_,h0_,h1_,h2_,h3_,h4_⟩
           have n0_ : Aside0 (Kd.R (Kd.int .i64) 3 w11 w.heap.size (fun k_ => some k_ ≠ (v1141 : Value).ownBlock) v1135 y1134) := ⟨h0_⟩
           have n1_ : Aside0 (Kd.R (Kd.int .i64) 3 w11 w.heap.size (fun k_ => some k_ ≠ (v1135 : Value).ownBlock) v1141 y1140) := ⟨h1_⟩
           have n2_ : Aside0 (w11.heap[gb1132]? = some (.cells #[.slice A0_0 l0_0.length c0_0,.slice A0_1 l0_1.length c0_1,.slice A0_2 l0_2.length c0_2] 27 (0,0))) := ⟨h2_⟩
           have n3_ : Aside0 (w11.heap[gb1133]? = some (.cells #[.slice none 0 0,.slice none 0 0,.slice none 0 0] 27 (0,0))) := ⟨h3_⟩
           have n4_ : Aside0 (Below w.heap.size w w11) := ⟨h4_⟩
           clear BK1132
           clear BK1133
           clear HB
           clear h0_ h1_ h2_ h3_ h4_
           have HO1136 := n0_
           have HO1142 := n1_
           have BK1132 := n2_
           have BK1133 := n3_
           have HB := n4_
           clear n0_ n1_ n2_ n3_ n4_
           have hHeld : w11.cell? ⟨gb1132,0,none⟩ = some (.slice A0_0 l0_0.length c0_0) ∧ w11.cell? ⟨gb1132,1,none⟩ = some (.slice A0_1 l0_1.length c0_1) ∧ w11.cell? ⟨gb1132,2,none⟩ = some (.slice A0_2 l0_2.length c0_2) := hS_
           refine norm_ (a' := ?_) ?_ ?_
           rotate_left
           ·simp only [putAll,Act.put,List.setIfInBounds_toArray,List.set_cons_zero,List.set_cons_succ]
            rfl
           refine two_ (i := 3) (j := 9) (Ni := some 9) (Nj := some 3) (ba_ 11 127) (ba_ 11 631) rfl rfl rfl rfl (two_of HT_.out (by kernel_rfl)) (by decide) (by decide) (fun K hK => ?_) (fun K hK => ?_)
           ·skip
            refine Kd.R_append_rows_step (Kd.int .i64) (w0 := w) w.heap.size (by rfl) (.tmp 6) (.tmp 8) 25 3 (.int .i64 0) 8 rfl Try.underlying25 info3 rfl (by decide) (by omega) v1135 y1134 l0_1 _ _ _ (fun k_ => some k_ ≠ (v1141 : Value).ownBlock) (fun _ => False) rfl rfl ?aO ?aR (fun _ _ h => h) (fun _ h => h.elim) ?aF ?aB ?aS ?aL ?_
            (case aR => exact cx_ HR0_1 HB)
            (case aB => exact ((bl_ HB).out))
            (case aF => exact (fun k_ hk => Kd.fresh' (Kd.R_lt (rx_ HO1142.out)) k_ hk))
            (case aO => exact (rx_ HO1136.out))
            (case aS => exact (bs_ HB))
            (case aL => have := LMc2.out;omega)
            intro v1138 w12 ho hb hg hat
            rw [← Ny1137.out] at ho
            have n0_ := Aside0.mk (blk_grown (g := gb1132) (o := .cells #[.slice A0_0 l0_0.length c0_0,.slice A0_1 l0_1.length c0_1,.slice A0_2 l0_2.length c0_2] 27 (0,0)) (kx_ BK1132.out) hg (Kd.R_ne HO1136.out BK1132.out (by decide)))
            have n1_ := Aside0.mk (blk_grown (g := gb1133) (o := .cells #[.slice none 0 0,.slice none 0 0,.slice none 0 0] 27 (0,0)) (kx_ BK1133.out) hg (Kd.R_ne HO1136.out BK1133.out (by decide)))
            have n2_ := Aside0.mk (Kd.R_after (ok := (fun _ => True)) (rx_ (Kd.R_mono HO1142.out (fun _ hk => ⟨trivial,hk⟩))) hg hat)
            have n3_ := Aside0.mk (hb)
            have n4_ := Aside0.mk (ho)
            clear BK1132
            clear BK1133
            clear HO1142
            clear HB
            clear HO1136
            have BK1132 := n0_
            have BK1133 := n1_
            have HO1142 := n2_
            have HB := n3_
            have HO1139 := n4_
            clear n0_ n1_ n2_ n3_ n4_
            clear ho hb hg hat
            refine hK.out _ _ ⟨(blk_cell BK1132.out 0).trans rfl,(blk_cell BK1132.out 1).trans rfl,(blk_cell BK1132.out 2).trans rfl⟩ (fun hHeld => ?_)
            clear hK K
            refine norm_ (a' := ?_) ?_ ?_
            rotate_left
            ·show Act.put _ (some 9) _ = _
             simp only [Act.put,List.setIfInBounds_toArray,List.set_cons_zero,List.set_cons_succ,i64_w,i32_w]
             rfl
            exact norm_ (by first | (simp only [putAll,Act.put,List.setIfInBounds_toArray,List.set_cons_zero,List.set_cons_succ];done) | (simp only [putAll,Act.put,List.setIfInBounds_toArray,List.set_cons_zero,List.set_cons_succ];rfl)) (hJ0_3_4 (v1135,v1138,v1141) _ ⟨hHeld,(rx_ HO1139.out),(rx_ (Kd.R_mono HO1142.out (fun _ hk => hk.2))),(kx_ BK1132.out),(kx_ BK1133.out),((bl_ HB).out)⟩)
           ·skip
            refine box_step ?hg (N := 3) ?hd (cs := #[.slice none 0 0,.slice none 0 0,.slice none 0 0]) (t := 27) ?hr ?_;(case hd => rfl);(case hg => rfl);(case hr => first | (go_simp;done) | (go_simp;rfl))
            intro gb1146 hg w12 hbox hb
            have n0_ := tR_ HO1136 hb
            have n1_ := tR_ HO1142 hb
            have n2_ := tK_ BK1132 hb
            have n3_ := tK_ BK1133 hb
            have n4_ := tB_ HB hb
            have n5_ := Aside0.mk (hbox)
            have n6_ := Aside0.mk ((by rw [hg];exact (bs_ HB) : w.heap.size ≤ gb1146))
            have n7_ := Aside0.mk ((by rw [hg];exact (bs_ HB) : w.heap.size ≤ gb1146))
            have n8_ := Aside0.mk ((by rw [hg];exact Nat.ne_of_lt (blk_lt (g := gb1132) (o := .cells #[.slice A0_0 l0_0.length c0_0,.slice A0_1 l0_1.length c0_1,.slice A0_2 l0_2.length c0_2] 27 (0,0)) (kx_ BK1132.out)) : gb1132 ≠ gb1146))
            have n9_ := Aside0.mk ((by rw [hg];exact Nat.ne_of_gt (blk_lt (g := gb1132) (o := .cells #[.slice A0_0 l0_0.length c0_0,.slice A0_1 l0_1.length c0_1,.slice A0_2 l0_2.length c0_2] 27 (0,0)) (kx_ BK1132.out)) : gb1146 ≠ gb1132))
            have n10_ := Aside0.mk ((by rw [hg];exact Nat.ne_of_lt (blk_lt (g := gb1133) (o := .cells #[.slice none 0 0,.slice none 0 0,.slice none 0 0] 27 (0,0)) (kx_ BK1133.out)) : gb1133 ≠ gb1146))
            have n11_ := Aside0.mk ((by rw [hg];exact Nat.ne_of_gt (blk_lt (g := gb1133) (o := .cells #[.slice none 0 0,.slice none 0 0,.slice none 0 0] 27 (0,0)) (kx_ BK1133.out)) : gb1146 ≠ gb1133))
            clear HO1136
            clear HO1142
            clear BK1132
            clear BK1133
            clear HB
            have HO1136 := n0_
            have HO1142 := n1_
            have BK1132 := n2_
            have BK1133 := n3_
            have HB := n4_
            have BK1146 := n5_
            have GW1146 := n6_
            have GE1146 := n7_
            have NB1132_1146 := n8_
            have NB1146_1132 := n9_
            have NB1133_1146 := n10_
            have NB1146_1133 := n11_
            clear n0_ n1_ n2_ n3_ n4_ n5_ n6_ n7_ n8_ n9_ n10_ n11_
            clear hb hbox hg
            refine hK.out _ _ ⟨(blk_cell BK1132.out 0).trans rfl,(blk_cell BK1132.out 1).trans rfl,(blk_cell BK1132.out 2).trans rfl⟩ (fun hHeld => ?_)
            clear hK K
            refine norm_ (a' := ?_) ?_ ?_
            rotate_left
            ·show Act.put _ (some 3) _ = _
             simp only [Act.put,List.setIfInBounds_toArray,List.set_cons_zero,List.set_cons_succ,i64_w,i32_w]
             rfl
            exact norm_ (by first | (simp only [putAll,Act.put,List.setIfInBounds_toArray,List.set_cons_zero,List.set_cons_succ];done) | (simp only [putAll,Act.put,List.setIfInBounds_toArray,List.set_cons_zero,List.set_cons_succ];rfl)) (hJ0_4_9 (v1135,v1141,gb1146) _ ⟨hHeld,(rx_ HO1136.out),(rx_ HO1142.out),(kx_ BK1132.out),(kx_ BK1133.out),(kx_ BK1146.out),GW1146.out,GE1146.out,NB1132_1146.out,NB1146_1132.out,NB1133_1146.out,NB1146_1133.out,((bl_ HB).out)⟩)
         ·skip
          rintro ⟨v1135,v1138⟩ w10 ⟨hS_,h0_,h1_,h2_,h3_⟩
          have n0_ : Aside0 (Kd.R (Kd.int .i64) 3 w10 w.heap.size (fun _ => True) v1138 y1137) := ⟨h0_⟩
          have n1_ : Aside0 (w10.heap[gb1132]? = some (.cells #[.slice A0_0 l0_0.length c0_0,.slice A0_1 l0_1.length c0_1,.slice A0_2 l0_2.length c0_2] 27 (0,0))) := ⟨h1_⟩
          have n2_ : Aside0 (w10.heap[gb1133]? = some (.cells #[.slice none 0 0,.slice none 0 0,.slice none 0 0] 27 (0,0))) := ⟨h2_⟩
          have n3_ : Aside0 (Below w.heap.size w w10) := ⟨h3_⟩
          clear BK1132
          clear BK1133
          clear HB
          clear h0_ h1_ h2_ h3_
          have HO1139 := n0_
          have BK1132 := n1_
          have BK1133 := n2_
          have HB := n3_
          clear n0_ n1_ n2_ n3_
          have hHeld : w10.cell? ⟨gb1132,0,none⟩ = some (.slice A0_0 l0_0.length c0_0) ∧ w10.cell? ⟨gb1132,1,none⟩ = some (.slice A0_1 l0_1.length c0_1) ∧ w10.cell? ⟨gb1132,2,none⟩ = some (.slice A0_2 l0_2.length c0_2) := hS_
          refine norm_ (a' := ?_) ?_ ?_
          rotate_left
          ·simp only [putAll,Act.put,List.setIfInBounds_toArray,List.set_cons_zero,List.set_cons_succ]
           rfl
          refine two_ (i := 4) (j := 9) (Ni := some 10) (Nj := some 3) (ba_ 11 127) (ba_ 11 623) rfl rfl rfl rfl (two_of HT_.out (by kernel_rfl)) (by decide) (by decide) (fun K hK => ?_) (fun K hK => ?_)
          ·skip
           refine Kd.R_lit_step (Kd.int .i64) _ 3 ?hg (N := 10) ?hd (xs := ([] : List Int)) (inner := []) (ok := fun _ => True) (okp := fun _ => True) ?hr ?hp (fun _ hk => hk) trivial (Below.refl _ _) (Nat.le_refl _) (by simp) ?_;(case hd => rfl);(case hg => rfl);(case hr => first | (go_simp;done) | (go_simp;rfl));(case hp => exact (Reps.none _ _))
           intro v1141 w11 ho12 hb hg_ hnew_
           clear hg_ hnew_
           (first | rw [← Ny1140.out] at ho12 | (simp only [Int.reduceToNat] at ho12;rw [← Ny1140.out] at ho12))
           have n0_ := Aside0.mk (Kd.R_elder' (rx_ HO1139.out) (Kd.R_base ho12) hb)
           have n1_ := Aside0.mk (Kd.R_lower (Kd.R_new' ho12 (Kd.R_lt (rx_ HO1139.out))) (bs_ HB))
           have n2_ := tK_ BK1132 hb
           have n3_ := tK_ BK1133 hb
           have n4_ := tB_ HB hb
           clear HO1139
           clear BK1132
           clear BK1133
           clear HB
           have HO1139 := n0_
           have HO1142 := n1_
           have BK1132 := n2_
           have BK1133 := n3_
           have HB := n4_
           clear n0_ n1_ n2_ n3_ n4_
           clear hb ho12
           refine hK.out _ _ ⟨(blk_cell BK1132.out 0).trans rfl,(blk_cell BK1132.out 1).trans rfl,(blk_cell BK1132.out 2).trans rfl⟩ (fun hHeld => ?_)
           clear hK K
           refine norm_ (a' := ?_) ?_ ?_
           rotate_left
           ·show Act.put _ (some 10) _ = _
            simp only [Act.put,List.setIfInBounds_toArray,List.set_cons_zero,List.set_cons_succ,i64_w,i32_w]
            rfl
           exact norm_ (by first | (simp only [putAll,Act.put,List.setIfInBounds_toArray,List.set_cons_zero,List.set_cons_succ];done) | (simp only [putAll,Act.put,List.setIfInBounds_toArray,List.set_cons_zero,List.set_cons_succ];rfl)) (hJ0_3_4 (v1135,v1138,v1141) _ ⟨hHeld,(rx_ (Kd.R_mono HO1139.out (fun _ hk => hk.2))),(rx_ (Kd.R_mono HO1142.out (fun _ hk => hk.2))),(kx_ BK1132.out),(kx_ BK1133.out),((bl_ HB).out)⟩)
          ·skip
           refine box_step ?hg (N := 3) ?hd (cs := #[.slice none 0 0,.slice none 0 0,.slice none 0 0]) (t := 27) ?hr ?_;(case hd => rfl);(case hg => rfl);(case hr => first | (go_simp;done) | (go_simp;rfl))
           intro gb1146 hg w11 hbox hb
           have n0_ := tR_ HO1139 hb
           have n1_ := tK_ BK1132 hb
           have n2_ := tK_ BK1133 hb
           have n3_ := tB_ HB hb
           have n4_ := Aside0.mk (hbox)
           have n5_ := Aside0.mk ((by rw [hg];exact (bs_ HB) : w.heap.size ≤ gb1146))
           have n6_ := Aside0.mk ((by rw [hg];exact (bs_ HB) : w.heap.size ≤ gb1146))
           have n7_ := Aside0.mk ((by rw [hg];exact Nat.ne_of_lt (blk_lt (g := gb1132) (o := .cells #[.slice A0_0 l0_0.length c0_0,.slice A0_1 l0_1.length c0_1,.slice A0_2 l0_2.length c0_2] 27 (0,0)) (kx_ BK1132.out)) : gb1132 ≠ gb1146))
           have n8_ := Aside0.mk ((by rw [hg];exact Nat.ne_of_gt (blk_lt (g := gb1132) (o := .cells #[.slice A0_0 l0_0.length c0_0,.slice A0_1 l0_1.length c0_1,.slice A0_2 l0_2.length c0_2] 27 (0,0)) (kx_ BK1132.out)) : gb1146 ≠ gb1132))
           have n9_ := Aside0.mk ((by rw [hg];exact Nat.ne_of_lt (blk_lt (g := gb1133) (o := .cells #[.slice none 0 0,.slice none 0 0,.slice none 0 0] 27 (0,0)) (kx_ BK1133.out)) : gb1133 ≠ gb1146))
           have n10_ := Aside0.mk ((by rw [hg];exact Nat.ne_of_gt (blk_lt (g := gb1133) (o := .cells #[.slice none 0 0,.slice none 0 0,.slice none 0 0] 27 (0,0)) (kx_ BK1133.out)) : gb1146 ≠ gb1133))
           clear HO1139
           clear BK1132
           clear BK1133
           clear HB
           have HO1139 := n0_
           have BK1132 := n1_
           have BK1133 := n2_
           have HB := n3_
           have BK1146 := n4_
           have GW1146 := n5_
           have GE1146 := n6_
           have NB1132_1146 := n7_
           have NB1146_1132 := n8_
           have NB1133_1146 := n9_
           have NB1146_1133 := n10_
           clear n0_ n1_ n2_ n3_ n4_ n5_ n6_ n7_ n8_ n9_ n10_
           clear hb hbox hg
           refine hK.out _ _ ⟨(blk_cell BK1132.out 0).trans rfl,(blk_cell BK1132.out 1).trans rfl,(blk_cell BK1132.out 2).trans rfl⟩ (fun hHeld => ?_)
           clear hK K
           refine norm_ (a' := ?_) ?_ ?_
           rotate_left
           ·show Act.put _ (some 3) _ = _
            simp only [Act.put,List.setIfInBounds_toArray,List.set_cons_zero,List.set_cons_succ,i64_w,i32_w]
            rfl
           exact norm_ (by first | (simp only [putAll,Act.put,List.setIfInBounds_toArray,List.set_cons_zero,List.set_cons_succ];done) | (simp only [putAll,Act.put,List.setIfInBounds_toArray,List.set_cons_zero,List.set_cons_succ];rfl)) (hJ0_3_9 (v1135,v1138,gb1146) _ ⟨hHeld,(rx_ HO1139.out),(kx_ BK1132.out),(kx_ BK1133.out),(kx_ BK1146.out),GW1146.out,GE1146.out,NB1132_1146.out,NB1146_1132.out,NB1133_1146.out,NB1146_1133.out,((bl_ HB).out)⟩)
        ·skip
         rintro ⟨v1135,v1141,gb1146⟩ w12 ⟨hS_,h0_,h1_,h2_,h3_,h4_,h5_,h6_,h7_,h8_,h9_,h10_,h11_⟩
         have n0_ : Aside0 (Kd.R (Kd.int .i64) 3 w12 w.heap.size (fun k_ => some k_ ≠ (v1141 : Value).ownBlock) v1135 y1134) := ⟨h0_⟩
         have n1_ : Aside0 (Kd.R (Kd.int .i64) 3 w12 w.heap.size (fun k_ => some k_ ≠ (v1135 : Value).ownBlock) v1141 y1140) := ⟨h1_⟩
         have n2_ : Aside0 (w12.heap[gb1132]? = some (.cells #[.slice A0_0 l0_0.length c0_0,.slice A0_1 l0_1.length c0_1,.slice A0_2 l0_2.length c0_2] 27 (0,0))) := ⟨h2_⟩
         have n3_ : Aside0 (w12.heap[gb1133]? = some (.cells #[.slice none 0 0,.slice none 0 0,.slice none 0 0] 27 (0,0))) := ⟨h3_⟩
         have n4_ : Aside0 (w12.heap[gb1146]? = some (.cells #[.slice none 0 0,.slice none 0 0,.slice none 0 0] 27 (0,0))) := ⟨h4_⟩
         have n5_ : Aside0 (w.heap.size ≤ gb1146) := ⟨h5_⟩
         have n6_ : Aside0 (w.heap.size ≤ gb1146) := ⟨h6_⟩
         have n7_ : Aside0 (gb1132 ≠ gb1146) := ⟨h7_⟩
         have n8_ : Aside0 (gb1146 ≠ gb1132) := ⟨h8_⟩
         have n9_ : Aside0 (gb1133 ≠ gb1146) := ⟨h9_⟩
         have n10_ : Aside0 (gb1146 ≠ gb1133) := ⟨h10_⟩
         have n11_ : Aside0 (Below w.heap.size w w12) := ⟨h11_⟩
         clear BK1132
         clear BK1133
         clear HB
         clear h0_ h1_ h2_ h3_ h4_ h5_ h6_ h7_ h8_ h9_ h10_ h11_
         have HO1136 := n0_
         have HO1142 := n1_
         have BK1132 := n2_
         have BK1133 := n3_
         have BK1146 := n4_
         have GW1146 := n5_
         have GE1146 := n6_
         have NB1132_1146 := n7_
         have NB1146_1132 := n8_
         have NB1133_1146 := n9_
         have NB1146_1133 := n10_
         have HB := n11_
         clear n0_ n1_ n2_ n3_ n4_ n5_ n6_ n7_ n8_ n9_ n10_ n11_
         have hHeld : w12.cell? ⟨gb1132,0,none⟩ = some (.slice A0_0 l0_0.length c0_0) ∧ w12.cell? ⟨gb1132,1,none⟩ = some (.slice A0_1 l0_1.length c0_1) ∧ w12.cell? ⟨gb1132,2,none⟩ = some (.slice A0_2 l0_2.length c0_2) := hS_
         refine norm_ (a' := ?_) ?_ ?_
         rotate_left
         ·simp only [putAll,Act.put,List.setIfInBounds_toArray,List.set_cons_zero,List.set_cons_succ]
          rfl
         refine one_ (i := 3) (N := some 9) (ba_ 11 639) rfl rfl (one_of HT_.out (by kernel_rfl)) (by decide) (fun K hK => ?_)
         refine Kd.R_append_rows_step (Kd.int .i64) (w0 := w) w.heap.size (by rfl) (.tmp 6) (.tmp 8) 25 3 (.int .i64 0) 8 rfl Try.underlying25 info3 rfl (by decide) (by omega) v1135 y1134 l0_1 _ _ _ (fun k_ => some k_ ≠ (v1141 : Value).ownBlock) (fun _ => False) rfl rfl ?aO ?aR (fun _ _ h => h) (fun _ h => h.elim) ?aF ?aB ?aS ?aL ?_
         (case aR => exact cx_ HR0_1 HB)
         (case aB => exact ((bl_ HB).out))
         (case aF => exact (fun k_ hk => Kd.fresh' (Kd.R_lt (rx_ HO1142.out)) k_ hk))
         (case aO => exact (rx_ HO1136.out))
         (case aS => exact (bs_ HB))
         (case aL => have := LMc2.out;omega)
         intro v1138 w13 ho hb hg hat
         rw [← Ny1137.out] at ho
         have n0_ := Aside0.mk (blk_grown (g := gb1132) (o := .cells #[.slice A0_0 l0_0.length c0_0,.slice A0_1 l0_1.length c0_1,.slice A0_2 l0_2.length c0_2] 27 (0,0)) (kx_ BK1132.out) hg (Kd.R_ne HO1136.out BK1132.out (by decide)))
         have n1_ := Aside0.mk (blk_grown (g := gb1133) (o := .cells #[.slice none 0 0,.slice none 0 0,.slice none 0 0] 27 (0,0)) (kx_ BK1133.out) hg (Kd.R_ne HO1136.out BK1133.out (by decide)))
         have n2_ := Aside0.mk (Kd.R_after (ok := (fun _ => True)) (rx_ (Kd.R_mono HO1142.out (fun _ hk => ⟨trivial,hk⟩))) hg hat)
         have n3_ := Aside0.mk (blk_grown (g := gb1146) (o := .cells #[.slice none 0 0,.slice none 0 0,.slice none 0 0] 27 (0,0)) (kx_ BK1146.out) hg (Kd.R_ne HO1136.out BK1146.out (by decide)))
         have n4_ := Aside0.mk (hb)
         have n5_ := Aside0.mk (ho)
         clear BK1132
         clear BK1133
         clear HO1142
         clear BK1146
         clear HB
         clear HO1136
         have BK1132 := n0_
         have BK1133 := n1_
         have HO1142 := n2_
         have BK1146 := n3_
         have HB := n4_
         have HO1139 := n5_
         clear n0_ n1_ n2_ n3_ n4_ n5_
         clear ho hb hg hat
         refine hK.out _ _ ⟨(blk_cell BK1132.out 0).trans rfl,(blk_cell BK1132.out 1).trans rfl,(blk_cell BK1132.out 2).trans rfl⟩ (fun hHeld => ?_)
         clear hK K
         refine norm_ (a' := ?_) ?_ ?_
         rotate_left
         ·show Act.put _ (some 9) _ = _
          simp only [Act.put,List.setIfInBounds_toArray,List.set_cons_zero,List.set_cons_succ,i64_w,i32_w]
          rfl
         exact norm_ (by first | (simp only [putAll,Act.put,List.setIfInBounds_toArray,List.set_cons_zero,List.set_cons_succ];done) | (simp only [putAll,Act.put,List.setIfInBounds_toArray,List.set_cons_zero,List.set_cons_succ];rfl)) (hJ0_3_4_9 (v1135,v1138,v1141,gb1146) _ ⟨hHeld,(rx_ HO1139.out),(rx_ (Kd.R_mono HO1142.out (fun _ hk => hk.2))),(kx_ BK1132.out),(kx_ BK1133.out),(kx_ BK1146.out),GW1146.out,GE1146.out,NB1132_1146.out,NB1146_1132.out,NB1133_1146.out,NB1146_1133.out,((bl_ HB).out)⟩)
       ·skip
        rintro ⟨v1135,v1138,gb1146⟩ w11 ⟨hS_,h0_,h1_,h2_,h3_,h4_,h5_,h6_,h7_,h8_,h9_,h10_⟩
        have n0_ : Aside0 (Kd.R (Kd.int .i64) 3 w11 w.heap.size (fun _ => True) v1138 y1137) := ⟨h0_⟩
        have n1_ : Aside0 (w11.heap[gb1132]? = some (.cells #[.slice A0_0 l0_0.length c0_0,.slice A0_1 l0_1.length c0_1,.slice A0_2 l0_2.length c0_2] 27 (0,0))) := ⟨h1_⟩
        have n2_ : Aside0 (w11.heap[gb1133]? = some (.cells #[.slice none 0 0,.slice none 0 0,.slice none 0 0] 27 (0,0))) := ⟨h2_⟩
        have n3_ : Aside0 (w11.heap[gb1146]? = some (.cells #[.slice none 0 0,.slice none 0 0,.slice none 0 0] 27 (0,0))) := ⟨h3_⟩
        have n4_ : Aside0 (w.heap.size ≤ gb1146) := ⟨h4_⟩
        have n5_ : Aside0 (w.heap.size ≤ gb1146) := ⟨h5_⟩
        have n6_ : Aside0 (gb1132 ≠ gb1146) := ⟨h6_⟩
        have n7_ : Aside0 (gb1146 ≠ gb1132) := ⟨h7_⟩
        have n8_ : Aside0 (gb1133 ≠ gb1146) := ⟨h8_⟩
        have n9_ : Aside0 (gb1146 ≠ gb1133) := ⟨h9_⟩
        have n10_ : Aside0 (Below w.heap.size w w11) := ⟨h10_⟩
        clear BK1132
        clear BK1133
        clear HB
        clear h0_ h1_ h2_ h3_ h4_ h5_ h6_ h7_ h8_ h9_ h10_
        have HO1139 := n0_
        have BK1132 := n1_
        have BK1133 := n2_
        have BK1146 := n3_
        have GW1146 := n4_
        have GE1146 := n5_
        have NB1132_1146 := n6_
        have NB1146_1132 := n7_
        have NB1133_1146 := n8_
        have NB1146_1133 := n9_
        have HB := n10_
        clear n0_ n1_ n2_ n3_ n4_ n5_ n6_ n7_ n8_ n9_ n10_
        have hHeld : w11.cell? ⟨gb1132,0,none⟩ = some (.slice A0_0 l0_0.length c0_0) ∧ w11.cell? ⟨gb1132,1,none⟩ = some (.slice A0_1 l0_1.length c0_1) ∧ w11.cell? ⟨gb1132,2,none⟩ = some (.slice A0_2 l0_2.length c0_2) := hS_
        refine norm_ (a' := ?_) ?_ ?_
        rotate_left
        ·simp only [putAll,Act.put,List.setIfInBounds_toArray,List.set_cons_zero,List.set_cons_succ]
         rfl
        refine one_ (i := 4) (N := some 10) (ba_ 11 639) rfl rfl (one_of HT_.out (by kernel_rfl)) (by decide) (fun K hK => ?_)
        refine Kd.R_lit_step (Kd.int .i64) _ 3 ?hg (N := 10) ?hd (xs := ([] : List Int)) (inner := []) (ok := fun _ => True) (okp := fun _ => True) ?hr ?hp (fun _ hk => hk) trivial (Below.refl _ _) (Nat.le_refl _) (by simp) ?_;(case hd => rfl);(case hg => rfl);(case hr => first | (go_simp;done) | (go_simp;rfl));(case hp => exact (Reps.none _ _))
        intro v1141 w12 ho13 hb hg_ hnew_
        clear hg_ hnew_
        (first | rw [← Ny1140.out] at ho13 | (simp only [Int.reduceToNat] at ho13;rw [← Ny1140.out] at ho13))
        have n0_ := Aside0.mk (Kd.R_elder' (rx_ HO1139.out) (Kd.R_base ho13) hb)
        have n1_ := Aside0.mk (Kd.R_lower (Kd.R_new' ho13 (Kd.R_lt (rx_ HO1139.out))) (bs_ HB))
        have n2_ := tK_ BK1132 hb
        have n3_ := tK_ BK1133 hb
        have n4_ := tK_ BK1146 hb
        have n5_ := tB_ HB hb
        clear HO1139
        clear BK1132
        clear BK1133
        clear BK1146
        clear HB
        have HO1139 := n0_
        have HO1142 := n1_
        have BK1132 := n2_
        have BK1133 := n3_
        have BK1146 := n4_
        have HB := n5_
        clear n0_ n1_ n2_ n3_ n4_ n5_
        clear hb ho13
        refine hK.out _ _ ⟨(blk_cell BK1132.out 0).trans rfl,(blk_cell BK1132.out 1).trans rfl,(blk_cell BK1132.out 2).trans rfl⟩ (fun hHeld => ?_)
        clear hK K
        refine norm_ (a' := ?_) ?_ ?_
        rotate_left
        ·show Act.put _ (some 10) _ = _
         simp only [Act.put,List.setIfInBounds_toArray,List.set_cons_zero,List.set_cons_succ,i64_w,i32_w]
         rfl
        exact norm_ (by first | (simp only [putAll,Act.put,List.setIfInBounds_toArray,List.set_cons_zero,List.set_cons_succ];done) | (simp only [putAll,Act.put,List.setIfInBounds_toArray,List.set_cons_zero,List.set_cons_succ];rfl)) (hJ0_3_4_9 (v1135,v1138,v1141,gb1146) _ ⟨hHeld,(rx_ (Kd.R_mono HO1139.out (fun _ hk => hk.2))),(rx_ (Kd.R_mono HO1142.out (fun _ hk => hk.2))),(kx_ BK1132.out),(kx_ BK1133.out),(kx_ BK1146.out),GW1146.out,GE1146.out,NB1132_1146.out,NB1146_1132.out,NB1133_1146.out,NB1146_1133.out,((bl_ HB).out)⟩)
      ·skip
       rintro ⟨v1135,v1138,v1141⟩ w12 ⟨hS_,h0_,h1_,h2_,h3_,h4_⟩
       have n0_ : Aside0 (Kd.R (Kd.int .i64) 3 w12 w.heap.size (fun k_ => some k_ ≠ (v1141 : Value).ownBlock) v1138 y1137) := ⟨h0_⟩
       have n1_ : Aside0 (Kd.R (Kd.int .i64) 3 w12 w.heap.size (fun k_ => some k_ ≠ (v1138 : Value).ownBlock) v1141 y1140) := ⟨h1_⟩
       have n2_ : Aside0 (w12.heap[gb1132]? = some (.cells #[.slice A0_0 l0_0.length c0_0,.slice A0_1 l0_1.length c0_1,.slice A0_2 l0_2.length c0_2] 27 (0,0))) := ⟨h2_⟩
       have n3_ : Aside0 (w12.heap[gb1133]? = some (.cells #[.slice none 0 0,.slice none 0 0,.slice none 0 0] 27 (0,0))) := ⟨h3_⟩
       have n4_ : Aside0 (Below w.heap.size w w12) := ⟨h4_⟩
       clear BK1132
       clear BK1133
       clear HB
       clear h0_ h1_ h2_ h3_ h4_
       have HO1139 := n0_
       have HO1142 := n1_
       have BK1132 := n2_
       have BK1133 := n3_
       have HB := n4_
       clear n0_ n1_ n2_ n3_ n4_
       have hHeld : w12.cell? ⟨gb1132,0,none⟩ = some (.slice A0_0 l0_0.length c0_0) ∧ w12.cell? ⟨gb1132,1,none⟩ = some (.slice A0_1 l0_1.length c0_1) ∧ w12.cell? ⟨gb1132,2,none⟩ = some (.slice A0_2 l0_2.length c0_2) := hS_
       refine norm_ (a' := ?_) ?_ ?_
       rotate_left
       ·simp only [putAll,Act.put,List.setIfInBounds_toArray,List.set_cons_zero,List.set_cons_succ]
        rfl
       refine two_ (i := 7) (j := 9) (Ni := some 13) (Nj := some 3) (ba_ 11 255) (ba_ 11 639) rfl rfl rfl rfl (two_of HT_.out (by kernel_rfl)) (by decide) (by decide) (fun K hK => ?_) (fun K hK => ?_)
       ·skip
        refine Kd.R_append_rows_step (Kd.int .i64) (w0 := w) w.heap.size (by rfl) (.tmp 10) (.tmp 12) 25 3 (.int .i64 0) 8 rfl Try.underlying25 info3 rfl (by decide) (by omega) v1141 y1140 l0_0 _ _ _ (fun k_ => some k_ ≠ (v1138 : Value).ownBlock) (fun _ => False) rfl rfl ?aO ?aR (fun _ _ h => h) (fun _ h => h.elim) ?aF ?aB ?aS ?aL ?_
        (case aR => exact cx_ HR0_0 HB)
        (case aB => exact ((bl_ HB).out))
        (case aF => exact (fun k_ hk => Kd.fresh' (Kd.R_lt (rx_ HO1139.out)) k_ hk))
        (case aO => exact (rx_ HO1142.out))
        (case aS => exact (bs_ HB))
        (case aL => have := LMc3.out;omega)
        intro v1144 w13 ho hb hg hat
        rw [← Ny1143.out] at ho
        have n0_ := Aside0.mk (blk_grown (g := gb1132) (o := .cells #[.slice A0_0 l0_0.length c0_0,.slice A0_1 l0_1.length c0_1,.slice A0_2 l0_2.length c0_2] 27 (0,0)) (kx_ BK1132.out) hg (Kd.R_ne HO1142.out BK1132.out (by decide)))
        have n1_ := Aside0.mk (blk_grown (g := gb1133) (o := .cells #[.slice none 0 0,.slice none 0 0,.slice none 0 0] 27 (0,0)) (kx_ BK1133.out) hg (Kd.R_ne HO1142.out BK1133.out (by decide)))
        have n2_ := Aside0.mk (Kd.R_after (ok := (fun _ => True)) (rx_ (Kd.R_mono HO1139.out (fun _ hk => ⟨trivial,hk⟩))) hg hat)
        have n3_ := Aside0.mk (hb)
        have n4_ := Aside0.mk (ho)
        clear BK1132
        clear BK1133
        clear HO1139
        clear HB
        clear HO1142
        have BK1132 := n0_
        have BK1133 := n1_
        have HO1139 := n2_
        have HB := n3_
        have HO1145 := n4_
        clear n0_ n1_ n2_ n3_ n4_
        clear ho hb hg hat
        obtain ⟨Ao14,co14,eo14⟩ := Kd.R_slice HO1145.out
        (first | subst eo14 | (injection eo14 with f1_ f2_ f3_;have f4_ := f1_.symm;have f5_ := f3_.symm;clear f1_ f2_ f3_;subst f4_;subst f5_))
        obtain ⟨Ao15,co15,eo15⟩ := Kd.R_slice HO1139.out
        (first | subst eo15 | (injection eo15 with f1_ f2_ f3_;have f4_ := f1_.symm;have f5_ := f3_.symm;clear f1_ f2_ f3_;subst f4_;subst f5_))
        refine hK.out _ _ ⟨(blk_cell BK1132.out 0).trans rfl,(blk_cell BK1132.out 1).trans rfl,(blk_cell BK1132.out 2).trans rfl⟩ (fun hHeld => ?_)
        clear hK K
        refine norm_ (a' := ?_) ?_ ?_
        rotate_left
        ·show Act.put _ (some 13) _ = _
         simp only [Act.put,List.setIfInBounds_toArray,List.set_cons_zero,List.set_cons_succ,i64_w,i32_w]
         rfl
        refine pu_ 8 (some 14) (ba_ 11 511) rfl rfl (any_of HT_.out (by kernel_rfl)) ?_
        exact norm_ (by first | (simp only [putAll,Act.put,List.setIfInBounds_toArray,List.set_cons_zero,List.set_cons_succ];done) | (simp only [putAll,Act.put,List.setIfInBounds_toArray,List.set_cons_zero,List.set_cons_succ];rfl)) (hJ0_3_4_7 (v1135,.slice Ao15 y1137.length co15,v1141,.slice Ao14 y1143.length co14) _ ⟨hHeld,(rx_ (Kd.R_mono HO1139.out (fun _ hk => hk.2))),(rx_ HO1145.out),(kx_ BK1132.out),(kx_ BK1133.out),((bl_ HB).out)⟩)
       ·skip
        refine box_step ?hg (N := 3) ?hd (cs := #[.slice none 0 0,.slice none 0 0,.slice none 0 0]) (t := 27) ?hr ?_;(case hd => rfl);(case hg => rfl);(case hr => first | (go_simp;done) | (go_simp;rfl))
        intro gb1146 hg w13 hbox hb
        have n0_ := tR_ HO1139 hb
        have n1_ := tR_ HO1142 hb
        have n2_ := tK_ BK1132 hb
        have n3_ := tK_ BK1133 hb
        have n4_ := tB_ HB hb
        have n5_ := Aside0.mk (hbox)
        have n6_ := Aside0.mk ((by rw [hg];exact (bs_ HB) : w.heap.size ≤ gb1146))
        have n7_ := Aside0.mk ((by rw [hg];exact (bs_ HB) : w.heap.size ≤ gb1146))
        have n8_ := Aside0.mk ((by rw [hg];exact Nat.ne_of_lt (blk_lt (g := gb1132) (o := .cells #[.slice A0_0 l0_0.length c0_0,.slice A0_1 l0_1.length c0_1,.slice A0_2 l0_2.length c0_2] 27 (0,0)) (kx_ BK1132.out)) : gb1132 ≠ gb1146))
        have n9_ := Aside0.mk ((by rw [hg];exact Nat.ne_of_gt (blk_lt (g := gb1132) (o := .cells #[.slice A0_0 l0_0.length c0_0,.slice A0_1 l0_1.length c0_1,.slice A0_2 l0_2.length c0_2] 27 (0,0)) (kx_ BK1132.out)) : gb1146 ≠ gb1132))
        have n10_ := Aside0.mk ((by rw [hg];exact Nat.ne_of_lt (blk_lt (g := gb1133) (o := .cells #[.slice none 0 0,.slice none 0 0,.slice none 0 0] 27 (0,0)) (kx_ BK1133.out)) : gb1133 ≠ gb1146))
        have n11_ := Aside0.mk ((by rw [hg];exact Nat.ne_of_gt (blk_lt (g := gb1133) (o := .cells #[.slice none 0 0,.slice none 0 0,.slice none 0 0] 27 (0,0)) (kx_ BK1133.out)) : gb1146 ≠ gb1133))
        clear HO1139
        clear HO1142
        clear BK1132
        clear BK1133
        clear HB
        have HO1139 := n0_
        have HO1142 := n1_
        have BK1132 := n2_
        have BK1133 := n3_
        have HB := n4_
        have BK1146 := n5_
        have GW1146 := n6_
        have GE1146 := n7_
        have NB1132_1146 := n8_
        have NB1146_1132 := n9_
        have NB1133_1146 := n10_
        have NB1146_1133 := n11_
        clear n0_ n1_ n2_ n3_ n4_ n5_ n6_ n7_ n8_ n9_ n10_ n11_
        clear hb hbox hg
        refine hK.out _ _ ⟨(blk_cell BK1132.out 0).trans rfl,(blk_cell BK1132.out 1).trans rfl,(blk_cell BK1132.out 2).trans rfl⟩ (fun hHeld => ?_)
        clear hK K
        refine norm_ (a' := ?_) ?_ ?_
        rotate_left
        ·show Act.put _ (some 3) _ = _
         simp only [Act.put,List.setIfInBounds_toArray,List.set_cons_zero,List.set_cons_succ,i64_w,i32_w]
         rfl
        exact norm_ (by first | (simp only [putAll,Act.put,List.setIfInBounds_toArray,List.set_cons_zero,List.set_cons_succ];done) | (simp only [putAll,Act.put,List.setIfInBounds_toArray,List.set_cons_zero,List.set_cons_succ];rfl)) (hJ0_3_4_9 (v1135,v1138,v1141,gb1146) _ ⟨hHeld,(rx_ HO1139.out),(rx_ HO1142.out),(kx_ BK1132.out),(kx_ BK1133.out),(kx_ BK1146.out),GW1146.out,GE1146.out,NB1132_1146.out,NB1146_1132.out,NB1133_1146.out,NB1146_1133.out,((bl_ HB).out)⟩)
     ·skip
      rintro ⟨v1135,v1138,v1141,gb1146⟩ w13 ⟨hS_,h0_,h1_,h2_,h3_,h4_,h5_,h6_,h7_,h8_,h9_,h10_,h11_⟩
      have n0_ : Aside0 (Kd.R (Kd.int .i64) 3 w13 w.heap.size (fun k_ => some k_ ≠ (v1141 : Value).ownBlock) v1138 y1137) := ⟨h0_⟩
      have n1_ : Aside0 (Kd.R (Kd.int .i64) 3 w13 w.heap.size (fun k_ => some k_ ≠ (v1138 : Value).ownBlock) v1141 y1140) := ⟨h1_⟩
      have n2_ : Aside0 (w13.heap[gb1132]? = some (.cells #[.slice A0_0 l0_0.length c0_0,.slice A0_1 l0_1.length c0_1,.slice A0_2 l0_2.length c0_2] 27 (0,0))) := ⟨h2_⟩
      have n3_ : Aside0 (w13.heap[gb1133]? = some (.cells #[.slice none 0 0,.slice none 0 0,.slice none 0 0] 27 (0,0))) := ⟨h3_⟩
      have n4_ : Aside0 (w13.heap[gb1146]? = some (.cells #[.slice none 0 0,.slice none 0 0,.slice none 0 0] 27 (0,0))) := ⟨h4_⟩
      have n5_ : Aside0 (w.heap.size ≤ gb1146) := ⟨h5_⟩
      have n6_ : Aside0 (w.heap.size ≤ gb1146) := ⟨h6_⟩
      have n7_ : Aside0 (gb1132 ≠ gb1146) := ⟨h7_⟩
      have n8_ : Aside0 (gb1146 ≠ gb1132) := ⟨h8_⟩
      have n9_ : Aside0 (gb1133 ≠ gb1146) := ⟨h9_⟩
      have n10_ : Aside0 (gb1146 ≠ gb1133) := ⟨h10_⟩
      have n11_ : Aside0 (Below w.heap.size w w13) := ⟨h11_⟩
      clear BK1132
      clear BK1133
      clear HB
      clear h0_ h1_ h2_ h3_ h4_ h5_ h6_ h7_ h8_ h9_ h10_ h11_
      have HO1139 := n0_
      have HO1142 := n1_
      have BK1132 := n2_
      have BK1133 := n3_
      have BK1146 := n4_
      have GW1146 := n5_
      have GE1146 := n6_
      have NB1132_1146 := n7_
      have NB1146_1132 := n8_
      have NB1133_1146 := n9_
      have NB1146_1133 := n10_
      have HB := n11_
      clear n0_ n1_ n2_ n3_ n4_ n5_ n6_ n7_ n8_ n9_ n10_ n11_
      have hHeld : w13.cell? ⟨gb1132,0,none⟩ = some (.slice A0_0 l0_0.length c0_0) ∧ w13.cell? ⟨gb1132,1,none⟩ = some (.slice A0_1 l0_1.length c0_1) ∧ w13.cell? ⟨gb1132,2,none⟩ = some (.slice A0_2 l0_2.length c0_2) := hS_
      refine norm_ (a' := ?_) ?_ ?_
      rotate_left
      ·simp only [putAll,Act.put,List.setIfInBounds_toArray,List.set_cons_zero,List.set_cons_succ]
       rfl
      refine one_ (i := 7) (N := some 13) (ba_ 11 767) rfl rfl (one_of HT_.out (by kernel_rfl)) (by decide) (fun K hK => ?_)
      refine Kd.R_append_rows_step (Kd.int .i64) (w0 := w) w.heap.size (by rfl) (.tmp 10) (.tmp 12) 25 3 (.int .i64 0) 8 rfl Try.underlying25 info3 rfl (by decide) (by omega) v1141 y1140 l0_0 _ _ _ (fun k_ => some k_ ≠ (v1138 : Value).ownBlock) (fun _ => False) rfl rfl ?aO ?aR (fun _ _ h => h) (fun _ h => h.elim) ?aF ?aB ?aS ?aL ?_
      (case aR => exact cx_ HR0_0 HB)
      (case aB => exact ((bl_ HB).out))
      (case aF => exact (fun k_ hk => Kd.fresh' (Kd.R_lt (rx_ HO1139.out)) k_ hk))
      (case aO => exact (rx_ HO1142.out))
      (case aS => exact (bs_ HB))
      (case aL => have := LMc3.out;omega)
      intro v1144 w14 ho hb hg hat
      rw [← Ny1143.out] at ho
      have n0_ := Aside0.mk (blk_grown (g := gb1132) (o := .cells #[.slice A0_0 l0_0.length c0_0,.slice A0_1 l0_1.length c0_1,.slice A0_2 l0_2.length c0_2] 27 (0,0)) (kx_ BK1132.out) hg (Kd.R_ne HO1142.out BK1132.out (by decide)))
      have n1_ := Aside0.mk (blk_grown (g := gb1133) (o := .cells #[.slice none 0 0,.slice none 0 0,.slice none 0 0] 27 (0,0)) (kx_ BK1133.out) hg (Kd.R_ne HO1142.out BK1133.out (by decide)))
      have n2_ := Aside0.mk (Kd.R_after (ok := (fun _ => True)) (rx_ (Kd.R_mono HO1139.out (fun _ hk => ⟨trivial,hk⟩))) hg hat)
      have n3_ := Aside0.mk (blk_grown (g := gb1146) (o := .cells #[.slice none 0 0,.slice none 0 0,.slice none 0 0] 27 (0,0)) (kx_ BK1146.out) hg (Kd.R_ne HO1142.out BK1146.out (by decide)))
      have n4_ := Aside0.mk (hb)
      have n5_ := Aside0.mk (ho)
      clear BK1132
      clear BK1133
      clear HO1139
      clear BK1146
      clear HB
      clear HO1142
      have BK1132 := n0_
      have BK1133 := n1_
      have HO1139 := n2_
      have BK1146 := n3_
      have HB := n4_
      have HO1145 := n5_
      clear n0_ n1_ n2_ n3_ n4_ n5_
      clear ho hb hg hat
      obtain ⟨Ao15,co15,eo15⟩ := Kd.R_slice HO1145.out
      (first | subst eo15 | (injection eo15 with f1_ f2_ f3_;have f4_ := f1_.symm;have f5_ := f3_.symm;clear f1_ f2_ f3_;subst f4_;subst f5_))
      obtain ⟨Ao16,co16,eo16⟩ := Kd.R_slice HO1139.out
      (first | subst eo16 | (injection eo16 with f1_ f2_ f3_;have f4_ := f1_.symm;have f5_ := f3_.symm;clear f1_ f2_ f3_;subst f4_;subst f5_))
      refine hK.out _ _ ⟨(blk_cell BK1132.out 0).trans rfl,(blk_cell BK1132.out 1).trans rfl,(blk_cell BK1132.out 2).trans rfl⟩ (fun hHeld => ?_)
      clear hK K
      refine norm_ (a' := ?_) ?_ ?_
      rotate_left
      ·show Act.put _ (some 13) _ = _
       simp only [Act.put,List.setIfInBounds_toArray,List.set_cons_zero,List.set_cons_succ,i64_w,i32_w]
       rfl
      refine pu_ 8 (some 14) (ba_ 11 1023) rfl rfl (any_of HT_.out (by kernel_rfl)) ?_
      exact norm_ (by first | (simp only [putAll,Act.put,List.setIfInBounds_toArray,List.set_cons_zero,List.set_cons_succ];done) | (simp only [putAll,Act.put,List.setIfInBounds_toArray,List.set_cons_zero,List.set_cons_succ];rfl)) (hJ0_3_4_7_9 (v1135,.slice Ao16 y1137.length co16,v1141,.slice Ao15 y1143.length co15,gb1146) _ ⟨hHeld,(rx_ (Kd.R_mono HO1139.out (fun _ hk => hk.2))),(rx_ HO1145.out),(kx_ BK1132.out),(kx_ BK1133.out),(kx_ BK1146.out),GW1146.out,GE1146.out,NB1132_1146.out,NB1146_1132.out,NB1133_1146.out,NB1146_1133.out,((bl_ HB).out)⟩)
    ·skip
     rintro ⟨v1135,v1138,v1141,v1144⟩ w15 ⟨hS_,h0_,h1_,h2_,h3_,h4_⟩
     have n0_ : Aside0 (Kd.R (Kd.int .i64) 3 w15 w.heap.size (fun k_ => some k_ ≠ (v1144 : Value).ownBlock) v1138 y1137) := ⟨h0_⟩
     have n1_ : Aside0 (Kd.R (Kd.int .i64) 3 w15 w.heap.size (fun k_ => some k_ ≠ (v1138 : Value).ownBlock) v1144 y1143) := ⟨h1_⟩
     have n2_ : Aside0 (w15.heap[gb1132]? = some (.cells #[.slice A0_0 l0_0.length c0_0,.slice A0_1 l0_1.length c0_1,.slice A0_2 l0_2.length c0_2] 27 (0,0))) := ⟨h2_⟩
     have n3_ : Aside0 (w15.heap[gb1133]? = some (.cells #[.slice none 0 0,.slice none 0 0,.slice none 0 0] 27 (0,0))) := ⟨h3_⟩
     have n4_ : Aside0 (Below w.heap.size w w15) := ⟨h4_⟩
     clear BK1132
     clear BK1133
     clear HB
     clear h0_ h1_ h2_ h3_ h4_
     have HO1139 := n0_
     have HO1145 := n1_
     have BK1132 := n2_
     have BK1133 := n3_
     have HB := n4_
     clear n0_ n1_ n2_ n3_ n4_
     have hHeld : w15.cell? ⟨gb1132,0,none⟩ = some (.slice A0_0 l0_0.length c0_0) ∧ w15.cell? ⟨gb1132,1,none⟩ = some (.slice A0_1 l0_1.length c0_1) ∧ w15.cell? ⟨gb1132,2,none⟩ = some (.slice A0_2 l0_2.length c0_2) := hS_
     obtain ⟨Ao16,co16,eo16⟩ := Kd.R_slice HO1145.out
     (first | subst eo16 | (injection eo16 with f1_ f2_ f3_;have f4_ := f1_.symm;have f5_ := f3_.symm;clear f1_ f2_ f3_;subst f4_;subst f5_))
     obtain ⟨Ao17,co17,eo17⟩ := Kd.R_slice HO1139.out
     (first | subst eo17 | (injection eo17 with f1_ f2_ f3_;have f4_ := f1_.symm;have f5_ := f3_.symm;clear f1_ f2_ f3_;subst f4_;subst f5_))
     refine norm_ (a' := ?_) ?_ ?_
     rotate_left
     ·simp only [putAll,Act.put,List.setIfInBounds_toArray,List.set_cons_zero,List.set_cons_succ]
      rfl
     refine one_ (i := 9) (N := some 3) (ba_ 11 1023) rfl rfl (one_of HT_.out (by kernel_rfl)) (by decide) (fun K hK => ?_)
     refine box_step ?hg (N := 3) ?hd (cs := #[.slice none 0 0,.slice none 0 0,.slice none 0 0]) (t := 27) ?hr ?_;(case hd => rfl);(case hg => rfl);(case hr => first | (go_simp;done) | (go_simp;rfl))
     intro gb1146 hg w18 hbox hb
     have n0_ := tR_ HO1139 hb
     have n1_ := tR_ HO1145 hb
     have n2_ := tK_ BK1132 hb
     have n3_ := tK_ BK1133 hb
     have n4_ := tB_ HB hb
     have n5_ := Aside0.mk (hbox)
     have n6_ := Aside0.mk ((by rw [hg];exact (bs_ HB) : w.heap.size ≤ gb1146))
     have n7_ := Aside0.mk ((by rw [hg];exact (bs_ HB) : w.heap.size ≤ gb1146))
     have n8_ := Aside0.mk ((by rw [hg];exact Nat.ne_of_lt (blk_lt (g := gb1132) (o := .cells #[.slice A0_0 l0_0.length c0_0,.slice A0_1 l0_1.length c0_1,.slice A0_2 l0_2.length c0_2] 27 (0,0)) (kx_ BK1132.out)) : gb1132 ≠ gb1146))
     have n9_ := Aside0.mk ((by rw [hg];exact Nat.ne_of_gt (blk_lt (g := gb1132) (o := .cells #[.slice A0_0 l0_0.length c0_0,.slice A0_1 l0_1.length c0_1,.slice A0_2 l0_2.length c0_2] 27 (0,0)) (kx_ BK1132.out)) : gb1146 ≠ gb1132))
     have n10_ := Aside0.mk ((by rw [hg];exact Nat.ne_of_lt (blk_lt (g := gb1133) (o := .cells #[.slice none 0 0,.slice none 0 0,.slice none 0 0] 27 (0,0)) (kx_ BK1133.out)) : gb1133 ≠ gb1146))
     have n11_ := Aside0.mk ((by rw [hg];exact Nat.ne_of_gt (blk_lt (g := gb1133) (o := .cells #[.slice none 0 0,.slice none 0 0,.slice none 0 0] 27 (0,0)) (kx_ BK1133.out)) : gb1146 ≠ gb1133))
     clear HO1139
     clear HO1145
     clear BK1132
     clear BK1133
     clear HB
     have HO1139 := n0_
     have HO1145 := n1_
     have BK1132 := n2_
     have BK1133 := n3_
     have HB := n4_
     have BK1146 := n5_
     have GW1146 := n6_
     have GE1146 := n7_
     have NB1132_1146 := n8_
     have NB1146_1132 := n9_
     have NB1133_1146 := n10_
     have NB1146_1133 := n11_
     clear n0_ n1_ n2_ n3_ n4_ n5_ n6_ n7_ n8_ n9_ n10_ n11_
     clear hb hbox hg
     refine hK.out _ _ ⟨(blk_cell BK1132.out 0).trans rfl,(blk_cell BK1132.out 1).trans rfl,(blk_cell BK1132.out 2).trans rfl⟩ (fun hHeld => ?_)
     clear hK K
     refine norm_ (a' := ?_) ?_ ?_
     rotate_left
     ·show Act.put _ (some 3) _ = _
      simp only [Act.put,List.setIfInBounds_toArray,List.set_cons_zero,List.set_cons_succ,i64_w,i32_w]
      rfl
     exact norm_ (by first | (simp only [putAll,Act.put,List.setIfInBounds_toArray,List.set_cons_zero,List.set_cons_succ];done) | (simp only [putAll,Act.put,List.setIfInBounds_toArray,List.set_cons_zero,List.set_cons_succ];rfl)) (hJ0_3_4_7_9 (v1135,.slice Ao17 y1137.length co17,v1141,.slice Ao16 y1143.length co16,gb1146) _ ⟨hHeld,(rx_ HO1139.out),(rx_ HO1145.out),(kx_ BK1132.out),(kx_ BK1133.out),(kx_ BK1146.out),GW1146.out,GE1146.out,NB1132_1146.out,NB1146_1132.out,NB1133_1146.out,NB1146_1133.out,((bl_ HB).out)⟩)
   rintro ⟨v1135,v1138,v1141,v1144,gb1146⟩ w16 ⟨hS_,h0_,h1_,h2_,h3_,h4_,h5_,h6_,h7_,h8_,h9_,h10_,h11_⟩
   have n0_ : Aside0 (Kd.R (Kd.int .i64) 3 w16 w.heap.size (fun k_ => some k_ ≠ (v1144 : Value).ownBlock) v1138 y1137) := ⟨h0_⟩
   have n1_ : Aside0 (Kd.R (Kd.int .i64) 3 w16 w.heap.size (fun k_ => some k_ ≠ (v1138 : Value).ownBlock) v1144 y1143) := ⟨h1_⟩
   have n2_ : Aside0 (w16.heap[gb1132]? = some (.cells #[.slice A0_0 l0_0.length c0_0,.slice A0_1 l0_1.length c0_1,.slice A0_2 l0_2.length c0_2] 27 (0,0))) := ⟨h2_⟩
   have n3_ : Aside0 (w16.heap[gb1133]? = some (.cells #[.slice none 0 0,.slice none 0 0,.slice none 0 0] 27 (0,0))) := ⟨h3_⟩
   have n4_ : Aside0 (w16.heap[gb1146]? = some (.cells #[.slice none 0 0,.slice none 0 0,.slice none 0 0] 27 (0,0))) := ⟨h4_⟩
   have n5_ : Aside0 (w.heap.size ≤ gb1146) := ⟨h5_⟩
   have n6_ : Aside0 (w.heap.size ≤ gb1146) := ⟨h6_⟩
   have n7_ : Aside0 (gb1132 ≠ gb1146) := ⟨h7_⟩
   have n8_ : Aside0 (gb1146 ≠ gb1132) := ⟨h8_⟩
   have n9_ : Aside0 (gb1133 ≠ gb1146) := ⟨h9_⟩
   have n10_ : Aside0 (gb1146 ≠ gb1133) := ⟨h10_⟩
   have n11_ : Aside0 (Below w.heap.size w w16) := ⟨h11_⟩
   clear BK1132
   clear BK1133
   clear HB
   clear h0_ h1_ h2_ h3_ h4_ h5_ h6_ h7_ h8_ h9_ h10_ h11_
   have HO1139 := n0_
   have HO1145 := n1_
   have BK1132 := n2_
   have BK1133 := n3_
   have BK1146 := n4_
   have GW1146 := n5_
   have GE1146 := n6_
   have NB1132_1146 := n7_
   have NB1146_1132 := n8_
   have NB1133_1146 := n9_
   have NB1146_1133 := n10_
   have HB := n11_
   clear n0_ n1_ n2_ n3_ n4_ n5_ n6_ n7_ n8_ n9_ n10_ n11_
   have hHeld : w16.cell? ⟨gb1132,0,none⟩ = some (.slice A0_0 l0_0.length c0_0) ∧ w16.cell? ⟨gb1132,1,none⟩ = some (.slice A0_1 l0_1.length c0_1) ∧ w16.cell? ⟨gb1132,2,none⟩ = some (.slice A0_2 l0_2.length c0_2) := hS_
   obtain ⟨Ao17,co17,eo17⟩ := Kd.R_slice HO1145.out
   (first | subst eo17 | (injection eo17 with f1_ f2_ f3_;have f4_ := f1_.symm;have f5_ := f3_.symm;clear f1_ f2_ f3_;subst f4_;subst f5_))
   obtain ⟨Ao18,co18,eo18⟩ := Kd.R_slice HO1139.out
   (first | subst eo18 | (injection eo18 with f1_ f2_ f3_;have f4_ := f1_.symm;have f5_ := f3_.symm;clear f1_ f2_ f3_;subst f4_;subst f5_))
   refine norm_ (a' := ?_) ?_ ?_
   rotate_left
   ·simp only [putAll,Act.put,List.setIfInBounds_toArray,List.set_cons_zero,List.set_cons_succ]
    rfl
   refine one_ (i := 10) (N := none) (ba_ 11 2047) rfl rfl (one_of HT_.out (by kernel_rfl)) (by decide) (fun K hK => ?_)
   have hs19 : w16.cell? ⟨gb1146,0,none⟩ = some (.slice none 0 0) := (blk_cell BK1146.out 0).trans rfl
   have hfs19 := blk_frozen BK1146.out 0
   have hns19_0 := NB1132_1146.out
   have hns19_1 := NB1133_1146.out
   have hms19_0 := NB1146_1132.out
   have hms19_1 := NB1146_1133.out
   have hs20 : w16.cell? ⟨gb1146,1,none⟩ = some (.slice none 0 0) := (blk_cell BK1146.out 1).trans rfl
   have hfs20 := blk_frozen BK1146.out 1
   have hns20_0 := NB1132_1146.out
   have hns20_1 := NB1133_1146.out
   have hms20_0 := NB1146_1132.out
   have hms20_1 := NB1146_1133.out
   have hs21 : w16.cell? ⟨gb1146,2,none⟩ = some (.slice none 0 0) := (blk_cell BK1146.out 2).trans rfl
   have hfs21 := blk_frozen BK1146.out 2
   have hns21_0 := NB1132_1146.out
   have hns21_1 := NB1133_1146.out
   have hms21_0 := NB1146_1132.out
   have hms21_1 := NB1146_1133.out
   refine skip_ (w1 := ?_) (by rfl) rfl ?_ ?_
   rotate_left
   ·go_simp
    rfl
   refine hK.out _ _ ⟨((cell_far (p := ⟨gb1146,_,none⟩) NB1132_1146.out _).trans (((cell_far (p := ⟨gb1146,_,none⟩) NB1132_1146.out _).trans (((cell_far (p := ⟨gb1146,_,none⟩) NB1132_1146.out _).trans (hHeld.1)))))),((cell_far (p := ⟨gb1146,_,none⟩) NB1132_1146.out _).trans (((cell_far (p := ⟨gb1146,_,none⟩) NB1132_1146.out _).trans (((cell_far (p := ⟨gb1146,_,none⟩) NB1132_1146.out _).trans (hHeld.2.1)))))),((cell_far (p := ⟨gb1146,_,none⟩) NB1132_1146.out _).trans (((cell_far (p := ⟨gb1146,_,none⟩) NB1132_1146.out _).trans (((cell_far (p := ⟨gb1146,_,none⟩) NB1132_1146.out _).trans (hHeld.2.2))))))⟩ (fun hHeld => ?_)
   clear hK K
   refine done_ (done_of HT_.out (by kernel_rfl)) ?_
   try go_wp2
   go_loopg [5] k (fun kq v5 w' => ∃ (x5_1 : Int) (x1147002_1 : List Int) (u1147002 : Value),v5 = .int .i64 x5_1 ∧ Aside0 (laws_swapped.l0 kq 6 x5_1 l0_0 l0_1 l0_2 y1137 y1143 x1147002_1 = some (r1,r2,r3)) ∧ Aside0 (kq ≤ k) ∧ Aside0 (Kd.R (Kd.int .i64) 3 w' w.heap.size (fun k_ => some k_ ≠ ((.slice Ao17 y1143.length co17) : Value).ownBlock ∧ some k_ ≠ (u1147002 : Value).ownBlock) (.slice Ao18 y1137.length co18) y1137) ∧ Aside0 (Kd.R (Kd.int .i64) 3 w' w.heap.size (fun k_ => some k_ ≠ ((.slice Ao18 y1137.length co18) : Value).ownBlock ∧ some k_ ≠ (u1147002 : Value).ownBlock) (.slice Ao17 y1143.length co17) y1143) ∧ Aside0 (Kd.R (Kd.int .i64) 3 w' w.heap.size (fun k_ => some k_ ≠ ((.slice Ao18 y1137.length co18) : Value).ownBlock ∧ some k_ ≠ ((.slice Ao17 y1143.length co17) : Value).ownBlock) u1147002 x1147002_1) ∧ Aside0 (w'.heap[gb1132]? = some (.cells #[(.slice A0_0 l0_0.length c0_0),(.slice A0_1 l0_1.length c0_1),(.slice A0_2 l0_2.length c0_2)] 27 (0,0))) ∧ Aside0 (w'.heap[gb1133]? = some (.cells #[(.slice none 0 0),(.slice none 0 0),(.slice none 0 0)] 27 (0,0))) ∧ Aside0 (w'.heap[gb1146]? = some (.cells #[(.slice Ao18 y1137.length co18),(.slice Ao17 y1143.length co17),u1147002] 27 (0,0))) ∧ Aside0 (Below w.heap.size w w'))
   case atStart => exact ⟨(0),(([] : List Int)),(.slice none 0 0),(by first | rfl | (simp;done) | (simp [*];done)),H',⟨Nat.le_refl _⟩,⟨by (with_reducible repeat (first | apply Kd.R_alloc | apply Kd.R_drewN | apply Kd.R_drew));exact Kd.R_mono (Kd.R_far (p := ⟨gb1146,2,none⟩) (Kd.R_far (p := ⟨gb1146,1,none⟩) (Kd.R_far (p := ⟨gb1146,0,none⟩) (Kd.R_types HO1139.out BK1146.out (by decide)) (fun _ hk => hk.2) (.slice Ao18 y1137.length co18)) (fun _ hk => hk.2) (.slice Ao17 y1143.length co17)) (fun _ hk => hk.2) (.slice none 0 0)) (fun _ hk => ⟨hk.1,(by simp [Value.ownBlock])⟩)⟩,⟨by (with_reducible repeat (first | apply Kd.R_alloc | apply Kd.R_drewN | apply Kd.R_drew));exact Kd.R_mono (Kd.R_far (p := ⟨gb1146,2,none⟩) (Kd.R_far (p := ⟨gb1146,1,none⟩) (Kd.R_far (p := ⟨gb1146,0,none⟩) (Kd.R_types HO1145.out BK1146.out (by decide)) (fun _ hk => hk.2) (.slice Ao18 y1137.length co18)) (fun _ hk => hk.2) (.slice Ao17 y1143.length co17)) (fun _ hk => hk.2) (.slice none 0 0)) (fun _ hk => ⟨hk.1,(by simp [Value.ownBlock])⟩)⟩,⟨by first | exact Kd.R_nil _ _ _ _ _ | exact Kd.N_nil _ _ _ _ _ | exact Kd.V_nil _ _ _ _ _ | exact Kd.Q_nil _ _ _ _ _ | exact Kd.S_nil _ _ _ _ _⟩,⟨by (with_reducible repeat (first | refine blk_drewN ?_ _ | refine blk_drew ?_ | refine blk_alloc ?_ _));refine blk_far ?_ NB1132_1146.out _;(with_reducible repeat (first | refine blk_drewN ?_ _ | refine blk_drew ?_ | refine blk_alloc ?_ _));refine blk_far ?_ NB1132_1146.out _;(with_reducible repeat (first | refine blk_drewN ?_ _ | refine blk_drew ?_ | refine blk_alloc ?_ _));refine blk_far ?_ NB1132_1146.out _;(with_reducible repeat (first | refine blk_drewN ?_ _ | refine blk_drew ?_ | refine blk_alloc ?_ _));exact BK1132.out⟩,⟨by (with_reducible repeat (first | refine blk_drewN ?_ _ | refine blk_drew ?_ | refine blk_alloc ?_ _));refine blk_far ?_ NB1133_1146.out _;(with_reducible repeat (first | refine blk_drewN ?_ _ | refine blk_drew ?_ | refine blk_alloc ?_ _));refine blk_far ?_ NB1133_1146.out _;(with_reducible repeat (first | refine blk_drewN ?_ _ | refine blk_drew ?_ | refine blk_alloc ?_ _));refine blk_far ?_ NB1133_1146.out _;(with_reducible repeat (first | refine blk_drewN ?_ _ | refine blk_drew ?_ | refine blk_alloc ?_ _));exact BK1133.out⟩,⟨by (with_reducible repeat (first | refine blk_drewN ?_ _ | refine blk_drew ?_ | refine blk_alloc ?_ _));refine blk_put (cs := #[.slice Ao18 y1137.length co18,.slice Ao17 y1143.length co17,.slice none 0 0]) ?_ 2 _ rfl;(with_reducible repeat (first | refine blk_drewN ?_ _ | refine blk_drew ?_ | refine blk_alloc ?_ _));refine blk_put (cs := #[.slice Ao18 y1137.length co18,.slice none 0 0,.slice none 0 0]) ?_ 1 _ rfl;(with_reducible repeat (first | refine blk_drewN ?_ _ | refine blk_drew ?_ | refine blk_alloc ?_ _));refine blk_put (cs := #[.slice none 0 0,.slice none 0 0,.slice none 0 0]) ?_ 0 _ rfl;(with_reducible repeat (first | refine blk_drewN ?_ _ | refine blk_drew ?_ | refine blk_alloc ?_ _));exact BK1146.out⟩,⟨by repeat (first | (with_reducible first | exact HB.out | apply below_alloc | apply pw_below_drewN | apply below_drew1 | refine below_set ?_ GE1132.out | refine below_set ?_ GE1133.out | refine below_set ?_ GE1146.out) | exact HB.out)⟩⟩
   case round =>
    clear H'
    try clear c2
    try clear p2
    try clear c3
    obtain ⟨x5_1,x1147002_1,u1147002,rfl,HA,HK1,HO_1147000,HO_1147001,HO_1147002,BK1132,BK1133,BK1146,HB⟩ := hrel
    cases gk with
    | zero => exact absurd HA.out (by simp [laws_swapped.l0])
    | succ k1 =>
     have H := HA.out
     clear HA
     simp only [laws_swapped.l0] at H
     by_cases c22 : x5_1 < (wrap64 (6 * 6))
     ·rw [if_pos c22] at H
      have c22b0 : decide (x5_1 < (wrap64 (6 * 6))) = true := decide_eq_true c22
      have c22y0 : decide (x5_1 < 36) = true := by have h_ := c22b0;rw [show (wrap64 (6 * 6) : Int) = 36 by simp [wrap64]] at h_;exact h_
      clear c22
      by_cases c23 : (l0_2.length : Int) = (wrap64 (6 * 6))
      ·rw [if_pos c23] at H
       have c23b0 : ((l0_2.length : Int) == (wrap64 (6 * 6))) = true := beq_iff_eq.mpr c23
       have c23y0 : ((l0_2.length : Int) == 36) = true := by have h_ := c23b0;rw [show (wrap64 (6 * 6) : Int) = 36 by simp [wrap64]] at h_;exact h_
       have c23b1 : ((l0_2.length : Int) != (wrap64 (6 * 6))) = false := bne_eq_false_iff_eq.mpr c23
       have c23y1 : ((l0_2.length : Int) != 36) = false := by have h_ := c23b1;rw [show (wrap64 (6 * 6) : Int) = 36 by simp [wrap64]] at h_;exact h_
       clear c23
       by_cases c24 : (6 : Int) = 0
       ·rw [if_pos c24] at H
        exact absurd H (by simp)
       ·rw [if_neg c24] at H
        have c24b0 : ((6 : Int) == 0) = false := beq_eq_false_iff_ne.mpr c24
        have c24b1 : ((6 : Int) != 0) = true := bne_iff_ne.mpr c24
        obtain ⟨ji25,hji25⟩ : ∃ j_ : Int,(wrap64 ((wrap64 ((Int.tmod x5_1 6) * 6)) + (wrap64 (Int.tdiv x5_1 6)))) = j_ := ⟨_,rfl⟩
        replace H : (if 0 ≤ (ji25) then (if (ji25) < (l0_2.length : Int) then (if x1147002_1.length < 17592186044416 then (laws_swapped.l0 k1 6 (wrap64 (x5_1 + 1)) l0_0 l0_1 l0_2 y1137 y1143 (x1147002_1 ++ [rd l0_2 (ji25)])) else (none)) else (none)) else (none)) = some (r1,r2,r3) := by first | (rw [hji25] at H;exact H) | (simp only [hji25] at H ⊢;exact H)
        have hji25w : (IntKind.i64.wrap ((wrap64 ((Int.tmod x5_1 6) * 6)) + (wrap64 (Int.tdiv x5_1 6)))) = ji25 := (i64_w _).trans hji25
        by_cases c26 : 0 ≤ (ji25)
        ·rw [if_pos c26] at H
         have c26b0 : decide (0 ≤ (ji25)) = true := decide_eq_true c26
         clear c26
         by_cases c27 : (ji25) < (l0_2.length : Int)
         ·rw [if_pos c27] at H
          have c27b0 : decide ((ji25) < (l0_2.length : Int)) = true := decide_eq_true c27
          clear c27
          by_cases c28 : x1147002_1.length < 17592186044416
          ·rw [if_pos c28] at H
           have LMc28 := Aside0.mk c28
           clear c28
           obtain ⟨y1148,hy1148⟩ : ∃ y_ : List Int,y_ = (x1147002_1 ++ [rd l0_2 (ji25)]) := ⟨_,rfl⟩
           replace H : (laws_swapped.l0 k1 6 (wrap64 (x5_1 + 1)) l0_0 l0_1 l0_2 y1137 y1143 y1148) = some (r1,r2,r3) := by first | (rw [hy1148];with_reducible exact H) | (have H2_ := (Option.bind_some _ _).symm.trans H;rw [hy1148];with_reducible exact H2_) | (have H2_ := (Option.bind_some _ _).symm.trans H;with_reducible exact H2_) | with_reducible exact H | (rw [hy1148];exact H) | exact H
           have Ny1148 := Aside0.mk hy1148
           clear hy1148
           have H' := Aside0.mk H
           clear H
           have hnb29 := NB1132_1133.out
           have hnc29 := NB1133_1132.out
           have hnb30 := NB1132_1146.out
           have hnc30 := NB1146_1132.out
           have hcz31_0 : wr.cell? ⟨gb1132,0,none⟩ = some (.slice A0_0 l0_0.length c0_0) := (blk_cell BK1132.out 0).trans rfl
           have hcz31_1 : wr.cell? ⟨gb1132,1,none⟩ = some (.slice A0_1 l0_1.length c0_1) := (blk_cell BK1132.out 1).trans rfl
           have hcz31_2 : wr.cell? ⟨gb1132,2,none⟩ = some (.slice A0_2 l0_2.length c0_2) := (blk_cell BK1132.out 2).trans rfl
           have hfz31_0 := blk_frozen BK1132.out 0
           have hfz31_1 := blk_frozen BK1132.out 1
           have hfz31_2 := blk_frozen BK1132.out 2
           try go_wp2
           have n0_ := Aside0.mk (Kd.R_drew HO_1147000.out)
           have n1_ := Aside0.mk (Kd.R_drew HO_1147001.out)
           have n2_ := Aside0.mk (Kd.R_drew HO_1147002.out)
           have n3_ := Aside0.mk (blk_drew BK1132.out)
           have n4_ := Aside0.mk (blk_drew BK1133.out)
           have n5_ := Aside0.mk (blk_drew BK1146.out)
           have n6_ := Aside0.mk (below_drew1 HB.out)
           clear HO_1147000
           clear HO_1147001
           clear HO_1147002
           clear BK1132
           clear BK1133
           clear BK1146
           clear HB
           have HO_1147000 := n0_
           have HO_1147001 := n1_
           have HO_1147002 := n2_
           have BK1132 := n3_
           have BK1133 := n4_
           have BK1146 := n5_
           have HB := n6_
           clear n0_ n1_ n2_ n3_ n4_ n5_ n6_
           have p1147 : 0 ≤ ((ji25) : Int) := od_
           have q1147 : (ji25) < (l0_2.length : Int) := od_
           obtain ⟨ad1147,e1147,hx1147_0⟩ := Kd.at_int HR0_2.out (ji25) p1147 q1147
           have hw1147_0 := hx1147_0
           cases e1147
           replace hx1147_0 := ce_ HB hx1147_0
           replace p1147 := eq_true p1147
           replace q1147 := eq_true q1147
           refine start_ (n := 19) (S := fun w' => w'.cell? ⟨gb1146,0,none⟩ = some (.slice Ao18 y1137.length co18) ∧ w'.cell? ⟨gb1146,1,none⟩ = some (.slice Ao17 y1143.length co17) ∧ w'.cell? ⟨gb1146,2,none⟩ = some (u1147002) ∧ w'.cell? ⟨gb1132,0,none⟩ = some (.slice A0_0 l0_0.length c0_0) ∧ w'.cell? ⟨gb1132,1,none⟩ = some (.slice A0_1 l0_1.length c0_1) ∧ w'.cell? ⟨gb1132,2,none⟩ = some (.slice (some ad1147) l0_2.length c0_2) ∧ w'.cell? (ad1147.add ((ji25)).toNat) = some (.int .i64 (rd l0_2 (ji25)))) (ds := [18]) (ba_ 19 0) (by kernel_rfl) rfl rfl ⟨(blk_cell BK1146.out 0).trans rfl,(blk_cell BK1146.out 1).trans rfl,(blk_cell BK1146.out 2).trans rfl,(blk_cell BK1132.out 0).trans rfl,(blk_cell BK1132.out 1).trans rfl,(blk_cell BK1132.out 2).trans rfl,(ce_ HB hw1147_0)⟩ (fun hHeld => ?_);refine with_tabW laws_swapped.tab6 laws_swapped.bits6 (fun HT_ HW_ => ?_)
           generalize wr.drew = w32 at HO_1147000 HO_1147001 HO_1147002 BK1132 BK1133 BK1146 HB hx1147_0 hHeld ⊢
           refine pu_ 0 (some 31) (ba_ 19 1) rfl rfl (any_of HT_.out (by kernel_rfl)) ?_
           refine pu_ 2 (some 33) (ba_ 19 5) rfl rfl (any_of HT_.out (by kernel_rfl)) ?_
           refine pu_ 4 (some 35) (ba_ 19 21) rfl rfl (any_of HT_.out (by kernel_rfl)) ?_
           refine pu_ 5 (some 36) (ba_ 19 53) rfl rfl (any_of HT_.out (by kernel_rfl)) ?_
           refine pu_ 6 (some 37) (ba_ 19 117) rfl rfl (any_of HT_.out (by kernel_rfl)) ?_
           refine pu_ 7 (some 38) (ba_ 19 245) rfl rfl (any_of HT_.out (by kernel_rfl)) ?_
           refine pu_ 8 (some 39) (ba_ 19 501) rfl rfl (any_of HT_.out (by kernel_rfl)) ?_
           refine pu_ 9 (some 40) (ba_ 19 1013) rfl rfl (any_of HT_.out (by kernel_rfl)) ?_
           refine pu_ 10 (some 41) (ba_ 19 2037) rfl rfl (any_of HT_.out (by kernel_rfl)) ?_
           refine pu_ 11 (some 42) (ba_ 19 4085) rfl rfl (any_of HT_.out (by kernel_rfl)) ?_
           refine pu_ 12 (some 43) (ba_ 19 8181) rfl rfl (any_of HT_.out (by kernel_rfl)) ?_
           refine ta_ 1 (some 32) (ba_ 19 8183) rfl rfl (take_ofW HT_.out HW_.out (by kernel_rfl)) hHeld (by rintro w' ⟨s0,s1,s2,s3,s4,s5,s6⟩;go_simp;with_reducible rfl) ?_
           refine ta_ 3 (some 34) (ba_ 19 8191) rfl rfl (take_ofW HT_.out HW_.out (by kernel_rfl)) hHeld (by rintro w' ⟨s0,s1,s2,s3,s4,s5,s6⟩;go_simp;with_reducible rfl) ?_
           refine pu_ 13 (some 44) (ba_ 19 16383) rfl rfl (any_of HT_.out (by kernel_rfl)) ?_
           refine ta_ 14 (some 45) (ba_ 19 32767) rfl rfl (take_ofW HT_.out HW_.out (by kernel_rfl)) hHeld (by rintro w' ⟨s0,s1,s2,s3,s4,s5,s6⟩;go_simp;with_reducible rfl) ?_
           refine one_ (i := 15) (N := some 46) (ba_ 19 65535) rfl rfl (one_of HT_.out (by kernel_rfl)) (by decide) (fun K hK => ?_)
           refine value_ (w1 := ?_) (v := ?_) (by rfl) rfl ?_ ?_
           rotate_left 2
           ·go_simp
            constructor
            ·rfl
            ·rfl
           refine hK.out _ _ ⟨(blk_cell (blk_alloc BK1146.out _) 0).trans rfl,(blk_cell (blk_alloc BK1146.out _) 1).trans rfl,(blk_cell (blk_alloc BK1146.out _) 2).trans rfl,(blk_cell (blk_alloc BK1132.out _) 0).trans rfl,(blk_cell (blk_alloc BK1132.out _) 1).trans rfl,(blk_cell (blk_alloc BK1132.out _) 2).trans rfl,(World.cell?_alloc_lt _ _ _ (World.block_lt_of_cell? _ _ ((ce_ HB hw1147_0)))).trans ((ce_ HB hw1147_0))⟩ (fun hHeld => ?_)
           clear hK K
           refine norm_ (a' := ?_) ?_ ?_
           rotate_left
           ·show Act.put _ (some 46) _ = _
            simp only [Act.put,List.setIfInBounds_toArray,List.set_cons_zero,List.set_cons_succ,i64_w,i32_w]
            rfl
           refine one_ (i := 16) (N := some 47) (ba_ 19 131071) rfl rfl (one_of HT_.out (by kernel_rfl)) (by decide) (fun K hK => ?_)
           refine Kd.R_append_step (Kd.int .i64) (w0 := w) w.heap.size (by rfl) (.tmp 32) (.tmp 46) 25 3 (.int .i64 0) 8 rfl Try.underlying25 info3 rfl (by decide) (by omega) u1147002 x1147002_1 (rd l0_2 (ji25)) [.int .i64 (rd l0_2 (ji25))] (fun k_ => some k_ ≠ (.slice Ao18 y1137.length co18 : Value).ownBlock ∧ some k_ ≠ (.slice Ao17 y1143.length co17 : Value).ownBlock) (fun _ => False) rfl rfl ?aP (fun _ hk => hk.elim) ?aF ?aO ?aB ?aS ?aL ?_
           (case aP => exact rfl)
           (case aB => exact ((bl_ HB).out))
           (case aF => exact (fun k_ hk => ⟨Kd.fresh' (Kd.R_lt (rx_ HO_1147000.out)) k_ hk,Kd.fresh' (Kd.R_lt (rx_ HO_1147001.out)) k_ hk⟩))
           (case aO => exact (rx_ HO_1147002.out))
           (case aS => exact (bs_ HB))
           (case aL => have := LMc28.out;omega)
           intro v1149 w33 ho hb hg hat
           rw [← Ny1148.out] at ho
           have n0_ := Aside0.mk (Kd.R_after (ok := (fun k_ => some k_ ≠ (.slice Ao17 y1143.length co17 : Value).ownBlock)) (rx_ HO_1147000.out) hg hat)
           have n1_ := Aside0.mk (Kd.R_after (ok := (fun k_ => some k_ ≠ (.slice Ao18 y1137.length co18 : Value).ownBlock)) (rx_ HO_1147001.out) hg hat)
           have n2_ := Aside0.mk (blk_grown (g := gb1132) (o := .cells #[.slice A0_0 l0_0.length c0_0,.slice A0_1 l0_1.length c0_1,.slice (some ad1147) l0_2.length c0_2] 27 (0,0)) (kx_ BK1132.out) hg (Kd.R_ne HO_1147002.out BK1132.out (by decide)))
           have n3_ := Aside0.mk (blk_grown (g := gb1133) (o := .cells #[.slice none 0 0,.slice none 0 0,.slice none 0 0] 27 (0,0)) (kx_ BK1133.out) hg (Kd.R_ne HO_1147002.out BK1133.out (by decide)))
           have n4_ := Aside0.mk (blk_grown (g := gb1146) (o := .cells #[.slice Ao18 y1137.length co18,.slice Ao17 y1143.length co17,u1147002] 27 (0,0)) (kx_ BK1146.out) hg (Kd.R_ne HO_1147002.out BK1146.out (by decide)))
           have n5_ := Aside0.mk (hb)
           have n6_ := Aside0.mk (ho)
           clear HO_1147000
           clear HO_1147001
           clear BK1132
           clear BK1133
           clear BK1146
           clear HB
           clear HO_1147002
           have HO_1147000 := n0_
           have HO_1147001 := n1_
           have BK1132 := n2_
           have BK1133 := n3_
           have BK1146 := n4_
           have HB := n5_
           have HO1150 := n6_
           clear n0_ n1_ n2_ n3_ n4_ n5_ n6_
           clear ho hb hg hat
           obtain ⟨Ao34,co34,eo34⟩ := Kd.R_slice HO1150.out
           (first | subst eo34 | (injection eo34 with f1_ f2_ f3_;have f4_ := f1_.symm;have f5_ := f3_.symm;clear f1_ f2_ f3_;subst f4_;subst f5_))
           refine hK.out _ _ ⟨(blk_cell BK1146.out 0).trans rfl,(blk_cell BK1146.out 1).trans rfl,(blk_cell BK1146.out 2).trans rfl,(blk_cell BK1132.out 0).trans rfl,(blk_cell BK1132.out 1).trans rfl,(blk_cell BK1132.out 2).trans rfl,(ce_ HB hw1147_0)⟩ (fun hHeld => ?_)
           clear hK K
           refine norm_ (a' := ?_) ?_ ?_
           rotate_left
           ·show Act.put _ (some 47) _ = _
            simp only [Act.put,List.setIfInBounds_toArray,List.set_cons_zero,List.set_cons_succ,i64_w,i32_w]
            rfl
           refine pu_ 17 (some 48) (ba_ 19 262143) rfl rfl (any_of HT_.out (by kernel_rfl)) ?_
           refine last_ (i := 18) (N := none) (ba_ 19 524287) rfl rfl (one_of HT_.out (by kernel_rfl)) (by decide) (fun K hK => ?_)
           have hs35 : w33.cell? ⟨gb1146,2,none⟩ = some (u1147002) := (blk_cell BK1146.out 2).trans rfl
           have hfs35 := blk_frozen BK1146.out 2
           have hns35_0 := NB1132_1146.out
           have hns35_1 := NB1133_1146.out
           have hms35_0 := NB1146_1132.out
           have hms35_1 := NB1146_1133.out
           refine skip_ (w1 := ?_) (by rfl) rfl ?_ ?_
           rotate_left
           ·go_simp
            rfl
           refine hK.out _ _ ?_
           clear hK K
           refine done_ (done_of HT_.out (by kernel_rfl)) ?_
           try go_wp2
           go_roundg k1
           case measure => have := HK1.out;omega
           case rel => exact ⟨(wrap64 (x5_1 + 1)),(y1148),(.slice Ao34 y1148.length co34),(by first | rfl | (simp;done) | (simp [*];done)),H',⟨by have := HK1.out;omega⟩,⟨by (with_reducible repeat (first | apply Kd.R_alloc | apply Kd.R_drewN | apply Kd.R_drew));exact Kd.R_mono (Kd.R_far (p := ⟨gb1146,2,none⟩) (Kd.R_types HO_1147000.out BK1146.out (by decide)) (fun _ hk => hk.2) (.slice Ao34 y1148.length co34)) (fun _ hk => ⟨hk.1.1,hk.1.2⟩)⟩,⟨by (with_reducible repeat (first | apply Kd.R_alloc | apply Kd.R_drewN | apply Kd.R_drew));exact Kd.R_mono (Kd.R_far (p := ⟨gb1146,2,none⟩) (Kd.R_types HO_1147001.out BK1146.out (by decide)) (fun _ hk => hk.2) (.slice Ao34 y1148.length co34)) (fun _ hk => ⟨hk.1.1,hk.1.2⟩)⟩,⟨by (with_reducible repeat (first | apply Kd.R_alloc | apply Kd.R_drewN | apply Kd.R_drew));exact Kd.R_mono (Kd.R_far (p := ⟨gb1146,2,none⟩) (Kd.R_types HO1150.out BK1146.out (by decide)) (fun _ hk => hk.2) (.slice Ao34 y1148.length co34)) (fun _ hk => ⟨hk.1.1,hk.1.2⟩)⟩,⟨by (with_reducible repeat (first | refine blk_drewN ?_ _ | refine blk_drew ?_ | refine blk_alloc ?_ _));refine blk_far ?_ NB1132_1146.out _;(with_reducible repeat (first | refine blk_drewN ?_ _ | refine blk_drew ?_ | refine blk_alloc ?_ _));exact BK1132.out⟩,⟨by (with_reducible repeat (first | refine blk_drewN ?_ _ | refine blk_drew ?_ | refine blk_alloc ?_ _));refine blk_far ?_ NB1133_1146.out _;(with_reducible repeat (first | refine blk_drewN ?_ _ | refine blk_drew ?_ | refine blk_alloc ?_ _));exact BK1133.out⟩,⟨by (with_reducible repeat (first | refine blk_drewN ?_ _ | refine blk_drew ?_ | refine blk_alloc ?_ _));refine blk_put (cs := #[.slice Ao18 y1137.length co18,.slice Ao17 y1143.length co17,u1147002]) ?_ 2 _ rfl;(with_reducible repeat (first | refine blk_drewN ?_ _ | refine blk_drew ?_ | refine blk_alloc ?_ _));exact BK1146.out⟩,⟨by repeat (first | (with_reducible first | exact HB.out | apply below_alloc | apply pw_below_drewN | apply below_drew1 | refine below_set ?_ GE1132.out | refine below_set ?_ GE1133.out | refine below_set ?_ GE1146.out) | exact HB.out)⟩⟩
          ·rw [if_neg c28] at H
           exact absurd H (by simp)
         ·rw [if_neg c27] at H
          exact absurd H (by simp)
        ·rw [if_neg c26] at H
         exact absurd H (by simp)
      ·rw [if_neg c23] at H
       have c23b0 : ((l0_2.length : Int) == (wrap64 (6 * 6))) = false := beq_eq_false_iff_ne.mpr c23
       have c23y0 : ((l0_2.length : Int) == 36) = false := by have h_ := c23b0;rw [show (wrap64 (6 * 6) : Int) = 36 by simp [wrap64]] at h_;exact h_
       have c23b1 : ((l0_2.length : Int) != (wrap64 (6 * 6))) = true := bne_iff_ne.mpr c23
       have c23y1 : ((l0_2.length : Int) != 36) = true := by have h_ := c23b1;rw [show (wrap64 (6 * 6) : Int) = 36 by simp [wrap64]] at h_;exact h_
       simp only [Option.some.injEq,Prod.mk.injEq] at H
       obtain ⟨rfl,rfl,rfl⟩ := H
       have hnb36 := NB1132_1133.out
       have hnc36 := NB1133_1132.out
       have hnb37 := NB1132_1146.out
       have hnc37 := NB1146_1132.out
       have hcz38_0 : wr.cell? ⟨gb1132,0,none⟩ = some (.slice A0_0 l0_0.length c0_0) := (blk_cell BK1132.out 0).trans rfl
       have hcz38_1 : wr.cell? ⟨gb1132,1,none⟩ = some (.slice A0_1 l0_1.length c0_1) := (blk_cell BK1132.out 1).trans rfl
       have hcz38_2 : wr.cell? ⟨gb1132,2,none⟩ = some (.slice A0_2 l0_2.length c0_2) := (blk_cell BK1132.out 2).trans rfl
       have hfz38_0 := blk_frozen BK1132.out 0
       have hfz38_1 := blk_frozen BK1132.out 1
       have hfz38_2 := blk_frozen BK1132.out 2
       have hnb39 := NB1146_1133.out
       have hnc39 := NB1133_1146.out
       have hcz40_0 : wr.cell? ⟨gb1146,0,none⟩ = some (.slice Ao18 y1137.length co18) := (blk_cell BK1146.out 0).trans rfl
       have hcz40_1 : wr.cell? ⟨gb1146,1,none⟩ = some (.slice Ao17 y1143.length co17) := (blk_cell BK1146.out 1).trans rfl
       have hcz40_2 : wr.cell? ⟨gb1146,2,none⟩ = some (u1147002) := (blk_cell BK1146.out 2).trans rfl
       have hfz40_0 := blk_frozen BK1146.out 0
       have hfz40_1 := blk_frozen BK1146.out 1
       have hfz40_2 := blk_frozen BK1146.out 2
       have hcz41_0 : wr.cell? ⟨gb1133,0,none⟩ = some (.slice none 0 0) := (blk_cell BK1133.out 0).trans rfl
       have hcz41_1 : wr.cell? ⟨gb1133,1,none⟩ = some (.slice none 0 0) := (blk_cell BK1133.out 1).trans rfl
       have hcz41_2 : wr.cell? ⟨gb1133,2,none⟩ = some (.slice none 0 0) := (blk_cell BK1133.out 2).trans rfl
       have hfz41_0 := blk_frozen BK1133.out 0
       have hfz41_1 := blk_frozen BK1133.out 1
       have hfz41_2 := blk_frozen BK1133.out 2
       obtain ⟨Ao42,co42,eo42⟩ := Kd.R_slice HO_1147002.out
       subst eo42
       go_wp2
       refine bodyPost_ret (results_cell_row rfl _ _ gb1133 27 #[.slice Ao18 y1137.length co18,.slice Ao17 y1143.length co17,.slice Ao42 x1147002_1.length co42] (0,0) _ rfl (by (with_reducible repeat (first | refine blk_drewN ?_ _ | refine blk_drew ?_ | refine blk_alloc ?_ _));refine blk_put (cs := #[.slice Ao18 y1137.length co18,.slice Ao17 y1143.length co17,.slice none 0 0]) ?_ 2 _ rfl;(with_reducible repeat (first | refine blk_drewN ?_ _ | refine blk_drew ?_ | refine blk_alloc ?_ _));refine blk_put (cs := #[.slice Ao18 y1137.length co18,.slice none 0 0,.slice none 0 0]) ?_ 1 _ rfl;(with_reducible repeat (first | refine blk_drewN ?_ _ | refine blk_drew ?_ | refine blk_alloc ?_ _));refine blk_put (cs := #[.slice none 0 0,.slice none 0 0,.slice none 0 0]) ?_ 0 _ rfl;(with_reducible repeat (first | refine blk_drewN ?_ _ | refine blk_drew ?_ | refine blk_alloc ?_ _));exact BK1133.out) Try.underlying27 rfl (by kernel_rfl)) rfl ?_
       exact ⟨_,_,_,by first | rfl | (simp [errW_none,errW_some] <;> rfl) | (simp [*,errW_none,errW_some] <;> rfl),by (with_reducible repeat (first | apply Kd.R_alloc | apply Kd.R_drewN | apply Kd.R_drew));exact Kd.R_mono (Kd.R_far (p := ⟨gb1133,2,none⟩) (Kd.R_far (p := ⟨gb1133,1,none⟩) (Kd.R_far (p := ⟨gb1133,0,none⟩) (Kd.R_types HO_1147000.out BK1133.out (by decide)) (fun _ hk => hk.2) (.slice Ao18 y1137.length co18)) (fun _ hk => hk.2) (.slice Ao17 y1143.length co17)) (fun _ hk => hk.2) (.slice Ao42 x1147002_1.length co42)) (fun _ hk => ⟨hk.1.1,hk.1.2⟩),by (with_reducible repeat (first | apply Kd.R_alloc | apply Kd.R_drewN | apply Kd.R_drew));exact Kd.R_mono (Kd.R_far (p := ⟨gb1133,2,none⟩) (Kd.R_far (p := ⟨gb1133,1,none⟩) (Kd.R_far (p := ⟨gb1133,0,none⟩) (Kd.R_types HO_1147001.out BK1133.out (by decide)) (fun _ hk => hk.2) (.slice Ao18 y1137.length co18)) (fun _ hk => hk.2) (.slice Ao17 y1143.length co17)) (fun _ hk => hk.2) (.slice Ao42 x1147002_1.length co42)) (fun _ hk => ⟨hk.1.1,hk.1.2⟩),by (with_reducible repeat (first | apply Kd.R_alloc | apply Kd.R_drewN | apply Kd.R_drew));exact Kd.R_mono (Kd.R_far (p := ⟨gb1133,2,none⟩) (Kd.R_far (p := ⟨gb1133,1,none⟩) (Kd.R_far (p := ⟨gb1133,0,none⟩) (Kd.R_types HO_1147002.out BK1133.out (by decide)) (fun _ hk => hk.2) (.slice Ao18 y1137.length co18)) (fun _ hk => hk.2) (.slice Ao17 y1143.length co17)) (fun _ hk => hk.2) (.slice Ao42 x1147002_1.length co42)) (fun _ hk => ⟨hk.1.1,hk.1.2⟩),by repeat (first | (with_reducible first | exact HB.out | apply below_alloc | apply pw_below_drewN | apply below_drew1 | refine below_set ?_ GE1132.out | refine below_set ?_ GE1133.out | refine below_set ?_ GE1146.out) | exact HB.out)⟩
     ·rw [if_neg c22] at H
      have c22b0 : decide (x5_1 < (wrap64 (6 * 6))) = false := decide_eq_false c22
      have c22y0 : decide (x5_1 < 36) = false := by have h_ := c22b0;rw [show (wrap64 (6 * 6) : Int) = 36 by simp [wrap64]] at h_;exact h_
      clear c22
      simp only [Option.some.injEq,Prod.mk.injEq] at H
      obtain ⟨rfl,rfl,rfl⟩ := H
      have hnb43 := NB1146_1132.out
      have hnc43 := NB1132_1146.out
      have hnb44 := NB1146_1133.out
      have hnc44 := NB1133_1146.out
      have hcz45_0 : wr.cell? ⟨gb1146,0,none⟩ = some (.slice Ao18 y1137.length co18) := (blk_cell BK1146.out 0).trans rfl
      have hcz45_1 : wr.cell? ⟨gb1146,1,none⟩ = some (.slice Ao17 y1143.length co17) := (blk_cell BK1146.out 1).trans rfl
      have hcz45_2 : wr.cell? ⟨gb1146,2,none⟩ = some (u1147002) := (blk_cell BK1146.out 2).trans rfl
      have hfz45_0 := blk_frozen BK1146.out 0
      have hfz45_1 := blk_frozen BK1146.out 1
      have hfz45_2 := blk_frozen BK1146.out 2
      have hnb46 := NB1133_1132.out
      have hnc46 := NB1132_1133.out
      have hcz47_0 : wr.cell? ⟨gb1133,0,none⟩ = some (.slice none 0 0) := (blk_cell BK1133.out 0).trans rfl
      have hcz47_1 : wr.cell? ⟨gb1133,1,none⟩ = some (.slice none 0 0) := (blk_cell BK1133.out 1).trans rfl
      have hcz47_2 : wr.cell? ⟨gb1133,2,none⟩ = some (.slice none 0 0) := (blk_cell BK1133.out 2).trans rfl
      have hfz47_0 := blk_frozen BK1133.out 0
      have hfz47_1 := blk_frozen BK1133.out 1
      have hfz47_2 := blk_frozen BK1133.out 2
      obtain ⟨Ao48,co48,eo48⟩ := Kd.R_slice HO_1147002.out
      subst eo48
      go_wp2
      refine bodyPost_ret (results_cell_row rfl _ _ gb1133 27 #[.slice Ao18 y1137.length co18,.slice Ao17 y1143.length co17,.slice Ao48 x1147002_1.length co48] (0,0) _ rfl (by (with_reducible repeat (first | refine blk_drewN ?_ _ | refine blk_drew ?_ | refine blk_alloc ?_ _));refine blk_put (cs := #[.slice Ao18 y1137.length co18,.slice Ao17 y1143.length co17,.slice none 0 0]) ?_ 2 _ rfl;(with_reducible repeat (first | refine blk_drewN ?_ _ | refine blk_drew ?_ | refine blk_alloc ?_ _));refine blk_put (cs := #[.slice Ao18 y1137.length co18,.slice none 0 0,.slice none 0 0]) ?_ 1 _ rfl;(with_reducible repeat (first | refine blk_drewN ?_ _ | refine blk_drew ?_ | refine blk_alloc ?_ _));refine blk_put (cs := #[.slice none 0 0,.slice none 0 0,.slice none 0 0]) ?_ 0 _ rfl;(with_reducible repeat (first | refine blk_drewN ?_ _ | refine blk_drew ?_ | refine blk_alloc ?_ _));exact BK1133.out) Try.underlying27 rfl (by kernel_rfl)) rfl ?_
      exact ⟨_,_,_,by first | rfl | (simp [errW_none,errW_some] <;> rfl) | (simp [*,errW_none,errW_some] <;> rfl),by (with_reducible repeat (first | apply Kd.R_alloc | apply Kd.R_drewN | apply Kd.R_drew));exact Kd.R_mono (Kd.R_far (p := ⟨gb1133,2,none⟩) (Kd.R_far (p := ⟨gb1133,1,none⟩) (Kd.R_far (p := ⟨gb1133,0,none⟩) (Kd.R_types HO_1147000.out BK1133.out (by decide)) (fun _ hk => hk.2) (.slice Ao18 y1137.length co18)) (fun _ hk => hk.2) (.slice Ao17 y1143.length co17)) (fun _ hk => hk.2) (.slice Ao48 x1147002_1.length co48)) (fun _ hk => ⟨hk.1.1,hk.1.2⟩),by (with_reducible repeat (first | apply Kd.R_alloc | apply Kd.R_drewN | apply Kd.R_drew));exact Kd.R_mono (Kd.R_far (p := ⟨gb1133,2,none⟩) (Kd.R_far (p := ⟨gb1133,1,none⟩) (Kd.R_far (p := ⟨gb1133,0,none⟩) (Kd.R_types HO_1147001.out BK1133.out (by decide)) (fun _ hk => hk.2) (.slice Ao18 y1137.length co18)) (fun _ hk => hk.2) (.slice Ao17 y1143.length co17)) (fun _ hk => hk.2) (.slice Ao48 x1147002_1.length co48)) (fun _ hk => ⟨hk.1.1,hk.1.2⟩),by (with_reducible repeat (first | apply Kd.R_alloc | apply Kd.R_drewN | apply Kd.R_drew));exact Kd.R_mono (Kd.R_far (p := ⟨gb1133,2,none⟩) (Kd.R_far (p := ⟨gb1133,1,none⟩) (Kd.R_far (p := ⟨gb1133,0,none⟩) (Kd.R_types HO_1147002.out BK1133.out (by decide)) (fun _ hk => hk.2) (.slice Ao18 y1137.length co18)) (fun _ hk => hk.2) (.slice Ao17 y1143.length co17)) (fun _ hk => hk.2) (.slice Ao48 x1147002_1.length co48)) (fun _ hk => ⟨hk.1.1,hk.1.2⟩),by repeat (first | (with_reducible first | exact HB.out | apply below_alloc | apply pw_below_drewN | apply below_drew1 | refine below_set ?_ GE1132.out | refine below_set ?_ GE1133.out | refine below_set ?_ GE1146.out) | exact HB.out)⟩
  ·rw [if_neg c3] at H
   exact absurd H (by simp)
 ·rw [if_neg c2] at H
  exact absurd H (by simp)
end Go.Proofs.Ytngphdmbjenkaaa.X
