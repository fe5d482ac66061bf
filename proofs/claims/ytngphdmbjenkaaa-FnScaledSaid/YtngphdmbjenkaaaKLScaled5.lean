/- Part 5 of the proof of FnScaled: what it needs. -/
import Derived.Test.YtngphdmbjenkaaaKLScaled3
namespace Go.Proofs.Ytngphdmbjenkaaa.X
open Go.RowKit Go.Proofs.YtngphdmbjenkaaaW.PrintWords Go.Proofs.YtngphdmbjenkaaaW.PrintLast Go.Proofs.YtngphdmbjenkaaaW.PrintMore
attribute [local go_sem] max2_int min2_int max_two min_two max_three min_three max_four min_four   -- for this text's walks alone
set_option linter.unusedVariables false
set_option linter.unusedSimpArgs false
def spec_RankOf.l0 : Nat → List Int → List Int → Int → Option (List Int)
 | 0, _, _, _ => none
 | k + 1, x3, x4, x5 => if x5 < (x3.length : Int) then (if 0 ≤ x5 then (if 0 ≤ (rd x3 x5) then (if (rd x3 x5) < (x4.length : Int) then (spec_RankOf.l0 k x3 (x4.set ((rd x3 x5) : Int).toNat x5) (wrap64 (x5 + 1))) else (none)) else (none)) else (none)) else (some x4)
def spec_RankOf.f (k : Nat) (l0 : List (S77)) : Option (List Int) := (spec_PostOrder.f k l0).bind fun t871 => (if 0 ≤ (t871.length : Int) then (if ((t871.length : Int) : Int).toNat ≤ 35184372088832 then (spec_RankOf.l0 k t871 (List.replicate ((t871.length : Int) : Int).toNat 0) 0) else (none)) else (none))
theorem spec_RankOf.mono_l : ∀ k, (∀ y0 y1 y2, LeO (spec_RankOf.l0 k y0 y1 y2) (spec_RankOf.l0 (k + 1) y0 y1 y2))
 | 0 => fun _ _ _ r h => by simp [spec_RankOf.l0] at h
 | k + 1 => by
  have ih0 := spec_RankOf.mono_l k
  ·intro y0 y1 y2
   unfold spec_RankOf.l0
   repeat' first
   | (with_reducible exact ih0 _ _ _)
   | (with_reducible exact spec_PostOrder.mono _ _)
   | (with_reducible exact LeO.refl _)
   | (with_reducible exact LeO.none _)
   | (with_reducible refine LeO.ite ?_ ?_)
   | (with_reducible refine LeO.bind ?_ (fun _ => ?_))
   | exact ih0 _ _ _
   | exact spec_PostOrder.mono _ _
   | exact LeO.none _
   | refine LeO.ite ?_ ?_
   | refine LeO.bind ?_ (fun _ => ?_)
theorem spec_RankOf.mono : ∀ a0 k, LeO (spec_RankOf.f k a0) (spec_RankOf.f (k + 1) a0) := by
 intro a0 k
 have ih0 := spec_RankOf.mono_l k
 unfold spec_RankOf.f
 repeat' first
   | (with_reducible exact ih0 _ _ _)
   | (with_reducible exact spec_PostOrder.mono _ _)
   | (with_reducible exact LeO.refl _)
   | (with_reducible exact LeO.none _)
   | (with_reducible refine LeO.ite ?_ ?_)
   | (with_reducible refine LeO.bind ?_ (fun _ => ?_))
   | exact ih0 _ _ _
   | exact spec_PostOrder.mono _ _
   | exact LeO.none _
   | refine LeO.ite ?_ ?_
   | refine LeO.bind ?_ (fun _ => ?_)
set_option maxHeartbeats 8000000 in
set_option maxRecDepth 100000 in
theorem spec_RankOf.calls (k : Nat) (A0 : Option Addr) (c0 : Nat) (l0 : List (S77)) (r : List Int) (w : World) (hr0 : Kd.C k77 w A0 l0.length l0) (hc0 : l0.length ≤ c0) (h : spec_RankOf.f k l0 = some r) :
  Calls Try.prog 148 #[.slice A0 l0.length c0] w fun e w' => ∃ v0_ : Value, e = .returned (v0_) ∧ Kd.R (Kd.int .i64) 3 w' w.heap.size (fun _ => True) v0_ r ∧ Below w.heap.size w w' := by
 have HR0 := Aside0.mk hr0
 have HC0 := Aside0.mk hc0
 clear hr0 hc0
 have HB := Aside0.mk (Below.refl w.heap.size w)
 have H : ((spec_PostOrder.f k l0).bind fun t871 => (if 0 ≤ (t871.length : Int) then (if ((t871.length : Int) : Int).toNat ≤ 35184372088832 then (spec_RankOf.l0 k t871 (List.replicate ((t871.length : Int) : Int).toNat 0) 0) else (none)) else (none))) = some r := h
 clear h
 replace H := Option.bind_eq_some_iff.mp H
 obtain ⟨t871, A20, H⟩ := H
 try dsimp only at H
 have A2 := Aside0.mk A20
 clear A20
 by_cases c3 : 0 ≤ (t871.length : Int)
 ·rw [if_pos c3] at H
  have c3b0 := eq_true c3
  have c3b1 : decide (0 ≤ (t871.length : Int)) = true := decide_eq_true c3
  clear c3
  by_cases c4 : ((t871.length : Int) : Int).toNat ≤ 35184372088832
  ·rw [if_pos c4] at H
   have c4b0 := eq_true c4
   have c4b1 : decide (((t871.length : Int) : Int).toNat ≤ 35184372088832) = true := decide_eq_true c4
   clear c4
   obtain ⟨y874, hy874⟩ : ∃ y_ : List Int, y_ = (List.replicate ((t871.length : Int) : Int).toNat 0) := ⟨_, rfl⟩
   replace H : (spec_RankOf.l0 k t871 y874 0) = some r := by first | (rw [hy874]; with_reducible exact H) | (have H2_ := (Option.bind_some _ _).symm.trans H; rw [hy874]; with_reducible exact H2_) | (have H2_ := (Option.bind_some _ _).symm.trans H; with_reducible exact H2_) | with_reducible exact H | (rw [hy874]; exact H) | exact H
   have Ny874 := Aside0.mk hy874
   clear hy874
   have H' := Aside0.mk H
   clear H
   go_enter Try.func148, Try.ntmps148
   go_wp2_with (first | ((with_reducible refine gate_callee (f := 98) rfl ?_); refine gL_ (some 7) Try.func98 #[.slice A0 l0.length c0] ?_; (with_reducible refine (spec_PostOrder.calls k _ _ l0 t871 _ (cc_ HR0.out) HC0.out A2.out).mono ?_); rintro e w5 ⟨v872, rfl, ho0, hb⟩; refine ⟨_, rfl, ?_⟩; have HO873 := Aside0.mk (Kd.R_lower ho0 (bs_ HB)); replace HB := tB_ HB hb; (try clear hb); (try clear ho0); obtain ⟨Ao6, co6, eo6⟩ := Kd.R_slice HO873.out; subst eo6) | ((with_reducible refine gate_dst (N := 10) rfl ?_); refine Kd.R_make (Kd.int .i64) _ 3 rfl (N := 10) rfl 25 _ _ rfl (t871.length : Int) rfl rfl Try.underlying25 (.int .i64 0) 8 info3 rfl (by decide) (by omega) 0 (ok := fun _ => True) (okp := fun _ => True) rfl (fun _ hk => hk) trivial (od_) (Nat.le_trans (Nat.mul_le_mul_right _ (od_ : (t871.length : Int).toNat ≤ 35184372088832)) (by omega)) (Below.refl _ _) (Nat.le_refl _) ?_; intro v875 w7 ho8 hb hg_ hnew_; clear hg_ hnew_; (first | rw [← Ny874.out] at ho8 | (simp only [Int.reduceToNat] at ho8; rw [← Ny874.out] at ho8)); have HO876 := Aside0.mk (Kd.R_lower (Kd.R_new' ho8 (Kd.R_lt (rx_ HO873.out))) (bs_ HB)); replace HO873 := Aside0.mk (Kd.R_elder' (rx_ HO873.out) (Kd.R_base ho8) hb); replace HB := tB_ HB hb; clear hb ho8))
   go_loopg [5] k (fun kq v5 w' => ∃ (x4_1 : List Int) (x5_1 : Int), v5 = .int .i64 x5_1 ∧ Aside0 (spec_RankOf.l0 kq t871 x4_1 x5_1 = some r) ∧ Aside0 (kq ≤ k) ∧ Aside0 (Kd.R (Kd.int .i64) 3 w' w.heap.size (fun k_ => some k_ ≠ (v875 : Value).ownBlock) (.slice Ao6 t871.length co6) t871) ∧ Aside0 (Kd.R (Kd.int .i64) 3 w' w.heap.size (fun k_ => some k_ ≠ ((.slice Ao6 t871.length co6) : Value).ownBlock) v875 x4_1) ∧ Aside0 (Below w.heap.size w w'))
   case atStart => exact ⟨(y874), (0), eb_, H', ⟨Nat.le_refl _⟩, ⟨rx_ (Kd.R_mono HO873.out (fun _ hk => hk.2))⟩, ⟨rx_ (Kd.R_mono HO876.out (fun _ hk => hk.2))⟩, bl_ HB⟩
   case round =>
    clear H'
    try clear c1
    try clear p2
    try clear c3
    try clear c3b0
    try clear c3b1
    try clear c4
    try clear c4b0
    try clear c4b1
    obtain ⟨x4_1, x5_1, rfl, HA, HK1, HO_3, HO_4, HB⟩ := hrel
    cases gk with
    | zero => exact absurd HA.out (by simp [spec_RankOf.l0])
    | succ k1 =>
     have H := HA.out
     clear HA
     simp only [spec_RankOf.l0] at H
     by_cases c9 : x5_1 < (t871.length : Int)
     ·rw [if_pos c9] at H
      have c9b0 : decide (x5_1 < (t871.length : Int)) = true := decide_eq_true c9
      clear c9
      by_cases c10 : 0 ≤ x5_1
      ·rw [if_pos c10] at H
       have c10b0 : decide (0 ≤ x5_1) = true := decide_eq_true c10
       clear c10
       by_cases c11 : 0 ≤ (rd t871 x5_1)
       ·rw [if_pos c11] at H
        have c11b0 : decide (0 ≤ (rd t871 x5_1)) = true := decide_eq_true c11
        clear c11
        by_cases c12 : (rd t871 x5_1) < (x4_1.length : Int)
        ·rw [if_pos c12] at H
         have c12b0 : decide ((rd t871 x5_1) < (x4_1.length : Int)) = true := decide_eq_true c12
         clear c12
         obtain ⟨y878, hy878⟩ : ∃ y_ : List Int, y_ = (x4_1.set ((rd t871 x5_1) : Int).toNat x5_1) := ⟨_, rfl⟩
         replace H : (spec_RankOf.l0 k1 t871 y878 (wrap64 (x5_1 + 1))) = some r := by first | (rw [hy878]; with_reducible exact H) | (have H2_ := (Option.bind_some _ _).symm.trans H; rw [hy878]; with_reducible exact H2_) | (have H2_ := (Option.bind_some _ _).symm.trans H; with_reducible exact H2_) | with_reducible exact H | (rw [hy878]; exact H) | exact H
         have Ny878 := Aside0.mk hy878
         clear hy878
         have H' := Aside0.mk H
         clear H
         have p877 : 0 ≤ (x5_1 : Int) := od_
         have q877 : x5_1 < (t871.length : Int) := od_
         obtain ⟨ad877, e877, hx877_0⟩ := Kd.at_int (Kd.R_reads' HO_3.out).2.2 x5_1 p877 q877
         cases e877
         replace p877 := eq_true p877
         replace q877 := eq_true q877
         have p13 : 0 ≤ ((rd t871 x5_1) : Int) := od_
         have q13 : ((rd t871 x5_1) : Int) < ((x4_1.length : Int) : Int) := od_
         obtain ⟨go13, co13, eo13, gb13, gl13, cl13, HG13⟩ := Kd.R_form HO_4.out (by omega)
         (first | cases eo13 | (injection eo13 with ea_ en_ ec_; (first | subst ea_ | (injection ea_ with ea_; subst ea_)); subst ec_; clear en_))
         have GB13 := Aside0.mk gb13
         have GG13 := Aside0.mk HG13
         clear gb13 gl13 HG13
         obtain ⟨hx13_0, hf13_0⟩ := Kd.R_celln 0 HO_4.out ((rd t871 x5_1) : Int) p13 q13
         replace p13 := eq_true p13
         replace q13 := eq_true q13
         have HP14 := Kd.R_putg HO_4.out ((rd t871 x5_1) : Int) x5_1
         go_wp2_with (first | ((with_reducible refine gate_store (t := 3) (p := 23) rfl ?_); refine store_event (t := 3) (p := 23) (v := ?vo_w15) (w1 := (wr.setCell ⟨go13, ((rd t871 x5_1) : Int).toNat, none⟩ (.int .i64 x5_1))) ?hg ?ho ?hn ?hr ?_; (case ho => rfl); (case hg => rfl); (case hn => rfl); (case hr => first | (go_simp; done) | (go_simp; rfl)); intro w15 hw; have hg : wr.grownBy w15 (some go13) := (by rw [hw]; exact HP14.2); have hp_ : Kd.R (Kd.int .i64) 3 w15 w.heap.size (fun k_ => some k_ ≠ (.slice (some ad877) t871.length co6 : Value).ownBlock) (.slice (some ⟨go13, 0, none⟩) x4_1.length co13) y878 := (by rw [hw, Ny878.out]; exact HP14.1); clear HP14; replace HO_3 := Aside0.mk (Kd.R_after (v := (.slice (some ⟨go13, 0, none⟩) x4_1.length co13)) (v1 := (.slice (some ⟨go13, 0, none⟩) x4_1.length co13)) (ok := (fun _ => True)) (rx_ (Kd.R_mono HO_3.out (fun _ hk => ⟨trivial, hk⟩))) hg (.inl rfl)); replace HO_4 := Aside0.mk (hp_); replace HB := Aside0.mk ((by rw [hw]; exact below_set (HB.out) GB13.out : Below w.heap.size w w15)); clear hg hw hp_))
         go_roundg k1
         case measure => have := HK1.out; omega
         case rel => exact ⟨(y878), (wrap64 (x5_1 + 1)), eb_, H', ⟨by have := HK1.out; omega⟩, ⟨rx_ (Kd.R_mono HO_3.out (fun _ hk => hk.2))⟩, ⟨rx_ HO_4.out⟩, bl_ HB⟩
        ·rw [if_neg c12] at H
         exact absurd H (by simp)
       ·rw [if_neg c11] at H
        exact absurd H (by simp)
      ·rw [if_neg c10] at H
       exact absurd H (by simp)
     ·rw [if_neg c9] at H
      have c9b0 : decide (x5_1 < (t871.length : Int)) = false := decide_eq_false c9
      clear c9
      obtain rfl := Option.some.inj H
      go_wp2
      go_ret
      exact ⟨_, ea_, rx_ (Kd.R_mono HO_4.out (fun _ hk => trivial)), (bl_ HB).out⟩
  ·rw [if_neg c4] at H
   exact absurd H (by simp)
 ·rw [if_neg c3] at H
  exact absurd H (by simp)
end Go.Proofs.Ytngphdmbjenkaaa.X
namespace Go.Proofs.Ytngphdmbjenkaaa.X
open Go.RowKit Go.Proofs.YtngphdmbjenkaaaW.PrintWords Go.Proofs.YtngphdmbjenkaaaW.PrintLast Go.Proofs.YtngphdmbjenkaaaW.PrintMore
attribute [local go_sem] max2_int min2_int max_two min_two max_three min_three max_four min_four   -- for this text's walks alone
set_option linter.unusedVariables false
set_option linter.unusedSimpArgs false
mutual
def spec_LeftLeaf.l0 : Nat → List (S77) → List Int → List Int → List Int → Int → Option (List Int)
 | 0, _, _, _, _, _ => none
 | k + 1, x0, x3, x4, x5, x6 => if x6 < (x4.length : Int) then (if 0 ≤ x6 then (spec_LeftLeaf.l1 k x0 x3 x4 x5 x6 (rd x4 x6)) else (none)) else (some x3)
def spec_LeftLeaf.l1 : Nat → List (S77) → List Int → List Int → List Int → Int → Int → Option (List Int)
 | 0, _, _, _, _, _, _ => none
 | k + 1, x0, x3, x4, x5, x6, x7 => if 0 ≤ x6 then (if x6 < (x4.length : Int) then ((spec_EndOf.f k x0 (rd x4 x6)).bind fun t890 => (if (wrap64 (x7 + 1)) < t890 then (if 0 ≤ (wrap64 (x7 + 1)) then (if (wrap64 (x7 + 1)) < (x0.length : Int) then (if 0 ≤ x7 then (if x7 < (x0.length : Int) then (if ((rd_T77 x0 (wrap64 (x7 + 1))).f1) = (wrap64 (((rd_T77 x0 x7).f1) + 1)) then (spec_LeftLeaf.l1 k x0 x3 x4 x5 x6 (wrap64 (x7 + 1))) else (if x7 < (x5.length : Int) then (if x3.length < 17592186044416 then (spec_LeftLeaf.l0 k x0 (x3 ++ [rd x5 x7]) x4 x5 (wrap64 (x6 + 1))) else (none)) else (none))) else (none)) else (none)) else (none)) else (none)) else (if 0 ≤ x7 then (if x7 < (x5.length : Int) then (if x3.length < 17592186044416 then (spec_LeftLeaf.l0 k x0 (x3 ++ [rd x5 x7]) x4 x5 (wrap64 (x6 + 1))) else (none)) else (none)) else (none)))) else (none)) else (none)
end
def spec_LeftLeaf.f (k : Nat) (l0 : List (S77)) : Option (List Int) := (spec_PostOrder.f k l0).bind fun t882 => ((spec_RankOf.f k l0).bind fun t885 => (spec_LeftLeaf.l0 k l0 (([] : List Int)) t882 t885 0))
theorem spec_LeftLeaf.mono_l : ∀ k, (∀ y0 y1 y2 y3 y4, LeO (spec_LeftLeaf.l0 k y0 y1 y2 y3 y4) (spec_LeftLeaf.l0 (k + 1) y0 y1 y2 y3 y4)) ∧ (∀ y0 y1 y2 y3 y4 y5, LeO (spec_LeftLeaf.l1 k y0 y1 y2 y3 y4 y5) (spec_LeftLeaf.l1 (k + 1) y0 y1 y2 y3 y4 y5))
 | 0 => ⟨fun _ _ _ _ _ r h => by simp [spec_LeftLeaf.l0] at h, fun _ _ _ _ _ _ r h => by simp [spec_LeftLeaf.l1] at h⟩
 | k + 1 => by
  obtain ⟨ih0, ih1⟩ := spec_LeftLeaf.mono_l k
  refine ⟨?_, ?_⟩
  ·intro y0 y1 y2 y3 y4
   unfold spec_LeftLeaf.l0
   repeat' first
   | (with_reducible exact ih0 _ _ _ _ _)
   | (with_reducible exact ih1 _ _ _ _ _ _)
   | (with_reducible exact spec_EndOf.mono _ _ _)
   | (with_reducible exact spec_PostOrder.mono _ _)
   | (with_reducible exact spec_RankOf.mono _ _)
   | (with_reducible exact LeO.refl _)
   | (with_reducible exact LeO.none _)
   | (with_reducible refine LeO.ite ?_ ?_)
   | (with_reducible refine LeO.bind ?_ (fun _ => ?_))
   | exact ih0 _ _ _ _ _
   | exact ih1 _ _ _ _ _ _
   | exact spec_EndOf.mono _ _ _
   | exact spec_PostOrder.mono _ _
   | exact spec_RankOf.mono _ _
   | exact LeO.none _
   | refine LeO.ite ?_ ?_
   | refine LeO.bind ?_ (fun _ => ?_)
  ·intro y0 y1 y2 y3 y4 y5
   unfold spec_LeftLeaf.l1
   repeat' first
   | (with_reducible exact ih0 _ _ _ _ _)
   | (with_reducible exact ih1 _ _ _ _ _ _)
   | (with_reducible exact spec_EndOf.mono _ _ _)
   | (with_reducible exact spec_PostOrder.mono _ _)
   | (with_reducible exact spec_RankOf.mono _ _)
   | (with_reducible exact LeO.refl _)
   | (with_reducible exact LeO.none _)
   | (with_reducible refine LeO.ite ?_ ?_)
   | (with_reducible refine LeO.bind ?_ (fun _ => ?_))
   | exact ih0 _ _ _ _ _
   | exact ih1 _ _ _ _ _ _
   | exact spec_EndOf.mono _ _ _
   | exact spec_PostOrder.mono _ _
   | exact spec_RankOf.mono _ _
   | exact LeO.none _
   | refine LeO.ite ?_ ?_
   | refine LeO.bind ?_ (fun _ => ?_)
theorem spec_LeftLeaf.mono : ∀ a0 k, LeO (spec_LeftLeaf.f k a0) (spec_LeftLeaf.f (k + 1) a0) := by
 intro a0 k
 obtain ⟨ih0, ih1⟩ := spec_LeftLeaf.mono_l k
 unfold spec_LeftLeaf.f
 repeat' first
   | (with_reducible exact ih0 _ _ _ _ _)
   | (with_reducible exact ih1 _ _ _ _ _ _)
   | (with_reducible exact spec_EndOf.mono _ _ _)
   | (with_reducible exact spec_PostOrder.mono _ _)
   | (with_reducible exact spec_RankOf.mono _ _)
   | (with_reducible exact LeO.refl _)
   | (with_reducible exact LeO.none _)
   | (with_reducible refine LeO.ite ?_ ?_)
   | (with_reducible refine LeO.bind ?_ (fun _ => ?_))
   | exact ih0 _ _ _ _ _
   | exact ih1 _ _ _ _ _ _
   | exact spec_EndOf.mono _ _ _
   | exact spec_PostOrder.mono _ _
   | exact spec_RankOf.mono _ _
   | exact LeO.none _
   | refine LeO.ite ?_ ?_
   | refine LeO.bind ?_ (fun _ => ?_)
def spec_LeftLeaf.T8 : Bool × List (List Nat × List Nat) := (true, [([], []), ([0], [0]), ([], []), ([], []), ([], []), ([3, 4], [3, 4]), ([5], [5]), ([2, 6], [2, 6]), ([1, 7], [1, 7]), ([8, 7], [8]), ([9], [9]), ([9], [9]), ([11, 9], [9, 11]), ([10, 12, 9], [9, 10, 12]), ([13, 9], [9, 13]), ([14, 9], [9, 14]), ([9], [9]), ([9], [9]), ([16, 17, 9], [9, 16, 17]), ([18, 9], [9, 18]), ([19, 9], [9, 19]), ([20, 9], [9, 20]), ([15, 21, 9], [9, 15, 21]), ([9, 22], [9, 22])])
def spec_LeftLeaf.B8 : List Nat := [0, 1, 0, 0, 0, 24, 56, 124, 255, 511, 1023, 1023, 3071, 8191, 16383, 32767, 1023, 1023, 197631, 459775, 984063, 2032639, 4194303, 8388607]
theorem spec_LeftLeaf.tab8 : rtab .any (opsOf Try.f122 8) = spec_LeftLeaf.T8 := by kernel_rfl
theorem spec_LeftLeaf.bits8 : waitsOk spec_LeftLeaf.T8.2 spec_LeftLeaf.B8 = true := by kernel_rfl
set_option maxHeartbeats 8000000 in
set_option maxRecDepth 100000 in
theorem spec_LeftLeaf.calls (k : Nat) (A0 : Option Addr) (c0 : Nat) (l0 : List (S77)) (r : List Int) (w : World) (hr0 : Kd.C k77 w A0 l0.length l0) (hc0 : l0.length ≤ c0) (h : spec_LeftLeaf.f k l0 = some r) :
  Calls Try.prog 122 #[.slice A0 l0.length c0] w fun e w' => ∃ v0_ : Value, e = .returned (v0_) ∧ Kd.R (Kd.int .i64) 3 w' w.heap.size (fun _ => True) v0_ r ∧ Below w.heap.size w w' := by
 have HR0 := Aside0.mk hr0
 have HC0 := Aside0.mk hc0
 clear hr0 hc0
 have HB := Aside0.mk (Below.refl w.heap.size w)
 have H : ((spec_PostOrder.f k l0).bind fun t882 => ((spec_RankOf.f k l0).bind fun t885 => (spec_LeftLeaf.l0 k l0 (([] : List Int)) t882 t885 0))) = some r := h
 clear h
 obtain ⟨y879, hy879⟩ : ∃ y_ : List Int, y_ = (([] : List Int)) := ⟨_, rfl⟩
 replace H : ((spec_PostOrder.f k l0).bind fun t882 => ((spec_RankOf.f k l0).bind fun t885 => (spec_LeftLeaf.l0 k l0 y879 t882 t885 0))) = some r := by first | (rw [hy879]; with_reducible exact H) | (have H2_ := (Option.bind_some _ _).symm.trans H; rw [hy879]; with_reducible exact H2_) | (have H2_ := (Option.bind_some _ _).symm.trans H; with_reducible exact H2_) | with_reducible exact H | (rw [hy879]; exact H) | exact H
 have Ny879 := Aside0.mk hy879
 clear hy879
 replace H := Option.bind_eq_some_iff.mp H
 obtain ⟨t882, A20, H⟩ := H
 replace H : ((spec_RankOf.f k l0).bind fun t885 => (spec_LeftLeaf.l0 k l0 y879 t882 t885 0)) = some r := H
 have A2 := Aside0.mk A20
 clear A20
 replace H := Option.bind_eq_some_iff.mp H
 obtain ⟨t885, A30, H⟩ := H
 replace H : (spec_LeftLeaf.l0 k l0 y879 t882 t885 0) = some r := H
 have A3 := Aside0.mk A30
 clear A30
 have H' := Aside0.mk H
 clear H
 go_enter Try.func122, Try.ntmps122
 go_wp2_with (first | ((with_reducible refine gate_dst (N := 8) rfl ?_); refine Kd.R_lit (Kd.int .i64) _ 3 ?hg (N := 8) ?hd (xs := ([] : List Int)) (inner := []) (ok := fun _ => True) (okp := fun _ => True) ?hr ?hp (fun _ hk => hk) trivial (Below.refl _ _) (Nat.le_refl _) (by simp) ?_; (case hd => rfl); (case hg => rfl); (case hr => first | (go_simp; done) | (go_simp; rfl)); (case hp => exact (Reps.none _ _)); intro v880 w4 ho5 hb hg_ hnew_; clear hg_ hnew_; (first | rw [← Ny879.out] at ho5 | (simp only [Int.reduceToNat] at ho5; rw [← Ny879.out] at ho5)); have HO881 := Aside0.mk (Kd.R_lower ho5 (bs_ HB)); replace HB := tB_ HB hb; clear hb ho5) | ((with_reducible refine gate_callee (f := 98) rfl ?_); refine gL_ (some 10) Try.func98 #[.slice A0 l0.length c0] ?_; (with_reducible refine (spec_PostOrder.calls k _ _ l0 t882 _ (cx_ HR0 HB) HC0.out A2.out).mono ?_); rintro e w6 ⟨v883, rfl, ho0, hb⟩; refine ⟨_, rfl, ?_⟩; have HO884 := Aside0.mk (Kd.R_lower (Kd.R_new' ho0 (Kd.R_lt (rx_ HO881.out))) (bs_ HB)); replace HO881 := Aside0.mk (Kd.R_elder' (rx_ HO881.out) (Kd.R_base ho0) hb); replace HB := tB_ HB hb; (try clear hb); (try clear ho0)) | ((with_reducible refine gate_callee (f := 148) rfl ?_); refine gL_ (some 12) Try.func148 #[.slice A0 l0.length c0] ?_; (with_reducible refine (spec_RankOf.calls k _ _ l0 t885 _ (cx_ HR0 HB) HC0.out A3.out).mono ?_); rintro e w7 ⟨v886, rfl, ho0, hb⟩; refine ⟨_, rfl, ?_⟩; have HO887 := Aside0.mk (Kd.R_lower (Kd.R_new' (Kd.R_new' ho0 (Kd.R_lt (rx_ HO881.out))) (Kd.R_lt (rx_ HO884.out))) (bs_ HB)); replace HO881 := Aside0.mk (Kd.R_elder' (rx_ HO881.out) (Kd.R_base ho0) hb); replace HO884 := Aside0.mk (Kd.R_elder' (rx_ HO884.out) (Kd.R_base ho0) hb); replace HB := tB_ HB hb; (try clear hb); (try clear ho0)))
 go_loopg [3, 6] k (fun kq v3 v6 w' => ∃ (x3_1 : List Int) (x6_1 : Int), v6 = .int .i64 x6_1 ∧ Aside0 (spec_LeftLeaf.l0 kq l0 x3_1 t882 t885 x6_1 = some r) ∧ Aside0 (kq ≤ k) ∧ Aside0 (Kd.R (Kd.int .i64) 3 w' w.heap.size (fun k_ => some k_ ≠ (v883 : Value).ownBlock ∧ some k_ ≠ (v886 : Value).ownBlock) v3 x3_1) ∧ Aside0 (Kd.R (Kd.int .i64) 3 w' w.heap.size (fun k_ => some k_ ≠ (v3 : Value).ownBlock ∧ some k_ ≠ (v886 : Value).ownBlock) v883 t882) ∧ Aside0 (Kd.R (Kd.int .i64) 3 w' w.heap.size (fun k_ => some k_ ≠ (v3 : Value).ownBlock ∧ some k_ ≠ (v883 : Value).ownBlock) v886 t885) ∧ Aside0 (Below w.heap.size w w'))
 case atStart => exact ⟨(y879), (0), eb_, H', ⟨Nat.le_refl _⟩, ⟨rx_ (Kd.R_mono HO881.out (fun _ hk => ⟨hk.1.2, hk.2⟩))⟩, ⟨rx_ (Kd.R_mono HO884.out (fun _ hk => ⟨hk.1.2, hk.2⟩))⟩, ⟨rx_ (Kd.R_mono HO887.out (fun _ hk => ⟨hk.1.2, hk.2⟩))⟩, bl_ HB⟩
 case round =>
  clear H'
  try clear c1
  try clear p2
  obtain ⟨x3_1, x6_1, rfl, HA, HK1, HO_3, HO_4, HO_5, HB⟩ := hrel
  cases gk with
  | zero => exact absurd HA.out (by simp [spec_LeftLeaf.l0])
  | succ k1 =>
   have H := HA.out
   clear HA
   simp only [spec_LeftLeaf.l0] at H
   by_cases c8 : x6_1 < (t882.length : Int)
   ·rw [if_pos c8] at H
    have c8b0 : decide (x6_1 < (t882.length : Int)) = true := decide_eq_true c8
    clear c8
    by_cases c9 : 0 ≤ x6_1
    ·rw [if_pos c9] at H
     have c9b0 : decide (0 ≤ x6_1) = true := decide_eq_true c9
     clear c9
     have H' := Aside0.mk H
     clear H
     obtain ⟨Ao10, co10, eo10⟩ := Kd.R_slice HO_4.out
     subst eo10
     have p888 : 0 ≤ (x6_1 : Int) := od_
     have q888 : x6_1 < (t882.length : Int) := od_
     obtain ⟨ad888, e888, hx888_0⟩ := Kd.at_int (Kd.R_reads' HO_4.out).2.2 x6_1 p888 q888
     cases e888
     replace p888 := eq_true p888
     replace q888 := eq_true q888
     go_wp2
     go_loopg [7] k1 (fun kq v7 w' => ∃ (x7_2 : Int), v7 = .int .i64 x7_2 ∧ Aside0 (spec_LeftLeaf.l1 kq l0 x3_1 t882 t885 x6_1 x7_2 = some r) ∧ Aside0 (kq ≤ k1) ∧ Aside0 (Kd.R (Kd.int .i64) 3 w' w.heap.size (fun k_ => some k_ ≠ ((.slice (some ad888) t882.length co10) : Value).ownBlock ∧ some k_ ≠ (v886 : Value).ownBlock) u3 x3_1) ∧ Aside0 (Kd.R (Kd.int .i64) 3 w' w.heap.size (fun k_ => some k_ ≠ (u3 : Value).ownBlock ∧ some k_ ≠ (v886 : Value).ownBlock) (.slice (some ad888) t882.length co10) t882) ∧ Aside0 (Kd.R (Kd.int .i64) 3 w' w.heap.size (fun k_ => some k_ ≠ (u3 : Value).ownBlock ∧ some k_ ≠ ((.slice (some ad888) t882.length co10) : Value).ownBlock) v886 t885) ∧ Aside0 (Below w.heap.size w w'))
     case atStart => exact ⟨(rd t882 x6_1), eb_, H', ⟨Nat.le_refl _⟩, ⟨rx_ HO_3.out⟩, ⟨rx_ HO_4.out⟩, ⟨rx_ HO_5.out⟩, bl_ HB⟩
     case round =>
      clear H'
      try clear c1
      try clear p2
      try clear c8
      try clear c8b0
      try clear p8
      try clear q8
      try clear hx8
      try clear c9
      try clear c9b0
      try clear hx888_0
      try clear p2
      try clear p888
      try clear q888
      obtain ⟨x7_2, rfl, HA, HK2, HO_3, HO_4, HO_5, HB⟩ := hrel
      cases gk with
      | zero => exact absurd HA.out (by simp [spec_LeftLeaf.l1])
      | succ k2 =>
       have H := HA.out
       clear HA
       simp only [spec_LeftLeaf.l1] at H
       by_cases c11 : 0 ≤ x6_1
       ·rw [if_pos c11] at H
        have c11b0 : decide (0 ≤ x6_1) = true := decide_eq_true c11
        clear c11
        by_cases c12 : x6_1 < (t882.length : Int)
        ·rw [if_pos c12] at H
         have c12b0 : decide (x6_1 < (t882.length : Int)) = true := decide_eq_true c12
         clear c12
         replace H := Option.bind_eq_some_iff.mp H
         obtain ⟨t890, A130, H⟩ := H
         try dsimp only at H
         have A13 := Aside0.mk A130
         clear A130
         by_cases c14 : (wrap64 (x7_2 + 1)) < t890
         ·rw [if_pos c14] at H
          have c14b0 : decide ((wrap64 (x7_2 + 1)) < t890) = true := decide_eq_true c14
          clear c14
          obtain ⟨ji15, hji15⟩ : ∃ j_ : Int, (wrap64 (x7_2 + 1)) = j_ := ⟨_, rfl⟩
          replace H : (if 0 ≤ (ji15) then (if (ji15) < (l0.length : Int) then (if 0 ≤ x7_2 then (if x7_2 < (l0.length : Int) then (if ((rd_T77 l0 (ji15)).f1) = (wrap64 (((rd_T77 l0 x7_2).f1) + 1)) then (spec_LeftLeaf.l1 k2 l0 x3_1 t882 t885 x6_1 ji15) else (if x7_2 < (t885.length : Int) then (if x3_1.length < 17592186044416 then (spec_LeftLeaf.l0 k2 l0 (x3_1 ++ [rd t885 x7_2]) t882 t885 (wrap64 (x6_1 + 1))) else (none)) else (none))) else (none)) else (none)) else (none)) else (none)) = some r := by first | (rw [hji15] at H; exact H) | (simp only [hji15] at H ⊢; exact H)
          (try rw [hji15] at c14b0)
          (try rw [hji15] at A13)
          have hji15w : (IntKind.i64.wrap (x7_2 + 1)) = ji15 := (i64_w _).trans hji15
          by_cases c16 : 0 ≤ (ji15)
          ·rw [if_pos c16] at H
           have c16b0 : decide (0 ≤ (ji15)) = true := decide_eq_true c16
           clear c16
           by_cases c17 : (ji15) < (l0.length : Int)
           ·rw [if_pos c17] at H
            have c17b0 : decide ((ji15) < (l0.length : Int)) = true := decide_eq_true c17
            clear c17
            by_cases c18 : 0 ≤ x7_2
            ·rw [if_pos c18] at H
             have c18b0 : decide (0 ≤ x7_2) = true := decide_eq_true c18
             clear c18
             by_cases c19 : x7_2 < (l0.length : Int)
             ·rw [if_pos c19] at H
              have c19b0 : decide (x7_2 < (l0.length : Int)) = true := decide_eq_true c19
              clear c19
              by_cases c20 : ((rd_T77 l0 (ji15)).f1) = (wrap64 (((rd_T77 l0 x7_2).f1) + 1))
              ·rw [if_pos c20] at H
               have c20b0 : (((rd_T77 l0 (ji15)).f1) == (wrap64 (((rd_T77 l0 x7_2).f1) + 1))) = true := beq_iff_eq.mpr c20
               have c20b1 : (((rd_T77 l0 (ji15)).f1) != (wrap64 (((rd_T77 l0 x7_2).f1) + 1))) = false := bne_eq_false_iff_eq.mpr c20
               clear c20
               have H' := Aside0.mk H
               clear H
               try go_wp2
               have n0_ := Aside0.mk (Kd.R_drew HO_3.out)
               have n1_ := Aside0.mk (Kd.R_drew HO_4.out)
               have n2_ := Aside0.mk (Kd.R_drew HO_5.out)
               have n3_ := Aside0.mk (below_drew1 HB.out)
               clear HO_3
               clear HO_4
               clear HO_5
               clear HB
               have HO_3 := n0_
               have HO_4 := n1_
               have HO_5 := n2_
               have HB := n3_
               clear n0_ n1_ n2_ n3_
               have p889 : 0 ≤ (x6_1 : Int) := od_
               have q889 : x6_1 < (t882.length : Int) := od_
               obtain ⟨ad889, e889, hx889_0⟩ := Kd.at_int (Kd.R_reads' HO_4.out).2.2 x6_1 p889 q889
               obtain rfl : ad888 = ad889 := (by injection e889)
               replace p889 := eq_true p889
               replace q889 := eq_true q889
               have p891 : 0 ≤ ((ji15) : Int) := od_
               have q891 : (ji15) < (l0.length : Int) := od_
               obtain ⟨ad891, e891, hx891_0, hx891_1⟩ := at_T77 HR0.out (ji15) p891 q891
               have hw891_1 := hx891_1
               have hw891_0 := hx891_0
               cases e891
               replace hx891_0 := ce_ HB hx891_0
               replace hx891_1 := ce_ HB hx891_1
               replace p891 := eq_true p891
               replace q891 := eq_true q891
               have p892 : 0 ≤ (x7_2 : Int) := od_
               have q892 : x7_2 < (l0.length : Int) := od_
               obtain ⟨ad892, e892, hx892_0, hx892_1⟩ := at_T77 HR0.out x7_2 p892 q892
               have hw892_1 := hx892_1
               have hw892_0 := hx892_0
               obtain rfl : ad891 = ad892 := (by injection e892)
               replace hx892_0 := ce_ HB hx892_0
               replace hx892_1 := ce_ HB hx892_1
               replace p892 := eq_true p892
               replace q892 := eq_true q892
               refine start_ (n := 24) (S := fun w' => w'.cell? (ad888.add (x6_1).toNat) = some (.int .i64 (rd t882 x6_1)) ∧ w'.cell? (ad891.add (((ji15)).toNat * 2)) = some (.int .i64 ((rd_T77 l0 (ji15)).f0)) ∧ w'.cell? ⟨(ad891.add (((ji15)).toNat * 2)).block, (ad891.add (((ji15)).toNat * 2)).off + 1, none⟩ = some (.int .i64 ((rd_T77 l0 (ji15)).f1)) ∧ w'.cell? (ad891.add ((x7_2).toNat * 2)) = some (.int .i64 ((rd_T77 l0 x7_2).f0)) ∧ w'.cell? ⟨(ad891.add ((x7_2).toNat * 2)).block, (ad891.add ((x7_2).toNat * 2)).off + 1, none⟩ = some (.int .i64 ((rd_T77 l0 x7_2).f1))) (ds := []) (ba_ 24 0) (by kernel_rfl) rfl rfl ⟨hx889_0, (ce_ HB hw891_0), (ce_ HB hw891_1), (ce_ HB hw892_0), (ce_ HB hw892_1)⟩ (fun hHeld => ?_); refine with_tabW spec_LeftLeaf.tab8 spec_LeftLeaf.bits8 (fun HT_ HW_ => ?_)
               generalize wr.drew = w21 at HO_3 HO_4 HO_5 HB hx889_0 hx891_0 hx891_1 hx892_0 hx892_1 hHeld ⊢
               refine pu_ 0 (some 23) (ba_ 24 1) rfl rfl (any_of HT_.out (by kernel_rfl)) ?_
               refine pu_ 1 (some 24) (ba_ 24 3) rfl rfl (any_of HT_.out (by kernel_rfl)) ?_
               refine pu_ 2 (some 25) (ba_ 24 7) rfl rfl (any_of HT_.out (by kernel_rfl)) ?_
               refine pu_ 3 (some 26) (ba_ 24 15) rfl rfl (any_of HT_.out (by kernel_rfl)) ?_
               refine pu_ 4 (some 27) (ba_ 24 31) rfl rfl (any_of HT_.out (by kernel_rfl)) ?_
               refine pu_ 5 (some 28) (ba_ 24 63) rfl rfl (any_of HT_.out (by kernel_rfl)) ?_
               refine ta_ 6 (some 29) (ba_ 24 127) rfl rfl (take_ofW HT_.out HW_.out (by kernel_rfl)) hHeld (by rintro w' ⟨s0, s1, s2, s3, s4⟩; go_simp; with_reducible rfl) ?_
               refine one_ (i := 7) (N := some 30) (ba_ 24 255) rfl rfl (one_of HT_.out (by kernel_rfl)) (by decide) (fun K hK => ?_)
               refine goes_ Try.func91 (by kernel_rfl) rfl #[.slice (some ad891) l0.length c0, .int .i64 (rd t882 x6_1)] (by rfl) rfl rfl (by (try simp only [List.map_toArray, List.map_cons, List.map_nil]); first | done | rfl | (simp only [List.length_drop, List.length_take]; rfl)) ?_
               with_reducible refine (spec_EndOf.calls k2 _ _ l0 (rd t882 x6_1) t890 _ ?side1 ?side2 A13.out).mono ?_
               (case side1 => exact cx_ HR0 HB)
               (case side2 => exact HC0.out)
               rintro e w22 ⟨rfl, hb⟩
               have HS0_ := (hb.cell (World.block_lt_of_cell? _ _ (hHeld.1))).trans (hHeld.1)
               refine ⟨_, rfl, ?_⟩
               have n0_ := tR_ HO_3 hb
               have n1_ := tR_ HO_4 hb
               have n2_ := tR_ HO_5 hb
               have n3_ := tB_ HB hb
               clear HO_3
               clear HO_4
               clear HO_5
               clear HB
               have HO_3 := n0_
               have HO_4 := n1_
               have HO_5 := n2_
               have HB := n3_
               clear n0_ n1_ n2_ n3_
               (try clear hb)
               (try clear hb2)
               (try clear hk)
               (try clear hi)
               refine hK.out _ _ ⟨HS0_, (ce_ HB hw891_0), (ce_ HB hw891_1), (ce_ HB hw892_0), (ce_ HB hw892_1)⟩ (fun hHeld => ?_)
               clear hK K
               refine norm_ (a' := ?_) ?_ ?_
               rotate_left
               ·show Act.put _ (some 30) _ = _
                simp only [Act.put, List.setIfInBounds_toArray, List.set_cons_zero, List.set_cons_succ, i64_w, i32_w]
                rfl
               refine pu_ 8 (some 31) (ba_ 24 511) rfl rfl (any_of HT_.out (by kernel_rfl)) ?_
               refine pu_ 9 (some 32) (ba_ 24 1023) rfl rfl (any_of HT_.out (by kernel_rfl)) ?_
               refine pu_ 10 (some 33) (ba_ 24 2047) rfl rfl (any_of HT_.out (by kernel_rfl)) ?_
               refine pu_ 11 (some 34) (ba_ 24 4095) rfl rfl (any_of HT_.out (by kernel_rfl)) ?_
               refine pu_ 12 (some 35) (ba_ 24 8191) rfl rfl (any_of HT_.out (by kernel_rfl)) ?_
               refine pu_ 13 (some 36) (ba_ 24 16383) rfl rfl (any_of HT_.out (by kernel_rfl)) ?_
               refine pu_ 14 (some 37) (ba_ 24 32767) rfl rfl (any_of HT_.out (by kernel_rfl)) ?_
               refine pu_ 16 (some 39) (ba_ 24 98303) rfl rfl (any_of HT_.out (by kernel_rfl)) ?_
               refine pu_ 17 (some 40) (ba_ 24 229375) rfl rfl (any_of HT_.out (by kernel_rfl)) ?_
               refine pu_ 18 (some 41) (ba_ 24 491519) rfl rfl (any_of HT_.out (by kernel_rfl)) ?_
               refine pu_ 19 (some 42) (ba_ 24 1015807) rfl rfl (any_of HT_.out (by kernel_rfl)) ?_
               refine ta_ 15 (some 38) (ba_ 24 1048575) rfl rfl (take_ofW HT_.out HW_.out (by kernel_rfl)) hHeld (by rintro w' ⟨s0, s1, s2, s3, s4⟩; go_simp; with_reducible rfl) ?_
               refine ta_ 20 (some 43) (ba_ 24 2097151) rfl rfl (take_ofW HT_.out HW_.out (by kernel_rfl)) hHeld (by rintro w' ⟨s0, s1, s2, s3, s4⟩; go_simp; with_reducible rfl) ?_
               refine pu_ 21 (some 44) (ba_ 24 4194303) rfl rfl (any_of HT_.out (by kernel_rfl)) ?_
               refine pu_ 22 (some 45) (ba_ 24 8388607) rfl rfl (any_of HT_.out (by kernel_rfl)) ?_
               refine pu_ 23 (some 46) (ba_ 24 16777215) rfl rfl (any_of HT_.out (by kernel_rfl)) ?_
               refine done_ (done_of HT_.out (by kernel_rfl)) ?_
               try go_wp2
               go_roundg k2
               case measure => have := HK1.out; have := HK2.out; omega
               case rel => exact ⟨(ji15), (by first | rfl | (simp; done) | (simp only [← hji15] <;> (first | rfl | simp)) | (simp [*]; done)), H', ⟨by have := HK1.out; have := HK2.out; omega⟩, ⟨rx_ HO_3.out⟩, ⟨rx_ HO_4.out⟩, ⟨rx_ HO_5.out⟩, bl_ HB⟩
              ·rw [if_neg c20] at H
               have c20b0 : (((rd_T77 l0 (ji15)).f1) == (wrap64 (((rd_T77 l0 x7_2).f1) + 1))) = false := beq_eq_false_iff_ne.mpr c20
               have c20b1 : (((rd_T77 l0 (ji15)).f1) != (wrap64 (((rd_T77 l0 x7_2).f1) + 1))) = true := bne_iff_ne.mpr c20
               by_cases c23 : x7_2 < (t885.length : Int)
               ·rw [if_pos c23] at H
                have c23b0 : decide (x7_2 < (t885.length : Int)) = true := decide_eq_true c23
                clear c23
                by_cases c24 : x3_1.length < 17592186044416
                ·rw [if_pos c24] at H
                 have LMc24 := Aside0.mk c24
                 clear c24
                 obtain ⟨y894, hy894⟩ : ∃ y_ : List Int, y_ = (x3_1 ++ [rd t885 x7_2]) := ⟨_, rfl⟩
                 replace H : (spec_LeftLeaf.l0 k2 l0 y894 t882 t885 (wrap64 (x6_1 + 1))) = some r := by first | (rw [hy894]; with_reducible exact H) | (have H2_ := (Option.bind_some _ _).symm.trans H; rw [hy894]; with_reducible exact H2_) | (have H2_ := (Option.bind_some _ _).symm.trans H; with_reducible exact H2_) | with_reducible exact H | (rw [hy894]; exact H) | exact H
                 have Ny894 := Aside0.mk hy894
                 clear hy894
                 have H' := Aside0.mk H
                 clear H
                 try go_wp2
                 have n0_ := Aside0.mk (Kd.R_drew HO_3.out)
                 have n1_ := Aside0.mk (Kd.R_drew HO_4.out)
                 have n2_ := Aside0.mk (Kd.R_drew HO_5.out)
                 have n3_ := Aside0.mk (below_drew1 HB.out)
                 clear HO_3
                 clear HO_4
                 clear HO_5
                 clear HB
                 have HO_3 := n0_
                 have HO_4 := n1_
                 have HO_5 := n2_
                 have HB := n3_
                 clear n0_ n1_ n2_ n3_
                 have p889 : 0 ≤ (x6_1 : Int) := od_
                 have q889 : x6_1 < (t882.length : Int) := od_
                 obtain ⟨ad889, e889, hx889_0⟩ := Kd.at_int (Kd.R_reads' HO_4.out).2.2 x6_1 p889 q889
                 obtain rfl : ad888 = ad889 := (by injection e889)
                 replace p889 := eq_true p889
                 replace q889 := eq_true q889
                 have p891 : 0 ≤ ((ji15) : Int) := od_
                 have q891 : (ji15) < (l0.length : Int) := od_
                 obtain ⟨ad891, e891, hx891_0, hx891_1⟩ := at_T77 HR0.out (ji15) p891 q891
                 have hw891_1 := hx891_1
                 have hw891_0 := hx891_0
                 cases e891
                 replace hx891_0 := ce_ HB hx891_0
                 replace hx891_1 := ce_ HB hx891_1
                 replace p891 := eq_true p891
                 replace q891 := eq_true q891
                 have p892 : 0 ≤ (x7_2 : Int) := od_
                 have q892 : x7_2 < (l0.length : Int) := od_
                 obtain ⟨ad892, e892, hx892_0, hx892_1⟩ := at_T77 HR0.out x7_2 p892 q892
                 have hw892_1 := hx892_1
                 have hw892_0 := hx892_0
                 obtain rfl : ad891 = ad892 := (by injection e892)
                 replace hx892_0 := ce_ HB hx892_0
                 replace hx892_1 := ce_ HB hx892_1
                 replace p892 := eq_true p892
                 replace q892 := eq_true q892
                 refine start_ (n := 24) (S := fun w' => w'.cell? (ad888.add (x6_1).toNat) = some (.int .i64 (rd t882 x6_1)) ∧ w'.cell? (ad891.add (((ji15)).toNat * 2)) = some (.int .i64 ((rd_T77 l0 (ji15)).f0)) ∧ w'.cell? ⟨(ad891.add (((ji15)).toNat * 2)).block, (ad891.add (((ji15)).toNat * 2)).off + 1, none⟩ = some (.int .i64 ((rd_T77 l0 (ji15)).f1)) ∧ w'.cell? (ad891.add ((x7_2).toNat * 2)) = some (.int .i64 ((rd_T77 l0 x7_2).f0)) ∧ w'.cell? ⟨(ad891.add ((x7_2).toNat * 2)).block, (ad891.add ((x7_2).toNat * 2)).off + 1, none⟩ = some (.int .i64 ((rd_T77 l0 x7_2).f1))) (ds := []) (ba_ 24 0) (by kernel_rfl) rfl rfl ⟨hx889_0, (ce_ HB hw891_0), (ce_ HB hw891_1), (ce_ HB hw892_0), (ce_ HB hw892_1)⟩ (fun hHeld => ?_); refine with_tabW spec_LeftLeaf.tab8 spec_LeftLeaf.bits8 (fun HT_ HW_ => ?_)
                 generalize wr.drew = w25 at HO_3 HO_4 HO_5 HB hx889_0 hx891_0 hx891_1 hx892_0 hx892_1 hHeld ⊢
                 refine pu_ 0 (some 23) (ba_ 24 1) rfl rfl (any_of HT_.out (by kernel_rfl)) ?_
                 refine pu_ 1 (some 24) (ba_ 24 3) rfl rfl (any_of HT_.out (by kernel_rfl)) ?_
                 refine pu_ 2 (some 25) (ba_ 24 7) rfl rfl (any_of HT_.out (by kernel_rfl)) ?_
                 refine pu_ 3 (some 26) (ba_ 24 15) rfl rfl (any_of HT_.out (by kernel_rfl)) ?_
                 refine pu_ 4 (some 27) (ba_ 24 31) rfl rfl (any_of HT_.out (by kernel_rfl)) ?_
                 refine pu_ 5 (some 28) (ba_ 24 63) rfl rfl (any_of HT_.out (by kernel_rfl)) ?_
                 refine ta_ 6 (some 29) (ba_ 24 127) rfl rfl (take_ofW HT_.out HW_.out (by kernel_rfl)) hHeld (by rintro w' ⟨s0, s1, s2, s3, s4⟩; go_simp; with_reducible rfl) ?_
                 refine one_ (i := 7) (N := some 30) (ba_ 24 255) rfl rfl (one_of HT_.out (by kernel_rfl)) (by decide) (fun K hK => ?_)
                 refine goes_ Try.func91 (by kernel_rfl) rfl #[.slice (some ad891) l0.length c0, .int .i64 (rd t882 x6_1)] (by rfl) rfl rfl (by (try simp only [List.map_toArray, List.map_cons, List.map_nil]); first | done | rfl | (simp only [List.length_drop, List.length_take]; rfl)) ?_
                 with_reducible refine (spec_EndOf.calls k2 _ _ l0 (rd t882 x6_1) t890 _ ?side1 ?side2 A13.out).mono ?_
                 (case side1 => exact cx_ HR0 HB)
                 (case side2 => exact HC0.out)
                 rintro e w26 ⟨rfl, hb⟩
                 have HS0_ := (hb.cell (World.block_lt_of_cell? _ _ (hHeld.1))).trans (hHeld.1)
                 refine ⟨_, rfl, ?_⟩
                 have n0_ := tR_ HO_3 hb
                 have n1_ := tR_ HO_4 hb
                 have n2_ := tR_ HO_5 hb
                 have n3_ := tB_ HB hb
                 clear HO_3
                 clear HO_4
                 clear HO_5
                 clear HB
                 have HO_3 := n0_
                 have HO_4 := n1_
                 have HO_5 := n2_
                 have HB := n3_
                 clear n0_ n1_ n2_ n3_
                 (try clear hb)
                 (try clear hb2)
                 (try clear hk)
                 (try clear hi)
                 refine hK.out _ _ ⟨HS0_, (ce_ HB hw891_0), (ce_ HB hw891_1), (ce_ HB hw892_0), (ce_ HB hw892_1)⟩ (fun hHeld => ?_)
                 clear hK K
                 refine norm_ (a' := ?_) ?_ ?_
                 rotate_left
                 ·show Act.put _ (some 30) _ = _
                  simp only [Act.put, List.setIfInBounds_toArray, List.set_cons_zero, List.set_cons_succ, i64_w, i32_w]
                  rfl
                 refine pu_ 8 (some 31) (ba_ 24 511) rfl rfl (any_of HT_.out (by kernel_rfl)) ?_
                 refine pu_ 9 (some 32) (ba_ 24 1023) rfl rfl (any_of HT_.out (by kernel_rfl)) ?_
                 refine pu_ 10 (some 33) (ba_ 24 2047) rfl rfl (any_of HT_.out (by kernel_rfl)) ?_
                 refine pu_ 11 (some 34) (ba_ 24 4095) rfl rfl (any_of HT_.out (by kernel_rfl)) ?_
                 refine pu_ 12 (some 35) (ba_ 24 8191) rfl rfl (any_of HT_.out (by kernel_rfl)) ?_
                 refine pu_ 13 (some 36) (ba_ 24 16383) rfl rfl (any_of HT_.out (by kernel_rfl)) ?_
                 refine pu_ 14 (some 37) (ba_ 24 32767) rfl rfl (any_of HT_.out (by kernel_rfl)) ?_
                 refine pu_ 16 (some 39) (ba_ 24 98303) rfl rfl (any_of HT_.out (by kernel_rfl)) ?_
                 refine pu_ 17 (some 40) (ba_ 24 229375) rfl rfl (any_of HT_.out (by kernel_rfl)) ?_
                 refine pu_ 18 (some 41) (ba_ 24 491519) rfl rfl (any_of HT_.out (by kernel_rfl)) ?_
                 refine pu_ 19 (some 42) (ba_ 24 1015807) rfl rfl (any_of HT_.out (by kernel_rfl)) ?_
                 refine ta_ 15 (some 38) (ba_ 24 1048575) rfl rfl (take_ofW HT_.out HW_.out (by kernel_rfl)) hHeld (by rintro w' ⟨s0, s1, s2, s3, s4⟩; go_simp; with_reducible rfl) ?_
                 refine ta_ 20 (some 43) (ba_ 24 2097151) rfl rfl (take_ofW HT_.out HW_.out (by kernel_rfl)) hHeld (by rintro w' ⟨s0, s1, s2, s3, s4⟩; go_simp; with_reducible rfl) ?_
                 refine pu_ 21 (some 44) (ba_ 24 4194303) rfl rfl (any_of HT_.out (by kernel_rfl)) ?_
                 refine pu_ 22 (some 45) (ba_ 24 8388607) rfl rfl (any_of HT_.out (by kernel_rfl)) ?_
                 refine pu_ 23 (some 46) (ba_ 24 16777215) rfl rfl (any_of HT_.out (by kernel_rfl)) ?_
                 refine done_ (done_of HT_.out (by kernel_rfl)) ?_
                 obtain ⟨Ao27, co27, eo27⟩ := Kd.R_slice HO_5.out
                 subst eo27
                 have p893 : 0 ≤ (x7_2 : Int) := od_
                 have q893 : x7_2 < (t885.length : Int) := od_
                 obtain ⟨ad893, e893, hx893_0⟩ := Kd.at_int (Kd.R_reads' HO_5.out).2.2 x7_2 p893 q893
                 cases e893
                 replace p893 := eq_true p893
                 replace q893 := eq_true q893
                 try go_wp2_with (first | ((with_reducible refine gate_builtin (b := .append) (xs := #[.tmp 49, .tmp 54]) rfl ?_); at_builtin; refine Kd.R_append (Kd.int .i64) (w0 := w) w.heap.size rfl (.tmp 49) (.tmp 54) 25 3 (.int .i64 0) 8 rfl Try.underlying25 info3 rfl (by decide) (by omega) u3 x3_1 (rd t885 x7_2) [.int .i64 (rd t885 x7_2)] (fun k_ => some k_ ≠ (.slice (some ad888) t882.length co10 : Value).ownBlock ∧ some k_ ≠ (.slice (some ad893) t885.length co27 : Value).ownBlock) (fun _ => False) rfl rfl ?aP (fun _ hk => hk.elim) ?aF ?aO ?aB ?aS ?aL ?_; (case aP => exact rfl); (case aB => exact ((bl_ HB).out)); (case aF => exact (fun k_ hk => ⟨Kd.fresh' (Kd.R_lt (rx_ HO_4.out)) k_ hk, Kd.fresh' (Kd.R_lt (rx_ HO_5.out)) k_ hk⟩)); (case aO => exact (rx_ HO_3.out)); (case aS => exact (bs_ HB)); (case aL => have := LMc24.out; omega); intro v895 w28 ho hb hg hat; rw [← Ny894.out] at ho; replace HO_4 := Aside0.mk (Kd.R_after (ok := (fun k_ => some k_ ≠ (.slice (some ad893) t885.length co27 : Value).ownBlock)) (rx_ (Kd.R_mono HO_4.out (fun _ hk => ⟨hk.2, hk.1⟩))) hg hat); replace HO_5 := Aside0.mk (Kd.R_after (ok := (fun k_ => some k_ ≠ (.slice (some ad888) t882.length co10 : Value).ownBlock)) (rx_ (Kd.R_mono HO_5.out (fun _ hk => ⟨hk.2, hk.1⟩))) hg hat); replace HB := Aside0.mk (hb); have HO896 := Aside0.mk (ho); clear HO_3; clear ho hb hg hat))
                 go_roundg k2
                 case measure => have := HK1.out; have := HK2.out; omega
                 case rel => exact ⟨(y894), (wrap64 (x6_1 + 1)), eb_, H', ⟨by have := HK1.out; have := HK2.out; omega⟩, ⟨rx_ HO896.out⟩, ⟨rx_ (Kd.R_mono HO_4.out (fun _ hk => ⟨hk.2, hk.1⟩))⟩, ⟨rx_ (Kd.R_mono HO_5.out (fun _ hk => ⟨hk.2, hk.1⟩))⟩, bl_ HB⟩
                ·rw [if_neg c24] at H
                 exact absurd H (by simp)
               ·rw [if_neg c23] at H
                exact absurd H (by simp)
             ·rw [if_neg c19] at H
              exact absurd H (by simp)
            ·rw [if_neg c18] at H
             exact absurd H (by simp)
           ·rw [if_neg c17] at H
            exact absurd H (by simp)
          ·rw [if_neg c16] at H
           exact absurd H (by simp)
         ·rw [if_neg c14] at H
          have c14b0 : decide ((wrap64 (x7_2 + 1)) < t890) = false := decide_eq_false c14
          clear c14
          by_cases c29 : 0 ≤ x7_2
          ·rw [if_pos c29] at H
           have c29b0 : decide (0 ≤ x7_2) = true := decide_eq_true c29
           clear c29
           by_cases c30 : x7_2 < (t885.length : Int)
           ·rw [if_pos c30] at H
            have c30b0 : decide (x7_2 < (t885.length : Int)) = true := decide_eq_true c30
            clear c30
            by_cases c31 : x3_1.length < 17592186044416
            ·rw [if_pos c31] at H
             have LMc31 := Aside0.mk c31
             clear c31
             obtain ⟨y898, hy898⟩ : ∃ y_ : List Int, y_ = (x3_1 ++ [rd t885 x7_2]) := ⟨_, rfl⟩
             replace H : (spec_LeftLeaf.l0 k2 l0 y898 t882 t885 (wrap64 (x6_1 + 1))) = some r := by first | (rw [hy898]; with_reducible exact H) | (have H2_ := (Option.bind_some _ _).symm.trans H; rw [hy898]; with_reducible exact H2_) | (have H2_ := (Option.bind_some _ _).symm.trans H; with_reducible exact H2_) | with_reducible exact H | (rw [hy898]; exact H) | exact H
             have Ny898 := Aside0.mk hy898
             clear hy898
             have H' := Aside0.mk H
             clear H
             try go_wp2
             have n0_ := Aside0.mk (Kd.R_drew HO_3.out)
             have n1_ := Aside0.mk (Kd.R_drew HO_4.out)
             have n2_ := Aside0.mk (Kd.R_drew HO_5.out)
             have n3_ := Aside0.mk (below_drew1 HB.out)
             clear HO_3
             clear HO_4
             clear HO_5
             clear HB
             have HO_3 := n0_
             have HO_4 := n1_
             have HO_5 := n2_
             have HB := n3_
             clear n0_ n1_ n2_ n3_
             have p889 : 0 ≤ (x6_1 : Int) := od_
             have q889 : x6_1 < (t882.length : Int) := od_
             obtain ⟨ad889, e889, hx889_0⟩ := Kd.at_int (Kd.R_reads' HO_4.out).2.2 x6_1 p889 q889
             obtain rfl : ad888 = ad889 := (by injection e889)
             replace p889 := eq_true p889
             replace q889 := eq_true q889
             refine start_ (n := 24) (S := fun w' => w'.cell? (ad888.add (x6_1).toNat) = some (.int .i64 (rd t882 x6_1))) (ds := []) (ba_ 24 0) (by kernel_rfl) rfl rfl (hx889_0) (fun hHeld => ?_); refine with_tabW spec_LeftLeaf.tab8 spec_LeftLeaf.bits8 (fun HT_ HW_ => ?_)
             generalize wr.drew = w32 at HO_3 HO_4 HO_5 HB hx889_0 hHeld ⊢
             refine pu_ 0 (some 23) (ba_ 24 1) rfl rfl (any_of HT_.out (by kernel_rfl)) ?_
             refine pu_ 1 (some 24) (ba_ 24 3) rfl rfl (any_of HT_.out (by kernel_rfl)) ?_
             refine pu_ 2 (some 25) (ba_ 24 7) rfl rfl (any_of HT_.out (by kernel_rfl)) ?_
             refine pu_ 3 (some 26) (ba_ 24 15) rfl rfl (any_of HT_.out (by kernel_rfl)) ?_
             refine pu_ 4 (some 27) (ba_ 24 31) rfl rfl (any_of HT_.out (by kernel_rfl)) ?_
             refine pu_ 5 (some 28) (ba_ 24 63) rfl rfl (any_of HT_.out (by kernel_rfl)) ?_
             refine take_ (i := 6) (N := some 29) (v := ?_) (a' := ?_) (ba_ 24 127) rfl rfl (take_ofW HT_.out HW_.out (by kernel_rfl)) (fun _ _ _ h => h) (Or.inl ⟨by rfl, ?_⟩) hHeld ?_ ?_
             rotate_left
             ·intro w' s0
              go_simp
              with_reducible rfl
             rotate_left
             ·simp only [Act.put, List.setIfInBounds_toArray, List.set_cons_zero, List.set_cons_succ, i64_w, i32_w]
              rfl
             refine one_ (i := 7) (N := some 30) (ba_ 24 255) rfl rfl (one_of HT_.out (by kernel_rfl)) (by decide) (fun K hK => ?_)
             refine goes_ Try.func91 (by kernel_rfl) rfl #[.slice A0 l0.length c0, .int .i64 (rd t882 x6_1)] (by rfl) rfl rfl (by (try simp only [List.map_toArray, List.map_cons, List.map_nil]); first | done | rfl | (simp only [List.length_drop, List.length_take]; rfl)) ?_
             with_reducible refine (spec_EndOf.calls k2 _ _ l0 (rd t882 x6_1) t890 _ ?side1 ?side2 A13.out).mono ?_
             (case side1 => exact cx_ HR0 HB)
             (case side2 => exact HC0.out)
             rintro e w33 ⟨rfl, hb⟩
             have HS0_ := (hb.cell (World.block_lt_of_cell? _ _ (hHeld))).trans (hHeld)
             refine ⟨_, rfl, ?_⟩
             have n0_ := tR_ HO_3 hb
             have n1_ := tR_ HO_4 hb
             have n2_ := tR_ HO_5 hb
             have n3_ := tB_ HB hb
             clear HO_3
             clear HO_4
             clear HO_5
             clear HB
             have HO_3 := n0_
             have HO_4 := n1_
             have HO_5 := n2_
             have HB := n3_
             clear n0_ n1_ n2_ n3_
             (try clear hb)
             (try clear hb2)
             (try clear hk)
             (try clear hi)
             refine hK.out _ _ (HS0_) (fun hHeld => ?_)
             clear hK K
             refine norm_ (a' := ?_) ?_ ?_
             rotate_left
             ·show Act.put _ (some 30) _ = _
              simp only [Act.put, List.setIfInBounds_toArray, List.set_cons_zero, List.set_cons_succ, i64_w, i32_w]
              rfl
             refine pu_ 8 (some 31) (ba_ 24 511) rfl rfl (any_of HT_.out (by kernel_rfl)) ?_
             refine pu_ 9 (some 32) (ba_ 24 1023) rfl rfl (any_of HT_.out (by kernel_rfl)) ?_
             refine pn_ 10 (some 33) (ba_ 24 2047) rfl rfl (any_of HT_.out (by kernel_rfl)) ?_
             refine pn_ 11 (some 34) (ba_ 24 4095) rfl rfl (any_of HT_.out (by kernel_rfl)) ?_
             refine pn_ 12 (some 35) (ba_ 24 8191) rfl rfl (any_of HT_.out (by kernel_rfl)) ?_
             refine pn_ 13 (some 36) (ba_ 24 16383) rfl rfl (any_of HT_.out (by kernel_rfl)) ?_
             refine pn_ 14 (some 37) (ba_ 24 32767) rfl rfl (any_of HT_.out (by kernel_rfl)) ?_
             refine pn_ 15 (some 38) (ba_ 24 65535) rfl rfl (any_of HT_.out (by kernel_rfl)) ?_
             refine pn_ 16 (some 39) (ba_ 24 131071) rfl rfl (any_of HT_.out (by kernel_rfl)) ?_
             refine pn_ 17 (some 40) (ba_ 24 262143) rfl rfl (any_of HT_.out (by kernel_rfl)) ?_
             refine pn_ 18 (some 41) (ba_ 24 524287) rfl rfl (any_of HT_.out (by kernel_rfl)) ?_
             refine pn_ 19 (some 42) (ba_ 24 1048575) rfl rfl (any_of HT_.out (by kernel_rfl)) ?_
             refine pn_ 20 (some 43) (ba_ 24 2097151) rfl rfl (any_of HT_.out (by kernel_rfl)) ?_
             refine pn_ 21 (some 44) (ba_ 24 4194303) rfl rfl (any_of HT_.out (by kernel_rfl)) ?_
             refine pn_ 22 (some 45) (ba_ 24 8388607) rfl rfl (any_of HT_.out (by kernel_rfl)) ?_
             refine pu_ 23 (some 46) (ba_ 24 16777215) rfl rfl (any_of HT_.out (by kernel_rfl)) ?_
             refine done_ (done_of HT_.out (by kernel_rfl)) ?_
             obtain ⟨Ao34, co34, eo34⟩ := Kd.R_slice HO_5.out
             subst eo34
             have p897 : 0 ≤ (x7_2 : Int) := od_
             have q897 : x7_2 < (t885.length : Int) := od_
             obtain ⟨ad897, e897, hx897_0⟩ := Kd.at_int (Kd.R_reads' HO_5.out).2.2 x7_2 p897 q897
             cases e897
             replace p897 := eq_true p897
             replace q897 := eq_true q897
             try go_wp2_with (first | ((with_reducible refine gate_builtin (b := .append) (xs := #[.tmp 49, .tmp 54]) rfl ?_); at_builtin; refine Kd.R_append (Kd.int .i64) (w0 := w) w.heap.size rfl (.tmp 49) (.tmp 54) 25 3 (.int .i64 0) 8 rfl Try.underlying25 info3 rfl (by decide) (by omega) u3 x3_1 (rd t885 x7_2) [.int .i64 (rd t885 x7_2)] (fun k_ => some k_ ≠ (.slice (some ad888) t882.length co10 : Value).ownBlock ∧ some k_ ≠ (.slice (some ad897) t885.length co34 : Value).ownBlock) (fun _ => False) rfl rfl ?aP (fun _ hk => hk.elim) ?aF ?aO ?aB ?aS ?aL ?_; (case aP => exact rfl); (case aB => exact ((bl_ HB).out)); (case aF => exact (fun k_ hk => ⟨Kd.fresh' (Kd.R_lt (rx_ HO_4.out)) k_ hk, Kd.fresh' (Kd.R_lt (rx_ HO_5.out)) k_ hk⟩)); (case aO => exact (rx_ HO_3.out)); (case aS => exact (bs_ HB)); (case aL => have := LMc31.out; omega); intro v899 w35 ho hb hg hat; rw [← Ny898.out] at ho; replace HO_4 := Aside0.mk (Kd.R_after (ok := (fun k_ => some k_ ≠ (.slice (some ad897) t885.length co34 : Value).ownBlock)) (rx_ (Kd.R_mono HO_4.out (fun _ hk => ⟨hk.2, hk.1⟩))) hg hat); replace HO_5 := Aside0.mk (Kd.R_after (ok := (fun k_ => some k_ ≠ (.slice (some ad888) t882.length co10 : Value).ownBlock)) (rx_ (Kd.R_mono HO_5.out (fun _ hk => ⟨hk.2, hk.1⟩))) hg hat); replace HB := Aside0.mk (hb); have HO900 := Aside0.mk (ho); clear HO_3; clear ho hb hg hat))
             go_roundg k2
             case measure => have := HK1.out; have := HK2.out; omega
             case rel => exact ⟨(y898), (wrap64 (x6_1 + 1)), eb_, H', ⟨by have := HK1.out; have := HK2.out; omega⟩, ⟨rx_ HO900.out⟩, ⟨rx_ (Kd.R_mono HO_4.out (fun _ hk => ⟨hk.2, hk.1⟩))⟩, ⟨rx_ (Kd.R_mono HO_5.out (fun _ hk => ⟨hk.2, hk.1⟩))⟩, bl_ HB⟩
            ·rw [if_neg c31] at H
             exact absurd H (by simp)
           ·rw [if_neg c30] at H
            exact absurd H (by simp)
          ·rw [if_neg c29] at H
           exact absurd H (by simp)
        ·rw [if_neg c12] at H
         exact absurd H (by simp)
       ·rw [if_neg c11] at H
        exact absurd H (by simp)
    ·rw [if_neg c9] at H
     exact absurd H (by simp)
   ·rw [if_neg c8] at H
    have c8b0 : decide (x6_1 < (t882.length : Int)) = false := decide_eq_false c8
    clear c8
    obtain rfl := Option.some.inj H
    obtain ⟨Ao36, co36, eo36⟩ := Kd.R_slice HO_4.out
    subst eo36
    go_wp2
    go_ret
    exact ⟨_, ea_, rx_ (Kd.R_mono HO_3.out (fun _ hk => trivial)), (bl_ HB).out⟩
end Go.Proofs.Ytngphdmbjenkaaa.X
namespace Go.Proofs.Ytngphdmbjenkaaa.X
open Go.RowKit Go.Proofs.YtngphdmbjenkaaaW.PrintWords Go.Proofs.YtngphdmbjenkaaaW.PrintLast Go.Proofs.YtngphdmbjenkaaaW.PrintMore
attribute [local go_sem] max2_int min2_int max_two min_two max_three min_three max_four min_four   -- for this text's walks alone
set_option linter.unusedVariables false
set_option linter.unusedSimpArgs false
def spec_l8Labels.l0 : Nat → List (S77) → List Int → List Int → Int → Option (List Int)
 | 0, _, _, _, _ => none
 | k + 1, x0, x3, x4, x5 => if x5 < (x4.length : Int) then (if 0 ≤ x5 then (if 0 ≤ (rd x4 x5) then (if (rd x4 x5) < (x0.length : Int) then (if x3.length < 17592186044416 then (spec_l8Labels.l0 k x0 (x3 ++ [(rd_T77 x0 (rd x4 x5)).f0]) x4 (wrap64 (x5 + 1))) else (none)) else (none)) else (none)) else (none)) else (some x3)
def spec_l8Labels.f (k : Nat) (l0 : List (S77)) : Option (List Int) := (spec_PostOrder.f k l0).bind fun t863 => (spec_l8Labels.l0 k l0 (([] : List Int)) t863 0)
theorem spec_l8Labels.mono_l : ∀ k, (∀ y0 y1 y2 y3, LeO (spec_l8Labels.l0 k y0 y1 y2 y3) (spec_l8Labels.l0 (k + 1) y0 y1 y2 y3))
 | 0 => fun _ _ _ _ r h => by simp [spec_l8Labels.l0] at h
 | k + 1 => by
  have ih0 := spec_l8Labels.mono_l k
  ·intro y0 y1 y2 y3
   unfold spec_l8Labels.l0
   repeat' first
   | (with_reducible exact ih0 _ _ _ _)
   | (with_reducible exact spec_PostOrder.mono _ _)
   | (with_reducible exact LeO.refl _)
   | (with_reducible exact LeO.none _)
   | (with_reducible refine LeO.ite ?_ ?_)
   | (with_reducible refine LeO.bind ?_ (fun _ => ?_))
   | exact ih0 _ _ _ _
   | exact spec_PostOrder.mono _ _
   | exact LeO.none _
   | refine LeO.ite ?_ ?_
   | refine LeO.bind ?_ (fun _ => ?_)
theorem spec_l8Labels.mono : ∀ a0 k, LeO (spec_l8Labels.f k a0) (spec_l8Labels.f (k + 1) a0) := by
 intro a0 k
 have ih0 := spec_l8Labels.mono_l k
 unfold spec_l8Labels.f
 repeat' first
   | (with_reducible exact ih0 _ _ _ _)
   | (with_reducible exact spec_PostOrder.mono _ _)
   | (with_reducible exact LeO.refl _)
   | (with_reducible exact LeO.none _)
   | (with_reducible refine LeO.ite ?_ ?_)
   | (with_reducible refine LeO.bind ?_ (fun _ => ?_))
   | exact ih0 _ _ _ _
   | exact spec_PostOrder.mono _ _
   | exact LeO.none _
   | refine LeO.ite ?_ ?_
   | refine LeO.bind ?_ (fun _ => ?_)
set_option maxHeartbeats 8000000 in
set_option maxRecDepth 100000 in
theorem spec_l8Labels.calls (k : Nat) (A0 : Option Addr) (c0 : Nat) (l0 : List (S77)) (r : List Int) (w : World) (hr0 : Kd.C k77 w A0 l0.length l0) (hc0 : l0.length ≤ c0) (h : spec_l8Labels.f k l0 = some r) :
  Calls Try.prog 121 #[.slice A0 l0.length c0] w fun e w' => ∃ v0_ : Value, e = .returned (v0_) ∧ Kd.R (Kd.int .i64) 3 w' w.heap.size (fun _ => True) v0_ r ∧ Below w.heap.size w w' := by
 have HR0 := Aside0.mk hr0
 have HC0 := Aside0.mk hc0
 clear hr0 hc0
 have HB := Aside0.mk (Below.refl w.heap.size w)
 have H : ((spec_PostOrder.f k l0).bind fun t863 => (spec_l8Labels.l0 k l0 (([] : List Int)) t863 0)) = some r := h
 clear h
 obtain ⟨y860, hy860⟩ : ∃ y_ : List Int, y_ = (([] : List Int)) := ⟨_, rfl⟩
 replace H : ((spec_PostOrder.f k l0).bind fun t863 => (spec_l8Labels.l0 k l0 y860 t863 0)) = some r := by first | (rw [hy860]; with_reducible exact H) | (have H2_ := (Option.bind_some _ _).symm.trans H; rw [hy860]; with_reducible exact H2_) | (have H2_ := (Option.bind_some _ _).symm.trans H; with_reducible exact H2_) | with_reducible exact H | (rw [hy860]; exact H) | exact H
 have Ny860 := Aside0.mk hy860
 clear hy860
 replace H := Option.bind_eq_some_iff.mp H
 obtain ⟨t863, A20, H⟩ := H
 replace H : (spec_l8Labels.l0 k l0 y860 t863 0) = some r := H
 have A2 := Aside0.mk A20
 clear A20
 have H' := Aside0.mk H
 clear H
 go_enter Try.func121, Try.ntmps121
 go_wp2_with (first | ((with_reducible refine gate_dst (N := 6) rfl ?_); refine Kd.R_lit (Kd.int .i64) _ 3 ?hg (N := 6) ?hd (xs := ([] : List Int)) (inner := []) (ok := fun _ => True) (okp := fun _ => True) ?hr ?hp (fun _ hk => hk) trivial (Below.refl _ _) (Nat.le_refl _) (by simp) ?_; (case hd => rfl); (case hg => rfl); (case hr => first | (go_simp; done) | (go_simp; rfl)); (case hp => exact (Reps.none _ _)); intro v861 w3 ho4 hb hg_ hnew_; clear hg_ hnew_; (first | rw [← Ny860.out] at ho4 | (simp only [Int.reduceToNat] at ho4; rw [← Ny860.out] at ho4)); have HO862 := Aside0.mk (Kd.R_lower ho4 (bs_ HB)); replace HB := tB_ HB hb; clear hb ho4) | ((with_reducible refine gate_callee (f := 98) rfl ?_); refine gL_ (some 8) Try.func98 #[.slice A0 l0.length c0] ?_; (with_reducible refine (spec_PostOrder.calls k _ _ l0 t863 _ (cx_ HR0 HB) HC0.out A2.out).mono ?_); rintro e w5 ⟨v864, rfl, ho0, hb⟩; refine ⟨_, rfl, ?_⟩; have HO865 := Aside0.mk (Kd.R_lower (Kd.R_new' ho0 (Kd.R_lt (rx_ HO862.out))) (bs_ HB)); replace HO862 := Aside0.mk (Kd.R_elder' (rx_ HO862.out) (Kd.R_base ho0) hb); replace HB := tB_ HB hb; (try clear hb); (try clear ho0)))
 go_loopg [3, 5] k (fun kq v3 v5 w' => ∃ (x3_1 : List Int) (x5_1 : Int), v5 = .int .i64 x5_1 ∧ Aside0 (spec_l8Labels.l0 kq l0 x3_1 t863 x5_1 = some r) ∧ Aside0 (kq ≤ k) ∧ Aside0 (Kd.R (Kd.int .i64) 3 w' w.heap.size (fun k_ => some k_ ≠ (v864 : Value).ownBlock) v3 x3_1) ∧ Aside0 (Kd.R (Kd.int .i64) 3 w' w.heap.size (fun k_ => some k_ ≠ (v3 : Value).ownBlock) v864 t863) ∧ Aside0 (Below w.heap.size w w'))
 case atStart => exact ⟨(y860), (0), eb_, H', ⟨Nat.le_refl _⟩, ⟨rx_ (Kd.R_mono HO862.out (fun _ hk => hk.2))⟩, ⟨rx_ (Kd.R_mono HO865.out (fun _ hk => hk.2))⟩, bl_ HB⟩
 case round =>
  clear H'
  try clear c1
  try clear p2
  obtain ⟨x3_1, x5_1, rfl, HA, HK1, HO_3, HO_4, HB⟩ := hrel
  cases gk with
  | zero => exact absurd HA.out (by simp [spec_l8Labels.l0])
  | succ k1 =>
   have H := HA.out
   clear HA
   simp only [spec_l8Labels.l0] at H
   by_cases c6 : x5_1 < (t863.length : Int)
   ·rw [if_pos c6] at H
    have c6b0 : decide (x5_1 < (t863.length : Int)) = true := decide_eq_true c6
    clear c6
    by_cases c7 : 0 ≤ x5_1
    ·rw [if_pos c7] at H
     have c7b0 : decide (0 ≤ x5_1) = true := decide_eq_true c7
     clear c7
     by_cases c8 : 0 ≤ (rd t863 x5_1)
     ·rw [if_pos c8] at H
      have c8b0 : decide (0 ≤ (rd t863 x5_1)) = true := decide_eq_true c8
      clear c8
      by_cases c9 : (rd t863 x5_1) < (l0.length : Int)
      ·rw [if_pos c9] at H
       have c9b0 : decide ((rd t863 x5_1) < (l0.length : Int)) = true := decide_eq_true c9
       clear c9
       by_cases c10 : x3_1.length < 17592186044416
       ·rw [if_pos c10] at H
        have LMc10 := Aside0.mk c10
        clear c10
        obtain ⟨y868, hy868⟩ : ∃ y_ : List Int, y_ = (x3_1 ++ [(rd_T77 l0 (rd t863 x5_1)).f0]) := ⟨_, rfl⟩
        replace H : (spec_l8Labels.l0 k1 l0 y868 t863 (wrap64 (x5_1 + 1))) = some r := by first | (rw [hy868]; with_reducible exact H) | (have H2_ := (Option.bind_some _ _).symm.trans H; rw [hy868]; with_reducible exact H2_) | (have H2_ := (Option.bind_some _ _).symm.trans H; with_reducible exact H2_) | with_reducible exact H | (rw [hy868]; exact H) | exact H
        have Ny868 := Aside0.mk hy868
        clear hy868
        have H' := Aside0.mk H
        clear H
        obtain ⟨Ao11, co11, eo11⟩ := Kd.R_slice HO_4.out
        subst eo11
        have p866 : 0 ≤ (x5_1 : Int) := od_
        have q866 : x5_1 < (t863.length : Int) := od_
        obtain ⟨ad866, e866, hx866_0⟩ := Kd.at_int (Kd.R_reads' HO_4.out).2.2 x5_1 p866 q866
        cases e866
        replace p866 := eq_true p866
        replace q866 := eq_true q866
        have p867 : 0 ≤ ((rd t863 x5_1) : Int) := od_
        have q867 : (rd t863 x5_1) < (l0.length : Int) := od_
        obtain ⟨ad867, e867, hx867_0, hx867_1⟩ := at_T77 HR0.out (rd t863 x5_1) p867 q867
        cases e867
        replace hx867_0 := ce_ HB hx867_0
        replace hx867_1 := ce_ HB hx867_1
        replace p867 := eq_true p867
        replace q867 := eq_true q867
        go_wp2_with (first | ((with_reducible refine gate_builtin (b := .append) (xs := #[.tmp 15, .tmp 24]) rfl ?_); at_builtin; refine Kd.R_append (Kd.int .i64) (w0 := w) w.heap.size rfl (.tmp 15) (.tmp 24) 25 3 (.int .i64 0) 8 rfl Try.underlying25 info3 rfl (by decide) (by omega) u3 x3_1 ((rd_T77 l0 (rd t863 x5_1)).f0) [.int .i64 ((rd_T77 l0 (rd t863 x5_1)).f0)] (fun k_ => some k_ ≠ (.slice (some ad866) t863.length co11 : Value).ownBlock) (fun _ => False) rfl rfl ?aP (fun _ hk => hk.elim) ?aF ?aO ?aB ?aS ?aL ?_; (case aP => exact rfl); (case aB => exact ((bl_ HB).out)); (case aF => exact (fun k_ hk => Kd.fresh' (Kd.R_lt (rx_ HO_4.out)) k_ hk)); (case aO => exact (rx_ HO_3.out)); (case aS => exact (bs_ HB)); (case aL => have := LMc10.out; omega); intro v869 w12 ho hb hg hat; rw [← Ny868.out] at ho; replace HO_4 := Aside0.mk (Kd.R_after (ok := (fun _ => True)) (rx_ (Kd.R_mono HO_4.out (fun _ hk => ⟨trivial, hk⟩))) hg hat); replace HB := Aside0.mk (hb); have HO870 := Aside0.mk (ho); clear HO_3; clear ho hb hg hat))
        go_roundg k1
        case measure => have := HK1.out; omega
        case rel => exact ⟨(y868), (wrap64 (x5_1 + 1)), eb_, H', ⟨by have := HK1.out; omega⟩, ⟨rx_ HO870.out⟩, ⟨rx_ (Kd.R_mono HO_4.out (fun _ hk => hk.2))⟩, bl_ HB⟩
       ·rw [if_neg c10] at H
        exact absurd H (by simp)
      ·rw [if_neg c9] at H
       exact absurd H (by simp)
     ·rw [if_neg c8] at H
      exact absurd H (by simp)
    ·rw [if_neg c7] at H
     exact absurd H (by simp)
   ·rw [if_neg c6] at H
    have c6b0 : decide (x5_1 < (t863.length : Int)) = false := decide_eq_false c6
    clear c6
    obtain rfl := Option.some.inj H
    obtain ⟨Ao13, co13, eo13⟩ := Kd.R_slice HO_4.out
    subst eo13
    go_wp2
    go_ret
    exact ⟨_, ea_, rx_ (Kd.R_mono HO_3.out (fun _ hk => trivial)), (bl_ HB).out⟩
end Go.Proofs.Ytngphdmbjenkaaa.X
namespace Go.Proofs.Ytngphdmbjenkaaa.X
open Go.RowKit Go.Proofs.YtngphdmbjenkaaaW.PrintWords Go.Proofs.YtngphdmbjenkaaaW.PrintLast Go.Proofs.YtngphdmbjenkaaaW.PrintMore
attribute [local go_sem] max2_int min2_int max_two min_two max_three min_three max_four min_four   -- for this text's walks alone
set_option linter.unusedVariables false
set_option linter.unusedSimpArgs false
mutual
def spec_KeyRoots.l0 : Nat → List Int → List Int → Int → Option (List Int)
 | 0, _, _, _ => none
 | k + 1, x3, x4, x5 => if x5 < (x4.length : Int) then (spec_KeyRoots.l1 k x3 x4 x5 true (wrap64 (x5 + 1))) else (some x3)
def spec_KeyRoots.l1 : Nat → List Int → List Int → Int → Bool → Int → Option (List Int)
 | 0, _, _, _, _, _ => none
 | k + 1, x3, x4, x5, x6, x7 => if x7 < (x4.length : Int) then (if x6 = true then (if 0 ≤ x7 then (if 0 ≤ x5 then (if x5 < (x4.length : Int) then (spec_KeyRoots.l1 k x3 x4 x5 ((rd x4 x7) != (rd x4 x5)) (wrap64 (x7 + 1))) else (none)) else (none)) else (none)) else (spec_KeyRoots.l1 k x3 x4 x5 false (wrap64 (x7 + 1)))) else (if x6 = true then (if x3.length < 17592186044416 then (spec_KeyRoots.l0 k (x3 ++ [x5]) x4 (wrap64 (x5 + 1))) else (none)) else (spec_KeyRoots.l0 k x3 x4 (wrap64 (x5 + 1))))
end
def spec_KeyRoots.f (k : Nat) (l0 : List (S77)) : Option (List Int) := (spec_LeftLeaf.f k l0).bind fun t904 => (spec_KeyRoots.l0 k (([] : List Int)) t904 0)
theorem spec_KeyRoots.mono_l : ∀ k, (∀ y0 y1 y2, LeO (spec_KeyRoots.l0 k y0 y1 y2) (spec_KeyRoots.l0 (k + 1) y0 y1 y2)) ∧ (∀ y0 y1 y2 y3 y4, LeO (spec_KeyRoots.l1 k y0 y1 y2 y3 y4) (spec_KeyRoots.l1 (k + 1) y0 y1 y2 y3 y4))
 | 0 => ⟨fun _ _ _ r h => by simp [spec_KeyRoots.l0] at h, fun _ _ _ _ _ r h => by simp [spec_KeyRoots.l1] at h⟩
 | k + 1 => by
  obtain ⟨ih0, ih1⟩ := spec_KeyRoots.mono_l k
  refine ⟨?_, ?_⟩
  ·intro y0 y1 y2
   unfold spec_KeyRoots.l0
   repeat' first
   | (with_reducible exact ih0 _ _ _)
   | (with_reducible exact ih1 _ _ _ _ _)
   | (with_reducible exact spec_LeftLeaf.mono _ _)
   | (with_reducible exact LeO.refl _)
   | (with_reducible exact LeO.none _)
   | (with_reducible refine LeO.ite ?_ ?_)
   | (with_reducible refine LeO.bind ?_ (fun _ => ?_))
   | exact ih0 _ _ _
   | exact ih1 _ _ _ _ _
   | exact spec_LeftLeaf.mono _ _
   | exact LeO.none _
   | refine LeO.ite ?_ ?_
   | refine LeO.bind ?_ (fun _ => ?_)
  ·intro y0 y1 y2 y3 y4
   unfold spec_KeyRoots.l1
   repeat' first
   | (with_reducible exact ih0 _ _ _)
   | (with_reducible exact ih1 _ _ _ _ _)
   | (with_reducible exact spec_LeftLeaf.mono _ _)
   | (with_reducible exact LeO.refl _)
   | (with_reducible exact LeO.none _)
   | (with_reducible refine LeO.ite ?_ ?_)
   | (with_reducible refine LeO.bind ?_ (fun _ => ?_))
   | exact ih0 _ _ _
   | exact ih1 _ _ _ _ _
   | exact spec_LeftLeaf.mono _ _
   | exact LeO.none _
   | refine LeO.ite ?_ ?_
   | refine LeO.bind ?_ (fun _ => ?_)
theorem spec_KeyRoots.mono : ∀ a0 k, LeO (spec_KeyRoots.f k a0) (spec_KeyRoots.f (k + 1) a0) := by
 intro a0 k
 obtain ⟨ih0, ih1⟩ := spec_KeyRoots.mono_l k
 unfold spec_KeyRoots.f
 repeat' first
   | (with_reducible exact ih0 _ _ _)
   | (with_reducible exact ih1 _ _ _ _ _)
   | (with_reducible exact spec_LeftLeaf.mono _ _)
   | (with_reducible exact LeO.refl _)
   | (with_reducible exact LeO.none _)
   | (with_reducible refine LeO.ite ?_ ?_)
   | (with_reducible refine LeO.bind ?_ (fun _ => ?_))
   | exact ih0 _ _ _
   | exact ih1 _ _ _ _ _
   | exact spec_LeftLeaf.mono _ _
   | exact LeO.none _
   | refine LeO.ite ?_ ?_
   | refine LeO.bind ?_ (fun _ => ?_)
set_option maxHeartbeats 8000000 in
set_option maxRecDepth 100000 in
theorem spec_KeyRoots.calls (k : Nat) (A0 : Option Addr) (c0 : Nat) (l0 : List (S77)) (r : List Int) (w : World) (hr0 : Kd.C k77 w A0 l0.length l0) (hc0 : l0.length ≤ c0) (h : spec_KeyRoots.f k l0 = some r) :
  Calls Try.prog 123 #[.slice A0 l0.length c0] w fun e w' => ∃ v0_ : Value, e = .returned (v0_) ∧ Kd.R (Kd.int .i64) 3 w' w.heap.size (fun _ => True) v0_ r ∧ Below w.heap.size w w' := by
 have HR0 := Aside0.mk hr0
 have HC0 := Aside0.mk hc0
 clear hr0 hc0
 have HB := Aside0.mk (Below.refl w.heap.size w)
 have H : ((spec_LeftLeaf.f k l0).bind fun t904 => (spec_KeyRoots.l0 k (([] : List Int)) t904 0)) = some r := h
 clear h
 obtain ⟨y901, hy901⟩ : ∃ y_ : List Int, y_ = (([] : List Int)) := ⟨_, rfl⟩
 replace H : ((spec_LeftLeaf.f k l0).bind fun t904 => (spec_KeyRoots.l0 k y901 t904 0)) = some r := by first | (rw [hy901]; with_reducible exact H) | (have H2_ := (Option.bind_some _ _).symm.trans H; rw [hy901]; with_reducible exact H2_) | (have H2_ := (Option.bind_some _ _).symm.trans H; with_reducible exact H2_) | with_reducible exact H | (rw [hy901]; exact H) | exact H
 have Ny901 := Aside0.mk hy901
 clear hy901
 replace H := Option.bind_eq_some_iff.mp H
 obtain ⟨t904, A20, H⟩ := H
 replace H : (spec_KeyRoots.l0 k y901 t904 0) = some r := H
 have A2 := Aside0.mk A20
 clear A20
 have H' := Aside0.mk H
 clear H
 go_enter Try.func123, Try.ntmps123
 go_wp2_with (first | ((with_reducible refine gate_dst (N := 8) rfl ?_); refine Kd.R_lit (Kd.int .i64) _ 3 ?hg (N := 8) ?hd (xs := ([] : List Int)) (inner := []) (ok := fun _ => True) (okp := fun _ => True) ?hr ?hp (fun _ hk => hk) trivial (Below.refl _ _) (Nat.le_refl _) (by simp) ?_; (case hd => rfl); (case hg => rfl); (case hr => first | (go_simp; done) | (go_simp; rfl)); (case hp => exact (Reps.none _ _)); intro v902 w3 ho4 hb hg_ hnew_; clear hg_ hnew_; (first | rw [← Ny901.out] at ho4 | (simp only [Int.reduceToNat] at ho4; rw [← Ny901.out] at ho4)); have HO903 := Aside0.mk (Kd.R_lower ho4 (bs_ HB)); replace HB := tB_ HB hb; clear hb ho4) | (go_at_call 122; (with_reducible refine (spec_LeftLeaf.calls k _ _ l0 t904 _ (cx_ HR0 HB) HC0.out A2.out).mono ?_); rintro e w5 ⟨v905, rfl, ho0, hb⟩; have HO906 := Aside0.mk (Kd.R_lower (Kd.R_new' ho0 (Kd.R_lt (rx_ HO903.out))) (bs_ HB)); replace HO903 := Aside0.mk (Kd.R_elder' (rx_ HO903.out) (Kd.R_base ho0) hb); replace HB := tB_ HB hb; (try clear hb); (try clear ho0)))
 repeat (go_quiet (first | ((with_reducible refine gate_dst (N := 8) rfl ?_); refine Kd.R_lit (Kd.int .i64) _ 3 ?hg (N := 8) ?hd (xs := ([] : List Int)) (inner := []) (ok := fun _ => True) (okp := fun _ => True) ?hr ?hp (fun _ hk => hk) trivial (Below.refl _ _) (Nat.le_refl _) (by simp) ?_; (case hd => rfl); (case hg => rfl); (case hr => first | (go_simp; done) | (go_simp; rfl)); (case hp => exact (Reps.none _ _)); intro v902 w3 ho4 hb hg_ hnew_; clear hg_ hnew_; (first | rw [← Ny901.out] at ho4 | (simp only [Int.reduceToNat] at ho4; rw [← Ny901.out] at ho4)); have HO903 := Aside0.mk (Kd.R_lower ho4 (bs_ HB)); replace HB := tB_ HB hb; clear hb ho4) | (go_at_call 122; (with_reducible refine (spec_LeftLeaf.calls k _ _ l0 t904 _ (cx_ HR0 HB) HC0.out A2.out).mono ?_); rintro e w5 ⟨v905, rfl, ho0, hb⟩; have HO906 := Aside0.mk (Kd.R_lower (Kd.R_new' ho0 (Kd.R_lt (rx_ HO903.out))) (bs_ HB)); replace HO903 := Aside0.mk (Kd.R_elder' (rx_ HO903.out) (Kd.R_base ho0) hb); replace HB := tB_ HB hb; (try clear hb); (try clear ho0))); try go_wp2_with (first | ((with_reducible refine gate_dst (N := 8) rfl ?_); refine Kd.R_lit (Kd.int .i64) _ 3 ?hg (N := 8) ?hd (xs := ([] : List Int)) (inner := []) (ok := fun _ => True) (okp := fun _ => True) ?hr ?hp (fun _ hk => hk) trivial (Below.refl _ _) (Nat.le_refl _) (by simp) ?_; (case hd => rfl); (case hg => rfl); (case hr => first | (go_simp; done) | (go_simp; rfl)); (case hp => exact (Reps.none _ _)); intro v902 w3 ho4 hb hg_ hnew_; clear hg_ hnew_; (first | rw [← Ny901.out] at ho4 | (simp only [Int.reduceToNat] at ho4; rw [← Ny901.out] at ho4)); have HO903 := Aside0.mk (Kd.R_lower ho4 (bs_ HB)); replace HB := tB_ HB hb; clear hb ho4) | (go_at_call 122; (with_reducible refine (spec_LeftLeaf.calls k _ _ l0 t904 _ (cx_ HR0 HB) HC0.out A2.out).mono ?_); rintro e w5 ⟨v905, rfl, ho0, hb⟩; have HO906 := Aside0.mk (Kd.R_lower (Kd.R_new' ho0 (Kd.R_lt (rx_ HO903.out))) (bs_ HB)); replace HO903 := Aside0.mk (Kd.R_elder' (rx_ HO903.out) (Kd.R_base ho0) hb); replace HB := tB_ HB hb; (try clear hb); (try clear ho0))))
 go_loopg [3, 5] k (fun kq v3 v5 w' => ∃ (x3_1 : List Int) (x5_1 : Int), v5 = .int .i64 x5_1 ∧ Aside0 (spec_KeyRoots.l0 kq x3_1 t904 x5_1 = some r) ∧ Aside0 (kq ≤ k) ∧ Aside0 (Kd.R (Kd.int .i64) 3 w' w.heap.size (fun k_ => some k_ ≠ (v905 : Value).ownBlock) v3 x3_1) ∧ Aside0 (Kd.R (Kd.int .i64) 3 w' w.heap.size (fun k_ => some k_ ≠ (v3 : Value).ownBlock) v905 t904) ∧ Aside0 (Below w.heap.size w w'))
 case atStart => exact ⟨(y901), (0), eb_, H', ⟨Nat.le_refl _⟩, ⟨rx_ (Kd.R_mono HO903.out (fun _ hk => hk.2))⟩, ⟨rx_ (Kd.R_mono HO906.out (fun _ hk => hk.2))⟩, bl_ HB⟩
 case round =>
  clear H'
  try clear c1
  try clear p2
  obtain ⟨x3_1, x5_1, rfl, HA, HK1, HO_3, HO_4, HB⟩ := hrel
  cases gk with
  | zero => exact absurd HA.out (by simp [spec_KeyRoots.l0])
  | succ k1 =>
   have H := HA.out
   clear HA
   simp only [spec_KeyRoots.l0] at H
   by_cases c6 : x5_1 < (t904.length : Int)
   ·rw [if_pos c6] at H
    have c6b0 : decide (x5_1 < (t904.length : Int)) = true := decide_eq_true c6
    clear c6
    have H' := Aside0.mk H
    clear H
    obtain ⟨Ao7, co7, eo7⟩ := Kd.R_slice HO_4.out
    subst eo7
    go_wp2
    repeat (go_quiet (fail); try go_wp2)
    go_loopg [6, 7] k1 (fun kq v6 v7 w' => ∃ (x6_2 : Bool) (x7_2 : Int), v6 = .bool x6_2 ∧ v7 = .int .i64 x7_2 ∧ Aside0 (spec_KeyRoots.l1 kq x3_1 t904 x5_1 x6_2 x7_2 = some r) ∧ Aside0 (kq ≤ k1) ∧ Aside0 (Kd.R (Kd.int .i64) 3 w' w.heap.size (fun k_ => some k_ ≠ ((.slice Ao7 t904.length co7) : Value).ownBlock) u3 x3_1) ∧ Aside0 (Kd.R (Kd.int .i64) 3 w' w.heap.size (fun k_ => some k_ ≠ (u3 : Value).ownBlock) (.slice Ao7 t904.length co7) t904) ∧ Aside0 (Below w.heap.size w w'))
    case atStart => exact ⟨(true), (wrap64 (x5_1 + 1)), eb_, eb_, H', ⟨Nat.le_refl _⟩, ⟨rx_ HO_3.out⟩, ⟨rx_ HO_4.out⟩, bl_ HB⟩
    case round =>
     clear H'
     try clear c1
     try clear p2
     try clear c6
     try clear c6b0
     try clear p6
     try clear p2
     obtain ⟨x6_2, x7_2, rfl, rfl, HA, HK2, HO_3, HO_4, HB⟩ := hrel
     cases gk with
     | zero => exact absurd HA.out (by simp [spec_KeyRoots.l1])
     | succ k2 =>
      have H := HA.out
      clear HA
      simp only [spec_KeyRoots.l1] at H
      by_cases c8 : x7_2 < (t904.length : Int)
      ·rw [if_pos c8] at H
       have c8b0 : decide (x7_2 < (t904.length : Int)) = true := decide_eq_true c8
       clear c8
       by_cases c9 : x6_2 = true
       ·subst c9
        have H1 : (if 0 ≤ x7_2 then (if 0 ≤ x5_1 then (if x5_1 < (t904.length : Int) then (spec_KeyRoots.l1 k2 x3_1 t904 x5_1 ((rd t904 x7_2) != (rd t904 x5_1)) (wrap64 (x7_2 + 1))) else (none)) else (none)) else (none)) = some r := by rw [if_pos rfl] at H; exact H
        clear H
        have H := H1
        clear H1
        by_cases c10 : 0 ≤ x7_2
        ·rw [if_pos c10] at H
         have c10b0 : decide (0 ≤ x7_2) = true := decide_eq_true c10
         clear c10
         by_cases c11 : 0 ≤ x5_1
         ·rw [if_pos c11] at H
          have c11b0 : decide (0 ≤ x5_1) = true := decide_eq_true c11
          clear c11
          by_cases c12 : x5_1 < (t904.length : Int)
          ·rw [if_pos c12] at H
           have c12b0 : decide (x5_1 < (t904.length : Int)) = true := decide_eq_true c12
           clear c12
           have H' := Aside0.mk H
           clear H
           have p907 : 0 ≤ (x7_2 : Int) := od_
           have q907 : x7_2 < (t904.length : Int) := od_
           obtain ⟨ad907, e907, hx907_0⟩ := Kd.at_int (Kd.R_reads' HO_4.out).2.2 x7_2 p907 q907
           cases e907
           replace p907 := eq_true p907
           replace q907 := eq_true q907
           have p908 : 0 ≤ (x5_1 : Int) := od_
           have q908 : x5_1 < (t904.length : Int) := od_
           obtain ⟨ad908, e908, hx908_0⟩ := Kd.at_int (Kd.R_reads' HO_4.out).2.2 x5_1 p908 q908
           obtain rfl : ad907 = ad908 := (by injection e908)
           replace p908 := eq_true p908
           replace q908 := eq_true q908
           go_wp2
           repeat (go_quiet (fail); try go_wp2)
           go_roundg k2
           case measure => have := HK1.out; have := HK2.out; omega
           case rel => exact ⟨(((rd t904 x7_2) != (rd t904 x5_1))), (wrap64 (x7_2 + 1)), eb_, eb_, H', ⟨by have := HK1.out; have := HK2.out; omega⟩, ⟨rx_ HO_3.out⟩, ⟨rx_ HO_4.out⟩, bl_ HB⟩
          ·rw [if_neg c12] at H
           exact absurd H (by simp)
         ·rw [if_neg c11] at H
          exact absurd H (by simp)
        ·rw [if_neg c10] at H
         exact absurd H (by simp)
       ·replace c9 := Bool.eq_false_iff.mpr c9
        subst c9
        have H1 : (spec_KeyRoots.l1 k2 x3_1 t904 x5_1 false (wrap64 (x7_2 + 1))) = some r := by rw [if_neg (show ¬ (false = true) by decide)] at H; exact H
        clear H
        have H := H1
        clear H1
        have H' := Aside0.mk H
        clear H
        go_wp2
        repeat (go_quiet (fail); try go_wp2)
        go_roundg k2
        case measure => have := HK1.out; have := HK2.out; omega
        case rel => exact ⟨(false), (wrap64 (x7_2 + 1)), eb_, eb_, H', ⟨by have := HK1.out; have := HK2.out; omega⟩, ⟨rx_ HO_3.out⟩, ⟨rx_ HO_4.out⟩, bl_ HB⟩
      ·rw [if_neg c8] at H
       have c8b0 : decide (x7_2 < (t904.length : Int)) = false := decide_eq_false c8
       clear c8
       by_cases c13 : x6_2 = true
       ·subst c13
        have H1 : (if x3_1.length < 17592186044416 then (spec_KeyRoots.l0 k2 (x3_1 ++ [x5_1]) t904 (wrap64 (x5_1 + 1))) else (none)) = some r := by rw [if_pos rfl] at H; exact H
        clear H
        have H := H1
        clear H1
        by_cases c14 : x3_1.length < 17592186044416
        ·rw [if_pos c14] at H
         have LMc14 := Aside0.mk c14
         clear c14
         obtain ⟨y909, hy909⟩ : ∃ y_ : List Int, y_ = (x3_1 ++ [x5_1]) := ⟨_, rfl⟩
         replace H : (spec_KeyRoots.l0 k2 y909 t904 (wrap64 (x5_1 + 1))) = some r := by first | (rw [hy909]; with_reducible exact H) | (have H2_ := (Option.bind_some _ _).symm.trans H; rw [hy909]; with_reducible exact H2_) | (have H2_ := (Option.bind_some _ _).symm.trans H; with_reducible exact H2_) | with_reducible exact H | (rw [hy909]; exact H) | exact H
         have Ny909 := Aside0.mk hy909
         clear hy909
         have H' := Aside0.mk H
         clear H
         go_wp2_with (first | ((with_reducible refine gate_builtin (b := .append) (xs := #[.tmp 38, .tmp 40]) rfl ?_); at_builtin; refine Kd.R_append (Kd.int .i64) (w0 := w) w.heap.size rfl (.tmp 38) (.tmp 40) 25 3 (.int .i64 0) 8 rfl Try.underlying25 info3 rfl (by decide) (by omega) u3 x3_1 x5_1 [.int .i64 x5_1] (fun k_ => some k_ ≠ (.slice Ao7 t904.length co7 : Value).ownBlock) (fun _ => False) rfl rfl ?aP (fun _ hk => hk.elim) ?aF ?aO ?aB ?aS ?aL ?_; (case aP => exact rfl); (case aB => exact ((bl_ HB).out)); (case aF => exact (fun k_ hk => Kd.fresh' (Kd.R_lt (rx_ HO_4.out)) k_ hk)); (case aO => exact (rx_ HO_3.out)); (case aS => exact (bs_ HB)); (case aL => have := LMc14.out; omega); intro v910 w15 ho hb hg hat; rw [← Ny909.out] at ho; replace HO_4 := Aside0.mk (Kd.R_after (ok := (fun _ => True)) (rx_ (Kd.R_mono HO_4.out (fun _ hk => ⟨trivial, hk⟩))) hg hat); replace HB := Aside0.mk (hb); have HO911 := Aside0.mk (ho); clear HO_3; clear ho hb hg hat))
         repeat (go_quiet (first | ((with_reducible refine gate_builtin (b := .append) (xs := #[.tmp 38, .tmp 40]) rfl ?_); at_builtin; refine Kd.R_append (Kd.int .i64) (w0 := w) w.heap.size rfl (.tmp 38) (.tmp 40) 25 3 (.int .i64 0) 8 rfl Try.underlying25 info3 rfl (by decide) (by omega) u3 x3_1 x5_1 [.int .i64 x5_1] (fun k_ => some k_ ≠ (.slice Ao7 t904.length co7 : Value).ownBlock) (fun _ => False) rfl rfl ?aP (fun _ hk => hk.elim) ?aF ?aO ?aB ?aS ?aL ?_; (case aP => exact rfl); (case aB => exact ((bl_ HB).out)); (case aF => exact (fun k_ hk => Kd.fresh' (Kd.R_lt (rx_ HO_4.out)) k_ hk)); (case aO => exact (rx_ HO_3.out)); (case aS => exact (bs_ HB)); (case aL => have := LMc14.out; omega); intro v910 w15 ho hb hg hat; rw [← Ny909.out] at ho; replace HO_4 := Aside0.mk (Kd.R_after (ok := (fun _ => True)) (rx_ (Kd.R_mono HO_4.out (fun _ hk => ⟨trivial, hk⟩))) hg hat); replace HB := Aside0.mk (hb); have HO911 := Aside0.mk (ho); clear HO_3; clear ho hb hg hat)); try go_wp2_with (first | ((with_reducible refine gate_builtin (b := .append) (xs := #[.tmp 38, .tmp 40]) rfl ?_); at_builtin; refine Kd.R_append (Kd.int .i64) (w0 := w) w.heap.size rfl (.tmp 38) (.tmp 40) 25 3 (.int .i64 0) 8 rfl Try.underlying25 info3 rfl (by decide) (by omega) u3 x3_1 x5_1 [.int .i64 x5_1] (fun k_ => some k_ ≠ (.slice Ao7 t904.length co7 : Value).ownBlock) (fun _ => False) rfl rfl ?aP (fun _ hk => hk.elim) ?aF ?aO ?aB ?aS ?aL ?_; (case aP => exact rfl); (case aB => exact ((bl_ HB).out)); (case aF => exact (fun k_ hk => Kd.fresh' (Kd.R_lt (rx_ HO_4.out)) k_ hk)); (case aO => exact (rx_ HO_3.out)); (case aS => exact (bs_ HB)); (case aL => have := LMc14.out; omega); intro v910 w15 ho hb hg hat; rw [← Ny909.out] at ho; replace HO_4 := Aside0.mk (Kd.R_after (ok := (fun _ => True)) (rx_ (Kd.R_mono HO_4.out (fun _ hk => ⟨trivial, hk⟩))) hg hat); replace HB := Aside0.mk (hb); have HO911 := Aside0.mk (ho); clear HO_3; clear ho hb hg hat)))
         go_roundg k2
         case measure => have := HK1.out; have := HK2.out; omega
         case rel => exact ⟨(y909), (wrap64 (x5_1 + 1)), eb_, H', ⟨by have := HK1.out; have := HK2.out; omega⟩, ⟨rx_ HO911.out⟩, ⟨rx_ (Kd.R_mono HO_4.out (fun _ hk => hk.2))⟩, bl_ HB⟩
        ·rw [if_neg c14] at H
         exact absurd H (by simp)
       ·replace c13 := Bool.eq_false_iff.mpr c13
        subst c13
        have H1 : (spec_KeyRoots.l0 k2 x3_1 t904 (wrap64 (x5_1 + 1))) = some r := by rw [if_neg (show ¬ (false = true) by decide)] at H; exact H
        clear H
        have H := H1
        clear H1
        have H' := Aside0.mk H
        clear H
        go_wp2
        repeat (go_quiet (fail); try go_wp2)
        go_roundg k2
        case measure => have := HK1.out; have := HK2.out; omega
        case rel => exact ⟨(x3_1), (wrap64 (x5_1 + 1)), eb_, H', ⟨by have := HK1.out; have := HK2.out; omega⟩, ⟨rx_ HO_3.out⟩, ⟨rx_ HO_4.out⟩, bl_ HB⟩
   ·rw [if_neg c6] at H
    have c6b0 : decide (x5_1 < (t904.length : Int)) = false := decide_eq_false c6
    clear c6
    obtain rfl := Option.some.inj H
    obtain ⟨Ao16, co16, eo16⟩ := Kd.R_slice HO_4.out
    subst eo16
    go_wp2
    repeat (go_quiet (fail); try go_wp2)
    go_ret
    exact ⟨_, ea_, rx_ (Kd.R_mono HO_3.out (fun _ hk => trivial)), (bl_ HB).out⟩
end Go.Proofs.Ytngphdmbjenkaaa.X
namespace Go.Proofs.Ytngphdmbjenkaaa.X
open Go.RowKit Go.Proofs.YtngphdmbjenkaaaW.PrintWords Go.Proofs.YtngphdmbjenkaaaW.PrintLast Go.Proofs.YtngphdmbjenkaaaW.PrintMore
attribute [local go_sem] max2_int min2_int max_two min_two max_three min_three max_four min_four   -- for this text's walks alone
set_option linter.unusedVariables false
set_option linter.unusedSimpArgs false
def spec_l8Three.f (k : Nat) (l0 : List (S77)) (l1 : List (S77)) (l2_0 : List Int) (l2_1 : List Int) (l2_2 : List Int) : Option (Bool) := (spec_TreeOk.f k l0).bind fun t824 => (if t824 = true then ((spec_TreeOk.f k l1).bind fun t825 => (if t825 = true then ((spec_CostOk.f k l2_0 l2_1 l2_2).bind fun t826 => (some t826)) else (some false))) else (some false))
theorem spec_l8Three.mono : ∀ a0 a1 a2 a3 a4 k, LeO (spec_l8Three.f k a0 a1 a2 a3 a4) (spec_l8Three.f (k + 1) a0 a1 a2 a3 a4) := by
 intro a0 a1 a2 a3 a4 k
 unfold spec_l8Three.f
 repeat' first
   | (with_reducible exact spec_CostOk.mono _ _ _ _)
   | (with_reducible exact spec_TreeOk.mono _ _)
   | (with_reducible exact LeO.refl _)
   | (with_reducible exact LeO.none _)
   | (with_reducible refine LeO.ite ?_ ?_)
   | (with_reducible refine LeO.bind ?_ (fun _ => ?_))
   | exact spec_CostOk.mono _ _ _ _
   | exact spec_TreeOk.mono _ _
   | exact LeO.none _
   | refine LeO.ite ?_ ?_
   | refine LeO.bind ?_ (fun _ => ?_)
set_option maxHeartbeats 8000000 in
set_option maxRecDepth 100000 in
theorem spec_l8Three.calls (k : Nat) (A0 : Option Addr) (c0 : Nat) (l0 : List (S77)) (A1 : Option Addr) (c1 : Nat) (l1 : List (S77)) (A2_0 : Option Addr) (c2_0 : Nat) (l2_0 : List Int) (A2_1 : Option Addr) (c2_1 : Nat) (l2_1 : List Int) (A2_2 : Option Addr) (c2_2 : Nat) (l2_2 : List Int) (r : Bool) (w : World) (hr0 : Kd.C k77 w A0 l0.length l0) (hc0 : l0.length ≤ c0) (hr1 : Kd.C k77 w A1 l1.length l1) (hc1 : l1.length ≤ c1) (hr2_0 : Kd.C (Kd.int .i64) w A2_0 l2_0.length l2_0) (hc2_0 : l2_0.length ≤ c2_0) (hr2_1 : Kd.C (Kd.int .i64) w A2_1 l2_1.length l2_1) (hc2_1 : l2_1.length ≤ c2_1) (hr2_2 : Kd.C (Kd.int .i64) w A2_2 l2_2.length l2_2) (hc2_2 : l2_2.length ≤ c2_2) (h : spec_l8Three.f k l0 l1 l2_0 l2_1 l2_2 = some r) :
  Calls Try.prog 73 #[.slice A0 l0.length c0, .slice A1 l1.length c1, .agg #[.slice A2_0 l2_0.length c2_0, .slice A2_1 l2_1.length c2_1, .slice A2_2 l2_2.length c2_2]] w fun e w' => e = .returned (.bool r) ∧ Below w.heap.size w w' := by
 have hu27 := Try.underlying27
 have HR0 := Aside0.mk hr0
 have HC0 := Aside0.mk hc0
 clear hr0 hc0
 have HR1 := Aside0.mk hr1
 have HC1 := Aside0.mk hc1
 clear hr1 hc1
 have HR2_0 := Aside0.mk hr2_0
 have HC2_0 := Aside0.mk hc2_0
 clear hr2_0 hc2_0
 have HR2_1 := Aside0.mk hr2_1
 have HC2_1 := Aside0.mk hc2_1
 clear hr2_1 hc2_1
 have HR2_2 := Aside0.mk hr2_2
 have HC2_2 := Aside0.mk hc2_2
 clear hr2_2 hc2_2
 have HB := Aside0.mk (Below.refl w.heap.size w)
 have H : ((spec_TreeOk.f k l0).bind fun t824 => (if t824 = true then ((spec_TreeOk.f k l1).bind fun t825 => (if t825 = true then ((spec_CostOk.f k l2_0 l2_1 l2_2).bind fun t826 => (some t826)) else (some false))) else (some false))) = some r := h
 clear h
 replace H := Option.bind_eq_some_iff.mp H
 obtain ⟨t824, A40, H⟩ := H
 try dsimp only at H
 have A4 := Aside0.mk A40
 clear A40
 by_cases c5 : t824 = true
 ·subst c5
  have H1 : ((spec_TreeOk.f k l1).bind fun t825 => (if t825 = true then ((spec_CostOk.f k l2_0 l2_1 l2_2).bind fun t826 => (some t826)) else (some false))) = some r := by rw [if_pos rfl] at H; exact H
  clear H
  have H := H1
  clear H1
  replace H := Option.bind_eq_some_iff.mp H
  obtain ⟨t825, A60, H⟩ := H
  try dsimp only at H
  have A6 := Aside0.mk A60
  clear A60
  by_cases c7 : t825 = true
  ·subst c7
   have H1 : ((spec_CostOk.f k l2_0 l2_1 l2_2).bind fun t826 => (some t826)) = some r := by rw [if_pos rfl] at H; exact H
   clear H
   have H := H1
   clear H1
   replace H := Option.bind_eq_some_iff.mp H
   obtain ⟨t826, A80, H⟩ := H
   replace H : (some t826) = some r := H
   have A8 := Aside0.mk A80
   clear A80
   obtain rfl := Option.some.inj H
   go_enter Try.func73, Try.ntmps73
   go_wp2_with (first | ((with_reducible refine gate_dst (N := 5) rfl ?_); refine bx_ 5 #[.slice A2_0 l2_0.length c2_0, .slice A2_1 l2_1.length c2_1, .slice A2_2 l2_2.length c2_2] 27 ?_; intro gb823 hg w9 hbox hb; have BK823 := Aside0.mk (hbox); have GW823 := Aside0.mk ((by rw [hg]; exact (bs_ HB) : w.heap.size ≤ gb823)); have GE823 := Aside0.mk ((by rw [hg]; exact (bs_ HB) : w.heap.size ≤ gb823)); replace HB := tB_ HB hb; clear hb hbox hg) | ((with_reducible refine gate_callee (f := 16) rfl ?_); refine gL_ (some 8) Try.func16 #[.slice A0 l0.length c0] ?_; (with_reducible refine (spec_TreeOk.calls k _ _ l0 true _ (cx_ HR0 HB) HC0.out A4.out).mono ?_); rintro e w10 ⟨rfl, hb⟩; refine ⟨_, rfl, ?_⟩; replace BK823 := tK_ BK823 hb; replace HB := tB_ HB hb; (try clear hb)) | (go_at_call 16; (with_reducible refine (spec_TreeOk.calls k _ _ l1 true _ (cx_ HR1 HB) HC1.out A6.out).mono ?_); rintro e w11 ⟨rfl, hb⟩; replace BK823 := tK_ BK823 hb; replace HB := tB_ HB hb; (try clear hb); obtain ⟨hcz12_0, hcz12_1, hcz12_2, hfz12_0, hfz12_1, hfz12_2⟩ := bk3_ BK823) | (go_at_call 17; (with_reducible refine (spec_CostOk.calls k _ _ l2_0 _ _ l2_1 _ _ l2_2 t826 _ (cx_ HR2_0 HB) HC2_0.out (cx_ HR2_1 HB) HC2_1.out (cx_ HR2_2 HB) HC2_2.out A8.out).mono ?_); rintro e w13 ⟨rfl, hb⟩; replace BK823 := tK_ BK823 hb; replace HB := tB_ HB hb; (try clear hb)))
   go_ret
   exact ⟨ea_, (bl_ HB).out⟩
  ·replace c7 := Bool.eq_false_iff.mpr c7
   subst c7
   have H1 : (some false) = some r := by rw [if_neg (show ¬ (false = true) by decide)] at H; exact H
   clear H
   have H := H1
   clear H1
   obtain rfl := Option.some.inj H
   go_enter Try.func73, Try.ntmps73
   go_wp2_with (first | ((with_reducible refine gate_dst (N := 5) rfl ?_); refine bx_ 5 #[.slice A2_0 l2_0.length c2_0, .slice A2_1 l2_1.length c2_1, .slice A2_2 l2_2.length c2_2] 27 ?_; intro gb823 hg w14 hbox hb; have BK823 := Aside0.mk (hbox); have GW823 := Aside0.mk ((by rw [hg]; exact (bs_ HB) : w.heap.size ≤ gb823)); have GE823 := Aside0.mk ((by rw [hg]; exact (bs_ HB) : w.heap.size ≤ gb823)); replace HB := tB_ HB hb; clear hb hbox hg) | ((with_reducible refine gate_callee (f := 16) rfl ?_); refine gL_ (some 8) Try.func16 #[.slice A0 l0.length c0] ?_; (with_reducible refine (spec_TreeOk.calls k _ _ l0 true _ (cx_ HR0 HB) HC0.out A4.out).mono ?_); rintro e w15 ⟨rfl, hb⟩; refine ⟨_, rfl, ?_⟩; replace BK823 := tK_ BK823 hb; replace HB := tB_ HB hb; (try clear hb)) | (go_at_call 16; (with_reducible refine (spec_TreeOk.calls k _ _ l1 false _ (cx_ HR1 HB) HC1.out A6.out).mono ?_); rintro e w16 ⟨rfl, hb⟩; replace BK823 := tK_ BK823 hb; replace HB := tB_ HB hb; (try clear hb)))
   go_ret
   exact ⟨ea_, (bl_ HB).out⟩
 ·replace c5 := Bool.eq_false_iff.mpr c5
  subst c5
  have H1 : (some false) = some r := by rw [if_neg (show ¬ (false = true) by decide)] at H; exact H
  clear H
  have H := H1
  clear H1
  obtain rfl := Option.some.inj H
  go_enter Try.func73, Try.ntmps73
  go_wp2_with (first | ((with_reducible refine gate_dst (N := 5) rfl ?_); refine bx_ 5 #[.slice A2_0 l2_0.length c2_0, .slice A2_1 l2_1.length c2_1, .slice A2_2 l2_2.length c2_2] 27 ?_; intro gb823 hg w17 hbox hb; have BK823 := Aside0.mk (hbox); have GW823 := Aside0.mk ((by rw [hg]; exact (bs_ HB) : w.heap.size ≤ gb823)); have GE823 := Aside0.mk ((by rw [hg]; exact (bs_ HB) : w.heap.size ≤ gb823)); replace HB := tB_ HB hb; clear hb hbox hg) | ((with_reducible refine gate_callee (f := 16) rfl ?_); refine gL_ (some 8) Try.func16 #[.slice A0 l0.length c0] ?_; (with_reducible refine (spec_TreeOk.calls k _ _ l0 false _ (cx_ HR0 HB) HC0.out A4.out).mono ?_); rintro e w18 ⟨rfl, hb⟩; refine ⟨_, rfl, ?_⟩; replace BK823 := tK_ BK823 hb; replace HB := tB_ HB hb; (try clear hb)))
  go_ret
  exact ⟨ea_, (bl_ HB).out⟩
end Go.Proofs.Ytngphdmbjenkaaa.X
namespace Go.Proofs.Ytngphdmbjenkaaa.X
open Go.RowKit Go.Proofs.YtngphdmbjenkaaaW.PrintWords Go.Proofs.YtngphdmbjenkaaaW.PrintLast Go.Proofs.YtngphdmbjenkaaaW.PrintMore
attribute [local go_sem] max2_int min2_int max_two min_two max_three min_three max_four min_four   -- for this text's walks alone
set_option linter.unusedVariables false
set_option linter.unusedSimpArgs false
def spec_RelCost.f (k : Nat) (l0_0 : List Int) (l0_1 : List Int) (l0_2 : List Int) (a1 : Int) (a2 : Int) : Option (Int) := (spec_CostOk.f k l0_0 l0_1 l0_2).bind fun t998 => (if t998 = true then ((spec_LabelOk.f a1).bind fun t999 => (if t999 = true then ((spec_LabelOk.f a2).bind fun t1000 => (if t1000 = true then (if 0 ≤ (wrap64 ((wrap64 (a1 * 6)) + a2)) then (if (wrap64 ((wrap64 (a1 * 6)) + a2)) < (l0_2.length : Int) then (some (rd l0_2 (wrap64 ((wrap64 (a1 * 6)) + a2)))) else (none)) else (none)) else (some 0))) else (some 0))) else (some 0))
theorem spec_RelCost.mono : ∀ a0 a1 a2 a3 a4 k, LeO (spec_RelCost.f k a0 a1 a2 a3 a4) (spec_RelCost.f (k + 1) a0 a1 a2 a3 a4) := by
 intro a0 a1 a2 a3 a4 k
 unfold spec_RelCost.f
 repeat' first
   | (with_reducible exact spec_CostOk.mono _ _ _ _)
   | (with_reducible exact LeO.refl _)
   | (with_reducible exact LeO.none _)
   | (with_reducible refine LeO.ite ?_ ?_)
   | (with_reducible refine LeO.bind ?_ (fun _ => ?_))
   | exact spec_CostOk.mono _ _ _ _
   | exact LeO.none _
   | refine LeO.ite ?_ ?_
   | refine LeO.bind ?_ (fun _ => ?_)
set_option maxHeartbeats 8000000 in
set_option maxRecDepth 100000 in
theorem spec_RelCost.calls (k : Nat) (A0_0 : Option Addr) (c0_0 : Nat) (l0_0 : List Int) (A0_1 : Option Addr) (c0_1 : Nat) (l0_1 : List Int) (A0_2 : Option Addr) (c0_2 : Nat) (l0_2 : List Int) (a1 : Int) (a2 : Int) (r : Int) (w : World) (hr0_0 : Kd.C (Kd.int .i64) w A0_0 l0_0.length l0_0) (hc0_0 : l0_0.length ≤ c0_0) (hr0_1 : Kd.C (Kd.int .i64) w A0_1 l0_1.length l0_1) (hc0_1 : l0_1.length ≤ c0_1) (hr0_2 : Kd.C (Kd.int .i64) w A0_2 l0_2.length l0_2) (hc0_2 : l0_2.length ≤ c0_2) (h : spec_RelCost.f k l0_0 l0_1 l0_2 a1 a2 = some r) :
  Calls Try.prog 75 #[.agg #[.slice A0_0 l0_0.length c0_0, .slice A0_1 l0_1.length c0_1, .slice A0_2 l0_2.length c0_2], .int .i64 a1, .int .i64 a2] w fun e w' => e = .returned (.int .i64 r) ∧ Below w.heap.size w w' := by
 have hu27 := Try.underlying27
 have HR0_0 := Aside0.mk hr0_0
 have HC0_0 := Aside0.mk hc0_0
 clear hr0_0 hc0_0
 have HR0_1 := Aside0.mk hr0_1
 have HC0_1 := Aside0.mk hc0_1
 clear hr0_1 hc0_1
 have HR0_2 := Aside0.mk hr0_2
 have HC0_2 := Aside0.mk hc0_2
 clear hr0_2 hc0_2
 have HB := Aside0.mk (Below.refl w.heap.size w)
 have H : ((spec_CostOk.f k l0_0 l0_1 l0_2).bind fun t998 => (if t998 = true then ((spec_LabelOk.f a1).bind fun t999 => (if t999 = true then ((spec_LabelOk.f a2).bind fun t1000 => (if t1000 = true then (if 0 ≤ (wrap64 ((wrap64 (a1 * 6)) + a2)) then (if (wrap64 ((wrap64 (a1 * 6)) + a2)) < (l0_2.length : Int) then (some (rd l0_2 (wrap64 ((wrap64 (a1 * 6)) + a2)))) else (none)) else (none)) else (some 0))) else (some 0))) else (some 0))) = some r := h
 clear h
 replace H := Option.bind_eq_some_iff.mp H
 obtain ⟨t998, A40, H⟩ := H
 try dsimp only at H
 have A4 := Aside0.mk A40
 clear A40
 by_cases c5 : t998 = true
 ·subst c5
  have H1 : ((spec_LabelOk.f a1).bind fun t999 => (if t999 = true then ((spec_LabelOk.f a2).bind fun t1000 => (if t1000 = true then (if 0 ≤ (wrap64 ((wrap64 (a1 * 6)) + a2)) then (if (wrap64 ((wrap64 (a1 * 6)) + a2)) < (l0_2.length : Int) then (some (rd l0_2 (wrap64 ((wrap64 (a1 * 6)) + a2)))) else (none)) else (none)) else (some 0))) else (some 0))) = some r := by rw [if_pos rfl] at H; exact H
  clear H
  have H := H1
  clear H1
  replace H := Option.bind_eq_some_iff.mp H
  obtain ⟨t999, A60, H⟩ := H
  try dsimp only at H
  have A6 := Aside0.mk A60
  clear A60
  by_cases c7 : t999 = true
  ·subst c7
   have H1 : ((spec_LabelOk.f a2).bind fun t1000 => (if t1000 = true then (if 0 ≤ (wrap64 ((wrap64 (a1 * 6)) + a2)) then (if (wrap64 ((wrap64 (a1 * 6)) + a2)) < (l0_2.length : Int) then (some (rd l0_2 (wrap64 ((wrap64 (a1 * 6)) + a2)))) else (none)) else (none)) else (some 0))) = some r := by rw [if_pos rfl] at H; exact H
   clear H
   have H := H1
   clear H1
   replace H := Option.bind_eq_some_iff.mp H
   obtain ⟨t1000, A80, H⟩ := H
   try dsimp only at H
   have A8 := Aside0.mk A80
   clear A80
   by_cases c9 : t1000 = true
   ·subst c9
    have H1 : (if 0 ≤ (wrap64 ((wrap64 (a1 * 6)) + a2)) then (if (wrap64 ((wrap64 (a1 * 6)) + a2)) < (l0_2.length : Int) then (some (rd l0_2 (wrap64 ((wrap64 (a1 * 6)) + a2)))) else (none)) else (none)) = some r := by rw [if_pos rfl] at H; exact H
    clear H
    have H := H1
    clear H1
    obtain ⟨ji10, hji10⟩ : ∃ j_ : Int, (wrap64 ((wrap64 (a1 * 6)) + a2)) = j_ := ⟨_, rfl⟩
    replace H : (if 0 ≤ (ji10) then (if (ji10) < (l0_2.length : Int) then (some (rd l0_2 (ji10))) else (none)) else (none)) = some r := by first | (rw [hji10] at H; exact H) | (simp only [hji10] at H ⊢; exact H)
    (try rw [hji10] at A4)
    (try rw [hji10] at A6)
    (try rw [hji10] at A8)
    have hji10w : (IntKind.i64.wrap ((wrap64 (a1 * 6)) + a2)) = ji10 := (i64_w _).trans hji10
    by_cases c11 : 0 ≤ (ji10)
    ·rw [if_pos c11] at H
     have c11b0 : decide (0 ≤ (ji10)) = true := decide_eq_true c11
     clear c11
     by_cases c12 : (ji10) < (l0_2.length : Int)
     ·rw [if_pos c12] at H
      have c12b0 : decide ((ji10) < (l0_2.length : Int)) = true := decide_eq_true c12
      clear c12
      obtain rfl := Option.some.inj H
      go_enter Try.func75, Try.ntmps75
      go_wp2_with (first | ((with_reducible refine gate_dst (N := 3) rfl ?_); refine bx_ 3 #[.slice A0_0 l0_0.length c0_0, .slice A0_1 l0_1.length c0_1, .slice A0_2 l0_2.length c0_2] 27 ?_; intro gb997 hg w13 hbox hb; have BK997 := Aside0.mk (hbox); have GW997 := Aside0.mk ((by rw [hg]; exact (bs_ HB) : w.heap.size ≤ gb997)); have GE997 := Aside0.mk ((by rw [hg]; exact (bs_ HB) : w.heap.size ≤ gb997)); replace HB := tB_ HB hb; clear hb hbox hg; obtain ⟨hcz14_0, hcz14_1, hcz14_2, hfz14_0, hfz14_1, hfz14_2⟩ := bk3_ BK997) | ((with_reducible refine gate_callee (f := 17) rfl ?_); refine gL_ (some 8) Try.func17 #[.agg #[.slice A0_0 l0_0.length c0_0, .slice A0_1 l0_1.length c0_1, .slice A0_2 l0_2.length c0_2]] ?_; (with_reducible refine (spec_CostOk.calls k _ _ l0_0 _ _ l0_1 _ _ l0_2 true _ (cx_ HR0_0 HB) HC0_0.out (cx_ HR0_1 HB) HC0_1.out (cx_ HR0_2 HB) HC0_2.out A4.out).mono ?_); rintro e w15 ⟨rfl, hb⟩; refine ⟨_, rfl, ?_⟩; replace BK997 := tK_ BK997 hb; replace HB := tB_ HB hb; (try clear hb)) | (go_at_call 61; (with_reducible refine (spec_LabelOk.calls a1 true _ A6.out).mono ?_); rintro e w' ⟨rfl, ⟨nd, rfl⟩⟩) | (go_at_call 61; (with_reducible refine (spec_LabelOk.calls a2 true _ A8.out).mono ?_); rintro e w' ⟨rfl, ⟨nd, rfl⟩⟩; obtain ⟨hcz16_0, hcz16_1, hcz16_2, hfz16_0, hfz16_1, hfz16_2⟩ := bk3_ BK997; have p1001 : 0 ≤ ((ji10) : Int) := od_; have q1001 : (ji10) < (l0_2.length : Int) := od_; obtain ⟨ad1001, e1001, hx1001_0⟩ := Kd.at_int HR0_2.out (ji10) p1001 q1001; cases e1001; replace hx1001_0 := ce_ HB hx1001_0; replace p1001 := eq_true p1001; replace q1001 := eq_true q1001))
      go_ret
      exact ⟨by first | rfl | (simp [errW_none, errW_some] <;> rfl) | (simp only [← hji10]; first | rfl | (simp [errW_none, errW_some] <;> rfl)) | (simp [*, errW_none, errW_some] <;> rfl), (bl_ HB).out⟩
     ·rw [if_neg c12] at H
      exact absurd H (by simp)
    ·rw [if_neg c11] at H
     exact absurd H (by simp)
   ·replace c9 := Bool.eq_false_iff.mpr c9
    subst c9
    have H1 : (some 0) = some r := by rw [if_neg (show ¬ (false = true) by decide)] at H; exact H
    clear H
    have H := H1
    clear H1
    obtain rfl := Option.some.inj H
    go_enter Try.func75, Try.ntmps75
    go_wp2_with (first | ((with_reducible refine gate_dst (N := 3) rfl ?_); refine bx_ 3 #[.slice A0_0 l0_0.length c0_0, .slice A0_1 l0_1.length c0_1, .slice A0_2 l0_2.length c0_2] 27 ?_; intro gb997 hg w17 hbox hb; have BK997 := Aside0.mk (hbox); have GW997 := Aside0.mk ((by rw [hg]; exact (bs_ HB) : w.heap.size ≤ gb997)); have GE997 := Aside0.mk ((by rw [hg]; exact (bs_ HB) : w.heap.size ≤ gb997)); replace HB := tB_ HB hb; clear hb hbox hg; obtain ⟨hcz18_0, hcz18_1, hcz18_2, hfz18_0, hfz18_1, hfz18_2⟩ := bk3_ BK997) | ((with_reducible refine gate_callee (f := 17) rfl ?_); refine gL_ (some 8) Try.func17 #[.agg #[.slice A0_0 l0_0.length c0_0, .slice A0_1 l0_1.length c0_1, .slice A0_2 l0_2.length c0_2]] ?_; (with_reducible refine (spec_CostOk.calls k _ _ l0_0 _ _ l0_1 _ _ l0_2 true _ (cx_ HR0_0 HB) HC0_0.out (cx_ HR0_1 HB) HC0_1.out (cx_ HR0_2 HB) HC0_2.out A4.out).mono ?_); rintro e w19 ⟨rfl, hb⟩; refine ⟨_, rfl, ?_⟩; replace BK997 := tK_ BK997 hb; replace HB := tB_ HB hb; (try clear hb)) | (go_at_call 61; (with_reducible refine (spec_LabelOk.calls a1 true _ A6.out).mono ?_); rintro e w' ⟨rfl, ⟨nd, rfl⟩⟩) | (go_at_call 61; (with_reducible refine (spec_LabelOk.calls a2 false _ A8.out).mono ?_); rintro e w' ⟨rfl, ⟨nd, rfl⟩⟩))
    go_ret
    exact ⟨ea_, (bl_ HB).out⟩
  ·replace c7 := Bool.eq_false_iff.mpr c7
   subst c7
   have H1 : (some 0) = some r := by rw [if_neg (show ¬ (false = true) by decide)] at H; exact H
   clear H
   have H := H1
   clear H1
   obtain rfl := Option.some.inj H
   go_enter Try.func75, Try.ntmps75
   go_wp2_with (first | ((with_reducible refine gate_dst (N := 3) rfl ?_); refine bx_ 3 #[.slice A0_0 l0_0.length c0_0, .slice A0_1 l0_1.length c0_1, .slice A0_2 l0_2.length c0_2] 27 ?_; intro gb997 hg w20 hbox hb; have BK997 := Aside0.mk (hbox); have GW997 := Aside0.mk ((by rw [hg]; exact (bs_ HB) : w.heap.size ≤ gb997)); have GE997 := Aside0.mk ((by rw [hg]; exact (bs_ HB) : w.heap.size ≤ gb997)); replace HB := tB_ HB hb; clear hb hbox hg; obtain ⟨hcz21_0, hcz21_1, hcz21_2, hfz21_0, hfz21_1, hfz21_2⟩ := bk3_ BK997) | ((with_reducible refine gate_callee (f := 17) rfl ?_); refine gL_ (some 8) Try.func17 #[.agg #[.slice A0_0 l0_0.length c0_0, .slice A0_1 l0_1.length c0_1, .slice A0_2 l0_2.length c0_2]] ?_; (with_reducible refine (spec_CostOk.calls k _ _ l0_0 _ _ l0_1 _ _ l0_2 true _ (cx_ HR0_0 HB) HC0_0.out (cx_ HR0_1 HB) HC0_1.out (cx_ HR0_2 HB) HC0_2.out A4.out).mono ?_); rintro e w22 ⟨rfl, hb⟩; refine ⟨_, rfl, ?_⟩; replace BK997 := tK_ BK997 hb; replace HB := tB_ HB hb; (try clear hb)) | (go_at_call 61; (with_reducible refine (spec_LabelOk.calls a1 false _ A6.out).mono ?_); rintro e w' ⟨rfl, ⟨nd, rfl⟩⟩))
   go_ret
   exact ⟨ea_, (bl_ HB).out⟩
 ·replace c5 := Bool.eq_false_iff.mpr c5
  subst c5
  have H1 : (some 0) = some r := by rw [if_neg (show ¬ (false = true) by decide)] at H; exact H
  clear H
  have H := H1
  clear H1
  obtain rfl := Option.some.inj H
  go_enter Try.func75, Try.ntmps75
  go_wp2_with (first | ((with_reducible refine gate_dst (N := 3) rfl ?_); refine bx_ 3 #[.slice A0_0 l0_0.length c0_0, .slice A0_1 l0_1.length c0_1, .slice A0_2 l0_2.length c0_2] 27 ?_; intro gb997 hg w23 hbox hb; have BK997 := Aside0.mk (hbox); have GW997 := Aside0.mk ((by rw [hg]; exact (bs_ HB) : w.heap.size ≤ gb997)); have GE997 := Aside0.mk ((by rw [hg]; exact (bs_ HB) : w.heap.size ≤ gb997)); replace HB := tB_ HB hb; clear hb hbox hg; obtain ⟨hcz24_0, hcz24_1, hcz24_2, hfz24_0, hfz24_1, hfz24_2⟩ := bk3_ BK997) | ((with_reducible refine gate_callee (f := 17) rfl ?_); refine gL_ (some 8) Try.func17 #[.agg #[.slice A0_0 l0_0.length c0_0, .slice A0_1 l0_1.length c0_1, .slice A0_2 l0_2.length c0_2]] ?_; (with_reducible refine (spec_CostOk.calls k _ _ l0_0 _ _ l0_1 _ _ l0_2 false _ (cx_ HR0_0 HB) HC0_0.out (cx_ HR0_1 HB) HC0_1.out (cx_ HR0_2 HB) HC0_2.out A4.out).mono ?_); rintro e w25 ⟨rfl, hb⟩; refine ⟨_, rfl, ?_⟩; replace BK997 := tK_ BK997 hb; replace HB := tB_ HB hb; (try clear hb)))
  go_ret
  exact ⟨ea_, (bl_ HB).out⟩
end Go.Proofs.Ytngphdmbjenkaaa.X
