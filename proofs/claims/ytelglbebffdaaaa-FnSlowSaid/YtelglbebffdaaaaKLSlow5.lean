/- Part 5 of the proof of FnSlow: what it needs. -/
import Derived.Test.YtelglbebffdaaaaKLSlow3
namespace Go.Proofs.Ytelglbebffdaaaa.X
open Go.RowKit Go.Proofs.YtelglbebffdaaaaW.PrintWords Go.Proofs.YtelglbebffdaaaaW.PrintLast Go.Proofs.YtelglbebffdaaaaW.PrintMore
attribute [local go_sem] max2_int min2_int max_two min_two max_three min_three max_four min_four   -- for this text's walks alone
set_option linter.unusedVariables false
set_option linter.unusedSimpArgs false
def spec_RankOf.l0 : Nat → List Int → List Int → Int → Option (List Int)
 | 0, _, _, _ => none
 | k + 1, x3, x4, x5 => if x5 < (x3.length : Int) then (if 0 ≤ x5 then (if 0 ≤ (rd x3 x5) then (if (rd x3 x5) < (x4.length : Int) then (spec_RankOf.l0 k x3 (x4.set ((rd x3 x5) : Int).toNat x5) (wrap64 (x5 + 1))) else (none)) else (none)) else (none)) else (some x4)
def spec_RankOf.f (k : Nat) (l0 : List (S53)) : Option (List Int) := (spec_PostOrder.f k l0).bind fun t173 => (if 0 ≤ (t173.length : Int) then (if ((t173.length : Int) : Int).toNat ≤ 35184372088832 then (spec_RankOf.l0 k t173 (List.replicate ((t173.length : Int) : Int).toNat 0) 0) else (none)) else (none))
theorem spec_RankOf.mono_l : ∀ k, (∀ y0 y1 y2, LeO (spec_RankOf.l0 k y0 y1 y2) (spec_RankOf.l0 (k + 1) y0 y1 y2))
 | 0 => fun _ _ _ r h => by simp [spec_RankOf.l0] at h
 | k + 1 => by
  have ih0 := spec_RankOf.mono_l k
  ·intro y0 y1 y2
   unfold spec_RankOf.l0
   repeat' first
   | (with_reducible exact ih0 _ _ _)
   | (with_reducible exact spec_PostOrder.mono _ _)
   | (with_reducible exact LeO.refl _)
   | (with_reducible exact LeO.none _)
   | (with_reducible refine LeO.ite ?_ ?_)
   | (with_reducible refine LeO.bind ?_ (fun _ => ?_))
   | exact ih0 _ _ _
   | exact spec_PostOrder.mono _ _
   | exact LeO.none _
   | refine LeO.ite ?_ ?_
   | refine LeO.bind ?_ (fun _ => ?_)
theorem spec_RankOf.mono : ∀ a0 k, LeO (spec_RankOf.f k a0) (spec_RankOf.f (k + 1) a0) := by
 intro a0 k
 have ih0 := spec_RankOf.mono_l k
 unfold spec_RankOf.f
 repeat' first
   | (with_reducible exact ih0 _ _ _)
   | (with_reducible exact spec_PostOrder.mono _ _)
   | (with_reducible exact LeO.refl _)
   | (with_reducible exact LeO.none _)
   | (with_reducible refine LeO.ite ?_ ?_)
   | (with_reducible refine LeO.bind ?_ (fun _ => ?_))
   | exact ih0 _ _ _
   | exact spec_PostOrder.mono _ _
   | exact LeO.none _
   | refine LeO.ite ?_ ?_
   | refine LeO.bind ?_ (fun _ => ?_)
set_option maxHeartbeats 8000000 in
set_option maxRecDepth 100000 in
theorem spec_RankOf.calls (k : Nat) (A0 : Option Addr) (c0 : Nat) (l0 : List (S53)) (r : List Int) (w : World) (hr0 : Kd.C k53 w A0 l0.length l0) (hc0 : l0.length ≤ c0) (h : spec_RankOf.f k l0 = some r) :
  Calls Try.prog 78 #[.slice A0 l0.length c0] w fun e w' => ∃ v0_ : Value, e = .returned (v0_) ∧ Kd.R (Kd.int .i64) 3 w' w.heap.size (fun _ => True) v0_ r ∧ Below w.heap.size w w' := by
 have HR0 := Aside0.mk hr0
 have HC0 := Aside0.mk hc0
 clear hr0 hc0
 have HB := Aside0.mk (Below.refl w.heap.size w)
 have H : ((spec_PostOrder.f k l0).bind fun t173 => (if 0 ≤ (t173.length : Int) then (if ((t173.length : Int) : Int).toNat ≤ 35184372088832 then (spec_RankOf.l0 k t173 (List.replicate ((t173.length : Int) : Int).toNat 0) 0) else (none)) else (none))) = some r := h
 clear h
 replace H := Option.bind_eq_some_iff.mp H
 obtain ⟨t173, A20, H⟩ := H
 try dsimp only at H
 have A2 := Aside0.mk A20
 clear A20
 by_cases c3 : 0 ≤ (t173.length : Int)
 ·rw [if_pos c3] at H
  have c3b0 := eq_true c3
  have c3b1 : decide (0 ≤ (t173.length : Int)) = true := decide_eq_true c3
  clear c3
  by_cases c4 : ((t173.length : Int) : Int).toNat ≤ 35184372088832
  ·rw [if_pos c4] at H
   have c4b0 := eq_true c4
   have c4b1 : decide (((t173.length : Int) : Int).toNat ≤ 35184372088832) = true := decide_eq_true c4
   clear c4
   obtain ⟨y176, hy176⟩ : ∃ y_ : List Int, y_ = (List.replicate ((t173.length : Int) : Int).toNat 0) := ⟨_, rfl⟩
   replace H : (spec_RankOf.l0 k t173 y176 0) = some r := by first | (rw [hy176]; with_reducible exact H) | (have H2_ := (Option.bind_some _ _).symm.trans H; rw [hy176]; with_reducible exact H2_) | (have H2_ := (Option.bind_some _ _).symm.trans H; with_reducible exact H2_) | with_reducible exact H | (rw [hy176]; exact H) | exact H
   have Ny176 := Aside0.mk hy176
   clear hy176
   have H' := Aside0.mk H
   clear H
   go_enter Try.func78, Try.ntmps78
   go_wp2_with (first | ((with_reducible refine gate_callee (f := 40) rfl ?_); refine gL_ (some 7) Try.func40 #[.slice A0 l0.length c0] ?_; (with_reducible refine (spec_PostOrder.calls k _ _ l0 t173 _ (cc_ HR0.out) HC0.out A2.out).mono ?_); rintro e w5 ⟨v174, rfl, ho0, hb⟩; refine ⟨_, rfl, ?_⟩; have HO175 := Aside0.mk (Kd.R_lower ho0 (bs_ HB)); replace HB := tB_ HB hb; (try clear hb); (try clear ho0); obtain ⟨Ao6, co6, eo6⟩ := Kd.R_slice HO175.out; subst eo6) | ((with_reducible refine gate_dst (N := 10) rfl ?_); refine Kd.R_make (Kd.int .i64) _ 3 rfl (N := 10) rfl 23 _ _ rfl (t173.length : Int) rfl rfl Try.underlying23 (.int .i64 0) 8 info3 rfl (by decide) (by omega) 0 (ok := fun _ => True) (okp := fun _ => True) rfl (fun _ hk => hk) trivial (od_) (Nat.le_trans (Nat.mul_le_mul_right _ (od_ : (t173.length : Int).toNat ≤ 35184372088832)) (by omega)) (Below.refl _ _) (Nat.le_refl _) ?_; intro v177 w7 ho8 hb hg_ hnew_; clear hg_ hnew_; (first | rw [← Ny176.out] at ho8 | (simp only [Int.reduceToNat] at ho8; rw [← Ny176.out] at ho8)); have HO178 := Aside0.mk (Kd.R_lower (Kd.R_new' ho8 (Kd.R_lt (rx_ HO175.out))) (bs_ HB)); replace HO175 := Aside0.mk (Kd.R_elder' (rx_ HO175.out) (Kd.R_base ho8) hb); replace HB := tB_ HB hb; clear hb ho8))
   go_loopg [5] k (fun kq v5 w' => ∃ (x4_1 : List Int) (x5_1 : Int), v5 = .int .i64 x5_1 ∧ Aside0 (spec_RankOf.l0 kq t173 x4_1 x5_1 = some r) ∧ Aside0 (kq ≤ k) ∧ Aside0 (Kd.R (Kd.int .i64) 3 w' w.heap.size (fun k_ => some k_ ≠ (v177 : Value).ownBlock) (.slice Ao6 t173.length co6) t173) ∧ Aside0 (Kd.R (Kd.int .i64) 3 w' w.heap.size (fun k_ => some k_ ≠ ((.slice Ao6 t173.length co6) : Value).ownBlock) v177 x4_1) ∧ Aside0 (Below w.heap.size w w'))
   case atStart => exact ⟨(y176), (0), eb_, H', ⟨Nat.le_refl _⟩, ⟨rx_ (Kd.R_mono HO175.out (fun _ hk => hk.2))⟩, ⟨rx_ (Kd.R_mono HO178.out (fun _ hk => hk.2))⟩, bl_ HB⟩
   case round =>
    clear H'
    try clear p2
    try clear c3
    try clear c3b0
    try clear c3b1
    try clear c4
    try clear c4b0
    try clear c4b1
    try clear c7
    obtain ⟨x4_1, x5_1, rfl, HA, HK1, HO_3, HO_4, HB⟩ := hrel
    cases gk with
    | zero => exact absurd HA.out (by simp [spec_RankOf.l0])
    | succ k1 =>
     have H := HA.out
     clear HA
     simp only [spec_RankOf.l0] at H
     by_cases c9 : x5_1 < (t173.length : Int)
     ·rw [if_pos c9] at H
      have c9b0 : decide (x5_1 < (t173.length : Int)) = true := decide_eq_true c9
      clear c9
      by_cases c10 : 0 ≤ x5_1
      ·rw [if_pos c10] at H
       have c10b0 : decide (0 ≤ x5_1) = true := decide_eq_true c10
       clear c10
       by_cases c11 : 0 ≤ (rd t173 x5_1)
       ·rw [if_pos c11] at H
        have c11b0 : decide (0 ≤ (rd t173 x5_1)) = true := decide_eq_true c11
        clear c11
        by_cases c12 : (rd t173 x5_1) < (x4_1.length : Int)
        ·rw [if_pos c12] at H
         have c12b0 : decide ((rd t173 x5_1) < (x4_1.length : Int)) = true := decide_eq_true c12
         clear c12
         obtain ⟨y180, hy180⟩ : ∃ y_ : List Int, y_ = (x4_1.set ((rd t173 x5_1) : Int).toNat x5_1) := ⟨_, rfl⟩
         replace H : (spec_RankOf.l0 k1 t173 y180 (wrap64 (x5_1 + 1))) = some r := by first | (rw [hy180]; with_reducible exact H) | (have H2_ := (Option.bind_some _ _).symm.trans H; rw [hy180]; with_reducible exact H2_) | (have H2_ := (Option.bind_some _ _).symm.trans H; with_reducible exact H2_) | with_reducible exact H | (rw [hy180]; exact H) | exact H
         have Ny180 := Aside0.mk hy180
         clear hy180
         have H' := Aside0.mk H
         clear H
         have p179 : 0 ≤ (x5_1 : Int) := od_
         have q179 : x5_1 < (t173.length : Int) := od_
         obtain ⟨ad179, e179, hx179_0⟩ := Kd.at_int (Kd.R_reads' HO_3.out).2.2 x5_1 p179 q179
         cases e179
         replace p179 := eq_true p179
         replace q179 := eq_true q179
         have p13 : 0 ≤ ((rd t173 x5_1) : Int) := od_
         have q13 : ((rd t173 x5_1) : Int) < ((x4_1.length : Int) : Int) := od_
         obtain ⟨go13, co13, eo13, gb13, gl13, cl13, HG13⟩ := Kd.R_form HO_4.out (by omega)
         (first | cases eo13 | (injection eo13 with ea_ en_ ec_; (first | subst ea_ | (injection ea_ with ea_; subst ea_)); subst ec_; clear en_))
         have GB13 := Aside0.mk gb13
         have GG13 := Aside0.mk HG13
         clear gb13 gl13 HG13
         obtain ⟨hx13_0, hf13_0⟩ := Kd.R_celln 0 HO_4.out ((rd t173 x5_1) : Int) p13 q13
         replace p13 := eq_true p13
         replace q13 := eq_true q13
         have HP14 := Kd.R_putg HO_4.out ((rd t173 x5_1) : Int) x5_1
         go_wp2_with (first | ((with_reducible refine gate_store (t := 3) (p := 23) rfl ?_); refine store_event (t := 3) (p := 23) (v := ?vo_w15) (w1 := (wr.setCell ⟨go13, ((rd t173 x5_1) : Int).toNat, none⟩ (.int .i64 x5_1))) ?hg ?ho ?hn ?hr ?_; (case ho => rfl); (case hg => rfl); (case hn => rfl); (case hr => first | (go_simp; done) | (go_simp; rfl)); intro w15 hw; have hg : wr.grownBy w15 (some go13) := (by rw [hw]; exact HP14.2); have hp_ : Kd.R (Kd.int .i64) 3 w15 w.heap.size (fun k_ => some k_ ≠ (.slice (some ad179) t173.length co6 : Value).ownBlock) (.slice (some ⟨go13, 0, none⟩) x4_1.length co13) y180 := (by rw [hw, Ny180.out]; exact HP14.1); clear HP14; replace HO_3 := Aside0.mk (Kd.R_after (v := (.slice (some ⟨go13, 0, none⟩) x4_1.length co13)) (v1 := (.slice (some ⟨go13, 0, none⟩) x4_1.length co13)) (ok := (fun _ => True)) (rx_ (Kd.R_mono HO_3.out (fun _ hk => ⟨trivial, hk⟩))) hg (.inl rfl)); replace HO_4 := Aside0.mk (hp_); replace HB := Aside0.mk ((by rw [hw]; exact below_set (HB.out) GB13.out : Below w.heap.size w w15)); clear hg hw hp_))
         go_roundg k1
         case measure => have := HK1.out; omega
         case rel => exact ⟨(y180), (wrap64 (x5_1 + 1)), eb_, H', ⟨by have := HK1.out; omega⟩, ⟨rx_ (Kd.R_mono HO_3.out (fun _ hk => hk.2))⟩, ⟨rx_ HO_4.out⟩, bl_ HB⟩
        ·rw [if_neg c12] at H
         exact absurd H (by simp)
       ·rw [if_neg c11] at H
        exact absurd H (by simp)
      ·rw [if_neg c10] at H
       exact absurd H (by simp)
     ·rw [if_neg c9] at H
      have c9b0 : decide (x5_1 < (t173.length : Int)) = false := decide_eq_false c9
      clear c9
      obtain rfl := Option.some.inj H
      go_wp2
      go_ret
      exact ⟨_, ea_, rx_ (Kd.R_mono HO_4.out (fun _ hk => trivial)), (bl_ HB).out⟩
  ·rw [if_neg c4] at H
   exact absurd H (by simp)
 ·rw [if_neg c3] at H
  exact absurd H (by simp)
end Go.Proofs.Ytelglbebffdaaaa.X
namespace Go.Proofs.Ytelglbebffdaaaa.X
open Go.RowKit Go.Proofs.YtelglbebffdaaaaW.PrintWords Go.Proofs.YtelglbebffdaaaaW.PrintLast Go.Proofs.YtelglbebffdaaaaW.PrintMore
attribute [local go_sem] max2_int min2_int max_two min_two max_three min_three max_four min_four   -- for this text's walks alone
set_option linter.unusedVariables false
set_option linter.unusedSimpArgs false
mutual
def spec_LeftLeaf.l0 : Nat → List (S53) → List Int → List Int → List Int → Int → Option (List Int)
 | 0, _, _, _, _, _ => none
 | k + 1, x0, x3, x4, x5, x6 => if x6 < (x4.length : Int) then (if 0 ≤ x6 then (spec_LeftLeaf.l1 k x0 x3 x4 x5 x6 (rd x4 x6)) else (none)) else (some x3)
def spec_LeftLeaf.l1 : Nat → List (S53) → List Int → List Int → List Int → Int → Int → Option (List Int)
 | 0, _, _, _, _, _, _ => none
 | k + 1, x0, x3, x4, x5, x6, x7 => if 0 ≤ x6 then (if x6 < (x4.length : Int) then ((spec_EndOf.f k x0 (rd x4 x6)).bind fun t192 => (if (wrap64 (x7 + 1)) < t192 then (if 0 ≤ (wrap64 (x7 + 1)) then (if (wrap64 (x7 + 1)) < (x0.length : Int) then (if 0 ≤ x7 then (if x7 < (x0.length : Int) then (if ((rd_T53 x0 (wrap64 (x7 + 1))).f1) = (wrap64 (((rd_T53 x0 x7).f1) + 1)) then (spec_LeftLeaf.l1 k x0 x3 x4 x5 x6 (wrap64 (x7 + 1))) else (if x7 < (x5.length : Int) then (if x3.length < 17592186044416 then (spec_LeftLeaf.l0 k x0 (x3 ++ [rd x5 x7]) x4 x5 (wrap64 (x6 + 1))) else (none)) else (none))) else (none)) else (none)) else (none)) else (none)) else (if 0 ≤ x7 then (if x7 < (x5.length : Int) then (if x3.length < 17592186044416 then (spec_LeftLeaf.l0 k x0 (x3 ++ [rd x5 x7]) x4 x5 (wrap64 (x6 + 1))) else (none)) else (none)) else (none)))) else (none)) else (none)
end
def spec_LeftLeaf.f (k : Nat) (l0 : List (S53)) : Option (List Int) := (spec_PostOrder.f k l0).bind fun t184 => ((spec_RankOf.f k l0).bind fun t187 => (spec_LeftLeaf.l0 k l0 (([] : List Int)) t184 t187 0))
theorem spec_LeftLeaf.mono_l : ∀ k, (∀ y0 y1 y2 y3 y4, LeO (spec_LeftLeaf.l0 k y0 y1 y2 y3 y4) (spec_LeftLeaf.l0 (k + 1) y0 y1 y2 y3 y4)) ∧ (∀ y0 y1 y2 y3 y4 y5, LeO (spec_LeftLeaf.l1 k y0 y1 y2 y3 y4 y5) (spec_LeftLeaf.l1 (k + 1) y0 y1 y2 y3 y4 y5))
 | 0 => ⟨fun _ _ _ _ _ r h => by simp [spec_LeftLeaf.l0] at h, fun _ _ _ _ _ _ r h => by simp [spec_LeftLeaf.l1] at h⟩
 | k + 1 => by
  obtain ⟨ih0, ih1⟩ := spec_LeftLeaf.mono_l k
  refine ⟨?_, ?_⟩
  ·intro y0 y1 y2 y3 y4
   unfold spec_LeftLeaf.l0
   repeat' first
   | (with_reducible exact ih0 _ _ _ _ _)
   | (with_reducible exact ih1 _ _ _ _ _ _)
   | (with_reducible exact spec_EndOf.mono _ _ _)
   | (with_reducible exact spec_PostOrder.mono _ _)
   | (with_reducible exact spec_RankOf.mono _ _)
   | (with_reducible exact LeO.refl _)
   | (with_reducible exact LeO.none _)
   | (with_reducible refine LeO.ite ?_ ?_)
   | (with_reducible refine LeO.bind ?_ (fun _ => ?_))
   | exact ih0 _ _ _ _ _
   | exact ih1 _ _ _ _ _ _
   | exact spec_EndOf.mono _ _ _
   | exact spec_PostOrder.mono _ _
   | exact spec_RankOf.mono _ _
   | exact LeO.none _
   | refine LeO.ite ?_ ?_
   | refine LeO.bind ?_ (fun _ => ?_)
  ·intro y0 y1 y2 y3 y4 y5
   unfold spec_LeftLeaf.l1
   repeat' first
   | (with_reducible exact ih0 _ _ _ _ _)
   | (with_reducible exact ih1 _ _ _ _ _ _)
   | (with_reducible exact spec_EndOf.mono _ _ _)
   | (with_reducible exact spec_PostOrder.mono _ _)
   | (with_reducible exact spec_RankOf.mono _ _)
   | (with_reducible exact LeO.refl _)
   | (with_reducible exact LeO.none _)
   | (with_reducible refine LeO.ite ?_ ?_)
   | (with_reducible refine LeO.bind ?_ (fun _ => ?_))
   | exact ih0 _ _ _ _ _
   | exact ih1 _ _ _ _ _ _
   | exact spec_EndOf.mono _ _ _
   | exact spec_PostOrder.mono _ _
   | exact spec_RankOf.mono _ _
   | exact LeO.none _
   | refine LeO.ite ?_ ?_
   | refine LeO.bind ?_ (fun _ => ?_)
theorem spec_LeftLeaf.mono : ∀ a0 k, LeO (spec_LeftLeaf.f k a0) (spec_LeftLeaf.f (k + 1) a0) := by
 intro a0 k
 obtain ⟨ih0, ih1⟩ := spec_LeftLeaf.mono_l k
 unfold spec_LeftLeaf.f
 repeat' first
   | (with_reducible exact ih0 _ _ _ _ _)
   | (with_reducible exact ih1 _ _ _ _ _ _)
   | (with_reducible exact spec_EndOf.mono _ _ _)
   | (with_reducible exact spec_PostOrder.mono _ _)
   | (with_reducible exact spec_RankOf.mono _ _)
   | (with_reducible exact LeO.refl _)
   | (with_reducible exact LeO.none _)
   | (with_reducible refine LeO.ite ?_ ?_)
   | (with_reducible refine LeO.bind ?_ (fun _ => ?_))
   | exact ih0 _ _ _ _ _
   | exact ih1 _ _ _ _ _ _
   | exact spec_EndOf.mono _ _ _
   | exact spec_PostOrder.mono _ _
   | exact spec_RankOf.mono _ _
   | exact LeO.none _
   | refine LeO.ite ?_ ?_
   | refine LeO.bind ?_ (fun _ => ?_)
def spec_LeftLeaf.T8 : Bool × List (List Nat × List Nat) := (true, [([], []), ([0], [0]), ([], []), ([], []), ([], []), ([3, 4], [3, 4]), ([5], [5]), ([2, 6], [2, 6]), ([1, 7], [1, 7]), ([8, 7], [8]), ([9], [9]), ([9], [9]), ([11, 9], [9, 11]), ([10, 12, 9], [9, 10, 12]), ([13, 9], [9, 13]), ([14, 9], [9, 14]), ([9], [9]), ([9], [9]), ([16, 17, 9], [9, 16, 17]), ([18, 9], [9, 18]), ([19, 9], [9, 19]), ([20, 9], [9, 20]), ([15, 21, 9], [9, 15, 21]), ([9, 22], [9, 22])])
def spec_LeftLeaf.B8 : List Nat := [0, 1, 0, 0, 0, 24, 56, 124, 255, 511, 1023, 1023, 3071, 8191, 16383, 32767, 1023, 1023, 197631, 459775, 984063, 2032639, 4194303, 8388607]
theorem spec_LeftLeaf.tab8 : rtab .any (opsOf Try.f48 8) = spec_LeftLeaf.T8 := by kernel_rfl
theorem spec_LeftLeaf.bits8 : waitsOk spec_LeftLeaf.T8.2 spec_LeftLeaf.B8 = true := by kernel_rfl
set_option maxHeartbeats 8000000 in
set_option maxRecDepth 100000 in
theorem spec_LeftLeaf.calls (k : Nat) (A0 : Option Addr) (c0 : Nat) (l0 : List (S53)) (r : List Int) (w : World) (hr0 : Kd.C k53 w A0 l0.length l0) (hc0 : l0.length ≤ c0) (h : spec_LeftLeaf.f k l0 = some r) :
  Calls Try.prog 48 #[.slice A0 l0.length c0] w fun e w' => ∃ v0_ : Value, e = .returned (v0_) ∧ Kd.R (Kd.int .i64) 3 w' w.heap.size (fun _ => True) v0_ r ∧ Below w.heap.size w w' := by
 have HR0 := Aside0.mk hr0
 have HC0 := Aside0.mk hc0
 clear hr0 hc0
 have HB := Aside0.mk (Below.refl w.heap.size w)
 have H : ((spec_PostOrder.f k l0).bind fun t184 => ((spec_RankOf.f k l0).bind fun t187 => (spec_LeftLeaf.l0 k l0 (([] : List Int)) t184 t187 0))) = some r := h
 clear h
 obtain ⟨y181, hy181⟩ : ∃ y_ : List Int, y_ = (([] : List Int)) := ⟨_, rfl⟩
 replace H : ((spec_PostOrder.f k l0).bind fun t184 => ((spec_RankOf.f k l0).bind fun t187 => (spec_LeftLeaf.l0 k l0 y181 t184 t187 0))) = some r := by first | (rw [hy181]; with_reducible exact H) | (have H2_ := (Option.bind_some _ _).symm.trans H; rw [hy181]; with_reducible exact H2_) | (have H2_ := (Option.bind_some _ _).symm.trans H; with_reducible exact H2_) | with_reducible exact H | (rw [hy181]; exact H) | exact H
 have Ny181 := Aside0.mk hy181
 clear hy181
 replace H := Option.bind_eq_some_iff.mp H
 obtain ⟨t184, A20, H⟩ := H
 replace H : ((spec_RankOf.f k l0).bind fun t187 => (spec_LeftLeaf.l0 k l0 y181 t184 t187 0)) = some r := H
 have A2 := Aside0.mk A20
 clear A20
 replace H := Option.bind_eq_some_iff.mp H
 obtain ⟨t187, A30, H⟩ := H
 replace H : (spec_LeftLeaf.l0 k l0 y181 t184 t187 0) = some r := H
 have A3 := Aside0.mk A30
 clear A30
 have H' := Aside0.mk H
 clear H
 go_enter Try.func48, Try.ntmps48
 go_wp2_with (first | ((with_reducible refine gate_dst (N := 8) rfl ?_); refine Kd.R_lit (Kd.int .i64) _ 3 ?hg (N := 8) ?hd (xs := ([] : List Int)) (inner := []) (ok := fun _ => True) (okp := fun _ => True) ?hr ?hp (fun _ hk => hk) trivial (Below.refl _ _) (Nat.le_refl _) (by simp) ?_; (case hd => rfl); (case hg => rfl); (case hr => first | (go_simp; done) | (go_simp; rfl)); (case hp => exact (Reps.none _ _)); intro v182 w4 ho5 hb hg_ hnew_; clear hg_ hnew_; (first | rw [← Ny181.out] at ho5 | (simp only [Int.reduceToNat] at ho5; rw [← Ny181.out] at ho5)); have HO183 := Aside0.mk (Kd.R_lower ho5 (bs_ HB)); replace HB := tB_ HB hb; clear hb ho5) | ((with_reducible refine gate_callee (f := 40) rfl ?_); refine gL_ (some 10) Try.func40 #[.slice A0 l0.length c0] ?_; (with_reducible refine (spec_PostOrder.calls k _ _ l0 t184 _ (cx_ HR0 HB) HC0.out A2.out).mono ?_); rintro e w6 ⟨v185, rfl, ho0, hb⟩; refine ⟨_, rfl, ?_⟩; have HO186 := Aside0.mk (Kd.R_lower (Kd.R_new' ho0 (Kd.R_lt (rx_ HO183.out))) (bs_ HB)); replace HO183 := Aside0.mk (Kd.R_elder' (rx_ HO183.out) (Kd.R_base ho0) hb); replace HB := tB_ HB hb; (try clear hb); (try clear ho0)) | ((with_reducible refine gate_callee (f := 78) rfl ?_); refine gL_ (some 12) Try.func78 #[.slice A0 l0.length c0] ?_; (with_reducible refine (spec_RankOf.calls k _ _ l0 t187 _ (cx_ HR0 HB) HC0.out A3.out).mono ?_); rintro e w7 ⟨v188, rfl, ho0, hb⟩; refine ⟨_, rfl, ?_⟩; have HO189 := Aside0.mk (Kd.R_lower (Kd.R_new' (Kd.R_new' ho0 (Kd.R_lt (rx_ HO183.out))) (Kd.R_lt (rx_ HO186.out))) (bs_ HB)); replace HO183 := Aside0.mk (Kd.R_elder' (rx_ HO183.out) (Kd.R_base ho0) hb); replace HO186 := Aside0.mk (Kd.R_elder' (rx_ HO186.out) (Kd.R_base ho0) hb); replace HB := tB_ HB hb; (try clear hb); (try clear ho0)))
 go_loopg [3, 6] k (fun kq v3 v6 w' => ∃ (x3_1 : List Int) (x6_1 : Int), v6 = .int .i64 x6_1 ∧ Aside0 (spec_LeftLeaf.l0 kq l0 x3_1 t184 t187 x6_1 = some r) ∧ Aside0 (kq ≤ k) ∧ Aside0 (Kd.R (Kd.int .i64) 3 w' w.heap.size (fun k_ => some k_ ≠ (v185 : Value).ownBlock ∧ some k_ ≠ (v188 : Value).ownBlock) v3 x3_1) ∧ Aside0 (Kd.R (Kd.int .i64) 3 w' w.heap.size (fun k_ => some k_ ≠ (v3 : Value).ownBlock ∧ some k_ ≠ (v188 : Value).ownBlock) v185 t184) ∧ Aside0 (Kd.R (Kd.int .i64) 3 w' w.heap.size (fun k_ => some k_ ≠ (v3 : Value).ownBlock ∧ some k_ ≠ (v185 : Value).ownBlock) v188 t187) ∧ Aside0 (Below w.heap.size w w'))
 case atStart => exact ⟨(y181), (0), eb_, H', ⟨Nat.le_refl _⟩, ⟨rx_ (Kd.R_mono HO183.out (fun _ hk => ⟨hk.1.2, hk.2⟩))⟩, ⟨rx_ (Kd.R_mono HO186.out (fun _ hk => ⟨hk.1.2, hk.2⟩))⟩, ⟨rx_ (Kd.R_mono HO189.out (fun _ hk => ⟨hk.1.2, hk.2⟩))⟩, bl_ HB⟩
 case round =>
  clear H'
  try clear p2
  try clear c4
  try clear c7
  obtain ⟨x3_1, x6_1, rfl, HA, HK1, HO_3, HO_4, HO_5, HB⟩ := hrel
  cases gk with
  | zero => exact absurd HA.out (by simp [spec_LeftLeaf.l0])
  | succ k1 =>
   have H := HA.out
   clear HA
   simp only [spec_LeftLeaf.l0] at H
   by_cases c8 : x6_1 < (t184.length : Int)
   ·rw [if_pos c8] at H
    have c8b0 : decide (x6_1 < (t184.length : Int)) = true := decide_eq_true c8
    clear c8
    by_cases c9 : 0 ≤ x6_1
    ·rw [if_pos c9] at H
     have c9b0 : decide (0 ≤ x6_1) = true := decide_eq_true c9
     clear c9
     have H' := Aside0.mk H
     clear H
     obtain ⟨Ao10, co10, eo10⟩ := Kd.R_slice HO_4.out
     subst eo10
     have p190 : 0 ≤ (x6_1 : Int) := od_
     have q190 : x6_1 < (t184.length : Int) := od_
     obtain ⟨ad190, e190, hx190_0⟩ := Kd.at_int (Kd.R_reads' HO_4.out).2.2 x6_1 p190 q190
     cases e190
     replace p190 := eq_true p190
     replace q190 := eq_true q190
     go_wp2
     go_loopg [7] k1 (fun kq v7 w' => ∃ (x7_2 : Int), v7 = .int .i64 x7_2 ∧ Aside0 (spec_LeftLeaf.l1 kq l0 x3_1 t184 t187 x6_1 x7_2 = some r) ∧ Aside0 (kq ≤ k1) ∧ Aside0 (Kd.R (Kd.int .i64) 3 w' w.heap.size (fun k_ => some k_ ≠ ((.slice (some ad190) t184.length co10) : Value).ownBlock ∧ some k_ ≠ (v188 : Value).ownBlock) u3 x3_1) ∧ Aside0 (Kd.R (Kd.int .i64) 3 w' w.heap.size (fun k_ => some k_ ≠ (u3 : Value).ownBlock ∧ some k_ ≠ (v188 : Value).ownBlock) (.slice (some ad190) t184.length co10) t184) ∧ Aside0 (Kd.R (Kd.int .i64) 3 w' w.heap.size (fun k_ => some k_ ≠ (u3 : Value).ownBlock ∧ some k_ ≠ ((.slice (some ad190) t184.length co10) : Value).ownBlock) v188 t187) ∧ Aside0 (Below w.heap.size w w'))
     case atStart => exact ⟨(rd t184 x6_1), eb_, H', ⟨Nat.le_refl _⟩, ⟨rx_ HO_3.out⟩, ⟨rx_ HO_4.out⟩, ⟨rx_ HO_5.out⟩, bl_ HB⟩
     case round =>
      clear H'
      try clear p1
      try clear q1
      try clear hx1
      try clear p2
      try clear c4
      try clear c7
      try clear c8
      try clear c8b0
      try clear c9
      try clear c9b0
      try clear hx190_0
      try clear p190
      try clear p2
      try clear q190
      obtain ⟨x7_2, rfl, HA, HK2, HO_3, HO_4, HO_5, HB⟩ := hrel
      cases gk with
      | zero => exact absurd HA.out (by simp [spec_LeftLeaf.l1])
      | succ k2 =>
       have H := HA.out
       clear HA
       simp only [spec_LeftLeaf.l1] at H
       by_cases c11 : 0 ≤ x6_1
       ·rw [if_pos c11] at H
        have c11b0 : decide (0 ≤ x6_1) = true := decide_eq_true c11
        clear c11
        by_cases c12 : x6_1 < (t184.length : Int)
        ·rw [if_pos c12] at H
         have c12b0 : decide (x6_1 < (t184.length : Int)) = true := decide_eq_true c12
         clear c12
         replace H := Option.bind_eq_some_iff.mp H
         obtain ⟨t192, A130, H⟩ := H
         try dsimp only at H
         have A13 := Aside0.mk A130
         clear A130
         by_cases c14 : (wrap64 (x7_2 + 1)) < t192
         ·rw [if_pos c14] at H
          have c14b0 : decide ((wrap64 (x7_2 + 1)) < t192) = true := decide_eq_true c14
          clear c14
          obtain ⟨ji15, hji15⟩ : ∃ j_ : Int, (wrap64 (x7_2 + 1)) = j_ := ⟨_, rfl⟩
          replace H : (if 0 ≤ (ji15) then (if (ji15) < (l0.length : Int) then (if 0 ≤ x7_2 then (if x7_2 < (l0.length : Int) then (if ((rd_T53 l0 (ji15)).f1) = (wrap64 (((rd_T53 l0 x7_2).f1) + 1)) then (spec_LeftLeaf.l1 k2 l0 x3_1 t184 t187 x6_1 ji15) else (if x7_2 < (t187.length : Int) then (if x3_1.length < 17592186044416 then (spec_LeftLeaf.l0 k2 l0 (x3_1 ++ [rd t187 x7_2]) t184 t187 (wrap64 (x6_1 + 1))) else (none)) else (none))) else (none)) else (none)) else (none)) else (none)) = some r := by first | (rw [hji15] at H; exact H) | (simp only [hji15] at H ⊢; exact H)
          (try rw [hji15] at c14b0)
          (try rw [hji15] at A13)
          have hji15w : (IntKind.i64.wrap (x7_2 + 1)) = ji15 := (i64_w _).trans hji15
          by_cases c16 : 0 ≤ (ji15)
          ·rw [if_pos c16] at H
           have c16b0 : decide (0 ≤ (ji15)) = true := decide_eq_true c16
           clear c16
           by_cases c17 : (ji15) < (l0.length : Int)
           ·rw [if_pos c17] at H
            have c17b0 : decide ((ji15) < (l0.length : Int)) = true := decide_eq_true c17
            clear c17
            by_cases c18 : 0 ≤ x7_2
            ·rw [if_pos c18] at H
             have c18b0 : decide (0 ≤ x7_2) = true := decide_eq_true c18
             clear c18
             by_cases c19 : x7_2 < (l0.length : Int)
             ·rw [if_pos c19] at H
              have c19b0 : decide (x7_2 < (l0.length : Int)) = true := decide_eq_true c19
              clear c19
              by_cases c20 : ((rd_T53 l0 (ji15)).f1) = (wrap64 (((rd_T53 l0 x7_2).f1) + 1))
              ·rw [if_pos c20] at H
               have c20b0 : (((rd_T53 l0 (ji15)).f1) == (wrap64 (((rd_T53 l0 x7_2).f1) + 1))) = true := beq_iff_eq.mpr c20
               have c20b1 : (((rd_T53 l0 (ji15)).f1) != (wrap64 (((rd_T53 l0 x7_2).f1) + 1))) = false := bne_eq_false_iff_eq.mpr c20
               clear c20
               have H' := Aside0.mk H
               clear H
               try go_wp2
               have n0_ := Aside0.mk (Kd.R_drew HO_3.out)
               have n1_ := Aside0.mk (Kd.R_drew HO_4.out)
               have n2_ := Aside0.mk (Kd.R_drew HO_5.out)
               have n3_ := Aside0.mk (below_drew1 HB.out)
               clear HO_3
               clear HO_4
               clear HO_5
               clear HB
               have HO_3 := n0_
               have HO_4 := n1_
               have HO_5 := n2_
               have HB := n3_
               clear n0_ n1_ n2_ n3_
               have p191 : 0 ≤ (x6_1 : Int) := od_
               have q191 : x6_1 < (t184.length : Int) := od_
               obtain ⟨ad191, e191, hx191_0⟩ := Kd.at_int (Kd.R_reads' HO_4.out).2.2 x6_1 p191 q191
               obtain rfl : ad190 = ad191 := (by injection e191)
               replace p191 := eq_true p191
               replace q191 := eq_true q191
               have p193 : 0 ≤ ((ji15) : Int) := od_
               have q193 : (ji15) < (l0.length : Int) := od_
               obtain ⟨ad193, e193, hx193_0, hx193_1⟩ := at_T53 HR0.out (ji15) p193 q193
               have hw193_1 := hx193_1
               have hw193_0 := hx193_0
               cases e193
               replace hx193_0 := ce_ HB hx193_0
               replace hx193_1 := ce_ HB hx193_1
               replace p193 := eq_true p193
               replace q193 := eq_true q193
               have p194 : 0 ≤ (x7_2 : Int) := od_
               have q194 : x7_2 < (l0.length : Int) := od_
               obtain ⟨ad194, e194, hx194_0, hx194_1⟩ := at_T53 HR0.out x7_2 p194 q194
               have hw194_1 := hx194_1
               have hw194_0 := hx194_0
               obtain rfl : ad193 = ad194 := (by injection e194)
               replace hx194_0 := ce_ HB hx194_0
               replace hx194_1 := ce_ HB hx194_1
               replace p194 := eq_true p194
               replace q194 := eq_true q194
               refine start_ (n := 24) (S := fun w' => w'.cell? (ad190.add (x6_1).toNat) = some (.int .i64 (rd t184 x6_1)) ∧ w'.cell? (ad193.add (((ji15)).toNat * 2)) = some (.int .i64 ((rd_T53 l0 (ji15)).f0)) ∧ w'.cell? ⟨(ad193.add (((ji15)).toNat * 2)).block, (ad193.add (((ji15)).toNat * 2)).off + 1, none⟩ = some (.int .i64 ((rd_T53 l0 (ji15)).f1)) ∧ w'.cell? (ad193.add ((x7_2).toNat * 2)) = some (.int .i64 ((rd_T53 l0 x7_2).f0)) ∧ w'.cell? ⟨(ad193.add ((x7_2).toNat * 2)).block, (ad193.add ((x7_2).toNat * 2)).off + 1, none⟩ = some (.int .i64 ((rd_T53 l0 x7_2).f1))) (ds := []) (ba_ 24 0) (by kernel_rfl) rfl rfl ⟨hx191_0, (ce_ HB hw193_0), (ce_ HB hw193_1), (ce_ HB hw194_0), (ce_ HB hw194_1)⟩ (fun hHeld => ?_); refine with_tabW spec_LeftLeaf.tab8 spec_LeftLeaf.bits8 (fun HT_ HW_ => ?_)
               generalize wr.drew = w21 at HO_3 HO_4 HO_5 HB hx191_0 hx193_0 hx193_1 hx194_0 hx194_1 hHeld ⊢
               refine pu_ 0 (some 23) (ba_ 24 1) rfl rfl (any_of HT_.out (by kernel_rfl)) ?_
               refine pu_ 1 (some 24) (ba_ 24 3) rfl rfl (any_of HT_.out (by kernel_rfl)) ?_
               refine pu_ 2 (some 25) (ba_ 24 7) rfl rfl (any_of HT_.out (by kernel_rfl)) ?_
               refine pu_ 3 (some 26) (ba_ 24 15) rfl rfl (any_of HT_.out (by kernel_rfl)) ?_
               refine pu_ 4 (some 27) (ba_ 24 31) rfl rfl (any_of HT_.out (by kernel_rfl)) ?_
               refine pu_ 5 (some 28) (ba_ 24 63) rfl rfl (any_of HT_.out (by kernel_rfl)) ?_
               refine ta_ 6 (some 29) (ba_ 24 127) rfl rfl (take_ofW HT_.out HW_.out (by kernel_rfl)) hHeld (by rintro w' ⟨s0, s1, s2, s3, s4⟩; go_simp; with_reducible rfl) ?_
               refine one_ (i := 7) (N := some 30) (ba_ 24 255) rfl rfl (one_of HT_.out (by kernel_rfl)) (by decide) (fun K hK => ?_)
               refine goes_ Try.func79 (by kernel_rfl) rfl #[.slice (some ad193) l0.length c0, .int .i64 (rd t184 x6_1)] (by rfl) rfl rfl (by (try simp only [List.map_toArray, List.map_cons, List.map_nil]); first | done | rfl | (simp only [List.length_drop, List.length_take]; rfl)) ?_
               with_reducible refine (spec_EndOf.calls k2 _ _ l0 (rd t184 x6_1) t192 _ ?side1 ?side2 A13.out).mono ?_
               (case side1 => exact cx_ HR0 HB)
               (case side2 => exact HC0.out)
               rintro e w22 ⟨rfl, hb⟩
               have HS0_ := (hb.cell (World.block_lt_of_cell? _ _ (hHeld.1))).trans (hHeld.1)
               refine ⟨_, rfl, ?_⟩
               have n0_ := tR_ HO_3 hb
               have n1_ := tR_ HO_4 hb
               have n2_ := tR_ HO_5 hb
               have n3_ := tB_ HB hb
               clear HO_3
               clear HO_4
               clear HO_5
               clear HB
               have HO_3 := n0_
               have HO_4 := n1_
               have HO_5 := n2_
               have HB := n3_
               clear n0_ n1_ n2_ n3_
               (try clear hb)
               (try clear hb2)
               (try clear hk)
               (try clear hi)
               refine hK.out _ _ ⟨HS0_, (ce_ HB hw193_0), (ce_ HB hw193_1), (ce_ HB hw194_0), (ce_ HB hw194_1)⟩ (fun hHeld => ?_)
               clear hK K
               refine norm_ (a' := ?_) ?_ ?_
               rotate_left
               ·show Act.put _ (some 30) _ = _
                simp only [Act.put, List.setIfInBounds_toArray, List.set_cons_zero, List.set_cons_succ, i64_w, i32_w]
                rfl
               refine pu_ 8 (some 31) (ba_ 24 511) rfl rfl (any_of HT_.out (by kernel_rfl)) ?_
               refine pu_ 9 (some 32) (ba_ 24 1023) rfl rfl (any_of HT_.out (by kernel_rfl)) ?_
               refine pu_ 10 (some 33) (ba_ 24 2047) rfl rfl (any_of HT_.out (by kernel_rfl)) ?_
               refine pu_ 11 (some 34) (ba_ 24 4095) rfl rfl (any_of HT_.out (by kernel_rfl)) ?_
               refine pu_ 12 (some 35) (ba_ 24 8191) rfl rfl (any_of HT_.out (by kernel_rfl)) ?_
               refine pu_ 13 (some 36) (ba_ 24 16383) rfl rfl (any_of HT_.out (by kernel_rfl)) ?_
               refine pu_ 14 (some 37) (ba_ 24 32767) rfl rfl (any_of HT_.out (by kernel_rfl)) ?_
               refine pu_ 16 (some 39) (ba_ 24 98303) rfl rfl (any_of HT_.out (by kernel_rfl)) ?_
               refine pu_ 17 (some 40) (ba_ 24 229375) rfl rfl (any_of HT_.out (by kernel_rfl)) ?_
               refine pu_ 18 (some 41) (ba_ 24 491519) rfl rfl (any_of HT_.out (by kernel_rfl)) ?_
               refine pu_ 19 (some 42) (ba_ 24 1015807) rfl rfl (any_of HT_.out (by kernel_rfl)) ?_
               refine ta_ 15 (some 38) (ba_ 24 1048575) rfl rfl (take_ofW HT_.out HW_.out (by kernel_rfl)) hHeld (by rintro w' ⟨s0, s1, s2, s3, s4⟩; go_simp; with_reducible rfl) ?_
               refine ta_ 20 (some 43) (ba_ 24 2097151) rfl rfl (take_ofW HT_.out HW_.out (by kernel_rfl)) hHeld (by rintro w' ⟨s0, s1, s2, s3, s4⟩; go_simp; with_reducible rfl) ?_
               refine pu_ 21 (some 44) (ba_ 24 4194303) rfl rfl (any_of HT_.out (by kernel_rfl)) ?_
               refine pu_ 22 (some 45) (ba_ 24 8388607) rfl rfl (any_of HT_.out (by kernel_rfl)) ?_
               refine pu_ 23 (some 46) (ba_ 24 16777215) rfl rfl (any_of HT_.out (by kernel_rfl)) ?_
               refine done_ (done_of HT_.out (by kernel_rfl)) ?_
               try go_wp2
               go_roundg k2
               case measure => have := HK1.out; have := HK2.out; omega
               case rel => exact ⟨(ji15), (by first | rfl | (simp; done) | (simp only [← hji15] <;> (first | rfl | simp)) | (simp [*]; done)), H', ⟨by have := HK1.out; have := HK2.out; omega⟩, ⟨rx_ HO_3.out⟩, ⟨rx_ HO_4.out⟩, ⟨rx_ HO_5.out⟩, bl_ HB⟩
              ·rw [if_neg c20] at H
               have c20b0 : (((rd_T53 l0 (ji15)).f1) == (wrap64 (((rd_T53 l0 x7_2).f1) + 1))) = false := beq_eq_false_iff_ne.mpr c20
               have c20b1 : (((rd_T53 l0 (ji15)).f1) != (wrap64 (((rd_T53 l0 x7_2).f1) + 1))) = true := bne_iff_ne.mpr c20
               by_cases c23 : x7_2 < (t187.length : Int)
               ·rw [if_pos c23] at H
                have c23b0 : decide (x7_2 < (t187.length : Int)) = true := decide_eq_true c23
                clear c23
                by_cases c24 : x3_1.length < 17592186044416
                ·rw [if_pos c24] at H
                 have LMc24 := Aside0.mk c24
                 clear c24
                 obtain ⟨y196, hy196⟩ : ∃ y_ : List Int, y_ = (x3_1 ++ [rd t187 x7_2]) := ⟨_, rfl⟩
                 replace H : (spec_LeftLeaf.l0 k2 l0 y196 t184 t187 (wrap64 (x6_1 + 1))) = some r := by first | (rw [hy196]; with_reducible exact H) | (have H2_ := (Option.bind_some _ _).symm.trans H; rw [hy196]; with_reducible exact H2_) | (have H2_ := (Option.bind_some _ _).symm.trans H; with_reducible exact H2_) | with_reducible exact H | (rw [hy196]; exact H) | exact H
                 have Ny196 := Aside0.mk hy196
                 clear hy196
                 have H' := Aside0.mk H
                 clear H
                 try go_wp2
                 have n0_ := Aside0.mk (Kd.R_drew HO_3.out)
                 have n1_ := Aside0.mk (Kd.R_drew HO_4.out)
                 have n2_ := Aside0.mk (Kd.R_drew HO_5.out)
                 have n3_ := Aside0.mk (below_drew1 HB.out)
                 clear HO_3
                 clear HO_4
                 clear HO_5
                 clear HB
                 have HO_3 := n0_
                 have HO_4 := n1_
                 have HO_5 := n2_
                 have HB := n3_
                 clear n0_ n1_ n2_ n3_
                 have p191 : 0 ≤ (x6_1 : Int) := od_
                 have q191 : x6_1 < (t184.length : Int) := od_
                 obtain ⟨ad191, e191, hx191_0⟩ := Kd.at_int (Kd.R_reads' HO_4.out).2.2 x6_1 p191 q191
                 obtain rfl : ad190 = ad191 := (by injection e191)
                 replace p191 := eq_true p191
                 replace q191 := eq_true q191
                 have p193 : 0 ≤ ((ji15) : Int) := od_
                 have q193 : (ji15) < (l0.length : Int) := od_
                 obtain ⟨ad193, e193, hx193_0, hx193_1⟩ := at_T53 HR0.out (ji15) p193 q193
                 have hw193_1 := hx193_1
                 have hw193_0 := hx193_0
                 cases e193
                 replace hx193_0 := ce_ HB hx193_0
                 replace hx193_1 := ce_ HB hx193_1
                 replace p193 := eq_true p193
                 replace q193 := eq_true q193
                 have p194 : 0 ≤ (x7_2 : Int) := od_
                 have q194 : x7_2 < (l0.length : Int) := od_
                 obtain ⟨ad194, e194, hx194_0, hx194_1⟩ := at_T53 HR0.out x7_2 p194 q194
                 have hw194_1 := hx194_1
                 have hw194_0 := hx194_0
                 obtain rfl : ad193 = ad194 := (by injection e194)
                 replace hx194_0 := ce_ HB hx194_0
                 replace hx194_1 := ce_ HB hx194_1
                 replace p194 := eq_true p194
                 replace q194 := eq_true q194
                 refine start_ (n := 24) (S := fun w' => w'.cell? (ad190.add (x6_1).toNat) = some (.int .i64 (rd t184 x6_1)) ∧ w'.cell? (ad193.add (((ji15)).toNat * 2)) = some (.int .i64 ((rd_T53 l0 (ji15)).f0)) ∧ w'.cell? ⟨(ad193.add (((ji15)).toNat * 2)).block, (ad193.add (((ji15)).toNat * 2)).off + 1, none⟩ = some (.int .i64 ((rd_T53 l0 (ji15)).f1)) ∧ w'.cell? (ad193.add ((x7_2).toNat * 2)) = some (.int .i64 ((rd_T53 l0 x7_2).f0)) ∧ w'.cell? ⟨(ad193.add ((x7_2).toNat * 2)).block, (ad193.add ((x7_2).toNat * 2)).off + 1, none⟩ = some (.int .i64 ((rd_T53 l0 x7_2).f1))) (ds := []) (ba_ 24 0) (by kernel_rfl) rfl rfl ⟨hx191_0, (ce_ HB hw193_0), (ce_ HB hw193_1), (ce_ HB hw194_0), (ce_ HB hw194_1)⟩ (fun hHeld => ?_); refine with_tabW spec_LeftLeaf.tab8 spec_LeftLeaf.bits8 (fun HT_ HW_ => ?_)
                 generalize wr.drew = w25 at HO_3 HO_4 HO_5 HB hx191_0 hx193_0 hx193_1 hx194_0 hx194_1 hHeld ⊢
                 refine pu_ 0 (some 23) (ba_ 24 1) rfl rfl (any_of HT_.out (by kernel_rfl)) ?_
                 refine pu_ 1 (some 24) (ba_ 24 3) rfl rfl (any_of HT_.out (by kernel_rfl)) ?_
                 refine pu_ 2 (some 25) (ba_ 24 7) rfl rfl (any_of HT_.out (by kernel_rfl)) ?_
                 refine pu_ 3 (some 26) (ba_ 24 15) rfl rfl (any_of HT_.out (by kernel_rfl)) ?_
                 refine pu_ 4 (some 27) (ba_ 24 31) rfl rfl (any_of HT_.out (by kernel_rfl)) ?_
                 refine pu_ 5 (some 28) (ba_ 24 63) rfl rfl (any_of HT_.out (by kernel_rfl)) ?_
                 refine ta_ 6 (some 29) (ba_ 24 127) rfl rfl (take_ofW HT_.out HW_.out (by kernel_rfl)) hHeld (by rintro w' ⟨s0, s1, s2, s3, s4⟩; go_simp; with_reducible rfl) ?_
                 refine one_ (i := 7) (N := some 30) (ba_ 24 255) rfl rfl (one_of HT_.out (by kernel_rfl)) (by decide) (fun K hK => ?_)
                 refine goes_ Try.func79 (by kernel_rfl) rfl #[.slice (some ad193) l0.length c0, .int .i64 (rd t184 x6_1)] (by rfl) rfl rfl (by (try simp only [List.map_toArray, List.map_cons, List.map_nil]); first | done | rfl | (simp only [List.length_drop, List.length_take]; rfl)) ?_
                 with_reducible refine (spec_EndOf.calls k2 _ _ l0 (rd t184 x6_1) t192 _ ?side1 ?side2 A13.out).mono ?_
                 (case side1 => exact cx_ HR0 HB)
                 (case side2 => exact HC0.out)
                 rintro e w26 ⟨rfl, hb⟩
                 have HS0_ := (hb.cell (World.block_lt_of_cell? _ _ (hHeld.1))).trans (hHeld.1)
                 refine ⟨_, rfl, ?_⟩
                 have n0_ := tR_ HO_3 hb
                 have n1_ := tR_ HO_4 hb
                 have n2_ := tR_ HO_5 hb
                 have n3_ := tB_ HB hb
                 clear HO_3
                 clear HO_4
                 clear HO_5
                 clear HB
                 have HO_3 := n0_
                 have HO_4 := n1_
                 have HO_5 := n2_
                 have HB := n3_
                 clear n0_ n1_ n2_ n3_
                 (try clear hb)
                 (try clear hb2)
                 (try clear hk)
                 (try clear hi)
                 refine hK.out _ _ ⟨HS0_, (ce_ HB hw193_0), (ce_ HB hw193_1), (ce_ HB hw194_0), (ce_ HB hw194_1)⟩ (fun hHeld => ?_)
                 clear hK K
                 refine norm_ (a' := ?_) ?_ ?_
                 rotate_left
                 ·show Act.put _ (some 30) _ = _
                  simp only [Act.put, List.setIfInBounds_toArray, List.set_cons_zero, List.set_cons_succ, i64_w, i32_w]
                  rfl
                 refine pu_ 8 (some 31) (ba_ 24 511) rfl rfl (any_of HT_.out (by kernel_rfl)) ?_
                 refine pu_ 9 (some 32) (ba_ 24 1023) rfl rfl (any_of HT_.out (by kernel_rfl)) ?_
                 refine pu_ 10 (some 33) (ba_ 24 2047) rfl rfl (any_of HT_.out (by kernel_rfl)) ?_
                 refine pu_ 11 (some 34) (ba_ 24 4095) rfl rfl (any_of HT_.out (by kernel_rfl)) ?_
                 refine pu_ 12 (some 35) (ba_ 24 8191) rfl rfl (any_of HT_.out (by kernel_rfl)) ?_
                 refine pu_ 13 (some 36) (ba_ 24 16383) rfl rfl (any_of HT_.out (by kernel_rfl)) ?_
                 refine pu_ 14 (some 37) (ba_ 24 32767) rfl rfl (any_of HT_.out (by kernel_rfl)) ?_
                 refine pu_ 16 (some 39) (ba_ 24 98303) rfl rfl (any_of HT_.out (by kernel_rfl)) ?_
                 refine pu_ 17 (some 40) (ba_ 24 229375) rfl rfl (any_of HT_.out (by kernel_rfl)) ?_
                 refine pu_ 18 (some 41) (ba_ 24 491519) rfl rfl (any_of HT_.out (by kernel_rfl)) ?_
                 refine pu_ 19 (some 42) (ba_ 24 1015807) rfl rfl (any_of HT_.out (by kernel_rfl)) ?_
                 refine ta_ 15 (some 38) (ba_ 24 1048575) rfl rfl (take_ofW HT_.out HW_.out (by kernel_rfl)) hHeld (by rintro w' ⟨s0, s1, s2, s3, s4⟩; go_simp; with_reducible rfl) ?_
                 refine ta_ 20 (some 43) (ba_ 24 2097151) rfl rfl (take_ofW HT_.out HW_.out (by kernel_rfl)) hHeld (by rintro w' ⟨s0, s1, s2, s3, s4⟩; go_simp; with_reducible rfl) ?_
                 refine pu_ 21 (some 44) (ba_ 24 4194303) rfl rfl (any_of HT_.out (by kernel_rfl)) ?_
                 refine pu_ 22 (some 45) (ba_ 24 8388607) rfl rfl (any_of HT_.out (by kernel_rfl)) ?_
                 refine pu_ 23 (some 46) (ba_ 24 16777215) rfl rfl (any_of HT_.out (by kernel_rfl)) ?_
                 refine done_ (done_of HT_.out (by kernel_rfl)) ?_
                 obtain ⟨Ao27, co27, eo27⟩ := Kd.R_slice HO_5.out
                 subst eo27
                 have p195 : 0 ≤ (x7_2 : Int) := od_
                 have q195 : x7_2 < (t187.length : Int) := od_
                 obtain ⟨ad195, e195, hx195_0⟩ := Kd.at_int (Kd.R_reads' HO_5.out).2.2 x7_2 p195 q195
                 cases e195
                 replace p195 := eq_true p195
                 replace q195 := eq_true q195
                 try go_wp2_with (first | ((with_reducible refine gate_builtin (b := .append) (xs := #[.tmp 49, .tmp 54]) rfl ?_); at_builtin; refine Kd.R_append (Kd.int .i64) (w0 := w) w.heap.size rfl (.tmp 49) (.tmp 54) 23 3 (.int .i64 0) 8 rfl Try.underlying23 info3 rfl (by decide) (by omega) u3 x3_1 (rd t187 x7_2) [.int .i64 (rd t187 x7_2)] (fun k_ => some k_ ≠ (.slice (some ad190) t184.length co10 : Value).ownBlock ∧ some k_ ≠ (.slice (some ad195) t187.length co27 : Value).ownBlock) (fun _ => False) rfl rfl ?aP (fun _ hk => hk.elim) ?aF ?aO ?aB ?aS ?aL ?_; (case aP => exact rfl); (case aB => exact ((bl_ HB).out)); (case aF => exact (fun k_ hk => ⟨Kd.fresh' (Kd.R_lt (rx_ HO_4.out)) k_ hk, Kd.fresh' (Kd.R_lt (rx_ HO_5.out)) k_ hk⟩)); (case aO => exact (rx_ HO_3.out)); (case aS => exact (bs_ HB)); (case aL => have := LMc24.out; omega); intro v197 w28 ho hb hg hat; rw [← Ny196.out] at ho; replace HO_4 := Aside0.mk (Kd.R_after (ok := (fun k_ => some k_ ≠ (.slice (some ad195) t187.length co27 : Value).ownBlock)) (rx_ (Kd.R_mono HO_4.out (fun _ hk => ⟨hk.2, hk.1⟩))) hg hat); replace HO_5 := Aside0.mk (Kd.R_after (ok := (fun k_ => some k_ ≠ (.slice (some ad190) t184.length co10 : Value).ownBlock)) (rx_ (Kd.R_mono HO_5.out (fun _ hk => ⟨hk.2, hk.1⟩))) hg hat); replace HB := Aside0.mk (hb); have HO198 := Aside0.mk (ho); clear HO_3; clear ho hb hg hat))
                 go_roundg k2
                 case measure => have := HK1.out; have := HK2.out; omega
                 case rel => exact ⟨(y196), (wrap64 (x6_1 + 1)), eb_, H', ⟨by have := HK1.out; have := HK2.out; omega⟩, ⟨rx_ HO198.out⟩, ⟨rx_ (Kd.R_mono HO_4.out (fun _ hk => ⟨hk.2, hk.1⟩))⟩, ⟨rx_ (Kd.R_mono HO_5.out (fun _ hk => ⟨hk.2, hk.1⟩))⟩, bl_ HB⟩
                ·rw [if_neg c24] at H
                 exact absurd H (by simp)
               ·rw [if_neg c23] at H
                exact absurd H (by simp)
             ·rw [if_neg c19] at H
              exact absurd H (by simp)
            ·rw [if_neg c18] at H
             exact absurd H (by simp)
           ·rw [if_neg c17] at H
            exact absurd H (by simp)
          ·rw [if_neg c16] at H
           exact absurd H (by simp)
         ·rw [if_neg c14] at H
          have c14b0 : decide ((wrap64 (x7_2 + 1)) < t192) = false := decide_eq_false c14
          clear c14
          by_cases c29 : 0 ≤ x7_2
          ·rw [if_pos c29] at H
           have c29b0 : decide (0 ≤ x7_2) = true := decide_eq_true c29
           clear c29
           by_cases c30 : x7_2 < (t187.length : Int)
           ·rw [if_pos c30] at H
            have c30b0 : decide (x7_2 < (t187.length : Int)) = true := decide_eq_true c30
            clear c30
            by_cases c31 : x3_1.length < 17592186044416
            ·rw [if_pos c31] at H
             have LMc31 := Aside0.mk c31
             clear c31
             obtain ⟨y200, hy200⟩ : ∃ y_ : List Int, y_ = (x3_1 ++ [rd t187 x7_2]) := ⟨_, rfl⟩
             replace H : (spec_LeftLeaf.l0 k2 l0 y200 t184 t187 (wrap64 (x6_1 + 1))) = some r := by first | (rw [hy200]; with_reducible exact H) | (have H2_ := (Option.bind_some _ _).symm.trans H; rw [hy200]; with_reducible exact H2_) | (have H2_ := (Option.bind_some _ _).symm.trans H; with_reducible exact H2_) | with_reducible exact H | (rw [hy200]; exact H) | exact H
             have Ny200 := Aside0.mk hy200
             clear hy200
             have H' := Aside0.mk H
             clear H
             try go_wp2
             have n0_ := Aside0.mk (Kd.R_drew HO_3.out)
             have n1_ := Aside0.mk (Kd.R_drew HO_4.out)
             have n2_ := Aside0.mk (Kd.R_drew HO_5.out)
             have n3_ := Aside0.mk (below_drew1 HB.out)
             clear HO_3
             clear HO_4
             clear HO_5
             clear HB
             have HO_3 := n0_
             have HO_4 := n1_
             have HO_5 := n2_
             have HB := n3_
             clear n0_ n1_ n2_ n3_
             have p191 : 0 ≤ (x6_1 : Int) := od_
             have q191 : x6_1 < (t184.length : Int) := od_
             obtain ⟨ad191, e191, hx191_0⟩ := Kd.at_int (Kd.R_reads' HO_4.out).2.2 x6_1 p191 q191
             obtain rfl : ad190 = ad191 := (by injection e191)
             replace p191 := eq_true p191
             replace q191 := eq_true q191
             refine start_ (n := 24) (S := fun w' => w'.cell? (ad190.add (x6_1).toNat) = some (.int .i64 (rd t184 x6_1))) (ds := []) (ba_ 24 0) (by kernel_rfl) rfl rfl (hx191_0) (fun hHeld => ?_); refine with_tabW spec_LeftLeaf.tab8 spec_LeftLeaf.bits8 (fun HT_ HW_ => ?_)
             generalize wr.drew = w32 at HO_3 HO_4 HO_5 HB hx191_0 hHeld ⊢
             refine pu_ 0 (some 23) (ba_ 24 1) rfl rfl (any_of HT_.out (by kernel_rfl)) ?_
             refine pu_ 1 (some 24) (ba_ 24 3) rfl rfl (any_of HT_.out (by kernel_rfl)) ?_
             refine pu_ 2 (some 25) (ba_ 24 7) rfl rfl (any_of HT_.out (by kernel_rfl)) ?_
             refine pu_ 3 (some 26) (ba_ 24 15) rfl rfl (any_of HT_.out (by kernel_rfl)) ?_
             refine pu_ 4 (some 27) (ba_ 24 31) rfl rfl (any_of HT_.out (by kernel_rfl)) ?_
             refine pu_ 5 (some 28) (ba_ 24 63) rfl rfl (any_of HT_.out (by kernel_rfl)) ?_
             refine take_ (i := 6) (N := some 29) (v := ?_) (a' := ?_) (ba_ 24 127) rfl rfl (take_ofW HT_.out HW_.out (by kernel_rfl)) (fun _ _ _ h => h) (Or.inl ⟨by rfl, ?_⟩) hHeld ?_ ?_
             rotate_left
             ·intro w' s0
              go_simp
              with_reducible rfl
             rotate_left
             ·simp only [Act.put, List.setIfInBounds_toArray, List.set_cons_zero, List.set_cons_succ, i64_w, i32_w]
              rfl
             refine one_ (i := 7) (N := some 30) (ba_ 24 255) rfl rfl (one_of HT_.out (by kernel_rfl)) (by decide) (fun K hK => ?_)
             refine goes_ Try.func79 (by kernel_rfl) rfl #[.slice A0 l0.length c0, .int .i64 (rd t184 x6_1)] (by rfl) rfl rfl (by (try simp only [List.map_toArray, List.map_cons, List.map_nil]); first | done | rfl | (simp only [List.length_drop, List.length_take]; rfl)) ?_
             with_reducible refine (spec_EndOf.calls k2 _ _ l0 (rd t184 x6_1) t192 _ ?side1 ?side2 A13.out).mono ?_
             (case side1 => exact cx_ HR0 HB)
             (case side2 => exact HC0.out)
             rintro e w33 ⟨rfl, hb⟩
             have HS0_ := (hb.cell (World.block_lt_of_cell? _ _ (hHeld))).trans (hHeld)
             refine ⟨_, rfl, ?_⟩
             have n0_ := tR_ HO_3 hb
             have n1_ := tR_ HO_4 hb
             have n2_ := tR_ HO_5 hb
             have n3_ := tB_ HB hb
             clear HO_3
             clear HO_4
             clear HO_5
             clear HB
             have HO_3 := n0_
             have HO_4 := n1_
             have HO_5 := n2_
             have HB := n3_
             clear n0_ n1_ n2_ n3_
             (try clear hb)
             (try clear hb2)
             (try clear hk)
             (try clear hi)
             refine hK.out _ _ (HS0_) (fun hHeld => ?_)
             clear hK K
             refine norm_ (a' := ?_) ?_ ?_
             rotate_left
             ·show Act.put _ (some 30) _ = _
              simp only [Act.put, List.setIfInBounds_toArray, List.set_cons_zero, List.set_cons_succ, i64_w, i32_w]
              rfl
             refine pu_ 8 (some 31) (ba_ 24 511) rfl rfl (any_of HT_.out (by kernel_rfl)) ?_
             refine pu_ 9 (some 32) (ba_ 24 1023) rfl rfl (any_of HT_.out (by kernel_rfl)) ?_
             refine pn_ 10 (some 33) (ba_ 24 2047) rfl rfl (any_of HT_.out (by kernel_rfl)) ?_
             refine pn_ 11 (some 34) (ba_ 24 4095) rfl rfl (any_of HT_.out (by kernel_rfl)) ?_
             refine pn_ 12 (some 35) (ba_ 24 8191) rfl rfl (any_of HT_.out (by kernel_rfl)) ?_
             refine pn_ 13 (some 36) (ba_ 24 16383) rfl rfl (any_of HT_.out (by kernel_rfl)) ?_
             refine pn_ 14 (some 37) (ba_ 24 32767) rfl rfl (any_of HT_.out (by kernel_rfl)) ?_
             refine pn_ 15 (some 38) (ba_ 24 65535) rfl rfl (any_of HT_.out (by kernel_rfl)) ?_
             refine pn_ 16 (some 39) (ba_ 24 131071) rfl rfl (any_of HT_.out (by kernel_rfl)) ?_
             refine pn_ 17 (some 40) (ba_ 24 262143) rfl rfl (any_of HT_.out (by kernel_rfl)) ?_
             refine pn_ 18 (some 41) (ba_ 24 524287) rfl rfl (any_of HT_.out (by kernel_rfl)) ?_
             refine pn_ 19 (some 42) (ba_ 24 1048575) rfl rfl (any_of HT_.out (by kernel_rfl)) ?_
             refine pn_ 20 (some 43) (ba_ 24 2097151) rfl rfl (any_of HT_.out (by kernel_rfl)) ?_
             refine pn_ 21 (some 44) (ba_ 24 4194303) rfl rfl (any_of HT_.out (by kernel_rfl)) ?_
             refine pn_ 22 (some 45) (ba_ 24 8388607) rfl rfl (any_of HT_.out (by kernel_rfl)) ?_
             refine pu_ 23 (some 46) (ba_ 24 16777215) rfl rfl (any_of HT_.out (by kernel_rfl)) ?_
             refine done_ (done_of HT_.out (by kernel_rfl)) ?_
             obtain ⟨Ao34, co34, eo34⟩ := Kd.R_slice HO_5.out
             subst eo34
             have p199 : 0 ≤ (x7_2 : Int) := od_
             have q199 : x7_2 < (t187.length : Int) := od_
             obtain ⟨ad199, e199, hx199_0⟩ := Kd.at_int (Kd.R_reads' HO_5.out).2.2 x7_2 p199 q199
             cases e199
             replace p199 := eq_true p199
             replace q199 := eq_true q199
             try go_wp2_with (first | ((with_reducible refine gate_builtin (b := .append) (xs := #[.tmp 49, .tmp 54]) rfl ?_); at_builtin; refine Kd.R_append (Kd.int .i64) (w0 := w) w.heap.size rfl (.tmp 49) (.tmp 54) 23 3 (.int .i64 0) 8 rfl Try.underlying23 info3 rfl (by decide) (by omega) u3 x3_1 (rd t187 x7_2) [.int .i64 (rd t187 x7_2)] (fun k_ => some k_ ≠ (.slice (some ad190) t184.length co10 : Value).ownBlock ∧ some k_ ≠ (.slice (some ad199) t187.length co34 : Value).ownBlock) (fun _ => False) rfl rfl ?aP (fun _ hk => hk.elim) ?aF ?aO ?aB ?aS ?aL ?_; (case aP => exact rfl); (case aB => exact ((bl_ HB).out)); (case aF => exact (fun k_ hk => ⟨Kd.fresh' (Kd.R_lt (rx_ HO_4.out)) k_ hk, Kd.fresh' (Kd.R_lt (rx_ HO_5.out)) k_ hk⟩)); (case aO => exact (rx_ HO_3.out)); (case aS => exact (bs_ HB)); (case aL => have := LMc31.out; omega); intro v201 w35 ho hb hg hat; rw [← Ny200.out] at ho; replace HO_4 := Aside0.mk (Kd.R_after (ok := (fun k_ => some k_ ≠ (.slice (some ad199) t187.length co34 : Value).ownBlock)) (rx_ (Kd.R_mono HO_4.out (fun _ hk => ⟨hk.2, hk.1⟩))) hg hat); replace HO_5 := Aside0.mk (Kd.R_after (ok := (fun k_ => some k_ ≠ (.slice (some ad190) t184.length co10 : Value).ownBlock)) (rx_ (Kd.R_mono HO_5.out (fun _ hk => ⟨hk.2, hk.1⟩))) hg hat); replace HB := Aside0.mk (hb); have HO202 := Aside0.mk (ho); clear HO_3; clear ho hb hg hat))
             go_roundg k2
             case measure => have := HK1.out; have := HK2.out; omega
             case rel => exact ⟨(y200), (wrap64 (x6_1 + 1)), eb_, H', ⟨by have := HK1.out; have := HK2.out; omega⟩, ⟨rx_ HO202.out⟩, ⟨rx_ (Kd.R_mono HO_4.out (fun _ hk => ⟨hk.2, hk.1⟩))⟩, ⟨rx_ (Kd.R_mono HO_5.out (fun _ hk => ⟨hk.2, hk.1⟩))⟩, bl_ HB⟩
            ·rw [if_neg c31] at H
             exact absurd H (by simp)
           ·rw [if_neg c30] at H
            exact absurd H (by simp)
          ·rw [if_neg c29] at H
           exact absurd H (by simp)
        ·rw [if_neg c12] at H
         exact absurd H (by simp)
       ·rw [if_neg c11] at H
        exact absurd H (by simp)
    ·rw [if_neg c9] at H
     exact absurd H (by simp)
   ·rw [if_neg c8] at H
    have c8b0 : decide (x6_1 < (t184.length : Int)) = false := decide_eq_false c8
    clear c8
    obtain rfl := Option.some.inj H
    obtain ⟨Ao36, co36, eo36⟩ := Kd.R_slice HO_4.out
    subst eo36
    go_wp2
    go_ret
    exact ⟨_, ea_, rx_ (Kd.R_mono HO_3.out (fun _ hk => trivial)), (bl_ HB).out⟩
end Go.Proofs.Ytelglbebffdaaaa.X
namespace Go.Proofs.Ytelglbebffdaaaa.X
open Go.RowKit Go.Proofs.YtelglbebffdaaaaW.PrintWords Go.Proofs.YtelglbebffdaaaaW.PrintLast Go.Proofs.YtelglbebffdaaaaW.PrintMore
attribute [local go_sem] max2_int min2_int max_two min_two max_three min_three max_four min_four   -- for this text's walks alone
set_option linter.unusedVariables false
set_option linter.unusedSimpArgs false
def spec_l8Labels.l0 : Nat → List (S53) → List Int → List Int → Int → Option (List Int)
 | 0, _, _, _, _ => none
 | k + 1, x0, x3, x4, x5 => if x5 < (x4.length : Int) then (if 0 ≤ x5 then (if 0 ≤ (rd x4 x5) then (if (rd x4 x5) < (x0.length : Int) then (if x3.length < 17592186044416 then (spec_l8Labels.l0 k x0 (x3 ++ [(rd_T53 x0 (rd x4 x5)).f0]) x4 (wrap64 (x5 + 1))) else (none)) else (none)) else (none)) else (none)) else (some x3)
def spec_l8Labels.f (k : Nat) (l0 : List (S53)) : Option (List Int) := (spec_PostOrder.f k l0).bind fun t206 => (spec_l8Labels.l0 k l0 (([] : List Int)) t206 0)
theorem spec_l8Labels.mono_l : ∀ k, (∀ y0 y1 y2 y3, LeO (spec_l8Labels.l0 k y0 y1 y2 y3) (spec_l8Labels.l0 (k + 1) y0 y1 y2 y3))
 | 0 => fun _ _ _ _ r h => by simp [spec_l8Labels.l0] at h
 | k + 1 => by
  have ih0 := spec_l8Labels.mono_l k
  ·intro y0 y1 y2 y3
   unfold spec_l8Labels.l0
   repeat' first
   | (with_reducible exact ih0 _ _ _ _)
   | (with_reducible exact spec_PostOrder.mono _ _)
   | (with_reducible exact LeO.refl _)
   | (with_reducible exact LeO.none _)
   | (with_reducible refine LeO.ite ?_ ?_)
   | (with_reducible refine LeO.bind ?_ (fun _ => ?_))
   | exact ih0 _ _ _ _
   | exact spec_PostOrder.mono _ _
   | exact LeO.none _
   | refine LeO.ite ?_ ?_
   | refine LeO.bind ?_ (fun _ => ?_)
theorem spec_l8Labels.mono : ∀ a0 k, LeO (spec_l8Labels.f k a0) (spec_l8Labels.f (k + 1) a0) := by
 intro a0 k
 have ih0 := spec_l8Labels.mono_l k
 unfold spec_l8Labels.f
 repeat' first
   | (with_reducible exact ih0 _ _ _ _)
   | (with_reducible exact spec_PostOrder.mono _ _)
   | (with_reducible exact LeO.refl _)
   | (with_reducible exact LeO.none _)
   | (with_reducible refine LeO.ite ?_ ?_)
   | (with_reducible refine LeO.bind ?_ (fun _ => ?_))
   | exact ih0 _ _ _ _
   | exact spec_PostOrder.mono _ _
   | exact LeO.none _
   | refine LeO.ite ?_ ?_
   | refine LeO.bind ?_ (fun _ => ?_)
set_option maxHeartbeats 8000000 in
set_option maxRecDepth 100000 in
theorem spec_l8Labels.calls (k : Nat) (A0 : Option Addr) (c0 : Nat) (l0 : List (S53)) (r : List Int) (w : World) (hr0 : Kd.C k53 w A0 l0.length l0) (hc0 : l0.length ≤ c0) (h : spec_l8Labels.f k l0 = some r) :
  Calls Try.prog 81 #[.slice A0 l0.length c0] w fun e w' => ∃ v0_ : Value, e = .returned (v0_) ∧ Kd.R (Kd.int .i64) 3 w' w.heap.size (fun _ => True) v0_ r ∧ Below w.heap.size w w' := by
 have HR0 := Aside0.mk hr0
 have HC0 := Aside0.mk hc0
 clear hr0 hc0
 have HB := Aside0.mk (Below.refl w.heap.size w)
 have H : ((spec_PostOrder.f k l0).bind fun t206 => (spec_l8Labels.l0 k l0 (([] : List Int)) t206 0)) = some r := h
 clear h
 obtain ⟨y203, hy203⟩ : ∃ y_ : List Int, y_ = (([] : List Int)) := ⟨_, rfl⟩
 replace H : ((spec_PostOrder.f k l0).bind fun t206 => (spec_l8Labels.l0 k l0 y203 t206 0)) = some r := by first | (rw [hy203]; with_reducible exact H) | (have H2_ := (Option.bind_some _ _).symm.trans H; rw [hy203]; with_reducible exact H2_) | (have H2_ := (Option.bind_some _ _).symm.trans H; with_reducible exact H2_) | with_reducible exact H | (rw [hy203]; exact H) | exact H
 have Ny203 := Aside0.mk hy203
 clear hy203
 replace H := Option.bind_eq_some_iff.mp H
 obtain ⟨t206, A20, H⟩ := H
 replace H : (spec_l8Labels.l0 k l0 y203 t206 0) = some r := H
 have A2 := Aside0.mk A20
 clear A20
 have H' := Aside0.mk H
 clear H
 go_enter Try.func81, Try.ntmps81
 go_wp2_with (first | ((with_reducible refine gate_dst (N := 6) rfl ?_); refine Kd.R_lit (Kd.int .i64) _ 3 ?hg (N := 6) ?hd (xs := ([] : List Int)) (inner := []) (ok := fun _ => True) (okp := fun _ => True) ?hr ?hp (fun _ hk => hk) trivial (Below.refl _ _) (Nat.le_refl _) (by simp) ?_; (case hd => rfl); (case hg => rfl); (case hr => first | (go_simp; done) | (go_simp; rfl)); (case hp => exact (Reps.none _ _)); intro v204 w3 ho4 hb hg_ hnew_; clear hg_ hnew_; (first | rw [← Ny203.out] at ho4 | (simp only [Int.reduceToNat] at ho4; rw [← Ny203.out] at ho4)); have HO205 := Aside0.mk (Kd.R_lower ho4 (bs_ HB)); replace HB := tB_ HB hb; clear hb ho4) | ((with_reducible refine gate_callee (f := 40) rfl ?_); refine gL_ (some 8) Try.func40 #[.slice A0 l0.length c0] ?_; (with_reducible refine (spec_PostOrder.calls k _ _ l0 t206 _ (cx_ HR0 HB) HC0.out A2.out).mono ?_); rintro e w5 ⟨v207, rfl, ho0, hb⟩; refine ⟨_, rfl, ?_⟩; have HO208 := Aside0.mk (Kd.R_lower (Kd.R_new' ho0 (Kd.R_lt (rx_ HO205.out))) (bs_ HB)); replace HO205 := Aside0.mk (Kd.R_elder' (rx_ HO205.out) (Kd.R_base ho0) hb); replace HB := tB_ HB hb; (try clear hb); (try clear ho0)))
 go_loopg [3, 5] k (fun kq v3 v5 w' => ∃ (x3_1 : List Int) (x5_1 : Int), v5 = .int .i64 x5_1 ∧ Aside0 (spec_l8Labels.l0 kq l0 x3_1 t206 x5_1 = some r) ∧ Aside0 (kq ≤ k) ∧ Aside0 (Kd.R (Kd.int .i64) 3 w' w.heap.size (fun k_ => some k_ ≠ (v207 : Value).ownBlock) v3 x3_1) ∧ Aside0 (Kd.R (Kd.int .i64) 3 w' w.heap.size (fun k_ => some k_ ≠ (v3 : Value).ownBlock) v207 t206) ∧ Aside0 (Below w.heap.size w w'))
 case atStart => exact ⟨(y203), (0), eb_, H', ⟨Nat.le_refl _⟩, ⟨rx_ (Kd.R_mono HO205.out (fun _ hk => hk.2))⟩, ⟨rx_ (Kd.R_mono HO208.out (fun _ hk => hk.2))⟩, bl_ HB⟩
 case round =>
  clear H'
  try clear p2
  try clear c4
  obtain ⟨x3_1, x5_1, rfl, HA, HK1, HO_3, HO_4, HB⟩ := hrel
  cases gk with
  | zero => exact absurd HA.out (by simp [spec_l8Labels.l0])
  | succ k1 =>
   have H := HA.out
   clear HA
   simp only [spec_l8Labels.l0] at H
   by_cases c6 : x5_1 < (t206.length : Int)
   ·rw [if_pos c6] at H
    have c6b0 : decide (x5_1 < (t206.length : Int)) = true := decide_eq_true c6
    clear c6
    by_cases c7 : 0 ≤ x5_1
    ·rw [if_pos c7] at H
     have c7b0 : decide (0 ≤ x5_1) = true := decide_eq_true c7
     clear c7
     by_cases c8 : 0 ≤ (rd t206 x5_1)
     ·rw [if_pos c8] at H
      have c8b0 : decide (0 ≤ (rd t206 x5_1)) = true := decide_eq_true c8
      clear c8
      by_cases c9 : (rd t206 x5_1) < (l0.length : Int)
      ·rw [if_pos c9] at H
       have c9b0 : decide ((rd t206 x5_1) < (l0.length : Int)) = true := decide_eq_true c9
       clear c9
       by_cases c10 : x3_1.length < 17592186044416
       ·rw [if_pos c10] at H
        have LMc10 := Aside0.mk c10
        clear c10
        obtain ⟨y211, hy211⟩ : ∃ y_ : List Int, y_ = (x3_1 ++ [(rd_T53 l0 (rd t206 x5_1)).f0]) := ⟨_, rfl⟩
        replace H : (spec_l8Labels.l0 k1 l0 y211 t206 (wrap64 (x5_1 + 1))) = some r := by first | (rw [hy211]; with_reducible exact H) | (have H2_ := (Option.bind_some _ _).symm.trans H; rw [hy211]; with_reducible exact H2_) | (have H2_ := (Option.bind_some _ _).symm.trans H; with_reducible exact H2_) | with_reducible exact H | (rw [hy211]; exact H) | exact H
        have Ny211 := Aside0.mk hy211
        clear hy211
        have H' := Aside0.mk H
        clear H
        obtain ⟨Ao11, co11, eo11⟩ := Kd.R_slice HO_4.out
        subst eo11
        have p209 : 0 ≤ (x5_1 : Int) := od_
        have q209 : x5_1 < (t206.length : Int) := od_
        obtain ⟨ad209, e209, hx209_0⟩ := Kd.at_int (Kd.R_reads' HO_4.out).2.2 x5_1 p209 q209
        cases e209
        replace p209 := eq_true p209
        replace q209 := eq_true q209
        have p210 : 0 ≤ ((rd t206 x5_1) : Int) := od_
        have q210 : (rd t206 x5_1) < (l0.length : Int) := od_
        obtain ⟨ad210, e210, hx210_0, hx210_1⟩ := at_T53 HR0.out (rd t206 x5_1) p210 q210
        cases e210
        replace hx210_0 := ce_ HB hx210_0
        replace hx210_1 := ce_ HB hx210_1
        replace p210 := eq_true p210
        replace q210 := eq_true q210
        go_wp2_with (first | ((with_reducible refine gate_builtin (b := .append) (xs := #[.tmp 15, .tmp 24]) rfl ?_); at_builtin; refine Kd.R_append (Kd.int .i64) (w0 := w) w.heap.size rfl (.tmp 15) (.tmp 24) 23 3 (.int .i64 0) 8 rfl Try.underlying23 info3 rfl (by decide) (by omega) u3 x3_1 ((rd_T53 l0 (rd t206 x5_1)).f0) [.int .i64 ((rd_T53 l0 (rd t206 x5_1)).f0)] (fun k_ => some k_ ≠ (.slice (some ad209) t206.length co11 : Value).ownBlock) (fun _ => False) rfl rfl ?aP (fun _ hk => hk.elim) ?aF ?aO ?aB ?aS ?aL ?_; (case aP => exact rfl); (case aB => exact ((bl_ HB).out)); (case aF => exact (fun k_ hk => Kd.fresh' (Kd.R_lt (rx_ HO_4.out)) k_ hk)); (case aO => exact (rx_ HO_3.out)); (case aS => exact (bs_ HB)); (case aL => have := LMc10.out; omega); intro v212 w12 ho hb hg hat; rw [← Ny211.out] at ho; replace HO_4 := Aside0.mk (Kd.R_after (ok := (fun _ => True)) (rx_ (Kd.R_mono HO_4.out (fun _ hk => ⟨trivial, hk⟩))) hg hat); replace HB := Aside0.mk (hb); have HO213 := Aside0.mk (ho); clear HO_3; clear ho hb hg hat))
        go_roundg k1
        case measure => have := HK1.out; omega
        case rel => exact ⟨(y211), (wrap64 (x5_1 + 1)), eb_, H', ⟨by have := HK1.out; omega⟩, ⟨rx_ HO213.out⟩, ⟨rx_ (Kd.R_mono HO_4.out (fun _ hk => hk.2))⟩, bl_ HB⟩
       ·rw [if_neg c10] at H
        exact absurd H (by simp)
      ·rw [if_neg c9] at H
       exact absurd H (by simp)
     ·rw [if_neg c8] at H
      exact absurd H (by simp)
    ·rw [if_neg c7] at H
     exact absurd H (by simp)
   ·rw [if_neg c6] at H
    have c6b0 : decide (x5_1 < (t206.length : Int)) = false := decide_eq_false c6
    clear c6
    obtain rfl := Option.some.inj H
    obtain ⟨Ao13, co13, eo13⟩ := Kd.R_slice HO_4.out
    subst eo13
    go_wp2
    go_ret
    exact ⟨_, ea_, rx_ (Kd.R_mono HO_3.out (fun _ hk => trivial)), (bl_ HB).out⟩
end Go.Proofs.Ytelglbebffdaaaa.X
namespace Go.Proofs.Ytelglbebffdaaaa.X
open Go.RowKit Go.Proofs.YtelglbebffdaaaaW.PrintWords Go.Proofs.YtelglbebffdaaaaW.PrintLast Go.Proofs.YtelglbebffdaaaaW.PrintMore
attribute [local go_sem] max2_int min2_int max_two min_two max_three min_three max_four min_four   -- for this text's walks alone
set_option linter.unusedVariables false
set_option linter.unusedSimpArgs false
mutual
def spec_KeyRoots.l0 : Nat → List Int → List Int → Int → Option (List Int)
 | 0, _, _, _ => none
 | k + 1, x3, x4, x5 => if x5 < (x4.length : Int) then (spec_KeyRoots.l1 k x3 x4 x5 true (wrap64 (x5 + 1))) else (some x3)
def spec_KeyRoots.l1 : Nat → List Int → List Int → Int → Bool → Int → Option (List Int)
 | 0, _, _, _, _, _ => none
 | k + 1, x3, x4, x5, x6, x7 => if x7 < (x4.length : Int) then (if x6 = true then (if 0 ≤ x7 then (if 0 ≤ x5 then (if x5 < (x4.length : Int) then (spec_KeyRoots.l1 k x3 x4 x5 ((rd x4 x7) != (rd x4 x5)) (wrap64 (x7 + 1))) else (none)) else (none)) else (none)) else (spec_KeyRoots.l1 k x3 x4 x5 false (wrap64 (x7 + 1)))) else (if x6 = true then (if x3.length < 17592186044416 then (spec_KeyRoots.l0 k (x3 ++ [x5]) x4 (wrap64 (x5 + 1))) else (none)) else (spec_KeyRoots.l0 k x3 x4 (wrap64 (x5 + 1))))
end
def spec_KeyRoots.f (k : Nat) (l0 : List (S53)) : Option (List Int) := (spec_LeftLeaf.f k l0).bind fun t481 => (spec_KeyRoots.l0 k (([] : List Int)) t481 0)
theorem spec_KeyRoots.mono_l : ∀ k, (∀ y0 y1 y2, LeO (spec_KeyRoots.l0 k y0 y1 y2) (spec_KeyRoots.l0 (k + 1) y0 y1 y2)) ∧ (∀ y0 y1 y2 y3 y4, LeO (spec_KeyRoots.l1 k y0 y1 y2 y3 y4) (spec_KeyRoots.l1 (k + 1) y0 y1 y2 y3 y4))
 | 0 => ⟨fun _ _ _ r h => by simp [spec_KeyRoots.l0] at h, fun _ _ _ _ _ r h => by simp [spec_KeyRoots.l1] at h⟩
 | k + 1 => by
  obtain ⟨ih0, ih1⟩ := spec_KeyRoots.mono_l k
  refine ⟨?_, ?_⟩
  ·intro y0 y1 y2
   unfold spec_KeyRoots.l0
   repeat' first
   | (with_reducible exact ih0 _ _ _)
   | (with_reducible exact ih1 _ _ _ _ _)
   | (with_reducible exact spec_LeftLeaf.mono _ _)
   | (with_reducible exact LeO.refl _)
   | (with_reducible exact LeO.none _)
   | (with_reducible refine LeO.ite ?_ ?_)
   | (with_reducible refine LeO.bind ?_ (fun _ => ?_))
   | exact ih0 _ _ _
   | exact ih1 _ _ _ _ _
   | exact spec_LeftLeaf.mono _ _
   | exact LeO.none _
   | refine LeO.ite ?_ ?_
   | refine LeO.bind ?_ (fun _ => ?_)
  ·intro y0 y1 y2 y3 y4
   unfold spec_KeyRoots.l1
   repeat' first
   | (with_reducible exact ih0 _ _ _)
   | (with_reducible exact ih1 _ _ _ _ _)
   | (with_reducible exact spec_LeftLeaf.mono _ _)
   | (with_reducible exact LeO.refl _)
   | (with_reducible exact LeO.none _)
   | (with_reducible refine LeO.ite ?_ ?_)
   | (with_reducible refine LeO.bind ?_ (fun _ => ?_))
   | exact ih0 _ _ _
   | exact ih1 _ _ _ _ _
   | exact spec_LeftLeaf.mono _ _
   | exact LeO.none _
   | refine LeO.ite ?_ ?_
   | refine LeO.bind ?_ (fun _ => ?_)
theorem spec_KeyRoots.mono : ∀ a0 k, LeO (spec_KeyRoots.f k a0) (spec_KeyRoots.f (k + 1) a0) := by
 intro a0 k
 obtain ⟨ih0, ih1⟩ := spec_KeyRoots.mono_l k
 unfold spec_KeyRoots.f
 repeat' first
   | (with_reducible exact ih0 _ _ _)
   | (with_reducible exact ih1 _ _ _ _ _)
   | (with_reducible exact spec_LeftLeaf.mono _ _)
   | (with_reducible exact LeO.refl _)
   | (with_reducible exact LeO.none _)
   | (with_reducible refine LeO.ite ?_ ?_)
   | (with_reducible refine LeO.bind ?_ (fun _ => ?_))
   | exact ih0 _ _ _
   | exact ih1 _ _ _ _ _
   | exact spec_LeftLeaf.mono _ _
   | exact LeO.none _
   | refine LeO.ite ?_ ?_
   | refine LeO.bind ?_ (fun _ => ?_)
set_option maxHeartbeats 8000000 in
set_option maxRecDepth 100000 in
theorem spec_KeyRoots.calls (k : Nat) (A0 : Option Addr) (c0 : Nat) (l0 : List (S53)) (r : List Int) (w : World) (hr0 : Kd.C k53 w A0 l0.length l0) (hc0 : l0.length ≤ c0) (h : spec_KeyRoots.f k l0 = some r) :
  Calls Try.prog 85 #[.slice A0 l0.length c0] w fun e w' => ∃ v0_ : Value, e = .returned (v0_) ∧ Kd.R (Kd.int .i64) 3 w' w.heap.size (fun _ => True) v0_ r ∧ Below w.heap.size w w' := by
 have HR0 := Aside0.mk hr0
 have HC0 := Aside0.mk hc0
 clear hr0 hc0
 have HB := Aside0.mk (Below.refl w.heap.size w)
 have H : ((spec_LeftLeaf.f k l0).bind fun t481 => (spec_KeyRoots.l0 k (([] : List Int)) t481 0)) = some r := h
 clear h
 obtain ⟨y478, hy478⟩ : ∃ y_ : List Int, y_ = (([] : List Int)) := ⟨_, rfl⟩
 replace H : ((spec_LeftLeaf.f k l0).bind fun t481 => (spec_KeyRoots.l0 k y478 t481 0)) = some r := by first | (rw [hy478]; with_reducible exact H) | (have H2_ := (Option.bind_some _ _).symm.trans H; rw [hy478]; with_reducible exact H2_) | (have H2_ := (Option.bind_some _ _).symm.trans H; with_reducible exact H2_) | with_reducible exact H | (rw [hy478]; exact H) | exact H
 have Ny478 := Aside0.mk hy478
 clear hy478
 replace H := Option.bind_eq_some_iff.mp H
 obtain ⟨t481, A20, H⟩ := H
 replace H : (spec_KeyRoots.l0 k y478 t481 0) = some r := H
 have A2 := Aside0.mk A20
 clear A20
 have H' := Aside0.mk H
 clear H
 go_enter Try.func85, Try.ntmps85
 go_wp2_with (first | ((with_reducible refine gate_dst (N := 8) rfl ?_); refine Kd.R_lit (Kd.int .i64) _ 3 ?hg (N := 8) ?hd (xs := ([] : List Int)) (inner := []) (ok := fun _ => True) (okp := fun _ => True) ?hr ?hp (fun _ hk => hk) trivial (Below.refl _ _) (Nat.le_refl _) (by simp) ?_; (case hd => rfl); (case hg => rfl); (case hr => first | (go_simp; done) | (go_simp; rfl)); (case hp => exact (Reps.none _ _)); intro v479 w3 ho4 hb hg_ hnew_; clear hg_ hnew_; (first | rw [← Ny478.out] at ho4 | (simp only [Int.reduceToNat] at ho4; rw [← Ny478.out] at ho4)); have HO480 := Aside0.mk (Kd.R_lower ho4 (bs_ HB)); replace HB := tB_ HB hb; clear hb ho4) | (go_at_call 48; (with_reducible refine (spec_LeftLeaf.calls k _ _ l0 t481 _ (cx_ HR0 HB) HC0.out A2.out).mono ?_); rintro e w5 ⟨v482, rfl, ho0, hb⟩; have HO483 := Aside0.mk (Kd.R_lower (Kd.R_new' ho0 (Kd.R_lt (rx_ HO480.out))) (bs_ HB)); replace HO480 := Aside0.mk (Kd.R_elder' (rx_ HO480.out) (Kd.R_base ho0) hb); replace HB := tB_ HB hb; (try clear hb); (try clear ho0)))
 repeat (go_quiet (first | ((with_reducible refine gate_dst (N := 8) rfl ?_); refine Kd.R_lit (Kd.int .i64) _ 3 ?hg (N := 8) ?hd (xs := ([] : List Int)) (inner := []) (ok := fun _ => True) (okp := fun _ => True) ?hr ?hp (fun _ hk => hk) trivial (Below.refl _ _) (Nat.le_refl _) (by simp) ?_; (case hd => rfl); (case hg => rfl); (case hr => first | (go_simp; done) | (go_simp; rfl)); (case hp => exact (Reps.none _ _)); intro v479 w3 ho4 hb hg_ hnew_; clear hg_ hnew_; (first | rw [← Ny478.out] at ho4 | (simp only [Int.reduceToNat] at ho4; rw [← Ny478.out] at ho4)); have HO480 := Aside0.mk (Kd.R_lower ho4 (bs_ HB)); replace HB := tB_ HB hb; clear hb ho4) | (go_at_call 48; (with_reducible refine (spec_LeftLeaf.calls k _ _ l0 t481 _ (cx_ HR0 HB) HC0.out A2.out).mono ?_); rintro e w5 ⟨v482, rfl, ho0, hb⟩; have HO483 := Aside0.mk (Kd.R_lower (Kd.R_new' ho0 (Kd.R_lt (rx_ HO480.out))) (bs_ HB)); replace HO480 := Aside0.mk (Kd.R_elder' (rx_ HO480.out) (Kd.R_base ho0) hb); replace HB := tB_ HB hb; (try clear hb); (try clear ho0))); try go_wp2_with (first | ((with_reducible refine gate_dst (N := 8) rfl ?_); refine Kd.R_lit (Kd.int .i64) _ 3 ?hg (N := 8) ?hd (xs := ([] : List Int)) (inner := []) (ok := fun _ => True) (okp := fun _ => True) ?hr ?hp (fun _ hk => hk) trivial (Below.refl _ _) (Nat.le_refl _) (by simp) ?_; (case hd => rfl); (case hg => rfl); (case hr => first | (go_simp; done) | (go_simp; rfl)); (case hp => exact (Reps.none _ _)); intro v479 w3 ho4 hb hg_ hnew_; clear hg_ hnew_; (first | rw [← Ny478.out] at ho4 | (simp only [Int.reduceToNat] at ho4; rw [← Ny478.out] at ho4)); have HO480 := Aside0.mk (Kd.R_lower ho4 (bs_ HB)); replace HB := tB_ HB hb; clear hb ho4) | (go_at_call 48; (with_reducible refine (spec_LeftLeaf.calls k _ _ l0 t481 _ (cx_ HR0 HB) HC0.out A2.out).mono ?_); rintro e w5 ⟨v482, rfl, ho0, hb⟩; have HO483 := Aside0.mk (Kd.R_lower (Kd.R_new' ho0 (Kd.R_lt (rx_ HO480.out))) (bs_ HB)); replace HO480 := Aside0.mk (Kd.R_elder' (rx_ HO480.out) (Kd.R_base ho0) hb); replace HB := tB_ HB hb; (try clear hb); (try clear ho0))))
 go_loopg [3, 5] k (fun kq v3 v5 w' => ∃ (x3_1 : List Int) (x5_1 : Int), v5 = .int .i64 x5_1 ∧ Aside0 (spec_KeyRoots.l0 kq x3_1 t481 x5_1 = some r) ∧ Aside0 (kq ≤ k) ∧ Aside0 (Kd.R (Kd.int .i64) 3 w' w.heap.size (fun k_ => some k_ ≠ (v482 : Value).ownBlock) v3 x3_1) ∧ Aside0 (Kd.R (Kd.int .i64) 3 w' w.heap.size (fun k_ => some k_ ≠ (v3 : Value).ownBlock) v482 t481) ∧ Aside0 (Below w.heap.size w w'))
 case atStart => exact ⟨(y478), (0), eb_, H', ⟨Nat.le_refl _⟩, ⟨rx_ (Kd.R_mono HO480.out (fun _ hk => hk.2))⟩, ⟨rx_ (Kd.R_mono HO483.out (fun _ hk => hk.2))⟩, bl_ HB⟩
 case round =>
  clear H'
  try clear p2
  obtain ⟨x3_1, x5_1, rfl, HA, HK1, HO_3, HO_4, HB⟩ := hrel
  cases gk with
  | zero => exact absurd HA.out (by simp [spec_KeyRoots.l0])
  | succ k1 =>
   have H := HA.out
   clear HA
   simp only [spec_KeyRoots.l0] at H
   by_cases c6 : x5_1 < (t481.length : Int)
   ·rw [if_pos c6] at H
    have c6b0 : decide (x5_1 < (t481.length : Int)) = true := decide_eq_true c6
    clear c6
    have H' := Aside0.mk H
    clear H
    obtain ⟨Ao7, co7, eo7⟩ := Kd.R_slice HO_4.out
    subst eo7
    go_wp2
    repeat (go_quiet (fail); try go_wp2)
    go_loopg [6, 7] k1 (fun kq v6 v7 w' => ∃ (x6_2 : Bool) (x7_2 : Int), v6 = .bool x6_2 ∧ v7 = .int .i64 x7_2 ∧ Aside0 (spec_KeyRoots.l1 kq x3_1 t481 x5_1 x6_2 x7_2 = some r) ∧ Aside0 (kq ≤ k1) ∧ Aside0 (Kd.R (Kd.int .i64) 3 w' w.heap.size (fun k_ => some k_ ≠ ((.slice Ao7 t481.length co7) : Value).ownBlock) u3 x3_1) ∧ Aside0 (Kd.R (Kd.int .i64) 3 w' w.heap.size (fun k_ => some k_ ≠ (u3 : Value).ownBlock) (.slice Ao7 t481.length co7) t481) ∧ Aside0 (Below w.heap.size w w'))
    case atStart => exact ⟨(true), (wrap64 (x5_1 + 1)), eb_, eb_, H', ⟨Nat.le_refl _⟩, ⟨rx_ HO_3.out⟩, ⟨rx_ HO_4.out⟩, bl_ HB⟩
    case round =>
     clear H'
     try clear p2
     try clear c6
     try clear c6b0
     try clear p6
     try clear p2
     obtain ⟨x6_2, x7_2, rfl, rfl, HA, HK2, HO_3, HO_4, HB⟩ := hrel
     cases gk with
     | zero => exact absurd HA.out (by simp [spec_KeyRoots.l1])
     | succ k2 =>
      have H := HA.out
      clear HA
      simp only [spec_KeyRoots.l1] at H
      by_cases c8 : x7_2 < (t481.length : Int)
      ·rw [if_pos c8] at H
       have c8b0 : decide (x7_2 < (t481.length : Int)) = true := decide_eq_true c8
       clear c8
       by_cases c9 : x6_2 = true
       ·subst c9
        have H1 : (if 0 ≤ x7_2 then (if 0 ≤ x5_1 then (if x5_1 < (t481.length : Int) then (spec_KeyRoots.l1 k2 x3_1 t481 x5_1 ((rd t481 x7_2) != (rd t481 x5_1)) (wrap64 (x7_2 + 1))) else (none)) else (none)) else (none)) = some r := by rw [if_pos rfl] at H; exact H
        clear H
        have H := H1
        clear H1
        by_cases c10 : 0 ≤ x7_2
        ·rw [if_pos c10] at H
         have c10b0 : decide (0 ≤ x7_2) = true := decide_eq_true c10
         clear c10
         by_cases c11 : 0 ≤ x5_1
         ·rw [if_pos c11] at H
          have c11b0 : decide (0 ≤ x5_1) = true := decide_eq_true c11
          clear c11
          by_cases c12 : x5_1 < (t481.length : Int)
          ·rw [if_pos c12] at H
           have c12b0 : decide (x5_1 < (t481.length : Int)) = true := decide_eq_true c12
           clear c12
           have H' := Aside0.mk H
           clear H
           have p484 : 0 ≤ (x7_2 : Int) := od_
           have q484 : x7_2 < (t481.length : Int) := od_
           obtain ⟨ad484, e484, hx484_0⟩ := Kd.at_int (Kd.R_reads' HO_4.out).2.2 x7_2 p484 q484
           cases e484
           replace p484 := eq_true p484
           replace q484 := eq_true q484
           have p485 : 0 ≤ (x5_1 : Int) := od_
           have q485 : x5_1 < (t481.length : Int) := od_
           obtain ⟨ad485, e485, hx485_0⟩ := Kd.at_int (Kd.R_reads' HO_4.out).2.2 x5_1 p485 q485
           obtain rfl : ad484 = ad485 := (by injection e485)
           replace p485 := eq_true p485
           replace q485 := eq_true q485
           go_wp2
           repeat (go_quiet (fail); try go_wp2)
           go_roundg k2
           case measure => have := HK1.out; have := HK2.out; omega
           case rel => exact ⟨(((rd t481 x7_2) != (rd t481 x5_1))), (wrap64 (x7_2 + 1)), eb_, eb_, H', ⟨by have := HK1.out; have := HK2.out; omega⟩, ⟨rx_ HO_3.out⟩, ⟨rx_ HO_4.out⟩, bl_ HB⟩
          ·rw [if_neg c12] at H
           exact absurd H (by simp)
         ·rw [if_neg c11] at H
          exact absurd H (by simp)
        ·rw [if_neg c10] at H
         exact absurd H (by simp)
       ·replace c9 := Bool.eq_false_iff.mpr c9
        subst c9
        have H1 : (spec_KeyRoots.l1 k2 x3_1 t481 x5_1 false (wrap64 (x7_2 + 1))) = some r := by rw [if_neg (show ¬ (false = true) by decide)] at H; exact H
        clear H
        have H := H1
        clear H1
        have H' := Aside0.mk H
        clear H
        go_wp2
        repeat (go_quiet (fail); try go_wp2)
        go_roundg k2
        case measure => have := HK1.out; have := HK2.out; omega
        case rel => exact ⟨(false), (wrap64 (x7_2 + 1)), eb_, eb_, H', ⟨by have := HK1.out; have := HK2.out; omega⟩, ⟨rx_ HO_3.out⟩, ⟨rx_ HO_4.out⟩, bl_ HB⟩
      ·rw [if_neg c8] at H
       have c8b0 : decide (x7_2 < (t481.length : Int)) = false := decide_eq_false c8
       clear c8
       by_cases c13 : x6_2 = true
       ·subst c13
        have H1 : (if x3_1.length < 17592186044416 then (spec_KeyRoots.l0 k2 (x3_1 ++ [x5_1]) t481 (wrap64 (x5_1 + 1))) else (none)) = some r := by rw [if_pos rfl] at H; exact H
        clear H
        have H := H1
        clear H1
        by_cases c14 : x3_1.length < 17592186044416
        ·rw [if_pos c14] at H
         have LMc14 := Aside0.mk c14
         clear c14
         obtain ⟨y486, hy486⟩ : ∃ y_ : List Int, y_ = (x3_1 ++ [x5_1]) := ⟨_, rfl⟩
         replace H : (spec_KeyRoots.l0 k2 y486 t481 (wrap64 (x5_1 + 1))) = some r := by first | (rw [hy486]; with_reducible exact H) | (have H2_ := (Option.bind_some _ _).symm.trans H; rw [hy486]; with_reducible exact H2_) | (have H2_ := (Option.bind_some _ _).symm.trans H; with_reducible exact H2_) | with_reducible exact H | (rw [hy486]; exact H) | exact H
         have Ny486 := Aside0.mk hy486
         clear hy486
         have H' := Aside0.mk H
         clear H
         go_wp2_with (first | ((with_reducible refine gate_builtin (b := .append) (xs := #[.tmp 38, .tmp 40]) rfl ?_); at_builtin; refine Kd.R_append (Kd.int .i64) (w0 := w) w.heap.size rfl (.tmp 38) (.tmp 40) 23 3 (.int .i64 0) 8 rfl Try.underlying23 info3 rfl (by decide) (by omega) u3 x3_1 x5_1 [.int .i64 x5_1] (fun k_ => some k_ ≠ (.slice Ao7 t481.length co7 : Value).ownBlock) (fun _ => False) rfl rfl ?aP (fun _ hk => hk.elim) ?aF ?aO ?aB ?aS ?aL ?_; (case aP => exact rfl); (case aB => exact ((bl_ HB).out)); (case aF => exact (fun k_ hk => Kd.fresh' (Kd.R_lt (rx_ HO_4.out)) k_ hk)); (case aO => exact (rx_ HO_3.out)); (case aS => exact (bs_ HB)); (case aL => have := LMc14.out; omega); intro v487 w15 ho hb hg hat; rw [← Ny486.out] at ho; replace HO_4 := Aside0.mk (Kd.R_after (ok := (fun _ => True)) (rx_ (Kd.R_mono HO_4.out (fun _ hk => ⟨trivial, hk⟩))) hg hat); replace HB := Aside0.mk (hb); have HO488 := Aside0.mk (ho); clear HO_3; clear ho hb hg hat))
         repeat (go_quiet (first | ((with_reducible refine gate_builtin (b := .append) (xs := #[.tmp 38, .tmp 40]) rfl ?_); at_builtin; refine Kd.R_append (Kd.int .i64) (w0 := w) w.heap.size rfl (.tmp 38) (.tmp 40) 23 3 (.int .i64 0) 8 rfl Try.underlying23 info3 rfl (by decide) (by omega) u3 x3_1 x5_1 [.int .i64 x5_1] (fun k_ => some k_ ≠ (.slice Ao7 t481.length co7 : Value).ownBlock) (fun _ => False) rfl rfl ?aP (fun _ hk => hk.elim) ?aF ?aO ?aB ?aS ?aL ?_; (case aP => exact rfl); (case aB => exact ((bl_ HB).out)); (case aF => exact (fun k_ hk => Kd.fresh' (Kd.R_lt (rx_ HO_4.out)) k_ hk)); (case aO => exact (rx_ HO_3.out)); (case aS => exact (bs_ HB)); (case aL => have := LMc14.out; omega); intro v487 w15 ho hb hg hat; rw [← Ny486.out] at ho; replace HO_4 := Aside0.mk (Kd.R_after (ok := (fun _ => True)) (rx_ (Kd.R_mono HO_4.out (fun _ hk => ⟨trivial, hk⟩))) hg hat); replace HB := Aside0.mk (hb); have HO488 := Aside0.mk (ho); clear HO_3; clear ho hb hg hat)); try go_wp2_with (first | ((with_reducible refine gate_builtin (b := .append) (xs := #[.tmp 38, .tmp 40]) rfl ?_); at_builtin; refine Kd.R_append (Kd.int .i64) (w0 := w) w.heap.size rfl (.tmp 38) (.tmp 40) 23 3 (.int .i64 0) 8 rfl Try.underlying23 info3 rfl (by decide) (by omega) u3 x3_1 x5_1 [.int .i64 x5_1] (fun k_ => some k_ ≠ (.slice Ao7 t481.length co7 : Value).ownBlock) (fun _ => False) rfl rfl ?aP (fun _ hk => hk.elim) ?aF ?aO ?aB ?aS ?aL ?_; (case aP => exact rfl); (case aB => exact ((bl_ HB).out)); (case aF => exact (fun k_ hk => Kd.fresh' (Kd.R_lt (rx_ HO_4.out)) k_ hk)); (case aO => exact (rx_ HO_3.out)); (case aS => exact (bs_ HB)); (case aL => have := LMc14.out; omega); intro v487 w15 ho hb hg hat; rw [← Ny486.out] at ho; replace HO_4 := Aside0.mk (Kd.R_after (ok := (fun _ => True)) (rx_ (Kd.R_mono HO_4.out (fun _ hk => ⟨trivial, hk⟩))) hg hat); replace HB := Aside0.mk (hb); have HO488 := Aside0.mk (ho); clear HO_3; clear ho hb hg hat)))
         go_roundg k2
         case measure => have := HK1.out; have := HK2.out; omega
         case rel => exact ⟨(y486), (wrap64 (x5_1 + 1)), eb_, H', ⟨by have := HK1.out; have := HK2.out; omega⟩, ⟨rx_ HO488.out⟩, ⟨rx_ (Kd.R_mono HO_4.out (fun _ hk => hk.2))⟩, bl_ HB⟩
        ·rw [if_neg c14] at H
         exact absurd H (by simp)
       ·replace c13 := Bool.eq_false_iff.mpr c13
        subst c13
        have H1 : (spec_KeyRoots.l0 k2 x3_1 t481 (wrap64 (x5_1 + 1))) = some r := by rw [if_neg (show ¬ (false = true) by decide)] at H; exact H
        clear H
        have H := H1
        clear H1
        have H' := Aside0.mk H
        clear H
        go_wp2
        repeat (go_quiet (fail); try go_wp2)
        go_roundg k2
        case measure => have := HK1.out; have := HK2.out; omega
        case rel => exact ⟨(x3_1), (wrap64 (x5_1 + 1)), eb_, H', ⟨by have := HK1.out; have := HK2.out; omega⟩, ⟨rx_ HO_3.out⟩, ⟨rx_ HO_4.out⟩, bl_ HB⟩
   ·rw [if_neg c6] at H
    have c6b0 : decide (x5_1 < (t481.length : Int)) = false := decide_eq_false c6
    clear c6
    obtain rfl := Option.some.inj H
    obtain ⟨Ao16, co16, eo16⟩ := Kd.R_slice HO_4.out
    subst eo16
    go_wp2
    repeat (go_quiet (fail); try go_wp2)
    go_ret
    exact ⟨_, ea_, rx_ (Kd.R_mono HO_3.out (fun _ hk => trivial)), (bl_ HB).out⟩
end Go.Proofs.Ytelglbebffdaaaa.X
namespace Go.Proofs.Ytelglbebffdaaaa.X
open Go.RowKit Go.Proofs.YtelglbebffdaaaaW.PrintWords Go.Proofs.YtelglbebffdaaaaW.PrintLast Go.Proofs.YtelglbebffdaaaaW.PrintMore
attribute [local go_sem] max2_int min2_int max_two min_two max_three min_three max_four min_four   -- for this text's walks alone
set_option linter.unusedVariables false
set_option linter.unusedSimpArgs false
def spec_l8Three.f (k : Nat) (l0 : List (S53)) (l1 : List (S53)) (l2_0 : List Int) (l2_1 : List Int) (l2_2 : List Int) : Option (Bool) := (spec_TreeOk.f k l0).bind fun t122 => (if t122 = true then ((spec_TreeOk.f k l1).bind fun t123 => (if t123 = true then ((spec_CostOk.f k l2_0 l2_1 l2_2).bind fun t124 => (some t124)) else (some false))) else (some false))
theorem spec_l8Three.mono : ∀ a0 a1 a2 a3 a4 k, LeO (spec_l8Three.f k a0 a1 a2 a3 a4) (spec_l8Three.f (k + 1) a0 a1 a2 a3 a4) := by
 intro a0 a1 a2 a3 a4 k
 unfold spec_l8Three.f
 repeat' first
   | (with_reducible exact spec_CostOk.mono _ _ _ _)
   | (with_reducible exact spec_TreeOk.mono _ _)
   | (with_reducible exact LeO.refl _)
   | (with_reducible exact LeO.none _)
   | (with_reducible refine LeO.ite ?_ ?_)
   | (with_reducible refine LeO.bind ?_ (fun _ => ?_))
   | exact spec_CostOk.mono _ _ _ _
   | exact spec_TreeOk.mono _ _
   | exact LeO.none _
   | refine LeO.ite ?_ ?_
   | refine LeO.bind ?_ (fun _ => ?_)
set_option maxHeartbeats 8000000 in
set_option maxRecDepth 100000 in
theorem spec_l8Three.calls (k : Nat) (A0 : Option Addr) (c0 : Nat) (l0 : List (S53)) (A1 : Option Addr) (c1 : Nat) (l1 : List (S53)) (A2_0 : Option Addr) (c2_0 : Nat) (l2_0 : List Int) (A2_1 : Option Addr) (c2_1 : Nat) (l2_1 : List Int) (A2_2 : Option Addr) (c2_2 : Nat) (l2_2 : List Int) (r : Bool) (w : World) (hr0 : Kd.C k53 w A0 l0.length l0) (hc0 : l0.length ≤ c0) (hr1 : Kd.C k53 w A1 l1.length l1) (hc1 : l1.length ≤ c1) (hr2_0 : Kd.C (Kd.int .i64) w A2_0 l2_0.length l2_0) (hc2_0 : l2_0.length ≤ c2_0) (hr2_1 : Kd.C (Kd.int .i64) w A2_1 l2_1.length l2_1) (hc2_1 : l2_1.length ≤ c2_1) (hr2_2 : Kd.C (Kd.int .i64) w A2_2 l2_2.length l2_2) (hc2_2 : l2_2.length ≤ c2_2) (h : spec_l8Three.f k l0 l1 l2_0 l2_1 l2_2 = some r) :
  Calls Try.prog 51 #[.slice A0 l0.length c0, .slice A1 l1.length c1, .agg #[.slice A2_0 l2_0.length c2_0, .slice A2_1 l2_1.length c2_1, .slice A2_2 l2_2.length c2_2]] w fun e w' => e = .returned (.bool r) ∧ Below w.heap.size w w' := by
 have hu31 := Try.underlying31
 have HR0 := Aside0.mk hr0
 have HC0 := Aside0.mk hc0
 clear hr0 hc0
 have HR1 := Aside0.mk hr1
 have HC1 := Aside0.mk hc1
 clear hr1 hc1
 have HR2_0 := Aside0.mk hr2_0
 have HC2_0 := Aside0.mk hc2_0
 clear hr2_0 hc2_0
 have HR2_1 := Aside0.mk hr2_1
 have HC2_1 := Aside0.mk hc2_1
 clear hr2_1 hc2_1
 have HR2_2 := Aside0.mk hr2_2
 have HC2_2 := Aside0.mk hc2_2
 clear hr2_2 hc2_2
 have HB := Aside0.mk (Below.refl w.heap.size w)
 have H : ((spec_TreeOk.f k l0).bind fun t122 => (if t122 = true then ((spec_TreeOk.f k l1).bind fun t123 => (if t123 = true then ((spec_CostOk.f k l2_0 l2_1 l2_2).bind fun t124 => (some t124)) else (some false))) else (some false))) = some r := h
 clear h
 replace H := Option.bind_eq_some_iff.mp H
 obtain ⟨t122, A40, H⟩ := H
 try dsimp only at H
 have A4 := Aside0.mk A40
 clear A40
 by_cases c5 : t122 = true
 ·subst c5
  have H1 : ((spec_TreeOk.f k l1).bind fun t123 => (if t123 = true then ((spec_CostOk.f k l2_0 l2_1 l2_2).bind fun t124 => (some t124)) else (some false))) = some r := by rw [if_pos rfl] at H; exact H
  clear H
  have H := H1
  clear H1
  replace H := Option.bind_eq_some_iff.mp H
  obtain ⟨t123, A60, H⟩ := H
  try dsimp only at H
  have A6 := Aside0.mk A60
  clear A60
  by_cases c7 : t123 = true
  ·subst c7
   have H1 : ((spec_CostOk.f k l2_0 l2_1 l2_2).bind fun t124 => (some t124)) = some r := by rw [if_pos rfl] at H; exact H
   clear H
   have H := H1
   clear H1
   replace H := Option.bind_eq_some_iff.mp H
   obtain ⟨t124, A80, H⟩ := H
   replace H : (some t124) = some r := H
   have A8 := Aside0.mk A80
   clear A80
   obtain rfl := Option.some.inj H
   go_enter Try.func51, Try.ntmps51
   go_wp2_with (first | ((with_reducible refine gate_dst (N := 5) rfl ?_); refine bx_ 5 #[.slice A2_0 l2_0.length c2_0, .slice A2_1 l2_1.length c2_1, .slice A2_2 l2_2.length c2_2] 31 ?_; intro gb121 hg w9 hbox hb; have BK121 := Aside0.mk (hbox); have GW121 := Aside0.mk ((by rw [hg]; exact (bs_ HB) : w.heap.size ≤ gb121)); have GE121 := Aside0.mk ((by rw [hg]; exact (bs_ HB) : w.heap.size ≤ gb121)); replace HB := tB_ HB hb; clear hb hbox hg) | ((with_reducible refine gate_callee (f := 45) rfl ?_); refine gL_ (some 8) Try.func45 #[.slice A0 l0.length c0] ?_; (with_reducible refine (spec_TreeOk.calls k _ _ l0 true _ (cx_ HR0 HB) HC0.out A4.out).mono ?_); rintro e w10 ⟨rfl, hb⟩; refine ⟨_, rfl, ?_⟩; replace BK121 := tK_ BK121 hb; replace HB := tB_ HB hb; (try clear hb)) | (go_at_call 45; (with_reducible refine (spec_TreeOk.calls k _ _ l1 true _ (cx_ HR1 HB) HC1.out A6.out).mono ?_); rintro e w11 ⟨rfl, hb⟩; replace BK121 := tK_ BK121 hb; replace HB := tB_ HB hb; (try clear hb); obtain ⟨hcz12_0, hcz12_1, hcz12_2, hfz12_0, hfz12_1, hfz12_2⟩ := bk3_ BK121) | (go_at_call 46; (with_reducible refine (spec_CostOk.calls k _ _ l2_0 _ _ l2_1 _ _ l2_2 t124 _ (cx_ HR2_0 HB) HC2_0.out (cx_ HR2_1 HB) HC2_1.out (cx_ HR2_2 HB) HC2_2.out A8.out).mono ?_); rintro e w13 ⟨rfl, hb⟩; replace BK121 := tK_ BK121 hb; replace HB := tB_ HB hb; (try clear hb)))
   go_ret
   exact ⟨ea_, (bl_ HB).out⟩
  ·replace c7 := Bool.eq_false_iff.mpr c7
   subst c7
   have H1 : (some false) = some r := by rw [if_neg (show ¬ (false = true) by decide)] at H; exact H
   clear H
   have H := H1
   clear H1
   obtain rfl := Option.some.inj H
   go_enter Try.func51, Try.ntmps51
   go_wp2_with (first | ((with_reducible refine gate_dst (N := 5) rfl ?_); refine bx_ 5 #[.slice A2_0 l2_0.length c2_0, .slice A2_1 l2_1.length c2_1, .slice A2_2 l2_2.length c2_2] 31 ?_; intro gb121 hg w14 hbox hb; have BK121 := Aside0.mk (hbox); have GW121 := Aside0.mk ((by rw [hg]; exact (bs_ HB) : w.heap.size ≤ gb121)); have GE121 := Aside0.mk ((by rw [hg]; exact (bs_ HB) : w.heap.size ≤ gb121)); replace HB := tB_ HB hb; clear hb hbox hg) | ((with_reducible refine gate_callee (f := 45) rfl ?_); refine gL_ (some 8) Try.func45 #[.slice A0 l0.length c0] ?_; (with_reducible refine (spec_TreeOk.calls k _ _ l0 true _ (cx_ HR0 HB) HC0.out A4.out).mono ?_); rintro e w15 ⟨rfl, hb⟩; refine ⟨_, rfl, ?_⟩; replace BK121 := tK_ BK121 hb; replace HB := tB_ HB hb; (try clear hb)) | (go_at_call 45; (with_reducible refine (spec_TreeOk.calls k _ _ l1 false _ (cx_ HR1 HB) HC1.out A6.out).mono ?_); rintro e w16 ⟨rfl, hb⟩; replace BK121 := tK_ BK121 hb; replace HB := tB_ HB hb; (try clear hb)))
   go_ret
   exact ⟨ea_, (bl_ HB).out⟩
 ·replace c5 := Bool.eq_false_iff.mpr c5
  subst c5
  have H1 : (some false) = some r := by rw [if_neg (show ¬ (false = true) by decide)] at H; exact H
  clear H
  have H := H1
  clear H1
  obtain rfl := Option.some.inj H
  go_enter Try.func51, Try.ntmps51
  go_wp2_with (first | ((with_reducible refine gate_dst (N := 5) rfl ?_); refine bx_ 5 #[.slice A2_0 l2_0.length c2_0, .slice A2_1 l2_1.length c2_1, .slice A2_2 l2_2.length c2_2] 31 ?_; intro gb121 hg w17 hbox hb; have BK121 := Aside0.mk (hbox); have GW121 := Aside0.mk ((by rw [hg]; exact (bs_ HB) : w.heap.size ≤ gb121)); have GE121 := Aside0.mk ((by rw [hg]; exact (bs_ HB) : w.heap.size ≤ gb121)); replace HB := tB_ HB hb; clear hb hbox hg) | ((with_reducible refine gate_callee (f := 45) rfl ?_); refine gL_ (some 8) Try.func45 #[.slice A0 l0.length c0] ?_; (with_reducible refine (spec_TreeOk.calls k _ _ l0 false _ (cx_ HR0 HB) HC0.out A4.out).mono ?_); rintro e w18 ⟨rfl, hb⟩; refine ⟨_, rfl, ?_⟩; replace BK121 := tK_ BK121 hb; replace HB := tB_ HB hb; (try clear hb)))
  go_ret
  exact ⟨ea_, (bl_ HB).out⟩
end Go.Proofs.Ytelglbebffdaaaa.X
namespace Go.Proofs.Ytelglbebffdaaaa.X
open Go.RowKit Go.Proofs.YtelglbebffdaaaaW.PrintWords Go.Proofs.YtelglbebffdaaaaW.PrintLast Go.Proofs.YtelglbebffdaaaaW.PrintMore
attribute [local go_sem] max2_int min2_int max_two min_two max_three min_three max_four min_four   -- for this text's walks alone
set_option linter.unusedVariables false
set_option linter.unusedSimpArgs false
def spec_RelCost.f (k : Nat) (l0_0 : List Int) (l0_1 : List Int) (l0_2 : List Int) (a1 : Int) (a2 : Int) : Option (Int) := (spec_CostOk.f k l0_0 l0_1 l0_2).bind fun t575 => (if t575 = true then ((spec_LabelOk.f a1).bind fun t576 => (if t576 = true then ((spec_LabelOk.f a2).bind fun t577 => (if t577 = true then (if 0 ≤ (wrap64 ((wrap64 (a1 * 6)) + a2)) then (if (wrap64 ((wrap64 (a1 * 6)) + a2)) < (l0_2.length : Int) then (some (rd l0_2 (wrap64 ((wrap64 (a1 * 6)) + a2)))) else (none)) else (none)) else (some 0))) else (some 0))) else (some 0))
theorem spec_RelCost.mono : ∀ a0 a1 a2 a3 a4 k, LeO (spec_RelCost.f k a0 a1 a2 a3 a4) (spec_RelCost.f (k + 1) a0 a1 a2 a3 a4) := by
 intro a0 a1 a2 a3 a4 k
 unfold spec_RelCost.f
 repeat' first
   | (with_reducible exact spec_CostOk.mono _ _ _ _)
   | (with_reducible exact LeO.refl _)
   | (with_reducible exact LeO.none _)
   | (with_reducible refine LeO.ite ?_ ?_)
   | (with_reducible refine LeO.bind ?_ (fun _ => ?_))
   | exact spec_CostOk.mono _ _ _ _
   | exact LeO.none _
   | refine LeO.ite ?_ ?_
   | refine LeO.bind ?_ (fun _ => ?_)
set_option maxHeartbeats 8000000 in
set_option maxRecDepth 100000 in
theorem spec_RelCost.calls (k : Nat) (A0_0 : Option Addr) (c0_0 : Nat) (l0_0 : List Int) (A0_1 : Option Addr) (c0_1 : Nat) (l0_1 : List Int) (A0_2 : Option Addr) (c0_2 : Nat) (l0_2 : List Int) (a1 : Int) (a2 : Int) (r : Int) (w : World) (hr0_0 : Kd.C (Kd.int .i64) w A0_0 l0_0.length l0_0) (hc0_0 : l0_0.length ≤ c0_0) (hr0_1 : Kd.C (Kd.int .i64) w A0_1 l0_1.length l0_1) (hc0_1 : l0_1.length ≤ c0_1) (hr0_2 : Kd.C (Kd.int .i64) w A0_2 l0_2.length l0_2) (hc0_2 : l0_2.length ≤ c0_2) (h : spec_RelCost.f k l0_0 l0_1 l0_2 a1 a2 = some r) :
  Calls Try.prog 62 #[.agg #[.slice A0_0 l0_0.length c0_0, .slice A0_1 l0_1.length c0_1, .slice A0_2 l0_2.length c0_2], .int .i64 a1, .int .i64 a2] w fun e w' => e = .returned (.int .i64 r) ∧ Below w.heap.size w w' := by
 have hu31 := Try.underlying31
 have HR0_0 := Aside0.mk hr0_0
 have HC0_0 := Aside0.mk hc0_0
 clear hr0_0 hc0_0
 have HR0_1 := Aside0.mk hr0_1
 have HC0_1 := Aside0.mk hc0_1
 clear hr0_1 hc0_1
 have HR0_2 := Aside0.mk hr0_2
 have HC0_2 := Aside0.mk hc0_2
 clear hr0_2 hc0_2
 have HB := Aside0.mk (Below.refl w.heap.size w)
 have H : ((spec_CostOk.f k l0_0 l0_1 l0_2).bind fun t575 => (if t575 = true then ((spec_LabelOk.f a1).bind fun t576 => (if t576 = true then ((spec_LabelOk.f a2).bind fun t577 => (if t577 = true then (if 0 ≤ (wrap64 ((wrap64 (a1 * 6)) + a2)) then (if (wrap64 ((wrap64 (a1 * 6)) + a2)) < (l0_2.length : Int) then (some (rd l0_2 (wrap64 ((wrap64 (a1 * 6)) + a2)))) else (none)) else (none)) else (some 0))) else (some 0))) else (some 0))) = some r := h
 clear h
 replace H := Option.bind_eq_some_iff.mp H
 obtain ⟨t575, A40, H⟩ := H
 try dsimp only at H
 have A4 := Aside0.mk A40
 clear A40
 by_cases c5 : t575 = true
 ·subst c5
  have H1 : ((spec_LabelOk.f a1).bind fun t576 => (if t576 = true then ((spec_LabelOk.f a2).bind fun t577 => (if t577 = true then (if 0 ≤ (wrap64 ((wrap64 (a1 * 6)) + a2)) then (if (wrap64 ((wrap64 (a1 * 6)) + a2)) < (l0_2.length : Int) then (some (rd l0_2 (wrap64 ((wrap64 (a1 * 6)) + a2)))) else (none)) else (none)) else (some 0))) else (some 0))) = some r := by rw [if_pos rfl] at H; exact H
  clear H
  have H := H1
  clear H1
  replace H := Option.bind_eq_some_iff.mp H
  obtain ⟨t576, A60, H⟩ := H
  try dsimp only at H
  have A6 := Aside0.mk A60
  clear A60
  by_cases c7 : t576 = true
  ·subst c7
   have H1 : ((spec_LabelOk.f a2).bind fun t577 => (if t577 = true then (if 0 ≤ (wrap64 ((wrap64 (a1 * 6)) + a2)) then (if (wrap64 ((wrap64 (a1 * 6)) + a2)) < (l0_2.length : Int) then (some (rd l0_2 (wrap64 ((wrap64 (a1 * 6)) + a2)))) else (none)) else (none)) else (some 0))) = some r := by rw [if_pos rfl] at H; exact H
   clear H
   have H := H1
   clear H1
   replace H := Option.bind_eq_some_iff.mp H
   obtain ⟨t577, A80, H⟩ := H
   try dsimp only at H
   have A8 := Aside0.mk A80
   clear A80
   by_cases c9 : t577 = true
   ·subst c9
    have H1 : (if 0 ≤ (wrap64 ((wrap64 (a1 * 6)) + a2)) then (if (wrap64 ((wrap64 (a1 * 6)) + a2)) < (l0_2.length : Int) then (some (rd l0_2 (wrap64 ((wrap64 (a1 * 6)) + a2)))) else (none)) else (none)) = some r := by rw [if_pos rfl] at H; exact H
    clear H
    have H := H1
    clear H1
    obtain ⟨ji10, hji10⟩ : ∃ j_ : Int, (wrap64 ((wrap64 (a1 * 6)) + a2)) = j_ := ⟨_, rfl⟩
    replace H : (if 0 ≤ (ji10) then (if (ji10) < (l0_2.length : Int) then (some (rd l0_2 (ji10))) else (none)) else (none)) = some r := by first | (rw [hji10] at H; exact H) | (simp only [hji10] at H ⊢; exact H)
    (try rw [hji10] at A4)
    (try rw [hji10] at A6)
    (try rw [hji10] at A8)
    have hji10w : (IntKind.i64.wrap ((wrap64 (a1 * 6)) + a2)) = ji10 := (i64_w _).trans hji10
    by_cases c11 : 0 ≤ (ji10)
    ·rw [if_pos c11] at H
     have c11b0 : decide (0 ≤ (ji10)) = true := decide_eq_true c11
     clear c11
     by_cases c12 : (ji10) < (l0_2.length : Int)
     ·rw [if_pos c12] at H
      have c12b0 : decide ((ji10) < (l0_2.length : Int)) = true := decide_eq_true c12
      clear c12
      obtain rfl := Option.some.inj H
      go_enter Try.func62, Try.ntmps62
      go_wp2_with (first | ((with_reducible refine gate_dst (N := 3) rfl ?_); refine bx_ 3 #[.slice A0_0 l0_0.length c0_0, .slice A0_1 l0_1.length c0_1, .slice A0_2 l0_2.length c0_2] 31 ?_; intro gb574 hg w13 hbox hb; have BK574 := Aside0.mk (hbox); have GW574 := Aside0.mk ((by rw [hg]; exact (bs_ HB) : w.heap.size ≤ gb574)); have GE574 := Aside0.mk ((by rw [hg]; exact (bs_ HB) : w.heap.size ≤ gb574)); replace HB := tB_ HB hb; clear hb hbox hg; obtain ⟨hcz14_0, hcz14_1, hcz14_2, hfz14_0, hfz14_1, hfz14_2⟩ := bk3_ BK574) | ((with_reducible refine gate_callee (f := 46) rfl ?_); refine gL_ (some 8) Try.func46 #[.agg #[.slice A0_0 l0_0.length c0_0, .slice A0_1 l0_1.length c0_1, .slice A0_2 l0_2.length c0_2]] ?_; (with_reducible refine (spec_CostOk.calls k _ _ l0_0 _ _ l0_1 _ _ l0_2 true _ (cx_ HR0_0 HB) HC0_0.out (cx_ HR0_1 HB) HC0_1.out (cx_ HR0_2 HB) HC0_2.out A4.out).mono ?_); rintro e w15 ⟨rfl, hb⟩; refine ⟨_, rfl, ?_⟩; replace BK574 := tK_ BK574 hb; replace HB := tB_ HB hb; (try clear hb)) | (go_at_call 76; (with_reducible refine (spec_LabelOk.calls a1 true _ A6.out).mono ?_); rintro e w' ⟨rfl, ⟨nd, rfl⟩⟩) | (go_at_call 76; (with_reducible refine (spec_LabelOk.calls a2 true _ A8.out).mono ?_); rintro e w' ⟨rfl, ⟨nd, rfl⟩⟩; obtain ⟨hcz16_0, hcz16_1, hcz16_2, hfz16_0, hfz16_1, hfz16_2⟩ := bk3_ BK574; have p578 : 0 ≤ ((ji10) : Int) := od_; have q578 : (ji10) < (l0_2.length : Int) := od_; obtain ⟨ad578, e578, hx578_0⟩ := Kd.at_int HR0_2.out (ji10) p578 q578; cases e578; replace hx578_0 := ce_ HB hx578_0; replace p578 := eq_true p578; replace q578 := eq_true q578))
      go_ret
      exact ⟨by first | rfl | (simp [errW_none, errW_some] <;> rfl) | (simp only [← hji10]; first | rfl | (simp [errW_none, errW_some] <;> rfl)) | (simp [*, errW_none, errW_some] <;> rfl), (bl_ HB).out⟩
     ·rw [if_neg c12] at H
      exact absurd H (by simp)
    ·rw [if_neg c11] at H
     exact absurd H (by simp)
   ·replace c9 := Bool.eq_false_iff.mpr c9
    subst c9
    have H1 : (some 0) = some r := by rw [if_neg (show ¬ (false = true) by decide)] at H; exact H
    clear H
    have H := H1
    clear H1
    obtain rfl := Option.some.inj H
    go_enter Try.func62, Try.ntmps62
    go_wp2_with (first | ((with_reducible refine gate_dst (N := 3) rfl ?_); refine bx_ 3 #[.slice A0_0 l0_0.length c0_0, .slice A0_1 l0_1.length c0_1, .slice A0_2 l0_2.length c0_2] 31 ?_; intro gb574 hg w17 hbox hb; have BK574 := Aside0.mk (hbox); have GW574 := Aside0.mk ((by rw [hg]; exact (bs_ HB) : w.heap.size ≤ gb574)); have GE574 := Aside0.mk ((by rw [hg]; exact (bs_ HB) : w.heap.size ≤ gb574)); replace HB := tB_ HB hb; clear hb hbox hg; obtain ⟨hcz18_0, hcz18_1, hcz18_2, hfz18_0, hfz18_1, hfz18_2⟩ := bk3_ BK574) | ((with_reducible refine gate_callee (f := 46) rfl ?_); refine gL_ (some 8) Try.func46 #[.agg #[.slice A0_0 l0_0.length c0_0, .slice A0_1 l0_1.length c0_1, .slice A0_2 l0_2.length c0_2]] ?_; (with_reducible refine (spec_CostOk.calls k _ _ l0_0 _ _ l0_1 _ _ l0_2 true _ (cx_ HR0_0 HB) HC0_0.out (cx_ HR0_1 HB) HC0_1.out (cx_ HR0_2 HB) HC0_2.out A4.out).mono ?_); rintro e w19 ⟨rfl, hb⟩; refine ⟨_, rfl, ?_⟩; replace BK574 := tK_ BK574 hb; replace HB := tB_ HB hb; (try clear hb)) | (go_at_call 76; (with_reducible refine (spec_LabelOk.calls a1 true _ A6.out).mono ?_); rintro e w' ⟨rfl, ⟨nd, rfl⟩⟩) | (go_at_call 76; (with_reducible refine (spec_LabelOk.calls a2 false _ A8.out).mono ?_); rintro e w' ⟨rfl, ⟨nd, rfl⟩⟩))
    go_ret
    exact ⟨ea_, (bl_ HB).out⟩
  ·replace c7 := Bool.eq_false_iff.mpr c7
   subst c7
   have H1 : (some 0) = some r := by rw [if_neg (show ¬ (false = true) by decide)] at H; exact H
   clear H
   have H := H1
   clear H1
   obtain rfl := Option.some.inj H
   go_enter Try.func62, Try.ntmps62
   go_wp2_with (first | ((with_reducible refine gate_dst (N := 3) rfl ?_); refine bx_ 3 #[.slice A0_0 l0_0.length c0_0, .slice A0_1 l0_1.length c0_1, .slice A0_2 l0_2.length c0_2] 31 ?_; intro gb574 hg w20 hbox hb; have BK574 := Aside0.mk (hbox); have GW574 := Aside0.mk ((by rw [hg]; exact (bs_ HB) : w.heap.size ≤ gb574)); have GE574 := Aside0.mk ((by rw [hg]; exact (bs_ HB) : w.heap.size ≤ gb574)); replace HB := tB_ HB hb; clear hb hbox hg; obtain ⟨hcz21_0, hcz21_1, hcz21_2, hfz21_0, hfz21_1, hfz21_2⟩ := bk3_ BK574) | ((with_reducible refine gate_callee (f := 46) rfl ?_); refine gL_ (some 8) Try.func46 #[.agg #[.slice A0_0 l0_0.length c0_0, .slice A0_1 l0_1.length c0_1, .slice A0_2 l0_2.length c0_2]] ?_; (with_reducible refine (spec_CostOk.calls k _ _ l0_0 _ _ l0_1 _ _ l0_2 true _ (cx_ HR0_0 HB) HC0_0.out (cx_ HR0_1 HB) HC0_1.out (cx_ HR0_2 HB) HC0_2.out A4.out).mono ?_); rintro e w22 ⟨rfl, hb⟩; refine ⟨_, rfl, ?_⟩; replace BK574 := tK_ BK574 hb; replace HB := tB_ HB hb; (try clear hb)) | (go_at_call 76; (with_reducible refine (spec_LabelOk.calls a1 false _ A6.out).mono ?_); rintro e w' ⟨rfl, ⟨nd, rfl⟩⟩))
   go_ret
   exact ⟨ea_, (bl_ HB).out⟩
 ·replace c5 := Bool.eq_false_iff.mpr c5
  subst c5
  have H1 : (some 0) = some r := by rw [if_neg (show ¬ (false = true) by decide)] at H; exact H
  clear H
  have H := H1
  clear H1
  obtain rfl := Option.some.inj H
  go_enter Try.func62, Try.ntmps62
  go_wp2_with (first | ((with_reducible refine gate_dst (N := 3) rfl ?_); refine bx_ 3 #[.slice A0_0 l0_0.length c0_0, .slice A0_1 l0_1.length c0_1, .slice A0_2 l0_2.length c0_2] 31 ?_; intro gb574 hg w23 hbox hb; have BK574 := Aside0.mk (hbox); have GW574 := Aside0.mk ((by rw [hg]; exact (bs_ HB) : w.heap.size ≤ gb574)); have GE574 := Aside0.mk ((by rw [hg]; exact (bs_ HB) : w.heap.size ≤ gb574)); replace HB := tB_ HB hb; clear hb hbox hg; obtain ⟨hcz24_0, hcz24_1, hcz24_2, hfz24_0, hfz24_1, hfz24_2⟩ := bk3_ BK574) | ((with_reducible refine gate_callee (f := 46) rfl ?_); refine gL_ (some 8) Try.func46 #[.agg #[.slice A0_0 l0_0.length c0_0, .slice A0_1 l0_1.length c0_1, .slice A0_2 l0_2.length c0_2]] ?_; (with_reducible refine (spec_CostOk.calls k _ _ l0_0 _ _ l0_1 _ _ l0_2 false _ (cx_ HR0_0 HB) HC0_0.out (cx_ HR0_1 HB) HC0_1.out (cx_ HR0_2 HB) HC0_2.out A4.out).mono ?_); rintro e w25 ⟨rfl, hb⟩; refine ⟨_, rfl, ?_⟩; replace BK574 := tK_ BK574 hb; replace HB := tB_ HB hb; (try clear hb)))
  go_ret
  exact ⟨ea_, (bl_ HB).out⟩
end Go.Proofs.Ytelglbebffdaaaa.X
namespace Go.Proofs.Ytelglbebffdaaaa.X
open Go.RowKit Go.Proofs.YtelglbebffdaaaaW.PrintWords Go.Proofs.YtelglbebffdaaaaW.PrintLast Go.Proofs.YtelglbebffdaaaaW.PrintMore
attribute [local go_sem] max2_int min2_int max_two min_two max_three min_three max_four min_four   -- for this text's walks alone
set_option linter.unusedVariables false
set_option linter.unusedSimpArgs false
def slices_Index_int_int.l0 : Nat → List Int → Int → Int → Int → Option (Int)
 | 0, _, _, _, _ => none
 | k + 1, x0, x1, x7, x8 => if x8 < x7 then (if 0 ≤ x8 then (if x8 < (x0.length : Int) then (if x1 = (rd x0 x8) then (some x8) else (slices_Index_int_int.l0 k x0 x1 x7 (wrap64 (x8 + 1)))) else (none)) else (none)) else (some (-1))
def slices_Index_int_int.f (k : Nat) (l0 : List Int) (a1 : Int) : Option (Int) := slices_Index_int_int.l0 k l0 a1 (l0.length : Int) 0
theorem slices_Index_int_int.mono_l : ∀ k, (∀ y0 y1 y2 y3, LeO (slices_Index_int_int.l0 k y0 y1 y2 y3) (slices_Index_int_int.l0 (k + 1) y0 y1 y2 y3))
 | 0 => fun _ _ _ _ r h => by simp [slices_Index_int_int.l0] at h
 | k + 1 => by
  have ih0 := slices_Index_int_int.mono_l k
  ·intro y0 y1 y2 y3
   unfold slices_Index_int_int.l0
   repeat' first
   | (with_reducible exact ih0 _ _ _ _)
   | (with_reducible exact LeO.refl _)
   | (with_reducible exact LeO.none _)
   | (with_reducible refine LeO.ite ?_ ?_)
   | (with_reducible refine LeO.bind ?_ (fun _ => ?_))
   | exact ih0 _ _ _ _
   | exact LeO.none _
   | refine LeO.ite ?_ ?_
   | refine LeO.bind ?_ (fun _ => ?_)
theorem slices_Index_int_int.mono : ∀ a0 a1 k, LeO (slices_Index_int_int.f k a0 a1) (slices_Index_int_int.f (k + 1) a0 a1) := by
 intro a0 a1 k
 have ih0 := slices_Index_int_int.mono_l k
 unfold slices_Index_int_int.f
 repeat' first
   | (with_reducible exact ih0 _ _ _ _)
   | (with_reducible exact LeO.refl _)
   | (with_reducible exact LeO.none _)
   | (with_reducible refine LeO.ite ?_ ?_)
   | (with_reducible refine LeO.bind ?_ (fun _ => ?_))
   | exact ih0 _ _ _ _
   | exact LeO.none _
   | refine LeO.ite ?_ ?_
   | refine LeO.bind ?_ (fun _ => ?_)
set_option maxHeartbeats 8000000 in
set_option maxRecDepth 100000 in
theorem slices_Index_int_int.calls (k : Nat) (A0 : Option Addr) (c0 : Nat) (l0 : List Int) (a1 : Int) (r : Int) (w : World) (hr0 : Kd.C (Kd.int .i64) w A0 l0.length l0) (hc0 : l0.length ≤ c0) (h : slices_Index_int_int.f k l0 a1 = some r) :
  Calls Try.prog 116 #[.slice A0 l0.length c0, .int .i64 a1] w fun e w' => e = .returned (.int .i64 r) ∧ Drawn0 w w' := by
 have HR0 := Aside0.mk hr0
 have HC0 := Aside0.mk hc0
 clear hr0 hc0
 have H : (slices_Index_int_int.l0 k l0 a1 (l0.length : Int) 0) = some r := h
 clear h
 have H' := Aside0.mk H
 clear H
 go_enter Try.func116, Try.ntmps116
 go_wp2
 go_loopg [8] k (fun kq v8 w' => ∃ (x8_1 : Int), v8 = .int .i64 x8_1 ∧ Aside0 (slices_Index_int_int.l0 kq l0 a1 (l0.length : Int) x8_1 = some r) ∧ Aside0 (kq ≤ k) ∧ Drawn0 w w')
 case atStart => exact ⟨(0), eb_, H', ⟨Nat.le_refl _⟩, by repeat (first | exact Drawn0.refl _ | apply Drawn0.step)⟩
 case round =>
  clear H'
  try clear c1
  try clear p2
  obtain ⟨x8_1, rfl, HA, HK1, ⟨m1, rfl⟩⟩ := hrel
  cases gk with
  | zero => exact absurd HA.out (by simp [slices_Index_int_int.l0])
  | succ k1 =>
   have H := HA.out
   clear HA
   simp only [slices_Index_int_int.l0] at H
   by_cases c3 : x8_1 < (l0.length : Int)
   ·rw [if_pos c3] at H
    have c3b0 : decide (x8_1 < (l0.length : Int)) = true := decide_eq_true c3
    clear c3
    by_cases c4 : 0 ≤ x8_1
    ·rw [if_pos c4] at H
     have c4b0 : decide (0 ≤ x8_1) = true := decide_eq_true c4
     clear c4
     by_cases c5 : x8_1 < (l0.length : Int)
     ·rw [if_pos c5] at H
      have c5b0 : decide (x8_1 < (l0.length : Int)) = true := decide_eq_true c5
      clear c5
      by_cases c6 : a1 = (rd l0 x8_1)
      ·rw [if_pos c6] at H
       have c6b0 : (a1 == (rd l0 x8_1)) = true := beq_iff_eq.mpr c6
       have c6b1 : (a1 != (rd l0 x8_1)) = false := bne_eq_false_iff_eq.mpr c6
       clear c6
       obtain rfl := Option.some.inj H
       have p639 : 0 ≤ (x8_1 : Int) := od_
       have q639 : x8_1 < (l0.length : Int) := od_
       obtain ⟨ad639, e639, hx639_0⟩ := Kd.at_int HR0.out x8_1 p639 q639
       cases e639
       replace p639 := eq_true p639
       replace q639 := eq_true q639
       go_wp2
       go_ret
       exact ⟨by first | rfl | (simp; done) | (simp [*]; done), by repeat (first | exact Drawn0.refl _ | apply Drawn0.step)⟩
      ·rw [if_neg c6] at H
       have c6b0 : (a1 == (rd l0 x8_1)) = false := beq_eq_false_iff_ne.mpr c6
       have c6b1 : (a1 != (rd l0 x8_1)) = true := bne_iff_ne.mpr c6
       have H' := Aside0.mk H
       clear H
       have p639 : 0 ≤ (x8_1 : Int) := od_
       have q639 : x8_1 < (l0.length : Int) := od_
       obtain ⟨ad639, e639, hx639_0⟩ := Kd.at_int HR0.out x8_1 p639 q639
       cases e639
       replace p639 := eq_true p639
       replace q639 := eq_true q639
       go_wp2
       go_roundg k1
       case measure => have := HK1.out; omega
       case rel => exact ⟨(wrap64 (x8_1 + 1)), eb_, H', ⟨by have := HK1.out; omega⟩, by repeat (first | exact Drawn0.refl _ | apply Drawn0.step)⟩
     ·rw [if_neg c5] at H
      exact absurd H (by simp)
    ·rw [if_neg c4] at H
     exact absurd H (by simp)
   ·rw [if_neg c3] at H
    have c3b0 : decide (x8_1 < (l0.length : Int)) = false := decide_eq_false c3
    clear c3
    obtain rfl := Option.some.inj H
    go_wp2
    go_ret
    exact ⟨by first | rfl | (simp; done) | (simp [*]; done), by repeat (first | exact Drawn0.refl _ | apply Drawn0.step)⟩
end Go.Proofs.Ytelglbebffdaaaa.X
namespace Go.Proofs.Ytelglbebffdaaaa.X
open Go.RowKit Go.Proofs.YtelglbebffdaaaaW.PrintWords Go.Proofs.YtelglbebffdaaaaW.PrintLast Go.Proofs.YtelglbebffdaaaaW.PrintMore
attribute [local go_sem] max2_int min2_int max_two min_two max_three min_three max_four min_four   -- for this text's walks alone
set_option linter.unusedVariables false
set_option linter.unusedSimpArgs false
def slices_Contains_int_int.f (k : Nat) (l0 : List Int) (a1 : Int) : Option (Bool) := (slices_Index_int_int.f k l0 a1).bind fun t640 => (some (decide (t640 ≥ 0)))
theorem slices_Contains_int_int.mono : ∀ a0 a1 k, LeO (slices_Contains_int_int.f k a0 a1) (slices_Contains_int_int.f (k + 1) a0 a1) := by
 intro a0 a1 k
 unfold slices_Contains_int_int.f
 repeat' first
   | (with_reducible exact slices_Index_int_int.mono _ _ _)
   | (with_reducible exact LeO.refl _)
   | (with_reducible exact LeO.none _)
   | (with_reducible refine LeO.ite ?_ ?_)
   | (with_reducible refine LeO.bind ?_ (fun _ => ?_))
   | exact slices_Index_int_int.mono _ _ _
   | exact LeO.none _
   | refine LeO.ite ?_ ?_
   | refine LeO.bind ?_ (fun _ => ?_)
set_option maxHeartbeats 8000000 in
set_option maxRecDepth 100000 in
theorem slices_Contains_int_int.calls (k : Nat) (A0 : Option Addr) (c0 : Nat) (l0 : List Int) (a1 : Int) (r : Bool) (w : World) (hr0 : Kd.C (Kd.int .i64) w A0 l0.length l0) (hc0 : l0.length ≤ c0) (h : slices_Contains_int_int.f k l0 a1 = some r) :
  Calls Try.prog 106 #[.slice A0 l0.length c0, .int .i64 a1] w fun e w' => e = .returned (.bool r) ∧ Drawn0 w w' := by
 have HR0 := Aside0.mk hr0
 have HC0 := Aside0.mk hc0
 clear hr0 hc0
 have H : ((slices_Index_int_int.f k l0 a1).bind fun t640 => (some (decide (t640 ≥ 0)))) = some r := h
 clear h
 replace H := Option.bind_eq_some_iff.mp H
 obtain ⟨t640, A30, H⟩ := H
 replace H : (some (decide (t640 ≥ 0))) = some r := H
 have A3 := Aside0.mk A30
 clear A30
 obtain rfl := Option.some.inj H
 go_enter Try.func106, Try.ntmps106
 go_wp2_with (first | ((with_reducible refine gate_callee (f := 116) rfl ?_); refine gL_ (some 7) Try.func116 #[.slice A0 l0.length c0, .int .i64 a1] ?_; (with_reducible refine (slices_Index_int_int.calls k _ _ l0 a1 t640 _ (cc_ HR0.out) HC0.out A3.out).mono ?_); rintro e w' ⟨rfl, ⟨nd, rfl⟩⟩; refine ⟨_, rfl, ?_⟩))
 go_ret
 exact ⟨by first | rfl | (simp; done) | (simp [*]; done), by repeat (first | exact Drawn0.refl _ | apply Drawn0.step)⟩
end Go.Proofs.Ytelglbebffdaaaa.X
