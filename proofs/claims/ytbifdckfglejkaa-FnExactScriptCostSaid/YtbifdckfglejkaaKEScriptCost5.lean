/- Part 5 of the proof of FnExactScriptCost: what it needs. -/
import Derived.Test.YtbifdckfglejkaaKEScriptCost3
import Derived.Test.YtbifdckfglejkaaKEScriptCost4
namespace Go.Proofs.Ytbifdckfglejkaa.X
open Go.RowKit Go.Proofs.YtbifdckfglejkaaW.PrintWords Go.Proofs.YtbifdckfglejkaaW.PrintLast Go.Proofs.YtbifdckfglejkaaW.PrintMore
attribute [local go_sem] max2_int min2_int max_two min_two max_three min_three max_four min_four   -- for this text's walks alone
set_option linter.unusedVariables false
set_option linter.unusedSimpArgs false
def spec_ApplyOp.f (k : Nat) (l0 : List (S90)) (a1_0 : Int) (l1_1 : List Int) (a1_2 : Int) (a1_3 : Int) (a1_4 : Int) : Option ((List (S90)) × Int) := (spec_TreeOk.f k l0).bind fun t873 => (if t873 = true then ((spec_NodeAt.f k l0 l1_1).bind fun t877 => ((spec_l3Copy.f l0).bind fun t878 => ((spec_l13Code.f k l0 a1_0 l1_1 a1_2 a1_3 a1_4 t877).bind fun bt881 => (if bt881.1 = 0 then (if a1_0 = 1 then (if 0 ≤ t877 then (if t877 < (t878.length : Int) then (some ((t878.set (t877 : Int).toNat (⟨a1_2, (rd_T90 t878 t877).f1⟩ : S90)), bt881.1)) else (none)) else (none)) else (if a1_0 = 2 then ((spec_EndOf.f k l0 t877).bind fun t885 => ((spec_l13Shift.f k l0 0 t877 0).bind fun t886 => ((spec_l13Shift.f k l0 (wrap64 (t877 + 1)) t885 (-1)).bind fun t889 => (if t886.length + t889.length < 8796093022208 then ((some (t886 ++ t889 : List (S90))).bind fun y892 => ((spec_l13Shift.f k l0 t885 (l0.length : Int) 0).bind fun t895 => (if y892.length + t895.length < 8796093022208 then (some ((y892 ++ t895), bt881.1)) else (none)))) else (none))))) else ((spec_l13Shift.f k l0 0 bt881.2.1 0).bind fun t901 => (if 0 ≤ t877 then (if t877 < (l0.length : Int) then ((some (([(⟨a1_2, wrap64 (((rd_T90 l0 t877).f1) + 1)⟩ : S90)] : List (S90)) : List (S90))).bind fun y905 => (if t901.length + y905.length < 8796093022208 then ((some (t901 ++ y905 : List (S90))).bind fun y908 => ((spec_l13Shift.f k l0 bt881.2.1 bt881.2.2 1).bind fun t911 => (if y908.length + t911.length < 8796093022208 then ((some (y908 ++ t911 : List (S90))).bind fun y914 => ((spec_l13Shift.f k l0 bt881.2.2 (l0.length : Int) 0).bind fun t917 => (if y914.length + t917.length < 8796093022208 then (some ((y914 ++ t917), bt881.1)) else (none)))) else (none)))) else (none))) else (none)) else (none))))) else (some (t878, bt881.1)))))) else (some ((([] : List (S90))), 2)))
def spec_ApplyOp.T16 : Bool × List (List Nat × List Nat) := (true, [([], []), ([], []), ([0, 1], [0, 1]), ([], []), ([3], [3]), ([], []), ([], []), ([5, 6], [5, 6]), ([7], [7]), ([8], [8]), ([9], [9]), ([4, 10], [4, 10]), ([11], [11]), ([2, 12, 2], [2, 12]), ([13, 13, 0, 1, 2, 3, 4, 5, 6, 7, 8, 9, 10, 11, 12, 13], [13])])
def spec_ApplyOp.B16 : List Nat := [0, 0, 3, 0, 8, 0, 0, 96, 224, 480, 992, 2040, 4088, 8191, 16383]
theorem spec_ApplyOp.tab16 : rtab .any (opsOf Try.f44 16) = spec_ApplyOp.T16 := by kernel_rfl
theorem spec_ApplyOp.bits16 : waitsOk spec_ApplyOp.T16.2 spec_ApplyOp.B16 = true := by kernel_rfl
set_option maxHeartbeats 8000000 in
set_option maxRecDepth 100000 in
theorem spec_ApplyOp.calls (k : Nat) (A0 : Option Addr) (c0 : Nat) (l0 : List (S90)) (a1_0 : Int) (A1_1 : Option Addr) (c1_1 : Nat) (l1_1 : List Int) (a1_2 : Int) (a1_3 : Int) (a1_4 : Int) (r1 : List (S90)) (r2 : Int) (w : World) (hr0 : Kd.C k90 w A0 l0.length l0) (hc0 : l0.length ≤ c0) (hr1_1 : Kd.C (Kd.int .i64) w A1_1 l1_1.length l1_1) (hc1_1 : l1_1.length ≤ c1_1) (h : spec_ApplyOp.f k l0 a1_0 l1_1 a1_2 a1_3 a1_4 = some (r1, r2)) :
  Calls Try.prog 44 #[.slice A0 l0.length c0, .agg #[.int .i64 a1_0, .slice A1_1 l1_1.length c1_1, .int .i64 a1_2, .int .i64 a1_3, .int .i64 a1_4]] w fun e w' => ∃ v0_ : Value, e = .returned (.tuple #[v0_, .int .i64 r2]) ∧ Kd.R k90 90 w' w.heap.size (fun _ => True) v0_ r1 ∧ Below w.heap.size w w' := by
 have hu67 := Try.underlying67
 have hu90 := Try.underlying90
 have HR0 := Aside0.mk hr0
 have HC0 := Aside0.mk hc0
 clear hr0 hc0
 have HR1_1 := Aside0.mk hr1_1
 have HC1_1 := Aside0.mk hc1_1
 clear hr1_1 hc1_1
 have HB := Aside0.mk (Below.refl w.heap.size w)
 have H : ((spec_TreeOk.f k l0).bind fun t873 => (if t873 = true then ((spec_NodeAt.f k l0 l1_1).bind fun t877 => ((spec_l3Copy.f l0).bind fun t878 => ((spec_l13Code.f k l0 a1_0 l1_1 a1_2 a1_3 a1_4 t877).bind fun bt881 => (if bt881.1 = 0 then (if a1_0 = 1 then (if 0 ≤ t877 then (if t877 < (t878.length : Int) then (some ((t878.set (t877 : Int).toNat (⟨a1_2, (rd_T90 t878 t877).f1⟩ : S90)), bt881.1)) else (none)) else (none)) else (if a1_0 = 2 then ((spec_EndOf.f k l0 t877).bind fun t885 => ((spec_l13Shift.f k l0 0 t877 0).bind fun t886 => ((spec_l13Shift.f k l0 (wrap64 (t877 + 1)) t885 (-1)).bind fun t889 => (if t886.length + t889.length < 8796093022208 then ((some (t886 ++ t889 : List (S90))).bind fun y892 => ((spec_l13Shift.f k l0 t885 (l0.length : Int) 0).bind fun t895 => (if y892.length + t895.length < 8796093022208 then (some ((y892 ++ t895), bt881.1)) else (none)))) else (none))))) else ((spec_l13Shift.f k l0 0 bt881.2.1 0).bind fun t901 => (if 0 ≤ t877 then (if t877 < (l0.length : Int) then ((some (([(⟨a1_2, wrap64 (((rd_T90 l0 t877).f1) + 1)⟩ : S90)] : List (S90)) : List (S90))).bind fun y905 => (if t901.length + y905.length < 8796093022208 then ((some (t901 ++ y905 : List (S90))).bind fun y908 => ((spec_l13Shift.f k l0 bt881.2.1 bt881.2.2 1).bind fun t911 => (if y908.length + t911.length < 8796093022208 then ((some (y908 ++ t911 : List (S90))).bind fun y914 => ((spec_l13Shift.f k l0 bt881.2.2 (l0.length : Int) 0).bind fun t917 => (if y914.length + t917.length < 8796093022208 then (some ((y914 ++ t917), bt881.1)) else (none)))) else (none)))) else (none))) else (none)) else (none))))) else (some (t878, bt881.1)))))) else (some ((([] : List (S90))), 2)))) = some (r1, r2) := h
 clear h
 replace H := Option.bind_eq_some_iff.mp H
 obtain ⟨t873, A30, H⟩ := H
 try dsimp only at H
 have A3 := Aside0.mk A30
 clear A30
 by_cases c4 : t873 = true
 ·subst c4
  have H1 : ((spec_NodeAt.f k l0 l1_1).bind fun t877 => ((spec_l3Copy.f l0).bind fun t878 => ((spec_l13Code.f k l0 a1_0 l1_1 a1_2 a1_3 a1_4 t877).bind fun bt881 => (if bt881.1 = 0 then (if a1_0 = 1 then (if 0 ≤ t877 then (if t877 < (t878.length : Int) then (some ((t878.set (t877 : Int).toNat (⟨a1_2, (rd_T90 t878 t877).f1⟩ : S90)), bt881.1)) else (none)) else (none)) else (if a1_0 = 2 then ((spec_EndOf.f k l0 t877).bind fun t885 => ((spec_l13Shift.f k l0 0 t877 0).bind fun t886 => ((spec_l13Shift.f k l0 (wrap64 (t877 + 1)) t885 (-1)).bind fun t889 => (if t886.length + t889.length < 8796093022208 then ((some (t886 ++ t889 : List (S90))).bind fun y892 => ((spec_l13Shift.f k l0 t885 (l0.length : Int) 0).bind fun t895 => (if y892.length + t895.length < 8796093022208 then (some ((y892 ++ t895), bt881.1)) else (none)))) else (none))))) else ((spec_l13Shift.f k l0 0 bt881.2.1 0).bind fun t901 => (if 0 ≤ t877 then (if t877 < (l0.length : Int) then ((some (([(⟨a1_2, wrap64 (((rd_T90 l0 t877).f1) + 1)⟩ : S90)] : List (S90)) : List (S90))).bind fun y905 => (if t901.length + y905.length < 8796093022208 then ((some (t901 ++ y905 : List (S90))).bind fun y908 => ((spec_l13Shift.f k l0 bt881.2.1 bt881.2.2 1).bind fun t911 => (if y908.length + t911.length < 8796093022208 then ((some (y908 ++ t911 : List (S90))).bind fun y914 => ((spec_l13Shift.f k l0 bt881.2.2 (l0.length : Int) 0).bind fun t917 => (if y914.length + t917.length < 8796093022208 then (some ((y914 ++ t917), bt881.1)) else (none)))) else (none)))) else (none))) else (none)) else (none))))) else (some (t878, bt881.1)))))) = some (r1, r2) := by rw [if_pos rfl] at H; exact H
  clear H
  have H := H1
  clear H1
  replace H := Option.bind_eq_some_iff.mp H
  obtain ⟨t877, A50, H⟩ := H
  try dsimp only at H
  have A5 := Aside0.mk A50
  clear A50
  replace H := Option.bind_eq_some_iff.mp H
  obtain ⟨t878, A60, H⟩ := H
  try dsimp only at H
  have A6 := Aside0.mk A60
  clear A60
  replace H := Option.bind_eq_some_iff.mp H
  obtain ⟨⟨t881, t882, t883⟩, A70, H⟩ := H
  try dsimp only at H
  have A7 := Aside0.mk A70
  clear A70
  by_cases c8 : t881 = 0
  ·rw [if_pos c8] at H
   have c8b0 : (t881 == 0) = true := beq_iff_eq.mpr c8
   have c8b1 : (t881 != 0) = false := bne_eq_false_iff_eq.mpr c8
   clear c8
   by_cases c9 : a1_0 = 1
   ·rw [if_pos c9] at H
    have c9b0 : (a1_0 == 1) = true := beq_iff_eq.mpr c9
    have c9b1 : (a1_0 != 1) = false := bne_eq_false_iff_eq.mpr c9
    clear c9
    by_cases c10 : 0 ≤ t877
    ·rw [if_pos c10] at H
     have c10b0 : decide (0 ≤ t877) = true := decide_eq_true c10
     clear c10
     by_cases c11 : t877 < (t878.length : Int)
     ·rw [if_pos c11] at H
      have c11b0 : decide (t877 < (t878.length : Int)) = true := decide_eq_true c11
      clear c11
      obtain ⟨y884, hy884⟩ : ∃ y_ : List (S90), y_ = (t878.set (t877 : Int).toNat (⟨a1_2, (rd_T90 t878 t877).f1⟩ : S90)) := ⟨_, rfl⟩
      replace H : (some (y884, t881)) = some (r1, r2) := by first | (rw [hy884]; with_reducible exact H) | (have H2_ := (Option.bind_some _ _).symm.trans H; rw [hy884]; with_reducible exact H2_) | (have H2_ := (Option.bind_some _ _).symm.trans H; with_reducible exact H2_) | with_reducible exact H | (rw [hy884]; exact H) | exact H
      have Ny884 := Aside0.mk hy884
      clear hy884
      simp only [Option.some.injEq, Prod.mk.injEq] at H
      obtain ⟨rfl, rfl⟩ := H
      go_enter Try.func44, Try.ntmps44
      go_wp2_with (first | ((with_reducible refine gate_dst (N := 3) rfl ?_); refine bx_ 3 #[.int .i64 a1_0, .slice A1_1 l1_1.length c1_1, .int .i64 a1_2, .int .i64 a1_3, .int .i64 a1_4] 67 ?_; intro gb872 hg w13 hbox hb; have BK872 := Aside0.mk (hbox); have GW872 := Aside0.mk ((by rw [hg]; exact (bs_ HB) : w.heap.size ≤ gb872)); have GE872 := Aside0.mk ((by rw [hg]; exact (bs_ HB) : w.heap.size ≤ gb872)); replace HB := tB_ HB hb; clear hb hbox hg) | ((with_reducible refine gate_callee (f := 64) rfl ?_); refine gL_ (some 13) Try.func64 #[.slice A0 l0.length c0] ?_; (with_reducible refine (spec_TreeOk.calls k _ _ l0 true _ (cx_ HR0 HB) HC0.out A3.out).mono ?_); rintro e w14 ⟨rfl, hb⟩; refine ⟨_, rfl, ?_⟩; replace BK872 := tK_ BK872 hb; replace HB := tB_ HB hb; (try clear hb); obtain ⟨hcz15_0, hcz15_1, hcz15_2, hcz15_3, hcz15_4, hfz15_0, hfz15_1, hfz15_2, hfz15_3, hfz15_4⟩ := bk5_ BK872) | ((with_reducible refine gate_callee (f := 60) rfl ?_); refine gL_ (some 19) Try.func60 #[.slice A0 l0.length c0, .slice A1_1 l1_1.length c1_1] ?_; (with_reducible refine (spec_NodeAt.calls k _ _ l0 _ _ l1_1 t877 _ (cx_ HR0 HB) HC0.out (cx_ HR1_1 HB) HC1_1.out A5.out).mono ?_); rintro e w16 ⟨rfl, hb⟩; refine ⟨_, rfl, ?_⟩; replace BK872 := tK_ BK872 hb; replace HB := tB_ HB hb; (try clear hb)) | ((with_reducible refine gate_callee (f := 98) rfl ?_); refine gL_ (some 21) Try.func98 #[.slice A0 l0.length c0] ?_; (with_reducible refine (spec_l3Copy.calls _ _ l0 t878 _ (cx_ HR0 HB) HC0.out A6.out).mono ?_); rintro e w17 ⟨v879, rfl, ho0, hb⟩; refine ⟨_, rfl, ?_⟩; have HO880 := Aside0.mk (Kd.R_lower ho0 (bs_ HB)); replace BK872 := tK_ BK872 hb; replace HB := tB_ HB hb; (try clear hb); (try clear ho0); obtain ⟨hcz18_0, hcz18_1, hcz18_2, hcz18_3, hcz18_4, hfz18_0, hfz18_1, hfz18_2, hfz18_3, hfz18_4⟩ := bk5_ BK872) | ((with_reducible refine gate_callee (f := 99) rfl ?_); refine gL_ (some 26) Try.func99 #[.slice A0 l0.length c0, .agg #[.int .i64 a1_0, .slice A1_1 l1_1.length c1_1, .int .i64 a1_2, .int .i64 a1_3, .int .i64 a1_4], .int .i64 t877] ?_; (with_reducible refine (spec_l13Code.calls k _ _ l0 a1_0 _ _ l1_1 a1_2 a1_3 a1_4 t877 t881 t882 t883 _ (cx_ HR0 HB) HC0.out (cx_ HR1_1 HB) HC1_1.out A7.out).mono ?_); rintro e w19 ⟨rfl, hb⟩; refine ⟨_, rfl, ?_⟩; replace HO880 := tR_ HO880 hb; replace BK872 := tK_ BK872 hb; replace HB := tB_ HB hb; (try clear hb); obtain ⟨hcz20_0, hcz20_1, hcz20_2, hcz20_3, hcz20_4, hfz20_0, hfz20_1, hfz20_2, hfz20_3, hfz20_4⟩ := bk5_ BK872; have p12 : 0 ≤ (t877 : Int) := od_; have q12 : (t877 : Int) < ((t878.length : Int) : Int) := od_; obtain ⟨go12, co12, eo12, gb12, gl12, cl12, HG12⟩ := Kd.R_form HO880.out (by omega); (first | cases eo12 | (injection eo12 with ea_ en_ ec_; (first | subst ea_ | (injection ea_ with ea_; subst ea_)); subst ec_; clear en_)); have GB12 := Aside0.mk gb12; have GG12 := Aside0.mk HG12; clear gb12 gl12 HG12; obtain ⟨ce12, hcl12, hM12, hcc12, hfr12⟩ := Kd.R_elem HO880.out z90 (t877 : Int) p12 q12; obtain rfl := k90_openM hM12; have hx12_0 : w19.cell? ⟨go12, (t877 : Int).toNat * 2, none⟩ = some (.int .i64 ((rd_T90 t878 t877).f0)) := hcc12 0 _ rfl; have hx12_1 : w19.cell? ⟨go12, (t877 : Int).toNat * 2 + 1, none⟩ = some (.int .i64 ((rd_T90 t878 t877).f1)) := hcc12 1 _ rfl; have hf12_0 : w19.frozen? ⟨go12, (t877 : Int).toNat * 2, none⟩ = false := hfr12 0; have hf12_1 : w19.frozen? ⟨go12, (t877 : Int).toNat * 2 + 1, none⟩ = false := hfr12 1; clear hcl12 hcc12 hfr12 hM12; replace p12 := eq_true p12; replace q12 := eq_true q12; have HX21 := Aside0.mk (show Kd.R k90 90 w19 w.heap.size (fun _ => True) (.slice (some ⟨go12, 0, none⟩) t878.length co12) t878 from (rx_ HO880.out)); obtain ⟨ce21, hcl21, hM21, hcc21, hfr21⟩ := Kd.R_elem HX21.out z90 (t877 : Int) (od_) (by have h_ : (t877 : Int) < ((t878.length : Int) : Int) := od_; first | exact h_ | (have e_ := (Kd.R_reads' HO880.out).1; omega) | simpa using h_); obtain rfl := k90_openM hM21; have HP21 := Kd.R_seg HX21.out (t877 : Int) (od_) (by have h_ : (t877 : Int) < ((t878.length : Int) : Int) := od_; first | exact h_ | (have e_ := (Kd.R_reads' HO880.out).1; omega) | simpa using h_) (seg := [.int .i64 a1_2]) (j := 0) hcl21 hcc21 (show 1 ≤ 2 from by decide) (x' := (⟨a1_2, (rd_T90 t878 t877).f1⟩ : S90)) (k90_mkM _ _ _ (⟨a1_2, (rd_T90 t878 t877).f1⟩ : S90) ) (fun _ hk => hk); have hx21_0 := hcc21 0 _ rfl; (try simp only [show (k90).sz = 2 from rfl, Nat.mul_one, Nat.add_zero] at hx21_0); have hf21_0 := hfr21 0; (try simp only [show (k90).sz = 2 from rfl, Nat.mul_one, Nat.add_zero] at hf21_0); clear hcl21 hcc21 hfr21 hM21) | ((with_reducible refine gate_store (t := 3) (p := 43) rfl ?_); refine store_event (t := 3) (p := 43) (v := ?vo_w22) (w1 := (w19.setCell ⟨go12, (t877 : Int).toNat * 2, none⟩ (.int .i64 a1_2))) ?hg ?ho ?hn ?hr ?_; (case ho => rfl); (case hg => rfl); (case hn => rfl); (case hr => first | (go_simp; done) | (go_simp; rfl)); intro w22 hw; have hg : w19.grownBy w22 (some go12) := (by rw [hw]; exact HP21.2); have hp_ : Kd.R k90 90 w22 w.heap.size (fun _ => True) (.slice (some ⟨go12, 0, none⟩) t878.length co12) y884 := (by rw [hw, Ny884.out]; exact HP21.1); clear HP21; replace BK872 := Aside0.mk (blk_grown (g := gb872) (o := .cells #[.int .i64 a1_0, .slice A1_1 l1_1.length c1_1, .int .i64 a1_2, .int .i64 a1_3, .int .i64 a1_4] 67 (0, 0)) (kx_ BK872.out) hg (Kd.R_ne HO880.out BK872.out (by decide))); replace HO880 := Aside0.mk (hp_); replace HB := Aside0.mk ((by rw [hw]; exact below_set (HB.out) GB12.out : Below w.heap.size w w22)); clear hg hw hp_))
      go_ret2
      exact ⟨_, ea_, rx_ HO880.out, (bl_ HB).out⟩
     ·rw [if_neg c11] at H
      exact absurd H (by simp)
    ·rw [if_neg c10] at H
     exact absurd H (by simp)
   ·rw [if_neg c9] at H
    have c9b0 : (a1_0 == 1) = false := beq_eq_false_iff_ne.mpr c9
    have c9b1 : (a1_0 != 1) = true := bne_iff_ne.mpr c9
    by_cases c23 : a1_0 = 2
    ·rw [if_pos c23] at H
     have c23b0 : (a1_0 == 2) = true := beq_iff_eq.mpr c23
     have c23b1 : (a1_0 != 2) = false := bne_eq_false_iff_eq.mpr c23
     clear c23
     replace H := Option.bind_eq_some_iff.mp H
     obtain ⟨t885, A240, H⟩ := H
     try dsimp only at H
     have A24 := Aside0.mk A240
     clear A240
     replace H := Option.bind_eq_some_iff.mp H
     obtain ⟨t886, A250, H⟩ := H
     try dsimp only at H
     have A25 := Aside0.mk A250
     clear A250
     replace H := Option.bind_eq_some_iff.mp H
     obtain ⟨t889, A260, H⟩ := H
     try dsimp only at H
     have A26 := Aside0.mk A260
     clear A260
     by_cases c27 : t886.length + t889.length < 8796093022208
     ·rw [if_pos c27] at H
      have LMc27 := Aside0.mk c27
      clear c27
      obtain ⟨y892, hy892⟩ : ∃ y_ : List (S90), y_ = (t886 ++ t889) := ⟨_, rfl⟩
      replace H : ((spec_l13Shift.f k l0 t885 (l0.length : Int) 0).bind fun t895 => (if y892.length + t895.length < 8796093022208 then (some ((y892 ++ t895), t881)) else (none))) = some (r1, r2) := by first | (rw [hy892]; with_reducible exact H) | (have H2_ := (Option.bind_some _ _).symm.trans H; rw [hy892]; with_reducible exact H2_) | (have H2_ := (Option.bind_some _ _).symm.trans H; with_reducible exact H2_) | with_reducible exact H | (rw [hy892]; exact H) | exact H
      have Ny892 := Aside0.mk hy892
      clear hy892
      replace H := Option.bind_eq_some_iff.mp H
      obtain ⟨t895, A280, H⟩ := H
      try dsimp only at H
      have A28 := Aside0.mk A280
      clear A280
      by_cases c29 : y892.length + t895.length < 8796093022208
      ·rw [if_pos c29] at H
       have LMc29 := Aside0.mk c29
       clear c29
       obtain ⟨y898, hy898⟩ : ∃ y_ : List (S90), y_ = (y892 ++ t895) := ⟨_, rfl⟩
       replace H : (some (y898, t881)) = some (r1, r2) := by first | (rw [hy898]; with_reducible exact H) | (have H2_ := (Option.bind_some _ _).symm.trans H; rw [hy898]; with_reducible exact H2_) | (have H2_ := (Option.bind_some _ _).symm.trans H; with_reducible exact H2_) | with_reducible exact H | (rw [hy898]; exact H) | exact H
       have Ny898 := Aside0.mk hy898
       clear hy898
       simp only [Option.some.injEq, Prod.mk.injEq] at H
       obtain ⟨rfl, rfl⟩ := H
       go_enter Try.func44, Try.ntmps44
       go_wp2_with (first | ((with_reducible refine gate_dst (N := 3) rfl ?_); refine bx_ 3 #[.int .i64 a1_0, .slice A1_1 l1_1.length c1_1, .int .i64 a1_2, .int .i64 a1_3, .int .i64 a1_4] 67 ?_; intro gb872 hg w30 hbox hb; have BK872 := Aside0.mk (hbox); have GW872 := Aside0.mk ((by rw [hg]; exact (bs_ HB) : w.heap.size ≤ gb872)); have GE872 := Aside0.mk ((by rw [hg]; exact (bs_ HB) : w.heap.size ≤ gb872)); replace HB := tB_ HB hb; clear hb hbox hg) | ((with_reducible refine gate_callee (f := 64) rfl ?_); refine gL_ (some 13) Try.func64 #[.slice A0 l0.length c0] ?_; (with_reducible refine (spec_TreeOk.calls k _ _ l0 true _ (cx_ HR0 HB) HC0.out A3.out).mono ?_); rintro e w31 ⟨rfl, hb⟩; refine ⟨_, rfl, ?_⟩; replace BK872 := tK_ BK872 hb; replace HB := tB_ HB hb; (try clear hb); obtain ⟨hcz32_0, hcz32_1, hcz32_2, hcz32_3, hcz32_4, hfz32_0, hfz32_1, hfz32_2, hfz32_3, hfz32_4⟩ := bk5_ BK872) | ((with_reducible refine gate_callee (f := 60) rfl ?_); refine gL_ (some 19) Try.func60 #[.slice A0 l0.length c0, .slice A1_1 l1_1.length c1_1] ?_; (with_reducible refine (spec_NodeAt.calls k _ _ l0 _ _ l1_1 t877 _ (cx_ HR0 HB) HC0.out (cx_ HR1_1 HB) HC1_1.out A5.out).mono ?_); rintro e w33 ⟨rfl, hb⟩; refine ⟨_, rfl, ?_⟩; replace BK872 := tK_ BK872 hb; replace HB := tB_ HB hb; (try clear hb)) | ((with_reducible refine gate_callee (f := 98) rfl ?_); refine gL_ (some 21) Try.func98 #[.slice A0 l0.length c0] ?_; (with_reducible refine (spec_l3Copy.calls _ _ l0 t878 _ (cx_ HR0 HB) HC0.out A6.out).mono ?_); rintro e w34 ⟨v879, rfl, ho0, hb⟩; refine ⟨_, rfl, ?_⟩; have HO880 := Aside0.mk (Kd.R_lower ho0 (bs_ HB)); replace BK872 := tK_ BK872 hb; replace HB := tB_ HB hb; (try clear hb); (try clear ho0); obtain ⟨hcz35_0, hcz35_1, hcz35_2, hcz35_3, hcz35_4, hfz35_0, hfz35_1, hfz35_2, hfz35_3, hfz35_4⟩ := bk5_ BK872) | ((with_reducible refine gate_callee (f := 99) rfl ?_); refine gL_ (some 26) Try.func99 #[.slice A0 l0.length c0, .agg #[.int .i64 a1_0, .slice A1_1 l1_1.length c1_1, .int .i64 a1_2, .int .i64 a1_3, .int .i64 a1_4], .int .i64 t877] ?_; (with_reducible refine (spec_l13Code.calls k _ _ l0 a1_0 _ _ l1_1 a1_2 a1_3 a1_4 t877 t881 t882 t883 _ (cx_ HR0 HB) HC0.out (cx_ HR1_1 HB) HC1_1.out A7.out).mono ?_); rintro e w36 ⟨rfl, hb⟩; refine ⟨_, rfl, ?_⟩; replace HO880 := tR_ HO880 hb; replace BK872 := tK_ BK872 hb; replace HB := tB_ HB hb; (try clear hb); obtain ⟨hcz37_0, hcz37_1, hcz37_2, hcz37_3, hcz37_4, hfz37_0, hfz37_1, hfz37_2, hfz37_3, hfz37_4⟩ := bk5_ BK872) | ((with_reducible refine gate_callee (f := 100) rfl ?_); refine gL_ (some 50) Try.func100 #[.slice A0 l0.length c0, .int .i64 t877] ?_; (with_reducible refine (spec_EndOf.calls k _ _ l0 t877 t885 _ (cx_ HR0 HB) HC0.out A24.out).mono ?_); rintro e w38 ⟨rfl, hb⟩; refine ⟨_, rfl, ?_⟩; replace HO880 := tR_ HO880 hb; replace BK872 := tK_ BK872 hb; replace HB := tB_ HB hb; (try clear hb)) | ((with_reducible refine gate_callee (f := 101) rfl ?_); refine gL_ (some 53) Try.func101 #[.slice A0 l0.length c0, .int .i64 0, .int .i64 t877, .int .i64 0] ?_; (with_reducible refine (spec_l13Shift.calls k _ _ l0 0 t877 0 t886 _ (cx_ HR0 HB) HC0.out A25.out).mono ?_); rintro e w39 ⟨v887, rfl, ho0, hb⟩; refine ⟨_, rfl, ?_⟩; have HO888 := Aside0.mk (Kd.R_lower (Kd.R_new' ho0 (Kd.R_lt (rx_ HO880.out))) (bs_ HB)); replace HO880 := Aside0.mk (Kd.R_elder' (rx_ HO880.out) (Kd.R_base ho0) hb); replace BK872 := tK_ BK872 hb; replace HB := tB_ HB hb; (try clear hb); (try clear ho0)) | ((with_reducible refine gate_callee (f := 101) rfl ?_); refine gL_ (some 58) Try.func101 #[.slice A0 l0.length c0, .int .i64 (wrap64 (t877 + 1)), .int .i64 t885, .int .i64 (-1)] ?_; (with_reducible refine (spec_l13Shift.calls k _ _ l0 (wrap64 (t877 + 1)) t885 (-1) t889 _ (cx_ HR0 HB) HC0.out A26.out).mono ?_); rintro e w40 ⟨v890, rfl, ho0, hb⟩; refine ⟨_, rfl, ?_⟩; have HO891 := Aside0.mk (Kd.R_lower (Kd.R_new' (Kd.R_new' ho0 (Kd.R_lt (rx_ HO880.out))) (Kd.R_lt (rx_ HO888.out))) (bs_ HB)); replace HO880 := Aside0.mk (Kd.R_elder' (rx_ HO880.out) (Kd.R_base ho0) hb); replace HO888 := Aside0.mk (Kd.R_elder' (rx_ HO888.out) (Kd.R_base ho0) hb); replace BK872 := tK_ BK872 hb; replace HB := tB_ HB hb; (try clear hb); (try clear ho0); obtain ⟨Ao42, co42, eo42⟩ := Kd.R_slice HO891.out; subst eo42) | ((with_reducible refine gate_builtin (b := .append) (xs := #[.tmp 53, .tmp 58]) rfl ?_); at_builtin; refine Kd.R_append_rows k90 (w0 := w) w.heap.size rfl (.tmp 53) (.tmp 58) 34 90 (.agg #[(.int .i64 0), (.int .i64 0)]) 16 rfl Try.underlying34 info90 rfl (by decide) (by omega) v887 t886 t889 _ _ _ (fun k_ => some k_ ≠ (v879 : Value).ownBlock ∧ some k_ ≠ (.slice Ao42 t889.length co42 : Value).ownBlock) (fun _ => False) rfl rfl ?aO ?aR (fun _ _ h => h) (fun _ h => h.elim) ?aF ?aB ?aS ?aL ?_; (case aR => exact cc_ (Kd.R_reads' HO891.out).2.2); (case aB => exact ((bl_ HB).out)); (case aF => exact (fun k_ hk => ⟨Kd.fresh' (Kd.R_lt (rx_ HO880.out)) k_ hk, Kd.fresh' (Kd.R_lt (rx_ HO891.out)) k_ hk⟩)); (case aO => exact (rx_ (Kd.R_mono HO888.out (fun _ hk => ⟨hk.1.2, hk.2⟩)))); (case aS => exact (bs_ HB)); (case aL => have := LMc27.out; omega); intro v893 w41 ho hb hg hat; rw [← Ny892.out] at ho; replace BK872 := Aside0.mk (blk_grown (g := gb872) (o := .cells #[.int .i64 a1_0, .slice A1_1 l1_1.length c1_1, .int .i64 a1_2, .int .i64 a1_3, .int .i64 a1_4] 67 (0, 0)) (kx_ BK872.out) hg (Kd.R_ne HO888.out BK872.out (by decide))); replace HO880 := Aside0.mk (Kd.R_after (ok := (fun k_ => some k_ ≠ (.slice Ao42 t889.length co42 : Value).ownBlock)) (rx_ (Kd.R_mono HO880.out (fun _ hk => ⟨hk.2, hk.1.2⟩))) hg hat); replace HO891 := Aside0.mk (Kd.R_after (ok := (fun k_ => some k_ ≠ (v879 : Value).ownBlock)) (rx_ (Kd.R_mono HO891.out (fun _ hk => ⟨hk.1.2, hk.2⟩))) hg hat); replace HB := Aside0.mk (hb); have HO894 := Aside0.mk (ho); clear HO888; clear ho hb hg hat) | ((with_reducible refine gate_callee (f := 101) rfl ?_); refine gL_ (some 65) Try.func101 #[.slice A0 l0.length c0, .int .i64 t885, .int .i64 (l0.length : Int), .int .i64 0] ?_; (with_reducible refine (spec_l13Shift.calls k _ _ l0 t885 (l0.length : Int) 0 t895 _ (cx_ HR0 HB) HC0.out A28.out).mono ?_); rintro e w43 ⟨v896, rfl, ho0, hb⟩; refine ⟨_, rfl, ?_⟩; have HO897 := Aside0.mk (Kd.R_lower (Kd.R_new' (Kd.R_new' (Kd.R_new' ho0 (Kd.R_lt (rx_ HO880.out))) (Kd.R_lt (rx_ HO891.out))) (Kd.R_lt (rx_ HO894.out))) (bs_ HB)); replace HO880 := Aside0.mk (Kd.R_elder' (rx_ HO880.out) (Kd.R_base ho0) hb); replace HO891 := Aside0.mk (Kd.R_elder' (rx_ HO891.out) (Kd.R_base ho0) hb); replace HO894 := Aside0.mk (Kd.R_elder' (rx_ HO894.out) (Kd.R_base ho0) hb); replace BK872 := tK_ BK872 hb; replace HB := tB_ HB hb; (try clear hb); (try clear ho0); obtain ⟨Ao45, co45, eo45⟩ := Kd.R_slice HO897.out; subst eo45) | ((with_reducible refine gate_builtin (b := .append) (xs := #[.tmp 60, .tmp 65]) rfl ?_); at_builtin; refine Kd.R_append_rows k90 (w0 := w) w.heap.size rfl (.tmp 60) (.tmp 65) 34 90 (.agg #[(.int .i64 0), (.int .i64 0)]) 16 rfl Try.underlying34 info90 rfl (by decide) (by omega) v893 y892 t895 _ _ _ (fun k_ => some k_ ≠ (v879 : Value).ownBlock ∧ some k_ ≠ (.slice Ao42 t889.length co42 : Value).ownBlock ∧ some k_ ≠ (.slice Ao45 t895.length co45 : Value).ownBlock) (fun _ => False) rfl rfl ?aO ?aR (fun _ _ h => h) (fun _ h => h.elim) ?aF ?aB ?aS ?aL ?_; (case aR => exact cc_ (Kd.R_reads' HO897.out).2.2); (case aB => exact ((bl_ HB).out)); (case aF => exact (fun k_ hk => ⟨Kd.fresh' (Kd.R_lt (rx_ HO880.out)) k_ hk, Kd.fresh' (Kd.R_lt (rx_ HO891.out)) k_ hk, Kd.fresh' (Kd.R_lt (rx_ HO897.out)) k_ hk⟩)); (case aO => exact (rx_ (Kd.R_mono HO894.out (fun _ hk => ⟨hk.1.1, ⟨hk.1.2, hk.2⟩⟩)))); (case aS => exact (bs_ HB)); (case aL => have := LMc29.out; omega); intro v899 w44 ho hb hg hat; rw [← Ny898.out] at ho; replace BK872 := Aside0.mk (blk_grown (g := gb872) (o := .cells #[.int .i64 a1_0, .slice A1_1 l1_1.length c1_1, .int .i64 a1_2, .int .i64 a1_3, .int .i64 a1_4] 67 (0, 0)) (kx_ BK872.out) hg (Kd.R_ne HO894.out BK872.out (by decide))); replace HO880 := Aside0.mk (Kd.R_after (ok := (fun k_ => some k_ ≠ (.slice Ao42 t889.length co42 : Value).ownBlock ∧ some k_ ≠ (.slice Ao45 t895.length co45 : Value).ownBlock)) (rx_ (Kd.R_mono HO880.out (fun _ hk => ⟨⟨hk.1.1, hk.2⟩, hk.1.2⟩))) hg hat); replace HO891 := Aside0.mk (Kd.R_after (ok := (fun k_ => some k_ ≠ (v879 : Value).ownBlock ∧ some k_ ≠ (.slice Ao45 t895.length co45 : Value).ownBlock)) (rx_ (Kd.R_mono HO891.out (fun _ hk => ⟨⟨hk.1.1, hk.2⟩, hk.1.2⟩))) hg hat); replace HO897 := Aside0.mk (Kd.R_after (ok := (fun k_ => some k_ ≠ (v879 : Value).ownBlock ∧ some k_ ≠ (.slice Ao42 t889.length co42 : Value).ownBlock)) (rx_ (Kd.R_mono HO897.out (fun _ hk => ⟨⟨hk.1.1.2, hk.1.2⟩, hk.2⟩))) hg hat); replace HB := Aside0.mk (hb); have HO900 := Aside0.mk (ho); clear HO894; clear ho hb hg hat))
       go_ret2
       exact ⟨_, ea_, rx_ (Kd.R_mono HO900.out (fun _ hk => trivial)), (bl_ HB).out⟩
      ·rw [if_neg c29] at H
       exact absurd H (by simp)
     ·rw [if_neg c27] at H
      exact absurd H (by simp)
    ·rw [if_neg c23] at H
     have c23b0 : (a1_0 == 2) = false := beq_eq_false_iff_ne.mpr c23
     have c23b1 : (a1_0 != 2) = true := bne_iff_ne.mpr c23
     replace H := Option.bind_eq_some_iff.mp H
     obtain ⟨t901, A460, H⟩ := H
     try dsimp only at H
     have A46 := Aside0.mk A460
     clear A460
     by_cases c47 : 0 ≤ t877
     ·rw [if_pos c47] at H
      have c47b0 : decide (0 ≤ t877) = true := decide_eq_true c47
      clear c47
      by_cases c48 : t877 < (l0.length : Int)
      ·rw [if_pos c48] at H
       have c48b0 : decide (t877 < (l0.length : Int)) = true := decide_eq_true c48
       clear c48
       obtain ⟨y905, hy905⟩ : ∃ y_ : List (S90), y_ = (([(⟨a1_2, wrap64 (((rd_T90 l0 t877).f1) + 1)⟩ : S90)] : List (S90))) := ⟨_, rfl⟩
       replace H : (if t901.length + y905.length < 8796093022208 then ((some (t901 ++ y905 : List (S90))).bind fun y908 => ((spec_l13Shift.f k l0 t882 t883 1).bind fun t911 => (if y908.length + t911.length < 8796093022208 then ((some (y908 ++ t911 : List (S90))).bind fun y914 => ((spec_l13Shift.f k l0 t883 (l0.length : Int) 0).bind fun t917 => (if y914.length + t917.length < 8796093022208 then (some ((y914 ++ t917), t881)) else (none)))) else (none)))) else (none)) = some (r1, r2) := by first | (rw [hy905]; with_reducible exact H) | (have H2_ := (Option.bind_some _ _).symm.trans H; rw [hy905]; with_reducible exact H2_) | (have H2_ := (Option.bind_some _ _).symm.trans H; with_reducible exact H2_) | with_reducible exact H | (rw [hy905]; exact H) | exact H
       have Ny905 := Aside0.mk hy905
       clear hy905
       by_cases c49 : t901.length + y905.length < 8796093022208
       ·rw [if_pos c49] at H
        have LMc49 := Aside0.mk c49
        clear c49
        obtain ⟨y908, hy908⟩ : ∃ y_ : List (S90), y_ = (t901 ++ y905) := ⟨_, rfl⟩
        replace H : ((spec_l13Shift.f k l0 t882 t883 1).bind fun t911 => (if y908.length + t911.length < 8796093022208 then ((some (y908 ++ t911 : List (S90))).bind fun y914 => ((spec_l13Shift.f k l0 t883 (l0.length : Int) 0).bind fun t917 => (if y914.length + t917.length < 8796093022208 then (some ((y914 ++ t917), t881)) else (none)))) else (none))) = some (r1, r2) := by first | (rw [hy908]; with_reducible exact H) | (have H2_ := (Option.bind_some _ _).symm.trans H; rw [hy908]; with_reducible exact H2_) | (have H2_ := (Option.bind_some _ _).symm.trans H; with_reducible exact H2_) | with_reducible exact H | (rw [hy908]; exact H) | exact H
        have Ny908 := Aside0.mk hy908
        clear hy908
        replace H := Option.bind_eq_some_iff.mp H
        obtain ⟨t911, A500, H⟩ := H
        try dsimp only at H
        have A50 := Aside0.mk A500
        clear A500
        by_cases c51 : y908.length + t911.length < 8796093022208
        ·rw [if_pos c51] at H
         have LMc51 := Aside0.mk c51
         clear c51
         obtain ⟨y914, hy914⟩ : ∃ y_ : List (S90), y_ = (y908 ++ t911) := ⟨_, rfl⟩
         replace H : ((spec_l13Shift.f k l0 t883 (l0.length : Int) 0).bind fun t917 => (if y914.length + t917.length < 8796093022208 then (some ((y914 ++ t917), t881)) else (none))) = some (r1, r2) := by first | (rw [hy914]; with_reducible exact H) | (have H2_ := (Option.bind_some _ _).symm.trans H; rw [hy914]; with_reducible exact H2_) | (have H2_ := (Option.bind_some _ _).symm.trans H; with_reducible exact H2_) | with_reducible exact H | (rw [hy914]; exact H) | exact H
         have Ny914 := Aside0.mk hy914
         clear hy914
         replace H := Option.bind_eq_some_iff.mp H
         obtain ⟨t917, A520, H⟩ := H
         try dsimp only at H
         have A52 := Aside0.mk A520
         clear A520
         by_cases c53 : y914.length + t917.length < 8796093022208
         ·rw [if_pos c53] at H
          have LMc53 := Aside0.mk c53
          clear c53
          obtain ⟨y920, hy920⟩ : ∃ y_ : List (S90), y_ = (y914 ++ t917) := ⟨_, rfl⟩
          replace H : (some (y920, t881)) = some (r1, r2) := by first | (rw [hy920]; with_reducible exact H) | (have H2_ := (Option.bind_some _ _).symm.trans H; rw [hy920]; with_reducible exact H2_) | (have H2_ := (Option.bind_some _ _).symm.trans H; with_reducible exact H2_) | with_reducible exact H | (rw [hy920]; exact H) | exact H
          have Ny920 := Aside0.mk hy920
          clear hy920
          simp only [Option.some.injEq, Prod.mk.injEq] at H
          obtain ⟨rfl, rfl⟩ := H
          go_enter Try.func44, Try.ntmps44
          try go_wp2_with (first | ((with_reducible refine gate_dst (N := 3) rfl ?_); refine bx_ 3 #[.int .i64 a1_0, .slice A1_1 l1_1.length c1_1, .int .i64 a1_2, .int .i64 a1_3, .int .i64 a1_4] 67 ?_; intro gb872 hg w54 hbox hb; have BK872 := Aside0.mk (hbox); have GW872 := Aside0.mk ((by rw [hg]; exact (bs_ HB) : w.heap.size ≤ gb872)); have GE872 := Aside0.mk ((by rw [hg]; exact (bs_ HB) : w.heap.size ≤ gb872)); replace HB := tB_ HB hb; clear hb hbox hg) | ((with_reducible refine gate_callee (f := 64) rfl ?_); refine gL_ (some 13) Try.func64 #[.slice A0 l0.length c0] ?_; (with_reducible refine (spec_TreeOk.calls k _ _ l0 true _ (cx_ HR0 HB) HC0.out A3.out).mono ?_); rintro e w55 ⟨rfl, hb⟩; refine ⟨_, rfl, ?_⟩; replace BK872 := tK_ BK872 hb; replace HB := tB_ HB hb; (try clear hb); obtain ⟨hcz56_0, hcz56_1, hcz56_2, hcz56_3, hcz56_4, hfz56_0, hfz56_1, hfz56_2, hfz56_3, hfz56_4⟩ := bk5_ BK872) | ((with_reducible refine gate_callee (f := 60) rfl ?_); refine gL_ (some 19) Try.func60 #[.slice A0 l0.length c0, .slice A1_1 l1_1.length c1_1] ?_; (with_reducible refine (spec_NodeAt.calls k _ _ l0 _ _ l1_1 t877 _ (cx_ HR0 HB) HC0.out (cx_ HR1_1 HB) HC1_1.out A5.out).mono ?_); rintro e w57 ⟨rfl, hb⟩; refine ⟨_, rfl, ?_⟩; replace BK872 := tK_ BK872 hb; replace HB := tB_ HB hb; (try clear hb)) | ((with_reducible refine gate_callee (f := 98) rfl ?_); refine gL_ (some 21) Try.func98 #[.slice A0 l0.length c0] ?_; (with_reducible refine (spec_l3Copy.calls _ _ l0 t878 _ (cx_ HR0 HB) HC0.out A6.out).mono ?_); rintro e w58 ⟨v879, rfl, ho0, hb⟩; refine ⟨_, rfl, ?_⟩; have HO880 := Aside0.mk (Kd.R_lower ho0 (bs_ HB)); replace BK872 := tK_ BK872 hb; replace HB := tB_ HB hb; (try clear hb); (try clear ho0); obtain ⟨hcz59_0, hcz59_1, hcz59_2, hcz59_3, hcz59_4, hfz59_0, hfz59_1, hfz59_2, hfz59_3, hfz59_4⟩ := bk5_ BK872) | ((with_reducible refine gate_callee (f := 99) rfl ?_); refine gL_ (some 26) Try.func99 #[.slice A0 l0.length c0, .agg #[.int .i64 a1_0, .slice A1_1 l1_1.length c1_1, .int .i64 a1_2, .int .i64 a1_3, .int .i64 a1_4], .int .i64 t877] ?_; (with_reducible refine (spec_l13Code.calls k _ _ l0 a1_0 _ _ l1_1 a1_2 a1_3 a1_4 t877 t881 t882 t883 _ (cx_ HR0 HB) HC0.out (cx_ HR1_1 HB) HC1_1.out A7.out).mono ?_); rintro e w60 ⟨rfl, hb⟩; refine ⟨_, rfl, ?_⟩; replace HO880 := tR_ HO880 hb; replace BK872 := tK_ BK872 hb; replace HB := tB_ HB hb; (try clear hb); obtain ⟨hcz61_0, hcz61_1, hcz61_2, hcz61_3, hcz61_4, hfz61_0, hfz61_1, hfz61_2, hfz61_3, hfz61_4⟩ := bk5_ BK872))
          have n0_ := Aside0.mk (Kd.R_drew HO880.out)
          have n1_ := Aside0.mk (blk_drew BK872.out)
          have n2_ := Aside0.mk (below_drew1 HB.out)
          clear HO880
          clear BK872
          clear HB
          have HO880 := n0_
          have BK872 := n1_
          have HB := n2_
          clear n0_ n1_ n2_
          have p904 : 0 ≤ (t877 : Int) := od_
          have q904 : t877 < (l0.length : Int) := od_
          obtain ⟨ad904, e904, hx904_0, hx904_1⟩ := at_T90 HR0.out t877 p904 q904
          have hw904_1 := hx904_1
          have hw904_0 := hx904_0
          cases e904
          replace hx904_0 := ce_ HB hx904_0
          replace hx904_1 := ce_ HB hx904_1
          replace p904 := eq_true p904
          replace q904 := eq_true q904
          refine start_ (n := 15) (S := fun w' => w'.cell? ⟨gb872, 0, none⟩ = some (.int .i64 a1_0) ∧ w'.cell? ⟨gb872, 1, none⟩ = some (.slice A1_1 l1_1.length c1_1) ∧ w'.cell? ⟨gb872, 2, none⟩ = some (.int .i64 a1_2) ∧ w'.cell? ⟨gb872, 3, none⟩ = some (.int .i64 a1_3) ∧ w'.cell? ⟨gb872, 4, none⟩ = some (.int .i64 a1_4) ∧ w'.cell? (ad904.add ((t877).toNat * 2)) = some (.int .i64 ((rd_T90 l0 t877).f0)) ∧ w'.cell? ⟨(ad904.add ((t877).toNat * 2)).block, (ad904.add ((t877).toNat * 2)).off + 1, none⟩ = some (.int .i64 ((rd_T90 l0 t877).f1))) (ds := []) (ba_ 15 0) (by kernel_rfl) rfl rfl ⟨(blk_cell BK872.out 0).trans rfl, (blk_cell BK872.out 1).trans rfl, (blk_cell BK872.out 2).trans rfl, (blk_cell BK872.out 3).trans rfl, (blk_cell BK872.out 4).trans rfl, (ce_ HB hw904_0), (ce_ HB hw904_1)⟩ (fun hHeld => ?_); refine with_tabW spec_ApplyOp.tab16 spec_ApplyOp.bits16 (fun HT_ HW_ => ?_)
          generalize w60.drew = w62 at HO880 BK872 HB hx904_0 hx904_1 hHeld ⊢
          refine pu_ 0 (some 68) (ba_ 15 1) rfl rfl (any_of HT_.out (by kernel_rfl)) ?_
          refine pu_ 1 (some 69) (ba_ 15 3) rfl rfl (any_of HT_.out (by kernel_rfl)) ?_
          refine pu_ 3 (some 71) (ba_ 15 11) rfl rfl (any_of HT_.out (by kernel_rfl)) ?_
          refine pu_ 5 (some 73) (ba_ 15 43) rfl rfl (any_of HT_.out (by kernel_rfl)) ?_
          refine pu_ 6 (some 74) (ba_ 15 107) rfl rfl (any_of HT_.out (by kernel_rfl)) ?_
          refine pu_ 7 (some 75) (ba_ 15 235) rfl rfl (any_of HT_.out (by kernel_rfl)) ?_
          refine pu_ 8 (some 76) (ba_ 15 491) rfl rfl (any_of HT_.out (by kernel_rfl)) ?_
          refine ta_ 4 (some 72) (ba_ 15 507) rfl rfl (take_ofW HT_.out HW_.out (by kernel_rfl)) hHeld (by rintro w' ⟨s0, s1, s2, s3, s4, s5, s6⟩; go_simp; with_reducible rfl) ?_
          refine ta_ 9 (some 77) (ba_ 15 1019) rfl rfl (take_ofW HT_.out HW_.out (by kernel_rfl)) hHeld (by rintro w' ⟨s0, s1, s2, s3, s4, s5, s6⟩; go_simp; with_reducible rfl) ?_
          refine pu_ 10 (some 78) (ba_ 15 2043) rfl rfl (any_of HT_.out (by kernel_rfl)) ?_
          refine pu_ 11 (some 79) (ba_ 15 4091) rfl rfl (any_of HT_.out (by kernel_rfl)) ?_
          refine join_ (σ := Value × Value) 2 (ba_ 15 8191) (fun s_ => [(70, s_.1), (80, s_.2)]) (fun s_ w' => (w'.cell? ⟨gb872, 0, none⟩ = some (.int .i64 a1_0) ∧ w'.cell? ⟨gb872, 1, none⟩ = some (.slice A1_1 l1_1.length c1_1) ∧ w'.cell? ⟨gb872, 2, none⟩ = some (.int .i64 a1_2) ∧ w'.cell? ⟨gb872, 3, none⟩ = some (.int .i64 a1_3) ∧ w'.cell? ⟨gb872, 4, none⟩ = some (.int .i64 a1_4) ∧ w'.cell? (ad904.add ((t877).toNat * 2)) = some (.int .i64 ((rd_T90 l0 t877).f0)) ∧ w'.cell? ⟨(ad904.add ((t877).toNat * 2)).block, (ad904.add ((t877).toNat * 2)).off + 1, none⟩ = some (.int .i64 ((rd_T90 l0 t877).f1))) ∧ (Kd.R k90 90 w' w.heap.size (fun k_ => some k_ ≠ (s_.1 : Value).ownBlock ∧ some k_ ≠ (s_.2 : Value).ownBlock) v879 t878) ∧ (Kd.R k90 90 w' w.heap.size (fun k_ => some k_ ≠ (v879 : Value).ownBlock ∧ some k_ ≠ (s_.2 : Value).ownBlock) s_.1 t901) ∧ (Kd.R k90 90 w' w.heap.size (fun k_ => some k_ ≠ (v879 : Value).ownBlock ∧ some k_ ≠ (s_.1 : Value).ownBlock) s_.2 y905) ∧ (w'.heap[gb872]? = some (.cells #[.int .i64 a1_0, .slice A1_1 l1_1.length c1_1, .int .i64 a1_2, .int .i64 a1_3, .int .i64 a1_4] 67 (0, 0))) ∧ (Below w.heap.size w w')) ?_ ?_
          rotate_left
          ·intro hCont
           refine two_ (i := 2) (j := 12) (Ni := some 70) (Nj := some 80) (ba_ 15 4095) (ba_ 15 8187) rfl rfl rfl rfl (two_of HT_.out (by kernel_rfl)) (by decide) (by decide) (fun K hK => ?_) (fun K hK => ?_)
           ·skip
            refine goes_ Try.func101 (by kernel_rfl) rfl #[.slice (some ad904) l0.length c0, .int .i64 0, .int .i64 t882, .int .i64 0] (by rfl) rfl rfl (by (try simp only [List.map_toArray, List.map_cons, List.map_nil]); first | done | rfl | (simp only [List.length_drop, List.length_take]; rfl)) ?_
            with_reducible refine (spec_l13Shift.calls k _ _ l0 0 t882 0 t901 _ ?side1 ?side2 A46.out).mono ?_
            (case side1 => exact cx_ HR0 HB)
            (case side2 => exact HC0.out)
            rintro e w63 ⟨v902, rfl, ho0, hb⟩
            refine ⟨_, rfl, ?_⟩
            have n0_ := Aside0.mk (Kd.R_elder' (rx_ HO880.out) (Kd.R_base ho0) hb)
            have n1_ := Aside0.mk (Kd.R_lower (Kd.R_new' ho0 (Kd.R_lt (rx_ HO880.out))) (bs_ HB))
            have n2_ := tK_ BK872 hb
            have n3_ := tB_ HB hb
            clear HO880
            clear BK872
            clear HB
            have HO880 := n0_
            have HO903 := n1_
            have BK872 := n2_
            have HB := n3_
            clear n0_ n1_ n2_ n3_
            (try clear hb)
            (try clear hb2)
            (try clear hk)
            (try clear hi)
            (try clear ho0)
            refine hK.out _ _ ⟨(blk_cell BK872.out 0).trans rfl, (blk_cell BK872.out 1).trans rfl, (blk_cell BK872.out 2).trans rfl, (blk_cell BK872.out 3).trans rfl, (blk_cell BK872.out 4).trans rfl, (ce_ HB hw904_0), (ce_ HB hw904_1)⟩ (fun hHeld => ?_)
            clear hK K
            refine norm_ (a' := ?_) ?_ ?_
            rotate_left
            ·show Act.put _ (some 70) _ = _
             simp only [Act.put, List.setIfInBounds_toArray, List.set_cons_zero, List.set_cons_succ, i64_w, i32_w]
             rfl
            refine one_ (i := 12) (N := some 80) (ba_ 15 8191) rfl rfl (one_of HT_.out (by kernel_rfl)) (by decide) (fun K hK => ?_)
            refine Kd.R_lit_step k90 _ 90 ?hg (N := 80) ?hd (xs := ([(⟨a1_2, wrap64 (((rd_T90 l0 t877).f1) + 1)⟩ : S90)] : List (S90))) (inner := [.int .i64 a1_2, .int .i64 (wrap64 (((rd_T90 l0 t877).f1) + 1))]) (ok := fun _ => True) (okp := fun _ => True) ?hr ?hp (fun _ hk => hk) trivial (Below.refl _ _) (Nat.le_refl _) (by simp) ?_; (case hd => rfl); (case hg => rfl); (case hr => first | (go_simp; done) | (go_simp; rfl)); (case hp => exact (Reps.c2 (show Kd.M k90 _ _ _ (⟨a1_2, wrap64 (((rd_T90 l0 t877).f1) + 1)⟩ : S90) [.int .i64 a1_2, .int .i64 (wrap64 (((rd_T90 l0 t877).f1) + 1))] from (k90_mkM _ _ _ (⟨a1_2, wrap64 (((rd_T90 l0 t877).f1) + 1)⟩ : S90) )) (Reps.none _ _)))
            intro v906 w64 ho65 hb hg_ hnew_
            clear hg_ hnew_
            (first | rw [← Ny905.out] at ho65 | (simp only [Int.reduceToNat] at ho65; rw [← Ny905.out] at ho65))
            have n0_ := Aside0.mk (Kd.R_elder' (rx_ HO880.out) (Kd.R_base ho65) hb)
            have n1_ := Aside0.mk (Kd.R_elder' (rx_ HO903.out) (Kd.R_base ho65) hb)
            have n2_ := Aside0.mk (Kd.R_lower (Kd.R_new' (Kd.R_new' ho65 (Kd.R_lt (rx_ HO880.out))) (Kd.R_lt (rx_ HO903.out))) (bs_ HB))
            have n3_ := tK_ BK872 hb
            have n4_ := tB_ HB hb
            clear HO880
            clear HO903
            clear BK872
            clear HB
            have HO880 := n0_
            have HO903 := n1_
            have HO907 := n2_
            have BK872 := n3_
            have HB := n4_
            clear n0_ n1_ n2_ n3_ n4_
            clear hb ho65
            refine hK.out _ _ ⟨(blk_cell BK872.out 0).trans rfl, (blk_cell BK872.out 1).trans rfl, (blk_cell BK872.out 2).trans rfl, (blk_cell BK872.out 3).trans rfl, (blk_cell BK872.out 4).trans rfl, (ce_ HB hw904_0), (ce_ HB hw904_1)⟩ (fun hHeld => ?_)
            clear hK K
            refine norm_ (a' := ?_) ?_ ?_
            rotate_left
            ·show Act.put _ (some 80) _ = _
             simp only [Act.put, List.setIfInBounds_toArray, List.set_cons_zero, List.set_cons_succ, i64_w, i32_w]
             rfl
            exact norm_ (by simp only [putAll, Act.put, List.setIfInBounds_toArray, List.set_cons_zero, List.set_cons_succ]) (hCont (v902, v906) _ ⟨hHeld, (rx_ (Kd.R_mono HO880.out (fun _ hk => ⟨hk.1.2, hk.2⟩))), (rx_ (Kd.R_mono HO903.out (fun _ hk => ⟨hk.1.2, hk.2⟩))), (rx_ (Kd.R_mono HO907.out (fun _ hk => ⟨hk.1.2, hk.2⟩))), (kx_ BK872.out), ((bl_ HB).out)⟩)
           ·skip
            refine Kd.R_lit_step k90 _ 90 ?hg (N := 80) ?hd (xs := ([(⟨a1_2, wrap64 (((rd_T90 l0 t877).f1) + 1)⟩ : S90)] : List (S90))) (inner := [.int .i64 a1_2, .int .i64 (wrap64 (((rd_T90 l0 t877).f1) + 1))]) (ok := fun _ => True) (okp := fun _ => True) ?hr ?hp (fun _ hk => hk) trivial (Below.refl _ _) (Nat.le_refl _) (by simp) ?_; (case hd => rfl); (case hg => rfl); (case hr => first | (go_simp; done) | (go_simp; rfl)); (case hp => exact (Reps.c2 (show Kd.M k90 _ _ _ (⟨a1_2, wrap64 (((rd_T90 l0 t877).f1) + 1)⟩ : S90) [.int .i64 a1_2, .int .i64 (wrap64 (((rd_T90 l0 t877).f1) + 1))] from (k90_mkM _ _ _ (⟨a1_2, wrap64 (((rd_T90 l0 t877).f1) + 1)⟩ : S90) )) (Reps.none _ _)))
            intro v906 w63 ho64 hb hg_ hnew_
            clear hg_ hnew_
            (first | rw [← Ny905.out] at ho64 | (simp only [Int.reduceToNat] at ho64; rw [← Ny905.out] at ho64))
            have n0_ := Aside0.mk (Kd.R_elder' (rx_ HO880.out) (Kd.R_base ho64) hb)
            have n1_ := Aside0.mk (Kd.R_lower (Kd.R_new' ho64 (Kd.R_lt (rx_ HO880.out))) (bs_ HB))
            have n2_ := tK_ BK872 hb
            have n3_ := tB_ HB hb
            clear HO880
            clear BK872
            clear HB
            have HO880 := n0_
            have HO907 := n1_
            have BK872 := n2_
            have HB := n3_
            clear n0_ n1_ n2_ n3_
            clear hb ho64
            refine hK.out _ _ ⟨(blk_cell BK872.out 0).trans rfl, (blk_cell BK872.out 1).trans rfl, (blk_cell BK872.out 2).trans rfl, (blk_cell BK872.out 3).trans rfl, (blk_cell BK872.out 4).trans rfl, (ce_ HB hw904_0), (ce_ HB hw904_1)⟩ (fun hHeld => ?_)
            clear hK K
            refine norm_ (a' := ?_) ?_ ?_
            rotate_left
            ·show Act.put _ (some 80) _ = _
             simp only [Act.put, List.setIfInBounds_toArray, List.set_cons_zero, List.set_cons_succ, i64_w, i32_w]
             rfl
            refine one_ (i := 2) (N := some 70) (ba_ 15 8191) rfl rfl (one_of HT_.out (by kernel_rfl)) (by decide) (fun K hK => ?_)
            refine goes_ Try.func101 (by kernel_rfl) rfl #[.slice (some ad904) l0.length c0, .int .i64 0, .int .i64 t882, .int .i64 0] (by rfl) rfl rfl (by (try simp only [List.map_toArray, List.map_cons, List.map_nil]); first | done | rfl | (simp only [List.length_drop, List.length_take]; rfl)) ?_
            with_reducible refine (spec_l13Shift.calls k _ _ l0 0 t882 0 t901 _ ?side1 ?side2 A46.out).mono ?_
            (case side1 => exact cx_ HR0 HB)
            (case side2 => exact HC0.out)
            rintro e w65 ⟨v902, rfl, ho0, hb⟩
            refine ⟨_, rfl, ?_⟩
            have n0_ := Aside0.mk (Kd.R_elder' (rx_ HO880.out) (Kd.R_base ho0) hb)
            have n1_ := Aside0.mk (Kd.R_elder' (rx_ HO907.out) (Kd.R_base ho0) hb)
            have n2_ := Aside0.mk (Kd.R_lower (Kd.R_new' (Kd.R_new' ho0 (Kd.R_lt (rx_ HO880.out))) (Kd.R_lt (rx_ HO907.out))) (bs_ HB))
            have n3_ := tK_ BK872 hb
            have n4_ := tB_ HB hb
            clear HO880
            clear HO907
            clear BK872
            clear HB
            have HO880 := n0_
            have HO907 := n1_
            have HO903 := n2_
            have BK872 := n3_
            have HB := n4_
            clear n0_ n1_ n2_ n3_ n4_
            (try clear hb)
            (try clear hb2)
            (try clear hk)
            (try clear hi)
            (try clear ho0)
            refine hK.out _ _ ⟨(blk_cell BK872.out 0).trans rfl, (blk_cell BK872.out 1).trans rfl, (blk_cell BK872.out 2).trans rfl, (blk_cell BK872.out 3).trans rfl, (blk_cell BK872.out 4).trans rfl, (ce_ HB hw904_0), (ce_ HB hw904_1)⟩ (fun hHeld => ?_)
            clear hK K
            refine norm_ (a' := ?_) ?_ ?_
            rotate_left
            ·show Act.put _ (some 70) _ = _
             simp only [Act.put, List.setIfInBounds_toArray, List.set_cons_zero, List.set_cons_succ, i64_w, i32_w]
             rfl
            exact norm_ (by simp only [putAll, Act.put, List.setIfInBounds_toArray, List.set_cons_zero, List.set_cons_succ]) (hCont (v902, v906) _ ⟨hHeld, (rx_ (Kd.R_mono HO880.out (fun _ hk => ⟨hk.2, hk.1.2⟩))), (rx_ (Kd.R_mono HO903.out (fun _ hk => ⟨hk.1.2, hk.2⟩))), (rx_ (Kd.R_mono HO907.out (fun _ hk => ⟨hk.1.2, hk.2⟩))), (kx_ BK872.out), ((bl_ HB).out)⟩)
          rintro ⟨v902, v906⟩ w66 ⟨hS_, h0_, h1_, h2_, h3_, h4_⟩
          have n0_ : Aside0 (Kd.R k90 90 w66 w.heap.size (fun k_ => some k_ ≠ (v902 : Value).ownBlock ∧ some k_ ≠ (v906 : Value).ownBlock) v879 t878) := ⟨h0_⟩
          have n1_ : Aside0 (Kd.R k90 90 w66 w.heap.size (fun k_ => some k_ ≠ (v879 : Value).ownBlock ∧ some k_ ≠ (v906 : Value).ownBlock) v902 t901) := ⟨h1_⟩
          have n2_ : Aside0 (Kd.R k90 90 w66 w.heap.size (fun k_ => some k_ ≠ (v879 : Value).ownBlock ∧ some k_ ≠ (v902 : Value).ownBlock) v906 y905) := ⟨h2_⟩
          have n3_ : Aside0 (w66.heap[gb872]? = some (.cells #[.int .i64 a1_0, .slice A1_1 l1_1.length c1_1, .int .i64 a1_2, .int .i64 a1_3, .int .i64 a1_4] 67 (0, 0))) := ⟨h3_⟩
          have n4_ : Aside0 (Below w.heap.size w w66) := ⟨h4_⟩
          clear HO880
          clear BK872
          clear HB
          clear h0_ h1_ h2_ h3_ h4_
          have HO880 := n0_
          have HO903 := n1_
          have HO907 := n2_
          have BK872 := n3_
          have HB := n4_
          clear n0_ n1_ n2_ n3_ n4_
          have hHeld : w66.cell? ⟨gb872, 0, none⟩ = some (.int .i64 a1_0) ∧ w66.cell? ⟨gb872, 1, none⟩ = some (.slice A1_1 l1_1.length c1_1) ∧ w66.cell? ⟨gb872, 2, none⟩ = some (.int .i64 a1_2) ∧ w66.cell? ⟨gb872, 3, none⟩ = some (.int .i64 a1_3) ∧ w66.cell? ⟨gb872, 4, none⟩ = some (.int .i64 a1_4) ∧ w66.cell? (ad904.add ((t877).toNat * 2)) = some (.int .i64 ((rd_T90 l0 t877).f0)) ∧ w66.cell? ⟨(ad904.add ((t877).toNat * 2)).block, (ad904.add ((t877).toNat * 2)).off + 1, none⟩ = some (.int .i64 ((rd_T90 l0 t877).f1)) := hS_
          obtain ⟨Ao68, co68, eo68⟩ := Kd.R_slice HO907.out
          (first | subst eo68 | (injection eo68 with f1_ f2_ f3_; have f4_ := f1_.symm; have f5_ := f3_.symm; clear f1_ f2_ f3_; subst f4_; subst f5_))
          refine norm_ (a' := ?_) ?_ ?_
          rotate_left
          ·simp only [putAll, Act.put, List.setIfInBounds_toArray, List.set_cons_zero, List.set_cons_succ]
           rfl
          refine one_ (i := 13) (N := some 81) (ba_ 15 16383) rfl rfl (one_of HT_.out (by kernel_rfl)) (by decide) (fun K hK => ?_)
          refine Kd.R_append_rows_step k90 (w0 := w) w.heap.size (by rfl) (.tmp 70) (.tmp 80) 34 90 (.agg #[(.int .i64 0), (.int .i64 0)]) 16 rfl Try.underlying34 info90 rfl (by decide) (by omega) v902 t901 y905 _ _ _ (fun k_ => some k_ ≠ (v879 : Value).ownBlock ∧ some k_ ≠ (.slice Ao68 y905.length co68 : Value).ownBlock) (fun _ => False) rfl rfl ?aO ?aR (fun _ _ h => h) (fun _ h => h.elim) ?aF ?aB ?aS ?aL ?_
          (case aR => exact cc_ (Kd.R_reads' HO907.out).2.2)
          (case aB => exact ((bl_ HB).out))
          (case aF => exact (fun k_ hk => ⟨Kd.fresh' (Kd.R_lt (rx_ HO880.out)) k_ hk, Kd.fresh' (Kd.R_lt (rx_ HO907.out)) k_ hk⟩))
          (case aO => exact (rx_ HO903.out))
          (case aS => exact (bs_ HB))
          (case aL => have := LMc49.out; omega)
          intro v909 w67 ho hb hg hat
          rw [← Ny908.out] at ho
          have n0_ := Aside0.mk (blk_grown (g := gb872) (o := .cells #[.int .i64 a1_0, .slice A1_1 l1_1.length c1_1, .int .i64 a1_2, .int .i64 a1_3, .int .i64 a1_4] 67 (0, 0)) (kx_ BK872.out) hg (Kd.R_ne HO903.out BK872.out (by decide)))
          have n1_ := Aside0.mk (Kd.R_after (ok := (fun k_ => some k_ ≠ (.slice Ao68 y905.length co68 : Value).ownBlock)) (rx_ (Kd.R_mono HO880.out (fun _ hk => ⟨hk.2, hk.1⟩))) hg hat)
          have n2_ := Aside0.mk (Kd.R_after (ok := (fun k_ => some k_ ≠ (v879 : Value).ownBlock)) (rx_ HO907.out) hg hat)
          have n3_ := Aside0.mk (hb)
          have n4_ := Aside0.mk (ho)
          clear BK872
          clear HO880
          clear HO907
          clear HB
          clear HO903
          have BK872 := n0_
          have HO880 := n1_
          have HO907 := n2_
          have HB := n3_
          have HO910 := n4_
          clear n0_ n1_ n2_ n3_ n4_
          clear ho hb hg hat
          refine hK.out _ _ ⟨(blk_cell BK872.out 0).trans rfl, (blk_cell BK872.out 1).trans rfl, (blk_cell BK872.out 2).trans rfl, (blk_cell BK872.out 3).trans rfl, (blk_cell BK872.out 4).trans rfl, (ce_ HB hw904_0), (ce_ HB hw904_1)⟩ (fun hHeld => ?_)
          clear hK K
          refine norm_ (a' := ?_) ?_ ?_
          rotate_left
          ·show Act.put _ (some 81) _ = _
           simp only [Act.put, List.setIfInBounds_toArray, List.set_cons_zero, List.set_cons_succ, i64_w, i32_w]
           rfl
          refine pu_ 14 (some 7) (ba_ 15 32767) rfl rfl (any_of HT_.out (by kernel_rfl)) ?_
          refine done_ (done_of HT_.out (by kernel_rfl)) ?_
          try go_wp2_with (first | ((with_reducible refine gate_callee (f := 101) rfl ?_); refine gL_ (some 86) Try.func101 #[.slice (some ad904) l0.length c0, .int .i64 t882, .int .i64 t883, .int .i64 1] ?_; (with_reducible refine (spec_l13Shift.calls k _ _ l0 t882 t883 1 t911 _ (cx_ HR0 HB) HC0.out A50.out).mono ?_); rintro e w69 ⟨v912, rfl, ho0, hb⟩; refine ⟨_, rfl, ?_⟩; have HO913 := Aside0.mk (Kd.R_lower (Kd.R_new' (Kd.R_new' (Kd.R_new' ho0 (Kd.R_lt (rx_ HO880.out))) (Kd.R_lt (rx_ HO907.out))) (Kd.R_lt (rx_ HO910.out))) (bs_ HB)); replace HO880 := Aside0.mk (Kd.R_elder' (rx_ HO880.out) (Kd.R_base ho0) hb); replace HO907 := Aside0.mk (Kd.R_elder' (rx_ HO907.out) (Kd.R_base ho0) hb); replace HO910 := Aside0.mk (Kd.R_elder' (rx_ HO910.out) (Kd.R_base ho0) hb); replace BK872 := tK_ BK872 hb; replace HB := tB_ HB hb; (try clear hb); (try clear ho0); obtain ⟨Ao71, co71, eo71⟩ := Kd.R_slice HO913.out; subst eo71) | ((with_reducible refine gate_builtin (b := .append) (xs := #[.tmp 82, .tmp 86]) rfl ?_); at_builtin; refine Kd.R_append_rows k90 (w0 := w) w.heap.size rfl (.tmp 82) (.tmp 86) 34 90 (.agg #[(.int .i64 0), (.int .i64 0)]) 16 rfl Try.underlying34 info90 rfl (by decide) (by omega) v909 y908 t911 _ _ _ (fun k_ => some k_ ≠ (v879 : Value).ownBlock ∧ some k_ ≠ (.slice Ao68 y905.length co68 : Value).ownBlock ∧ some k_ ≠ (.slice Ao71 t911.length co71 : Value).ownBlock) (fun _ => False) rfl rfl ?aO ?aR (fun _ _ h => h) (fun _ h => h.elim) ?aF ?aB ?aS ?aL ?_; (case aR => exact cc_ (Kd.R_reads' HO913.out).2.2); (case aB => exact ((bl_ HB).out)); (case aF => exact (fun k_ hk => ⟨Kd.fresh' (Kd.R_lt (rx_ HO880.out)) k_ hk, Kd.fresh' (Kd.R_lt (rx_ HO907.out)) k_ hk, Kd.fresh' (Kd.R_lt (rx_ HO913.out)) k_ hk⟩)); (case aO => exact (rx_ (Kd.R_mono HO910.out (fun _ hk => ⟨hk.1.1, ⟨hk.1.2, hk.2⟩⟩)))); (case aS => exact (bs_ HB)); (case aL => have := LMc51.out; omega); intro v915 w70 ho hb hg hat; rw [← Ny914.out] at ho; replace BK872 := Aside0.mk (blk_grown (g := gb872) (o := .cells #[.int .i64 a1_0, .slice A1_1 l1_1.length c1_1, .int .i64 a1_2, .int .i64 a1_3, .int .i64 a1_4] 67 (0, 0)) (kx_ BK872.out) hg (Kd.R_ne HO910.out BK872.out (by decide))); replace HO880 := Aside0.mk (Kd.R_after (ok := (fun k_ => some k_ ≠ (.slice Ao68 y905.length co68 : Value).ownBlock ∧ some k_ ≠ (.slice Ao71 t911.length co71 : Value).ownBlock)) (rx_ (Kd.R_mono HO880.out (fun _ hk => ⟨⟨hk.1.1, hk.2⟩, hk.1.2⟩))) hg hat); replace HO907 := Aside0.mk (Kd.R_after (ok := (fun k_ => some k_ ≠ (v879 : Value).ownBlock ∧ some k_ ≠ (.slice Ao71 t911.length co71 : Value).ownBlock)) (rx_ (Kd.R_mono HO907.out (fun _ hk => ⟨⟨hk.1.1, hk.2⟩, hk.1.2⟩))) hg hat); replace HO913 := Aside0.mk (Kd.R_after (ok := (fun k_ => some k_ ≠ (v879 : Value).ownBlock ∧ some k_ ≠ (.slice Ao68 y905.length co68 : Value).ownBlock)) (rx_ (Kd.R_mono HO913.out (fun _ hk => ⟨⟨hk.1.1.2, hk.1.2⟩, hk.2⟩))) hg hat); replace HB := Aside0.mk (hb); have HO916 := Aside0.mk (ho); clear HO910; clear ho hb hg hat) | ((with_reducible refine gate_callee (f := 101) rfl ?_); refine gL_ (some 93) Try.func101 #[.slice (some ad904) l0.length c0, .int .i64 t883, .int .i64 (l0.length : Int), .int .i64 0] ?_; (with_reducible refine (spec_l13Shift.calls k _ _ l0 t883 (l0.length : Int) 0 t917 _ (cx_ HR0 HB) HC0.out A52.out).mono ?_); rintro e w72 ⟨v918, rfl, ho0, hb⟩; refine ⟨_, rfl, ?_⟩; have HO919 := Aside0.mk (Kd.R_lower (Kd.R_new' (Kd.R_new' (Kd.R_new' (Kd.R_new' ho0 (Kd.R_lt (rx_ HO880.out))) (Kd.R_lt (rx_ HO907.out))) (Kd.R_lt (rx_ HO913.out))) (Kd.R_lt (rx_ HO916.out))) (bs_ HB)); replace HO880 := Aside0.mk (Kd.R_elder' (rx_ HO880.out) (Kd.R_base ho0) hb); replace HO907 := Aside0.mk (Kd.R_elder' (rx_ HO907.out) (Kd.R_base ho0) hb); replace HO913 := Aside0.mk (Kd.R_elder' (rx_ HO913.out) (Kd.R_base ho0) hb); replace HO916 := Aside0.mk (Kd.R_elder' (rx_ HO916.out) (Kd.R_base ho0) hb); replace BK872 := tK_ BK872 hb; replace HB := tB_ HB hb; (try clear hb); (try clear ho0); obtain ⟨Ao74, co74, eo74⟩ := Kd.R_slice HO919.out; subst eo74) | ((with_reducible refine gate_builtin (b := .append) (xs := #[.tmp 88, .tmp 93]) rfl ?_); at_builtin; refine Kd.R_append_rows k90 (w0 := w) w.heap.size rfl (.tmp 88) (.tmp 93) 34 90 (.agg #[(.int .i64 0), (.int .i64 0)]) 16 rfl Try.underlying34 info90 rfl (by decide) (by omega) v915 y914 t917 _ _ _ (fun k_ => some k_ ≠ (v879 : Value).ownBlock ∧ some k_ ≠ (.slice Ao68 y905.length co68 : Value).ownBlock ∧ some k_ ≠ (.slice Ao71 t911.length co71 : Value).ownBlock ∧ some k_ ≠ (.slice Ao74 t917.length co74 : Value).ownBlock) (fun _ => False) rfl rfl ?aO ?aR (fun _ _ h => h) (fun _ h => h.elim) ?aF ?aB ?aS ?aL ?_; (case aR => exact cc_ (Kd.R_reads' HO919.out).2.2); (case aB => exact ((bl_ HB).out)); (case aF => exact (fun k_ hk => ⟨Kd.fresh' (Kd.R_lt (rx_ HO880.out)) k_ hk, Kd.fresh' (Kd.R_lt (rx_ HO907.out)) k_ hk, Kd.fresh' (Kd.R_lt (rx_ HO913.out)) k_ hk, Kd.fresh' (Kd.R_lt (rx_ HO919.out)) k_ hk⟩)); (case aO => exact (rx_ (Kd.R_mono HO916.out (fun _ hk => ⟨hk.1.1, ⟨hk.1.2.1, ⟨hk.1.2.2, hk.2⟩⟩⟩)))); (case aS => exact (bs_ HB)); (case aL => have := LMc53.out; omega); intro v921 w73 ho hb hg hat; rw [← Ny920.out] at ho; replace BK872 := Aside0.mk (blk_grown (g := gb872) (o := .cells #[.int .i64 a1_0, .slice A1_1 l1_1.length c1_1, .int .i64 a1_2, .int .i64 a1_3, .int .i64 a1_4] 67 (0, 0)) (kx_ BK872.out) hg (Kd.R_ne HO916.out BK872.out (by decide))); replace HO880 := Aside0.mk (Kd.R_after (ok := (fun k_ => some k_ ≠ (.slice Ao68 y905.length co68 : Value).ownBlock ∧ some k_ ≠ (.slice Ao71 t911.length co71 : Value).ownBlock ∧ some k_ ≠ (.slice Ao74 t917.length co74 : Value).ownBlock)) (rx_ (Kd.R_mono HO880.out (fun _ hk => ⟨⟨hk.1.1.1, ⟨hk.1.1.2, hk.2⟩⟩, hk.1.2⟩))) hg hat); replace HO907 := Aside0.mk (Kd.R_after (ok := (fun k_ => some k_ ≠ (v879 : Value).ownBlock ∧ some k_ ≠ (.slice Ao71 t911.length co71 : Value).ownBlock ∧ some k_ ≠ (.slice Ao74 t917.length co74 : Value).ownBlock)) (rx_ (Kd.R_mono HO907.out (fun _ hk => ⟨⟨hk.1.1.1, ⟨hk.1.1.2, hk.2⟩⟩, hk.1.2⟩))) hg hat); replace HO913 := Aside0.mk (Kd.R_after (ok := (fun k_ => some k_ ≠ (v879 : Value).ownBlock ∧ some k_ ≠ (.slice Ao68 y905.length co68 : Value).ownBlock ∧ some k_ ≠ (.slice Ao74 t917.length co74 : Value).ownBlock)) (rx_ (Kd.R_mono HO913.out (fun _ hk => ⟨⟨hk.1.1.1, ⟨hk.1.1.2, hk.2⟩⟩, hk.1.2⟩))) hg hat); replace HO919 := Aside0.mk (Kd.R_after (ok := (fun k_ => some k_ ≠ (v879 : Value).ownBlock ∧ some k_ ≠ (.slice Ao68 y905.length co68 : Value).ownBlock ∧ some k_ ≠ (.slice Ao71 t911.length co71 : Value).ownBlock)) (rx_ (Kd.R_mono HO919.out (fun _ hk => ⟨⟨hk.1.1.1.2, ⟨hk.1.1.2, hk.1.2⟩⟩, hk.2⟩))) hg hat); replace HB := Aside0.mk (hb); have HO922 := Aside0.mk (ho); clear HO916; clear ho hb hg hat))
          go_ret2
          exact ⟨_, ea_, rx_ (Kd.R_mono HO922.out (fun _ hk => trivial)), (bl_ HB).out⟩
         ·rw [if_neg c53] at H
          exact absurd H (by simp)
        ·rw [if_neg c51] at H
         exact absurd H (by simp)
       ·rw [if_neg c49] at H
        exact absurd H (by simp)
      ·rw [if_neg c48] at H
       exact absurd H (by simp)
     ·rw [if_neg c47] at H
      exact absurd H (by simp)
  ·rw [if_neg c8] at H
   have c8b0 : (t881 == 0) = false := beq_eq_false_iff_ne.mpr c8
   have c8b1 : (t881 != 0) = true := bne_iff_ne.mpr c8
   simp only [Option.some.injEq, Prod.mk.injEq] at H
   obtain ⟨rfl, rfl⟩ := H
   go_enter Try.func44, Try.ntmps44
   go_wp2_with (first | ((with_reducible refine gate_dst (N := 3) rfl ?_); refine bx_ 3 #[.int .i64 a1_0, .slice A1_1 l1_1.length c1_1, .int .i64 a1_2, .int .i64 a1_3, .int .i64 a1_4] 67 ?_; intro gb872 hg w75 hbox hb; have BK872 := Aside0.mk (hbox); have GW872 := Aside0.mk ((by rw [hg]; exact (bs_ HB) : w.heap.size ≤ gb872)); have GE872 := Aside0.mk ((by rw [hg]; exact (bs_ HB) : w.heap.size ≤ gb872)); replace HB := tB_ HB hb; clear hb hbox hg) | ((with_reducible refine gate_callee (f := 64) rfl ?_); refine gL_ (some 13) Try.func64 #[.slice A0 l0.length c0] ?_; (with_reducible refine (spec_TreeOk.calls k _ _ l0 true _ (cx_ HR0 HB) HC0.out A3.out).mono ?_); rintro e w76 ⟨rfl, hb⟩; refine ⟨_, rfl, ?_⟩; replace BK872 := tK_ BK872 hb; replace HB := tB_ HB hb; (try clear hb); obtain ⟨hcz77_0, hcz77_1, hcz77_2, hcz77_3, hcz77_4, hfz77_0, hfz77_1, hfz77_2, hfz77_3, hfz77_4⟩ := bk5_ BK872) | ((with_reducible refine gate_callee (f := 60) rfl ?_); refine gL_ (some 19) Try.func60 #[.slice A0 l0.length c0, .slice A1_1 l1_1.length c1_1] ?_; (with_reducible refine (spec_NodeAt.calls k _ _ l0 _ _ l1_1 t877 _ (cx_ HR0 HB) HC0.out (cx_ HR1_1 HB) HC1_1.out A5.out).mono ?_); rintro e w78 ⟨rfl, hb⟩; refine ⟨_, rfl, ?_⟩; replace BK872 := tK_ BK872 hb; replace HB := tB_ HB hb; (try clear hb)) | ((with_reducible refine gate_callee (f := 98) rfl ?_); refine gL_ (some 21) Try.func98 #[.slice A0 l0.length c0] ?_; (with_reducible refine (spec_l3Copy.calls _ _ l0 t878 _ (cx_ HR0 HB) HC0.out A6.out).mono ?_); rintro e w79 ⟨v879, rfl, ho0, hb⟩; refine ⟨_, rfl, ?_⟩; have HO880 := Aside0.mk (Kd.R_lower ho0 (bs_ HB)); replace BK872 := tK_ BK872 hb; replace HB := tB_ HB hb; (try clear hb); (try clear ho0); obtain ⟨hcz80_0, hcz80_1, hcz80_2, hcz80_3, hcz80_4, hfz80_0, hfz80_1, hfz80_2, hfz80_3, hfz80_4⟩ := bk5_ BK872) | ((with_reducible refine gate_callee (f := 99) rfl ?_); refine gL_ (some 26) Try.func99 #[.slice A0 l0.length c0, .agg #[.int .i64 a1_0, .slice A1_1 l1_1.length c1_1, .int .i64 a1_2, .int .i64 a1_3, .int .i64 a1_4], .int .i64 t877] ?_; (with_reducible refine (spec_l13Code.calls k _ _ l0 a1_0 _ _ l1_1 a1_2 a1_3 a1_4 t877 t881 t882 t883 _ (cx_ HR0 HB) HC0.out (cx_ HR1_1 HB) HC1_1.out A7.out).mono ?_); rintro e w81 ⟨rfl, hb⟩; refine ⟨_, rfl, ?_⟩; replace HO880 := tR_ HO880 hb; replace BK872 := tK_ BK872 hb; replace HB := tB_ HB hb; (try clear hb)))
   go_ret2
   exact ⟨_, ea_, rx_ HO880.out, (bl_ HB).out⟩
 ·replace c4 := Bool.eq_false_iff.mpr c4
  subst c4
  have H1 : (some ((([] : List (S90))), 2)) = some (r1, r2) := by rw [if_neg (show ¬ (false = true) by decide)] at H; exact H
  clear H
  have H := H1
  clear H1
  obtain ⟨y874, hy874⟩ : ∃ y_ : List (S90), y_ = (([] : List (S90))) := ⟨_, rfl⟩
  replace H : (some (y874, 2)) = some (r1, r2) := by first | (rw [hy874]; with_reducible exact H) | (have H2_ := (Option.bind_some _ _).symm.trans H; rw [hy874]; with_reducible exact H2_) | (have H2_ := (Option.bind_some _ _).symm.trans H; with_reducible exact H2_) | with_reducible exact H | (rw [hy874]; exact H) | exact H
  have Ny874 := Aside0.mk hy874
  clear hy874
  simp only [Option.some.injEq, Prod.mk.injEq] at H
  obtain ⟨rfl, rfl⟩ := H
  go_enter Try.func44, Try.ntmps44
  go_wp2_with (first | ((with_reducible refine gate_dst (N := 3) rfl ?_); refine bx_ 3 #[.int .i64 a1_0, .slice A1_1 l1_1.length c1_1, .int .i64 a1_2, .int .i64 a1_3, .int .i64 a1_4] 67 ?_; intro gb872 hg w82 hbox hb; have BK872 := Aside0.mk (hbox); have GW872 := Aside0.mk ((by rw [hg]; exact (bs_ HB) : w.heap.size ≤ gb872)); have GE872 := Aside0.mk ((by rw [hg]; exact (bs_ HB) : w.heap.size ≤ gb872)); replace HB := tB_ HB hb; clear hb hbox hg) | ((with_reducible refine gate_callee (f := 64) rfl ?_); refine gL_ (some 13) Try.func64 #[.slice A0 l0.length c0] ?_; (with_reducible refine (spec_TreeOk.calls k _ _ l0 false _ (cx_ HR0 HB) HC0.out A3.out).mono ?_); rintro e w83 ⟨rfl, hb⟩; refine ⟨_, rfl, ?_⟩; replace BK872 := tK_ BK872 hb; replace HB := tB_ HB hb; (try clear hb)) | ((with_reducible refine gate_dst (N := 15) rfl ?_); refine Kd.R_lit k90 _ 90 ?hg (N := 15) ?hd (xs := ([] : List (S90))) (inner := []) (ok := fun _ => True) (okp := fun _ => True) ?hr ?hp (fun _ hk => hk) trivial (Below.refl _ _) (Nat.le_refl _) (by simp) ?_; (case hd => rfl); (case hg => rfl); (case hr => first | (go_simp; done) | (go_simp; rfl)); (case hp => exact (Reps.none _ _)); intro v875 w84 ho85 hb hg_ hnew_; clear hg_ hnew_; (first | rw [← Ny874.out] at ho85 | (simp only [Int.reduceToNat] at ho85; rw [← Ny874.out] at ho85)); have HO876 := Aside0.mk (Kd.R_lower ho85 (bs_ HB)); replace BK872 := tK_ BK872 hb; replace HB := tB_ HB hb; clear hb ho85))
  go_ret2
  exact ⟨_, ea_, rx_ HO876.out, (bl_ HB).out⟩
end Go.Proofs.Ytbifdckfglejkaa.X
namespace Go.Proofs.Ytbifdckfglejkaa.X
open Go.RowKit Go.Proofs.YtbifdckfglejkaaW.PrintWords Go.Proofs.YtbifdckfglejkaaW.PrintLast Go.Proofs.YtbifdckfglejkaaW.PrintMore
attribute [local go_sem] max2_int min2_int max_two min_two max_three min_three max_four min_four   -- for this text's walks alone
set_option linter.unusedVariables false
set_option linter.unusedSimpArgs false
mutual
def spec_ScriptCost.j0 : Nat → List (S90) → List (S67) → Bool → List Int → List Int → List Int → Option (Int)
 | 0, _, _, _, _, _, _ => none
 | k + 1, x0, x1, x20, x1119000, x1119001, x1119002 => if x20 = true then (some (-1)) else ((spec_l3Copy.f x0).bind fun t1121 => (spec_ScriptCost.l0 k x1 0 t1121 0 x1119000 x1119001 x1119002))
def spec_ScriptCost.l0 : Nat → List (S67) → Int → List (S90) → Int → List Int → List Int → List Int → Option (Int)
 | 0, _, _, _, _, _, _, _ => none
 | k + 1, x1, x7, x8, x9, x1119000, x1119001, x1119002 => if x9 < (x1.length : Int) then (if 0 ≤ x9 then ((spec_ApplyOp.f k x8 ((rd_T67 x1 x9).f0) ((rd_T67 x1 x9).f1) ((rd_T67 x1 x9).f2) ((rd_T67 x1 x9).f3) ((rd_T67 x1 x9).f4)).bind fun bt1125 => (if bt1125.2 = 0 then ((spec_NodeAt.f k x8 ((rd_T67 x1 x9).f1)).bind fun t1130 => (if ((rd_T67 x1 x9).f0) = 1 then (if 0 ≤ t1130 then (if t1130 < (x8.length : Int) then ((spec_RelCost.f k x1119000 x1119001 x1119002 ((rd_T90 x8 t1130).f0) ((rd_T67 x1 x9).f2)).bind fun t1134 => (spec_ScriptCost.l0 k x1 (wrap64 (x7 + t1134)) bt1125.1 (wrap64 (x9 + 1)) x1119000 x1119001 x1119002)) else (none)) else (none)) else (if ((rd_T67 x1 x9).f0) = 2 then (if 0 ≤ t1130 then (if t1130 < (x8.length : Int) then ((spec_DelCost.f k x1119000 x1119001 x1119002 ((rd_T90 x8 t1130).f0)).bind fun t1136 => (spec_ScriptCost.l0 k x1 (wrap64 (x7 + t1136)) bt1125.1 (wrap64 (x9 + 1)) x1119000 x1119001 x1119002)) else (none)) else (none)) else ((spec_InsCost.f k x1119000 x1119001 x1119002 ((rd_T67 x1 x9).f2)).bind fun t1138 => (spec_ScriptCost.l0 k x1 (wrap64 (x7 + t1138)) bt1125.1 (wrap64 (x9 + 1)) x1119000 x1119001 x1119002))))) else (some (-1)))) else (none)) else (some x7)
end
def spec_ScriptCost.f (k : Nat) (l0 : List (S90)) (l1 : List (S67)) (l2_0 : List Int) (l2_1 : List Int) (l2_2 : List Int) : Option (Int) := (spec_TreeOk.f k l0).bind fun t1119 => (if t1119 = true then ((spec_CostOk.f k l2_0 l2_1 l2_2).bind fun t1120 => (spec_ScriptCost.j0 k l0 l1 (!t1120) l2_0 l2_1 l2_2)) else (spec_ScriptCost.j0 k l0 l1 true l2_0 l2_1 l2_2))
def spec_ScriptCost.T13 : Bool × List (List Nat × List Nat) := (true, [([], []), ([], []), ([], []), ([], []), ([2, 3], [2, 3]), ([4], [4]), ([5], [5]), ([1, 6], [1, 6]), ([0, 7], [0, 7]), ([8, 7, 0, 1, 2, 3, 4, 5, 6, 7, 8], [0, 8])])
def spec_ScriptCost.B13 : List Nat := [0, 0, 0, 0, 12, 28, 60, 126, 255, 511]
theorem spec_ScriptCost.tab13 : rtab .any (opsOf Try.f55 13) = spec_ScriptCost.T13 := by kernel_rfl
theorem spec_ScriptCost.bits13 : waitsOk spec_ScriptCost.T13.2 spec_ScriptCost.B13 = true := by kernel_rfl
def spec_ScriptCost.T15 : Bool × List (List Nat × List Nat) := (true, [([], []), ([], []), ([], []), ([], []), ([2, 3], [2, 3]), ([4], [4]), ([5], [5]), ([], []), ([], []), ([7, 8], [7, 8]), ([9], [9]), ([10], [10]), ([1, 6, 11], [1, 6, 11]), ([0, 12], [0, 12]), ([13, 12, 0, 1, 2, 3, 4, 5, 6, 7, 8, 9, 10, 11, 12, 13], [0, 13])])
def spec_ScriptCost.B15 : List Nat := [0, 0, 0, 0, 12, 28, 60, 0, 0, 384, 896, 1920, 4094, 8191, 16383]
theorem spec_ScriptCost.tab15 : rtab .any (opsOf Try.f55 15) = spec_ScriptCost.T15 := by kernel_rfl
theorem spec_ScriptCost.bits15 : waitsOk spec_ScriptCost.T15.2 spec_ScriptCost.B15 = true := by kernel_rfl
def spec_ScriptCost.T17 : Bool × List (List Nat × List Nat) := (true, [([], []), ([], []), ([], []), ([], []), ([2, 3], [2, 3]), ([4], [4]), ([5], [5]), ([1, 6], [1, 6]), ([0, 7], [0, 7]), ([8, 7, 0, 1, 2, 3, 4, 5, 6, 7, 8], [0, 8])])
def spec_ScriptCost.B17 : List Nat := [0, 0, 0, 0, 12, 28, 60, 126, 255, 511]
theorem spec_ScriptCost.tab17 : rtab .any (opsOf Try.f55 17) = spec_ScriptCost.T17 := by kernel_rfl
theorem spec_ScriptCost.bits17 : waitsOk spec_ScriptCost.T17.2 spec_ScriptCost.B17 = true := by kernel_rfl
set_option maxHeartbeats 8000000 in
set_option maxRecDepth 100000 in
theorem spec_ScriptCost.calls (k : Nat) (A0 : Option Addr) (c0 : Nat) (l0 : List (S90)) (A1 : Option Addr) (c1 : Nat) (l1 : List (S67)) (A2_0 : Option Addr) (c2_0 : Nat) (l2_0 : List Int) (A2_1 : Option Addr) (c2_1 : Nat) (l2_1 : List Int) (A2_2 : Option Addr) (c2_2 : Nat) (l2_2 : List Int) (r : Int) (w : World) (hr0 : Kd.C k90 w A0 l0.length l0) (hc0 : l0.length ≤ c0) (hr1 : Kd.C k67 w A1 l1.length l1) (hc1 : l1.length ≤ c1) (hr2_0 : Kd.C (Kd.int .i64) w A2_0 l2_0.length l2_0) (hc2_0 : l2_0.length ≤ c2_0) (hr2_1 : Kd.C (Kd.int .i64) w A2_1 l2_1.length l2_1) (hc2_1 : l2_1.length ≤ c2_1) (hr2_2 : Kd.C (Kd.int .i64) w A2_2 l2_2.length l2_2) (hc2_2 : l2_2.length ≤ c2_2) (h : spec_ScriptCost.f k l0 l1 l2_0 l2_1 l2_2 = some r) :
  Calls Try.prog 55 #[.slice A0 l0.length c0, .slice A1 l1.length c1, .agg #[.slice A2_0 l2_0.length c2_0, .slice A2_1 l2_1.length c2_1, .slice A2_2 l2_2.length c2_2]] w fun e w' => e = .returned (.int .i64 r) ∧ Below w.heap.size w w' := by
 have hu53 := Try.underlying53
 have hu67 := Try.underlying67
 have HR0 := Aside0.mk hr0
 have HC0 := Aside0.mk hc0
 clear hr0 hc0
 have HR1 := Aside0.mk hr1
 have HC1 := Aside0.mk hc1
 clear hr1 hc1
 have HR2_0 := Aside0.mk hr2_0
 have HC2_0 := Aside0.mk hc2_0
 clear hr2_0 hc2_0
 have HR2_1 := Aside0.mk hr2_1
 have HC2_1 := Aside0.mk hc2_1
 clear hr2_1 hc2_1
 have HR2_2 := Aside0.mk hr2_2
 have HC2_2 := Aside0.mk hc2_2
 clear hr2_2 hc2_2
 have HB := Aside0.mk (Below.refl w.heap.size w)
 have H : ((spec_TreeOk.f k l0).bind fun t1119 => (if t1119 = true then ((spec_CostOk.f k l2_0 l2_1 l2_2).bind fun t1120 => (spec_ScriptCost.j0 k l0 l1 (!t1120) l2_0 l2_1 l2_2)) else (spec_ScriptCost.j0 k l0 l1 true l2_0 l2_1 l2_2))) = some r := h
 clear h
 have HC4 := Aside0.mk H
 clear H
 go_enter Try.func55, Try.ntmps55
 go_upto_region 1 with (first | ((with_reducible refine gate_dst (N := 5) rfl ?_); refine bx_ 5 #[.slice A2_0 l2_0.length c2_0, .slice A2_1 l2_1.length c2_1, .slice A2_2 l2_2.length c2_2] 53 ?_; intro gb1118 hg w5 hbox hb; have BK1118 := Aside0.mk (hbox); have GW1118 := Aside0.mk ((by rw [hg]; exact (bs_ HB) : w.heap.size ≤ gb1118)); have GE1118 := Aside0.mk ((by rw [hg]; exact (bs_ HB) : w.heap.size ≤ gb1118)); replace HB := tB_ HB hb; clear hb hbox hg))
 (try simp only [Act.put, List.setIfInBounds_toArray, List.set_cons_zero, List.set_cons_succ])
 go_cut [20] (fun v20 wc => ∃ (kq : Nat) (x20_3 : Bool), v20 = .bool x20_3 ∧ Aside0 (spec_ScriptCost.j0 kq l0 l1 x20_3 l2_0 l2_1 l2_2 = some r) ∧ Aside0 (kq ≤ k) ∧ Aside0 (wc.heap[gb1118]? = some (.cells #[(.slice A2_0 l2_0.length c2_0), (.slice A2_1 l2_1.length c2_1), (.slice A2_2 l2_2.length c2_2)] 53 (0, 0))) ∧ Aside0 (Below w.heap.size w wc))
 case first =>
  have H := HC4.out
  clear HC4
  replace H := Option.bind_eq_some_iff.mp H
  obtain ⟨t1119, A60, H⟩ := H
  try dsimp only at H
  have A6 := Aside0.mk A60
  clear A60
  by_cases c7 : t1119 = true
  ·subst c7
   have H1 : ((spec_CostOk.f k l2_0 l2_1 l2_2).bind fun t1120 => (spec_ScriptCost.j0 k l0 l1 (!t1120) l2_0 l2_1 l2_2)) = some r := by rw [if_pos rfl] at H; exact H
   clear H
   have H := H1
   clear H1
   replace H := Option.bind_eq_some_iff.mp H
   obtain ⟨t1120, A80, H⟩ := H
   replace H : (spec_ScriptCost.j0 k l0 l1 (!t1120) l2_0 l2_1 l2_2) = some r := H
   have A8 := Aside0.mk A80
   clear A80
   have H' := Aside0.mk H
   clear H
   go_wp2_with (first | ((with_reducible refine gate_callee (f := 64) rfl ?_); refine gL_ (some 14) Try.func64 #[.slice A0 l0.length c0] ?_; (with_reducible refine (spec_TreeOk.calls k _ _ l0 true _ (cx_ HR0 HB) HC0.out A6.out).mono ?_); rintro e w9 ⟨rfl, hb⟩; refine ⟨_, rfl, ?_⟩; replace BK1118 := tK_ BK1118 hb; replace HB := tB_ HB hb; (try clear hb); obtain ⟨hcz10_0, hcz10_1, hcz10_2, hfz10_0, hfz10_1, hfz10_2⟩ := bk3_ BK1118) | (go_at_call 81; (with_reducible refine (spec_CostOk.calls k _ _ l2_0 _ _ l2_1 _ _ l2_2 t1120 _ (cx_ HR2_0 HB) HC2_0.out (cx_ HR2_1 HB) HC2_1.out (cx_ HR2_2 HB) HC2_2.out A8.out).mono ?_); rintro e w11 ⟨rfl, hb⟩; replace BK1118 := tK_ BK1118 hb; replace HB := tB_ HB hb; (try clear hb)))
   go_meet
   case rel => exact ⟨_, (!t1120), eb_, H', ⟨by first | omega | exact Nat.le_refl _⟩, ⟨kx_ BK1118.out⟩, bl_ HB⟩
  ·replace c7 := Bool.eq_false_iff.mpr c7
   subst c7
   have H1 : (spec_ScriptCost.j0 k l0 l1 true l2_0 l2_1 l2_2) = some r := by rw [if_neg (show ¬ (false = true) by decide)] at H; exact H
   clear H
   have H := H1
   clear H1
   have H' := Aside0.mk H
   clear H
   go_wp2_with (first | ((with_reducible refine gate_callee (f := 64) rfl ?_); refine gL_ (some 14) Try.func64 #[.slice A0 l0.length c0] ?_; (with_reducible refine (spec_TreeOk.calls k _ _ l0 false _ (cx_ HR0 HB) HC0.out A6.out).mono ?_); rintro e w12 ⟨rfl, hb⟩; refine ⟨_, rfl, ?_⟩; replace BK1118 := tK_ BK1118 hb; replace HB := tB_ HB hb; (try clear hb)))
   go_meet
   case rel => exact ⟨_, (true), eb_, H', ⟨by first | omega | exact Nat.le_refl _⟩, ⟨kx_ BK1118.out⟩, bl_ HB⟩
 case rest =>
  clear HC4
  try clear c1
  try clear c2
  try clear p2
  try clear c5
  try clear c6
  try clear c7
  try clear hcz10_0
  try clear hcz10_1
  try clear hcz10_2
  try clear hfz10_0
  try clear hfz10_1
  try clear hfz10_2
  obtain ⟨kq, x20_3, rfl, HA, HJ3, BK1118, HB⟩ := hcut
  cases kq with
  | zero => exact absurd HA.out (by simp [spec_ScriptCost.j0])
  | succ kj3 =>
   have H := HA.out
   clear HA
   simp only [spec_ScriptCost.j0] at H
   by_cases c13 : x20_3 = true
   ·subst c13
    have H1 : (some (-1)) = some r := by rw [if_pos rfl] at H; exact H
    clear H
    have H := H1
    clear H1
    obtain rfl := Option.some.inj H
    go_wp2
    go_ret
    exact ⟨ea_, (bl_ HB).out⟩
   ·replace c13 := Bool.eq_false_iff.mpr c13
    subst c13
    have H1 : ((spec_l3Copy.f l0).bind fun t1121 => (spec_ScriptCost.l0 kj3 l1 0 t1121 0 l2_0 l2_1 l2_2)) = some r := by rw [if_neg (show ¬ (false = true) by decide)] at H; exact H
    clear H
    have H := H1
    clear H1
    replace H := Option.bind_eq_some_iff.mp H
    obtain ⟨t1121, A140, H⟩ := H
    replace H : (spec_ScriptCost.l0 kj3 l1 0 t1121 0 l2_0 l2_1 l2_2) = some r := H
    have A14 := Aside0.mk A140
    clear A140
    have H' := Aside0.mk H
    clear H
    go_wp2_with (first | ((with_reducible refine gate_callee (f := 98) rfl ?_); refine gL_ (some 22) Try.func98 #[.slice A0 l0.length c0] ?_; (with_reducible refine (spec_l3Copy.calls _ _ l0 t1121 _ (cx_ HR0 HB) HC0.out A14.out).mono ?_); rintro e w15 ⟨v1122, rfl, ho0, hb⟩; refine ⟨_, rfl, ?_⟩; have HO1123 := Aside0.mk (Kd.R_lower ho0 (bs_ HB)); replace BK1118 := tK_ BK1118 hb; replace HB := tB_ HB hb; (try clear hb); (try clear ho0)))
    go_loopg [7, 8, 9] kj3 (fun kq v7 v8 v9 w' => ∃ (x7_2 : Int) (x8_2 : List (S90)) (x9_2 : Int), v7 = .int .i64 x7_2 ∧ v9 = .int .i64 x9_2 ∧ Aside0 (spec_ScriptCost.l0 kq l1 x7_2 x8_2 x9_2 l2_0 l2_1 l2_2 = some r) ∧ Aside0 (kq ≤ kj3) ∧ Aside0 (Kd.R k90 90 w' w.heap.size (fun _ => True) v8 x8_2) ∧ Aside0 (w'.heap[gb1118]? = some (.cells #[(.slice A2_0 l2_0.length c2_0), (.slice A2_1 l2_1.length c2_1), (.slice A2_2 l2_2.length c2_2)] 53 (0, 0))) ∧ Aside0 (Below w.heap.size w w'))
    case atStart => exact ⟨(0), (t1121), (0), eb_, eb_, H', ⟨Nat.le_refl _⟩, ⟨rx_ HO1123.out⟩, ⟨kx_ BK1118.out⟩, bl_ HB⟩
    case round =>
     clear H'
     try clear c1
     try clear c2
     try clear p2
     try clear c5
     try clear c6
     try clear c7
     try clear c9
     try clear c13
     try clear hcz10_0
     try clear hcz10_1
     try clear hcz10_2
     try clear hfz10_0
     try clear hfz10_1
     try clear hfz10_2
     try clear p2
     obtain ⟨x7_2, x8_2, x9_2, rfl, rfl, HA, HK2, HO_8, BK1118, HB⟩ := hrel
     cases gk with
     | zero => exact absurd HA.out (by simp [spec_ScriptCost.l0])
     | succ k2 =>
      have H := HA.out
      clear HA
      simp only [spec_ScriptCost.l0] at H
      by_cases c16 : x9_2 < (l1.length : Int)
      ·rw [if_pos c16] at H
       have c16b0 : decide (x9_2 < (l1.length : Int)) = true := decide_eq_true c16
       clear c16
       by_cases c17 : 0 ≤ x9_2
       ·rw [if_pos c17] at H
        have c17b0 : decide (0 ≤ x9_2) = true := decide_eq_true c17
        clear c17
        replace H := Option.bind_eq_some_iff.mp H
        obtain ⟨⟨t1125, t1128⟩, A180, H⟩ := H
        try dsimp only at H
        have A18 := Aside0.mk A180
        clear A180
        by_cases c19 : t1128 = 0
        ·rw [if_pos c19] at H
         have c19b0 : (t1128 == 0) = true := beq_iff_eq.mpr c19
         have c19b1 : (t1128 != 0) = false := bne_eq_false_iff_eq.mpr c19
         clear c19
         replace H := Option.bind_eq_some_iff.mp H
         obtain ⟨t1130, A200, H⟩ := H
         try dsimp only at H
         have A20 := Aside0.mk A200
         clear A200
         by_cases c21 : ((rd_T67 l1 x9_2).f0) = 1
         ·rw [if_pos c21] at H
          have c21b0 : (((rd_T67 l1 x9_2).f0) == 1) = true := beq_iff_eq.mpr c21
          have c21b1 : (((rd_T67 l1 x9_2).f0) != 1) = false := bne_eq_false_iff_eq.mpr c21
          clear c21
          by_cases c22 : 0 ≤ t1130
          ·rw [if_pos c22] at H
           have c22b0 : decide (0 ≤ t1130) = true := decide_eq_true c22
           clear c22
           by_cases c23 : t1130 < (x8_2.length : Int)
           ·rw [if_pos c23] at H
            have c23b0 : decide (t1130 < (x8_2.length : Int)) = true := decide_eq_true c23
            clear c23
            replace H := Option.bind_eq_some_iff.mp H
            obtain ⟨t1134, A240, H⟩ := H
            try dsimp only at H
            have A24 := Aside0.mk A240
            clear A240
            have H' := Aside0.mk H
            clear H
            have p1124 : 0 ≤ (x9_2 : Int) := od_
            have q1124 : x9_2 < (l1.length : Int) := od_
            obtain ⟨ad1124, A1124_1, c1124_1, e1124, hx1124_0, hx1124_1, hx1124_2, hx1124_3, hx1124_4, hl1124_1, hi1124_1⟩ := at_T67 HR1.out x9_2 p1124 q1124
            cases e1124
            replace hx1124_0 := ce_ HB hx1124_0
            replace hx1124_1 := ce_ HB hx1124_1
            replace hx1124_2 := ce_ HB hx1124_2
            replace hx1124_3 := ce_ HB hx1124_3
            replace hx1124_4 := ce_ HB hx1124_4
            have HR1124_1 := Aside0.mk hi1124_1
            have HC1124_1 := Aside0.mk hl1124_1
            clear hi1124_1 hl1124_1
            replace p1124 := eq_true p1124
            replace q1124 := eq_true q1124
            obtain ⟨Ao25, co25, eo25⟩ := Kd.R_slice HO_8.out
            subst eo25
            try go_wp2_with (first | ((with_reducible refine gate_callee (f := 44) rfl ?_); refine gL_ (some 35) Try.func44 #[.slice Ao25 x8_2.length co25, .agg #[.int .i64 ((rd_T67 l1 x9_2).f0), .slice A1124_1 ((rd_T67 l1 x9_2).f1).length c1124_1, .int .i64 ((rd_T67 l1 x9_2).f2), .int .i64 ((rd_T67 l1 x9_2).f3), .int .i64 ((rd_T67 l1 x9_2).f4)]] ?_; (with_reducible refine (spec_ApplyOp.calls k2 _ _ x8_2 ((rd_T67 l1 x9_2).f0) _ _ ((rd_T67 l1 x9_2).f1) ((rd_T67 l1 x9_2).f2) ((rd_T67 l1 x9_2).f3) ((rd_T67 l1 x9_2).f4) t1125 t1128 _ (cc_ (Kd.R_reads' HO_8.out).2.2) ((Kd.R_reads' HO_8.out).2.1) (cx_ HR1124_1 HB) HC1124_1.out A18.out).mono ?_); rintro e w26 ⟨v1126, rfl, ho0, hb⟩; refine ⟨_, rfl, ?_⟩; have HO1127 := Aside0.mk (Kd.R_lower (Kd.R_new' ho0 (Kd.R_lt (rx_ HO_8.out))) (bs_ HB)); replace HO_8 := Aside0.mk (Kd.R_elder' (rx_ HO_8.out) (Kd.R_base ho0) hb); replace BK1118 := tK_ BK1118 hb; replace HB := tB_ HB hb; (try clear hb); (try clear ho0); have p1129 : 0 ≤ (x9_2 : Int) := od_; have q1129 : x9_2 < (l1.length : Int) := od_; obtain ⟨ad1129, A1129_1, c1129_1, e1129, hx1129_0, hx1129_1, hx1129_2, hx1129_3, hx1129_4, hl1129_1, hi1129_1⟩ := at_T67 HR1.out x9_2 p1129 q1129; obtain rfl : ad1124 = ad1129 := (by injection e1129); replace hx1129_0 := ce_ HB hx1129_0; replace hx1129_1 := ce_ HB hx1129_1; replace hx1129_2 := ce_ HB hx1129_2; replace hx1129_3 := ce_ HB hx1129_3; replace hx1129_4 := ce_ HB hx1129_4; have HR1129_1 := Aside0.mk hi1129_1; have HC1129_1 := Aside0.mk hl1129_1; clear hi1129_1 hl1129_1; replace p1129 := eq_true p1129; replace q1129 := eq_true q1129) | ((with_reducible refine gate_callee (f := 60) rfl ?_); refine gL_ (some 46) Try.func60 #[.slice Ao25 x8_2.length co25, .slice A1129_1 ((rd_T67 l1 x9_2).f1).length c1129_1] ?_; (with_reducible refine (spec_NodeAt.calls k2 _ _ x8_2 _ _ ((rd_T67 l1 x9_2).f1) t1130 _ (cc_ (Kd.R_reads' HO_8.out).2.2) ((Kd.R_reads' HO_8.out).2.1) (cx_ HR1129_1 HB) HC1129_1.out A20.out).mono ?_); rintro e w27 ⟨rfl, hb⟩; refine ⟨_, rfl, ?_⟩; replace HO_8 := tR_ HO_8 hb; replace HO1127 := tR_ HO1127 hb; replace BK1118 := tK_ BK1118 hb; replace HB := tB_ HB hb; (try clear hb); have p1131 : 0 ≤ (x9_2 : Int) := od_; have q1131 : x9_2 < (l1.length : Int) := od_; obtain ⟨ad1131, A1131_1, c1131_1, e1131, hx1131_0, hx1131_1, hx1131_2, hx1131_3, hx1131_4, hl1131_1, hi1131_1⟩ := at_T67 HR1.out x9_2 p1131 q1131; obtain rfl : ad1124 = ad1131 := (by injection e1131); replace hx1131_0 := ce_ HB hx1131_0; replace hx1131_1 := ce_ HB hx1131_1; replace hx1131_2 := ce_ HB hx1131_2; replace hx1131_3 := ce_ HB hx1131_3; replace hx1131_4 := ce_ HB hx1131_4; have HR1131_1 := Aside0.mk hi1131_1; have HC1131_1 := Aside0.mk hl1131_1; clear hi1131_1 hl1131_1; replace p1131 := eq_true p1131; replace q1131 := eq_true q1131))
            have n0_ := Aside0.mk (Kd.R_drew HO_8.out)
            have n1_ := Aside0.mk (Kd.R_drew HO1127.out)
            have n2_ := Aside0.mk (blk_drew BK1118.out)
            have n3_ := Aside0.mk (below_drew1 HB.out)
            clear HO_8
            clear HO1127
            clear BK1118
            clear HB
            have HO_8 := n0_
            have HO1127 := n1_
            have BK1118 := n2_
            have HB := n3_
            clear n0_ n1_ n2_ n3_
            have p1132 : 0 ≤ (t1130 : Int) := od_
            have q1132 : t1130 < (x8_2.length : Int) := od_
            obtain ⟨ad1132, e1132, hx1132_0, hx1132_1⟩ := at_T90 (Kd.R_reads' HO_8.out).2.2 t1130 p1132 q1132
            cases e1132
            replace p1132 := eq_true p1132
            replace q1132 := eq_true q1132
            have p1133 : 0 ≤ (x9_2 : Int) := od_
            have q1133 : x9_2 < (l1.length : Int) := od_
            obtain ⟨ad1133, A1133_1, c1133_1, e1133, hx1133_0, hx1133_1, hx1133_2, hx1133_3, hx1133_4, hl1133_1, hi1133_1⟩ := at_T67 HR1.out x9_2 p1133 q1133
            have hw1133_4 := hx1133_4
            have hw1133_3 := hx1133_3
            have hw1133_2 := hx1133_2
            have hw1133_1 := hx1133_1
            have hw1133_0 := hx1133_0
            obtain rfl : ad1124 = ad1133 := (by injection e1133)
            replace hx1133_0 := ce_ HB hx1133_0
            replace hx1133_1 := ce_ HB hx1133_1
            replace hx1133_2 := ce_ HB hx1133_2
            replace hx1133_3 := ce_ HB hx1133_3
            replace hx1133_4 := ce_ HB hx1133_4
            have HR1133_1 := Aside0.mk hi1133_1
            have HC1133_1 := Aside0.mk hl1133_1
            clear hi1133_1 hl1133_1
            replace p1133 := eq_true p1133
            replace q1133 := eq_true q1133
            refine start_ (n := 15) (S := fun w' => w'.cell? ⟨gb1118, 0, none⟩ = some (.slice A2_0 l2_0.length c2_0) ∧ w'.cell? ⟨gb1118, 1, none⟩ = some (.slice A2_1 l2_1.length c2_1) ∧ w'.cell? ⟨gb1118, 2, none⟩ = some (.slice A2_2 l2_2.length c2_2) ∧ w'.cell? (ad1132.add ((t1130).toNat * 2)) = some (.int .i64 ((rd_T90 x8_2 t1130).f0)) ∧ w'.cell? ⟨(ad1132.add ((t1130).toNat * 2)).block, (ad1132.add ((t1130).toNat * 2)).off + 1, none⟩ = some (.int .i64 ((rd_T90 x8_2 t1130).f1)) ∧ w'.cell? (ad1124.add ((x9_2).toNat * 5)) = some (.int .i64 ((rd_T67 l1 x9_2).f0)) ∧ w'.cell? ⟨(ad1124.add ((x9_2).toNat * 5)).block, (ad1124.add ((x9_2).toNat * 5)).off + 1, none⟩ = some (.slice A1133_1 ((rd_T67 l1 x9_2).f1).length c1133_1) ∧ w'.cell? ⟨(ad1124.add ((x9_2).toNat * 5)).block, (ad1124.add ((x9_2).toNat * 5)).off + 2, none⟩ = some (.int .i64 ((rd_T67 l1 x9_2).f2)) ∧ w'.cell? ⟨(ad1124.add ((x9_2).toNat * 5)).block, (ad1124.add ((x9_2).toNat * 5)).off + 3, none⟩ = some (.int .i64 ((rd_T67 l1 x9_2).f3)) ∧ w'.cell? ⟨(ad1124.add ((x9_2).toNat * 5)).block, (ad1124.add ((x9_2).toNat * 5)).off + 4, none⟩ = some (.int .i64 ((rd_T67 l1 x9_2).f4))) (ds := []) (ba_ 15 0) (by kernel_rfl) rfl rfl ⟨(blk_cell BK1118.out 0).trans rfl, (blk_cell BK1118.out 1).trans rfl, (blk_cell BK1118.out 2).trans rfl, hx1132_0, hx1132_1, (ce_ HB hw1133_0), (ce_ HB hw1133_1), (ce_ HB hw1133_2), (ce_ HB hw1133_3), (ce_ HB hw1133_4)⟩ (fun hHeld => ?_); refine with_tabW spec_ScriptCost.tab15 spec_ScriptCost.bits15 (fun HT_ HW_ => ?_)
            generalize w27.drew = w28 at HO_8 HO1127 BK1118 HB HR1133_1 hx1132_0 hx1132_1 hx1133_0 hx1133_1 hx1133_2 hx1133_3 hx1133_4 hHeld ⊢
            refine pu_ 0 (some 63) (ba_ 15 1) rfl rfl (any_of HT_.out (by kernel_rfl)) ?_
            refine pu_ 2 (some 65) (ba_ 15 5) rfl rfl (any_of HT_.out (by kernel_rfl)) ?_
            refine pu_ 3 (some 66) (ba_ 15 13) rfl rfl (any_of HT_.out (by kernel_rfl)) ?_
            refine pu_ 4 (some 67) (ba_ 15 29) rfl rfl (any_of HT_.out (by kernel_rfl)) ?_
            refine pu_ 5 (some 68) (ba_ 15 61) rfl rfl (any_of HT_.out (by kernel_rfl)) ?_
            refine pu_ 7 (some 70) (ba_ 15 189) rfl rfl (any_of HT_.out (by kernel_rfl)) ?_
            refine pu_ 8 (some 71) (ba_ 15 445) rfl rfl (any_of HT_.out (by kernel_rfl)) ?_
            refine pu_ 9 (some 72) (ba_ 15 957) rfl rfl (any_of HT_.out (by kernel_rfl)) ?_
            refine pu_ 10 (some 73) (ba_ 15 1981) rfl rfl (any_of HT_.out (by kernel_rfl)) ?_
            refine ta_ 1 (some 64) (ba_ 15 1983) rfl rfl (take_ofW HT_.out HW_.out (by kernel_rfl)) hHeld (by rintro w' ⟨s0, s1, s2, s3, s4, s5, s6, s7, s8, s9⟩; go_simp; with_reducible rfl) ?_
            refine ta_ 6 (some 69) (ba_ 15 2047) rfl rfl (take_ofW HT_.out HW_.out (by kernel_rfl)) hHeld (by rintro w' ⟨s0, s1, s2, s3, s4, s5, s6, s7, s8, s9⟩; go_simp; with_reducible rfl) ?_
            refine ta_ 11 (some 74) (ba_ 15 4095) rfl rfl (take_ofW HT_.out HW_.out (by kernel_rfl)) hHeld (by rintro w' ⟨s0, s1, s2, s3, s4, s5, s6, s7, s8, s9⟩; go_simp; with_reducible rfl) ?_
            refine one_ (i := 12) (N := some 75) (ba_ 15 8191) rfl rfl (one_of HT_.out (by kernel_rfl)) (by decide) (fun K hK => ?_)
            refine goes_ Try.func84 (by kernel_rfl) rfl #[.agg #[.slice A2_0 l2_0.length c2_0, .slice A2_1 l2_1.length c2_1, .slice A2_2 l2_2.length c2_2], .int .i64 ((rd_T90 x8_2 t1130).f0), .int .i64 ((rd_T67 l1 x9_2).f2)] (by rfl) rfl rfl (by (try simp only [List.map_toArray, List.map_cons, List.map_nil]); first | done | rfl | (simp only [List.length_drop, List.length_take]; rfl)) ?_
            with_reducible refine (spec_RelCost.calls k2 _ _ l2_0 _ _ l2_1 _ _ l2_2 ((rd_T90 x8_2 t1130).f0) ((rd_T67 l1 x9_2).f2) t1134 _ ?side1 ?side2 ?side3 ?side4 ?side5 ?side6 A24.out).mono ?_
            (case side1 => exact cx_ HR2_0 HB)
            (case side2 => exact HC2_0.out)
            (case side3 => exact cx_ HR2_1 HB)
            (case side4 => exact HC2_1.out)
            (case side5 => exact cx_ HR2_2 HB)
            (case side6 => exact HC2_2.out)
            rintro e w29 ⟨rfl, hb⟩
            have HS3_ := (hb.cell (World.block_lt_of_cell? _ _ (hHeld.2.2.2.1))).trans (hHeld.2.2.2.1)
            have HS4_ := (hb.cell (World.block_lt_of_cell? _ _ (hHeld.2.2.2.2.1))).trans (hHeld.2.2.2.2.1)
            refine ⟨_, rfl, ?_⟩
            have n0_ := tR_ HO_8 hb
            have n1_ := tR_ HO1127 hb
            have n2_ := tK_ BK1118 hb
            have n3_ := tB_ HB hb
            clear HO_8
            clear HO1127
            clear BK1118
            clear HB
            have HO_8 := n0_
            have HO1127 := n1_
            have BK1118 := n2_
            have HB := n3_
            clear n0_ n1_ n2_ n3_
            (try clear hb)
            (try clear hb2)
            (try clear hk)
            (try clear hi)
            refine hK.out _ _ ⟨(blk_cell BK1118.out 0).trans rfl, (blk_cell BK1118.out 1).trans rfl, (blk_cell BK1118.out 2).trans rfl, HS3_, HS4_, (ce_ HB hw1133_0), (ce_ HB hw1133_1), (ce_ HB hw1133_2), (ce_ HB hw1133_3), (ce_ HB hw1133_4)⟩ (fun hHeld => ?_)
            clear hK K
            refine norm_ (a' := ?_) ?_ ?_
            rotate_left
            ·show Act.put _ (some 75) _ = _
             simp only [Act.put, List.setIfInBounds_toArray, List.set_cons_zero, List.set_cons_succ, i64_w, i32_w]
             rfl
            refine pu_ 13 (some 76) (ba_ 15 16383) rfl rfl (any_of HT_.out (by kernel_rfl)) ?_
            refine pu_ 14 (some 7) (ba_ 15 32767) rfl rfl (any_of HT_.out (by kernel_rfl)) ?_
            refine done_ (done_of HT_.out (by kernel_rfl)) ?_
            try go_wp2
            go_roundg k2
            case measure => have := HJ3.out; have := HK2.out; omega
            case rel => exact ⟨(wrap64 (x7_2 + t1134)), (t1125), (wrap64 (x9_2 + 1)), eb_, eb_, H', ⟨by have := HJ3.out; have := HK2.out; omega⟩, ⟨rx_ (Kd.R_mono HO1127.out (fun _ hk => trivial))⟩, ⟨kx_ BK1118.out⟩, bl_ HB⟩
           ·rw [if_neg c23] at H
            exact absurd H (by simp)
          ·rw [if_neg c22] at H
           exact absurd H (by simp)
         ·rw [if_neg c21] at H
          have c21b0 : (((rd_T67 l1 x9_2).f0) == 1) = false := beq_eq_false_iff_ne.mpr c21
          have c21b1 : (((rd_T67 l1 x9_2).f0) != 1) = true := bne_iff_ne.mpr c21
          by_cases c30 : ((rd_T67 l1 x9_2).f0) = 2
          ·rw [if_pos c30] at H
           have c30b0 : (((rd_T67 l1 x9_2).f0) == 2) = true := beq_iff_eq.mpr c30
           have c30b1 : (((rd_T67 l1 x9_2).f0) != 2) = false := bne_eq_false_iff_eq.mpr c30
           clear c30
           by_cases c31 : 0 ≤ t1130
           ·rw [if_pos c31] at H
            have c31b0 : decide (0 ≤ t1130) = true := decide_eq_true c31
            clear c31
            by_cases c32 : t1130 < (x8_2.length : Int)
            ·rw [if_pos c32] at H
             have c32b0 : decide (t1130 < (x8_2.length : Int)) = true := decide_eq_true c32
             clear c32
             replace H := Option.bind_eq_some_iff.mp H
             obtain ⟨t1136, A330, H⟩ := H
             try dsimp only at H
             have A33 := Aside0.mk A330
             clear A330
             have H' := Aside0.mk H
             clear H
             have p1124 : 0 ≤ (x9_2 : Int) := od_
             have q1124 : x9_2 < (l1.length : Int) := od_
             obtain ⟨ad1124, A1124_1, c1124_1, e1124, hx1124_0, hx1124_1, hx1124_2, hx1124_3, hx1124_4, hl1124_1, hi1124_1⟩ := at_T67 HR1.out x9_2 p1124 q1124
             cases e1124
             replace hx1124_0 := ce_ HB hx1124_0
             replace hx1124_1 := ce_ HB hx1124_1
             replace hx1124_2 := ce_ HB hx1124_2
             replace hx1124_3 := ce_ HB hx1124_3
             replace hx1124_4 := ce_ HB hx1124_4
             have HR1124_1 := Aside0.mk hi1124_1
             have HC1124_1 := Aside0.mk hl1124_1
             clear hi1124_1 hl1124_1
             replace p1124 := eq_true p1124
             replace q1124 := eq_true q1124
             obtain ⟨Ao34, co34, eo34⟩ := Kd.R_slice HO_8.out
             subst eo34
             try go_wp2_with (first | ((with_reducible refine gate_callee (f := 44) rfl ?_); refine gL_ (some 35) Try.func44 #[.slice Ao34 x8_2.length co34, .agg #[.int .i64 ((rd_T67 l1 x9_2).f0), .slice A1124_1 ((rd_T67 l1 x9_2).f1).length c1124_1, .int .i64 ((rd_T67 l1 x9_2).f2), .int .i64 ((rd_T67 l1 x9_2).f3), .int .i64 ((rd_T67 l1 x9_2).f4)]] ?_; (with_reducible refine (spec_ApplyOp.calls k2 _ _ x8_2 ((rd_T67 l1 x9_2).f0) _ _ ((rd_T67 l1 x9_2).f1) ((rd_T67 l1 x9_2).f2) ((rd_T67 l1 x9_2).f3) ((rd_T67 l1 x9_2).f4) t1125 t1128 _ (cc_ (Kd.R_reads' HO_8.out).2.2) ((Kd.R_reads' HO_8.out).2.1) (cx_ HR1124_1 HB) HC1124_1.out A18.out).mono ?_); rintro e w35 ⟨v1126, rfl, ho0, hb⟩; refine ⟨_, rfl, ?_⟩; have HO1127 := Aside0.mk (Kd.R_lower (Kd.R_new' ho0 (Kd.R_lt (rx_ HO_8.out))) (bs_ HB)); replace HO_8 := Aside0.mk (Kd.R_elder' (rx_ HO_8.out) (Kd.R_base ho0) hb); replace BK1118 := tK_ BK1118 hb; replace HB := tB_ HB hb; (try clear hb); (try clear ho0); have p1129 : 0 ≤ (x9_2 : Int) := od_; have q1129 : x9_2 < (l1.length : Int) := od_; obtain ⟨ad1129, A1129_1, c1129_1, e1129, hx1129_0, hx1129_1, hx1129_2, hx1129_3, hx1129_4, hl1129_1, hi1129_1⟩ := at_T67 HR1.out x9_2 p1129 q1129; obtain rfl : ad1124 = ad1129 := (by injection e1129); replace hx1129_0 := ce_ HB hx1129_0; replace hx1129_1 := ce_ HB hx1129_1; replace hx1129_2 := ce_ HB hx1129_2; replace hx1129_3 := ce_ HB hx1129_3; replace hx1129_4 := ce_ HB hx1129_4; have HR1129_1 := Aside0.mk hi1129_1; have HC1129_1 := Aside0.mk hl1129_1; clear hi1129_1 hl1129_1; replace p1129 := eq_true p1129; replace q1129 := eq_true q1129) | ((with_reducible refine gate_callee (f := 60) rfl ?_); refine gL_ (some 46) Try.func60 #[.slice Ao34 x8_2.length co34, .slice A1129_1 ((rd_T67 l1 x9_2).f1).length c1129_1] ?_; (with_reducible refine (spec_NodeAt.calls k2 _ _ x8_2 _ _ ((rd_T67 l1 x9_2).f1) t1130 _ (cc_ (Kd.R_reads' HO_8.out).2.2) ((Kd.R_reads' HO_8.out).2.1) (cx_ HR1129_1 HB) HC1129_1.out A20.out).mono ?_); rintro e w36 ⟨rfl, hb⟩; refine ⟨_, rfl, ?_⟩; replace HO_8 := tR_ HO_8 hb; replace HO1127 := tR_ HO1127 hb; replace BK1118 := tK_ BK1118 hb; replace HB := tB_ HB hb; (try clear hb); have p1131 : 0 ≤ (x9_2 : Int) := od_; have q1131 : x9_2 < (l1.length : Int) := od_; obtain ⟨ad1131, A1131_1, c1131_1, e1131, hx1131_0, hx1131_1, hx1131_2, hx1131_3, hx1131_4, hl1131_1, hi1131_1⟩ := at_T67 HR1.out x9_2 p1131 q1131; obtain rfl : ad1124 = ad1131 := (by injection e1131); replace hx1131_0 := ce_ HB hx1131_0; replace hx1131_1 := ce_ HB hx1131_1; replace hx1131_2 := ce_ HB hx1131_2; replace hx1131_3 := ce_ HB hx1131_3; replace hx1131_4 := ce_ HB hx1131_4; have HR1131_1 := Aside0.mk hi1131_1; have HC1131_1 := Aside0.mk hl1131_1; clear hi1131_1 hl1131_1; replace p1131 := eq_true p1131; replace q1131 := eq_true q1131))
             have n0_ := Aside0.mk (Kd.R_drew HO_8.out)
             have n1_ := Aside0.mk (Kd.R_drew HO1127.out)
             have n2_ := Aside0.mk (blk_drew BK1118.out)
             have n3_ := Aside0.mk (below_drew1 HB.out)
             clear HO_8
             clear HO1127
             clear BK1118
             clear HB
             have HO_8 := n0_
             have HO1127 := n1_
             have BK1118 := n2_
             have HB := n3_
             clear n0_ n1_ n2_ n3_
             have p1135 : 0 ≤ (t1130 : Int) := od_
             have q1135 : t1130 < (x8_2.length : Int) := od_
             obtain ⟨ad1135, e1135, hx1135_0, hx1135_1⟩ := at_T90 (Kd.R_reads' HO_8.out).2.2 t1130 p1135 q1135
             cases e1135
             replace p1135 := eq_true p1135
             replace q1135 := eq_true q1135
             refine start_ (n := 10) (S := fun w' => w'.cell? ⟨gb1118, 0, none⟩ = some (.slice A2_0 l2_0.length c2_0) ∧ w'.cell? ⟨gb1118, 1, none⟩ = some (.slice A2_1 l2_1.length c2_1) ∧ w'.cell? ⟨gb1118, 2, none⟩ = some (.slice A2_2 l2_2.length c2_2) ∧ w'.cell? (ad1135.add ((t1130).toNat * 2)) = some (.int .i64 ((rd_T90 x8_2 t1130).f0)) ∧ w'.cell? ⟨(ad1135.add ((t1130).toNat * 2)).block, (ad1135.add ((t1130).toNat * 2)).off + 1, none⟩ = some (.int .i64 ((rd_T90 x8_2 t1130).f1))) (ds := []) (ba_ 10 0) (by kernel_rfl) rfl rfl ⟨(blk_cell BK1118.out 0).trans rfl, (blk_cell BK1118.out 1).trans rfl, (blk_cell BK1118.out 2).trans rfl, hx1135_0, hx1135_1⟩ (fun hHeld => ?_); refine with_tabW spec_ScriptCost.tab17 spec_ScriptCost.bits17 (fun HT_ HW_ => ?_)
             generalize w36.drew = w37 at HO_8 HO1127 BK1118 HB hx1135_0 hx1135_1 hHeld ⊢
             refine pu_ 0 (some 79) (ba_ 10 1) rfl rfl (any_of HT_.out (by kernel_rfl)) ?_
             refine pu_ 2 (some 81) (ba_ 10 5) rfl rfl (any_of HT_.out (by kernel_rfl)) ?_
             refine pu_ 3 (some 82) (ba_ 10 13) rfl rfl (any_of HT_.out (by kernel_rfl)) ?_
             refine pu_ 4 (some 83) (ba_ 10 29) rfl rfl (any_of HT_.out (by kernel_rfl)) ?_
             refine pu_ 5 (some 84) (ba_ 10 61) rfl rfl (any_of HT_.out (by kernel_rfl)) ?_
             refine ta_ 1 (some 80) (ba_ 10 63) rfl rfl (take_ofW HT_.out HW_.out (by kernel_rfl)) hHeld (by rintro w' ⟨s0, s1, s2, s3, s4⟩; go_simp; with_reducible rfl) ?_
             refine ta_ 6 (some 85) (ba_ 10 127) rfl rfl (take_ofW HT_.out HW_.out (by kernel_rfl)) hHeld (by rintro w' ⟨s0, s1, s2, s3, s4⟩; go_simp; with_reducible rfl) ?_
             refine one_ (i := 7) (N := some 86) (ba_ 10 255) rfl rfl (one_of HT_.out (by kernel_rfl)) (by decide) (fun K hK => ?_)
             refine goes_ Try.func83 (by kernel_rfl) rfl #[.agg #[.slice A2_0 l2_0.length c2_0, .slice A2_1 l2_1.length c2_1, .slice A2_2 l2_2.length c2_2], .int .i64 ((rd_T90 x8_2 t1130).f0)] (by rfl) rfl rfl (by (try simp only [List.map_toArray, List.map_cons, List.map_nil]); first | done | rfl | (simp only [List.length_drop, List.length_take]; rfl)) ?_
             with_reducible refine (spec_DelCost.calls k2 _ _ l2_0 _ _ l2_1 _ _ l2_2 ((rd_T90 x8_2 t1130).f0) t1136 _ ?side1 ?side2 ?side3 ?side4 ?side5 ?side6 A33.out).mono ?_
             (case side1 => exact cx_ HR2_0 HB)
             (case side2 => exact HC2_0.out)
             (case side3 => exact cx_ HR2_1 HB)
             (case side4 => exact HC2_1.out)
             (case side5 => exact cx_ HR2_2 HB)
             (case side6 => exact HC2_2.out)
             rintro e w38 ⟨rfl, hb⟩
             have HS3_ := (hb.cell (World.block_lt_of_cell? _ _ (hHeld.2.2.2.1))).trans (hHeld.2.2.2.1)
             have HS4_ := (hb.cell (World.block_lt_of_cell? _ _ (hHeld.2.2.2.2))).trans (hHeld.2.2.2.2)
             refine ⟨_, rfl, ?_⟩
             have n0_ := tR_ HO_8 hb
             have n1_ := tR_ HO1127 hb
             have n2_ := tK_ BK1118 hb
             have n3_ := tB_ HB hb
             clear HO_8
             clear HO1127
             clear BK1118
             clear HB
             have HO_8 := n0_
             have HO1127 := n1_
             have BK1118 := n2_
             have HB := n3_
             clear n0_ n1_ n2_ n3_
             (try clear hb)
             (try clear hb2)
             (try clear hk)
             (try clear hi)
             refine hK.out _ _ ⟨(blk_cell BK1118.out 0).trans rfl, (blk_cell BK1118.out 1).trans rfl, (blk_cell BK1118.out 2).trans rfl, HS3_, HS4_⟩ (fun hHeld => ?_)
             clear hK K
             refine norm_ (a' := ?_) ?_ ?_
             rotate_left
             ·show Act.put _ (some 86) _ = _
              simp only [Act.put, List.setIfInBounds_toArray, List.set_cons_zero, List.set_cons_succ, i64_w, i32_w]
              rfl
             refine pu_ 8 (some 87) (ba_ 10 511) rfl rfl (any_of HT_.out (by kernel_rfl)) ?_
             refine pu_ 9 (some 7) (ba_ 10 1023) rfl rfl (any_of HT_.out (by kernel_rfl)) ?_
             refine done_ (done_of HT_.out (by kernel_rfl)) ?_
             try go_wp2
             go_roundg k2
             case measure => have := HJ3.out; have := HK2.out; omega
             case rel => exact ⟨(wrap64 (x7_2 + t1136)), (t1125), (wrap64 (x9_2 + 1)), eb_, eb_, H', ⟨by have := HJ3.out; have := HK2.out; omega⟩, ⟨rx_ (Kd.R_mono HO1127.out (fun _ hk => trivial))⟩, ⟨kx_ BK1118.out⟩, bl_ HB⟩
            ·rw [if_neg c32] at H
             exact absurd H (by simp)
           ·rw [if_neg c31] at H
            exact absurd H (by simp)
          ·rw [if_neg c30] at H
           have c30b0 : (((rd_T67 l1 x9_2).f0) == 2) = false := beq_eq_false_iff_ne.mpr c30
           have c30b1 : (((rd_T67 l1 x9_2).f0) != 2) = true := bne_iff_ne.mpr c30
           replace H := Option.bind_eq_some_iff.mp H
           obtain ⟨t1138, A390, H⟩ := H
           try dsimp only at H
           have A39 := Aside0.mk A390
           clear A390
           have H' := Aside0.mk H
           clear H
           have p1124 : 0 ≤ (x9_2 : Int) := od_
           have q1124 : x9_2 < (l1.length : Int) := od_
           obtain ⟨ad1124, A1124_1, c1124_1, e1124, hx1124_0, hx1124_1, hx1124_2, hx1124_3, hx1124_4, hl1124_1, hi1124_1⟩ := at_T67 HR1.out x9_2 p1124 q1124
           cases e1124
           replace hx1124_0 := ce_ HB hx1124_0
           replace hx1124_1 := ce_ HB hx1124_1
           replace hx1124_2 := ce_ HB hx1124_2
           replace hx1124_3 := ce_ HB hx1124_3
           replace hx1124_4 := ce_ HB hx1124_4
           have HR1124_1 := Aside0.mk hi1124_1
           have HC1124_1 := Aside0.mk hl1124_1
           clear hi1124_1 hl1124_1
           replace p1124 := eq_true p1124
           replace q1124 := eq_true q1124
           obtain ⟨Ao40, co40, eo40⟩ := Kd.R_slice HO_8.out
           subst eo40
           try go_wp2_with (first | ((with_reducible refine gate_callee (f := 44) rfl ?_); refine gL_ (some 35) Try.func44 #[.slice Ao40 x8_2.length co40, .agg #[.int .i64 ((rd_T67 l1 x9_2).f0), .slice A1124_1 ((rd_T67 l1 x9_2).f1).length c1124_1, .int .i64 ((rd_T67 l1 x9_2).f2), .int .i64 ((rd_T67 l1 x9_2).f3), .int .i64 ((rd_T67 l1 x9_2).f4)]] ?_; (with_reducible refine (spec_ApplyOp.calls k2 _ _ x8_2 ((rd_T67 l1 x9_2).f0) _ _ ((rd_T67 l1 x9_2).f1) ((rd_T67 l1 x9_2).f2) ((rd_T67 l1 x9_2).f3) ((rd_T67 l1 x9_2).f4) t1125 t1128 _ (cc_ (Kd.R_reads' HO_8.out).2.2) ((Kd.R_reads' HO_8.out).2.1) (cx_ HR1124_1 HB) HC1124_1.out A18.out).mono ?_); rintro e w41 ⟨v1126, rfl, ho0, hb⟩; refine ⟨_, rfl, ?_⟩; have HO1127 := Aside0.mk (Kd.R_lower (Kd.R_new' ho0 (Kd.R_lt (rx_ HO_8.out))) (bs_ HB)); replace HO_8 := Aside0.mk (Kd.R_elder' (rx_ HO_8.out) (Kd.R_base ho0) hb); replace BK1118 := tK_ BK1118 hb; replace HB := tB_ HB hb; (try clear hb); (try clear ho0); have p1129 : 0 ≤ (x9_2 : Int) := od_; have q1129 : x9_2 < (l1.length : Int) := od_; obtain ⟨ad1129, A1129_1, c1129_1, e1129, hx1129_0, hx1129_1, hx1129_2, hx1129_3, hx1129_4, hl1129_1, hi1129_1⟩ := at_T67 HR1.out x9_2 p1129 q1129; obtain rfl : ad1124 = ad1129 := (by injection e1129); replace hx1129_0 := ce_ HB hx1129_0; replace hx1129_1 := ce_ HB hx1129_1; replace hx1129_2 := ce_ HB hx1129_2; replace hx1129_3 := ce_ HB hx1129_3; replace hx1129_4 := ce_ HB hx1129_4; have HR1129_1 := Aside0.mk hi1129_1; have HC1129_1 := Aside0.mk hl1129_1; clear hi1129_1 hl1129_1; replace p1129 := eq_true p1129; replace q1129 := eq_true q1129) | ((with_reducible refine gate_callee (f := 60) rfl ?_); refine gL_ (some 46) Try.func60 #[.slice Ao40 x8_2.length co40, .slice A1129_1 ((rd_T67 l1 x9_2).f1).length c1129_1] ?_; (with_reducible refine (spec_NodeAt.calls k2 _ _ x8_2 _ _ ((rd_T67 l1 x9_2).f1) t1130 _ (cc_ (Kd.R_reads' HO_8.out).2.2) ((Kd.R_reads' HO_8.out).2.1) (cx_ HR1129_1 HB) HC1129_1.out A20.out).mono ?_); rintro e w42 ⟨rfl, hb⟩; refine ⟨_, rfl, ?_⟩; replace HO_8 := tR_ HO_8 hb; replace HO1127 := tR_ HO1127 hb; replace BK1118 := tK_ BK1118 hb; replace HB := tB_ HB hb; (try clear hb); have p1131 : 0 ≤ (x9_2 : Int) := od_; have q1131 : x9_2 < (l1.length : Int) := od_; obtain ⟨ad1131, A1131_1, c1131_1, e1131, hx1131_0, hx1131_1, hx1131_2, hx1131_3, hx1131_4, hl1131_1, hi1131_1⟩ := at_T67 HR1.out x9_2 p1131 q1131; obtain rfl : ad1124 = ad1131 := (by injection e1131); replace hx1131_0 := ce_ HB hx1131_0; replace hx1131_1 := ce_ HB hx1131_1; replace hx1131_2 := ce_ HB hx1131_2; replace hx1131_3 := ce_ HB hx1131_3; replace hx1131_4 := ce_ HB hx1131_4; have HR1131_1 := Aside0.mk hi1131_1; have HC1131_1 := Aside0.mk hl1131_1; clear hi1131_1 hl1131_1; replace p1131 := eq_true p1131; replace q1131 := eq_true q1131))
           have n0_ := Aside0.mk (Kd.R_drew HO_8.out)
           have n1_ := Aside0.mk (Kd.R_drew HO1127.out)
           have n2_ := Aside0.mk (blk_drew BK1118.out)
           have n3_ := Aside0.mk (below_drew1 HB.out)
           clear HO_8
           clear HO1127
           clear BK1118
           clear HB
           have HO_8 := n0_
           have HO1127 := n1_
           have BK1118 := n2_
           have HB := n3_
           clear n0_ n1_ n2_ n3_
           have p1137 : 0 ≤ (x9_2 : Int) := od_
           have q1137 : x9_2 < (l1.length : Int) := od_
           obtain ⟨ad1137, A1137_1, c1137_1, e1137, hx1137_0, hx1137_1, hx1137_2, hx1137_3, hx1137_4, hl1137_1, hi1137_1⟩ := at_T67 HR1.out x9_2 p1137 q1137
           have hw1137_4 := hx1137_4
           have hw1137_3 := hx1137_3
           have hw1137_2 := hx1137_2
           have hw1137_1 := hx1137_1
           have hw1137_0 := hx1137_0
           obtain rfl : ad1124 = ad1137 := (by injection e1137)
           replace hx1137_0 := ce_ HB hx1137_0
           replace hx1137_1 := ce_ HB hx1137_1
           replace hx1137_2 := ce_ HB hx1137_2
           replace hx1137_3 := ce_ HB hx1137_3
           replace hx1137_4 := ce_ HB hx1137_4
           have HR1137_1 := Aside0.mk hi1137_1
           have HC1137_1 := Aside0.mk hl1137_1
           clear hi1137_1 hl1137_1
           replace p1137 := eq_true p1137
           replace q1137 := eq_true q1137
           refine start_ (n := 10) (S := fun w' => w'.cell? ⟨gb1118, 0, none⟩ = some (.slice A2_0 l2_0.length c2_0) ∧ w'.cell? ⟨gb1118, 1, none⟩ = some (.slice A2_1 l2_1.length c2_1) ∧ w'.cell? ⟨gb1118, 2, none⟩ = some (.slice A2_2 l2_2.length c2_2) ∧ w'.cell? (ad1124.add ((x9_2).toNat * 5)) = some (.int .i64 ((rd_T67 l1 x9_2).f0)) ∧ w'.cell? ⟨(ad1124.add ((x9_2).toNat * 5)).block, (ad1124.add ((x9_2).toNat * 5)).off + 1, none⟩ = some (.slice A1137_1 ((rd_T67 l1 x9_2).f1).length c1137_1) ∧ w'.cell? ⟨(ad1124.add ((x9_2).toNat * 5)).block, (ad1124.add ((x9_2).toNat * 5)).off + 2, none⟩ = some (.int .i64 ((rd_T67 l1 x9_2).f2)) ∧ w'.cell? ⟨(ad1124.add ((x9_2).toNat * 5)).block, (ad1124.add ((x9_2).toNat * 5)).off + 3, none⟩ = some (.int .i64 ((rd_T67 l1 x9_2).f3)) ∧ w'.cell? ⟨(ad1124.add ((x9_2).toNat * 5)).block, (ad1124.add ((x9_2).toNat * 5)).off + 4, none⟩ = some (.int .i64 ((rd_T67 l1 x9_2).f4))) (ds := []) (ba_ 10 0) (by kernel_rfl) rfl rfl ⟨(blk_cell BK1118.out 0).trans rfl, (blk_cell BK1118.out 1).trans rfl, (blk_cell BK1118.out 2).trans rfl, (ce_ HB hw1137_0), (ce_ HB hw1137_1), (ce_ HB hw1137_2), (ce_ HB hw1137_3), (ce_ HB hw1137_4)⟩ (fun hHeld => ?_); refine with_tabW spec_ScriptCost.tab13 spec_ScriptCost.bits13 (fun HT_ HW_ => ?_)
           generalize w42.drew = w43 at HO_8 HO1127 BK1118 HB HR1137_1 hx1137_0 hx1137_1 hx1137_2 hx1137_3 hx1137_4 hHeld ⊢
           refine pu_ 0 (some 52) (ba_ 10 1) rfl rfl (any_of HT_.out (by kernel_rfl)) ?_
           refine pu_ 2 (some 54) (ba_ 10 5) rfl rfl (any_of HT_.out (by kernel_rfl)) ?_
           refine pu_ 3 (some 55) (ba_ 10 13) rfl rfl (any_of HT_.out (by kernel_rfl)) ?_
           refine pu_ 4 (some 56) (ba_ 10 29) rfl rfl (any_of HT_.out (by kernel_rfl)) ?_
           refine pu_ 5 (some 57) (ba_ 10 61) rfl rfl (any_of HT_.out (by kernel_rfl)) ?_
           refine ta_ 1 (some 53) (ba_ 10 63) rfl rfl (take_ofW HT_.out HW_.out (by kernel_rfl)) hHeld (by rintro w' ⟨s0, s1, s2, s3, s4, s5, s6, s7⟩; go_simp; with_reducible rfl) ?_
           refine ta_ 6 (some 58) (ba_ 10 127) rfl rfl (take_ofW HT_.out HW_.out (by kernel_rfl)) hHeld (by rintro w' ⟨s0, s1, s2, s3, s4, s5, s6, s7⟩; go_simp; with_reducible rfl) ?_
           refine one_ (i := 7) (N := some 59) (ba_ 10 255) rfl rfl (one_of HT_.out (by kernel_rfl)) (by decide) (fun K hK => ?_)
           refine goes_ Try.func86 (by kernel_rfl) rfl #[.agg #[.slice A2_0 l2_0.length c2_0, .slice A2_1 l2_1.length c2_1, .slice A2_2 l2_2.length c2_2], .int .i64 ((rd_T67 l1 x9_2).f2)] (by rfl) rfl rfl (by (try simp only [List.map_toArray, List.map_cons, List.map_nil]); first | done | rfl | (simp only [List.length_drop, List.length_take]; rfl)) ?_
           with_reducible refine (spec_InsCost.calls k2 _ _ l2_0 _ _ l2_1 _ _ l2_2 ((rd_T67 l1 x9_2).f2) t1138 _ ?side1 ?side2 ?side3 ?side4 ?side5 ?side6 A39.out).mono ?_
           (case side1 => exact cx_ HR2_0 HB)
           (case side2 => exact HC2_0.out)
           (case side3 => exact cx_ HR2_1 HB)
           (case side4 => exact HC2_1.out)
           (case side5 => exact cx_ HR2_2 HB)
           (case side6 => exact HC2_2.out)
           rintro e w44 ⟨rfl, hb⟩
           refine ⟨_, rfl, ?_⟩
           have n0_ := tR_ HO_8 hb
           have n1_ := tR_ HO1127 hb
           have n2_ := tK_ BK1118 hb
           have n3_ := tB_ HB hb
           clear HO_8
           clear HO1127
           clear BK1118
           clear HB
           have HO_8 := n0_
           have HO1127 := n1_
           have BK1118 := n2_
           have HB := n3_
           clear n0_ n1_ n2_ n3_
           (try clear hb)
           (try clear hb2)
           (try clear hk)
           (try clear hi)
           refine hK.out _ _ ⟨(blk_cell BK1118.out 0).trans rfl, (blk_cell BK1118.out 1).trans rfl, (blk_cell BK1118.out 2).trans rfl, (ce_ HB hw1137_0), (ce_ HB hw1137_1), (ce_ HB hw1137_2), (ce_ HB hw1137_3), (ce_ HB hw1137_4)⟩ (fun hHeld => ?_)
           clear hK K
           refine norm_ (a' := ?_) ?_ ?_
           rotate_left
           ·show Act.put _ (some 59) _ = _
            simp only [Act.put, List.setIfInBounds_toArray, List.set_cons_zero, List.set_cons_succ, i64_w, i32_w]
            rfl
           refine pu_ 8 (some 60) (ba_ 10 511) rfl rfl (any_of HT_.out (by kernel_rfl)) ?_
           refine pu_ 9 (some 7) (ba_ 10 1023) rfl rfl (any_of HT_.out (by kernel_rfl)) ?_
           refine done_ (done_of HT_.out (by kernel_rfl)) ?_
           try go_wp2
           go_roundg k2
           case measure => have := HJ3.out; have := HK2.out; omega
           case rel => exact ⟨(wrap64 (x7_2 + t1138)), (t1125), (wrap64 (x9_2 + 1)), eb_, eb_, H', ⟨by have := HJ3.out; have := HK2.out; omega⟩, ⟨rx_ (Kd.R_mono HO1127.out (fun _ hk => trivial))⟩, ⟨kx_ BK1118.out⟩, bl_ HB⟩
        ·rw [if_neg c19] at H
         have c19b0 : (t1128 == 0) = false := beq_eq_false_iff_ne.mpr c19
         have c19b1 : (t1128 != 0) = true := bne_iff_ne.mpr c19
         obtain rfl := Option.some.inj H
         have p1124 : 0 ≤ (x9_2 : Int) := od_
         have q1124 : x9_2 < (l1.length : Int) := od_
         obtain ⟨ad1124, A1124_1, c1124_1, e1124, hx1124_0, hx1124_1, hx1124_2, hx1124_3, hx1124_4, hl1124_1, hi1124_1⟩ := at_T67 HR1.out x9_2 p1124 q1124
         cases e1124
         replace hx1124_0 := ce_ HB hx1124_0
         replace hx1124_1 := ce_ HB hx1124_1
         replace hx1124_2 := ce_ HB hx1124_2
         replace hx1124_3 := ce_ HB hx1124_3
         replace hx1124_4 := ce_ HB hx1124_4
         have HR1124_1 := Aside0.mk hi1124_1
         have HC1124_1 := Aside0.mk hl1124_1
         clear hi1124_1 hl1124_1
         replace p1124 := eq_true p1124
         replace q1124 := eq_true q1124
         obtain ⟨Ao45, co45, eo45⟩ := Kd.R_slice HO_8.out
         subst eo45
         go_wp2_with (first | ((with_reducible refine gate_callee (f := 44) rfl ?_); refine gL_ (some 35) Try.func44 #[.slice Ao45 x8_2.length co45, .agg #[.int .i64 ((rd_T67 l1 x9_2).f0), .slice A1124_1 ((rd_T67 l1 x9_2).f1).length c1124_1, .int .i64 ((rd_T67 l1 x9_2).f2), .int .i64 ((rd_T67 l1 x9_2).f3), .int .i64 ((rd_T67 l1 x9_2).f4)]] ?_; (with_reducible refine (spec_ApplyOp.calls k2 _ _ x8_2 ((rd_T67 l1 x9_2).f0) _ _ ((rd_T67 l1 x9_2).f1) ((rd_T67 l1 x9_2).f2) ((rd_T67 l1 x9_2).f3) ((rd_T67 l1 x9_2).f4) t1125 t1128 _ (cc_ (Kd.R_reads' HO_8.out).2.2) ((Kd.R_reads' HO_8.out).2.1) (cx_ HR1124_1 HB) HC1124_1.out A18.out).mono ?_); rintro e w46 ⟨v1126, rfl, ho0, hb⟩; refine ⟨_, rfl, ?_⟩; have HO1127 := Aside0.mk (Kd.R_lower (Kd.R_new' ho0 (Kd.R_lt (rx_ HO_8.out))) (bs_ HB)); replace HO_8 := Aside0.mk (Kd.R_elder' (rx_ HO_8.out) (Kd.R_base ho0) hb); replace BK1118 := tK_ BK1118 hb; replace HB := tB_ HB hb; (try clear hb); (try clear ho0)))
         go_ret
         exact ⟨ea_, (bl_ HB).out⟩
       ·rw [if_neg c17] at H
        exact absurd H (by simp)
      ·rw [if_neg c16] at H
       have c16b0 : decide (x9_2 < (l1.length : Int)) = false := decide_eq_false c16
       clear c16
       obtain rfl := Option.some.inj H
       go_wp2
       go_ret
       exact ⟨ea_, (bl_ HB).out⟩
end Go.Proofs.Ytbifdckfglejkaa.X
namespace Go.Proofs.Ytbifdckfglejkaa.X
open Go.RowKit Go.Proofs.YtbifdckfglejkaaW.PrintWords Go.Proofs.YtbifdckfglejkaaW.PrintLast Go.Proofs.YtbifdckfglejkaaW.PrintMore
attribute [local go_sem] max2_int min2_int max_two min_two max_three min_three max_four min_four   -- for this text's walks alone
set_option linter.unusedVariables false
set_option linter.unusedSimpArgs false
def impl_within.f (a0 : Int) (a1 : Int) (a2 : Int) : Option (Bool) := if a1 ≤ a0 then (some (decide (a0 ≤ a2))) else (some false)
set_option maxHeartbeats 8000000 in
set_option maxRecDepth 100000 in
theorem impl_within.calls (a0 : Int) (a1 : Int) (a2 : Int) (r : Bool) (w : World) (h : impl_within.f a0 a1 a2 = some r) :
  Calls Try.prog 117 #[.int .i64 a0, .int .i64 a1, .int .i64 a2] w fun e w' => e = .returned (.bool r) ∧ Drawn0 w w' := by
 have H : (if a1 ≤ a0 then (some (decide (a0 ≤ a2))) else (some false)) = some r := h
 clear h
 by_cases c4 : a1 ≤ a0
 ·rw [if_pos c4] at H
  have c4b0 : decide (a1 ≤ a0) = true := decide_eq_true c4
  clear c4
  obtain rfl := Option.some.inj H
  go_enter Try.func117, Try.ntmps117
  go_wp2
  go_ret
  exact ⟨by first | rfl | (simp; done) | (simp [*]; done), by repeat (first | exact Drawn0.refl _ | apply Drawn0.step)⟩
 ·rw [if_neg c4] at H
  have c4b0 : decide (a1 ≤ a0) = false := decide_eq_false c4
  clear c4
  obtain rfl := Option.some.inj H
  go_enter Try.func117, Try.ntmps117
  go_wp2
  go_ret
  exact ⟨by first | rfl | (simp; done) | (simp [*]; done), by repeat (first | exact Drawn0.refl _ | apply Drawn0.step)⟩
end Go.Proofs.Ytbifdckfglejkaa.X
namespace Go.Proofs.Ytbifdckfglejkaa.X
open Go.RowKit Go.Proofs.YtbifdckfglejkaaW.PrintWords Go.Proofs.YtbifdckfglejkaaW.PrintLast Go.Proofs.YtbifdckfglejkaaW.PrintMore
attribute [local go_sem] max2_int min2_int max_two min_two max_three min_three max_four min_four   -- for this text's walks alone
set_option linter.unusedVariables false
set_option linter.unusedSimpArgs false
def impl_LabelOk.f (a0 : Int) : Option (Bool) := (impl_within.f a0 0 5).bind fun t199 => (some t199)
set_option maxHeartbeats 8000000 in
set_option maxRecDepth 100000 in
theorem impl_LabelOk.calls (a0 : Int) (r : Bool) (w : World) (h : impl_LabelOk.f a0 = some r) :
  Calls Try.prog 128 #[.int .i64 a0] w fun e w' => e = .returned (.bool r) ∧ Drawn0 w w' := by
 have H : ((impl_within.f a0 0 5).bind fun t199 => (some t199)) = some r := h
 clear h
 replace H := Option.bind_eq_some_iff.mp H
 obtain ⟨t199, A20, H⟩ := H
 replace H : (some t199) = some r := H
 have A2 := Aside0.mk A20
 clear A20
 obtain rfl := Option.some.inj H
 go_enter Try.func128, Try.ntmps128
 go_wp2_with (first | ((with_reducible refine gate_callee (f := 117) rfl ?_); refine gL_ (some 4) Try.func117 #[.int .i64 a0, .int .i64 0, .int .i64 5] ?_; (with_reducible refine (impl_within.calls a0 0 5 t199 _ A2.out).mono ?_); rintro e w' ⟨rfl, ⟨nd, rfl⟩⟩; refine ⟨_, rfl, ?_⟩))
 go_ret
 exact ⟨by first | rfl | (simp; done) | (simp [*]; done), by repeat (first | exact Drawn0.refl _ | apply Drawn0.step)⟩
end Go.Proofs.Ytbifdckfglejkaa.X
namespace Go.Proofs.Ytbifdckfglejkaa.X
open Go.RowKit Go.Proofs.YtbifdckfglejkaaW.PrintWords Go.Proofs.YtbifdckfglejkaaW.PrintLast Go.Proofs.YtbifdckfglejkaaW.PrintMore
attribute [local go_sem] max2_int min2_int max_two min_two max_three min_three max_four min_four   -- for this text's walks alone
set_option linter.unusedVariables false
set_option linter.unusedSimpArgs false
def impl_depthOk.f (l0 : List (S90)) (a1 : Int) : Option (Bool) := if a1 = 0 then (if 0 < (l0.length : Int) then (some (((rd_T90 l0 0).f1) == 0)) else (none)) else (if 0 ≤ a1 then (if a1 < (l0.length : Int) then (if 0 ≤ (wrap64 (a1 - 1)) then (if (wrap64 (a1 - 1)) < (l0.length : Int) then ((impl_within.f ((rd_T90 l0 a1).f1) 1 (wrap64 (((rd_T90 l0 (wrap64 (a1 - 1))).f1) + 1))).bind fun t394 => (some t394)) else (none)) else (none)) else (none)) else (none))
set_option maxHeartbeats 8000000 in
set_option maxRecDepth 100000 in
theorem impl_depthOk.calls (A0 : Option Addr) (c0 : Nat) (l0 : List (S90)) (a1 : Int) (r : Bool) (w : World) (hr0 : Kd.C k90 w A0 l0.length l0) (hc0 : l0.length ≤ c0) (h : impl_depthOk.f l0 a1 = some r) :
  Calls Try.prog 131 #[.slice A0 l0.length c0, .int .i64 a1] w fun e w' => e = .returned (.bool r) ∧ Drawn0 w w' := by
 have HR0 := Aside0.mk hr0
 have HC0 := Aside0.mk hc0
 clear hr0 hc0
 have H : (if a1 = 0 then (if 0 < (l0.length : Int) then (some (((rd_T90 l0 0).f1) == 0)) else (none)) else (if 0 ≤ a1 then (if a1 < (l0.length : Int) then (if 0 ≤ (wrap64 (a1 - 1)) then (if (wrap64 (a1 - 1)) < (l0.length : Int) then ((impl_within.f ((rd_T90 l0 a1).f1) 1 (wrap64 (((rd_T90 l0 (wrap64 (a1 - 1))).f1) + 1))).bind fun t394 => (some t394)) else (none)) else (none)) else (none)) else (none))) = some r := h
 clear h
 by_cases c3 : a1 = 0
 ·rw [if_pos c3] at H
  have c3b0 : (a1 == 0) = true := beq_iff_eq.mpr c3
  have c3b1 : (a1 != 0) = false := bne_eq_false_iff_eq.mpr c3
  clear c3
  by_cases c4 : 0 < (l0.length : Int)
  ·rw [if_pos c4] at H
   have c4b0 : decide (0 < (l0.length : Int)) = true := decide_eq_true c4
   have c4b1 : decide (0 < l0.length) = true := decide_eq_true (by omega)
   clear c4
   obtain rfl := Option.some.inj H
   have p391 : 0 ≤ (0 : Int) := (by omega)
   have q391 : 0 < (l0.length : Int) := od_
   obtain ⟨ad391, e391, hx391_0, hx391_1⟩ := at_T90 HR0.out 0 p391 q391
   cases e391
   have qi391 : (0 < l0.length) = True := eq_true (by omega)
   (try rw [show ((0 : Int)).toNat = 0 from rfl] at hx391_0)
   (try rw [show 0 * 2 = 0 from rfl] at hx391_0)
   (try rw [Addr.add_zero'] at hx391_0)
   (try rw [show ((0 : Int)).toNat = 0 from rfl] at hx391_1)
   (try rw [show 0 * 2 = 0 from rfl] at hx391_1)
   (try rw [Addr.add_zero'] at hx391_1)
   replace p391 := eq_true p391
   replace q391 := eq_true q391
   go_enter Try.func131, Try.ntmps131
   go_wp2
   repeat (go_quiet (fail); try go_wp2)
   go_ret
   exact ⟨by first | rfl | (simp; done) | (simp [*]; done), by repeat (first | exact Drawn0.refl _ | apply Drawn0.step)⟩
  ·rw [if_neg c4] at H
   exact absurd H (by simp)
 ·rw [if_neg c3] at H
  have c3b0 : (a1 == 0) = false := beq_eq_false_iff_ne.mpr c3
  have c3b1 : (a1 != 0) = true := bne_iff_ne.mpr c3
  by_cases c5 : 0 ≤ a1
  ·rw [if_pos c5] at H
   have c5b0 : decide (0 ≤ a1) = true := decide_eq_true c5
   clear c5
   by_cases c6 : a1 < (l0.length : Int)
   ·rw [if_pos c6] at H
    have c6b0 : decide (a1 < (l0.length : Int)) = true := decide_eq_true c6
    clear c6
    obtain ⟨ji7, hji7⟩ : ∃ j_ : Int, (wrap64 (a1 - 1)) = j_ := ⟨_, rfl⟩
    replace H : (if 0 ≤ (ji7) then (if (ji7) < (l0.length : Int) then ((impl_within.f ((rd_T90 l0 a1).f1) 1 (wrap64 (((rd_T90 l0 (ji7)).f1) + 1))).bind fun t394 => (some t394)) else (none)) else (none)) = some r := by first | (rw [hji7] at H; exact H) | (simp only [hji7] at H ⊢; exact H)
    have hji7w : (IntKind.i64.wrap (a1 - 1)) = ji7 := (i64_w _).trans hji7
    by_cases c8 : 0 ≤ (ji7)
    ·rw [if_pos c8] at H
     have c8b0 : decide (0 ≤ (ji7)) = true := decide_eq_true c8
     clear c8
     by_cases c9 : (ji7) < (l0.length : Int)
     ·rw [if_pos c9] at H
      have c9b0 : decide ((ji7) < (l0.length : Int)) = true := decide_eq_true c9
      clear c9
      replace H := Option.bind_eq_some_iff.mp H
      obtain ⟨t394, A100, H⟩ := H
      replace H : (some t394) = some r := H
      have A10 := Aside0.mk A100
      clear A100
      obtain rfl := Option.some.inj H
      have p392 : 0 ≤ (a1 : Int) := od_
      have q392 : a1 < (l0.length : Int) := od_
      obtain ⟨ad392, e392, hx392_0, hx392_1⟩ := at_T90 HR0.out a1 p392 q392
      cases e392
      replace p392 := eq_true p392
      replace q392 := eq_true q392
      have p393 : 0 ≤ ((ji7) : Int) := od_
      have q393 : (ji7) < (l0.length : Int) := od_
      obtain ⟨ad393, e393, hx393_0, hx393_1⟩ := at_T90 HR0.out (ji7) p393 q393
      obtain rfl : ad392 = ad393 := (by injection e393)
      replace p393 := eq_true p393
      replace q393 := eq_true q393
      go_enter Try.func131, Try.ntmps131
      go_wp2_with (first | (go_at_call 117; (with_reducible refine (impl_within.calls ((rd_T90 l0 a1).f1) 1 (wrap64 (((rd_T90 l0 (ji7)).f1) + 1)) t394 _ A10.out).mono ?_); rintro e w' ⟨rfl, ⟨nd, rfl⟩⟩; (try first | exact ⟨rfl, _, World.drewN_drewN _ _ _⟩ | exact ⟨rfl, _, Eq.trans (World.drewN_drewN _ _ _) (congrArg (World.drewN _) (Nat.add_assoc _ _ _))⟩)))
      repeat (go_quiet (first | (go_at_call 117; (with_reducible refine (impl_within.calls ((rd_T90 l0 a1).f1) 1 (wrap64 (((rd_T90 l0 (ji7)).f1) + 1)) t394 _ A10.out).mono ?_); rintro e w' ⟨rfl, ⟨nd, rfl⟩⟩; (try first | exact ⟨rfl, _, World.drewN_drewN _ _ _⟩ | exact ⟨rfl, _, Eq.trans (World.drewN_drewN _ _ _) (congrArg (World.drewN _) (Nat.add_assoc _ _ _))⟩))); try go_wp2_with (first | (go_at_call 117; (with_reducible refine (impl_within.calls ((rd_T90 l0 a1).f1) 1 (wrap64 (((rd_T90 l0 (ji7)).f1) + 1)) t394 _ A10.out).mono ?_); rintro e w' ⟨rfl, ⟨nd, rfl⟩⟩; (try first | exact ⟨rfl, _, World.drewN_drewN _ _ _⟩ | exact ⟨rfl, _, Eq.trans (World.drewN_drewN _ _ _) (congrArg (World.drewN _) (Nat.add_assoc _ _ _))⟩))))
      go_ret
      exact ⟨by first | rfl | (simp; done) | (simp only [← hji7] <;> (first | rfl | simp)) | (simp [*]; done), by repeat (first | exact Drawn0.refl _ | apply Drawn0.step)⟩
     ·rw [if_neg c9] at H
      exact absurd H (by simp)
    ·rw [if_neg c8] at H
     exact absurd H (by simp)
   ·rw [if_neg c6] at H
    exact absurd H (by simp)
  ·rw [if_neg c5] at H
   exact absurd H (by simp)
end Go.Proofs.Ytbifdckfglejkaa.X
namespace Go.Proofs.Ytbifdckfglejkaa.X
open Go.RowKit Go.Proofs.YtbifdckfglejkaaW.PrintWords Go.Proofs.YtbifdckfglejkaaW.PrintLast Go.Proofs.YtbifdckfglejkaaW.PrintMore
attribute [local go_sem] max2_int min2_int max_two min_two max_three min_three max_four min_four   -- for this text's walks alone
set_option linter.unusedVariables false
set_option linter.unusedSimpArgs false
def impl_TreeOk.l0 : Nat → List (S90) → List (S90) → Int → Int → Option (Bool)
 | 0, _, _, _, _ => none
 | k + 1, x0, x9, x10, x11 => if x11 < x10 then (if 0 ≤ x11 then (if x11 < (x9.length : Int) then ((impl_LabelOk.f ((rd_T90 x9 x11).f0)).bind fun t398 => (if t398 = true then ((impl_within.f ((rd_T90 x9 x11).f1) 0 12).bind fun t399 => (if t399 = true then ((impl_depthOk.f x0 x11).bind fun t400 => (if t400 = true then (impl_TreeOk.l0 k x0 x9 x10 (wrap64 (x11 + 1))) else (some false))) else (some false))) else (some false))) else (none)) else (none)) else (some true)
def impl_TreeOk.f (k : Nat) (l0 : List (S90)) : Option (Bool) := (impl_within.f (l0.length : Int) 1 24).bind fun t395 => (if t395 = true then (impl_TreeOk.l0 k l0 l0 (l0.length : Int) 0) else (some false))
set_option maxHeartbeats 8000000 in
set_option maxRecDepth 100000 in
theorem impl_TreeOk.calls (k : Nat) (A0 : Option Addr) (c0 : Nat) (l0 : List (S90)) (r : Bool) (w : World) (hr0 : Kd.C k90 w A0 l0.length l0) (hc0 : l0.length ≤ c0) (h : impl_TreeOk.f k l0 = some r) :
  Calls Try.prog 102 #[.slice A0 l0.length c0] w fun e w' => e = .returned (.bool r) ∧ Below w.heap.size w w' := by
 have hu90 := Try.underlying90
 have HR0 := Aside0.mk hr0
 have HC0 := Aside0.mk hc0
 clear hr0 hc0
 have HB := Aside0.mk (Below.refl w.heap.size w)
 have H : ((impl_within.f (l0.length : Int) 1 24).bind fun t395 => (if t395 = true then (impl_TreeOk.l0 k l0 l0 (l0.length : Int) 0) else (some false))) = some r := h
 clear h
 replace H := Option.bind_eq_some_iff.mp H
 obtain ⟨t395, A20, H⟩ := H
 replace H : (if t395 = true then (impl_TreeOk.l0 k l0 l0 (l0.length : Int) 0) else (some false)) = some r := H
 have A2 := Aside0.mk A20
 clear A20
 by_cases c3 : t395 = true
 ·subst c3
  have H1 : (impl_TreeOk.l0 k l0 l0 (l0.length : Int) 0) = some r := by rw [if_pos rfl] at H; exact H
  clear H
  have H := H1
  clear H1
  have H' := Aside0.mk H
  clear H
  go_enter Try.func102, Try.ntmps102
  go_wp2_with (first | ((with_reducible refine gate_callee (f := 117) rfl ?_); refine gL_ (some 7) Try.func117 #[.int .i64 (l0.length : Int), .int .i64 1, .int .i64 24] ?_; (with_reducible refine (impl_within.calls (l0.length : Int) 1 24 true _ A2.out).mono ?_); rintro e w' ⟨rfl, ⟨nd, rfl⟩⟩; refine ⟨_, rfl, ?_⟩))
  go_loopg [11] k (fun kq v11 w' => ∃ (x11_1 : Int), v11 = .int .i64 x11_1 ∧ Aside0 (impl_TreeOk.l0 kq l0 l0 (l0.length : Int) x11_1 = some r) ∧ Aside0 (kq ≤ k) ∧ Aside0 (Below w.heap.size w w'))
  case atStart => exact ⟨(0), eb_, H', ⟨Nat.le_refl _⟩, bl_ HB⟩
  case round =>
   clear H'
   try clear c1
   try clear p2
   try clear c3
   obtain ⟨x11_1, rfl, HA, HK1, HB⟩ := hrel
   cases gk with
   | zero => exact absurd HA.out (by simp [impl_TreeOk.l0])
   | succ k1 =>
    have H := HA.out
    clear HA
    simp only [impl_TreeOk.l0] at H
    by_cases c4 : x11_1 < (l0.length : Int)
    ·rw [if_pos c4] at H
     have c4b0 : decide (x11_1 < (l0.length : Int)) = true := decide_eq_true c4
     clear c4
     by_cases c5 : 0 ≤ x11_1
     ·rw [if_pos c5] at H
      have c5b0 : decide (0 ≤ x11_1) = true := decide_eq_true c5
      clear c5
      by_cases c6 : x11_1 < (l0.length : Int)
      ·rw [if_pos c6] at H
       have c6b0 : decide (x11_1 < (l0.length : Int)) = true := decide_eq_true c6
       clear c6
       replace H := Option.bind_eq_some_iff.mp H
       obtain ⟨t398, A70, H⟩ := H
       try dsimp only at H
       have A7 := Aside0.mk A70
       clear A70
       by_cases c8 : t398 = true
       ·subst c8
        have H1 : ((impl_within.f ((rd_T90 l0 x11_1).f1) 0 12).bind fun t399 => (if t399 = true then ((impl_depthOk.f l0 x11_1).bind fun t400 => (if t400 = true then (impl_TreeOk.l0 k1 l0 l0 (l0.length : Int) (wrap64 (x11_1 + 1))) else (some false))) else (some false))) = some r := by rw [if_pos rfl] at H; exact H
        clear H
        have H := H1
        clear H1
        replace H := Option.bind_eq_some_iff.mp H
        obtain ⟨t399, A90, H⟩ := H
        try dsimp only at H
        have A9 := Aside0.mk A90
        clear A90
        by_cases c10 : t399 = true
        ·subst c10
         have H1 : ((impl_depthOk.f l0 x11_1).bind fun t400 => (if t400 = true then (impl_TreeOk.l0 k1 l0 l0 (l0.length : Int) (wrap64 (x11_1 + 1))) else (some false))) = some r := by rw [if_pos rfl] at H; exact H
         clear H
         have H := H1
         clear H1
         replace H := Option.bind_eq_some_iff.mp H
         obtain ⟨t400, A110, H⟩ := H
         try dsimp only at H
         have A11 := Aside0.mk A110
         clear A110
         by_cases c12 : t400 = true
         ·subst c12
          have H1 : (impl_TreeOk.l0 k1 l0 l0 (l0.length : Int) (wrap64 (x11_1 + 1))) = some r := by rw [if_pos rfl] at H; exact H
          clear H
          have H := H1
          clear H1
          have H' := Aside0.mk H
          clear H
          have p396 : 0 ≤ (x11_1 : Int) := od_
          have q396 : x11_1 < (l0.length : Int) := od_
          obtain ⟨ad396, e396, hx396_0, hx396_1⟩ := at_T90 HR0.out x11_1 p396 q396
          cases e396
          replace hx396_0 := (HB.out.cell (World.block_lt_of_cell? w _ hx396_0)).trans hx396_0
          replace hx396_1 := (HB.out.cell (World.block_lt_of_cell? w _ hx396_1)).trans hx396_1
          replace p396 := eq_true p396
          replace q396 := eq_true q396
          go_wp2_with (first | ((with_reducible refine gate_dst (N := 4) rfl ?_); refine box_event ?hg (N := 4) ?hd (cs := #[.int .i64 0, .int .i64 0]) (t := 90) ?hr ?_; (case hd => rfl); (case hg => rfl); (case hr => first | (go_simp; done) | (go_simp; rfl)); intro gb397 hg w13 hbox hb; have n0_ := Aside0.mk (below_step (by repeat (first | (with_reducible first | exact HB.out | apply below_alloc | apply pw_below_drewN | apply below_drew1) | exact HB.out)) hb); have n1_ := Aside0.mk (hbox); have n2_ := Aside0.mk ((by rw [hg]; exact (below_size (by repeat (first | (with_reducible first | exact HB.out | apply below_alloc | apply pw_below_drewN | apply below_drew1) | exact HB.out))) : w.heap.size ≤ gb397)); have n3_ := Aside0.mk ((by rw [hg]; exact (below_size (by repeat (first | (with_reducible first | exact HB.out | apply below_alloc | apply pw_below_drewN | apply below_drew1) | exact HB.out))) : w.heap.size ≤ gb397)); clear HB; have HB := n0_; have BK397 := n1_; have GW397 := n2_; have GE397 := n3_; clear n0_ n1_ n2_ n3_; clear hb hbox hg; have hcz14_0 : w13.cell? ⟨gb397, 0, none⟩ = some (.int .i64 0) := (blk_cell BK397.out 0).trans rfl; have hcz14_1 : w13.cell? ⟨gb397, 1, none⟩ = some (.int .i64 0) := (blk_cell BK397.out 1).trans rfl; have hfz14_0 := blk_frozen BK397.out 0; have hfz14_1 := blk_frozen BK397.out 1) | ((with_reducible refine gate_callee (f := 128) rfl ?_); refine goesL_ (some 18) rfl rfl Try.func128 (by kernel_rfl) rfl #[.int .i64 ((rd_T90 l0 x11_1).f0)] rfl (by (try simp only [List.map_toArray, List.map_cons, List.map_nil]); first | done | rfl | (simp only [List.length_drop, List.length_take]; rfl)) ?_; (with_reducible refine (impl_LabelOk.calls ((rd_T90 l0 x11_1).f0) true _ A7.out).mono ?_); rintro e w' ⟨rfl, ⟨nd, rfl⟩⟩; refine ⟨_, rfl, ?_⟩) | (go_at_call 117; (with_reducible refine (impl_within.calls ((rd_T90 l0 x11_1).f1) 0 12 true _ A9.out).mono ?_); rintro e w' ⟨rfl, ⟨nd, rfl⟩⟩) | (go_at_call 131; (with_reducible refine (impl_depthOk.calls _ _ l0 x11_1 true _ ?side1 ?side2 A11.out).mono ?_); (case side1 => exact Kd.C_below HR0.out (by repeat (first | (with_reducible first | exact HB.out | apply below_alloc | apply pw_below_drewN | apply below_drew1 | refine below_set ?_ GE397.out) | exact HB.out))); (case side2 => exact HC0.out); rintro e w' ⟨rfl, ⟨nd, rfl⟩⟩))
          go_roundg k1
          case measure => have := HK1.out; omega
          case rel => exact ⟨(wrap64 (x11_1 + 1)), (by first | rfl | (simp; done) | (simp [*]; done)), H', ⟨by have := HK1.out; omega⟩, ⟨by repeat (first | (with_reducible first | exact HB.out | apply below_alloc | apply pw_below_drewN | apply below_drew1 | refine below_set ?_ GE397.out) | exact HB.out)⟩⟩
         ·replace c12 := Bool.eq_false_iff.mpr c12
          subst c12
          have H1 : (some false) = some r := by rw [if_neg (show ¬ (false = true) by decide)] at H; exact H
          clear H
          have H := H1
          clear H1
          obtain rfl := Option.some.inj H
          have p396 : 0 ≤ (x11_1 : Int) := od_
          have q396 : x11_1 < (l0.length : Int) := od_
          obtain ⟨ad396, e396, hx396_0, hx396_1⟩ := at_T90 HR0.out x11_1 p396 q396
          cases e396
          replace hx396_0 := (HB.out.cell (World.block_lt_of_cell? w _ hx396_0)).trans hx396_0
          replace hx396_1 := (HB.out.cell (World.block_lt_of_cell? w _ hx396_1)).trans hx396_1
          replace p396 := eq_true p396
          replace q396 := eq_true q396
          go_wp2_with (first | ((with_reducible refine gate_dst (N := 4) rfl ?_); refine box_event ?hg (N := 4) ?hd (cs := #[.int .i64 0, .int .i64 0]) (t := 90) ?hr ?_; (case hd => rfl); (case hg => rfl); (case hr => first | (go_simp; done) | (go_simp; rfl)); intro gb397 hg w15 hbox hb; have n0_ := Aside0.mk (below_step (by repeat (first | (with_reducible first | exact HB.out | apply below_alloc | apply pw_below_drewN | apply below_drew1) | exact HB.out)) hb); have n1_ := Aside0.mk (hbox); have n2_ := Aside0.mk ((by rw [hg]; exact (below_size (by repeat (first | (with_reducible first | exact HB.out | apply below_alloc | apply pw_below_drewN | apply below_drew1) | exact HB.out))) : w.heap.size ≤ gb397)); have n3_ := Aside0.mk ((by rw [hg]; exact (below_size (by repeat (first | (with_reducible first | exact HB.out | apply below_alloc | apply pw_below_drewN | apply below_drew1) | exact HB.out))) : w.heap.size ≤ gb397)); clear HB; have HB := n0_; have BK397 := n1_; have GW397 := n2_; have GE397 := n3_; clear n0_ n1_ n2_ n3_; clear hb hbox hg; have hcz16_0 : w15.cell? ⟨gb397, 0, none⟩ = some (.int .i64 0) := (blk_cell BK397.out 0).trans rfl; have hcz16_1 : w15.cell? ⟨gb397, 1, none⟩ = some (.int .i64 0) := (blk_cell BK397.out 1).trans rfl; have hfz16_0 := blk_frozen BK397.out 0; have hfz16_1 := blk_frozen BK397.out 1) | ((with_reducible refine gate_callee (f := 128) rfl ?_); refine goesL_ (some 18) rfl rfl Try.func128 (by kernel_rfl) rfl #[.int .i64 ((rd_T90 l0 x11_1).f0)] rfl (by (try simp only [List.map_toArray, List.map_cons, List.map_nil]); first | done | rfl | (simp only [List.length_drop, List.length_take]; rfl)) ?_; (with_reducible refine (impl_LabelOk.calls ((rd_T90 l0 x11_1).f0) true _ A7.out).mono ?_); rintro e w' ⟨rfl, ⟨nd, rfl⟩⟩; refine ⟨_, rfl, ?_⟩) | (go_at_call 117; (with_reducible refine (impl_within.calls ((rd_T90 l0 x11_1).f1) 0 12 true _ A9.out).mono ?_); rintro e w' ⟨rfl, ⟨nd, rfl⟩⟩) | (go_at_call 131; (with_reducible refine (impl_depthOk.calls _ _ l0 x11_1 false _ ?side1 ?side2 A11.out).mono ?_); (case side1 => exact Kd.C_below HR0.out (by repeat (first | (with_reducible first | exact HB.out | apply below_alloc | apply pw_below_drewN | apply below_drew1 | refine below_set ?_ GE397.out) | exact HB.out))); (case side2 => exact HC0.out); rintro e w' ⟨rfl, ⟨nd, rfl⟩⟩))
          go_ret
          exact ⟨by first | rfl | (simp [errW_none, errW_some] <;> rfl) | (simp [*, errW_none, errW_some] <;> rfl), by repeat (first | (with_reducible first | exact HB.out | apply below_alloc | apply pw_below_drewN | apply below_drew1 | refine below_set ?_ GE397.out) | exact HB.out)⟩
        ·replace c10 := Bool.eq_false_iff.mpr c10
         subst c10
         have H1 : (some false) = some r := by rw [if_neg (show ¬ (false = true) by decide)] at H; exact H
         clear H
         have H := H1
         clear H1
         obtain rfl := Option.some.inj H
         have p396 : 0 ≤ (x11_1 : Int) := od_
         have q396 : x11_1 < (l0.length : Int) := od_
         obtain ⟨ad396, e396, hx396_0, hx396_1⟩ := at_T90 HR0.out x11_1 p396 q396
         cases e396
         replace hx396_0 := ce_ HB hx396_0
         replace hx396_1 := ce_ HB hx396_1
         replace p396 := eq_true p396
         replace q396 := eq_true q396
         go_wp2_with (first | ((with_reducible refine gate_dst (N := 4) rfl ?_); refine bx_ 4 #[.int .i64 0, .int .i64 0] 90 ?_; intro gb397 hg w17 hbox hb; have BK397 := Aside0.mk (hbox); have GW397 := Aside0.mk ((by rw [hg]; exact (bs_ HB) : w.heap.size ≤ gb397)); have GE397 := Aside0.mk ((by rw [hg]; exact (bs_ HB) : w.heap.size ≤ gb397)); replace HB := tB_ HB hb; clear hb hbox hg; obtain ⟨hcz18_0, hcz18_1, hfz18_0, hfz18_1⟩ := bk2_ BK397) | ((with_reducible refine gate_callee (f := 128) rfl ?_); refine gL_ (some 18) Try.func128 #[.int .i64 ((rd_T90 l0 x11_1).f0)] ?_; (with_reducible refine (impl_LabelOk.calls ((rd_T90 l0 x11_1).f0) true _ A7.out).mono ?_); rintro e w' ⟨rfl, ⟨nd, rfl⟩⟩; refine ⟨_, rfl, ?_⟩) | (go_at_call 117; (with_reducible refine (impl_within.calls ((rd_T90 l0 x11_1).f1) 0 12 false _ A9.out).mono ?_); rintro e w' ⟨rfl, ⟨nd, rfl⟩⟩))
         go_ret
         exact ⟨by first | rfl | (simp [errW_none, errW_some] <;> rfl) | (simp [*, errW_none, errW_some] <;> rfl), by repeat (first | (with_reducible first | exact HB.out | apply below_alloc | apply pw_below_drewN | apply below_drew1 | refine below_set ?_ GE397.out) | exact HB.out)⟩
       ·replace c8 := Bool.eq_false_iff.mpr c8
        subst c8
        have H1 : (some false) = some r := by rw [if_neg (show ¬ (false = true) by decide)] at H; exact H
        clear H
        have H := H1
        clear H1
        obtain rfl := Option.some.inj H
        have p396 : 0 ≤ (x11_1 : Int) := od_
        have q396 : x11_1 < (l0.length : Int) := od_
        obtain ⟨ad396, e396, hx396_0, hx396_1⟩ := at_T90 HR0.out x11_1 p396 q396
        cases e396
        replace hx396_0 := ce_ HB hx396_0
        replace hx396_1 := ce_ HB hx396_1
        replace p396 := eq_true p396
        replace q396 := eq_true q396
        go_wp2_with (first | ((with_reducible refine gate_dst (N := 4) rfl ?_); refine bx_ 4 #[.int .i64 0, .int .i64 0] 90 ?_; intro gb397 hg w19 hbox hb; have BK397 := Aside0.mk (hbox); have GW397 := Aside0.mk ((by rw [hg]; exact (bs_ HB) : w.heap.size ≤ gb397)); have GE397 := Aside0.mk ((by rw [hg]; exact (bs_ HB) : w.heap.size ≤ gb397)); replace HB := tB_ HB hb; clear hb hbox hg; obtain ⟨hcz20_0, hcz20_1, hfz20_0, hfz20_1⟩ := bk2_ BK397) | ((with_reducible refine gate_callee (f := 128) rfl ?_); refine gL_ (some 18) Try.func128 #[.int .i64 ((rd_T90 l0 x11_1).f0)] ?_; (with_reducible refine (impl_LabelOk.calls ((rd_T90 l0 x11_1).f0) false _ A7.out).mono ?_); rintro e w' ⟨rfl, ⟨nd, rfl⟩⟩; refine ⟨_, rfl, ?_⟩))
        go_ret
        exact ⟨by first | rfl | (simp [errW_none, errW_some] <;> rfl) | (simp [*, errW_none, errW_some] <;> rfl), by repeat (first | (with_reducible first | exact HB.out | apply below_alloc | apply pw_below_drewN | apply below_drew1 | refine below_set ?_ GE397.out) | exact HB.out)⟩
      ·rw [if_neg c6] at H
       exact absurd H (by simp)
     ·rw [if_neg c5] at H
      exact absurd H (by simp)
    ·rw [if_neg c4] at H
     have c4b0 : decide (x11_1 < (l0.length : Int)) = false := decide_eq_false c4
     clear c4
     obtain rfl := Option.some.inj H
     go_wp2
     go_ret
     exact ⟨ea_, (bl_ HB).out⟩
 ·replace c3 := Bool.eq_false_iff.mpr c3
  subst c3
  have H1 : (some false) = some r := by rw [if_neg (show ¬ (false = true) by decide)] at H; exact H
  clear H
  have H := H1
  clear H1
  obtain rfl := Option.some.inj H
  go_enter Try.func102, Try.ntmps102
  go_wp2_with (first | ((with_reducible refine gate_callee (f := 117) rfl ?_); refine gL_ (some 7) Try.func117 #[.int .i64 (l0.length : Int), .int .i64 1, .int .i64 24] ?_; (with_reducible refine (impl_within.calls (l0.length : Int) 1 24 false _ A2.out).mono ?_); rintro e w' ⟨rfl, ⟨nd, rfl⟩⟩; refine ⟨_, rfl, ?_⟩))
  go_ret
  exact ⟨ea_, (bl_ HB).out⟩
end Go.Proofs.Ytbifdckfglejkaa.X
namespace Go.Proofs.Ytbifdckfglejkaa.X
open Go.RowKit Go.Proofs.YtbifdckfglejkaaW.PrintWords Go.Proofs.YtbifdckfglejkaaW.PrintLast Go.Proofs.YtbifdckfglejkaaW.PrintMore
attribute [local go_sem] max2_int min2_int max_two min_two max_three min_three max_four min_four   -- for this text's walks alone
set_option linter.unusedVariables false
set_option linter.unusedSimpArgs false
def impl_endOf.l0 : Nat → List (S90) → Int → Int → Option (Int)
 | 0, _, _, _ => none
 | k + 1, x0, x1, x5 => if x5 < (x0.length : Int) then (if 0 ≤ x5 then (if 0 ≤ x1 then (if x1 < (x0.length : Int) then (if ((rd_T90 x0 x5).f1) > ((rd_T90 x0 x1).f1) then (impl_endOf.l0 k x0 x1 (wrap64 (x5 + 1))) else (some x5)) else (none)) else (none)) else (none)) else (some x5)
def impl_endOf.f (k : Nat) (l0 : List (S90)) (a1 : Int) : Option (Int) := impl_endOf.l0 k l0 a1 (wrap64 (a1 + 1))
set_option maxHeartbeats 8000000 in
set_option maxRecDepth 100000 in
theorem impl_endOf.calls (k : Nat) (A0 : Option Addr) (c0 : Nat) (l0 : List (S90)) (a1 : Int) (r : Int) (w : World) (hr0 : Kd.C k90 w A0 l0.length l0) (hc0 : l0.length ≤ c0) (h : impl_endOf.f k l0 a1 = some r) :
  Calls Try.prog 105 #[.slice A0 l0.length c0, .int .i64 a1] w fun e w' => e = .returned (.int .i64 r) ∧ Drawn0 w w' := by
 have HR0 := Aside0.mk hr0
 have HC0 := Aside0.mk hc0
 clear hr0 hc0
 have H : (impl_endOf.l0 k l0 a1 (wrap64 (a1 + 1))) = some r := h
 clear h
 have H' := Aside0.mk H
 clear H
 go_enter Try.func105, Try.ntmps105
 go_wp2
 repeat (go_quiet (fail); try go_wp2)
 go_loopg [5] k (fun kq v5 w' => ∃ (x5_1 : Int), v5 = .int .i64 x5_1 ∧ Aside0 (impl_endOf.l0 kq l0 a1 x5_1 = some r) ∧ Aside0 (kq ≤ k) ∧ Drawn0 w w')
 case atStart => exact ⟨(wrap64 (a1 + 1)), eb_, H', ⟨Nat.le_refl _⟩, by repeat (first | exact Drawn0.refl _ | apply Drawn0.step)⟩
 case round =>
  clear H'
  try clear c1
  try clear p2
  obtain ⟨x5_1, rfl, HA, HK1, ⟨m1, rfl⟩⟩ := hrel
  cases gk with
  | zero => exact absurd HA.out (by simp [impl_endOf.l0])
  | succ k1 =>
   have H := HA.out
   clear HA
   simp only [impl_endOf.l0] at H
   by_cases c3 : x5_1 < (l0.length : Int)
   ·rw [if_pos c3] at H
    have c3b0 : decide (x5_1 < (l0.length : Int)) = true := decide_eq_true c3
    clear c3
    by_cases c4 : 0 ≤ x5_1
    ·rw [if_pos c4] at H
     have c4b0 : decide (0 ≤ x5_1) = true := decide_eq_true c4
     clear c4
     by_cases c5 : 0 ≤ a1
     ·rw [if_pos c5] at H
      have c5b0 : decide (0 ≤ a1) = true := decide_eq_true c5
      clear c5
      by_cases c6 : a1 < (l0.length : Int)
      ·rw [if_pos c6] at H
       have c6b0 : decide (a1 < (l0.length : Int)) = true := decide_eq_true c6
       clear c6
       by_cases c7 : ((rd_T90 l0 x5_1).f1) > ((rd_T90 l0 a1).f1)
       ·rw [if_pos c7] at H
        have c7b0 : decide (((rd_T90 l0 a1).f1) < ((rd_T90 l0 x5_1).f1)) = true := decide_eq_true c7
        clear c7
        have H' := Aside0.mk H
        clear H
        have p401 : 0 ≤ (x5_1 : Int) := od_
        have q401 : x5_1 < (l0.length : Int) := od_
        obtain ⟨ad401, e401, hx401_0, hx401_1⟩ := at_T90 HR0.out x5_1 p401 q401
        cases e401
        replace p401 := eq_true p401
        replace q401 := eq_true q401
        have p402 : 0 ≤ (a1 : Int) := od_
        have q402 : a1 < (l0.length : Int) := od_
        obtain ⟨ad402, e402, hx402_0, hx402_1⟩ := at_T90 HR0.out a1 p402 q402
        obtain rfl : ad401 = ad402 := (by injection e402)
        replace p402 := eq_true p402
        replace q402 := eq_true q402
        go_wp2
        repeat (go_quiet (fail); try go_wp2)
        go_roundg k1
        case measure => have := HK1.out; omega
        case rel => exact ⟨(wrap64 (x5_1 + 1)), eb_, H', ⟨by have := HK1.out; omega⟩, by repeat (first | exact Drawn0.refl _ | apply Drawn0.step)⟩
       ·rw [if_neg c7] at H
        have c7b0 : decide (((rd_T90 l0 a1).f1) < ((rd_T90 l0 x5_1).f1)) = false := decide_eq_false c7
        clear c7
        obtain rfl := Option.some.inj H
        have p401 : 0 ≤ (x5_1 : Int) := od_
        have q401 : x5_1 < (l0.length : Int) := od_
        obtain ⟨ad401, e401, hx401_0, hx401_1⟩ := at_T90 HR0.out x5_1 p401 q401
        cases e401
        replace p401 := eq_true p401
        replace q401 := eq_true q401
        have p402 : 0 ≤ (a1 : Int) := od_
        have q402 : a1 < (l0.length : Int) := od_
        obtain ⟨ad402, e402, hx402_0, hx402_1⟩ := at_T90 HR0.out a1 p402 q402
        obtain rfl : ad401 = ad402 := (by injection e402)
        replace p402 := eq_true p402
        replace q402 := eq_true q402
        go_wp2
        repeat (go_quiet (fail); try go_wp2)
        go_ret
        exact ⟨by first | rfl | (simp; done) | (simp [*]; done), by repeat (first | exact Drawn0.refl _ | apply Drawn0.step)⟩
      ·rw [if_neg c6] at H
       exact absurd H (by simp)
     ·rw [if_neg c5] at H
      exact absurd H (by simp)
    ·rw [if_neg c4] at H
     exact absurd H (by simp)
   ·rw [if_neg c3] at H
    have c3b0 : decide (x5_1 < (l0.length : Int)) = false := decide_eq_false c3
    clear c3
    obtain rfl := Option.some.inj H
    go_wp2
    repeat (go_quiet (fail); try go_wp2)
    go_ret
    exact ⟨by first | rfl | (simp; done) | (simp [*]; done), by repeat (first | exact Drawn0.refl _ | apply Drawn0.step)⟩
end Go.Proofs.Ytbifdckfglejkaa.X
namespace Go.Proofs.Ytbifdckfglejkaa.X
open Go.RowKit Go.Proofs.YtbifdckfglejkaaW.PrintWords Go.Proofs.YtbifdckfglejkaaW.PrintLast Go.Proofs.YtbifdckfglejkaaW.PrintMore
attribute [local go_sem] max2_int min2_int max_two min_two max_three min_three max_four min_four   -- for this text's walks alone
set_option linter.unusedVariables false
set_option linter.unusedSimpArgs false
def impl_hasNode.f (k : Nat) (l0 : List (S90)) (a1 : Int) : Option (Bool) := (impl_TreeOk.f k l0).bind fun t403 => (if t403 = true then ((impl_within.f a1 0 (wrap64 ((l0.length : Int) - 1))).bind fun t404 => (some t404)) else (some false))
set_option maxHeartbeats 8000000 in
set_option maxRecDepth 100000 in
theorem impl_hasNode.calls (k : Nat) (A0 : Option Addr) (c0 : Nat) (l0 : List (S90)) (a1 : Int) (r : Bool) (w : World) (hr0 : Kd.C k90 w A0 l0.length l0) (hc0 : l0.length ≤ c0) (h : impl_hasNode.f k l0 a1 = some r) :
  Calls Try.prog 125 #[.slice A0 l0.length c0, .int .i64 a1] w fun e w' => e = .returned (.bool r) ∧ Below w.heap.size w w' := by
 have HR0 := Aside0.mk hr0
 have HC0 := Aside0.mk hc0
 clear hr0 hc0
 have HB := Aside0.mk (Below.refl w.heap.size w)
 have H : ((impl_TreeOk.f k l0).bind fun t403 => (if t403 = true then ((impl_within.f a1 0 (wrap64 ((l0.length : Int) - 1))).bind fun t404 => (some t404)) else (some false))) = some r := h
 clear h
 replace H := Option.bind_eq_some_iff.mp H
 obtain ⟨t403, A30, H⟩ := H
 try dsimp only at H
 have A3 := Aside0.mk A30
 clear A30
 by_cases c4 : t403 = true
 ·subst c4
  have H1 : ((impl_within.f a1 0 (wrap64 ((l0.length : Int) - 1))).bind fun t404 => (some t404)) = some r := by rw [if_pos rfl] at H; exact H
  clear H
  have H := H1
  clear H1
  replace H := Option.bind_eq_some_iff.mp H
  obtain ⟨t404, A50, H⟩ := H
  replace H : (some t404) = some r := H
  have A5 := Aside0.mk A50
  clear A50
  obtain rfl := Option.some.inj H
  go_enter Try.func125, Try.ntmps125
  go_wp2_with (first | ((with_reducible refine gate_callee (f := 102) rfl ?_); refine gL_ (some 6) Try.func102 #[.slice A0 l0.length c0] ?_; (with_reducible refine (impl_TreeOk.calls k _ _ l0 true _ (cc_ HR0.out) HC0.out A3.out).mono ?_); rintro e w6 ⟨rfl, hb⟩; refine ⟨_, rfl, ?_⟩; replace HB := tB_ HB hb; (try clear hb)) | (go_at_call 117; (with_reducible refine (impl_within.calls a1 0 (wrap64 ((l0.length : Int) - 1)) t404 _ A5.out).mono ?_); rintro e w' ⟨rfl, ⟨nd, rfl⟩⟩))
  go_ret
  exact ⟨ea_, (bl_ HB).out⟩
 ·replace c4 := Bool.eq_false_iff.mpr c4
  subst c4
  have H1 : (some false) = some r := by rw [if_neg (show ¬ (false = true) by decide)] at H; exact H
  clear H
  have H := H1
  clear H1
  obtain rfl := Option.some.inj H
  go_enter Try.func125, Try.ntmps125
  go_wp2_with (first | ((with_reducible refine gate_callee (f := 102) rfl ?_); refine gL_ (some 6) Try.func102 #[.slice A0 l0.length c0] ?_; (with_reducible refine (impl_TreeOk.calls k _ _ l0 false _ (cc_ HR0.out) HC0.out A3.out).mono ?_); rintro e w7 ⟨rfl, hb⟩; refine ⟨_, rfl, ?_⟩; replace HB := tB_ HB hb; (try clear hb)))
  go_ret
  exact ⟨ea_, (bl_ HB).out⟩
end Go.Proofs.Ytbifdckfglejkaa.X
namespace Go.Proofs.Ytbifdckfglejkaa.X
open Go.RowKit Go.Proofs.YtbifdckfglejkaaW.PrintWords Go.Proofs.YtbifdckfglejkaaW.PrintLast Go.Proofs.YtbifdckfglejkaaW.PrintMore
attribute [local go_sem] max2_int min2_int max_two min_two max_three min_three max_four min_four   -- for this text's walks alone
set_option linter.unusedVariables false
set_option linter.unusedSimpArgs false
def impl_KidsOf.l0 : Nat → List (S90) → Int → List Int → Int → Option (List Int)
 | 0, _, _, _, _ => none
 | k + 1, x0, x1, x5, x6 => (impl_endOf.f k x0 x1).bind fun t409 => (if x6 < t409 then (if 0 ≤ x6 then (if x6 < (x0.length : Int) then (if 0 ≤ x1 then (if x1 < (x0.length : Int) then (if ((rd_T90 x0 x6).f1) = (wrap64 (((rd_T90 x0 x1).f1) + 1)) then (if x5.length < 17592186044416 then (impl_KidsOf.l0 k x0 x1 (x5 ++ [x6]) (wrap64 (x6 + 1))) else (none)) else (impl_KidsOf.l0 k x0 x1 x5 (wrap64 (x6 + 1)))) else (none)) else (none)) else (none)) else (none)) else (some x5))
def impl_KidsOf.f (k : Nat) (l0 : List (S90)) (a1 : Int) : Option (List Int) := (some (([] : List Int) : List Int)).bind fun y405 => ((impl_hasNode.f k l0 a1).bind fun t408 => (if t408 = true then (impl_KidsOf.l0 k l0 a1 y405 (wrap64 (a1 + 1))) else (some y405)))
set_option maxHeartbeats 8000000 in
set_option maxRecDepth 100000 in
theorem impl_KidsOf.calls (k : Nat) (A0 : Option Addr) (c0 : Nat) (l0 : List (S90)) (a1 : Int) (r : List Int) (w : World) (hr0 : Kd.C k90 w A0 l0.length l0) (hc0 : l0.length ≤ c0) (h : impl_KidsOf.f k l0 a1 = some r) :
  Calls Try.prog 122 #[.slice A0 l0.length c0, .int .i64 a1] w fun e w' => ∃ v0_ : Value, e = .returned (v0_) ∧ Kd.R (Kd.int .i64) 3 w' w.heap.size (fun _ => True) v0_ r ∧ Below w.heap.size w w' := by
 have HR0 := Aside0.mk hr0
 have HC0 := Aside0.mk hc0
 clear hr0 hc0
 have HB := Aside0.mk (Below.refl w.heap.size w)
 have H : ((some (([] : List Int) : List Int)).bind fun y405 => ((impl_hasNode.f k l0 a1).bind fun t408 => (if t408 = true then (impl_KidsOf.l0 k l0 a1 y405 (wrap64 (a1 + 1))) else (some y405)))) = some r := h
 clear h
 obtain ⟨y405, hy405⟩ : ∃ y_ : List Int, y_ = (([] : List Int)) := ⟨_, rfl⟩
 replace H : ((impl_hasNode.f k l0 a1).bind fun t408 => (if t408 = true then (impl_KidsOf.l0 k l0 a1 y405 (wrap64 (a1 + 1))) else (some y405))) = some r := by first | (rw [hy405]; with_reducible exact H) | (have H2_ := (Option.bind_some _ _).symm.trans H; rw [hy405]; with_reducible exact H2_) | (have H2_ := (Option.bind_some _ _).symm.trans H; with_reducible exact H2_) | with_reducible exact H | (rw [hy405]; exact H) | exact H
 have Ny405 := Aside0.mk hy405
 clear hy405
 replace H := Option.bind_eq_some_iff.mp H
 obtain ⟨t408, A30, H⟩ := H
 replace H : (if t408 = true then (impl_KidsOf.l0 k l0 a1 y405 (wrap64 (a1 + 1))) else (some y405)) = some r := H
 have A3 := Aside0.mk A30
 clear A30
 by_cases c4 : t408 = true
 ·subst c4
  have H1 : (impl_KidsOf.l0 k l0 a1 y405 (wrap64 (a1 + 1))) = some r := by rw [if_pos rfl] at H; exact H
  clear H
  have H := H1
  clear H1
  have H' := Aside0.mk H
  clear H
  go_enter Try.func122, Try.ntmps122
  go_wp2_with (first | ((with_reducible refine gate_dst (N := 7) rfl ?_); refine Kd.R_lit (Kd.int .i64) _ 3 ?hg (N := 7) ?hd (xs := ([] : List Int)) (inner := []) (ok := fun _ => True) (okp := fun _ => True) ?hr ?hp (fun _ hk => hk) trivial (Below.refl _ _) (Nat.le_refl _) (by simp) ?_; (case hd => rfl); (case hg => rfl); (case hr => first | (go_simp; done) | (go_simp; rfl)); (case hp => exact (Reps.none _ _)); intro v406 w5 ho6 hb hg_ hnew_; clear hg_ hnew_; (first | rw [← Ny405.out] at ho6 | (simp only [Int.reduceToNat] at ho6; rw [← Ny405.out] at ho6)); have HO407 := Aside0.mk (Kd.R_lower ho6 (bs_ HB)); replace HB := tB_ HB hb; clear hb ho6) | (go_at_call 125; (with_reducible refine (impl_hasNode.calls k _ _ l0 a1 true _ (cx_ HR0 HB) HC0.out A3.out).mono ?_); rintro e w7 ⟨rfl, hb⟩; replace HO407 := tR_ HO407 hb; replace HB := tB_ HB hb; (try clear hb)))
  repeat (go_quiet (first | ((with_reducible refine gate_dst (N := 7) rfl ?_); refine Kd.R_lit (Kd.int .i64) _ 3 ?hg (N := 7) ?hd (xs := ([] : List Int)) (inner := []) (ok := fun _ => True) (okp := fun _ => True) ?hr ?hp (fun _ hk => hk) trivial (Below.refl _ _) (Nat.le_refl _) (by simp) ?_; (case hd => rfl); (case hg => rfl); (case hr => first | (go_simp; done) | (go_simp; rfl)); (case hp => exact (Reps.none _ _)); intro v406 w5 ho6 hb hg_ hnew_; clear hg_ hnew_; (first | rw [← Ny405.out] at ho6 | (simp only [Int.reduceToNat] at ho6; rw [← Ny405.out] at ho6)); have HO407 := Aside0.mk (Kd.R_lower ho6 (bs_ HB)); replace HB := tB_ HB hb; clear hb ho6) | (go_at_call 125; (with_reducible refine (impl_hasNode.calls k _ _ l0 a1 true _ (cx_ HR0 HB) HC0.out A3.out).mono ?_); rintro e w7 ⟨rfl, hb⟩; replace HO407 := tR_ HO407 hb; replace HB := tB_ HB hb; (try clear hb))); try go_wp2_with (first | ((with_reducible refine gate_dst (N := 7) rfl ?_); refine Kd.R_lit (Kd.int .i64) _ 3 ?hg (N := 7) ?hd (xs := ([] : List Int)) (inner := []) (ok := fun _ => True) (okp := fun _ => True) ?hr ?hp (fun _ hk => hk) trivial (Below.refl _ _) (Nat.le_refl _) (by simp) ?_; (case hd => rfl); (case hg => rfl); (case hr => first | (go_simp; done) | (go_simp; rfl)); (case hp => exact (Reps.none _ _)); intro v406 w5 ho6 hb hg_ hnew_; clear hg_ hnew_; (first | rw [← Ny405.out] at ho6 | (simp only [Int.reduceToNat] at ho6; rw [← Ny405.out] at ho6)); have HO407 := Aside0.mk (Kd.R_lower ho6 (bs_ HB)); replace HB := tB_ HB hb; clear hb ho6) | (go_at_call 125; (with_reducible refine (impl_hasNode.calls k _ _ l0 a1 true _ (cx_ HR0 HB) HC0.out A3.out).mono ?_); rintro e w7 ⟨rfl, hb⟩; replace HO407 := tR_ HO407 hb; replace HB := tB_ HB hb; (try clear hb))))
  go_loopg [5, 6] k (fun kq v5 v6 w' => ∃ (x5_1 : List Int) (x6_1 : Int), v6 = .int .i64 x6_1 ∧ Aside0 (impl_KidsOf.l0 kq l0 a1 x5_1 x6_1 = some r) ∧ Aside0 (kq ≤ k) ∧ Aside0 (Kd.R (Kd.int .i64) 3 w' w.heap.size (fun _ => True) v5 x5_1) ∧ Aside0 (Below w.heap.size w w'))
  case atStart => exact ⟨(y405), (wrap64 (a1 + 1)), eb_, H', ⟨Nat.le_refl _⟩, ⟨rx_ HO407.out⟩, bl_ HB⟩
  case round =>
   clear H'
   try clear c1
   try clear p2
   try clear c4
   try clear p6
   obtain ⟨x5_1, x6_1, rfl, HA, HK1, HO_5, HB⟩ := hrel
   cases gk with
   | zero => exact absurd HA.out (by simp [impl_KidsOf.l0])
   | succ k1 =>
    have H := HA.out
    clear HA
    simp only [impl_KidsOf.l0] at H
    replace H := Option.bind_eq_some_iff.mp H
    obtain ⟨t409, A80, H⟩ := H
    try dsimp only at H
    have A8 := Aside0.mk A80
    clear A80
    by_cases c9 : x6_1 < t409
    ·rw [if_pos c9] at H
     have c9b0 : decide (x6_1 < t409) = true := decide_eq_true c9
     clear c9
     by_cases c10 : 0 ≤ x6_1
     ·rw [if_pos c10] at H
      have c10b0 : decide (0 ≤ x6_1) = true := decide_eq_true c10
      clear c10
      by_cases c11 : x6_1 < (l0.length : Int)
      ·rw [if_pos c11] at H
       have c11b0 : decide (x6_1 < (l0.length : Int)) = true := decide_eq_true c11
       clear c11
       by_cases c12 : 0 ≤ a1
       ·rw [if_pos c12] at H
        have c12b0 : decide (0 ≤ a1) = true := decide_eq_true c12
        clear c12
        by_cases c13 : a1 < (l0.length : Int)
        ·rw [if_pos c13] at H
         have c13b0 : decide (a1 < (l0.length : Int)) = true := decide_eq_true c13
         clear c13
         by_cases c14 : ((rd_T90 l0 x6_1).f1) = (wrap64 (((rd_T90 l0 a1).f1) + 1))
         ·rw [if_pos c14] at H
          have c14b0 : (((rd_T90 l0 x6_1).f1) == (wrap64 (((rd_T90 l0 a1).f1) + 1))) = true := beq_iff_eq.mpr c14
          have c14b1 : (((rd_T90 l0 x6_1).f1) != (wrap64 (((rd_T90 l0 a1).f1) + 1))) = false := bne_eq_false_iff_eq.mpr c14
          clear c14
          by_cases c15 : x5_1.length < 17592186044416
          ·rw [if_pos c15] at H
           have LMc15 := Aside0.mk c15
           clear c15
           obtain ⟨y412, hy412⟩ : ∃ y_ : List Int, y_ = (x5_1 ++ [x6_1]) := ⟨_, rfl⟩
           replace H : (impl_KidsOf.l0 k1 l0 a1 y412 (wrap64 (x6_1 + 1))) = some r := by first | (rw [hy412]; with_reducible exact H) | (have H2_ := (Option.bind_some _ _).symm.trans H; rw [hy412]; with_reducible exact H2_) | (have H2_ := (Option.bind_some _ _).symm.trans H; with_reducible exact H2_) | with_reducible exact H | (rw [hy412]; exact H) | exact H
           have Ny412 := Aside0.mk hy412
           clear hy412
           have H' := Aside0.mk H
           clear H
           go_wp2_with (first | (go_at_call 105; (with_reducible refine (impl_endOf.calls k1 _ _ l0 a1 t409 _ (cx_ HR0 HB) HC0.out A8.out).mono ?_); rintro e w' ⟨rfl, ⟨nd, rfl⟩⟩; (try first | exact ⟨rfl, _, World.drewN_drewN _ _ _⟩ | exact ⟨rfl, _, Eq.trans (World.drewN_drewN _ _ _) (congrArg (World.drewN _) (Nat.add_assoc _ _ _))⟩); have p410 : 0 ≤ (x6_1 : Int) := od_; have q410 : x6_1 < (l0.length : Int) := od_; obtain ⟨ad410, e410, hx410_0, hx410_1⟩ := at_T90 HR0.out x6_1 p410 q410; cases e410; replace hx410_0 := ce_ HB hx410_0; replace hx410_1 := ce_ HB hx410_1; replace p410 := eq_true p410; replace q410 := eq_true q410; have p411 : 0 ≤ (a1 : Int) := od_; have q411 : a1 < (l0.length : Int) := od_; obtain ⟨ad411, e411, hx411_0, hx411_1⟩ := at_T90 HR0.out a1 p411 q411; obtain rfl : ad410 = ad411 := (by injection e411); replace hx411_0 := ce_ HB hx411_0; replace hx411_1 := ce_ HB hx411_1; replace p411 := eq_true p411; replace q411 := eq_true q411) | ((with_reducible refine gate_builtin (b := .append) (xs := #[.tmp 34, .tmp 36]) rfl ?_); at_builtin; refine Kd.R_append (Kd.int .i64) (w0 := w) w.heap.size rfl (.tmp 34) (.tmp 36) 39 3 (.int .i64 0) 8 rfl Try.underlying39 info3 rfl (by decide) (by omega) u5 x5_1 x6_1 [.int .i64 x6_1] (fun _ => True) (fun _ => False) rfl rfl ?aP (fun _ hk => hk.elim) ?aF ?aO ?aB ?aS ?aL ?_; (case aP => exact rfl); (case aB => exact ((bl_ HB).out)); (case aF => exact (fun _ _ => trivial)); (case aO => exact (rx_ HO_5.out)); (case aS => exact (bs_ HB)); (case aL => have := LMc15.out; omega); intro v413 w16 ho hb hg hat; rw [← Ny412.out] at ho; replace HB := Aside0.mk (hb); have HO414 := Aside0.mk (ho); clear HO_5; clear ho hb hg hat))
           repeat (go_quiet (first | (go_at_call 105; (with_reducible refine (impl_endOf.calls k1 _ _ l0 a1 t409 _ (cx_ HR0 HB) HC0.out A8.out).mono ?_); rintro e w' ⟨rfl, ⟨nd, rfl⟩⟩; (try first | exact ⟨rfl, _, World.drewN_drewN _ _ _⟩ | exact ⟨rfl, _, Eq.trans (World.drewN_drewN _ _ _) (congrArg (World.drewN _) (Nat.add_assoc _ _ _))⟩); have p410 : 0 ≤ (x6_1 : Int) := od_; have q410 : x6_1 < (l0.length : Int) := od_; obtain ⟨ad410, e410, hx410_0, hx410_1⟩ := at_T90 HR0.out x6_1 p410 q410; cases e410; replace hx410_0 := ce_ HB hx410_0; replace hx410_1 := ce_ HB hx410_1; replace p410 := eq_true p410; replace q410 := eq_true q410; have p411 : 0 ≤ (a1 : Int) := od_; have q411 : a1 < (l0.length : Int) := od_; obtain ⟨ad411, e411, hx411_0, hx411_1⟩ := at_T90 HR0.out a1 p411 q411; obtain rfl : ad410 = ad411 := (by injection e411); replace hx411_0 := ce_ HB hx411_0; replace hx411_1 := ce_ HB hx411_1; replace p411 := eq_true p411; replace q411 := eq_true q411) | ((with_reducible refine gate_builtin (b := .append) (xs := #[.tmp 34, .tmp 36]) rfl ?_); at_builtin; refine Kd.R_append (Kd.int .i64) (w0 := w) w.heap.size rfl (.tmp 34) (.tmp 36) 39 3 (.int .i64 0) 8 rfl Try.underlying39 info3 rfl (by decide) (by omega) u5 x5_1 x6_1 [.int .i64 x6_1] (fun _ => True) (fun _ => False) rfl rfl ?aP (fun _ hk => hk.elim) ?aF ?aO ?aB ?aS ?aL ?_; (case aP => exact rfl); (case aB => exact ((bl_ HB).out)); (case aF => exact (fun _ _ => trivial)); (case aO => exact (rx_ HO_5.out)); (case aS => exact (bs_ HB)); (case aL => have := LMc15.out; omega); intro v413 w16 ho hb hg hat; rw [← Ny412.out] at ho; replace HB := Aside0.mk (hb); have HO414 := Aside0.mk (ho); clear HO_5; clear ho hb hg hat)); try go_wp2_with (first | (go_at_call 105; (with_reducible refine (impl_endOf.calls k1 _ _ l0 a1 t409 _ (cx_ HR0 HB) HC0.out A8.out).mono ?_); rintro e w' ⟨rfl, ⟨nd, rfl⟩⟩; (try first | exact ⟨rfl, _, World.drewN_drewN _ _ _⟩ | exact ⟨rfl, _, Eq.trans (World.drewN_drewN _ _ _) (congrArg (World.drewN _) (Nat.add_assoc _ _ _))⟩); have p410 : 0 ≤ (x6_1 : Int) := od_; have q410 : x6_1 < (l0.length : Int) := od_; obtain ⟨ad410, e410, hx410_0, hx410_1⟩ := at_T90 HR0.out x6_1 p410 q410; cases e410; replace hx410_0 := ce_ HB hx410_0; replace hx410_1 := ce_ HB hx410_1; replace p410 := eq_true p410; replace q410 := eq_true q410; have p411 : 0 ≤ (a1 : Int) := od_; have q411 : a1 < (l0.length : Int) := od_; obtain ⟨ad411, e411, hx411_0, hx411_1⟩ := at_T90 HR0.out a1 p411 q411; obtain rfl : ad410 = ad411 := (by injection e411); replace hx411_0 := ce_ HB hx411_0; replace hx411_1 := ce_ HB hx411_1; replace p411 := eq_true p411; replace q411 := eq_true q411) | ((with_reducible refine gate_builtin (b := .append) (xs := #[.tmp 34, .tmp 36]) rfl ?_); at_builtin; refine Kd.R_append (Kd.int .i64) (w0 := w) w.heap.size rfl (.tmp 34) (.tmp 36) 39 3 (.int .i64 0) 8 rfl Try.underlying39 info3 rfl (by decide) (by omega) u5 x5_1 x6_1 [.int .i64 x6_1] (fun _ => True) (fun _ => False) rfl rfl ?aP (fun _ hk => hk.elim) ?aF ?aO ?aB ?aS ?aL ?_; (case aP => exact rfl); (case aB => exact ((bl_ HB).out)); (case aF => exact (fun _ _ => trivial)); (case aO => exact (rx_ HO_5.out)); (case aS => exact (bs_ HB)); (case aL => have := LMc15.out; omega); intro v413 w16 ho hb hg hat; rw [← Ny412.out] at ho; replace HB := Aside0.mk (hb); have HO414 := Aside0.mk (ho); clear HO_5; clear ho hb hg hat)))
           go_roundg k1
           case measure => have := HK1.out; omega
           case rel => exact ⟨(y412), (wrap64 (x6_1 + 1)), eb_, H', ⟨by have := HK1.out; omega⟩, ⟨rx_ HO414.out⟩, bl_ HB⟩
          ·rw [if_neg c15] at H
           exact absurd H (by simp)
         ·rw [if_neg c14] at H
          have c14b0 : (((rd_T90 l0 x6_1).f1) == (wrap64 (((rd_T90 l0 a1).f1) + 1))) = false := beq_eq_false_iff_ne.mpr c14
          have c14b1 : (((rd_T90 l0 x6_1).f1) != (wrap64 (((rd_T90 l0 a1).f1) + 1))) = true := bne_iff_ne.mpr c14
          have H' := Aside0.mk H
          clear H
          go_wp2_with (first | (go_at_call 105; (with_reducible refine (impl_endOf.calls k1 _ _ l0 a1 t409 _ (cx_ HR0 HB) HC0.out A8.out).mono ?_); rintro e w' ⟨rfl, ⟨nd, rfl⟩⟩; (try first | exact ⟨rfl, _, World.drewN_drewN _ _ _⟩ | exact ⟨rfl, _, Eq.trans (World.drewN_drewN _ _ _) (congrArg (World.drewN _) (Nat.add_assoc _ _ _))⟩); have p410 : 0 ≤ (x6_1 : Int) := od_; have q410 : x6_1 < (l0.length : Int) := od_; obtain ⟨ad410, e410, hx410_0, hx410_1⟩ := at_T90 HR0.out x6_1 p410 q410; cases e410; replace hx410_0 := ce_ HB hx410_0; replace hx410_1 := ce_ HB hx410_1; replace p410 := eq_true p410; replace q410 := eq_true q410; have p411 : 0 ≤ (a1 : Int) := od_; have q411 : a1 < (l0.length : Int) := od_; obtain ⟨ad411, e411, hx411_0, hx411_1⟩ := at_T90 HR0.out a1 p411 q411; obtain rfl : ad410 = ad411 := (by injection e411); replace hx411_0 := ce_ HB hx411_0; replace hx411_1 := ce_ HB hx411_1; replace p411 := eq_true p411; replace q411 := eq_true q411))
          repeat (go_quiet (first | (go_at_call 105; (with_reducible refine (impl_endOf.calls k1 _ _ l0 a1 t409 _ (cx_ HR0 HB) HC0.out A8.out).mono ?_); rintro e w' ⟨rfl, ⟨nd, rfl⟩⟩; (try first | exact ⟨rfl, _, World.drewN_drewN _ _ _⟩ | exact ⟨rfl, _, Eq.trans (World.drewN_drewN _ _ _) (congrArg (World.drewN _) (Nat.add_assoc _ _ _))⟩); have p410 : 0 ≤ (x6_1 : Int) := od_; have q410 : x6_1 < (l0.length : Int) := od_; obtain ⟨ad410, e410, hx410_0, hx410_1⟩ := at_T90 HR0.out x6_1 p410 q410; cases e410; replace hx410_0 := ce_ HB hx410_0; replace hx410_1 := ce_ HB hx410_1; replace p410 := eq_true p410; replace q410 := eq_true q410; have p411 : 0 ≤ (a1 : Int) := od_; have q411 : a1 < (l0.length : Int) := od_; obtain ⟨ad411, e411, hx411_0, hx411_1⟩ := at_T90 HR0.out a1 p411 q411; obtain rfl : ad410 = ad411 := (by injection e411); replace hx411_0 := ce_ HB hx411_0; replace hx411_1 := ce_ HB hx411_1; replace p411 := eq_true p411; replace q411 := eq_true q411)); try go_wp2_with (first | (go_at_call 105; (with_reducible refine (impl_endOf.calls k1 _ _ l0 a1 t409 _ (cx_ HR0 HB) HC0.out A8.out).mono ?_); rintro e w' ⟨rfl, ⟨nd, rfl⟩⟩; (try first | exact ⟨rfl, _, World.drewN_drewN _ _ _⟩ | exact ⟨rfl, _, Eq.trans (World.drewN_drewN _ _ _) (congrArg (World.drewN _) (Nat.add_assoc _ _ _))⟩); have p410 : 0 ≤ (x6_1 : Int) := od_; have q410 : x6_1 < (l0.length : Int) := od_; obtain ⟨ad410, e410, hx410_0, hx410_1⟩ := at_T90 HR0.out x6_1 p410 q410; cases e410; replace hx410_0 := ce_ HB hx410_0; replace hx410_1 := ce_ HB hx410_1; replace p410 := eq_true p410; replace q410 := eq_true q410; have p411 : 0 ≤ (a1 : Int) := od_; have q411 : a1 < (l0.length : Int) := od_; obtain ⟨ad411, e411, hx411_0, hx411_1⟩ := at_T90 HR0.out a1 p411 q411; obtain rfl : ad410 = ad411 := (by injection e411); replace hx411_0 := ce_ HB hx411_0; replace hx411_1 := ce_ HB hx411_1; replace p411 := eq_true p411; replace q411 := eq_true q411)))
          go_roundg k1
          case measure => have := HK1.out; omega
          case rel => exact ⟨(x5_1), (wrap64 (x6_1 + 1)), eb_, H', ⟨by have := HK1.out; omega⟩, ⟨rx_ HO_5.out⟩, bl_ HB⟩
        ·rw [if_neg c13] at H
         exact absurd H (by simp)
       ·rw [if_neg c12] at H
        exact absurd H (by simp)
      ·rw [if_neg c11] at H
       exact absurd H (by simp)
     ·rw [if_neg c10] at H
      exact absurd H (by simp)
    ·rw [if_neg c9] at H
     have c9b0 : decide (x6_1 < t409) = false := decide_eq_false c9
     clear c9
     obtain rfl := Option.some.inj H
     go_wp2_with (first | (go_at_call 105; (with_reducible refine (impl_endOf.calls k1 _ _ l0 a1 t409 _ (cx_ HR0 HB) HC0.out A8.out).mono ?_); rintro e w' ⟨rfl, ⟨nd, rfl⟩⟩; (try first | exact ⟨rfl, _, World.drewN_drewN _ _ _⟩ | exact ⟨rfl, _, Eq.trans (World.drewN_drewN _ _ _) (congrArg (World.drewN _) (Nat.add_assoc _ _ _))⟩)))
     repeat (go_quiet (first | (go_at_call 105; (with_reducible refine (impl_endOf.calls k1 _ _ l0 a1 t409 _ (cx_ HR0 HB) HC0.out A8.out).mono ?_); rintro e w' ⟨rfl, ⟨nd, rfl⟩⟩; (try first | exact ⟨rfl, _, World.drewN_drewN _ _ _⟩ | exact ⟨rfl, _, Eq.trans (World.drewN_drewN _ _ _) (congrArg (World.drewN _) (Nat.add_assoc _ _ _))⟩))); try go_wp2_with (first | (go_at_call 105; (with_reducible refine (impl_endOf.calls k1 _ _ l0 a1 t409 _ (cx_ HR0 HB) HC0.out A8.out).mono ?_); rintro e w' ⟨rfl, ⟨nd, rfl⟩⟩; (try first | exact ⟨rfl, _, World.drewN_drewN _ _ _⟩ | exact ⟨rfl, _, Eq.trans (World.drewN_drewN _ _ _) (congrArg (World.drewN _) (Nat.add_assoc _ _ _))⟩))))
     go_ret
     exact ⟨_, ea_, rx_ HO_5.out, (bl_ HB).out⟩
 ·replace c4 := Bool.eq_false_iff.mpr c4
  subst c4
  have H1 : (some y405) = some r := by rw [if_neg (show ¬ (false = true) by decide)] at H; exact H
  clear H
  have H := H1
  clear H1
  obtain rfl := Option.some.inj H
  go_enter Try.func122, Try.ntmps122
  go_wp2_with (first | ((with_reducible refine gate_dst (N := 7) rfl ?_); refine Kd.R_lit (Kd.int .i64) _ 3 ?hg (N := 7) ?hd (xs := ([] : List Int)) (inner := []) (ok := fun _ => True) (okp := fun _ => True) ?hr ?hp (fun _ hk => hk) trivial (Below.refl _ _) (Nat.le_refl _) (by simp) ?_; (case hd => rfl); (case hg => rfl); (case hr => first | (go_simp; done) | (go_simp; rfl)); (case hp => exact (Reps.none _ _)); intro v406 w17 ho18 hb hg_ hnew_; clear hg_ hnew_; (first | rw [← Ny405.out] at ho18 | (simp only [Int.reduceToNat] at ho18; rw [← Ny405.out] at ho18)); have HO407 := Aside0.mk (Kd.R_lower ho18 (bs_ HB)); replace HB := tB_ HB hb; clear hb ho18) | (go_at_call 125; (with_reducible refine (impl_hasNode.calls k _ _ l0 a1 false _ (cx_ HR0 HB) HC0.out A3.out).mono ?_); rintro e w19 ⟨rfl, hb⟩; replace HO407 := tR_ HO407 hb; replace HB := tB_ HB hb; (try clear hb)))
  repeat (go_quiet (first | ((with_reducible refine gate_dst (N := 7) rfl ?_); refine Kd.R_lit (Kd.int .i64) _ 3 ?hg (N := 7) ?hd (xs := ([] : List Int)) (inner := []) (ok := fun _ => True) (okp := fun _ => True) ?hr ?hp (fun _ hk => hk) trivial (Below.refl _ _) (Nat.le_refl _) (by simp) ?_; (case hd => rfl); (case hg => rfl); (case hr => first | (go_simp; done) | (go_simp; rfl)); (case hp => exact (Reps.none _ _)); intro v406 w17 ho18 hb hg_ hnew_; clear hg_ hnew_; (first | rw [← Ny405.out] at ho18 | (simp only [Int.reduceToNat] at ho18; rw [← Ny405.out] at ho18)); have HO407 := Aside0.mk (Kd.R_lower ho18 (bs_ HB)); replace HB := tB_ HB hb; clear hb ho18) | (go_at_call 125; (with_reducible refine (impl_hasNode.calls k _ _ l0 a1 false _ (cx_ HR0 HB) HC0.out A3.out).mono ?_); rintro e w19 ⟨rfl, hb⟩; replace HO407 := tR_ HO407 hb; replace HB := tB_ HB hb; (try clear hb))); try go_wp2_with (first | ((with_reducible refine gate_dst (N := 7) rfl ?_); refine Kd.R_lit (Kd.int .i64) _ 3 ?hg (N := 7) ?hd (xs := ([] : List Int)) (inner := []) (ok := fun _ => True) (okp := fun _ => True) ?hr ?hp (fun _ hk => hk) trivial (Below.refl _ _) (Nat.le_refl _) (by simp) ?_; (case hd => rfl); (case hg => rfl); (case hr => first | (go_simp; done) | (go_simp; rfl)); (case hp => exact (Reps.none _ _)); intro v406 w17 ho18 hb hg_ hnew_; clear hg_ hnew_; (first | rw [← Ny405.out] at ho18 | (simp only [Int.reduceToNat] at ho18; rw [← Ny405.out] at ho18)); have HO407 := Aside0.mk (Kd.R_lower ho18 (bs_ HB)); replace HB := tB_ HB hb; clear hb ho18) | (go_at_call 125; (with_reducible refine (impl_hasNode.calls k _ _ l0 a1 false _ (cx_ HR0 HB) HC0.out A3.out).mono ?_); rintro e w19 ⟨rfl, hb⟩; replace HO407 := tR_ HO407 hb; replace HB := tB_ HB hb; (try clear hb))))
  go_ret
  exact ⟨_, ea_, rx_ HO407.out, (bl_ HB).out⟩
end Go.Proofs.Ytbifdckfglejkaa.X
namespace Go.Proofs.Ytbifdckfglejkaa.X
open Go.RowKit Go.Proofs.YtbifdckfglejkaaW.PrintWords Go.Proofs.YtbifdckfglejkaaW.PrintLast Go.Proofs.YtbifdckfglejkaaW.PrintMore
attribute [local go_sem] max2_int min2_int max_two min_two max_three min_three max_four min_four   -- for this text's walks alone
set_option linter.unusedVariables false
set_option linter.unusedSimpArgs false
def impl_NodeAt.l0 : Nat → List (S90) → Int → List Int → Int → Int → Option (Int)
 | 0, _, _, _, _, _ => none
 | k + 1, x0, x5, x12, x13, x14 => if x14 < x13 then (if 0 ≤ x14 then (if x14 < (x12.length : Int) then ((impl_KidsOf.f k x0 x5).bind fun t417 => ((impl_within.f (rd x12 x14) 0 (wrap64 ((t417.length : Int) - 1))).bind fun t420 => (if t420 = true then (if 0 ≤ (rd x12 x14) then (if (rd x12 x14) < (t417.length : Int) then (impl_NodeAt.l0 k x0 (rd t417 (rd x12 x14)) x12 x13 (wrap64 (x14 + 1))) else (none)) else (none)) else (some (-1))))) else (none)) else (none)) else (some x5)
def impl_NodeAt.f (k : Nat) (l0 : List (S90)) (l1 : List Int) : Option (Int) := (impl_TreeOk.f k l0).bind fun t415 => (if t415 = true then (impl_NodeAt.l0 k l0 0 l1 (l1.length : Int) 0) else (some (-1)))
set_option maxHeartbeats 8000000 in
set_option maxRecDepth 100000 in
theorem impl_NodeAt.calls (k : Nat) (A0 : Option Addr) (c0 : Nat) (l0 : List (S90)) (A1 : Option Addr) (c1 : Nat) (l1 : List Int) (r : Int) (w : World) (hr0 : Kd.C k90 w A0 l0.length l0) (hc0 : l0.length ≤ c0) (hr1 : Kd.C (Kd.int .i64) w A1 l1.length l1) (hc1 : l1.length ≤ c1) (h : impl_NodeAt.f k l0 l1 = some r) :
  Calls Try.prog 78 #[.slice A0 l0.length c0, .slice A1 l1.length c1] w fun e w' => e = .returned (.int .i64 r) ∧ Below w.heap.size w w' := by
 have HR0 := Aside0.mk hr0
 have HC0 := Aside0.mk hc0
 clear hr0 hc0
 have HR1 := Aside0.mk hr1
 have HC1 := Aside0.mk hc1
 clear hr1 hc1
 have HB := Aside0.mk (Below.refl w.heap.size w)
 have H : ((impl_TreeOk.f k l0).bind fun t415 => (if t415 = true then (impl_NodeAt.l0 k l0 0 l1 (l1.length : Int) 0) else (some (-1)))) = some r := h
 clear h
 replace H := Option.bind_eq_some_iff.mp H
 obtain ⟨t415, A30, H⟩ := H
 replace H : (if t415 = true then (impl_NodeAt.l0 k l0 0 l1 (l1.length : Int) 0) else (some (-1))) = some r := H
 have A3 := Aside0.mk A30
 clear A30
 by_cases c4 : t415 = true
 ·subst c4
  have H1 : (impl_NodeAt.l0 k l0 0 l1 (l1.length : Int) 0) = some r := by rw [if_pos rfl] at H; exact H
  clear H
  have H := H1
  clear H1
  have H' := Aside0.mk H
  clear H
  go_enter Try.func78, Try.ntmps78
  go_wp2_with (first | ((with_reducible refine gate_callee (f := 102) rfl ?_); refine gL_ (some 10) Try.func102 #[.slice A0 l0.length c0] ?_; (with_reducible refine (impl_TreeOk.calls k _ _ l0 true _ (cc_ HR0.out) HC0.out A3.out).mono ?_); rintro e w5 ⟨rfl, hb⟩; refine ⟨_, rfl, ?_⟩; replace HB := tB_ HB hb; (try clear hb)))
  go_loopg [5, 14] k (fun kq v5 v14 w' => ∃ (x5_1 : Int) (x14_1 : Int), v5 = .int .i64 x5_1 ∧ v14 = .int .i64 x14_1 ∧ Aside0 (impl_NodeAt.l0 kq l0 x5_1 l1 (l1.length : Int) x14_1 = some r) ∧ Aside0 (kq ≤ k) ∧ Aside0 (Below w.heap.size w w'))
  case atStart => exact ⟨(0), (0), eb_, eb_, H', ⟨Nat.le_refl _⟩, bl_ HB⟩
  case round =>
   clear H'
   try clear c1
   try clear p2
   try clear c4
   obtain ⟨x5_1, x14_1, rfl, rfl, HA, HK1, HB⟩ := hrel
   cases gk with
   | zero => exact absurd HA.out (by simp [impl_NodeAt.l0])
   | succ k1 =>
    have H := HA.out
    clear HA
    simp only [impl_NodeAt.l0] at H
    by_cases c6 : x14_1 < (l1.length : Int)
    ·rw [if_pos c6] at H
     have c6b0 : decide (x14_1 < (l1.length : Int)) = true := decide_eq_true c6
     clear c6
     by_cases c7 : 0 ≤ x14_1
     ·rw [if_pos c7] at H
      have c7b0 : decide (0 ≤ x14_1) = true := decide_eq_true c7
      clear c7
      by_cases c8 : x14_1 < (l1.length : Int)
      ·rw [if_pos c8] at H
       have c8b0 : decide (x14_1 < (l1.length : Int)) = true := decide_eq_true c8
       clear c8
       replace H := Option.bind_eq_some_iff.mp H
       obtain ⟨t417, A90, H⟩ := H
       try dsimp only at H
       have A9 := Aside0.mk A90
       clear A90
       replace H := Option.bind_eq_some_iff.mp H
       obtain ⟨t420, A100, H⟩ := H
       try dsimp only at H
       have A10 := Aside0.mk A100
       clear A100
       by_cases c11 : t420 = true
       ·subst c11
        have H1 : (if 0 ≤ (rd l1 x14_1) then (if (rd l1 x14_1) < (t417.length : Int) then (impl_NodeAt.l0 k1 l0 (rd t417 (rd l1 x14_1)) l1 (l1.length : Int) (wrap64 (x14_1 + 1))) else (none)) else (none)) = some r := by rw [if_pos rfl] at H; exact H
        clear H
        have H := H1
        clear H1
        by_cases c12 : 0 ≤ (rd l1 x14_1)
        ·rw [if_pos c12] at H
         have c12b0 : decide (0 ≤ (rd l1 x14_1)) = true := decide_eq_true c12
         clear c12
         by_cases c13 : (rd l1 x14_1) < (t417.length : Int)
         ·rw [if_pos c13] at H
          have c13b0 : decide ((rd l1 x14_1) < (t417.length : Int)) = true := decide_eq_true c13
          clear c13
          have H' := Aside0.mk H
          clear H
          have p416 : 0 ≤ (x14_1 : Int) := od_
          have q416 : x14_1 < (l1.length : Int) := od_
          obtain ⟨ad416, e416, hx416_0⟩ := Kd.at_int HR1.out x14_1 p416 q416
          cases e416
          replace hx416_0 := ce_ HB hx416_0
          replace p416 := eq_true p416
          replace q416 := eq_true q416
          go_wp2_with (first | ((with_reducible refine gate_callee (f := 122) rfl ?_); refine gL_ (some 20) Try.func122 #[.slice A0 l0.length c0, .int .i64 x5_1] ?_; (with_reducible refine (impl_KidsOf.calls k1 _ _ l0 x5_1 t417 _ (cx_ HR0 HB) HC0.out A9.out).mono ?_); rintro e w14 ⟨v418, rfl, ho0, hb⟩; refine ⟨_, rfl, ?_⟩; have HO419 := Aside0.mk (Kd.R_lower ho0 (bs_ HB)); replace HB := tB_ HB hb; (try clear hb); (try clear ho0); obtain ⟨Ao15, co15, eo15⟩ := Kd.R_slice HO419.out; subst eo15) | ((with_reducible refine gate_callee (f := 117) rfl ?_); refine gL_ (some 25) Try.func117 #[.int .i64 (rd l1 x14_1), .int .i64 0, .int .i64 (wrap64 ((t417.length : Int) - 1))] ?_; (with_reducible refine (impl_within.calls (rd l1 x14_1) 0 (wrap64 ((t417.length : Int) - 1)) true _ A10.out).mono ?_); rintro e w' ⟨rfl, ⟨nd, rfl⟩⟩; refine ⟨_, rfl, ?_⟩; have p421 : 0 ≤ ((rd l1 x14_1) : Int) := od_; have q421 : (rd l1 x14_1) < (t417.length : Int) := od_; obtain ⟨ad421, e421, hx421_0⟩ := Kd.at_int (Kd.R_reads' HO419.out).2.2 (rd l1 x14_1) p421 q421; cases e421; replace p421 := eq_true p421; replace q421 := eq_true q421))
          go_roundg k1
          case measure => have := HK1.out; omega
          case rel => exact ⟨(rd t417 (rd l1 x14_1)), (wrap64 (x14_1 + 1)), eb_, eb_, H', ⟨by have := HK1.out; omega⟩, bl_ HB⟩
         ·rw [if_neg c13] at H
          exact absurd H (by simp)
        ·rw [if_neg c12] at H
         exact absurd H (by simp)
       ·replace c11 := Bool.eq_false_iff.mpr c11
        subst c11
        have H1 : (some (-1)) = some r := by rw [if_neg (show ¬ (false = true) by decide)] at H; exact H
        clear H
        have H := H1
        clear H1
        obtain rfl := Option.some.inj H
        have p416 : 0 ≤ (x14_1 : Int) := od_
        have q416 : x14_1 < (l1.length : Int) := od_
        obtain ⟨ad416, e416, hx416_0⟩ := Kd.at_int HR1.out x14_1 p416 q416
        cases e416
        replace hx416_0 := ce_ HB hx416_0
        replace p416 := eq_true p416
        replace q416 := eq_true q416
        go_wp2_with (first | ((with_reducible refine gate_callee (f := 122) rfl ?_); refine gL_ (some 20) Try.func122 #[.slice A0 l0.length c0, .int .i64 x5_1] ?_; (with_reducible refine (impl_KidsOf.calls k1 _ _ l0 x5_1 t417 _ (cx_ HR0 HB) HC0.out A9.out).mono ?_); rintro e w16 ⟨v418, rfl, ho0, hb⟩; refine ⟨_, rfl, ?_⟩; have HO419 := Aside0.mk (Kd.R_lower ho0 (bs_ HB)); replace HB := tB_ HB hb; (try clear hb); (try clear ho0); obtain ⟨Ao17, co17, eo17⟩ := Kd.R_slice HO419.out; subst eo17) | ((with_reducible refine gate_callee (f := 117) rfl ?_); refine gL_ (some 25) Try.func117 #[.int .i64 (rd l1 x14_1), .int .i64 0, .int .i64 (wrap64 ((t417.length : Int) - 1))] ?_; (with_reducible refine (impl_within.calls (rd l1 x14_1) 0 (wrap64 ((t417.length : Int) - 1)) false _ A10.out).mono ?_); rintro e w' ⟨rfl, ⟨nd, rfl⟩⟩; refine ⟨_, rfl, ?_⟩))
        go_ret
        exact ⟨ea_, (bl_ HB).out⟩
      ·rw [if_neg c8] at H
       exact absurd H (by simp)
     ·rw [if_neg c7] at H
      exact absurd H (by simp)
    ·rw [if_neg c6] at H
     have c6b0 : decide (x14_1 < (l1.length : Int)) = false := decide_eq_false c6
     clear c6
     obtain rfl := Option.some.inj H
     go_wp2
     go_ret
     exact ⟨ea_, (bl_ HB).out⟩
 ·replace c4 := Bool.eq_false_iff.mpr c4
  subst c4
  have H1 : (some (-1)) = some r := by rw [if_neg (show ¬ (false = true) by decide)] at H; exact H
  clear H
  have H := H1
  clear H1
  obtain rfl := Option.some.inj H
  go_enter Try.func78, Try.ntmps78
  go_wp2_with (first | ((with_reducible refine gate_callee (f := 102) rfl ?_); refine gL_ (some 10) Try.func102 #[.slice A0 l0.length c0] ?_; (with_reducible refine (impl_TreeOk.calls k _ _ l0 false _ (cc_ HR0.out) HC0.out A3.out).mono ?_); rintro e w18 ⟨rfl, hb⟩; refine ⟨_, rfl, ?_⟩; replace HB := tB_ HB hb; (try clear hb)))
  go_ret
  exact ⟨ea_, (bl_ HB).out⟩
end Go.Proofs.Ytbifdckfglejkaa.X
namespace Go.Proofs.Ytbifdckfglejkaa.X
open Go.RowKit Go.Proofs.YtbifdckfglejkaaW.PrintWords Go.Proofs.YtbifdckfglejkaaW.PrintLast Go.Proofs.YtbifdckfglejkaaW.PrintMore
set_option linter.unusedVariables false
set_option linter.unusedSimpArgs false
def PredB {α : Type} (P : Program) (g : Nat) (lb : Array Value) (enc : α → Value) (p : α → Bool) (w : World) : Prop :=
 ∀ (W : World), Below w.heap.size w W → ∀ x, Calls P g (#[enc x] ++ lb) W fun e w' => e = .returned (.bool (p x)) ∧ Below W.heap.size W w'
set_option maxHeartbeats 2000000 in
theorem indexFunc_int (g : Nat) (lb : Array Value) (p : Int → Bool) (eg : ∀ args w, (callFunc g args).run Try.prog w = .ok (.enter g args) w)
  (A0 : Option Addr) (c0 : Nat) (l0 : List Int) (w : World) (hp : PredB Try.prog g lb (Value.int .i64) p w) (hr0 : Kd.C (Kd.int .i64) w A0 l0.length l0) (hc0 : l0.length ≤ c0) :
  Calls Try.prog 149 #[.slice A0 l0.length c0, .func (.func g) #[] lb] w fun e w' => ∃ n : Int, e = .returned (.int .i64 n) ∧ Aside0 (decide (0 ≤ n) = l0.any p) ∧ Below w.heap.size w w' := by
 have HR0 := Aside0.mk hr0
 have HP := Aside0.mk hp
 have hm := hr0.2.1
 clear hr0 hc0 hp
 go_enter Try.func149, Try.ntmps149
 go_wp2
 go_loopg [5, 8] l0.length (fun gg _ s8 wr => ∃ kk : Nat, kk ≤ l0.length ∧ l0.length - kk ≤ gg ∧ s8 = .int .i64 kk ∧ Aside0 ((l0.take kk).any p = false) ∧ Aside0 (Below w.heap.size w wr))
 case atStart => exact ⟨0, Nat.zero_le _, by omega, rfl, ⟨by simp⟩, ⟨Below.refl _ _⟩⟩
 case round =>
  obtain ⟨kk, hkk, hg, rfl, AN, HB⟩ := hrel
  by_cases hlt : kk < l0.length
  ·have hcl := HP.out wr HB.out (rd l0 kk)
   have HC := Aside0.mk hcl
   clear hcl
   obtain ⟨ad, e, hx⟩ := Kd.at_int (Kd.C_below HR0.out HB.out) kk (by omega) (by omega)
   cases e
   have hany : (l0.take (kk + 1)).any p = ((l0.take kk).any p || p (rd l0 kk)) := by
    rw [List.take_succ_eq_append_getElem hlt, List.any_append]
    simp [rd, List.getD_eq_getElem?_getD, List.getElem?_eq_getElem hlt]
   have HN := Aside0.mk hany
   clear hany
   have hltz : (kk : Int) < (l0.length : Int) := by omega
   rw [Int.toNat_natCast] at hx
   cases hq : p (rd l0 kk) with
   | true =>
    have HQ := Aside0.mk hq
    clear hq
    go_wp2_with fail
    refine HC.out.mono ?_
    rintro e w' ⟨rfl, hb⟩
    have HBB := Aside0.mk (HB.out.trans (hb.mono (below_size HB.out)))
    clear hb
    rw [HQ.out]
    go_wp2
    go_ret
    refine ⟨_, rfl, ⟨?_⟩, HBB.out⟩
    have h1 := HN.out
    rw [HQ.out, Bool.or_true] at h1
    rw [← List.take_append_drop (kk + 1) l0, List.any_append, h1]
    simp
   | false =>
    have HQ := Aside0.mk hq
    clear hq
    go_wp2_with fail
    refine HC.out.mono ?_
    rintro e w' ⟨rfl, hb⟩
    have HBB := Aside0.mk (HB.out.trans (hb.mono (below_size HB.out)))
    clear hb
    rw [HQ.out]
    go_wp2
    go_roundg (l0.length - (kk + 1))
    case measure => omega
    case rel => exact ⟨kk + 1, by omega, by omega, by go_num, ⟨by rw [HN.out, AN.out, HQ.out]; rfl⟩, HBB⟩
  ·have hltz : ¬ (kk : Int) < (l0.length : Int) := by omega
   have e : kk = l0.length := by omega
   have AN2 : Aside0 (l0.any p = false) := ⟨by have := AN.out; rw [e, List.take_length] at this; exact this⟩
   clear AN e
   go_wp2
   go_ret
   exact ⟨-1, rfl, ⟨by rw [AN2.out]; decide⟩, HB.out⟩
set_option maxHeartbeats 2000000 in
theorem containsFunc_int (g : Nat) (lb : Array Value) (p : Int → Bool) (eg : ∀ args w, (callFunc g args).run Try.prog w = .ok (.enter g args) w)
  (A0 : Option Addr) (c0 : Nat) (l0 : List Int) (w : World) (hp : PredB Try.prog g lb (Value.int .i64) p w) (hr0 : Kd.C (Kd.int .i64) w A0 l0.length l0) (hc0 : l0.length ≤ c0) :
  Calls Try.prog 142 #[.slice A0 l0.length c0, .func (.func g) #[] lb] w fun e w' => e = .returned (.bool (l0.any p)) ∧ Below w.heap.size w w' := by
 have HX := Aside0.mk (indexFunc_int g lb p eg A0 c0 l0 w hp hr0 hc0)
 clear hr0 hc0 hp
 go_enter Try.func142, Try.ntmps142
 go_wp2_with (go_at_call 149; refine HX.out.mono ?_; rintro e w' ⟨n, rfl, hn, HB⟩)
 go_ret
 exact ⟨by rw [← hn.out]; rfl, HB⟩
end Go.Proofs.Ytbifdckfglejkaa.X
namespace Go.Proofs.Ytbifdckfglejkaa.X
open Go.RowKit Go.Proofs.YtbifdckfglejkaaW.PrintWords Go.Proofs.YtbifdckfglejkaaW.PrintLast Go.Proofs.YtbifdckfglejkaaW.PrintMore
set_option linter.unusedVariables false
set_option linter.unusedSimpArgs false
def outP (hi : Int) (x : Int) : Bool := !(decide (0 ≤ x ∧ x ≤ hi))
theorem within_out (x hi : Int) : impl_within.f x 0 hi = some (!outP hi x) := by
 unfold impl_within.f outP
 by_cases h : 0 ≤ x
 ·rw [if_pos h]; simp [h]
 ·rw [if_neg h]; simp [h]
end Go.Proofs.Ytbifdckfglejkaa.X
namespace Go.Proofs.Ytbifdckfglejkaa.X
open Go.RowKit Go.Proofs.YtbifdckfglejkaaW.PrintWords Go.Proofs.YtbifdckfglejkaaW.PrintLast Go.Proofs.YtbifdckfglejkaaW.PrintMore
set_option linter.unusedVariables false
set_option linter.unusedSimpArgs false
theorem pricesLit (x : Int) (W : World) : Calls Try.prog 143 #[.int .i64 x] W fun e w' => e = .returned (.bool (outP 1000 x)) ∧ Below W.heap.size W w' := by
 have H := Aside0.mk (impl_within.calls x 0 1000 _ W (within_out x 1000))
 generalize hb : outP 1000 x = b at H
 clear hb
 go_enter Try.func143, Try.ntmps143
 go_wp2_with (go_at_call 117; refine H.out.mono ?_; rintro e w' ⟨rfl, ⟨n, rfl⟩⟩)
 go_ret
 exact ⟨by simp, pw_below_drewN (Below.refl _ _) _⟩
def impl_pricesOk.f (l0 : List Int) (a1 : Int) : Option Bool := some (decide ((l0.length : Int) = a1) && !(l0.any (outP 1000)))
set_option maxHeartbeats 2000000 in
theorem impl_pricesOk.calls (A0 : Option Addr) (c0 : Nat) (l0 : List Int) (a1 : Int) (r : Bool) (w : World) (hr0 : Kd.C (Kd.int .i64) w A0 l0.length l0) (hc0 : l0.length ≤ c0) (h : impl_pricesOk.f l0 a1 = some r) :
  Calls Try.prog 126 #[.slice A0 l0.length c0, .int .i64 a1] w fun e w' => e = .returned (.bool r) ∧ Below w.heap.size w w' := by
 obtain rfl := Option.some.inj h
 clear h
 have HX := Aside0.mk (containsFunc_int 143 #[] (outP 1000) (fun args w => enters_ Try.func143 (by kernel_rfl) rfl args w) A0 c0 l0 w (fun W _ x => pricesLit x W) hr0 hc0)
 clear hr0 hc0
 by_cases c : (l0.length : Int) = a1
 ·have c1 : ((l0.length : Int) == a1) = true := by simpa using c
  have C := Aside0.mk c
  clear c
  go_enter Try.func126, Try.ntmps126
  go_wp2_with (go_at_call 142; refine HX.out.mono ?_; rintro e w' ⟨rfl, HB⟩)
  go_ret
  exact ⟨by simp [C.out], HB⟩
 ·have c1 : ((l0.length : Int) == a1) = false := by simpa using c
  have C := Aside0.mk c
  clear c
  go_enter Try.func126, Try.ntmps126
  go_wp2
  go_ret
  exact ⟨by simp [C.out], Below.refl _ _⟩
end Go.Proofs.Ytbifdckfglejkaa.X
namespace Go.Proofs.Ytbifdckfglejkaa.X
open Go.RowKit Go.Proofs.YtbifdckfglejkaaW.PrintWords Go.Proofs.YtbifdckfglejkaaW.PrintLast Go.Proofs.YtbifdckfglejkaaW.PrintMore
attribute [local go_sem] max2_int min2_int max_two min_two max_three min_three max_four min_four   -- for this text's walks alone
set_option linter.unusedVariables false
set_option linter.unusedSimpArgs false
mutual
def impl_CostOk.j0 : Nat → Bool → List Int → List Int → List Int → Option (Bool)
 | 0, _, _, _, _ => none
 | k + 1, x19, x580000, x580001, x580002 => if x19 = true then (some false) else (impl_CostOk.l0 k 0 x580000 x580001 x580002)
def impl_CostOk.l0 : Nat → Int → List Int → List Int → List Int → Option (Bool)
 | 0, _, _, _, _ => none
 | k + 1, x20, x580000, x580001, x580002 => if x20 < 6 then (if 0 ≤ (wrap64 ((wrap64 (x20 * 6)) + x20)) then (if (wrap64 ((wrap64 (x20 * 6)) + x20)) < (x580002.length : Int) then (if (rd x580002 (wrap64 ((wrap64 (x20 * 6)) + x20))) = 0 then (impl_CostOk.l0 k (wrap64 (x20 + 1)) x580000 x580001 x580002) else (some false)) else (none)) else (none)) else (some true)
end
def impl_CostOk.f (k : Nat) (l0_0 : List Int) (l0_1 : List Int) (l0_2 : List Int) : Option (Bool) := (impl_pricesOk.f l0_0 6).bind fun t580 => (if t580 = true then ((impl_pricesOk.f l0_1 6).bind fun t581 => (if t581 = true then ((impl_pricesOk.f l0_2 36).bind fun t582 => (impl_CostOk.j0 k (!t582) l0_0 l0_1 l0_2)) else (impl_CostOk.j0 k true l0_0 l0_1 l0_2))) else (impl_CostOk.j0 k true l0_0 l0_1 l0_2))
set_option maxHeartbeats 8000000 in
set_option maxRecDepth 100000 in
theorem impl_CostOk.calls (k : Nat) (A0_0 : Option Addr) (c0_0 : Nat) (l0_0 : List Int) (A0_1 : Option Addr) (c0_1 : Nat) (l0_1 : List Int) (A0_2 : Option Addr) (c0_2 : Nat) (l0_2 : List Int) (r : Bool) (w : World) (hr0_0 : Kd.C (Kd.int .i64) w A0_0 l0_0.length l0_0) (hc0_0 : l0_0.length ≤ c0_0) (hr0_1 : Kd.C (Kd.int .i64) w A0_1 l0_1.length l0_1) (hc0_1 : l0_1.length ≤ c0_1) (hr0_2 : Kd.C (Kd.int .i64) w A0_2 l0_2.length l0_2) (hc0_2 : l0_2.length ≤ c0_2) (h : impl_CostOk.f k l0_0 l0_1 l0_2 = some r) :
  Calls Try.prog 90 #[.agg #[.slice A0_0 l0_0.length c0_0, .slice A0_1 l0_1.length c0_1, .slice A0_2 l0_2.length c0_2]] w fun e w' => e = .returned (.bool r) ∧ Below w.heap.size w w' := by
 have hu53 := Try.underlying53
 have HR0_0 := Aside0.mk hr0_0
 have HC0_0 := Aside0.mk hc0_0
 clear hr0_0 hc0_0
 have HR0_1 := Aside0.mk hr0_1
 have HC0_1 := Aside0.mk hc0_1
 clear hr0_1 hc0_1
 have HR0_2 := Aside0.mk hr0_2
 have HC0_2 := Aside0.mk hc0_2
 clear hr0_2 hc0_2
 have HB := Aside0.mk (Below.refl w.heap.size w)
 have H : ((impl_pricesOk.f l0_0 6).bind fun t580 => (if t580 = true then ((impl_pricesOk.f l0_1 6).bind fun t581 => (if t581 = true then ((impl_pricesOk.f l0_2 36).bind fun t582 => (impl_CostOk.j0 k (!t582) l0_0 l0_1 l0_2)) else (impl_CostOk.j0 k true l0_0 l0_1 l0_2))) else (impl_CostOk.j0 k true l0_0 l0_1 l0_2))) = some r := h
 clear h
 have HC2 := Aside0.mk H
 clear H
 go_enter Try.func90, Try.ntmps90
 go_upto_region 1 with (first | ((with_reducible refine gate_dst (N := 1) rfl ?_); refine bx_ 1 #[.slice A0_0 l0_0.length c0_0, .slice A0_1 l0_1.length c0_1, .slice A0_2 l0_2.length c0_2] 53 ?_; intro gb579 hg w3 hbox hb; have BK579 := Aside0.mk (hbox); have GW579 := Aside0.mk ((by rw [hg]; exact (bs_ HB) : w.heap.size ≤ gb579)); have GE579 := Aside0.mk ((by rw [hg]; exact (bs_ HB) : w.heap.size ≤ gb579)); replace HB := tB_ HB hb; clear hb hbox hg))
 (try simp only [Act.put, List.setIfInBounds_toArray, List.set_cons_zero, List.set_cons_succ])
 go_cut [19] (fun v19 wc => ∃ (kq : Nat) (x19_1 : Bool), v19 = .bool x19_1 ∧ Aside0 (impl_CostOk.j0 kq x19_1 l0_0 l0_1 l0_2 = some r) ∧ Aside0 (kq ≤ k) ∧ Aside0 (wc.heap[gb579]? = some (.cells #[(.slice A0_0 l0_0.length c0_0), (.slice A0_1 l0_1.length c0_1), (.slice A0_2 l0_2.length c0_2)] 53 (0, 0))) ∧ Aside0 (Below w.heap.size w wc))
 case first =>
  have H := HC2.out
  clear HC2
  replace H := Option.bind_eq_some_iff.mp H
  obtain ⟨t580, A40, H⟩ := H
  try dsimp only at H
  have A4 := Aside0.mk A40
  clear A40
  by_cases c5 : t580 = true
  ·subst c5
   have H1 : ((impl_pricesOk.f l0_1 6).bind fun t581 => (if t581 = true then ((impl_pricesOk.f l0_2 36).bind fun t582 => (impl_CostOk.j0 k (!t582) l0_0 l0_1 l0_2)) else (impl_CostOk.j0 k true l0_0 l0_1 l0_2))) = some r := by rw [if_pos rfl] at H; exact H
   clear H
   have H := H1
   clear H1
   replace H := Option.bind_eq_some_iff.mp H
   obtain ⟨t581, A60, H⟩ := H
   try dsimp only at H
   have A6 := Aside0.mk A60
   clear A60
   by_cases c7 : t581 = true
   ·subst c7
    have H1 : ((impl_pricesOk.f l0_2 36).bind fun t582 => (impl_CostOk.j0 k (!t582) l0_0 l0_1 l0_2)) = some r := by rw [if_pos rfl] at H; exact H
    clear H
    have H := H1
    clear H1
    replace H := Option.bind_eq_some_iff.mp H
    obtain ⟨t582, A80, H⟩ := H
    replace H : (impl_CostOk.j0 k (!t582) l0_0 l0_1 l0_2) = some r := H
    have A8 := Aside0.mk A80
    clear A80
    have H' := Aside0.mk H
    clear H
    have hcz9_0 : w3.cell? ⟨gb579, 0, none⟩ = some (.slice A0_0 l0_0.length c0_0) := (blk_cell BK579.out 0).trans rfl
    have hcz9_1 : w3.cell? ⟨gb579, 1, none⟩ = some (.slice A0_1 l0_1.length c0_1) := (blk_cell BK579.out 1).trans rfl
    have hcz9_2 : w3.cell? ⟨gb579, 2, none⟩ = some (.slice A0_2 l0_2.length c0_2) := (blk_cell BK579.out 2).trans rfl
    have hfz9_0 := blk_frozen BK579.out 0
    have hfz9_1 := blk_frozen BK579.out 1
    have hfz9_2 := blk_frozen BK579.out 2
    go_wp2_with (first | ((with_reducible refine gate_callee (f := 126) rfl ?_); refine gL_ (some 6) Try.func126 #[.slice A0_0 l0_0.length c0_0, .int .i64 6] ?_; (with_reducible refine (impl_pricesOk.calls _ _ l0_0 6 true _ (cx_ HR0_0 HB) HC0_0.out A4.out).mono ?_); rintro e w10 ⟨rfl, hb⟩; refine ⟨_, rfl, ?_⟩; replace BK579 := tK_ BK579 hb; replace HB := tB_ HB hb; (try clear hb); obtain ⟨hcz11_0, hcz11_1, hcz11_2, hfz11_0, hfz11_1, hfz11_2⟩ := bk3_ BK579) | (go_at_call 126; (with_reducible refine (impl_pricesOk.calls _ _ l0_1 6 true _ (cx_ HR0_1 HB) HC0_1.out A6.out).mono ?_); rintro e w12 ⟨rfl, hb⟩; replace BK579 := tK_ BK579 hb; replace HB := tB_ HB hb; (try clear hb); obtain ⟨hcz13_0, hcz13_1, hcz13_2, hfz13_0, hfz13_1, hfz13_2⟩ := bk3_ BK579) | (go_at_call 126; (with_reducible refine (impl_pricesOk.calls _ _ l0_2 36 t582 _ (cx_ HR0_2 HB) HC0_2.out A8.out).mono ?_); rintro e w14 ⟨rfl, hb⟩; replace BK579 := tK_ BK579 hb; replace HB := tB_ HB hb; (try clear hb)))
    go_meet
    case rel => exact ⟨_, (!t582), eb_, H', ⟨by first | omega | exact Nat.le_refl _⟩, ⟨kx_ BK579.out⟩, bl_ HB⟩
   ·replace c7 := Bool.eq_false_iff.mpr c7
    subst c7
    have H1 : (impl_CostOk.j0 k true l0_0 l0_1 l0_2) = some r := by rw [if_neg (show ¬ (false = true) by decide)] at H; exact H
    clear H
    have H := H1
    clear H1
    have H' := Aside0.mk H
    clear H
    have hcz15_0 : w3.cell? ⟨gb579, 0, none⟩ = some (.slice A0_0 l0_0.length c0_0) := (blk_cell BK579.out 0).trans rfl
    have hcz15_1 : w3.cell? ⟨gb579, 1, none⟩ = some (.slice A0_1 l0_1.length c0_1) := (blk_cell BK579.out 1).trans rfl
    have hcz15_2 : w3.cell? ⟨gb579, 2, none⟩ = some (.slice A0_2 l0_2.length c0_2) := (blk_cell BK579.out 2).trans rfl
    have hfz15_0 := blk_frozen BK579.out 0
    have hfz15_1 := blk_frozen BK579.out 1
    have hfz15_2 := blk_frozen BK579.out 2
    go_wp2_with (first | ((with_reducible refine gate_callee (f := 126) rfl ?_); refine gL_ (some 6) Try.func126 #[.slice A0_0 l0_0.length c0_0, .int .i64 6] ?_; (with_reducible refine (impl_pricesOk.calls _ _ l0_0 6 true _ (cx_ HR0_0 HB) HC0_0.out A4.out).mono ?_); rintro e w16 ⟨rfl, hb⟩; refine ⟨_, rfl, ?_⟩; replace BK579 := tK_ BK579 hb; replace HB := tB_ HB hb; (try clear hb); obtain ⟨hcz17_0, hcz17_1, hcz17_2, hfz17_0, hfz17_1, hfz17_2⟩ := bk3_ BK579) | (go_at_call 126; (with_reducible refine (impl_pricesOk.calls _ _ l0_1 6 false _ (cx_ HR0_1 HB) HC0_1.out A6.out).mono ?_); rintro e w18 ⟨rfl, hb⟩; replace BK579 := tK_ BK579 hb; replace HB := tB_ HB hb; (try clear hb)))
    go_meet
    case rel => exact ⟨_, (true), eb_, H', ⟨by first | omega | exact Nat.le_refl _⟩, ⟨kx_ BK579.out⟩, bl_ HB⟩
  ·replace c5 := Bool.eq_false_iff.mpr c5
   subst c5
   have H1 : (impl_CostOk.j0 k true l0_0 l0_1 l0_2) = some r := by rw [if_neg (show ¬ (false = true) by decide)] at H; exact H
   clear H
   have H := H1
   clear H1
   have H' := Aside0.mk H
   clear H
   have hcz19_0 : w3.cell? ⟨gb579, 0, none⟩ = some (.slice A0_0 l0_0.length c0_0) := (blk_cell BK579.out 0).trans rfl
   have hcz19_1 : w3.cell? ⟨gb579, 1, none⟩ = some (.slice A0_1 l0_1.length c0_1) := (blk_cell BK579.out 1).trans rfl
   have hcz19_2 : w3.cell? ⟨gb579, 2, none⟩ = some (.slice A0_2 l0_2.length c0_2) := (blk_cell BK579.out 2).trans rfl
   have hfz19_0 := blk_frozen BK579.out 0
   have hfz19_1 := blk_frozen BK579.out 1
   have hfz19_2 := blk_frozen BK579.out 2
   go_wp2_with (first | ((with_reducible refine gate_callee (f := 126) rfl ?_); refine gL_ (some 6) Try.func126 #[.slice A0_0 l0_0.length c0_0, .int .i64 6] ?_; (with_reducible refine (impl_pricesOk.calls _ _ l0_0 6 false _ (cx_ HR0_0 HB) HC0_0.out A4.out).mono ?_); rintro e w20 ⟨rfl, hb⟩; refine ⟨_, rfl, ?_⟩; replace BK579 := tK_ BK579 hb; replace HB := tB_ HB hb; (try clear hb)))
   go_meet
   case rel => exact ⟨_, (true), eb_, H', ⟨by first | omega | exact Nat.le_refl _⟩, ⟨kx_ BK579.out⟩, bl_ HB⟩
 case rest =>
  clear HC2
  try clear c1
  try clear p2
  try clear c5
  try clear c7
  try clear c9
  try clear c12
  try clear hcz11_0
  try clear hcz11_1
  try clear hcz11_2
  try clear hcz13_0
  try clear hcz13_1
  try clear hcz13_2
  try clear hcz15_0
  try clear hcz15_1
  try clear hcz15_2
  try clear hcz17_0
  try clear hcz17_1
  try clear hcz17_2
  try clear hcz19_0
  try clear hcz19_1
  try clear hcz19_2
  try clear hcz9_0
  try clear hcz9_1
  try clear hcz9_2
  try clear hfz11_0
  try clear hfz11_1
  try clear hfz11_2
  try clear hfz13_0
  try clear hfz13_1
  try clear hfz13_2
  try clear hfz15_0
  try clear hfz15_1
  try clear hfz15_2
  try clear hfz17_0
  try clear hfz17_1
  try clear hfz17_2
  try clear hfz19_0
  try clear hfz19_1
  try clear hfz19_2
  try clear hfz9_0
  try clear hfz9_1
  try clear hfz9_2
  obtain ⟨kq, x19_1, rfl, HA, HJ1, BK579, HB⟩ := hcut
  cases kq with
  | zero => exact absurd HA.out (by simp [impl_CostOk.j0])
  | succ kj1 =>
   have H := HA.out
   clear HA
   simp only [impl_CostOk.j0] at H
   by_cases c21 : x19_1 = true
   ·subst c21
    have H1 : (some false) = some r := by rw [if_pos rfl] at H; exact H
    clear H
    have H := H1
    clear H1
    obtain rfl := Option.some.inj H
    go_wp2
    go_ret
    exact ⟨ea_, (bl_ HB).out⟩
   ·replace c21 := Bool.eq_false_iff.mpr c21
    subst c21
    have H1 : (impl_CostOk.l0 kj1 0 l0_0 l0_1 l0_2) = some r := by rw [if_neg (show ¬ (false = true) by decide)] at H; exact H
    clear H
    have H := H1
    clear H1
    have H' := Aside0.mk H
    clear H
    go_wp2
    go_loopg [20] kj1 (fun kq v20 w' => ∃ (x20_2 : Int), v20 = .int .i64 x20_2 ∧ Aside0 (impl_CostOk.l0 kq x20_2 l0_0 l0_1 l0_2 = some r) ∧ Aside0 (kq ≤ kj1) ∧ Aside0 (w'.heap[gb579]? = some (.cells #[(.slice A0_0 l0_0.length c0_0), (.slice A0_1 l0_1.length c0_1), (.slice A0_2 l0_2.length c0_2)] 53 (0, 0))) ∧ Aside0 (Below w.heap.size w w'))
    case atStart => exact ⟨(0), eb_, H', ⟨Nat.le_refl _⟩, ⟨kx_ BK579.out⟩, bl_ HB⟩
    case round =>
     clear H'
     try clear c1
     try clear c2
     try clear p2
     try clear c5
     try clear c7
     try clear c9
     try clear c12
     try clear c21
     try clear hcz11_0
     try clear hcz11_1
     try clear hcz11_2
     try clear hcz13_0
     try clear hcz13_1
     try clear hcz13_2
     try clear hcz15_0
     try clear hcz15_1
     try clear hcz15_2
     try clear hcz17_0
     try clear hcz17_1
     try clear hcz17_2
     try clear hcz19_0
     try clear hcz19_1
     try clear hcz19_2
     try clear hcz9_0
     try clear hcz9_1
     try clear hcz9_2
     try clear hfz11_0
     try clear hfz11_1
     try clear hfz11_2
     try clear hfz13_0
     try clear hfz13_1
     try clear hfz13_2
     try clear hfz15_0
     try clear hfz15_1
     try clear hfz15_2
     try clear hfz17_0
     try clear hfz17_1
     try clear hfz17_2
     try clear hfz19_0
     try clear hfz19_1
     try clear hfz19_2
     try clear hfz9_0
     try clear hfz9_1
     try clear hfz9_2
     try clear p2
     obtain ⟨x20_2, rfl, HA, HK2, BK579, HB⟩ := hrel
     cases gk with
     | zero => exact absurd HA.out (by simp [impl_CostOk.l0])
     | succ k2 =>
      have H := HA.out
      clear HA
      simp only [impl_CostOk.l0] at H
      by_cases c22 : x20_2 < 6
      ·rw [if_pos c22] at H
       have c22b0 : decide (x20_2 < 6) = true := decide_eq_true c22
       clear c22
       obtain ⟨ji23, hji23⟩ : ∃ j_ : Int, (wrap64 ((wrap64 (x20_2 * 6)) + x20_2)) = j_ := ⟨_, rfl⟩
       replace H : (if 0 ≤ (ji23) then (if (ji23) < (l0_2.length : Int) then (if (rd l0_2 (ji23)) = 0 then (impl_CostOk.l0 k2 (wrap64 (x20_2 + 1)) l0_0 l0_1 l0_2) else (some false)) else (none)) else (none)) = some r := by first | (rw [hji23] at H; exact H) | (simp only [hji23] at H ⊢; exact H)
       have hji23w : (IntKind.i64.wrap ((wrap64 (x20_2 * 6)) + x20_2)) = ji23 := (i64_w _).trans hji23
       by_cases c24 : 0 ≤ (ji23)
       ·rw [if_pos c24] at H
        have c24b0 : decide (0 ≤ (ji23)) = true := decide_eq_true c24
        clear c24
        by_cases c25 : (ji23) < (l0_2.length : Int)
        ·rw [if_pos c25] at H
         have c25b0 : decide ((ji23) < (l0_2.length : Int)) = true := decide_eq_true c25
         clear c25
         by_cases c26 : (rd l0_2 (ji23)) = 0
         ·rw [if_pos c26] at H
          have c26b0 : ((rd l0_2 (ji23)) == 0) = true := beq_iff_eq.mpr c26
          have c26b1 : ((rd l0_2 (ji23)) != 0) = false := bne_eq_false_iff_eq.mpr c26
          clear c26
          have H' := Aside0.mk H
          clear H
          have hcz27_0 : wr.cell? ⟨gb579, 0, none⟩ = some (.slice A0_0 l0_0.length c0_0) := (blk_cell BK579.out 0).trans rfl
          have hcz27_1 : wr.cell? ⟨gb579, 1, none⟩ = some (.slice A0_1 l0_1.length c0_1) := (blk_cell BK579.out 1).trans rfl
          have hcz27_2 : wr.cell? ⟨gb579, 2, none⟩ = some (.slice A0_2 l0_2.length c0_2) := (blk_cell BK579.out 2).trans rfl
          have hfz27_0 := blk_frozen BK579.out 0
          have hfz27_1 := blk_frozen BK579.out 1
          have hfz27_2 := blk_frozen BK579.out 2
          have p583 : 0 ≤ ((ji23) : Int) := od_
          have q583 : (ji23) < (l0_2.length : Int) := od_
          obtain ⟨ad583, e583, hx583_0⟩ := Kd.at_int HR0_2.out (ji23) p583 q583
          cases e583
          replace hx583_0 := ce_ HB hx583_0
          replace p583 := eq_true p583
          replace q583 := eq_true q583
          go_wp2
          go_roundg k2
          case measure => have := HJ1.out; have := HK2.out; omega
          case rel => exact ⟨(wrap64 (x20_2 + 1)), eb_, H', ⟨by have := HJ1.out; have := HK2.out; omega⟩, ⟨kx_ BK579.out⟩, bl_ HB⟩
         ·rw [if_neg c26] at H
          have c26b0 : ((rd l0_2 (ji23)) == 0) = false := beq_eq_false_iff_ne.mpr c26
          have c26b1 : ((rd l0_2 (ji23)) != 0) = true := bne_iff_ne.mpr c26
          obtain rfl := Option.some.inj H
          have hcz28_0 : wr.cell? ⟨gb579, 0, none⟩ = some (.slice A0_0 l0_0.length c0_0) := (blk_cell BK579.out 0).trans rfl
          have hcz28_1 : wr.cell? ⟨gb579, 1, none⟩ = some (.slice A0_1 l0_1.length c0_1) := (blk_cell BK579.out 1).trans rfl
          have hcz28_2 : wr.cell? ⟨gb579, 2, none⟩ = some (.slice A0_2 l0_2.length c0_2) := (blk_cell BK579.out 2).trans rfl
          have hfz28_0 := blk_frozen BK579.out 0
          have hfz28_1 := blk_frozen BK579.out 1
          have hfz28_2 := blk_frozen BK579.out 2
          have p583 : 0 ≤ ((ji23) : Int) := od_
          have q583 : (ji23) < (l0_2.length : Int) := od_
          obtain ⟨ad583, e583, hx583_0⟩ := Kd.at_int HR0_2.out (ji23) p583 q583
          cases e583
          replace hx583_0 := ce_ HB hx583_0
          replace p583 := eq_true p583
          replace q583 := eq_true q583
          go_wp2
          go_ret
          exact ⟨by first | rfl | (simp [errW_none, errW_some] <;> rfl) | (simp only [← hji23]; first | rfl | (simp [errW_none, errW_some] <;> rfl)) | (simp [*, errW_none, errW_some] <;> rfl), (bl_ HB).out⟩
        ·rw [if_neg c25] at H
         exact absurd H (by simp)
       ·rw [if_neg c24] at H
        exact absurd H (by simp)
      ·rw [if_neg c22] at H
       have c22b0 : decide (x20_2 < 6) = false := decide_eq_false c22
       clear c22
       obtain rfl := Option.some.inj H
       go_wp2
       go_ret
       exact ⟨ea_, (bl_ HB).out⟩
end Go.Proofs.Ytbifdckfglejkaa.X
namespace Go.Proofs.Ytbifdckfglejkaa.X
open Go.RowKit Go.Proofs.YtbifdckfglejkaaW.PrintWords Go.Proofs.YtbifdckfglejkaaW.PrintLast Go.Proofs.YtbifdckfglejkaaW.PrintMore
attribute [local go_sem] max2_int min2_int max_two min_two max_three min_three max_four min_four   -- for this text's walks alone
set_option linter.unusedVariables false
set_option linter.unusedSimpArgs false
def impl_RelCost.f (k : Nat) (l0_0 : List Int) (l0_1 : List Int) (l0_2 : List Int) (a1 : Int) (a2 : Int) : Option (Int) := (impl_CostOk.f k l0_0 l0_1 l0_2).bind fun t585 => (if t585 = true then ((impl_LabelOk.f a1).bind fun t586 => (if t586 = true then ((impl_LabelOk.f a2).bind fun t587 => (if t587 = true then (if 0 ≤ (wrap64 ((wrap64 (a1 * 6)) + a2)) then (if (wrap64 ((wrap64 (a1 * 6)) + a2)) < (l0_2.length : Int) then (some (rd l0_2 (wrap64 ((wrap64 (a1 * 6)) + a2)))) else (none)) else (none)) else (some 0))) else (some 0))) else (some 0))
set_option maxHeartbeats 8000000 in
set_option maxRecDepth 100000 in
theorem impl_RelCost.calls (k : Nat) (A0_0 : Option Addr) (c0_0 : Nat) (l0_0 : List Int) (A0_1 : Option Addr) (c0_1 : Nat) (l0_1 : List Int) (A0_2 : Option Addr) (c0_2 : Nat) (l0_2 : List Int) (a1 : Int) (a2 : Int) (r : Int) (w : World) (hr0_0 : Kd.C (Kd.int .i64) w A0_0 l0_0.length l0_0) (hc0_0 : l0_0.length ≤ c0_0) (hr0_1 : Kd.C (Kd.int .i64) w A0_1 l0_1.length l0_1) (hc0_1 : l0_1.length ≤ c0_1) (hr0_2 : Kd.C (Kd.int .i64) w A0_2 l0_2.length l0_2) (hc0_2 : l0_2.length ≤ c0_2) (h : impl_RelCost.f k l0_0 l0_1 l0_2 a1 a2 = some r) :
  Calls Try.prog 94 #[.agg #[.slice A0_0 l0_0.length c0_0, .slice A0_1 l0_1.length c0_1, .slice A0_2 l0_2.length c0_2], .int .i64 a1, .int .i64 a2] w fun e w' => e = .returned (.int .i64 r) ∧ Below w.heap.size w w' := by
 have hu53 := Try.underlying53
 have HR0_0 := Aside0.mk hr0_0
 have HC0_0 := Aside0.mk hc0_0
 clear hr0_0 hc0_0
 have HR0_1 := Aside0.mk hr0_1
 have HC0_1 := Aside0.mk hc0_1
 clear hr0_1 hc0_1
 have HR0_2 := Aside0.mk hr0_2
 have HC0_2 := Aside0.mk hc0_2
 clear hr0_2 hc0_2
 have HB := Aside0.mk (Below.refl w.heap.size w)
 have H : ((impl_CostOk.f k l0_0 l0_1 l0_2).bind fun t585 => (if t585 = true then ((impl_LabelOk.f a1).bind fun t586 => (if t586 = true then ((impl_LabelOk.f a2).bind fun t587 => (if t587 = true then (if 0 ≤ (wrap64 ((wrap64 (a1 * 6)) + a2)) then (if (wrap64 ((wrap64 (a1 * 6)) + a2)) < (l0_2.length : Int) then (some (rd l0_2 (wrap64 ((wrap64 (a1 * 6)) + a2)))) else (none)) else (none)) else (some 0))) else (some 0))) else (some 0))) = some r := h
 clear h
 replace H := Option.bind_eq_some_iff.mp H
 obtain ⟨t585, A40, H⟩ := H
 try dsimp only at H
 have A4 := Aside0.mk A40
 clear A40
 by_cases c5 : t585 = true
 ·subst c5
  have H1 : ((impl_LabelOk.f a1).bind fun t586 => (if t586 = true then ((impl_LabelOk.f a2).bind fun t587 => (if t587 = true then (if 0 ≤ (wrap64 ((wrap64 (a1 * 6)) + a2)) then (if (wrap64 ((wrap64 (a1 * 6)) + a2)) < (l0_2.length : Int) then (some (rd l0_2 (wrap64 ((wrap64 (a1 * 6)) + a2)))) else (none)) else (none)) else (some 0))) else (some 0))) = some r := by rw [if_pos rfl] at H; exact H
  clear H
  have H := H1
  clear H1
  replace H := Option.bind_eq_some_iff.mp H
  obtain ⟨t586, A60, H⟩ := H
  try dsimp only at H
  have A6 := Aside0.mk A60
  clear A60
  by_cases c7 : t586 = true
  ·subst c7
   have H1 : ((impl_LabelOk.f a2).bind fun t587 => (if t587 = true then (if 0 ≤ (wrap64 ((wrap64 (a1 * 6)) + a2)) then (if (wrap64 ((wrap64 (a1 * 6)) + a2)) < (l0_2.length : Int) then (some (rd l0_2 (wrap64 ((wrap64 (a1 * 6)) + a2)))) else (none)) else (none)) else (some 0))) = some r := by rw [if_pos rfl] at H; exact H
   clear H
   have H := H1
   clear H1
   replace H := Option.bind_eq_some_iff.mp H
   obtain ⟨t587, A80, H⟩ := H
   try dsimp only at H
   have A8 := Aside0.mk A80
   clear A80
   by_cases c9 : t587 = true
   ·subst c9
    have H1 : (if 0 ≤ (wrap64 ((wrap64 (a1 * 6)) + a2)) then (if (wrap64 ((wrap64 (a1 * 6)) + a2)) < (l0_2.length : Int) then (some (rd l0_2 (wrap64 ((wrap64 (a1 * 6)) + a2)))) else (none)) else (none)) = some r := by rw [if_pos rfl] at H; exact H
    clear H
    have H := H1
    clear H1
    obtain ⟨ji10, hji10⟩ : ∃ j_ : Int, (wrap64 ((wrap64 (a1 * 6)) + a2)) = j_ := ⟨_, rfl⟩
    replace H : (if 0 ≤ (ji10) then (if (ji10) < (l0_2.length : Int) then (some (rd l0_2 (ji10))) else (none)) else (none)) = some r := by first | (rw [hji10] at H; exact H) | (simp only [hji10] at H ⊢; exact H)
    (try rw [hji10] at A4)
    (try rw [hji10] at A6)
    (try rw [hji10] at A8)
    have hji10w : (IntKind.i64.wrap ((wrap64 (a1 * 6)) + a2)) = ji10 := (i64_w _).trans hji10
    by_cases c11 : 0 ≤ (ji10)
    ·rw [if_pos c11] at H
     have c11b0 : decide (0 ≤ (ji10)) = true := decide_eq_true c11
     clear c11
     by_cases c12 : (ji10) < (l0_2.length : Int)
     ·rw [if_pos c12] at H
      have c12b0 : decide ((ji10) < (l0_2.length : Int)) = true := decide_eq_true c12
      clear c12
      obtain rfl := Option.some.inj H
      go_enter Try.func94, Try.ntmps94
      go_wp2_with (first | ((with_reducible refine gate_dst (N := 3) rfl ?_); refine bx_ 3 #[.slice A0_0 l0_0.length c0_0, .slice A0_1 l0_1.length c0_1, .slice A0_2 l0_2.length c0_2] 53 ?_; intro gb584 hg w13 hbox hb; have BK584 := Aside0.mk (hbox); have GW584 := Aside0.mk ((by rw [hg]; exact (bs_ HB) : w.heap.size ≤ gb584)); have GE584 := Aside0.mk ((by rw [hg]; exact (bs_ HB) : w.heap.size ≤ gb584)); replace HB := tB_ HB hb; clear hb hbox hg; obtain ⟨hcz14_0, hcz14_1, hcz14_2, hfz14_0, hfz14_1, hfz14_2⟩ := bk3_ BK584) | ((with_reducible refine gate_callee (f := 90) rfl ?_); refine gL_ (some 8) Try.func90 #[.agg #[.slice A0_0 l0_0.length c0_0, .slice A0_1 l0_1.length c0_1, .slice A0_2 l0_2.length c0_2]] ?_; (with_reducible refine (impl_CostOk.calls k _ _ l0_0 _ _ l0_1 _ _ l0_2 true _ (cx_ HR0_0 HB) HC0_0.out (cx_ HR0_1 HB) HC0_1.out (cx_ HR0_2 HB) HC0_2.out A4.out).mono ?_); rintro e w15 ⟨rfl, hb⟩; refine ⟨_, rfl, ?_⟩; replace BK584 := tK_ BK584 hb; replace HB := tB_ HB hb; (try clear hb)) | (go_at_call 128; (with_reducible refine (impl_LabelOk.calls a1 true _ A6.out).mono ?_); rintro e w' ⟨rfl, ⟨nd, rfl⟩⟩) | (go_at_call 128; (with_reducible refine (impl_LabelOk.calls a2 true _ A8.out).mono ?_); rintro e w' ⟨rfl, ⟨nd, rfl⟩⟩; obtain ⟨hcz16_0, hcz16_1, hcz16_2, hfz16_0, hfz16_1, hfz16_2⟩ := bk3_ BK584; have p588 : 0 ≤ ((ji10) : Int) := od_; have q588 : (ji10) < (l0_2.length : Int) := od_; obtain ⟨ad588, e588, hx588_0⟩ := Kd.at_int HR0_2.out (ji10) p588 q588; cases e588; replace hx588_0 := ce_ HB hx588_0; replace p588 := eq_true p588; replace q588 := eq_true q588))
      go_ret
      exact ⟨by first | rfl | (simp [errW_none, errW_some] <;> rfl) | (simp only [← hji10]; first | rfl | (simp [errW_none, errW_some] <;> rfl)) | (simp [*, errW_none, errW_some] <;> rfl), (bl_ HB).out⟩
     ·rw [if_neg c12] at H
      exact absurd H (by simp)
    ·rw [if_neg c11] at H
     exact absurd H (by simp)
   ·replace c9 := Bool.eq_false_iff.mpr c9
    subst c9
    have H1 : (some 0) = some r := by rw [if_neg (show ¬ (false = true) by decide)] at H; exact H
    clear H
    have H := H1
    clear H1
    obtain rfl := Option.some.inj H
    go_enter Try.func94, Try.ntmps94
    go_wp2_with (first | ((with_reducible refine gate_dst (N := 3) rfl ?_); refine bx_ 3 #[.slice A0_0 l0_0.length c0_0, .slice A0_1 l0_1.length c0_1, .slice A0_2 l0_2.length c0_2] 53 ?_; intro gb584 hg w17 hbox hb; have BK584 := Aside0.mk (hbox); have GW584 := Aside0.mk ((by rw [hg]; exact (bs_ HB) : w.heap.size ≤ gb584)); have GE584 := Aside0.mk ((by rw [hg]; exact (bs_ HB) : w.heap.size ≤ gb584)); replace HB := tB_ HB hb; clear hb hbox hg; obtain ⟨hcz18_0, hcz18_1, hcz18_2, hfz18_0, hfz18_1, hfz18_2⟩ := bk3_ BK584) | ((with_reducible refine gate_callee (f := 90) rfl ?_); refine gL_ (some 8) Try.func90 #[.agg #[.slice A0_0 l0_0.length c0_0, .slice A0_1 l0_1.length c0_1, .slice A0_2 l0_2.length c0_2]] ?_; (with_reducible refine (impl_CostOk.calls k _ _ l0_0 _ _ l0_1 _ _ l0_2 true _ (cx_ HR0_0 HB) HC0_0.out (cx_ HR0_1 HB) HC0_1.out (cx_ HR0_2 HB) HC0_2.out A4.out).mono ?_); rintro e w19 ⟨rfl, hb⟩; refine ⟨_, rfl, ?_⟩; replace BK584 := tK_ BK584 hb; replace HB := tB_ HB hb; (try clear hb)) | (go_at_call 128; (with_reducible refine (impl_LabelOk.calls a1 true _ A6.out).mono ?_); rintro e w' ⟨rfl, ⟨nd, rfl⟩⟩) | (go_at_call 128; (with_reducible refine (impl_LabelOk.calls a2 false _ A8.out).mono ?_); rintro e w' ⟨rfl, ⟨nd, rfl⟩⟩))
    go_ret
    exact ⟨ea_, (bl_ HB).out⟩
  ·replace c7 := Bool.eq_false_iff.mpr c7
   subst c7
   have H1 : (some 0) = some r := by rw [if_neg (show ¬ (false = true) by decide)] at H; exact H
   clear H
   have H := H1
   clear H1
   obtain rfl := Option.some.inj H
   go_enter Try.func94, Try.ntmps94
   go_wp2_with (first | ((with_reducible refine gate_dst (N := 3) rfl ?_); refine bx_ 3 #[.slice A0_0 l0_0.length c0_0, .slice A0_1 l0_1.length c0_1, .slice A0_2 l0_2.length c0_2] 53 ?_; intro gb584 hg w20 hbox hb; have BK584 := Aside0.mk (hbox); have GW584 := Aside0.mk ((by rw [hg]; exact (bs_ HB) : w.heap.size ≤ gb584)); have GE584 := Aside0.mk ((by rw [hg]; exact (bs_ HB) : w.heap.size ≤ gb584)); replace HB := tB_ HB hb; clear hb hbox hg; obtain ⟨hcz21_0, hcz21_1, hcz21_2, hfz21_0, hfz21_1, hfz21_2⟩ := bk3_ BK584) | ((with_reducible refine gate_callee (f := 90) rfl ?_); refine gL_ (some 8) Try.func90 #[.agg #[.slice A0_0 l0_0.length c0_0, .slice A0_1 l0_1.length c0_1, .slice A0_2 l0_2.length c0_2]] ?_; (with_reducible refine (impl_CostOk.calls k _ _ l0_0 _ _ l0_1 _ _ l0_2 true _ (cx_ HR0_0 HB) HC0_0.out (cx_ HR0_1 HB) HC0_1.out (cx_ HR0_2 HB) HC0_2.out A4.out).mono ?_); rintro e w22 ⟨rfl, hb⟩; refine ⟨_, rfl, ?_⟩; replace BK584 := tK_ BK584 hb; replace HB := tB_ HB hb; (try clear hb)) | (go_at_call 128; (with_reducible refine (impl_LabelOk.calls a1 false _ A6.out).mono ?_); rintro e w' ⟨rfl, ⟨nd, rfl⟩⟩))
   go_ret
   exact ⟨ea_, (bl_ HB).out⟩
 ·replace c5 := Bool.eq_false_iff.mpr c5
  subst c5
  have H1 : (some 0) = some r := by rw [if_neg (show ¬ (false = true) by decide)] at H; exact H
  clear H
  have H := H1
  clear H1
  obtain rfl := Option.some.inj H
  go_enter Try.func94, Try.ntmps94
  go_wp2_with (first | ((with_reducible refine gate_dst (N := 3) rfl ?_); refine bx_ 3 #[.slice A0_0 l0_0.length c0_0, .slice A0_1 l0_1.length c0_1, .slice A0_2 l0_2.length c0_2] 53 ?_; intro gb584 hg w23 hbox hb; have BK584 := Aside0.mk (hbox); have GW584 := Aside0.mk ((by rw [hg]; exact (bs_ HB) : w.heap.size ≤ gb584)); have GE584 := Aside0.mk ((by rw [hg]; exact (bs_ HB) : w.heap.size ≤ gb584)); replace HB := tB_ HB hb; clear hb hbox hg; obtain ⟨hcz24_0, hcz24_1, hcz24_2, hfz24_0, hfz24_1, hfz24_2⟩ := bk3_ BK584) | ((with_reducible refine gate_callee (f := 90) rfl ?_); refine gL_ (some 8) Try.func90 #[.agg #[.slice A0_0 l0_0.length c0_0, .slice A0_1 l0_1.length c0_1, .slice A0_2 l0_2.length c0_2]] ?_; (with_reducible refine (impl_CostOk.calls k _ _ l0_0 _ _ l0_1 _ _ l0_2 false _ (cx_ HR0_0 HB) HC0_0.out (cx_ HR0_1 HB) HC0_1.out (cx_ HR0_2 HB) HC0_2.out A4.out).mono ?_); rintro e w25 ⟨rfl, hb⟩; refine ⟨_, rfl, ?_⟩; replace BK584 := tK_ BK584 hb; replace HB := tB_ HB hb; (try clear hb)))
  go_ret
  exact ⟨ea_, (bl_ HB).out⟩
end Go.Proofs.Ytbifdckfglejkaa.X
namespace Go.Proofs.Ytbifdckfglejkaa.X
open Go.RowKit Go.Proofs.YtbifdckfglejkaaW.PrintWords Go.Proofs.YtbifdckfglejkaaW.PrintLast Go.Proofs.YtbifdckfglejkaaW.PrintMore
attribute [local go_sem] max2_int min2_int max_two min_two max_three min_three max_four min_four   -- for this text's walks alone
set_option linter.unusedVariables false
set_option linter.unusedSimpArgs false
def impl_DelCost.f (k : Nat) (l0_0 : List Int) (l0_1 : List Int) (l0_2 : List Int) (a1 : Int) : Option (Int) := (impl_CostOk.f k l0_0 l0_1 l0_2).bind fun t1140 => (if t1140 = true then ((impl_LabelOk.f a1).bind fun t1141 => (if t1141 = true then (if 0 ≤ a1 then (if a1 < (l0_0.length : Int) then (some (rd l0_0 a1)) else (none)) else (none)) else (some 0))) else (some 0))
set_option maxHeartbeats 8000000 in
set_option maxRecDepth 100000 in
theorem impl_DelCost.calls (k : Nat) (A0_0 : Option Addr) (c0_0 : Nat) (l0_0 : List Int) (A0_1 : Option Addr) (c0_1 : Nat) (l0_1 : List Int) (A0_2 : Option Addr) (c0_2 : Nat) (l0_2 : List Int) (a1 : Int) (r : Int) (w : World) (hr0_0 : Kd.C (Kd.int .i64) w A0_0 l0_0.length l0_0) (hc0_0 : l0_0.length ≤ c0_0) (hr0_1 : Kd.C (Kd.int .i64) w A0_1 l0_1.length l0_1) (hc0_1 : l0_1.length ≤ c0_1) (hr0_2 : Kd.C (Kd.int .i64) w A0_2 l0_2.length l0_2) (hc0_2 : l0_2.length ≤ c0_2) (h : impl_DelCost.f k l0_0 l0_1 l0_2 a1 = some r) :
  Calls Try.prog 109 #[.agg #[.slice A0_0 l0_0.length c0_0, .slice A0_1 l0_1.length c0_1, .slice A0_2 l0_2.length c0_2], .int .i64 a1] w fun e w' => e = .returned (.int .i64 r) ∧ Below w.heap.size w w' := by
 have hu53 := Try.underlying53
 have HR0_0 := Aside0.mk hr0_0
 have HC0_0 := Aside0.mk hc0_0
 clear hr0_0 hc0_0
 have HR0_1 := Aside0.mk hr0_1
 have HC0_1 := Aside0.mk hc0_1
 clear hr0_1 hc0_1
 have HR0_2 := Aside0.mk hr0_2
 have HC0_2 := Aside0.mk hc0_2
 clear hr0_2 hc0_2
 have HB := Aside0.mk (Below.refl w.heap.size w)
 have H : ((impl_CostOk.f k l0_0 l0_1 l0_2).bind fun t1140 => (if t1140 = true then ((impl_LabelOk.f a1).bind fun t1141 => (if t1141 = true then (if 0 ≤ a1 then (if a1 < (l0_0.length : Int) then (some (rd l0_0 a1)) else (none)) else (none)) else (some 0))) else (some 0))) = some r := h
 clear h
 replace H := Option.bind_eq_some_iff.mp H
 obtain ⟨t1140, A30, H⟩ := H
 try dsimp only at H
 have A3 := Aside0.mk A30
 clear A30
 by_cases c4 : t1140 = true
 ·subst c4
  have H1 : ((impl_LabelOk.f a1).bind fun t1141 => (if t1141 = true then (if 0 ≤ a1 then (if a1 < (l0_0.length : Int) then (some (rd l0_0 a1)) else (none)) else (none)) else (some 0))) = some r := by rw [if_pos rfl] at H; exact H
  clear H
  have H := H1
  clear H1
  replace H := Option.bind_eq_some_iff.mp H
  obtain ⟨t1141, A50, H⟩ := H
  try dsimp only at H
  have A5 := Aside0.mk A50
  clear A50
  by_cases c6 : t1141 = true
  ·subst c6
   have H1 : (if 0 ≤ a1 then (if a1 < (l0_0.length : Int) then (some (rd l0_0 a1)) else (none)) else (none)) = some r := by rw [if_pos rfl] at H; exact H
   clear H
   have H := H1
   clear H1
   by_cases c7 : 0 ≤ a1
   ·rw [if_pos c7] at H
    have c7b0 : decide (0 ≤ a1) = true := decide_eq_true c7
    clear c7
    by_cases c8 : a1 < (l0_0.length : Int)
    ·rw [if_pos c8] at H
     have c8b0 : decide (a1 < (l0_0.length : Int)) = true := decide_eq_true c8
     clear c8
     obtain rfl := Option.some.inj H
     go_enter Try.func109, Try.ntmps109
     go_wp2_with (first | ((with_reducible refine gate_dst (N := 2) rfl ?_); refine bx_ 2 #[.slice A0_0 l0_0.length c0_0, .slice A0_1 l0_1.length c0_1, .slice A0_2 l0_2.length c0_2] 53 ?_; intro gb1139 hg w9 hbox hb; have BK1139 := Aside0.mk (hbox); have GW1139 := Aside0.mk ((by rw [hg]; exact (bs_ HB) : w.heap.size ≤ gb1139)); have GE1139 := Aside0.mk ((by rw [hg]; exact (bs_ HB) : w.heap.size ≤ gb1139)); replace HB := tB_ HB hb; clear hb hbox hg; obtain ⟨hcz10_0, hcz10_1, hcz10_2, hfz10_0, hfz10_1, hfz10_2⟩ := bk3_ BK1139) | ((with_reducible refine gate_callee (f := 90) rfl ?_); refine gL_ (some 6) Try.func90 #[.agg #[.slice A0_0 l0_0.length c0_0, .slice A0_1 l0_1.length c0_1, .slice A0_2 l0_2.length c0_2]] ?_; (with_reducible refine (impl_CostOk.calls k _ _ l0_0 _ _ l0_1 _ _ l0_2 true _ (cx_ HR0_0 HB) HC0_0.out (cx_ HR0_1 HB) HC0_1.out (cx_ HR0_2 HB) HC0_2.out A3.out).mono ?_); rintro e w11 ⟨rfl, hb⟩; refine ⟨_, rfl, ?_⟩; replace BK1139 := tK_ BK1139 hb; replace HB := tB_ HB hb; (try clear hb)) | (go_at_call 128; (with_reducible refine (impl_LabelOk.calls a1 true _ A5.out).mono ?_); rintro e w' ⟨rfl, ⟨nd, rfl⟩⟩; obtain ⟨hcz12_0, hcz12_1, hcz12_2, hfz12_0, hfz12_1, hfz12_2⟩ := bk3_ BK1139; have p1142 : 0 ≤ (a1 : Int) := od_; have q1142 : a1 < (l0_0.length : Int) := od_; obtain ⟨ad1142, e1142, hx1142_0⟩ := Kd.at_int HR0_0.out a1 p1142 q1142; cases e1142; replace hx1142_0 := ce_ HB hx1142_0; replace p1142 := eq_true p1142; replace q1142 := eq_true q1142))
     go_ret
     exact ⟨ea_, (bl_ HB).out⟩
    ·rw [if_neg c8] at H
     exact absurd H (by simp)
   ·rw [if_neg c7] at H
    exact absurd H (by simp)
  ·replace c6 := Bool.eq_false_iff.mpr c6
   subst c6
   have H1 : (some 0) = some r := by rw [if_neg (show ¬ (false = true) by decide)] at H; exact H
   clear H
   have H := H1
   clear H1
   obtain rfl := Option.some.inj H
   go_enter Try.func109, Try.ntmps109
   go_wp2_with (first | ((with_reducible refine gate_dst (N := 2) rfl ?_); refine bx_ 2 #[.slice A0_0 l0_0.length c0_0, .slice A0_1 l0_1.length c0_1, .slice A0_2 l0_2.length c0_2] 53 ?_; intro gb1139 hg w13 hbox hb; have BK1139 := Aside0.mk (hbox); have GW1139 := Aside0.mk ((by rw [hg]; exact (bs_ HB) : w.heap.size ≤ gb1139)); have GE1139 := Aside0.mk ((by rw [hg]; exact (bs_ HB) : w.heap.size ≤ gb1139)); replace HB := tB_ HB hb; clear hb hbox hg; obtain ⟨hcz14_0, hcz14_1, hcz14_2, hfz14_0, hfz14_1, hfz14_2⟩ := bk3_ BK1139) | ((with_reducible refine gate_callee (f := 90) rfl ?_); refine gL_ (some 6) Try.func90 #[.agg #[.slice A0_0 l0_0.length c0_0, .slice A0_1 l0_1.length c0_1, .slice A0_2 l0_2.length c0_2]] ?_; (with_reducible refine (impl_CostOk.calls k _ _ l0_0 _ _ l0_1 _ _ l0_2 true _ (cx_ HR0_0 HB) HC0_0.out (cx_ HR0_1 HB) HC0_1.out (cx_ HR0_2 HB) HC0_2.out A3.out).mono ?_); rintro e w15 ⟨rfl, hb⟩; refine ⟨_, rfl, ?_⟩; replace BK1139 := tK_ BK1139 hb; replace HB := tB_ HB hb; (try clear hb)) | (go_at_call 128; (with_reducible refine (impl_LabelOk.calls a1 false _ A5.out).mono ?_); rintro e w' ⟨rfl, ⟨nd, rfl⟩⟩))
   go_ret
   exact ⟨ea_, (bl_ HB).out⟩
 ·replace c4 := Bool.eq_false_iff.mpr c4
  subst c4
  have H1 : (some 0) = some r := by rw [if_neg (show ¬ (false = true) by decide)] at H; exact H
  clear H
  have H := H1
  clear H1
  obtain rfl := Option.some.inj H
  go_enter Try.func109, Try.ntmps109
  go_wp2_with (first | ((with_reducible refine gate_dst (N := 2) rfl ?_); refine bx_ 2 #[.slice A0_0 l0_0.length c0_0, .slice A0_1 l0_1.length c0_1, .slice A0_2 l0_2.length c0_2] 53 ?_; intro gb1139 hg w16 hbox hb; have BK1139 := Aside0.mk (hbox); have GW1139 := Aside0.mk ((by rw [hg]; exact (bs_ HB) : w.heap.size ≤ gb1139)); have GE1139 := Aside0.mk ((by rw [hg]; exact (bs_ HB) : w.heap.size ≤ gb1139)); replace HB := tB_ HB hb; clear hb hbox hg; obtain ⟨hcz17_0, hcz17_1, hcz17_2, hfz17_0, hfz17_1, hfz17_2⟩ := bk3_ BK1139) | ((with_reducible refine gate_callee (f := 90) rfl ?_); refine gL_ (some 6) Try.func90 #[.agg #[.slice A0_0 l0_0.length c0_0, .slice A0_1 l0_1.length c0_1, .slice A0_2 l0_2.length c0_2]] ?_; (with_reducible refine (impl_CostOk.calls k _ _ l0_0 _ _ l0_1 _ _ l0_2 false _ (cx_ HR0_0 HB) HC0_0.out (cx_ HR0_1 HB) HC0_1.out (cx_ HR0_2 HB) HC0_2.out A3.out).mono ?_); rintro e w18 ⟨rfl, hb⟩; refine ⟨_, rfl, ?_⟩; replace BK1139 := tK_ BK1139 hb; replace HB := tB_ HB hb; (try clear hb)))
  go_ret
  exact ⟨ea_, (bl_ HB).out⟩
end Go.Proofs.Ytbifdckfglejkaa.X
namespace Go.Proofs.Ytbifdckfglejkaa.X
open Go.RowKit Go.Proofs.YtbifdckfglejkaaW.PrintWords Go.Proofs.YtbifdckfglejkaaW.PrintLast Go.Proofs.YtbifdckfglejkaaW.PrintMore
attribute [local go_sem] max2_int min2_int max_two min_two max_three min_three max_four min_four   -- for this text's walks alone
set_option linter.unusedVariables false
set_option linter.unusedSimpArgs false
def impl_InsCost.f (k : Nat) (l0_0 : List Int) (l0_1 : List Int) (l0_2 : List Int) (a1 : Int) : Option (Int) := (impl_CostOk.f k l0_0 l0_1 l0_2).bind fun t1144 => (if t1144 = true then ((impl_LabelOk.f a1).bind fun t1145 => (if t1145 = true then (if 0 ≤ a1 then (if a1 < (l0_1.length : Int) then (some (rd l0_1 a1)) else (none)) else (none)) else (some 0))) else (some 0))
set_option maxHeartbeats 8000000 in
set_option maxRecDepth 100000 in
theorem impl_InsCost.calls (k : Nat) (A0_0 : Option Addr) (c0_0 : Nat) (l0_0 : List Int) (A0_1 : Option Addr) (c0_1 : Nat) (l0_1 : List Int) (A0_2 : Option Addr) (c0_2 : Nat) (l0_2 : List Int) (a1 : Int) (r : Int) (w : World) (hr0_0 : Kd.C (Kd.int .i64) w A0_0 l0_0.length l0_0) (hc0_0 : l0_0.length ≤ c0_0) (hr0_1 : Kd.C (Kd.int .i64) w A0_1 l0_1.length l0_1) (hc0_1 : l0_1.length ≤ c0_1) (hr0_2 : Kd.C (Kd.int .i64) w A0_2 l0_2.length l0_2) (hc0_2 : l0_2.length ≤ c0_2) (h : impl_InsCost.f k l0_0 l0_1 l0_2 a1 = some r) :
  Calls Try.prog 110 #[.agg #[.slice A0_0 l0_0.length c0_0, .slice A0_1 l0_1.length c0_1, .slice A0_2 l0_2.length c0_2], .int .i64 a1] w fun e w' => e = .returned (.int .i64 r) ∧ Below w.heap.size w w' := by
 have hu53 := Try.underlying53
 have HR0_0 := Aside0.mk hr0_0
 have HC0_0 := Aside0.mk hc0_0
 clear hr0_0 hc0_0
 have HR0_1 := Aside0.mk hr0_1
 have HC0_1 := Aside0.mk hc0_1
 clear hr0_1 hc0_1
 have HR0_2 := Aside0.mk hr0_2
 have HC0_2 := Aside0.mk hc0_2
 clear hr0_2 hc0_2
 have HB := Aside0.mk (Below.refl w.heap.size w)
 have H : ((impl_CostOk.f k l0_0 l0_1 l0_2).bind fun t1144 => (if t1144 = true then ((impl_LabelOk.f a1).bind fun t1145 => (if t1145 = true then (if 0 ≤ a1 then (if a1 < (l0_1.length : Int) then (some (rd l0_1 a1)) else (none)) else (none)) else (some 0))) else (some 0))) = some r := h
 clear h
 replace H := Option.bind_eq_some_iff.mp H
 obtain ⟨t1144, A30, H⟩ := H
 try dsimp only at H
 have A3 := Aside0.mk A30
 clear A30
 by_cases c4 : t1144 = true
 ·subst c4
  have H1 : ((impl_LabelOk.f a1).bind fun t1145 => (if t1145 = true then (if 0 ≤ a1 then (if a1 < (l0_1.length : Int) then (some (rd l0_1 a1)) else (none)) else (none)) else (some 0))) = some r := by rw [if_pos rfl] at H; exact H
  clear H
  have H := H1
  clear H1
  replace H := Option.bind_eq_some_iff.mp H
  obtain ⟨t1145, A50, H⟩ := H
  try dsimp only at H
  have A5 := Aside0.mk A50
  clear A50
  by_cases c6 : t1145 = true
  ·subst c6
   have H1 : (if 0 ≤ a1 then (if a1 < (l0_1.length : Int) then (some (rd l0_1 a1)) else (none)) else (none)) = some r := by rw [if_pos rfl] at H; exact H
   clear H
   have H := H1
   clear H1
   by_cases c7 : 0 ≤ a1
   ·rw [if_pos c7] at H
    have c7b0 : decide (0 ≤ a1) = true := decide_eq_true c7
    clear c7
    by_cases c8 : a1 < (l0_1.length : Int)
    ·rw [if_pos c8] at H
     have c8b0 : decide (a1 < (l0_1.length : Int)) = true := decide_eq_true c8
     clear c8
     obtain rfl := Option.some.inj H
     go_enter Try.func110, Try.ntmps110
     go_wp2_with (first | ((with_reducible refine gate_dst (N := 2) rfl ?_); refine bx_ 2 #[.slice A0_0 l0_0.length c0_0, .slice A0_1 l0_1.length c0_1, .slice A0_2 l0_2.length c0_2] 53 ?_; intro gb1143 hg w9 hbox hb; have BK1143 := Aside0.mk (hbox); have GW1143 := Aside0.mk ((by rw [hg]; exact (bs_ HB) : w.heap.size ≤ gb1143)); have GE1143 := Aside0.mk ((by rw [hg]; exact (bs_ HB) : w.heap.size ≤ gb1143)); replace HB := tB_ HB hb; clear hb hbox hg; obtain ⟨hcz10_0, hcz10_1, hcz10_2, hfz10_0, hfz10_1, hfz10_2⟩ := bk3_ BK1143) | ((with_reducible refine gate_callee (f := 90) rfl ?_); refine gL_ (some 6) Try.func90 #[.agg #[.slice A0_0 l0_0.length c0_0, .slice A0_1 l0_1.length c0_1, .slice A0_2 l0_2.length c0_2]] ?_; (with_reducible refine (impl_CostOk.calls k _ _ l0_0 _ _ l0_1 _ _ l0_2 true _ (cx_ HR0_0 HB) HC0_0.out (cx_ HR0_1 HB) HC0_1.out (cx_ HR0_2 HB) HC0_2.out A3.out).mono ?_); rintro e w11 ⟨rfl, hb⟩; refine ⟨_, rfl, ?_⟩; replace BK1143 := tK_ BK1143 hb; replace HB := tB_ HB hb; (try clear hb)) | (go_at_call 128; (with_reducible refine (impl_LabelOk.calls a1 true _ A5.out).mono ?_); rintro e w' ⟨rfl, ⟨nd, rfl⟩⟩; obtain ⟨hcz12_0, hcz12_1, hcz12_2, hfz12_0, hfz12_1, hfz12_2⟩ := bk3_ BK1143; have p1146 : 0 ≤ (a1 : Int) := od_; have q1146 : a1 < (l0_1.length : Int) := od_; obtain ⟨ad1146, e1146, hx1146_0⟩ := Kd.at_int HR0_1.out a1 p1146 q1146; cases e1146; replace hx1146_0 := ce_ HB hx1146_0; replace p1146 := eq_true p1146; replace q1146 := eq_true q1146))
     go_ret
     exact ⟨ea_, (bl_ HB).out⟩
    ·rw [if_neg c8] at H
     exact absurd H (by simp)
   ·rw [if_neg c7] at H
    exact absurd H (by simp)
  ·replace c6 := Bool.eq_false_iff.mpr c6
   subst c6
   have H1 : (some 0) = some r := by rw [if_neg (show ¬ (false = true) by decide)] at H; exact H
   clear H
   have H := H1
   clear H1
   obtain rfl := Option.some.inj H
   go_enter Try.func110, Try.ntmps110
   go_wp2_with (first | ((with_reducible refine gate_dst (N := 2) rfl ?_); refine bx_ 2 #[.slice A0_0 l0_0.length c0_0, .slice A0_1 l0_1.length c0_1, .slice A0_2 l0_2.length c0_2] 53 ?_; intro gb1143 hg w13 hbox hb; have BK1143 := Aside0.mk (hbox); have GW1143 := Aside0.mk ((by rw [hg]; exact (bs_ HB) : w.heap.size ≤ gb1143)); have GE1143 := Aside0.mk ((by rw [hg]; exact (bs_ HB) : w.heap.size ≤ gb1143)); replace HB := tB_ HB hb; clear hb hbox hg; obtain ⟨hcz14_0, hcz14_1, hcz14_2, hfz14_0, hfz14_1, hfz14_2⟩ := bk3_ BK1143) | ((with_reducible refine gate_callee (f := 90) rfl ?_); refine gL_ (some 6) Try.func90 #[.agg #[.slice A0_0 l0_0.length c0_0, .slice A0_1 l0_1.length c0_1, .slice A0_2 l0_2.length c0_2]] ?_; (with_reducible refine (impl_CostOk.calls k _ _ l0_0 _ _ l0_1 _ _ l0_2 true _ (cx_ HR0_0 HB) HC0_0.out (cx_ HR0_1 HB) HC0_1.out (cx_ HR0_2 HB) HC0_2.out A3.out).mono ?_); rintro e w15 ⟨rfl, hb⟩; refine ⟨_, rfl, ?_⟩; replace BK1143 := tK_ BK1143 hb; replace HB := tB_ HB hb; (try clear hb)) | (go_at_call 128; (with_reducible refine (impl_LabelOk.calls a1 false _ A5.out).mono ?_); rintro e w' ⟨rfl, ⟨nd, rfl⟩⟩))
   go_ret
   exact ⟨ea_, (bl_ HB).out⟩
 ·replace c4 := Bool.eq_false_iff.mpr c4
  subst c4
  have H1 : (some 0) = some r := by rw [if_neg (show ¬ (false = true) by decide)] at H; exact H
  clear H
  have H := H1
  clear H1
  obtain rfl := Option.some.inj H
  go_enter Try.func110, Try.ntmps110
  go_wp2_with (first | ((with_reducible refine gate_dst (N := 2) rfl ?_); refine bx_ 2 #[.slice A0_0 l0_0.length c0_0, .slice A0_1 l0_1.length c0_1, .slice A0_2 l0_2.length c0_2] 53 ?_; intro gb1143 hg w16 hbox hb; have BK1143 := Aside0.mk (hbox); have GW1143 := Aside0.mk ((by rw [hg]; exact (bs_ HB) : w.heap.size ≤ gb1143)); have GE1143 := Aside0.mk ((by rw [hg]; exact (bs_ HB) : w.heap.size ≤ gb1143)); replace HB := tB_ HB hb; clear hb hbox hg; obtain ⟨hcz17_0, hcz17_1, hcz17_2, hfz17_0, hfz17_1, hfz17_2⟩ := bk3_ BK1143) | ((with_reducible refine gate_callee (f := 90) rfl ?_); refine gL_ (some 6) Try.func90 #[.agg #[.slice A0_0 l0_0.length c0_0, .slice A0_1 l0_1.length c0_1, .slice A0_2 l0_2.length c0_2]] ?_; (with_reducible refine (impl_CostOk.calls k _ _ l0_0 _ _ l0_1 _ _ l0_2 false _ (cx_ HR0_0 HB) HC0_0.out (cx_ HR0_1 HB) HC0_1.out (cx_ HR0_2 HB) HC0_2.out A3.out).mono ?_); rintro e w18 ⟨rfl, hb⟩; refine ⟨_, rfl, ?_⟩; replace BK1143 := tK_ BK1143 hb; replace HB := tB_ HB hb; (try clear hb)))
  go_ret
  exact ⟨ea_, (bl_ HB).out⟩
end Go.Proofs.Ytbifdckfglejkaa.X
