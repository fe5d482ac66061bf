/- Part 4 of the proof of FnExactScriptCost: what it needs. -/
import Derived.Test.YtbifdckfglejkaaKEScriptCost3
namespace Go.Proofs.Ytbifdckfglejkaa.X
open Go.RowKit Go.Proofs.YtbifdckfglejkaaW.PrintWords Go.Proofs.YtbifdckfglejkaaW.PrintLast Go.Proofs.YtbifdckfglejkaaW.PrintMore
attribute [local go_sem] max2_int min2_int max_two min_two max_three min_three max_four min_four   -- for this text's walks alone
set_option linter.unusedVariables false
set_option linter.unusedSimpArgs false
def spec_TreeOk.l0 : Nat → List (S90) → Int → Option (Bool)
 | 0, _, _ => none
 | k + 1, x0, x3 => if x3 < (x0.length : Int) then (if 0 ≤ x3 then ((spec_LabelOk.f ((rd_T90 x0 x3).f0)).bind fun t465 => (if t465 = true then ((spec_l1In.f ((rd_T90 x0 x3).f1) 0 12).bind fun t467 => (if t467 = true then (if ((((rd_T90 x0 x3).f1) == 0) != (x3 == 0)) = true then (some false) else (if x3 > 0 then (if 0 ≤ (wrap64 (x3 - 1)) then (if (wrap64 (x3 - 1)) < (x0.length : Int) then (if ((rd_T90 x0 x3).f1) > (wrap64 (((rd_T90 x0 (wrap64 (x3 - 1))).f1) + 1)) then (some false) else (spec_TreeOk.l0 k x0 (wrap64 (x3 + 1)))) else (none)) else (none)) else (spec_TreeOk.l0 k x0 (wrap64 (x3 + 1))))) else (some false))) else (some false))) else (none)) else ((spec_l1In.f (x0.length : Int) 1 24).bind fun t463 => (some t463))
def spec_TreeOk.f (k : Nat) (l0 : List (S90)) : Option (Bool) := spec_TreeOk.l0 k l0 0
def spec_TreeOk.T4 : Bool × List (List Nat × List Nat) := (true, [([], []), ([], []), ([0, 1], [0, 1]), ([2], [2]), ([3], [3]), ([4], [4]), ([5], [5]), ([6, 5], [6]), ([7], [7]), ([7], [7]), ([8, 9, 7], [7, 8, 9]), ([10, 7], [7, 10]), ([11, 7], [7, 11]), ([12, 7, 7], [7, 12]), ([13, 7], [7, 13]), ([7, 14], [7, 14]), ([15, 13], [15]), ([16], [16]), ([16], [16]), ([17, 18, 16], [16, 17, 18]), ([19, 16], [16, 19]), ([20, 16], [16, 20]), ([21, 16], [16, 21]), ([16], [16]), ([23, 16], [16, 23]), ([22, 24, 16], [16, 22, 24]), ([16, 25], [16, 25]), ([26, 16], [26]), ([27], [27]), ([28, 27], [27, 28]), ([29, 27, 27], [27, 29]), ([30], [30]), ([30], [30]), ([31, 32, 30], [30, 31, 32]), ([33, 30], [30, 33]), ([34, 30], [30, 34]), ([30], [30]), ([30], [30]), ([37, 30], [30, 37]), ([36, 38, 30], [30, 36, 38]), ([39, 30], [30, 39]), ([40, 30], [30, 40]), ([41, 30], [30, 41]), ([35, 42, 30], [30, 35, 42]), ([30, 43, 27], [27, 30, 43]), ([27, 44], [27, 44])])
def spec_TreeOk.B4 : List Nat := [0, 0, 3, 7, 15, 31, 63, 127, 255, 255, 1023, 2047, 4095, 8191, 16383, 32767, 65535, 131071, 131071, 524287, 1048575, 2097151, 4194303, 131071, 8519679, 33554431, 67108863, 134217727, 268435455, 536870911, 1073741823, 2147483647, 2147483647, 8589934591, 17179869183, 34359738367, 2147483647, 2147483647, 139586437119, 483183820799, 1032939634687, 2132451262463, 4331474518015, 8796093022207, 17592186044415, 35184372088831]
theorem spec_TreeOk.tab4 : rtab .any (opsOf Try.f64 4) = spec_TreeOk.T4 := by kernel_rfl
theorem spec_TreeOk.bits4 : waitsOk spec_TreeOk.T4.2 spec_TreeOk.B4 = true := by kernel_rfl
set_option maxHeartbeats 8000000 in
set_option maxRecDepth 100000 in
theorem spec_TreeOk.calls (k : Nat) (A0 : Option Addr) (c0 : Nat) (l0 : List (S90)) (r : Bool) (w : World) (hr0 : Kd.C k90 w A0 l0.length l0) (hc0 : l0.length ≤ c0) (h : spec_TreeOk.f k l0 = some r) :
  Calls Try.prog 64 #[.slice A0 l0.length c0] w fun e w' => e = .returned (.bool r) ∧ Below w.heap.size w w' := by
 have HR0 := Aside0.mk hr0
 have HC0 := Aside0.mk hc0
 clear hr0 hc0
 have HB := Aside0.mk (Below.refl w.heap.size w)
 have H : (spec_TreeOk.l0 k l0 0) = some r := h
 clear h
 have H' := Aside0.mk H
 clear H
 go_enter Try.func64, Try.ntmps64
 go_wp2
 go_loopg [3] k (fun kq v3 w' => ∃ (x3_1 : Int), v3 = .int .i64 x3_1 ∧ Aside0 (spec_TreeOk.l0 kq l0 x3_1 = some r) ∧ Aside0 (kq ≤ k) ∧ Aside0 (Below w.heap.size w w'))
 case atStart => exact ⟨(0), eb_, H', ⟨Nat.le_refl _⟩, bl_ HB⟩
 case round =>
  clear H'
  obtain ⟨x3_1, rfl, HA, HK1, HB⟩ := hrel
  cases gk with
  | zero => exact absurd HA.out (by simp [spec_TreeOk.l0])
  | succ k1 =>
   have H := HA.out
   clear HA
   simp only [spec_TreeOk.l0] at H
   by_cases c2 : x3_1 < (l0.length : Int)
   ·rw [if_pos c2] at H
    have c2b0 : decide (x3_1 < (l0.length : Int)) = true := decide_eq_true c2
    clear c2
    by_cases c3 : 0 ≤ x3_1
    ·rw [if_pos c3] at H
     have c3b0 : decide (0 ≤ x3_1) = true := decide_eq_true c3
     clear c3
     replace H := Option.bind_eq_some_iff.mp H
     obtain ⟨t465, A40, H⟩ := H
     try dsimp only at H
     have A4 := Aside0.mk A40
     clear A40
     by_cases c5 : t465 = true
     ·subst c5
      have H1 : ((spec_l1In.f ((rd_T90 l0 x3_1).f1) 0 12).bind fun t467 => (if t467 = true then (if ((((rd_T90 l0 x3_1).f1) == 0) != (x3_1 == 0)) = true then (some false) else (if x3_1 > 0 then (if 0 ≤ (wrap64 (x3_1 - 1)) then (if (wrap64 (x3_1 - 1)) < (l0.length : Int) then (if ((rd_T90 l0 x3_1).f1) > (wrap64 (((rd_T90 l0 (wrap64 (x3_1 - 1))).f1) + 1)) then (some false) else (spec_TreeOk.l0 k1 l0 (wrap64 (x3_1 + 1)))) else (none)) else (none)) else (spec_TreeOk.l0 k1 l0 (wrap64 (x3_1 + 1))))) else (some false))) = some r := by rw [if_pos rfl] at H; exact H
      clear H
      have H := H1
      clear H1
      replace H := Option.bind_eq_some_iff.mp H
      obtain ⟨t467, A60, H⟩ := H
      try dsimp only at H
      have A6 := Aside0.mk A60
      clear A60
      by_cases c7 : t467 = true
      ·subst c7
       have H1 : (if ((((rd_T90 l0 x3_1).f1) == 0) != (x3_1 == 0)) = true then (some false) else (if x3_1 > 0 then (if 0 ≤ (wrap64 (x3_1 - 1)) then (if (wrap64 (x3_1 - 1)) < (l0.length : Int) then (if ((rd_T90 l0 x3_1).f1) > (wrap64 (((rd_T90 l0 (wrap64 (x3_1 - 1))).f1) + 1)) then (some false) else (spec_TreeOk.l0 k1 l0 (wrap64 (x3_1 + 1)))) else (none)) else (none)) else (spec_TreeOk.l0 k1 l0 (wrap64 (x3_1 + 1))))) = some r := by rw [if_pos rfl] at H; exact H
       clear H
       have H := H1
       clear H1
       by_cases c8 : ((((rd_T90 l0 x3_1).f1) == 0) != (x3_1 == 0)) = true
       ·rw [if_pos c8] at H
        have c8b0 : ((((rd_T90 l0 x3_1).f1) == 0) != (x3_1 == 0)) = true := c8
        (try (have c8b1 : decide ((((rd_T90 l0 x3_1).f1) == 0) = (x3_1 == 0)) = false := by simpa using c8))
        (try (have c8b2 : ((((rd_T90 l0 x3_1).f1) == 0) == (x3_1 == 0)) = false := by simpa using c8))
        (try (have c8b3 : ¬ ((((rd_T90 l0 x3_1).f1) == 0) = (x3_1 == 0)) := by simpa using c8))
        clear c8
        obtain rfl := Option.some.inj H
        try go_wp2
        have n0_ := Aside0.mk (below_drew1 HB.out)
        clear HB
        have HB := n0_
        clear n0_
        have p464 : 0 ≤ (x3_1 : Int) := od_
        have q464 : x3_1 < (l0.length : Int) := od_
        obtain ⟨ad464, e464, hx464_0, hx464_1⟩ := at_T90 HR0.out x3_1 p464 q464
        have hw464_1 := hx464_1
        have hw464_0 := hx464_0
        cases e464
        replace hx464_0 := ce_ HB hx464_0
        replace hx464_1 := ce_ HB hx464_1
        replace p464 := eq_true p464
        replace q464 := eq_true q464
        have p466 : 0 ≤ (x3_1 : Int) := od_
        have q466 : x3_1 < (l0.length : Int) := od_
        obtain ⟨ad466, e466, hx466_0, hx466_1⟩ := at_T90 HR0.out x3_1 p466 q466
        have hw466_1 := hx466_1
        have hw466_0 := hx466_0
        obtain rfl : ad464 = ad466 := (by injection e466)
        replace hx466_0 := ce_ HB hx466_0
        replace hx466_1 := ce_ HB hx466_1
        replace p466 := eq_true p466
        replace q466 := eq_true q466
        have p468 : 0 ≤ (x3_1 : Int) := od_
        have q468 : x3_1 < (l0.length : Int) := od_
        obtain ⟨ad468, e468, hx468_0, hx468_1⟩ := at_T90 HR0.out x3_1 p468 q468
        have hw468_1 := hx468_1
        have hw468_0 := hx468_0
        obtain rfl : ad464 = ad468 := (by injection e468)
        replace hx468_0 := ce_ HB hx468_0
        replace hx468_1 := ce_ HB hx468_1
        replace p468 := eq_true p468
        replace q468 := eq_true q468
        refine start_ (n := 46) (S := fun w' => w'.cell? (ad464.add ((x3_1).toNat * 2)) = some (.int .i64 ((rd_T90 l0 x3_1).f0)) ∧ w'.cell? ⟨(ad464.add ((x3_1).toNat * 2)).block, (ad464.add ((x3_1).toNat * 2)).off + 1, none⟩ = some (.int .i64 ((rd_T90 l0 x3_1).f1)) ∧ w'.cell? (ad464.add ((x3_1).toNat * 2)) = some (.int .i64 ((rd_T90 l0 x3_1).f0)) ∧ w'.cell? ⟨(ad464.add ((x3_1).toNat * 2)).block, (ad464.add ((x3_1).toNat * 2)).off + 1, none⟩ = some (.int .i64 ((rd_T90 l0 x3_1).f1)) ∧ w'.cell? (ad464.add ((x3_1).toNat * 2)) = some (.int .i64 ((rd_T90 l0 x3_1).f0)) ∧ w'.cell? ⟨(ad464.add ((x3_1).toNat * 2)).block, (ad464.add ((x3_1).toNat * 2)).off + 1, none⟩ = some (.int .i64 ((rd_T90 l0 x3_1).f1))) (ds := []) (ba_ 46 0) (by kernel_rfl) rfl rfl ⟨(ce_ HB hw464_0), (ce_ HB hw464_1), (ce_ HB hw466_0), (ce_ HB hw466_1), (ce_ HB hw468_0), (ce_ HB hw468_1)⟩ (fun hHeld => ?_); refine with_tabW spec_TreeOk.tab4 spec_TreeOk.bits4 (fun HT_ HW_ => ?_)
        generalize wr.drew = w9 at HB hx464_0 hx464_1 hx466_0 hx466_1 hx468_0 hx468_1 hHeld ⊢
        refine pu_ 0 (some 10) (ba_ 46 1) rfl rfl (any_of HT_.out (by kernel_rfl)) ?_
        refine pu_ 1 (some 11) (ba_ 46 3) rfl rfl (any_of HT_.out (by kernel_rfl)) ?_
        refine pu_ 2 (some 12) (ba_ 46 7) rfl rfl (any_of HT_.out (by kernel_rfl)) ?_
        refine pu_ 3 (some 13) (ba_ 46 15) rfl rfl (any_of HT_.out (by kernel_rfl)) ?_
        refine ta_ 4 (some 14) (ba_ 46 31) rfl rfl (take_ofW HT_.out HW_.out (by kernel_rfl)) hHeld (by rintro w' ⟨s0, s1, s2, s3, s4, s5⟩; go_simp; with_reducible rfl) ?_
        refine one_ (i := 5) (N := some 15) (ba_ 46 63) rfl rfl (one_of HT_.out (by kernel_rfl)) (by decide) (fun K hK => ?_)
        refine goes_ Try.func69 (by kernel_rfl) rfl #[.int .i64 ((rd_T90 l0 x3_1).f0)] (by rfl) rfl rfl (by (try simp only [List.map_toArray, List.map_cons, List.map_nil]); first | done | rfl | (simp only [List.length_drop, List.length_take]; rfl)) ?_
        with_reducible refine (spec_LabelOk.calls ((rd_T90 l0 x3_1).f0) true _ A4.out).mono ?_
        rintro e w' ⟨rfl, ⟨nd, rfl⟩⟩
        refine ⟨_, rfl, ?_⟩
        refine hK.out _ _ ⟨(ce_ HB hw464_0), (ce_ HB hw464_1), (ce_ HB hw466_0), (ce_ HB hw466_1), (ce_ HB hw468_0), (ce_ HB hw468_1)⟩ (fun hHeld => ?_)
        clear hK K
        refine norm_ (a' := ?_) ?_ ?_
        rotate_left
        ·show Act.put _ (some 15) _ = _
         simp only [Act.put, List.setIfInBounds_toArray, List.set_cons_zero, List.set_cons_succ, i64_w, i32_w]
         rfl
        refine pu_ 6 (some 16) (ba_ 46 127) rfl rfl (any_of HT_.out (by kernel_rfl)) ?_
        refine pu_ 7 (some 17) (ba_ 46 255) rfl rfl (any_of HT_.out (by kernel_rfl)) ?_
        refine pu_ 8 (some 18) (ba_ 46 511) rfl rfl (any_of HT_.out (by kernel_rfl)) ?_
        refine pu_ 9 (some 19) (ba_ 46 1023) rfl rfl (any_of HT_.out (by kernel_rfl)) ?_
        refine pu_ 10 (some 20) (ba_ 46 2047) rfl rfl (any_of HT_.out (by kernel_rfl)) ?_
        refine pu_ 11 (some 21) (ba_ 46 4095) rfl rfl (any_of HT_.out (by kernel_rfl)) ?_
        refine ta_ 12 (some 22) (ba_ 46 8191) rfl rfl (take_ofW HT_.out HW_.out (by kernel_rfl)) hHeld (by rintro w' ⟨s0, s1, s2, s3, s4, s5⟩; go_simp; with_reducible rfl) ?_
        refine one_ (i := 13) (N := some 23) (ba_ 46 16383) rfl rfl (one_of HT_.out (by kernel_rfl)) (by decide) (fun K hK => ?_)
        refine goes_ Try.func67 (by kernel_rfl) rfl #[.int .i64 ((rd_T90 l0 x3_1).f1), .int .i64 0, .int .i64 12] (by rfl) rfl rfl (by (try simp only [List.map_toArray, List.map_cons, List.map_nil]); first | done | rfl | (simp only [List.length_drop, List.length_take]; rfl)) ?_
        with_reducible refine (spec_l1In.calls ((rd_T90 l0 x3_1).f1) 0 12 true _ A6.out).mono ?_
        rintro e w' ⟨rfl, ⟨nd, rfl⟩⟩
        refine ⟨_, rfl, ?_⟩
        refine hK.out _ _ ⟨(ce_ HB hw464_0), (ce_ HB hw464_1), (ce_ HB hw466_0), (ce_ HB hw466_1), (ce_ HB hw468_0), (ce_ HB hw468_1)⟩ (fun hHeld => ?_)
        clear hK K
        refine norm_ (a' := ?_) ?_ ?_
        rotate_left
        ·show Act.put _ (some 23) _ = _
         simp only [Act.put, List.setIfInBounds_toArray, List.set_cons_zero, List.set_cons_succ, i64_w, i32_w]
         rfl
        refine pu_ 14 (some 24) (ba_ 46 32767) rfl rfl (any_of HT_.out (by kernel_rfl)) ?_
        refine pu_ 15 (some 25) (ba_ 46 65535) rfl rfl (any_of HT_.out (by kernel_rfl)) ?_
        refine pu_ 16 (some 26) (ba_ 46 131071) rfl rfl (any_of HT_.out (by kernel_rfl)) ?_
        refine pu_ 17 (some 27) (ba_ 46 262143) rfl rfl (any_of HT_.out (by kernel_rfl)) ?_
        refine pu_ 18 (some 28) (ba_ 46 524287) rfl rfl (any_of HT_.out (by kernel_rfl)) ?_
        refine pu_ 19 (some 29) (ba_ 46 1048575) rfl rfl (any_of HT_.out (by kernel_rfl)) ?_
        refine pu_ 20 (some 30) (ba_ 46 2097151) rfl rfl (any_of HT_.out (by kernel_rfl)) ?_
        refine pu_ 23 (some 33) (ba_ 46 10485759) rfl rfl (any_of HT_.out (by kernel_rfl)) ?_
        refine pu_ 24 (some 34) (ba_ 46 27262975) rfl rfl (any_of HT_.out (by kernel_rfl)) ?_
        refine ta_ 21 (some 31) (ba_ 46 29360127) rfl rfl (take_ofW HT_.out HW_.out (by kernel_rfl)) hHeld (by rintro w' ⟨s0, s1, s2, s3, s4, s5⟩; go_simp; with_reducible rfl) ?_
        refine pu_ 22 (some 32) (ba_ 46 33554431) rfl rfl (any_of HT_.out (by kernel_rfl)) ?_
        refine pu_ 25 (some 35) (ba_ 46 67108863) rfl rfl (any_of HT_.out (by kernel_rfl)) ?_
        refine pu_ 26 (some 36) (ba_ 46 134217727) rfl rfl (any_of HT_.out (by kernel_rfl)) ?_
        refine pu_ 27 (some 37) (ba_ 46 268435455) rfl rfl (any_of HT_.out (by kernel_rfl)) ?_
        refine pn_ 28 (some 38) (ba_ 46 536870911) rfl rfl (any_of HT_.out (by kernel_rfl)) ?_
        refine pn_ 29 (some 39) (ba_ 46 1073741823) rfl rfl (any_of HT_.out (by kernel_rfl)) ?_
        refine pn_ 30 (some 40) (ba_ 46 2147483647) rfl rfl (any_of HT_.out (by kernel_rfl)) ?_
        refine pn_ 31 (some 41) (ba_ 46 4294967295) rfl rfl (any_of HT_.out (by kernel_rfl)) ?_
        refine pn_ 32 (some 42) (ba_ 46 8589934591) rfl rfl (any_of HT_.out (by kernel_rfl)) ?_
        refine pn_ 33 (some 43) (ba_ 46 17179869183) rfl rfl (any_of HT_.out (by kernel_rfl)) ?_
        refine pn_ 34 (some 44) (ba_ 46 34359738367) rfl rfl (any_of HT_.out (by kernel_rfl)) ?_
        refine pn_ 35 (some 45) (ba_ 46 68719476735) rfl rfl (any_of HT_.out (by kernel_rfl)) ?_
        refine pn_ 36 (some 46) (ba_ 46 137438953471) rfl rfl (any_of HT_.out (by kernel_rfl)) ?_
        refine pn_ 37 (some 47) (ba_ 46 274877906943) rfl rfl (any_of HT_.out (by kernel_rfl)) ?_
        refine pn_ 38 (some 48) (ba_ 46 549755813887) rfl rfl (any_of HT_.out (by kernel_rfl)) ?_
        refine pn_ 39 (some 49) (ba_ 46 1099511627775) rfl rfl (any_of HT_.out (by kernel_rfl)) ?_
        refine pn_ 40 (some 50) (ba_ 46 2199023255551) rfl rfl (any_of HT_.out (by kernel_rfl)) ?_
        refine pn_ 41 (some 51) (ba_ 46 4398046511103) rfl rfl (any_of HT_.out (by kernel_rfl)) ?_
        refine pn_ 42 (some 52) (ba_ 46 8796093022207) rfl rfl (any_of HT_.out (by kernel_rfl)) ?_
        refine pn_ 43 (some 53) (ba_ 46 17592186044415) rfl rfl (any_of HT_.out (by kernel_rfl)) ?_
        refine pn_ 44 (some 54) (ba_ 46 35184372088831) rfl rfl (any_of HT_.out (by kernel_rfl)) ?_
        refine pu_ 45 (some 55) (ba_ 46 70368744177663) rfl rfl (any_of HT_.out (by kernel_rfl)) ?_
        refine done_ (done_of HT_.out (by kernel_rfl)) ?_
        try go_wp2
        go_ret
        exact ⟨ea_, (bl_ HB).out⟩
       ·rw [if_neg c8] at H
        have c8b0 : ((((rd_T90 l0 x3_1).f1) == 0) != (x3_1 == 0)) = false := by simpa using c8
        (try (have c8b1 : decide ((((rd_T90 l0 x3_1).f1) == 0) = (x3_1 == 0)) = true := by simpa using c8))
        (try (have c8b2 : ((((rd_T90 l0 x3_1).f1) == 0) == (x3_1 == 0)) = true := by simpa using c8))
        clear c8
        by_cases c10 : x3_1 > 0
        ·rw [if_pos c10] at H
         have c10b0 : decide (0 < x3_1) = true := decide_eq_true c10
         clear c10
         obtain ⟨ji11, hji11⟩ : ∃ j_ : Int, (wrap64 (x3_1 - 1)) = j_ := ⟨_, rfl⟩
         replace H : (if 0 ≤ (ji11) then (if (ji11) < (l0.length : Int) then (if ((rd_T90 l0 x3_1).f1) > (wrap64 (((rd_T90 l0 (ji11)).f1) + 1)) then (some false) else (spec_TreeOk.l0 k1 l0 (wrap64 (x3_1 + 1)))) else (none)) else (none)) = some r := by first | (rw [hji11] at H; exact H) | (simp only [hji11] at H ⊢; exact H)
         (try rw [hji11] at A4)
         (try rw [hji11] at A6)
         have hji11w : (IntKind.i64.wrap (x3_1 - 1)) = ji11 := (i64_w _).trans hji11
         by_cases c12 : 0 ≤ (ji11)
         ·rw [if_pos c12] at H
          have c12b0 : decide (0 ≤ (ji11)) = true := decide_eq_true c12
          clear c12
          by_cases c13 : (ji11) < (l0.length : Int)
          ·rw [if_pos c13] at H
           have c13b0 : decide ((ji11) < (l0.length : Int)) = true := decide_eq_true c13
           clear c13
           by_cases c14 : ((rd_T90 l0 x3_1).f1) > (wrap64 (((rd_T90 l0 (ji11)).f1) + 1))
           ·rw [if_pos c14] at H
            have c14b0 : decide ((wrap64 (((rd_T90 l0 (ji11)).f1) + 1)) < ((rd_T90 l0 x3_1).f1)) = true := decide_eq_true c14
            clear c14
            obtain rfl := Option.some.inj H
            try go_wp2
            have n0_ := Aside0.mk (below_drew1 HB.out)
            clear HB
            have HB := n0_
            clear n0_
            have p464 : 0 ≤ (x3_1 : Int) := od_
            have q464 : x3_1 < (l0.length : Int) := od_
            obtain ⟨ad464, e464, hx464_0, hx464_1⟩ := at_T90 HR0.out x3_1 p464 q464
            have hw464_1 := hx464_1
            have hw464_0 := hx464_0
            cases e464
            replace hx464_0 := ce_ HB hx464_0
            replace hx464_1 := ce_ HB hx464_1
            replace p464 := eq_true p464
            replace q464 := eq_true q464
            have p466 : 0 ≤ (x3_1 : Int) := od_
            have q466 : x3_1 < (l0.length : Int) := od_
            obtain ⟨ad466, e466, hx466_0, hx466_1⟩ := at_T90 HR0.out x3_1 p466 q466
            have hw466_1 := hx466_1
            have hw466_0 := hx466_0
            obtain rfl : ad464 = ad466 := (by injection e466)
            replace hx466_0 := ce_ HB hx466_0
            replace hx466_1 := ce_ HB hx466_1
            replace p466 := eq_true p466
            replace q466 := eq_true q466
            have p468 : 0 ≤ (x3_1 : Int) := od_
            have q468 : x3_1 < (l0.length : Int) := od_
            obtain ⟨ad468, e468, hx468_0, hx468_1⟩ := at_T90 HR0.out x3_1 p468 q468
            have hw468_1 := hx468_1
            have hw468_0 := hx468_0
            obtain rfl : ad464 = ad468 := (by injection e468)
            replace hx468_0 := ce_ HB hx468_0
            replace hx468_1 := ce_ HB hx468_1
            replace p468 := eq_true p468
            replace q468 := eq_true q468
            have p469 : 0 ≤ (x3_1 : Int) := od_
            have q469 : x3_1 < (l0.length : Int) := od_
            obtain ⟨ad469, e469, hx469_0, hx469_1⟩ := at_T90 HR0.out x3_1 p469 q469
            have hw469_1 := hx469_1
            have hw469_0 := hx469_0
            obtain rfl : ad464 = ad469 := (by injection e469)
            replace hx469_0 := ce_ HB hx469_0
            replace hx469_1 := ce_ HB hx469_1
            replace p469 := eq_true p469
            replace q469 := eq_true q469
            have p470 : 0 ≤ ((ji11) : Int) := od_
            have q470 : (ji11) < (l0.length : Int) := od_
            obtain ⟨ad470, e470, hx470_0, hx470_1⟩ := at_T90 HR0.out (ji11) p470 q470
            have hw470_1 := hx470_1
            have hw470_0 := hx470_0
            obtain rfl : ad464 = ad470 := (by injection e470)
            replace hx470_0 := ce_ HB hx470_0
            replace hx470_1 := ce_ HB hx470_1
            replace p470 := eq_true p470
            replace q470 := eq_true q470
            refine start_ (n := 46) (S := fun w' => w'.cell? (ad464.add ((x3_1).toNat * 2)) = some (.int .i64 ((rd_T90 l0 x3_1).f0)) ∧ w'.cell? ⟨(ad464.add ((x3_1).toNat * 2)).block, (ad464.add ((x3_1).toNat * 2)).off + 1, none⟩ = some (.int .i64 ((rd_T90 l0 x3_1).f1)) ∧ w'.cell? (ad464.add ((x3_1).toNat * 2)) = some (.int .i64 ((rd_T90 l0 x3_1).f0)) ∧ w'.cell? ⟨(ad464.add ((x3_1).toNat * 2)).block, (ad464.add ((x3_1).toNat * 2)).off + 1, none⟩ = some (.int .i64 ((rd_T90 l0 x3_1).f1)) ∧ w'.cell? (ad464.add ((x3_1).toNat * 2)) = some (.int .i64 ((rd_T90 l0 x3_1).f0)) ∧ w'.cell? ⟨(ad464.add ((x3_1).toNat * 2)).block, (ad464.add ((x3_1).toNat * 2)).off + 1, none⟩ = some (.int .i64 ((rd_T90 l0 x3_1).f1)) ∧ w'.cell? (ad464.add ((x3_1).toNat * 2)) = some (.int .i64 ((rd_T90 l0 x3_1).f0)) ∧ w'.cell? ⟨(ad464.add ((x3_1).toNat * 2)).block, (ad464.add ((x3_1).toNat * 2)).off + 1, none⟩ = some (.int .i64 ((rd_T90 l0 x3_1).f1)) ∧ w'.cell? (ad464.add (((ji11)).toNat * 2)) = some (.int .i64 ((rd_T90 l0 (ji11)).f0)) ∧ w'.cell? ⟨(ad464.add (((ji11)).toNat * 2)).block, (ad464.add (((ji11)).toNat * 2)).off + 1, none⟩ = some (.int .i64 ((rd_T90 l0 (ji11)).f1))) (ds := []) (ba_ 46 0) (by kernel_rfl) rfl rfl ⟨(ce_ HB hw464_0), (ce_ HB hw464_1), (ce_ HB hw466_0), (ce_ HB hw466_1), (ce_ HB hw468_0), (ce_ HB hw468_1), (ce_ HB hw469_0), (ce_ HB hw469_1), (ce_ HB hw470_0), (ce_ HB hw470_1)⟩ (fun hHeld => ?_); refine with_tabW spec_TreeOk.tab4 spec_TreeOk.bits4 (fun HT_ HW_ => ?_)
            generalize wr.drew = w15 at HB hx464_0 hx464_1 hx466_0 hx466_1 hx468_0 hx468_1 hx469_0 hx469_1 hx470_0 hx470_1 hHeld ⊢
            refine pu_ 0 (some 10) (ba_ 46 1) rfl rfl (any_of HT_.out (by kernel_rfl)) ?_
            refine pu_ 1 (some 11) (ba_ 46 3) rfl rfl (any_of HT_.out (by kernel_rfl)) ?_
            refine pu_ 2 (some 12) (ba_ 46 7) rfl rfl (any_of HT_.out (by kernel_rfl)) ?_
            refine pu_ 3 (some 13) (ba_ 46 15) rfl rfl (any_of HT_.out (by kernel_rfl)) ?_
            refine ta_ 4 (some 14) (ba_ 46 31) rfl rfl (take_ofW HT_.out HW_.out (by kernel_rfl)) hHeld (by rintro w' ⟨s0, s1, s2, s3, s4, s5, s6, s7, s8, s9⟩; go_simp; with_reducible rfl) ?_
            refine one_ (i := 5) (N := some 15) (ba_ 46 63) rfl rfl (one_of HT_.out (by kernel_rfl)) (by decide) (fun K hK => ?_)
            refine goes_ Try.func69 (by kernel_rfl) rfl #[.int .i64 ((rd_T90 l0 x3_1).f0)] (by rfl) rfl rfl (by (try simp only [List.map_toArray, List.map_cons, List.map_nil]); first | done | rfl | (simp only [List.length_drop, List.length_take]; rfl)) ?_
            with_reducible refine (spec_LabelOk.calls ((rd_T90 l0 x3_1).f0) true _ A4.out).mono ?_
            rintro e w' ⟨rfl, ⟨nd, rfl⟩⟩
            refine ⟨_, rfl, ?_⟩
            refine hK.out _ _ ⟨(ce_ HB hw464_0), (ce_ HB hw464_1), (ce_ HB hw466_0), (ce_ HB hw466_1), (ce_ HB hw468_0), (ce_ HB hw468_1), (ce_ HB hw469_0), (ce_ HB hw469_1), (ce_ HB hw470_0), (ce_ HB hw470_1)⟩ (fun hHeld => ?_)
            clear hK K
            refine norm_ (a' := ?_) ?_ ?_
            rotate_left
            ·show Act.put _ (some 15) _ = _
             simp only [Act.put, List.setIfInBounds_toArray, List.set_cons_zero, List.set_cons_succ, i64_w, i32_w]
             rfl
            refine pu_ 6 (some 16) (ba_ 46 127) rfl rfl (any_of HT_.out (by kernel_rfl)) ?_
            refine pu_ 7 (some 17) (ba_ 46 255) rfl rfl (any_of HT_.out (by kernel_rfl)) ?_
            refine pu_ 8 (some 18) (ba_ 46 511) rfl rfl (any_of HT_.out (by kernel_rfl)) ?_
            refine pu_ 9 (some 19) (ba_ 46 1023) rfl rfl (any_of HT_.out (by kernel_rfl)) ?_
            refine pu_ 10 (some 20) (ba_ 46 2047) rfl rfl (any_of HT_.out (by kernel_rfl)) ?_
            refine pu_ 11 (some 21) (ba_ 46 4095) rfl rfl (any_of HT_.out (by kernel_rfl)) ?_
            refine ta_ 12 (some 22) (ba_ 46 8191) rfl rfl (take_ofW HT_.out HW_.out (by kernel_rfl)) hHeld (by rintro w' ⟨s0, s1, s2, s3, s4, s5, s6, s7, s8, s9⟩; go_simp; with_reducible rfl) ?_
            refine one_ (i := 13) (N := some 23) (ba_ 46 16383) rfl rfl (one_of HT_.out (by kernel_rfl)) (by decide) (fun K hK => ?_)
            refine goes_ Try.func67 (by kernel_rfl) rfl #[.int .i64 ((rd_T90 l0 x3_1).f1), .int .i64 0, .int .i64 12] (by rfl) rfl rfl (by (try simp only [List.map_toArray, List.map_cons, List.map_nil]); first | done | rfl | (simp only [List.length_drop, List.length_take]; rfl)) ?_
            with_reducible refine (spec_l1In.calls ((rd_T90 l0 x3_1).f1) 0 12 true _ A6.out).mono ?_
            rintro e w' ⟨rfl, ⟨nd, rfl⟩⟩
            refine ⟨_, rfl, ?_⟩
            refine hK.out _ _ ⟨(ce_ HB hw464_0), (ce_ HB hw464_1), (ce_ HB hw466_0), (ce_ HB hw466_1), (ce_ HB hw468_0), (ce_ HB hw468_1), (ce_ HB hw469_0), (ce_ HB hw469_1), (ce_ HB hw470_0), (ce_ HB hw470_1)⟩ (fun hHeld => ?_)
            clear hK K
            refine norm_ (a' := ?_) ?_ ?_
            rotate_left
            ·show Act.put _ (some 23) _ = _
             simp only [Act.put, List.setIfInBounds_toArray, List.set_cons_zero, List.set_cons_succ, i64_w, i32_w]
             rfl
            refine pu_ 14 (some 24) (ba_ 46 32767) rfl rfl (any_of HT_.out (by kernel_rfl)) ?_
            refine pu_ 15 (some 25) (ba_ 46 65535) rfl rfl (any_of HT_.out (by kernel_rfl)) ?_
            refine pu_ 16 (some 26) (ba_ 46 131071) rfl rfl (any_of HT_.out (by kernel_rfl)) ?_
            refine pu_ 17 (some 27) (ba_ 46 262143) rfl rfl (any_of HT_.out (by kernel_rfl)) ?_
            refine pu_ 18 (some 28) (ba_ 46 524287) rfl rfl (any_of HT_.out (by kernel_rfl)) ?_
            refine pu_ 19 (some 29) (ba_ 46 1048575) rfl rfl (any_of HT_.out (by kernel_rfl)) ?_
            refine pu_ 20 (some 30) (ba_ 46 2097151) rfl rfl (any_of HT_.out (by kernel_rfl)) ?_
            refine pu_ 23 (some 33) (ba_ 46 10485759) rfl rfl (any_of HT_.out (by kernel_rfl)) ?_
            refine pu_ 24 (some 34) (ba_ 46 27262975) rfl rfl (any_of HT_.out (by kernel_rfl)) ?_
            refine ta_ 21 (some 31) (ba_ 46 29360127) rfl rfl (take_ofW HT_.out HW_.out (by kernel_rfl)) hHeld (by rintro w' ⟨s0, s1, s2, s3, s4, s5, s6, s7, s8, s9⟩; go_simp; with_reducible rfl) ?_
            refine pu_ 22 (some 32) (ba_ 46 33554431) rfl rfl (any_of HT_.out (by kernel_rfl)) ?_
            refine pu_ 25 (some 35) (ba_ 46 67108863) rfl rfl (any_of HT_.out (by kernel_rfl)) ?_
            refine pu_ 26 (some 36) (ba_ 46 134217727) rfl rfl (any_of HT_.out (by kernel_rfl)) ?_
            refine pu_ 27 (some 37) (ba_ 46 268435455) rfl rfl (any_of HT_.out (by kernel_rfl)) ?_
            refine pu_ 28 (some 38) (ba_ 46 536870911) rfl rfl (any_of HT_.out (by kernel_rfl)) ?_
            refine pu_ 29 (some 39) (ba_ 46 1073741823) rfl rfl (any_of HT_.out (by kernel_rfl)) ?_
            refine pu_ 30 (some 40) (ba_ 46 2147483647) rfl rfl (any_of HT_.out (by kernel_rfl)) ?_
            refine pu_ 31 (some 41) (ba_ 46 4294967295) rfl rfl (any_of HT_.out (by kernel_rfl)) ?_
            refine pu_ 32 (some 42) (ba_ 46 8589934591) rfl rfl (any_of HT_.out (by kernel_rfl)) ?_
            refine pu_ 33 (some 43) (ba_ 46 17179869183) rfl rfl (any_of HT_.out (by kernel_rfl)) ?_
            refine pu_ 34 (some 44) (ba_ 46 34359738367) rfl rfl (any_of HT_.out (by kernel_rfl)) ?_
            refine pu_ 36 (some 46) (ba_ 46 103079215103) rfl rfl (any_of HT_.out (by kernel_rfl)) ?_
            refine pu_ 37 (some 47) (ba_ 46 240518168575) rfl rfl (any_of HT_.out (by kernel_rfl)) ?_
            refine pu_ 38 (some 48) (ba_ 46 515396075519) rfl rfl (any_of HT_.out (by kernel_rfl)) ?_
            refine pu_ 39 (some 49) (ba_ 46 1065151889407) rfl rfl (any_of HT_.out (by kernel_rfl)) ?_
            refine pu_ 40 (some 50) (ba_ 46 2164663517183) rfl rfl (any_of HT_.out (by kernel_rfl)) ?_
            refine ta_ 35 (some 45) (ba_ 46 2199023255551) rfl rfl (take_ofW HT_.out HW_.out (by kernel_rfl)) hHeld (by rintro w' ⟨s0, s1, s2, s3, s4, s5, s6, s7, s8, s9⟩; go_simp; with_reducible rfl) ?_
            refine ta_ 41 (some 51) (ba_ 46 4398046511103) rfl rfl (take_ofW HT_.out HW_.out (by kernel_rfl)) hHeld (by rintro w' ⟨s0, s1, s2, s3, s4, s5, s6, s7, s8, s9⟩; go_simp; with_reducible rfl) ?_
            refine pu_ 42 (some 52) (ba_ 46 8796093022207) rfl rfl (any_of HT_.out (by kernel_rfl)) ?_
            refine pu_ 43 (some 53) (ba_ 46 17592186044415) rfl rfl (any_of HT_.out (by kernel_rfl)) ?_
            refine pu_ 44 (some 54) (ba_ 46 35184372088831) rfl rfl (any_of HT_.out (by kernel_rfl)) ?_
            refine pu_ 45 (some 55) (ba_ 46 70368744177663) rfl rfl (any_of HT_.out (by kernel_rfl)) ?_
            refine done_ (done_of HT_.out (by kernel_rfl)) ?_
            try go_wp2
            go_ret
            exact ⟨by first | rfl | (simp [errW_none, errW_some] <;> rfl) | (simp only [← hji11]; first | rfl | (simp [errW_none, errW_some] <;> rfl)) | (simp [*, errW_none, errW_some] <;> rfl), (bl_ HB).out⟩
           ·rw [if_neg c14] at H
            have c14b0 : decide ((wrap64 (((rd_T90 l0 (ji11)).f1) + 1)) < ((rd_T90 l0 x3_1).f1)) = false := decide_eq_false c14
            clear c14
            have H' := Aside0.mk H
            clear H
            try go_wp2
            have n0_ := Aside0.mk (below_drew1 HB.out)
            clear HB
            have HB := n0_
            clear n0_
            have p464 : 0 ≤ (x3_1 : Int) := od_
            have q464 : x3_1 < (l0.length : Int) := od_
            obtain ⟨ad464, e464, hx464_0, hx464_1⟩ := at_T90 HR0.out x3_1 p464 q464
            have hw464_1 := hx464_1
            have hw464_0 := hx464_0
            cases e464
            replace hx464_0 := ce_ HB hx464_0
            replace hx464_1 := ce_ HB hx464_1
            replace p464 := eq_true p464
            replace q464 := eq_true q464
            have p466 : 0 ≤ (x3_1 : Int) := od_
            have q466 : x3_1 < (l0.length : Int) := od_
            obtain ⟨ad466, e466, hx466_0, hx466_1⟩ := at_T90 HR0.out x3_1 p466 q466
            have hw466_1 := hx466_1
            have hw466_0 := hx466_0
            obtain rfl : ad464 = ad466 := (by injection e466)
            replace hx466_0 := ce_ HB hx466_0
            replace hx466_1 := ce_ HB hx466_1
            replace p466 := eq_true p466
            replace q466 := eq_true q466
            have p468 : 0 ≤ (x3_1 : Int) := od_
            have q468 : x3_1 < (l0.length : Int) := od_
            obtain ⟨ad468, e468, hx468_0, hx468_1⟩ := at_T90 HR0.out x3_1 p468 q468
            have hw468_1 := hx468_1
            have hw468_0 := hx468_0
            obtain rfl : ad464 = ad468 := (by injection e468)
            replace hx468_0 := ce_ HB hx468_0
            replace hx468_1 := ce_ HB hx468_1
            replace p468 := eq_true p468
            replace q468 := eq_true q468
            have p469 : 0 ≤ (x3_1 : Int) := od_
            have q469 : x3_1 < (l0.length : Int) := od_
            obtain ⟨ad469, e469, hx469_0, hx469_1⟩ := at_T90 HR0.out x3_1 p469 q469
            have hw469_1 := hx469_1
            have hw469_0 := hx469_0
            obtain rfl : ad464 = ad469 := (by injection e469)
            replace hx469_0 := ce_ HB hx469_0
            replace hx469_1 := ce_ HB hx469_1
            replace p469 := eq_true p469
            replace q469 := eq_true q469
            have p470 : 0 ≤ ((ji11) : Int) := od_
            have q470 : (ji11) < (l0.length : Int) := od_
            obtain ⟨ad470, e470, hx470_0, hx470_1⟩ := at_T90 HR0.out (ji11) p470 q470
            have hw470_1 := hx470_1
            have hw470_0 := hx470_0
            obtain rfl : ad464 = ad470 := (by injection e470)
            replace hx470_0 := ce_ HB hx470_0
            replace hx470_1 := ce_ HB hx470_1
            replace p470 := eq_true p470
            replace q470 := eq_true q470
            refine start_ (n := 46) (S := fun w' => w'.cell? (ad464.add ((x3_1).toNat * 2)) = some (.int .i64 ((rd_T90 l0 x3_1).f0)) ∧ w'.cell? ⟨(ad464.add ((x3_1).toNat * 2)).block, (ad464.add ((x3_1).toNat * 2)).off + 1, none⟩ = some (.int .i64 ((rd_T90 l0 x3_1).f1)) ∧ w'.cell? (ad464.add ((x3_1).toNat * 2)) = some (.int .i64 ((rd_T90 l0 x3_1).f0)) ∧ w'.cell? ⟨(ad464.add ((x3_1).toNat * 2)).block, (ad464.add ((x3_1).toNat * 2)).off + 1, none⟩ = some (.int .i64 ((rd_T90 l0 x3_1).f1)) ∧ w'.cell? (ad464.add ((x3_1).toNat * 2)) = some (.int .i64 ((rd_T90 l0 x3_1).f0)) ∧ w'.cell? ⟨(ad464.add ((x3_1).toNat * 2)).block, (ad464.add ((x3_1).toNat * 2)).off + 1, none⟩ = some (.int .i64 ((rd_T90 l0 x3_1).f1)) ∧ w'.cell? (ad464.add ((x3_1).toNat * 2)) = some (.int .i64 ((rd_T90 l0 x3_1).f0)) ∧ w'.cell? ⟨(ad464.add ((x3_1).toNat * 2)).block, (ad464.add ((x3_1).toNat * 2)).off + 1, none⟩ = some (.int .i64 ((rd_T90 l0 x3_1).f1)) ∧ w'.cell? (ad464.add (((ji11)).toNat * 2)) = some (.int .i64 ((rd_T90 l0 (ji11)).f0)) ∧ w'.cell? ⟨(ad464.add (((ji11)).toNat * 2)).block, (ad464.add (((ji11)).toNat * 2)).off + 1, none⟩ = some (.int .i64 ((rd_T90 l0 (ji11)).f1))) (ds := []) (ba_ 46 0) (by kernel_rfl) rfl rfl ⟨(ce_ HB hw464_0), (ce_ HB hw464_1), (ce_ HB hw466_0), (ce_ HB hw466_1), (ce_ HB hw468_0), (ce_ HB hw468_1), (ce_ HB hw469_0), (ce_ HB hw469_1), (ce_ HB hw470_0), (ce_ HB hw470_1)⟩ (fun hHeld => ?_); refine with_tabW spec_TreeOk.tab4 spec_TreeOk.bits4 (fun HT_ HW_ => ?_)
            generalize wr.drew = w16 at HB hx464_0 hx464_1 hx466_0 hx466_1 hx468_0 hx468_1 hx469_0 hx469_1 hx470_0 hx470_1 hHeld ⊢
            refine pu_ 0 (some 10) (ba_ 46 1) rfl rfl (any_of HT_.out (by kernel_rfl)) ?_
            refine pu_ 1 (some 11) (ba_ 46 3) rfl rfl (any_of HT_.out (by kernel_rfl)) ?_
            refine pu_ 2 (some 12) (ba_ 46 7) rfl rfl (any_of HT_.out (by kernel_rfl)) ?_
            refine pu_ 3 (some 13) (ba_ 46 15) rfl rfl (any_of HT_.out (by kernel_rfl)) ?_
            refine ta_ 4 (some 14) (ba_ 46 31) rfl rfl (take_ofW HT_.out HW_.out (by kernel_rfl)) hHeld (by rintro w' ⟨s0, s1, s2, s3, s4, s5, s6, s7, s8, s9⟩; go_simp; with_reducible rfl) ?_
            refine one_ (i := 5) (N := some 15) (ba_ 46 63) rfl rfl (one_of HT_.out (by kernel_rfl)) (by decide) (fun K hK => ?_)
            refine goes_ Try.func69 (by kernel_rfl) rfl #[.int .i64 ((rd_T90 l0 x3_1).f0)] (by rfl) rfl rfl (by (try simp only [List.map_toArray, List.map_cons, List.map_nil]); first | done | rfl | (simp only [List.length_drop, List.length_take]; rfl)) ?_
            with_reducible refine (spec_LabelOk.calls ((rd_T90 l0 x3_1).f0) true _ A4.out).mono ?_
            rintro e w' ⟨rfl, ⟨nd, rfl⟩⟩
            refine ⟨_, rfl, ?_⟩
            refine hK.out _ _ ⟨(ce_ HB hw464_0), (ce_ HB hw464_1), (ce_ HB hw466_0), (ce_ HB hw466_1), (ce_ HB hw468_0), (ce_ HB hw468_1), (ce_ HB hw469_0), (ce_ HB hw469_1), (ce_ HB hw470_0), (ce_ HB hw470_1)⟩ (fun hHeld => ?_)
            clear hK K
            refine norm_ (a' := ?_) ?_ ?_
            rotate_left
            ·show Act.put _ (some 15) _ = _
             simp only [Act.put, List.setIfInBounds_toArray, List.set_cons_zero, List.set_cons_succ, i64_w, i32_w]
             rfl
            refine pu_ 6 (some 16) (ba_ 46 127) rfl rfl (any_of HT_.out (by kernel_rfl)) ?_
            refine pu_ 7 (some 17) (ba_ 46 255) rfl rfl (any_of HT_.out (by kernel_rfl)) ?_
            refine pu_ 8 (some 18) (ba_ 46 511) rfl rfl (any_of HT_.out (by kernel_rfl)) ?_
            refine pu_ 9 (some 19) (ba_ 46 1023) rfl rfl (any_of HT_.out (by kernel_rfl)) ?_
            refine pu_ 10 (some 20) (ba_ 46 2047) rfl rfl (any_of HT_.out (by kernel_rfl)) ?_
            refine pu_ 11 (some 21) (ba_ 46 4095) rfl rfl (any_of HT_.out (by kernel_rfl)) ?_
            refine ta_ 12 (some 22) (ba_ 46 8191) rfl rfl (take_ofW HT_.out HW_.out (by kernel_rfl)) hHeld (by rintro w' ⟨s0, s1, s2, s3, s4, s5, s6, s7, s8, s9⟩; go_simp; with_reducible rfl) ?_
            refine one_ (i := 13) (N := some 23) (ba_ 46 16383) rfl rfl (one_of HT_.out (by kernel_rfl)) (by decide) (fun K hK => ?_)
            refine goes_ Try.func67 (by kernel_rfl) rfl #[.int .i64 ((rd_T90 l0 x3_1).f1), .int .i64 0, .int .i64 12] (by rfl) rfl rfl (by (try simp only [List.map_toArray, List.map_cons, List.map_nil]); first | done | rfl | (simp only [List.length_drop, List.length_take]; rfl)) ?_
            with_reducible refine (spec_l1In.calls ((rd_T90 l0 x3_1).f1) 0 12 true _ A6.out).mono ?_
            rintro e w' ⟨rfl, ⟨nd, rfl⟩⟩
            refine ⟨_, rfl, ?_⟩
            refine hK.out _ _ ⟨(ce_ HB hw464_0), (ce_ HB hw464_1), (ce_ HB hw466_0), (ce_ HB hw466_1), (ce_ HB hw468_0), (ce_ HB hw468_1), (ce_ HB hw469_0), (ce_ HB hw469_1), (ce_ HB hw470_0), (ce_ HB hw470_1)⟩ (fun hHeld => ?_)
            clear hK K
            refine norm_ (a' := ?_) ?_ ?_
            rotate_left
            ·show Act.put _ (some 23) _ = _
             simp only [Act.put, List.setIfInBounds_toArray, List.set_cons_zero, List.set_cons_succ, i64_w, i32_w]
             rfl
            refine pu_ 14 (some 24) (ba_ 46 32767) rfl rfl (any_of HT_.out (by kernel_rfl)) ?_
            refine pu_ 15 (some 25) (ba_ 46 65535) rfl rfl (any_of HT_.out (by kernel_rfl)) ?_
            refine pu_ 16 (some 26) (ba_ 46 131071) rfl rfl (any_of HT_.out (by kernel_rfl)) ?_
            refine pu_ 17 (some 27) (ba_ 46 262143) rfl rfl (any_of HT_.out (by kernel_rfl)) ?_
            refine pu_ 18 (some 28) (ba_ 46 524287) rfl rfl (any_of HT_.out (by kernel_rfl)) ?_
            refine pu_ 19 (some 29) (ba_ 46 1048575) rfl rfl (any_of HT_.out (by kernel_rfl)) ?_
            refine pu_ 20 (some 30) (ba_ 46 2097151) rfl rfl (any_of HT_.out (by kernel_rfl)) ?_
            refine pu_ 23 (some 33) (ba_ 46 10485759) rfl rfl (any_of HT_.out (by kernel_rfl)) ?_
            refine pu_ 24 (some 34) (ba_ 46 27262975) rfl rfl (any_of HT_.out (by kernel_rfl)) ?_
            refine ta_ 21 (some 31) (ba_ 46 29360127) rfl rfl (take_ofW HT_.out HW_.out (by kernel_rfl)) hHeld (by rintro w' ⟨s0, s1, s2, s3, s4, s5, s6, s7, s8, s9⟩; go_simp; with_reducible rfl) ?_
            refine pu_ 22 (some 32) (ba_ 46 33554431) rfl rfl (any_of HT_.out (by kernel_rfl)) ?_
            refine pu_ 25 (some 35) (ba_ 46 67108863) rfl rfl (any_of HT_.out (by kernel_rfl)) ?_
            refine pu_ 26 (some 36) (ba_ 46 134217727) rfl rfl (any_of HT_.out (by kernel_rfl)) ?_
            refine pu_ 27 (some 37) (ba_ 46 268435455) rfl rfl (any_of HT_.out (by kernel_rfl)) ?_
            refine pu_ 28 (some 38) (ba_ 46 536870911) rfl rfl (any_of HT_.out (by kernel_rfl)) ?_
            refine pu_ 29 (some 39) (ba_ 46 1073741823) rfl rfl (any_of HT_.out (by kernel_rfl)) ?_
            refine pu_ 30 (some 40) (ba_ 46 2147483647) rfl rfl (any_of HT_.out (by kernel_rfl)) ?_
            refine pu_ 31 (some 41) (ba_ 46 4294967295) rfl rfl (any_of HT_.out (by kernel_rfl)) ?_
            refine pu_ 32 (some 42) (ba_ 46 8589934591) rfl rfl (any_of HT_.out (by kernel_rfl)) ?_
            refine pu_ 33 (some 43) (ba_ 46 17179869183) rfl rfl (any_of HT_.out (by kernel_rfl)) ?_
            refine pu_ 34 (some 44) (ba_ 46 34359738367) rfl rfl (any_of HT_.out (by kernel_rfl)) ?_
            refine pu_ 36 (some 46) (ba_ 46 103079215103) rfl rfl (any_of HT_.out (by kernel_rfl)) ?_
            refine pu_ 37 (some 47) (ba_ 46 240518168575) rfl rfl (any_of HT_.out (by kernel_rfl)) ?_
            refine pu_ 38 (some 48) (ba_ 46 515396075519) rfl rfl (any_of HT_.out (by kernel_rfl)) ?_
            refine pu_ 39 (some 49) (ba_ 46 1065151889407) rfl rfl (any_of HT_.out (by kernel_rfl)) ?_
            refine pu_ 40 (some 50) (ba_ 46 2164663517183) rfl rfl (any_of HT_.out (by kernel_rfl)) ?_
            refine ta_ 35 (some 45) (ba_ 46 2199023255551) rfl rfl (take_ofW HT_.out HW_.out (by kernel_rfl)) hHeld (by rintro w' ⟨s0, s1, s2, s3, s4, s5, s6, s7, s8, s9⟩; go_simp; with_reducible rfl) ?_
            refine ta_ 41 (some 51) (ba_ 46 4398046511103) rfl rfl (take_ofW HT_.out HW_.out (by kernel_rfl)) hHeld (by rintro w' ⟨s0, s1, s2, s3, s4, s5, s6, s7, s8, s9⟩; go_simp; with_reducible rfl) ?_
            refine pu_ 42 (some 52) (ba_ 46 8796093022207) rfl rfl (any_of HT_.out (by kernel_rfl)) ?_
            refine pu_ 43 (some 53) (ba_ 46 17592186044415) rfl rfl (any_of HT_.out (by kernel_rfl)) ?_
            refine pu_ 44 (some 54) (ba_ 46 35184372088831) rfl rfl (any_of HT_.out (by kernel_rfl)) ?_
            refine pu_ 45 (some 55) (ba_ 46 70368744177663) rfl rfl (any_of HT_.out (by kernel_rfl)) ?_
            refine done_ (done_of HT_.out (by kernel_rfl)) ?_
            try go_wp2
            go_roundg k1
            case measure => have := HK1.out; omega
            case rel => exact ⟨(wrap64 (x3_1 + 1)), eb_, H', ⟨by have := HK1.out; omega⟩, bl_ HB⟩
          ·rw [if_neg c13] at H
           exact absurd H (by simp)
         ·rw [if_neg c12] at H
          exact absurd H (by simp)
        ·rw [if_neg c10] at H
         have c10b0 : decide (0 < x3_1) = false := decide_eq_false c10
         clear c10
         have H' := Aside0.mk H
         clear H
         try go_wp2
         have n0_ := Aside0.mk (below_drew1 HB.out)
         clear HB
         have HB := n0_
         clear n0_
         have p464 : 0 ≤ (x3_1 : Int) := od_
         have q464 : x3_1 < (l0.length : Int) := od_
         obtain ⟨ad464, e464, hx464_0, hx464_1⟩ := at_T90 HR0.out x3_1 p464 q464
         have hw464_1 := hx464_1
         have hw464_0 := hx464_0
         cases e464
         replace hx464_0 := ce_ HB hx464_0
         replace hx464_1 := ce_ HB hx464_1
         replace p464 := eq_true p464
         replace q464 := eq_true q464
         have p466 : 0 ≤ (x3_1 : Int) := od_
         have q466 : x3_1 < (l0.length : Int) := od_
         obtain ⟨ad466, e466, hx466_0, hx466_1⟩ := at_T90 HR0.out x3_1 p466 q466
         have hw466_1 := hx466_1
         have hw466_0 := hx466_0
         obtain rfl : ad464 = ad466 := (by injection e466)
         replace hx466_0 := ce_ HB hx466_0
         replace hx466_1 := ce_ HB hx466_1
         replace p466 := eq_true p466
         replace q466 := eq_true q466
         have p468 : 0 ≤ (x3_1 : Int) := od_
         have q468 : x3_1 < (l0.length : Int) := od_
         obtain ⟨ad468, e468, hx468_0, hx468_1⟩ := at_T90 HR0.out x3_1 p468 q468
         have hw468_1 := hx468_1
         have hw468_0 := hx468_0
         obtain rfl : ad464 = ad468 := (by injection e468)
         replace hx468_0 := ce_ HB hx468_0
         replace hx468_1 := ce_ HB hx468_1
         replace p468 := eq_true p468
         replace q468 := eq_true q468
         refine start_ (n := 46) (S := fun w' => w'.cell? (ad464.add ((x3_1).toNat * 2)) = some (.int .i64 ((rd_T90 l0 x3_1).f0)) ∧ w'.cell? ⟨(ad464.add ((x3_1).toNat * 2)).block, (ad464.add ((x3_1).toNat * 2)).off + 1, none⟩ = some (.int .i64 ((rd_T90 l0 x3_1).f1)) ∧ w'.cell? (ad464.add ((x3_1).toNat * 2)) = some (.int .i64 ((rd_T90 l0 x3_1).f0)) ∧ w'.cell? ⟨(ad464.add ((x3_1).toNat * 2)).block, (ad464.add ((x3_1).toNat * 2)).off + 1, none⟩ = some (.int .i64 ((rd_T90 l0 x3_1).f1)) ∧ w'.cell? (ad464.add ((x3_1).toNat * 2)) = some (.int .i64 ((rd_T90 l0 x3_1).f0)) ∧ w'.cell? ⟨(ad464.add ((x3_1).toNat * 2)).block, (ad464.add ((x3_1).toNat * 2)).off + 1, none⟩ = some (.int .i64 ((rd_T90 l0 x3_1).f1))) (ds := []) (ba_ 46 0) (by kernel_rfl) rfl rfl ⟨(ce_ HB hw464_0), (ce_ HB hw464_1), (ce_ HB hw466_0), (ce_ HB hw466_1), (ce_ HB hw468_0), (ce_ HB hw468_1)⟩ (fun hHeld => ?_); refine with_tabW spec_TreeOk.tab4 spec_TreeOk.bits4 (fun HT_ HW_ => ?_)
         generalize wr.drew = w17 at HB hx464_0 hx464_1 hx466_0 hx466_1 hx468_0 hx468_1 hHeld ⊢
         refine pu_ 0 (some 10) (ba_ 46 1) rfl rfl (any_of HT_.out (by kernel_rfl)) ?_
         refine pu_ 1 (some 11) (ba_ 46 3) rfl rfl (any_of HT_.out (by kernel_rfl)) ?_
         refine pu_ 2 (some 12) (ba_ 46 7) rfl rfl (any_of HT_.out (by kernel_rfl)) ?_
         refine pu_ 3 (some 13) (ba_ 46 15) rfl rfl (any_of HT_.out (by kernel_rfl)) ?_
         refine ta_ 4 (some 14) (ba_ 46 31) rfl rfl (take_ofW HT_.out HW_.out (by kernel_rfl)) hHeld (by rintro w' ⟨s0, s1, s2, s3, s4, s5⟩; go_simp; with_reducible rfl) ?_
         refine one_ (i := 5) (N := some 15) (ba_ 46 63) rfl rfl (one_of HT_.out (by kernel_rfl)) (by decide) (fun K hK => ?_)
         refine goes_ Try.func69 (by kernel_rfl) rfl #[.int .i64 ((rd_T90 l0 x3_1).f0)] (by rfl) rfl rfl (by (try simp only [List.map_toArray, List.map_cons, List.map_nil]); first | done | rfl | (simp only [List.length_drop, List.length_take]; rfl)) ?_
         with_reducible refine (spec_LabelOk.calls ((rd_T90 l0 x3_1).f0) true _ A4.out).mono ?_
         rintro e w' ⟨rfl, ⟨nd, rfl⟩⟩
         refine ⟨_, rfl, ?_⟩
         refine hK.out _ _ ⟨(ce_ HB hw464_0), (ce_ HB hw464_1), (ce_ HB hw466_0), (ce_ HB hw466_1), (ce_ HB hw468_0), (ce_ HB hw468_1)⟩ (fun hHeld => ?_)
         clear hK K
         refine norm_ (a' := ?_) ?_ ?_
         rotate_left
         ·show Act.put _ (some 15) _ = _
          simp only [Act.put, List.setIfInBounds_toArray, List.set_cons_zero, List.set_cons_succ, i64_w, i32_w]
          rfl
         refine pu_ 6 (some 16) (ba_ 46 127) rfl rfl (any_of HT_.out (by kernel_rfl)) ?_
         refine pu_ 7 (some 17) (ba_ 46 255) rfl rfl (any_of HT_.out (by kernel_rfl)) ?_
         refine pu_ 8 (some 18) (ba_ 46 511) rfl rfl (any_of HT_.out (by kernel_rfl)) ?_
         refine pu_ 9 (some 19) (ba_ 46 1023) rfl rfl (any_of HT_.out (by kernel_rfl)) ?_
         refine pu_ 10 (some 20) (ba_ 46 2047) rfl rfl (any_of HT_.out (by kernel_rfl)) ?_
         refine pu_ 11 (some 21) (ba_ 46 4095) rfl rfl (any_of HT_.out (by kernel_rfl)) ?_
         refine ta_ 12 (some 22) (ba_ 46 8191) rfl rfl (take_ofW HT_.out HW_.out (by kernel_rfl)) hHeld (by rintro w' ⟨s0, s1, s2, s3, s4, s5⟩; go_simp; with_reducible rfl) ?_
         refine one_ (i := 13) (N := some 23) (ba_ 46 16383) rfl rfl (one_of HT_.out (by kernel_rfl)) (by decide) (fun K hK => ?_)
         refine goes_ Try.func67 (by kernel_rfl) rfl #[.int .i64 ((rd_T90 l0 x3_1).f1), .int .i64 0, .int .i64 12] (by rfl) rfl rfl (by (try simp only [List.map_toArray, List.map_cons, List.map_nil]); first | done | rfl | (simp only [List.length_drop, List.length_take]; rfl)) ?_
         with_reducible refine (spec_l1In.calls ((rd_T90 l0 x3_1).f1) 0 12 true _ A6.out).mono ?_
         rintro e w' ⟨rfl, ⟨nd, rfl⟩⟩
         refine ⟨_, rfl, ?_⟩
         refine hK.out _ _ ⟨(ce_ HB hw464_0), (ce_ HB hw464_1), (ce_ HB hw466_0), (ce_ HB hw466_1), (ce_ HB hw468_0), (ce_ HB hw468_1)⟩ (fun hHeld => ?_)
         clear hK K
         refine norm_ (a' := ?_) ?_ ?_
         rotate_left
         ·show Act.put _ (some 23) _ = _
          simp only [Act.put, List.setIfInBounds_toArray, List.set_cons_zero, List.set_cons_succ, i64_w, i32_w]
          rfl
         refine pu_ 14 (some 24) (ba_ 46 32767) rfl rfl (any_of HT_.out (by kernel_rfl)) ?_
         refine pu_ 15 (some 25) (ba_ 46 65535) rfl rfl (any_of HT_.out (by kernel_rfl)) ?_
         refine pu_ 16 (some 26) (ba_ 46 131071) rfl rfl (any_of HT_.out (by kernel_rfl)) ?_
         refine pu_ 17 (some 27) (ba_ 46 262143) rfl rfl (any_of HT_.out (by kernel_rfl)) ?_
         refine pu_ 18 (some 28) (ba_ 46 524287) rfl rfl (any_of HT_.out (by kernel_rfl)) ?_
         refine pu_ 19 (some 29) (ba_ 46 1048575) rfl rfl (any_of HT_.out (by kernel_rfl)) ?_
         refine pu_ 20 (some 30) (ba_ 46 2097151) rfl rfl (any_of HT_.out (by kernel_rfl)) ?_
         refine pu_ 23 (some 33) (ba_ 46 10485759) rfl rfl (any_of HT_.out (by kernel_rfl)) ?_
         refine pu_ 24 (some 34) (ba_ 46 27262975) rfl rfl (any_of HT_.out (by kernel_rfl)) ?_
         refine ta_ 21 (some 31) (ba_ 46 29360127) rfl rfl (take_ofW HT_.out HW_.out (by kernel_rfl)) hHeld (by rintro w' ⟨s0, s1, s2, s3, s4, s5⟩; go_simp; with_reducible rfl) ?_
         refine pu_ 22 (some 32) (ba_ 46 33554431) rfl rfl (any_of HT_.out (by kernel_rfl)) ?_
         refine pu_ 25 (some 35) (ba_ 46 67108863) rfl rfl (any_of HT_.out (by kernel_rfl)) ?_
         refine pu_ 26 (some 36) (ba_ 46 134217727) rfl rfl (any_of HT_.out (by kernel_rfl)) ?_
         refine pu_ 27 (some 37) (ba_ 46 268435455) rfl rfl (any_of HT_.out (by kernel_rfl)) ?_
         refine pu_ 28 (some 38) (ba_ 46 536870911) rfl rfl (any_of HT_.out (by kernel_rfl)) ?_
         refine pu_ 29 (some 39) (ba_ 46 1073741823) rfl rfl (any_of HT_.out (by kernel_rfl)) ?_
         refine pu_ 30 (some 40) (ba_ 46 2147483647) rfl rfl (any_of HT_.out (by kernel_rfl)) ?_
         refine pn_ 31 (some 41) (ba_ 46 4294967295) rfl rfl (any_of HT_.out (by kernel_rfl)) ?_
         refine pn_ 32 (some 42) (ba_ 46 8589934591) rfl rfl (any_of HT_.out (by kernel_rfl)) ?_
         refine pn_ 33 (some 43) (ba_ 46 17179869183) rfl rfl (any_of HT_.out (by kernel_rfl)) ?_
         refine pn_ 34 (some 44) (ba_ 46 34359738367) rfl rfl (any_of HT_.out (by kernel_rfl)) ?_
         refine pn_ 35 (some 45) (ba_ 46 68719476735) rfl rfl (any_of HT_.out (by kernel_rfl)) ?_
         refine pn_ 36 (some 46) (ba_ 46 137438953471) rfl rfl (any_of HT_.out (by kernel_rfl)) ?_
         refine pn_ 37 (some 47) (ba_ 46 274877906943) rfl rfl (any_of HT_.out (by kernel_rfl)) ?_
         refine pn_ 38 (some 48) (ba_ 46 549755813887) rfl rfl (any_of HT_.out (by kernel_rfl)) ?_
         refine pn_ 39 (some 49) (ba_ 46 1099511627775) rfl rfl (any_of HT_.out (by kernel_rfl)) ?_
         refine pn_ 40 (some 50) (ba_ 46 2199023255551) rfl rfl (any_of HT_.out (by kernel_rfl)) ?_
         refine pn_ 41 (some 51) (ba_ 46 4398046511103) rfl rfl (any_of HT_.out (by kernel_rfl)) ?_
         refine pn_ 42 (some 52) (ba_ 46 8796093022207) rfl rfl (any_of HT_.out (by kernel_rfl)) ?_
         refine pn_ 43 (some 53) (ba_ 46 17592186044415) rfl rfl (any_of HT_.out (by kernel_rfl)) ?_
         refine pu_ 44 (some 54) (ba_ 46 35184372088831) rfl rfl (any_of HT_.out (by kernel_rfl)) ?_
         refine pu_ 45 (some 55) (ba_ 46 70368744177663) rfl rfl (any_of HT_.out (by kernel_rfl)) ?_
         refine done_ (done_of HT_.out (by kernel_rfl)) ?_
         try go_wp2
         go_roundg k1
         case measure => have := HK1.out; omega
         case rel => exact ⟨(wrap64 (x3_1 + 1)), eb_, H', ⟨by have := HK1.out; omega⟩, bl_ HB⟩
      ·replace c7 := Bool.eq_false_iff.mpr c7
       subst c7
       have H1 : (some false) = some r := by rw [if_neg (show ¬ (false = true) by decide)] at H; exact H
       clear H
       have H := H1
       clear H1
       obtain rfl := Option.some.inj H
       try go_wp2
       have n0_ := Aside0.mk (below_drew1 HB.out)
       clear HB
       have HB := n0_
       clear n0_
       have p464 : 0 ≤ (x3_1 : Int) := od_
       have q464 : x3_1 < (l0.length : Int) := od_
       obtain ⟨ad464, e464, hx464_0, hx464_1⟩ := at_T90 HR0.out x3_1 p464 q464
       have hw464_1 := hx464_1
       have hw464_0 := hx464_0
       cases e464
       replace hx464_0 := ce_ HB hx464_0
       replace hx464_1 := ce_ HB hx464_1
       replace p464 := eq_true p464
       replace q464 := eq_true q464
       have p466 : 0 ≤ (x3_1 : Int) := od_
       have q466 : x3_1 < (l0.length : Int) := od_
       obtain ⟨ad466, e466, hx466_0, hx466_1⟩ := at_T90 HR0.out x3_1 p466 q466
       have hw466_1 := hx466_1
       have hw466_0 := hx466_0
       obtain rfl : ad464 = ad466 := (by injection e466)
       replace hx466_0 := ce_ HB hx466_0
       replace hx466_1 := ce_ HB hx466_1
       replace p466 := eq_true p466
       replace q466 := eq_true q466
       refine start_ (n := 46) (S := fun w' => w'.cell? (ad464.add ((x3_1).toNat * 2)) = some (.int .i64 ((rd_T90 l0 x3_1).f0)) ∧ w'.cell? ⟨(ad464.add ((x3_1).toNat * 2)).block, (ad464.add ((x3_1).toNat * 2)).off + 1, none⟩ = some (.int .i64 ((rd_T90 l0 x3_1).f1)) ∧ w'.cell? (ad464.add ((x3_1).toNat * 2)) = some (.int .i64 ((rd_T90 l0 x3_1).f0)) ∧ w'.cell? ⟨(ad464.add ((x3_1).toNat * 2)).block, (ad464.add ((x3_1).toNat * 2)).off + 1, none⟩ = some (.int .i64 ((rd_T90 l0 x3_1).f1))) (ds := []) (ba_ 46 0) (by kernel_rfl) rfl rfl ⟨(ce_ HB hw464_0), (ce_ HB hw464_1), (ce_ HB hw466_0), (ce_ HB hw466_1)⟩ (fun hHeld => ?_); refine with_tabW spec_TreeOk.tab4 spec_TreeOk.bits4 (fun HT_ HW_ => ?_)
       generalize wr.drew = w18 at HB hx464_0 hx464_1 hx466_0 hx466_1 hHeld ⊢
       refine pu_ 0 (some 10) (ba_ 46 1) rfl rfl (any_of HT_.out (by kernel_rfl)) ?_
       refine pu_ 1 (some 11) (ba_ 46 3) rfl rfl (any_of HT_.out (by kernel_rfl)) ?_
       refine pu_ 2 (some 12) (ba_ 46 7) rfl rfl (any_of HT_.out (by kernel_rfl)) ?_
       refine pu_ 3 (some 13) (ba_ 46 15) rfl rfl (any_of HT_.out (by kernel_rfl)) ?_
       refine ta_ 4 (some 14) (ba_ 46 31) rfl rfl (take_ofW HT_.out HW_.out (by kernel_rfl)) hHeld (by rintro w' ⟨s0, s1, s2, s3⟩; go_simp; with_reducible rfl) ?_
       refine one_ (i := 5) (N := some 15) (ba_ 46 63) rfl rfl (one_of HT_.out (by kernel_rfl)) (by decide) (fun K hK => ?_)
       refine goes_ Try.func69 (by kernel_rfl) rfl #[.int .i64 ((rd_T90 l0 x3_1).f0)] (by rfl) rfl rfl (by (try simp only [List.map_toArray, List.map_cons, List.map_nil]); first | done | rfl | (simp only [List.length_drop, List.length_take]; rfl)) ?_
       with_reducible refine (spec_LabelOk.calls ((rd_T90 l0 x3_1).f0) true _ A4.out).mono ?_
       rintro e w' ⟨rfl, ⟨nd, rfl⟩⟩
       refine ⟨_, rfl, ?_⟩
       refine hK.out _ _ ⟨(ce_ HB hw464_0), (ce_ HB hw464_1), (ce_ HB hw466_0), (ce_ HB hw466_1)⟩ (fun hHeld => ?_)
       clear hK K
       refine norm_ (a' := ?_) ?_ ?_
       rotate_left
       ·show Act.put _ (some 15) _ = _
        simp only [Act.put, List.setIfInBounds_toArray, List.set_cons_zero, List.set_cons_succ, i64_w, i32_w]
        rfl
       refine pu_ 6 (some 16) (ba_ 46 127) rfl rfl (any_of HT_.out (by kernel_rfl)) ?_
       refine pu_ 7 (some 17) (ba_ 46 255) rfl rfl (any_of HT_.out (by kernel_rfl)) ?_
       refine pu_ 8 (some 18) (ba_ 46 511) rfl rfl (any_of HT_.out (by kernel_rfl)) ?_
       refine pu_ 9 (some 19) (ba_ 46 1023) rfl rfl (any_of HT_.out (by kernel_rfl)) ?_
       refine pu_ 10 (some 20) (ba_ 46 2047) rfl rfl (any_of HT_.out (by kernel_rfl)) ?_
       refine pu_ 11 (some 21) (ba_ 46 4095) rfl rfl (any_of HT_.out (by kernel_rfl)) ?_
       refine ta_ 12 (some 22) (ba_ 46 8191) rfl rfl (take_ofW HT_.out HW_.out (by kernel_rfl)) hHeld (by rintro w' ⟨s0, s1, s2, s3⟩; go_simp; with_reducible rfl) ?_
       refine one_ (i := 13) (N := some 23) (ba_ 46 16383) rfl rfl (one_of HT_.out (by kernel_rfl)) (by decide) (fun K hK => ?_)
       refine goes_ Try.func67 (by kernel_rfl) rfl #[.int .i64 ((rd_T90 l0 x3_1).f1), .int .i64 0, .int .i64 12] (by rfl) rfl rfl (by (try simp only [List.map_toArray, List.map_cons, List.map_nil]); first | done | rfl | (simp only [List.length_drop, List.length_take]; rfl)) ?_
       with_reducible refine (spec_l1In.calls ((rd_T90 l0 x3_1).f1) 0 12 false _ A6.out).mono ?_
       rintro e w' ⟨rfl, ⟨nd, rfl⟩⟩
       refine ⟨_, rfl, ?_⟩
       refine hK.out _ _ ⟨(ce_ HB hw464_0), (ce_ HB hw464_1), (ce_ HB hw466_0), (ce_ HB hw466_1)⟩ (fun hHeld => ?_)
       clear hK K
       refine norm_ (a' := ?_) ?_ ?_
       rotate_left
       ·show Act.put _ (some 23) _ = _
        simp only [Act.put, List.setIfInBounds_toArray, List.set_cons_zero, List.set_cons_succ, i64_w, i32_w]
        rfl
       refine pu_ 14 (some 24) (ba_ 46 32767) rfl rfl (any_of HT_.out (by kernel_rfl)) ?_
       refine pu_ 15 (some 25) (ba_ 46 65535) rfl rfl (any_of HT_.out (by kernel_rfl)) ?_
       refine pu_ 16 (some 26) (ba_ 46 131071) rfl rfl (any_of HT_.out (by kernel_rfl)) ?_
       refine pn_ 17 (some 27) (ba_ 46 262143) rfl rfl (any_of HT_.out (by kernel_rfl)) ?_
       refine pn_ 18 (some 28) (ba_ 46 524287) rfl rfl (any_of HT_.out (by kernel_rfl)) ?_
       refine pn_ 19 (some 29) (ba_ 46 1048575) rfl rfl (any_of HT_.out (by kernel_rfl)) ?_
       refine pn_ 20 (some 30) (ba_ 46 2097151) rfl rfl (any_of HT_.out (by kernel_rfl)) ?_
       refine pn_ 21 (some 31) (ba_ 46 4194303) rfl rfl (any_of HT_.out (by kernel_rfl)) ?_
       refine pn_ 22 (some 32) (ba_ 46 8388607) rfl rfl (any_of HT_.out (by kernel_rfl)) ?_
       refine pn_ 23 (some 33) (ba_ 46 16777215) rfl rfl (any_of HT_.out (by kernel_rfl)) ?_
       refine pn_ 24 (some 34) (ba_ 46 33554431) rfl rfl (any_of HT_.out (by kernel_rfl)) ?_
       refine pn_ 25 (some 35) (ba_ 46 67108863) rfl rfl (any_of HT_.out (by kernel_rfl)) ?_
       refine pu_ 26 (some 36) (ba_ 46 134217727) rfl rfl (any_of HT_.out (by kernel_rfl)) ?_
       refine pu_ 27 (some 37) (ba_ 46 268435455) rfl rfl (any_of HT_.out (by kernel_rfl)) ?_
       refine pn_ 28 (some 38) (ba_ 46 536870911) rfl rfl (any_of HT_.out (by kernel_rfl)) ?_
       refine pn_ 29 (some 39) (ba_ 46 1073741823) rfl rfl (any_of HT_.out (by kernel_rfl)) ?_
       refine pn_ 30 (some 40) (ba_ 46 2147483647) rfl rfl (any_of HT_.out (by kernel_rfl)) ?_
       refine pn_ 31 (some 41) (ba_ 46 4294967295) rfl rfl (any_of HT_.out (by kernel_rfl)) ?_
       refine pn_ 32 (some 42) (ba_ 46 8589934591) rfl rfl (any_of HT_.out (by kernel_rfl)) ?_
       refine pn_ 33 (some 43) (ba_ 46 17179869183) rfl rfl (any_of HT_.out (by kernel_rfl)) ?_
       refine pn_ 34 (some 44) (ba_ 46 34359738367) rfl rfl (any_of HT_.out (by kernel_rfl)) ?_
       refine pn_ 35 (some 45) (ba_ 46 68719476735) rfl rfl (any_of HT_.out (by kernel_rfl)) ?_
       refine pn_ 36 (some 46) (ba_ 46 137438953471) rfl rfl (any_of HT_.out (by kernel_rfl)) ?_
       refine pn_ 37 (some 47) (ba_ 46 274877906943) rfl rfl (any_of HT_.out (by kernel_rfl)) ?_
       refine pn_ 38 (some 48) (ba_ 46 549755813887) rfl rfl (any_of HT_.out (by kernel_rfl)) ?_
       refine pn_ 39 (some 49) (ba_ 46 1099511627775) rfl rfl (any_of HT_.out (by kernel_rfl)) ?_
       refine pn_ 40 (some 50) (ba_ 46 2199023255551) rfl rfl (any_of HT_.out (by kernel_rfl)) ?_
       refine pn_ 41 (some 51) (ba_ 46 4398046511103) rfl rfl (any_of HT_.out (by kernel_rfl)) ?_
       refine pn_ 42 (some 52) (ba_ 46 8796093022207) rfl rfl (any_of HT_.out (by kernel_rfl)) ?_
       refine pn_ 43 (some 53) (ba_ 46 17592186044415) rfl rfl (any_of HT_.out (by kernel_rfl)) ?_
       refine pn_ 44 (some 54) (ba_ 46 35184372088831) rfl rfl (any_of HT_.out (by kernel_rfl)) ?_
       refine pu_ 45 (some 55) (ba_ 46 70368744177663) rfl rfl (any_of HT_.out (by kernel_rfl)) ?_
       refine done_ (done_of HT_.out (by kernel_rfl)) ?_
       try go_wp2
       go_ret
       exact ⟨ea_, (bl_ HB).out⟩
     ·replace c5 := Bool.eq_false_iff.mpr c5
      subst c5
      have H1 : (some false) = some r := by rw [if_neg (show ¬ (false = true) by decide)] at H; exact H
      clear H
      have H := H1
      clear H1
      obtain rfl := Option.some.inj H
      try go_wp2
      have n0_ := Aside0.mk (below_drew1 HB.out)
      clear HB
      have HB := n0_
      clear n0_
      have p464 : 0 ≤ (x3_1 : Int) := od_
      have q464 : x3_1 < (l0.length : Int) := od_
      obtain ⟨ad464, e464, hx464_0, hx464_1⟩ := at_T90 HR0.out x3_1 p464 q464
      have hw464_1 := hx464_1
      have hw464_0 := hx464_0
      cases e464
      replace hx464_0 := ce_ HB hx464_0
      replace hx464_1 := ce_ HB hx464_1
      replace p464 := eq_true p464
      replace q464 := eq_true q464
      refine start_ (n := 46) (S := fun w' => w'.cell? (ad464.add ((x3_1).toNat * 2)) = some (.int .i64 ((rd_T90 l0 x3_1).f0)) ∧ w'.cell? ⟨(ad464.add ((x3_1).toNat * 2)).block, (ad464.add ((x3_1).toNat * 2)).off + 1, none⟩ = some (.int .i64 ((rd_T90 l0 x3_1).f1))) (ds := []) (ba_ 46 0) (by kernel_rfl) rfl rfl ⟨(ce_ HB hw464_0), (ce_ HB hw464_1)⟩ (fun hHeld => ?_); refine with_tabW spec_TreeOk.tab4 spec_TreeOk.bits4 (fun HT_ HW_ => ?_)
      generalize wr.drew = w19 at HB hx464_0 hx464_1 hHeld ⊢
      refine pu_ 0 (some 10) (ba_ 46 1) rfl rfl (any_of HT_.out (by kernel_rfl)) ?_
      refine pu_ 1 (some 11) (ba_ 46 3) rfl rfl (any_of HT_.out (by kernel_rfl)) ?_
      refine pu_ 2 (some 12) (ba_ 46 7) rfl rfl (any_of HT_.out (by kernel_rfl)) ?_
      refine pu_ 3 (some 13) (ba_ 46 15) rfl rfl (any_of HT_.out (by kernel_rfl)) ?_
      refine ta_ 4 (some 14) (ba_ 46 31) rfl rfl (take_ofW HT_.out HW_.out (by kernel_rfl)) hHeld (by rintro w' ⟨s0, s1⟩; go_simp; with_reducible rfl) ?_
      refine one_ (i := 5) (N := some 15) (ba_ 46 63) rfl rfl (one_of HT_.out (by kernel_rfl)) (by decide) (fun K hK => ?_)
      refine goes_ Try.func69 (by kernel_rfl) rfl #[.int .i64 ((rd_T90 l0 x3_1).f0)] (by rfl) rfl rfl (by (try simp only [List.map_toArray, List.map_cons, List.map_nil]); first | done | rfl | (simp only [List.length_drop, List.length_take]; rfl)) ?_
      with_reducible refine (spec_LabelOk.calls ((rd_T90 l0 x3_1).f0) false _ A4.out).mono ?_
      rintro e w' ⟨rfl, ⟨nd, rfl⟩⟩
      refine ⟨_, rfl, ?_⟩
      refine hK.out _ _ ⟨(ce_ HB hw464_0), (ce_ HB hw464_1)⟩ (fun hHeld => ?_)
      clear hK K
      refine norm_ (a' := ?_) ?_ ?_
      rotate_left
      ·show Act.put _ (some 15) _ = _
       simp only [Act.put, List.setIfInBounds_toArray, List.set_cons_zero, List.set_cons_succ, i64_w, i32_w]
       rfl
      refine pu_ 6 (some 16) (ba_ 46 127) rfl rfl (any_of HT_.out (by kernel_rfl)) ?_
      refine pu_ 7 (some 17) (ba_ 46 255) rfl rfl (any_of HT_.out (by kernel_rfl)) ?_
      refine pn_ 8 (some 18) (ba_ 46 511) rfl rfl (any_of HT_.out (by kernel_rfl)) ?_
      refine pn_ 9 (some 19) (ba_ 46 1023) rfl rfl (any_of HT_.out (by kernel_rfl)) ?_
      refine pn_ 10 (some 20) (ba_ 46 2047) rfl rfl (any_of HT_.out (by kernel_rfl)) ?_
      refine pn_ 11 (some 21) (ba_ 46 4095) rfl rfl (any_of HT_.out (by kernel_rfl)) ?_
      refine pn_ 12 (some 22) (ba_ 46 8191) rfl rfl (any_of HT_.out (by kernel_rfl)) ?_
      refine pn_ 13 (some 23) (ba_ 46 16383) rfl rfl (any_of HT_.out (by kernel_rfl)) ?_
      refine pn_ 14 (some 24) (ba_ 46 32767) rfl rfl (any_of HT_.out (by kernel_rfl)) ?_
      refine pu_ 15 (some 25) (ba_ 46 65535) rfl rfl (any_of HT_.out (by kernel_rfl)) ?_
      refine pu_ 16 (some 26) (ba_ 46 131071) rfl rfl (any_of HT_.out (by kernel_rfl)) ?_
      refine pn_ 17 (some 27) (ba_ 46 262143) rfl rfl (any_of HT_.out (by kernel_rfl)) ?_
      refine pn_ 18 (some 28) (ba_ 46 524287) rfl rfl (any_of HT_.out (by kernel_rfl)) ?_
      refine pn_ 19 (some 29) (ba_ 46 1048575) rfl rfl (any_of HT_.out (by kernel_rfl)) ?_
      refine pn_ 20 (some 30) (ba_ 46 2097151) rfl rfl (any_of HT_.out (by kernel_rfl)) ?_
      refine pn_ 21 (some 31) (ba_ 46 4194303) rfl rfl (any_of HT_.out (by kernel_rfl)) ?_
      refine pn_ 22 (some 32) (ba_ 46 8388607) rfl rfl (any_of HT_.out (by kernel_rfl)) ?_
      refine pn_ 23 (some 33) (ba_ 46 16777215) rfl rfl (any_of HT_.out (by kernel_rfl)) ?_
      refine pn_ 24 (some 34) (ba_ 46 33554431) rfl rfl (any_of HT_.out (by kernel_rfl)) ?_
      refine pn_ 25 (some 35) (ba_ 46 67108863) rfl rfl (any_of HT_.out (by kernel_rfl)) ?_
      refine pu_ 26 (some 36) (ba_ 46 134217727) rfl rfl (any_of HT_.out (by kernel_rfl)) ?_
      refine pu_ 27 (some 37) (ba_ 46 268435455) rfl rfl (any_of HT_.out (by kernel_rfl)) ?_
      refine pn_ 28 (some 38) (ba_ 46 536870911) rfl rfl (any_of HT_.out (by kernel_rfl)) ?_
      refine pn_ 29 (some 39) (ba_ 46 1073741823) rfl rfl (any_of HT_.out (by kernel_rfl)) ?_
      refine pn_ 30 (some 40) (ba_ 46 2147483647) rfl rfl (any_of HT_.out (by kernel_rfl)) ?_
      refine pn_ 31 (some 41) (ba_ 46 4294967295) rfl rfl (any_of HT_.out (by kernel_rfl)) ?_
      refine pn_ 32 (some 42) (ba_ 46 8589934591) rfl rfl (any_of HT_.out (by kernel_rfl)) ?_
      refine pn_ 33 (some 43) (ba_ 46 17179869183) rfl rfl (any_of HT_.out (by kernel_rfl)) ?_
      refine pn_ 34 (some 44) (ba_ 46 34359738367) rfl rfl (any_of HT_.out (by kernel_rfl)) ?_
      refine pn_ 35 (some 45) (ba_ 46 68719476735) rfl rfl (any_of HT_.out (by kernel_rfl)) ?_
      refine pn_ 36 (some 46) (ba_ 46 137438953471) rfl rfl (any_of HT_.out (by kernel_rfl)) ?_
      refine pn_ 37 (some 47) (ba_ 46 274877906943) rfl rfl (any_of HT_.out (by kernel_rfl)) ?_
      refine pn_ 38 (some 48) (ba_ 46 549755813887) rfl rfl (any_of HT_.out (by kernel_rfl)) ?_
      refine pn_ 39 (some 49) (ba_ 46 1099511627775) rfl rfl (any_of HT_.out (by kernel_rfl)) ?_
      refine pn_ 40 (some 50) (ba_ 46 2199023255551) rfl rfl (any_of HT_.out (by kernel_rfl)) ?_
      refine pn_ 41 (some 51) (ba_ 46 4398046511103) rfl rfl (any_of HT_.out (by kernel_rfl)) ?_
      refine pn_ 42 (some 52) (ba_ 46 8796093022207) rfl rfl (any_of HT_.out (by kernel_rfl)) ?_
      refine pn_ 43 (some 53) (ba_ 46 17592186044415) rfl rfl (any_of HT_.out (by kernel_rfl)) ?_
      refine pn_ 44 (some 54) (ba_ 46 35184372088831) rfl rfl (any_of HT_.out (by kernel_rfl)) ?_
      refine pu_ 45 (some 55) (ba_ 46 70368744177663) rfl rfl (any_of HT_.out (by kernel_rfl)) ?_
      refine done_ (done_of HT_.out (by kernel_rfl)) ?_
      try go_wp2
      go_ret
      exact ⟨ea_, (bl_ HB).out⟩
    ·rw [if_neg c3] at H
     exact absurd H (by simp)
   ·rw [if_neg c2] at H
    have c2b0 : decide (x3_1 < (l0.length : Int)) = false := decide_eq_false c2
    clear c2
    replace H := Option.bind_eq_some_iff.mp H
    obtain ⟨t463, A200, H⟩ := H
    replace H : (some t463) = some r := H
    have A20 := Aside0.mk A200
    clear A200
    obtain rfl := Option.some.inj H
    go_wp2_with (first | ((with_reducible refine gate_callee (f := 67) rfl ?_); refine gL_ (some 58) Try.func67 #[.int .i64 (l0.length : Int), .int .i64 1, .int .i64 24] ?_; (with_reducible refine (spec_l1In.calls (l0.length : Int) 1 24 t463 _ A20.out).mono ?_); rintro e w' ⟨rfl, ⟨nd, rfl⟩⟩; refine ⟨_, rfl, ?_⟩))
    go_ret
    exact ⟨ea_, (bl_ HB).out⟩
end Go.Proofs.Ytbifdckfglejkaa.X
namespace Go.Proofs.Ytbifdckfglejkaa.X
open Go.RowKit Go.Proofs.YtbifdckfglejkaaW.PrintWords Go.Proofs.YtbifdckfglejkaaW.PrintLast Go.Proofs.YtbifdckfglejkaaW.PrintMore
attribute [local go_sem] max2_int min2_int max_two min_two max_three min_three max_four min_four   -- for this text's walks alone
set_option linter.unusedVariables false
set_option linter.unusedSimpArgs false
def spec_l7In.l0 : Nat → List Int → Int → Int → Option (Bool)
 | 0, _, _, _ => none
 | k + 1, x0, x1, x5 => if x5 < (x0.length : Int) then (if 0 ≤ x5 then ((spec_l1In.f (rd x0 x5) 0 1000).bind fun t496 => (if t496 = true then (spec_l7In.l0 k x0 x1 (wrap64 (x5 + 1))) else (some false))) else (none)) else (some ((x0.length : Int) == x1))
def spec_l7In.f (k : Nat) (l0 : List Int) (a1 : Int) : Option (Bool) := spec_l7In.l0 k l0 a1 0
set_option maxHeartbeats 8000000 in
set_option maxRecDepth 100000 in
theorem spec_l7In.calls (k : Nat) (A0 : Option Addr) (c0 : Nat) (l0 : List Int) (a1 : Int) (r : Bool) (w : World) (hr0 : Kd.C (Kd.int .i64) w A0 l0.length l0) (hc0 : l0.length ≤ c0) (h : spec_l7In.f k l0 a1 = some r) :
  Calls Try.prog 124 #[.slice A0 l0.length c0, .int .i64 a1] w fun e w' => e = .returned (.bool r) ∧ Drawn0 w w' := by
 have HR0 := Aside0.mk hr0
 have HC0 := Aside0.mk hc0
 clear hr0 hc0
 have H : (spec_l7In.l0 k l0 a1 0) = some r := h
 clear h
 have H' := Aside0.mk H
 clear H
 go_enter Try.func124, Try.ntmps124
 go_wp2
 go_loopg [5] k (fun kq v5 w' => ∃ (x5_1 : Int), v5 = .int .i64 x5_1 ∧ Aside0 (spec_l7In.l0 kq l0 a1 x5_1 = some r) ∧ Aside0 (kq ≤ k) ∧ Drawn0 w w')
 case atStart => exact ⟨(0), eb_, H', ⟨Nat.le_refl _⟩, by repeat (first | exact Drawn0.refl _ | apply Drawn0.step)⟩
 case round =>
  clear H'
  try clear c1
  try clear p2
  obtain ⟨x5_1, rfl, HA, HK1, ⟨m1, rfl⟩⟩ := hrel
  cases gk with
  | zero => exact absurd HA.out (by simp [spec_l7In.l0])
  | succ k1 =>
   have H := HA.out
   clear HA
   simp only [spec_l7In.l0] at H
   by_cases c3 : x5_1 < (l0.length : Int)
   ·rw [if_pos c3] at H
    have c3b0 : decide (x5_1 < (l0.length : Int)) = true := decide_eq_true c3
    clear c3
    by_cases c4 : 0 ≤ x5_1
    ·rw [if_pos c4] at H
     have c4b0 : decide (0 ≤ x5_1) = true := decide_eq_true c4
     clear c4
     replace H := Option.bind_eq_some_iff.mp H
     obtain ⟨t496, A50, H⟩ := H
     replace H : (if t496 = true then (spec_l7In.l0 k1 l0 a1 (wrap64 (x5_1 + 1))) else (some false)) = some r := H
     have A5 := Aside0.mk A50
     clear A50
     by_cases c6 : t496 = true
     ·subst c6
      have H1 : (spec_l7In.l0 k1 l0 a1 (wrap64 (x5_1 + 1))) = some r := by rw [if_pos rfl] at H; exact H
      clear H
      have H := H1
      clear H1
      have H' := Aside0.mk H
      clear H
      have p495 : 0 ≤ (x5_1 : Int) := od_
      have q495 : x5_1 < (l0.length : Int) := od_
      obtain ⟨ad495, e495, hx495_0⟩ := Kd.at_int HR0.out x5_1 p495 q495
      cases e495
      replace p495 := eq_true p495
      replace q495 := eq_true q495
      go_wp2_with (first | ((with_reducible refine gate_callee (f := 67) rfl ?_); refine gL_ (some 16) Try.func67 #[.int .i64 (rd l0 x5_1), .int .i64 0, .int .i64 1000] ?_; (with_reducible refine (spec_l1In.calls (rd l0 x5_1) 0 1000 true _ A5.out).mono ?_); rintro e w' ⟨rfl, ⟨nd, rfl⟩⟩; refine ⟨_, rfl, ?_⟩))
      go_roundg k1
      case measure => have := HK1.out; omega
      case rel => exact ⟨(wrap64 (x5_1 + 1)), eb_, H', ⟨by have := HK1.out; omega⟩, by repeat (first | exact Drawn0.refl _ | apply Drawn0.step)⟩
     ·replace c6 := Bool.eq_false_iff.mpr c6
      subst c6
      have H1 : (some false) = some r := by rw [if_neg (show ¬ (false = true) by decide)] at H; exact H
      clear H
      have H := H1
      clear H1
      obtain rfl := Option.some.inj H
      have p495 : 0 ≤ (x5_1 : Int) := od_
      have q495 : x5_1 < (l0.length : Int) := od_
      obtain ⟨ad495, e495, hx495_0⟩ := Kd.at_int HR0.out x5_1 p495 q495
      cases e495
      replace p495 := eq_true p495
      replace q495 := eq_true q495
      go_wp2_with (first | ((with_reducible refine gate_callee (f := 67) rfl ?_); refine gL_ (some 16) Try.func67 #[.int .i64 (rd l0 x5_1), .int .i64 0, .int .i64 1000] ?_; (with_reducible refine (spec_l1In.calls (rd l0 x5_1) 0 1000 false _ A5.out).mono ?_); rintro e w' ⟨rfl, ⟨nd, rfl⟩⟩; refine ⟨_, rfl, ?_⟩))
      go_ret
      exact ⟨by first | rfl | (simp; done) | (simp [*]; done), by repeat (first | exact Drawn0.refl _ | apply Drawn0.step)⟩
    ·rw [if_neg c4] at H
     exact absurd H (by simp)
   ·rw [if_neg c3] at H
    have c3b0 : decide (x5_1 < (l0.length : Int)) = false := decide_eq_false c3
    clear c3
    obtain rfl := Option.some.inj H
    go_wp2
    go_ret
    exact ⟨by first | rfl | (simp; done) | (simp [*]; done), by repeat (first | exact Drawn0.refl _ | apply Drawn0.step)⟩
end Go.Proofs.Ytbifdckfglejkaa.X
namespace Go.Proofs.Ytbifdckfglejkaa.X
open Go.RowKit Go.Proofs.YtbifdckfglejkaaW.PrintWords Go.Proofs.YtbifdckfglejkaaW.PrintLast Go.Proofs.YtbifdckfglejkaaW.PrintMore
attribute [local go_sem] max2_int min2_int max_two min_two max_three min_three max_four min_four   -- for this text's walks alone
set_option linter.unusedVariables false
set_option linter.unusedSimpArgs false
mutual
def spec_CostOk.j0 : Nat → Bool → List Int → List Int → List Int → Option (Bool)
 | 0, _, _, _, _ => none
 | k + 1, x19, x498000, x498001, x498002 => if x19 = true then (some false) else (spec_CostOk.l0 k 0 x498000 x498001 x498002)
def spec_CostOk.l0 : Nat → Int → List Int → List Int → List Int → Option (Bool)
 | 0, _, _, _, _ => none
 | k + 1, x3, x498000, x498001, x498002 => if x3 < 6 then (if 0 ≤ (wrap64 ((wrap64 (x3 * 6)) + x3)) then (if (wrap64 ((wrap64 (x3 * 6)) + x3)) < (x498002.length : Int) then (if (rd x498002 (wrap64 ((wrap64 (x3 * 6)) + x3))) = 0 then (spec_CostOk.l0 k (wrap64 (x3 + 1)) x498000 x498001 x498002) else (some false)) else (none)) else (none)) else (some true)
end
def spec_CostOk.f (k : Nat) (l0_0 : List Int) (l0_1 : List Int) (l0_2 : List Int) : Option (Bool) := (spec_l7In.f k l0_0 6).bind fun t498 => (if t498 = true then ((spec_l7In.f k l0_1 6).bind fun t499 => (if t499 = true then ((spec_l7In.f k l0_2 36).bind fun t500 => (spec_CostOk.j0 k (!t500) l0_0 l0_1 l0_2)) else (spec_CostOk.j0 k true l0_0 l0_1 l0_2))) else (spec_CostOk.j0 k true l0_0 l0_1 l0_2))
set_option maxHeartbeats 8000000 in
set_option maxRecDepth 100000 in
theorem spec_CostOk.calls (k : Nat) (A0_0 : Option Addr) (c0_0 : Nat) (l0_0 : List Int) (A0_1 : Option Addr) (c0_1 : Nat) (l0_1 : List Int) (A0_2 : Option Addr) (c0_2 : Nat) (l0_2 : List Int) (r : Bool) (w : World) (hr0_0 : Kd.C (Kd.int .i64) w A0_0 l0_0.length l0_0) (hc0_0 : l0_0.length ≤ c0_0) (hr0_1 : Kd.C (Kd.int .i64) w A0_1 l0_1.length l0_1) (hc0_1 : l0_1.length ≤ c0_1) (hr0_2 : Kd.C (Kd.int .i64) w A0_2 l0_2.length l0_2) (hc0_2 : l0_2.length ≤ c0_2) (h : spec_CostOk.f k l0_0 l0_1 l0_2 = some r) :
  Calls Try.prog 81 #[.agg #[.slice A0_0 l0_0.length c0_0, .slice A0_1 l0_1.length c0_1, .slice A0_2 l0_2.length c0_2]] w fun e w' => e = .returned (.bool r) ∧ Below w.heap.size w w' := by
 have hu53 := Try.underlying53
 have HR0_0 := Aside0.mk hr0_0
 have HC0_0 := Aside0.mk hc0_0
 clear hr0_0 hc0_0
 have HR0_1 := Aside0.mk hr0_1
 have HC0_1 := Aside0.mk hc0_1
 clear hr0_1 hc0_1
 have HR0_2 := Aside0.mk hr0_2
 have HC0_2 := Aside0.mk hc0_2
 clear hr0_2 hc0_2
 have HB := Aside0.mk (Below.refl w.heap.size w)
 have H : ((spec_l7In.f k l0_0 6).bind fun t498 => (if t498 = true then ((spec_l7In.f k l0_1 6).bind fun t499 => (if t499 = true then ((spec_l7In.f k l0_2 36).bind fun t500 => (spec_CostOk.j0 k (!t500) l0_0 l0_1 l0_2)) else (spec_CostOk.j0 k true l0_0 l0_1 l0_2))) else (spec_CostOk.j0 k true l0_0 l0_1 l0_2))) = some r := h
 clear h
 have HC2 := Aside0.mk H
 clear H
 go_enter Try.func81, Try.ntmps81
 go_upto_region 1 with (first | ((with_reducible refine gate_dst (N := 1) rfl ?_); refine bx_ 1 #[.slice A0_0 l0_0.length c0_0, .slice A0_1 l0_1.length c0_1, .slice A0_2 l0_2.length c0_2] 53 ?_; intro gb497 hg w3 hbox hb; have BK497 := Aside0.mk (hbox); have GW497 := Aside0.mk ((by rw [hg]; exact (bs_ HB) : w.heap.size ≤ gb497)); have GE497 := Aside0.mk ((by rw [hg]; exact (bs_ HB) : w.heap.size ≤ gb497)); replace HB := tB_ HB hb; clear hb hbox hg))
 (try simp only [Act.put, List.setIfInBounds_toArray, List.set_cons_zero, List.set_cons_succ])
 go_cut [19] (fun v19 wc => ∃ (kq : Nat) (x19_1 : Bool), v19 = .bool x19_1 ∧ Aside0 (spec_CostOk.j0 kq x19_1 l0_0 l0_1 l0_2 = some r) ∧ Aside0 (kq ≤ k) ∧ Aside0 (wc.heap[gb497]? = some (.cells #[(.slice A0_0 l0_0.length c0_0), (.slice A0_1 l0_1.length c0_1), (.slice A0_2 l0_2.length c0_2)] 53 (0, 0))) ∧ Aside0 (Below w.heap.size w wc))
 case first =>
  have H := HC2.out
  clear HC2
  replace H := Option.bind_eq_some_iff.mp H
  obtain ⟨t498, A40, H⟩ := H
  replace H : (if t498 = true then ((spec_l7In.f k l0_1 6).bind fun t499 => (if t499 = true then ((spec_l7In.f k l0_2 36).bind fun t500 => (spec_CostOk.j0 k (!t500) l0_0 l0_1 l0_2)) else (spec_CostOk.j0 k true l0_0 l0_1 l0_2))) else (spec_CostOk.j0 k true l0_0 l0_1 l0_2)) = some r := H
  have A4 := Aside0.mk A40
  clear A40
  by_cases c5 : t498 = true
  ·subst c5
   have H1 : ((spec_l7In.f k l0_1 6).bind fun t499 => (if t499 = true then ((spec_l7In.f k l0_2 36).bind fun t500 => (spec_CostOk.j0 k (!t500) l0_0 l0_1 l0_2)) else (spec_CostOk.j0 k true l0_0 l0_1 l0_2))) = some r := by rw [if_pos rfl] at H; exact H
   clear H
   have H := H1
   clear H1
   replace H := Option.bind_eq_some_iff.mp H
   obtain ⟨t499, A60, H⟩ := H
   replace H : (if t499 = true then ((spec_l7In.f k l0_2 36).bind fun t500 => (spec_CostOk.j0 k (!t500) l0_0 l0_1 l0_2)) else (spec_CostOk.j0 k true l0_0 l0_1 l0_2)) = some r := H
   have A6 := Aside0.mk A60
   clear A60
   by_cases c7 : t499 = true
   ·subst c7
    have H1 : ((spec_l7In.f k l0_2 36).bind fun t500 => (spec_CostOk.j0 k (!t500) l0_0 l0_1 l0_2)) = some r := by rw [if_pos rfl] at H; exact H
    clear H
    have H := H1
    clear H1
    replace H := Option.bind_eq_some_iff.mp H
    obtain ⟨t500, A80, H⟩ := H
    replace H : (spec_CostOk.j0 k (!t500) l0_0 l0_1 l0_2) = some r := H
    have A8 := Aside0.mk A80
    clear A80
    have H' := Aside0.mk H
    clear H
    have hcz9_0 : w3.cell? ⟨gb497, 0, none⟩ = some (.slice A0_0 l0_0.length c0_0) := (blk_cell BK497.out 0).trans rfl
    have hcz9_1 : w3.cell? ⟨gb497, 1, none⟩ = some (.slice A0_1 l0_1.length c0_1) := (blk_cell BK497.out 1).trans rfl
    have hcz9_2 : w3.cell? ⟨gb497, 2, none⟩ = some (.slice A0_2 l0_2.length c0_2) := (blk_cell BK497.out 2).trans rfl
    have hfz9_0 := blk_frozen BK497.out 0
    have hfz9_1 := blk_frozen BK497.out 1
    have hfz9_2 := blk_frozen BK497.out 2
    go_wp2_with (first | ((with_reducible refine gate_callee (f := 124) rfl ?_); refine goesL_ (some 6) rfl rfl Try.func124 (by kernel_rfl) rfl #[.slice A0_0 l0_0.length c0_0, .int .i64 6] rfl (by (try simp only [List.map_toArray, List.map_cons, List.map_nil]); first | done | rfl | (simp only [List.length_drop, List.length_take]; rfl)) ?_; (with_reducible refine (spec_l7In.calls k _ _ l0_0 6 true _ ?side1 ?side2 A4.out).mono ?_); (case side1 => repeat (first | exact (Kd.C_below HR0_0.out HB.out) | (with_reducible refine Kd.C_alloc ?_ _) | (with_reducible refine Kd.C_drewN ?_ _) | (with_reducible refine Kd.C_drew ?_))); (case side2 => exact HC0_0.out); rintro e w' ⟨rfl, ⟨nd, rfl⟩⟩; refine ⟨_, rfl, ?_⟩) | (go_at_call 124; (with_reducible refine (spec_l7In.calls k _ _ l0_1 6 true _ ?side1 ?side2 A6.out).mono ?_); (case side1 => repeat (first | exact (Kd.C_below HR0_1.out (by repeat (first | (with_reducible first | exact HB.out | apply below_alloc | apply pw_below_drewN | apply below_drew1 | refine below_set ?_ GE497.out) | exact HB.out))) | (with_reducible refine Kd.C_alloc ?_ _) | (with_reducible refine Kd.C_drewN ?_ _) | (with_reducible refine Kd.C_drew ?_))); (case side2 => exact HC0_1.out); rintro e w' ⟨rfl, ⟨nd, rfl⟩⟩) | (go_at_call 124; (with_reducible refine (spec_l7In.calls k _ _ l0_2 36 t500 _ ?side1 ?side2 A8.out).mono ?_); (case side1 => repeat (first | exact (Kd.C_below HR0_2.out (by repeat (first | (with_reducible first | exact HB.out | apply below_alloc | apply pw_below_drewN | apply below_drew1 | refine below_set ?_ GE497.out) | exact HB.out))) | (with_reducible refine Kd.C_alloc ?_ _) | (with_reducible refine Kd.C_drewN ?_ _) | (with_reducible refine Kd.C_drew ?_))); (case side2 => exact HC0_2.out); rintro e w' ⟨rfl, ⟨nd, rfl⟩⟩))
    go_meet
    case rel => exact ⟨_, (!t500), (by first | rfl | (simp; done) | (simp [*]; done)), H', ⟨by first | omega | exact Nat.le_refl _⟩, ⟨by (with_reducible repeat (first | refine blk_drewN ?_ _ | refine blk_drew ?_ | refine blk_alloc ?_ _)); exact BK497.out⟩, ⟨by repeat (first | (with_reducible first | exact HB.out | apply below_alloc | apply pw_below_drewN | apply below_drew1 | refine below_set ?_ GE497.out) | exact HB.out)⟩⟩
   ·replace c7 := Bool.eq_false_iff.mpr c7
    subst c7
    have H1 : (spec_CostOk.j0 k true l0_0 l0_1 l0_2) = some r := by rw [if_neg (show ¬ (false = true) by decide)] at H; exact H
    clear H
    have H := H1
    clear H1
    have H' := Aside0.mk H
    clear H
    have hcz10_0 : w3.cell? ⟨gb497, 0, none⟩ = some (.slice A0_0 l0_0.length c0_0) := (blk_cell BK497.out 0).trans rfl
    have hcz10_1 : w3.cell? ⟨gb497, 1, none⟩ = some (.slice A0_1 l0_1.length c0_1) := (blk_cell BK497.out 1).trans rfl
    have hcz10_2 : w3.cell? ⟨gb497, 2, none⟩ = some (.slice A0_2 l0_2.length c0_2) := (blk_cell BK497.out 2).trans rfl
    have hfz10_0 := blk_frozen BK497.out 0
    have hfz10_1 := blk_frozen BK497.out 1
    have hfz10_2 := blk_frozen BK497.out 2
    go_wp2_with (first | ((with_reducible refine gate_callee (f := 124) rfl ?_); refine goesL_ (some 6) rfl rfl Try.func124 (by kernel_rfl) rfl #[.slice A0_0 l0_0.length c0_0, .int .i64 6] rfl (by (try simp only [List.map_toArray, List.map_cons, List.map_nil]); first | done | rfl | (simp only [List.length_drop, List.length_take]; rfl)) ?_; (with_reducible refine (spec_l7In.calls k _ _ l0_0 6 true _ ?side1 ?side2 A4.out).mono ?_); (case side1 => repeat (first | exact (Kd.C_below HR0_0.out HB.out) | (with_reducible refine Kd.C_alloc ?_ _) | (with_reducible refine Kd.C_drewN ?_ _) | (with_reducible refine Kd.C_drew ?_))); (case side2 => exact HC0_0.out); rintro e w' ⟨rfl, ⟨nd, rfl⟩⟩; refine ⟨_, rfl, ?_⟩) | (go_at_call 124; (with_reducible refine (spec_l7In.calls k _ _ l0_1 6 false _ ?side1 ?side2 A6.out).mono ?_); (case side1 => repeat (first | exact (Kd.C_below HR0_1.out (by repeat (first | (with_reducible first | exact HB.out | apply below_alloc | apply pw_below_drewN | apply below_drew1 | refine below_set ?_ GE497.out) | exact HB.out))) | (with_reducible refine Kd.C_alloc ?_ _) | (with_reducible refine Kd.C_drewN ?_ _) | (with_reducible refine Kd.C_drew ?_))); (case side2 => exact HC0_1.out); rintro e w' ⟨rfl, ⟨nd, rfl⟩⟩))
    go_meet
    case rel => exact ⟨_, (true), eb_, H', ⟨by first | omega | exact Nat.le_refl _⟩, ⟨kx_ BK497.out⟩, bl_ HB⟩
  ·replace c5 := Bool.eq_false_iff.mpr c5
   subst c5
   have H1 : (spec_CostOk.j0 k true l0_0 l0_1 l0_2) = some r := by rw [if_neg (show ¬ (false = true) by decide)] at H; exact H
   clear H
   have H := H1
   clear H1
   have H' := Aside0.mk H
   clear H
   have hcz11_0 : w3.cell? ⟨gb497, 0, none⟩ = some (.slice A0_0 l0_0.length c0_0) := (blk_cell BK497.out 0).trans rfl
   have hcz11_1 : w3.cell? ⟨gb497, 1, none⟩ = some (.slice A0_1 l0_1.length c0_1) := (blk_cell BK497.out 1).trans rfl
   have hcz11_2 : w3.cell? ⟨gb497, 2, none⟩ = some (.slice A0_2 l0_2.length c0_2) := (blk_cell BK497.out 2).trans rfl
   have hfz11_0 := blk_frozen BK497.out 0
   have hfz11_1 := blk_frozen BK497.out 1
   have hfz11_2 := blk_frozen BK497.out 2
   go_wp2_with (first | ((with_reducible refine gate_callee (f := 124) rfl ?_); refine gL_ (some 6) Try.func124 #[.slice A0_0 l0_0.length c0_0, .int .i64 6] ?_; (with_reducible refine (spec_l7In.calls k _ _ l0_0 6 false _ (cx_ HR0_0 HB) HC0_0.out A4.out).mono ?_); rintro e w' ⟨rfl, ⟨nd, rfl⟩⟩; refine ⟨_, rfl, ?_⟩))
   go_meet
   case rel => exact ⟨_, (true), eb_, H', ⟨by first | omega | exact Nat.le_refl _⟩, ⟨kx_ BK497.out⟩, bl_ HB⟩
 case rest =>
  clear HC2
  try clear c1
  try clear p2
  try clear c5
  try clear c7
  try clear c8
  try clear hcz10_0
  try clear hcz10_1
  try clear hcz10_2
  try clear hcz11_0
  try clear hcz11_1
  try clear hcz11_2
  try clear hcz9_0
  try clear hcz9_1
  try clear hcz9_2
  try clear hfz10_0
  try clear hfz10_1
  try clear hfz10_2
  try clear hfz11_0
  try clear hfz11_1
  try clear hfz11_2
  try clear hfz9_0
  try clear hfz9_1
  try clear hfz9_2
  obtain ⟨kq, x19_1, rfl, HA, HJ1, BK497, HB⟩ := hcut
  cases kq with
  | zero => exact absurd HA.out (by simp [spec_CostOk.j0])
  | succ kj1 =>
   have H := HA.out
   clear HA
   simp only [spec_CostOk.j0] at H
   by_cases c12 : x19_1 = true
   ·subst c12
    have H1 : (some false) = some r := by rw [if_pos rfl] at H; exact H
    clear H
    have H := H1
    clear H1
    obtain rfl := Option.some.inj H
    go_wp2
    go_ret
    exact ⟨ea_, (bl_ HB).out⟩
   ·replace c12 := Bool.eq_false_iff.mpr c12
    subst c12
    have H1 : (spec_CostOk.l0 kj1 0 l0_0 l0_1 l0_2) = some r := by rw [if_neg (show ¬ (false = true) by decide)] at H; exact H
    clear H
    have H := H1
    clear H1
    have H' := Aside0.mk H
    clear H
    go_wp2
    go_loopg [3] kj1 (fun kq v3 w' => ∃ (x3_2 : Int), v3 = .int .i64 x3_2 ∧ Aside0 (spec_CostOk.l0 kq x3_2 l0_0 l0_1 l0_2 = some r) ∧ Aside0 (kq ≤ kj1) ∧ Aside0 (w'.heap[gb497]? = some (.cells #[(.slice A0_0 l0_0.length c0_0), (.slice A0_1 l0_1.length c0_1), (.slice A0_2 l0_2.length c0_2)] 53 (0, 0))) ∧ Aside0 (Below w.heap.size w w'))
    case atStart => exact ⟨(0), eb_, H', ⟨Nat.le_refl _⟩, ⟨kx_ BK497.out⟩, bl_ HB⟩
    case round =>
     clear H'
     try clear c1
     try clear p2
     try clear c5
     try clear c7
     try clear c8
     try clear c12
     try clear hcz10_0
     try clear hcz10_1
     try clear hcz10_2
     try clear hcz11_0
     try clear hcz11_1
     try clear hcz11_2
     try clear hcz9_0
     try clear hcz9_1
     try clear hcz9_2
     try clear hfz10_0
     try clear hfz10_1
     try clear hfz10_2
     try clear hfz11_0
     try clear hfz11_1
     try clear hfz11_2
     try clear hfz9_0
     try clear hfz9_1
     try clear hfz9_2
     try clear p2
     obtain ⟨x3_2, rfl, HA, HK2, BK497, HB⟩ := hrel
     cases gk with
     | zero => exact absurd HA.out (by simp [spec_CostOk.l0])
     | succ k2 =>
      have H := HA.out
      clear HA
      simp only [spec_CostOk.l0] at H
      by_cases c13 : x3_2 < 6
      ·rw [if_pos c13] at H
       have c13b0 : decide (x3_2 < 6) = true := decide_eq_true c13
       clear c13
       obtain ⟨ji14, hji14⟩ : ∃ j_ : Int, (wrap64 ((wrap64 (x3_2 * 6)) + x3_2)) = j_ := ⟨_, rfl⟩
       replace H : (if 0 ≤ (ji14) then (if (ji14) < (l0_2.length : Int) then (if (rd l0_2 (ji14)) = 0 then (spec_CostOk.l0 k2 (wrap64 (x3_2 + 1)) l0_0 l0_1 l0_2) else (some false)) else (none)) else (none)) = some r := by first | (rw [hji14] at H; exact H) | (simp only [hji14] at H ⊢; exact H)
       have hji14w : (IntKind.i64.wrap ((wrap64 (x3_2 * 6)) + x3_2)) = ji14 := (i64_w _).trans hji14
       by_cases c15 : 0 ≤ (ji14)
       ·rw [if_pos c15] at H
        have c15b0 : decide (0 ≤ (ji14)) = true := decide_eq_true c15
        clear c15
        by_cases c16 : (ji14) < (l0_2.length : Int)
        ·rw [if_pos c16] at H
         have c16b0 : decide ((ji14) < (l0_2.length : Int)) = true := decide_eq_true c16
         clear c16
         by_cases c17 : (rd l0_2 (ji14)) = 0
         ·rw [if_pos c17] at H
          have c17b0 : ((rd l0_2 (ji14)) == 0) = true := beq_iff_eq.mpr c17
          have c17b1 : ((rd l0_2 (ji14)) != 0) = false := bne_eq_false_iff_eq.mpr c17
          clear c17
          have H' := Aside0.mk H
          clear H
          have hcz18_0 : wr.cell? ⟨gb497, 0, none⟩ = some (.slice A0_0 l0_0.length c0_0) := (blk_cell BK497.out 0).trans rfl
          have hcz18_1 : wr.cell? ⟨gb497, 1, none⟩ = some (.slice A0_1 l0_1.length c0_1) := (blk_cell BK497.out 1).trans rfl
          have hcz18_2 : wr.cell? ⟨gb497, 2, none⟩ = some (.slice A0_2 l0_2.length c0_2) := (blk_cell BK497.out 2).trans rfl
          have hfz18_0 := blk_frozen BK497.out 0
          have hfz18_1 := blk_frozen BK497.out 1
          have hfz18_2 := blk_frozen BK497.out 2
          have p501 : 0 ≤ ((ji14) : Int) := od_
          have q501 : (ji14) < (l0_2.length : Int) := od_
          obtain ⟨ad501, e501, hx501_0⟩ := Kd.at_int HR0_2.out (ji14) p501 q501
          cases e501
          replace hx501_0 := ce_ HB hx501_0
          replace p501 := eq_true p501
          replace q501 := eq_true q501
          go_wp2
          go_roundg k2
          case measure => have := HJ1.out; have := HK2.out; omega
          case rel => exact ⟨(wrap64 (x3_2 + 1)), eb_, H', ⟨by have := HJ1.out; have := HK2.out; omega⟩, ⟨kx_ BK497.out⟩, bl_ HB⟩
         ·rw [if_neg c17] at H
          have c17b0 : ((rd l0_2 (ji14)) == 0) = false := beq_eq_false_iff_ne.mpr c17
          have c17b1 : ((rd l0_2 (ji14)) != 0) = true := bne_iff_ne.mpr c17
          obtain rfl := Option.some.inj H
          have hcz19_0 : wr.cell? ⟨gb497, 0, none⟩ = some (.slice A0_0 l0_0.length c0_0) := (blk_cell BK497.out 0).trans rfl
          have hcz19_1 : wr.cell? ⟨gb497, 1, none⟩ = some (.slice A0_1 l0_1.length c0_1) := (blk_cell BK497.out 1).trans rfl
          have hcz19_2 : wr.cell? ⟨gb497, 2, none⟩ = some (.slice A0_2 l0_2.length c0_2) := (blk_cell BK497.out 2).trans rfl
          have hfz19_0 := blk_frozen BK497.out 0
          have hfz19_1 := blk_frozen BK497.out 1
          have hfz19_2 := blk_frozen BK497.out 2
          have p501 : 0 ≤ ((ji14) : Int) := od_
          have q501 : (ji14) < (l0_2.length : Int) := od_
          obtain ⟨ad501, e501, hx501_0⟩ := Kd.at_int HR0_2.out (ji14) p501 q501
          cases e501
          replace hx501_0 := ce_ HB hx501_0
          replace p501 := eq_true p501
          replace q501 := eq_true q501
          go_wp2
          go_ret
          exact ⟨by first | rfl | (simp [errW_none, errW_some] <;> rfl) | (simp only [← hji14]; first | rfl | (simp [errW_none, errW_some] <;> rfl)) | (simp [*, errW_none, errW_some] <;> rfl), (bl_ HB).out⟩
        ·rw [if_neg c16] at H
         exact absurd H (by simp)
       ·rw [if_neg c15] at H
        exact absurd H (by simp)
      ·rw [if_neg c13] at H
       have c13b0 : decide (x3_2 < 6) = false := decide_eq_false c13
       clear c13
       obtain rfl := Option.some.inj H
       go_wp2
       go_ret
       exact ⟨ea_, (bl_ HB).out⟩
end Go.Proofs.Ytbifdckfglejkaa.X
namespace Go.Proofs.Ytbifdckfglejkaa.X
open Go.RowKit Go.Proofs.YtbifdckfglejkaaW.PrintWords Go.Proofs.YtbifdckfglejkaaW.PrintLast Go.Proofs.YtbifdckfglejkaaW.PrintMore
attribute [local go_sem] max2_int min2_int max_two min_two max_three min_three max_four min_four   -- for this text's walks alone
set_option linter.unusedVariables false
set_option linter.unusedSimpArgs false
def spec_DelCost.f (k : Nat) (l0_0 : List Int) (l0_1 : List Int) (l0_2 : List Int) (a1 : Int) : Option (Int) := (spec_CostOk.f k l0_0 l0_1 l0_2).bind fun t505 => (if t505 = true then ((spec_LabelOk.f a1).bind fun t506 => (if t506 = true then (if 0 ≤ a1 then (if a1 < (l0_0.length : Int) then (some (rd l0_0 a1)) else (none)) else (none)) else (some 0))) else (some 0))
set_option maxHeartbeats 8000000 in
set_option maxRecDepth 100000 in
theorem spec_DelCost.calls (k : Nat) (A0_0 : Option Addr) (c0_0 : Nat) (l0_0 : List Int) (A0_1 : Option Addr) (c0_1 : Nat) (l0_1 : List Int) (A0_2 : Option Addr) (c0_2 : Nat) (l0_2 : List Int) (a1 : Int) (r : Int) (w : World) (hr0_0 : Kd.C (Kd.int .i64) w A0_0 l0_0.length l0_0) (hc0_0 : l0_0.length ≤ c0_0) (hr0_1 : Kd.C (Kd.int .i64) w A0_1 l0_1.length l0_1) (hc0_1 : l0_1.length ≤ c0_1) (hr0_2 : Kd.C (Kd.int .i64) w A0_2 l0_2.length l0_2) (hc0_2 : l0_2.length ≤ c0_2) (h : spec_DelCost.f k l0_0 l0_1 l0_2 a1 = some r) :
  Calls Try.prog 83 #[.agg #[.slice A0_0 l0_0.length c0_0, .slice A0_1 l0_1.length c0_1, .slice A0_2 l0_2.length c0_2], .int .i64 a1] w fun e w' => e = .returned (.int .i64 r) ∧ Below w.heap.size w w' := by
 have hu53 := Try.underlying53
 have HR0_0 := Aside0.mk hr0_0
 have HC0_0 := Aside0.mk hc0_0
 clear hr0_0 hc0_0
 have HR0_1 := Aside0.mk hr0_1
 have HC0_1 := Aside0.mk hc0_1
 clear hr0_1 hc0_1
 have HR0_2 := Aside0.mk hr0_2
 have HC0_2 := Aside0.mk hc0_2
 clear hr0_2 hc0_2
 have HB := Aside0.mk (Below.refl w.heap.size w)
 have H : ((spec_CostOk.f k l0_0 l0_1 l0_2).bind fun t505 => (if t505 = true then ((spec_LabelOk.f a1).bind fun t506 => (if t506 = true then (if 0 ≤ a1 then (if a1 < (l0_0.length : Int) then (some (rd l0_0 a1)) else (none)) else (none)) else (some 0))) else (some 0))) = some r := h
 clear h
 replace H := Option.bind_eq_some_iff.mp H
 obtain ⟨t505, A30, H⟩ := H
 try dsimp only at H
 have A3 := Aside0.mk A30
 clear A30
 by_cases c4 : t505 = true
 ·subst c4
  have H1 : ((spec_LabelOk.f a1).bind fun t506 => (if t506 = true then (if 0 ≤ a1 then (if a1 < (l0_0.length : Int) then (some (rd l0_0 a1)) else (none)) else (none)) else (some 0))) = some r := by rw [if_pos rfl] at H; exact H
  clear H
  have H := H1
  clear H1
  replace H := Option.bind_eq_some_iff.mp H
  obtain ⟨t506, A50, H⟩ := H
  try dsimp only at H
  have A5 := Aside0.mk A50
  clear A50
  by_cases c6 : t506 = true
  ·subst c6
   have H1 : (if 0 ≤ a1 then (if a1 < (l0_0.length : Int) then (some (rd l0_0 a1)) else (none)) else (none)) = some r := by rw [if_pos rfl] at H; exact H
   clear H
   have H := H1
   clear H1
   by_cases c7 : 0 ≤ a1
   ·rw [if_pos c7] at H
    have c7b0 : decide (0 ≤ a1) = true := decide_eq_true c7
    clear c7
    by_cases c8 : a1 < (l0_0.length : Int)
    ·rw [if_pos c8] at H
     have c8b0 : decide (a1 < (l0_0.length : Int)) = true := decide_eq_true c8
     clear c8
     obtain rfl := Option.some.inj H
     go_enter Try.func83, Try.ntmps83
     go_wp2_with (first | ((with_reducible refine gate_dst (N := 2) rfl ?_); refine bx_ 2 #[.slice A0_0 l0_0.length c0_0, .slice A0_1 l0_1.length c0_1, .slice A0_2 l0_2.length c0_2] 53 ?_; intro gb504 hg w9 hbox hb; have BK504 := Aside0.mk (hbox); have GW504 := Aside0.mk ((by rw [hg]; exact (bs_ HB) : w.heap.size ≤ gb504)); have GE504 := Aside0.mk ((by rw [hg]; exact (bs_ HB) : w.heap.size ≤ gb504)); replace HB := tB_ HB hb; clear hb hbox hg; obtain ⟨hcz10_0, hcz10_1, hcz10_2, hfz10_0, hfz10_1, hfz10_2⟩ := bk3_ BK504) | ((with_reducible refine gate_callee (f := 81) rfl ?_); refine gL_ (some 6) Try.func81 #[.agg #[.slice A0_0 l0_0.length c0_0, .slice A0_1 l0_1.length c0_1, .slice A0_2 l0_2.length c0_2]] ?_; (with_reducible refine (spec_CostOk.calls k _ _ l0_0 _ _ l0_1 _ _ l0_2 true _ (cx_ HR0_0 HB) HC0_0.out (cx_ HR0_1 HB) HC0_1.out (cx_ HR0_2 HB) HC0_2.out A3.out).mono ?_); rintro e w11 ⟨rfl, hb⟩; refine ⟨_, rfl, ?_⟩; replace BK504 := tK_ BK504 hb; replace HB := tB_ HB hb; (try clear hb)) | (go_at_call 69; (with_reducible refine (spec_LabelOk.calls a1 true _ A5.out).mono ?_); rintro e w' ⟨rfl, ⟨nd, rfl⟩⟩; obtain ⟨hcz12_0, hcz12_1, hcz12_2, hfz12_0, hfz12_1, hfz12_2⟩ := bk3_ BK504; have p507 : 0 ≤ (a1 : Int) := od_; have q507 : a1 < (l0_0.length : Int) := od_; obtain ⟨ad507, e507, hx507_0⟩ := Kd.at_int HR0_0.out a1 p507 q507; cases e507; replace hx507_0 := ce_ HB hx507_0; replace p507 := eq_true p507; replace q507 := eq_true q507))
     go_ret
     exact ⟨ea_, (bl_ HB).out⟩
    ·rw [if_neg c8] at H
     exact absurd H (by simp)
   ·rw [if_neg c7] at H
    exact absurd H (by simp)
  ·replace c6 := Bool.eq_false_iff.mpr c6
   subst c6
   have H1 : (some 0) = some r := by rw [if_neg (show ¬ (false = true) by decide)] at H; exact H
   clear H
   have H := H1
   clear H1
   obtain rfl := Option.some.inj H
   go_enter Try.func83, Try.ntmps83
   go_wp2_with (first | ((with_reducible refine gate_dst (N := 2) rfl ?_); refine bx_ 2 #[.slice A0_0 l0_0.length c0_0, .slice A0_1 l0_1.length c0_1, .slice A0_2 l0_2.length c0_2] 53 ?_; intro gb504 hg w13 hbox hb; have BK504 := Aside0.mk (hbox); have GW504 := Aside0.mk ((by rw [hg]; exact (bs_ HB) : w.heap.size ≤ gb504)); have GE504 := Aside0.mk ((by rw [hg]; exact (bs_ HB) : w.heap.size ≤ gb504)); replace HB := tB_ HB hb; clear hb hbox hg; obtain ⟨hcz14_0, hcz14_1, hcz14_2, hfz14_0, hfz14_1, hfz14_2⟩ := bk3_ BK504) | ((with_reducible refine gate_callee (f := 81) rfl ?_); refine gL_ (some 6) Try.func81 #[.agg #[.slice A0_0 l0_0.length c0_0, .slice A0_1 l0_1.length c0_1, .slice A0_2 l0_2.length c0_2]] ?_; (with_reducible refine (spec_CostOk.calls k _ _ l0_0 _ _ l0_1 _ _ l0_2 true _ (cx_ HR0_0 HB) HC0_0.out (cx_ HR0_1 HB) HC0_1.out (cx_ HR0_2 HB) HC0_2.out A3.out).mono ?_); rintro e w15 ⟨rfl, hb⟩; refine ⟨_, rfl, ?_⟩; replace BK504 := tK_ BK504 hb; replace HB := tB_ HB hb; (try clear hb)) | (go_at_call 69; (with_reducible refine (spec_LabelOk.calls a1 false _ A5.out).mono ?_); rintro e w' ⟨rfl, ⟨nd, rfl⟩⟩))
   go_ret
   exact ⟨ea_, (bl_ HB).out⟩
 ·replace c4 := Bool.eq_false_iff.mpr c4
  subst c4
  have H1 : (some 0) = some r := by rw [if_neg (show ¬ (false = true) by decide)] at H; exact H
  clear H
  have H := H1
  clear H1
  obtain rfl := Option.some.inj H
  go_enter Try.func83, Try.ntmps83
  go_wp2_with (first | ((with_reducible refine gate_dst (N := 2) rfl ?_); refine bx_ 2 #[.slice A0_0 l0_0.length c0_0, .slice A0_1 l0_1.length c0_1, .slice A0_2 l0_2.length c0_2] 53 ?_; intro gb504 hg w16 hbox hb; have BK504 := Aside0.mk (hbox); have GW504 := Aside0.mk ((by rw [hg]; exact (bs_ HB) : w.heap.size ≤ gb504)); have GE504 := Aside0.mk ((by rw [hg]; exact (bs_ HB) : w.heap.size ≤ gb504)); replace HB := tB_ HB hb; clear hb hbox hg; obtain ⟨hcz17_0, hcz17_1, hcz17_2, hfz17_0, hfz17_1, hfz17_2⟩ := bk3_ BK504) | ((with_reducible refine gate_callee (f := 81) rfl ?_); refine gL_ (some 6) Try.func81 #[.agg #[.slice A0_0 l0_0.length c0_0, .slice A0_1 l0_1.length c0_1, .slice A0_2 l0_2.length c0_2]] ?_; (with_reducible refine (spec_CostOk.calls k _ _ l0_0 _ _ l0_1 _ _ l0_2 false _ (cx_ HR0_0 HB) HC0_0.out (cx_ HR0_1 HB) HC0_1.out (cx_ HR0_2 HB) HC0_2.out A3.out).mono ?_); rintro e w18 ⟨rfl, hb⟩; refine ⟨_, rfl, ?_⟩; replace BK504 := tK_ BK504 hb; replace HB := tB_ HB hb; (try clear hb)))
  go_ret
  exact ⟨ea_, (bl_ HB).out⟩
end Go.Proofs.Ytbifdckfglejkaa.X
namespace Go.Proofs.Ytbifdckfglejkaa.X
open Go.RowKit Go.Proofs.YtbifdckfglejkaaW.PrintWords Go.Proofs.YtbifdckfglejkaaW.PrintLast Go.Proofs.YtbifdckfglejkaaW.PrintMore
attribute [local go_sem] max2_int min2_int max_two min_two max_three min_three max_four min_four   -- for this text's walks alone
set_option linter.unusedVariables false
set_option linter.unusedSimpArgs false
def spec_RelCost.f (k : Nat) (l0_0 : List Int) (l0_1 : List Int) (l0_2 : List Int) (a1 : Int) (a2 : Int) : Option (Int) := (spec_CostOk.f k l0_0 l0_1 l0_2).bind fun t509 => (if t509 = true then ((spec_LabelOk.f a1).bind fun t510 => (if t510 = true then ((spec_LabelOk.f a2).bind fun t511 => (if t511 = true then (if 0 ≤ (wrap64 ((wrap64 (a1 * 6)) + a2)) then (if (wrap64 ((wrap64 (a1 * 6)) + a2)) < (l0_2.length : Int) then (some (rd l0_2 (wrap64 ((wrap64 (a1 * 6)) + a2)))) else (none)) else (none)) else (some 0))) else (some 0))) else (some 0))
set_option maxHeartbeats 8000000 in
set_option maxRecDepth 100000 in
theorem spec_RelCost.calls (k : Nat) (A0_0 : Option Addr) (c0_0 : Nat) (l0_0 : List Int) (A0_1 : Option Addr) (c0_1 : Nat) (l0_1 : List Int) (A0_2 : Option Addr) (c0_2 : Nat) (l0_2 : List Int) (a1 : Int) (a2 : Int) (r : Int) (w : World) (hr0_0 : Kd.C (Kd.int .i64) w A0_0 l0_0.length l0_0) (hc0_0 : l0_0.length ≤ c0_0) (hr0_1 : Kd.C (Kd.int .i64) w A0_1 l0_1.length l0_1) (hc0_1 : l0_1.length ≤ c0_1) (hr0_2 : Kd.C (Kd.int .i64) w A0_2 l0_2.length l0_2) (hc0_2 : l0_2.length ≤ c0_2) (h : spec_RelCost.f k l0_0 l0_1 l0_2 a1 a2 = some r) :
  Calls Try.prog 84 #[.agg #[.slice A0_0 l0_0.length c0_0, .slice A0_1 l0_1.length c0_1, .slice A0_2 l0_2.length c0_2], .int .i64 a1, .int .i64 a2] w fun e w' => e = .returned (.int .i64 r) ∧ Below w.heap.size w w' := by
 have hu53 := Try.underlying53
 have HR0_0 := Aside0.mk hr0_0
 have HC0_0 := Aside0.mk hc0_0
 clear hr0_0 hc0_0
 have HR0_1 := Aside0.mk hr0_1
 have HC0_1 := Aside0.mk hc0_1
 clear hr0_1 hc0_1
 have HR0_2 := Aside0.mk hr0_2
 have HC0_2 := Aside0.mk hc0_2
 clear hr0_2 hc0_2
 have HB := Aside0.mk (Below.refl w.heap.size w)
 have H : ((spec_CostOk.f k l0_0 l0_1 l0_2).bind fun t509 => (if t509 = true then ((spec_LabelOk.f a1).bind fun t510 => (if t510 = true then ((spec_LabelOk.f a2).bind fun t511 => (if t511 = true then (if 0 ≤ (wrap64 ((wrap64 (a1 * 6)) + a2)) then (if (wrap64 ((wrap64 (a1 * 6)) + a2)) < (l0_2.length : Int) then (some (rd l0_2 (wrap64 ((wrap64 (a1 * 6)) + a2)))) else (none)) else (none)) else (some 0))) else (some 0))) else (some 0))) = some r := h
 clear h
 replace H := Option.bind_eq_some_iff.mp H
 obtain ⟨t509, A40, H⟩ := H
 try dsimp only at H
 have A4 := Aside0.mk A40
 clear A40
 by_cases c5 : t509 = true
 ·subst c5
  have H1 : ((spec_LabelOk.f a1).bind fun t510 => (if t510 = true then ((spec_LabelOk.f a2).bind fun t511 => (if t511 = true then (if 0 ≤ (wrap64 ((wrap64 (a1 * 6)) + a2)) then (if (wrap64 ((wrap64 (a1 * 6)) + a2)) < (l0_2.length : Int) then (some (rd l0_2 (wrap64 ((wrap64 (a1 * 6)) + a2)))) else (none)) else (none)) else (some 0))) else (some 0))) = some r := by rw [if_pos rfl] at H; exact H
  clear H
  have H := H1
  clear H1
  replace H := Option.bind_eq_some_iff.mp H
  obtain ⟨t510, A60, H⟩ := H
  try dsimp only at H
  have A6 := Aside0.mk A60
  clear A60
  by_cases c7 : t510 = true
  ·subst c7
   have H1 : ((spec_LabelOk.f a2).bind fun t511 => (if t511 = true then (if 0 ≤ (wrap64 ((wrap64 (a1 * 6)) + a2)) then (if (wrap64 ((wrap64 (a1 * 6)) + a2)) < (l0_2.length : Int) then (some (rd l0_2 (wrap64 ((wrap64 (a1 * 6)) + a2)))) else (none)) else (none)) else (some 0))) = some r := by rw [if_pos rfl] at H; exact H
   clear H
   have H := H1
   clear H1
   replace H := Option.bind_eq_some_iff.mp H
   obtain ⟨t511, A80, H⟩ := H
   try dsimp only at H
   have A8 := Aside0.mk A80
   clear A80
   by_cases c9 : t511 = true
   ·subst c9
    have H1 : (if 0 ≤ (wrap64 ((wrap64 (a1 * 6)) + a2)) then (if (wrap64 ((wrap64 (a1 * 6)) + a2)) < (l0_2.length : Int) then (some (rd l0_2 (wrap64 ((wrap64 (a1 * 6)) + a2)))) else (none)) else (none)) = some r := by rw [if_pos rfl] at H; exact H
    clear H
    have H := H1
    clear H1
    obtain ⟨ji10, hji10⟩ : ∃ j_ : Int, (wrap64 ((wrap64 (a1 * 6)) + a2)) = j_ := ⟨_, rfl⟩
    replace H : (if 0 ≤ (ji10) then (if (ji10) < (l0_2.length : Int) then (some (rd l0_2 (ji10))) else (none)) else (none)) = some r := by first | (rw [hji10] at H; exact H) | (simp only [hji10] at H ⊢; exact H)
    (try rw [hji10] at A4)
    (try rw [hji10] at A6)
    (try rw [hji10] at A8)
    have hji10w : (IntKind.i64.wrap ((wrap64 (a1 * 6)) + a2)) = ji10 := (i64_w _).trans hji10
    by_cases c11 : 0 ≤ (ji10)
    ·rw [if_pos c11] at H
     have c11b0 : decide (0 ≤ (ji10)) = true := decide_eq_true c11
     clear c11
     by_cases c12 : (ji10) < (l0_2.length : Int)
     ·rw [if_pos c12] at H
      have c12b0 : decide ((ji10) < (l0_2.length : Int)) = true := decide_eq_true c12
      clear c12
      obtain rfl := Option.some.inj H
      go_enter Try.func84, Try.ntmps84
      go_wp2_with (first | ((with_reducible refine gate_dst (N := 3) rfl ?_); refine bx_ 3 #[.slice A0_0 l0_0.length c0_0, .slice A0_1 l0_1.length c0_1, .slice A0_2 l0_2.length c0_2] 53 ?_; intro gb508 hg w13 hbox hb; have BK508 := Aside0.mk (hbox); have GW508 := Aside0.mk ((by rw [hg]; exact (bs_ HB) : w.heap.size ≤ gb508)); have GE508 := Aside0.mk ((by rw [hg]; exact (bs_ HB) : w.heap.size ≤ gb508)); replace HB := tB_ HB hb; clear hb hbox hg; obtain ⟨hcz14_0, hcz14_1, hcz14_2, hfz14_0, hfz14_1, hfz14_2⟩ := bk3_ BK508) | ((with_reducible refine gate_callee (f := 81) rfl ?_); refine gL_ (some 8) Try.func81 #[.agg #[.slice A0_0 l0_0.length c0_0, .slice A0_1 l0_1.length c0_1, .slice A0_2 l0_2.length c0_2]] ?_; (with_reducible refine (spec_CostOk.calls k _ _ l0_0 _ _ l0_1 _ _ l0_2 true _ (cx_ HR0_0 HB) HC0_0.out (cx_ HR0_1 HB) HC0_1.out (cx_ HR0_2 HB) HC0_2.out A4.out).mono ?_); rintro e w15 ⟨rfl, hb⟩; refine ⟨_, rfl, ?_⟩; replace BK508 := tK_ BK508 hb; replace HB := tB_ HB hb; (try clear hb)) | (go_at_call 69; (with_reducible refine (spec_LabelOk.calls a1 true _ A6.out).mono ?_); rintro e w' ⟨rfl, ⟨nd, rfl⟩⟩) | (go_at_call 69; (with_reducible refine (spec_LabelOk.calls a2 true _ A8.out).mono ?_); rintro e w' ⟨rfl, ⟨nd, rfl⟩⟩; obtain ⟨hcz16_0, hcz16_1, hcz16_2, hfz16_0, hfz16_1, hfz16_2⟩ := bk3_ BK508; have p512 : 0 ≤ ((ji10) : Int) := od_; have q512 : (ji10) < (l0_2.length : Int) := od_; obtain ⟨ad512, e512, hx512_0⟩ := Kd.at_int HR0_2.out (ji10) p512 q512; cases e512; replace hx512_0 := ce_ HB hx512_0; replace p512 := eq_true p512; replace q512 := eq_true q512))
      go_ret
      exact ⟨by first | rfl | (simp [errW_none, errW_some] <;> rfl) | (simp only [← hji10]; first | rfl | (simp [errW_none, errW_some] <;> rfl)) | (simp [*, errW_none, errW_some] <;> rfl), (bl_ HB).out⟩
     ·rw [if_neg c12] at H
      exact absurd H (by simp)
    ·rw [if_neg c11] at H
     exact absurd H (by simp)
   ·replace c9 := Bool.eq_false_iff.mpr c9
    subst c9
    have H1 : (some 0) = some r := by rw [if_neg (show ¬ (false = true) by decide)] at H; exact H
    clear H
    have H := H1
    clear H1
    obtain rfl := Option.some.inj H
    go_enter Try.func84, Try.ntmps84
    go_wp2_with (first | ((with_reducible refine gate_dst (N := 3) rfl ?_); refine bx_ 3 #[.slice A0_0 l0_0.length c0_0, .slice A0_1 l0_1.length c0_1, .slice A0_2 l0_2.length c0_2] 53 ?_; intro gb508 hg w17 hbox hb; have BK508 := Aside0.mk (hbox); have GW508 := Aside0.mk ((by rw [hg]; exact (bs_ HB) : w.heap.size ≤ gb508)); have GE508 := Aside0.mk ((by rw [hg]; exact (bs_ HB) : w.heap.size ≤ gb508)); replace HB := tB_ HB hb; clear hb hbox hg; obtain ⟨hcz18_0, hcz18_1, hcz18_2, hfz18_0, hfz18_1, hfz18_2⟩ := bk3_ BK508) | ((with_reducible refine gate_callee (f := 81) rfl ?_); refine gL_ (some 8) Try.func81 #[.agg #[.slice A0_0 l0_0.length c0_0, .slice A0_1 l0_1.length c0_1, .slice A0_2 l0_2.length c0_2]] ?_; (with_reducible refine (spec_CostOk.calls k _ _ l0_0 _ _ l0_1 _ _ l0_2 true _ (cx_ HR0_0 HB) HC0_0.out (cx_ HR0_1 HB) HC0_1.out (cx_ HR0_2 HB) HC0_2.out A4.out).mono ?_); rintro e w19 ⟨rfl, hb⟩; refine ⟨_, rfl, ?_⟩; replace BK508 := tK_ BK508 hb; replace HB := tB_ HB hb; (try clear hb)) | (go_at_call 69; (with_reducible refine (spec_LabelOk.calls a1 true _ A6.out).mono ?_); rintro e w' ⟨rfl, ⟨nd, rfl⟩⟩) | (go_at_call 69; (with_reducible refine (spec_LabelOk.calls a2 false _ A8.out).mono ?_); rintro e w' ⟨rfl, ⟨nd, rfl⟩⟩))
    go_ret
    exact ⟨ea_, (bl_ HB).out⟩
  ·replace c7 := Bool.eq_false_iff.mpr c7
   subst c7
   have H1 : (some 0) = some r := by rw [if_neg (show ¬ (false = true) by decide)] at H; exact H
   clear H
   have H := H1
   clear H1
   obtain rfl := Option.some.inj H
   go_enter Try.func84, Try.ntmps84
   go_wp2_with (first | ((with_reducible refine gate_dst (N := 3) rfl ?_); refine bx_ 3 #[.slice A0_0 l0_0.length c0_0, .slice A0_1 l0_1.length c0_1, .slice A0_2 l0_2.length c0_2] 53 ?_; intro gb508 hg w20 hbox hb; have BK508 := Aside0.mk (hbox); have GW508 := Aside0.mk ((by rw [hg]; exact (bs_ HB) : w.heap.size ≤ gb508)); have GE508 := Aside0.mk ((by rw [hg]; exact (bs_ HB) : w.heap.size ≤ gb508)); replace HB := tB_ HB hb; clear hb hbox hg; obtain ⟨hcz21_0, hcz21_1, hcz21_2, hfz21_0, hfz21_1, hfz21_2⟩ := bk3_ BK508) | ((with_reducible refine gate_callee (f := 81) rfl ?_); refine gL_ (some 8) Try.func81 #[.agg #[.slice A0_0 l0_0.length c0_0, .slice A0_1 l0_1.length c0_1, .slice A0_2 l0_2.length c0_2]] ?_; (with_reducible refine (spec_CostOk.calls k _ _ l0_0 _ _ l0_1 _ _ l0_2 true _ (cx_ HR0_0 HB) HC0_0.out (cx_ HR0_1 HB) HC0_1.out (cx_ HR0_2 HB) HC0_2.out A4.out).mono ?_); rintro e w22 ⟨rfl, hb⟩; refine ⟨_, rfl, ?_⟩; replace BK508 := tK_ BK508 hb; replace HB := tB_ HB hb; (try clear hb)) | (go_at_call 69; (with_reducible refine (spec_LabelOk.calls a1 false _ A6.out).mono ?_); rintro e w' ⟨rfl, ⟨nd, rfl⟩⟩))
   go_ret
   exact ⟨ea_, (bl_ HB).out⟩
 ·replace c5 := Bool.eq_false_iff.mpr c5
  subst c5
  have H1 : (some 0) = some r := by rw [if_neg (show ¬ (false = true) by decide)] at H; exact H
  clear H
  have H := H1
  clear H1
  obtain rfl := Option.some.inj H
  go_enter Try.func84, Try.ntmps84
  go_wp2_with (first | ((with_reducible refine gate_dst (N := 3) rfl ?_); refine bx_ 3 #[.slice A0_0 l0_0.length c0_0, .slice A0_1 l0_1.length c0_1, .slice A0_2 l0_2.length c0_2] 53 ?_; intro gb508 hg w23 hbox hb; have BK508 := Aside0.mk (hbox); have GW508 := Aside0.mk ((by rw [hg]; exact (bs_ HB) : w.heap.size ≤ gb508)); have GE508 := Aside0.mk ((by rw [hg]; exact (bs_ HB) : w.heap.size ≤ gb508)); replace HB := tB_ HB hb; clear hb hbox hg; obtain ⟨hcz24_0, hcz24_1, hcz24_2, hfz24_0, hfz24_1, hfz24_2⟩ := bk3_ BK508) | ((with_reducible refine gate_callee (f := 81) rfl ?_); refine gL_ (some 8) Try.func81 #[.agg #[.slice A0_0 l0_0.length c0_0, .slice A0_1 l0_1.length c0_1, .slice A0_2 l0_2.length c0_2]] ?_; (with_reducible refine (spec_CostOk.calls k _ _ l0_0 _ _ l0_1 _ _ l0_2 false _ (cx_ HR0_0 HB) HC0_0.out (cx_ HR0_1 HB) HC0_1.out (cx_ HR0_2 HB) HC0_2.out A4.out).mono ?_); rintro e w25 ⟨rfl, hb⟩; refine ⟨_, rfl, ?_⟩; replace BK508 := tK_ BK508 hb; replace HB := tB_ HB hb; (try clear hb)))
  go_ret
  exact ⟨ea_, (bl_ HB).out⟩
end Go.Proofs.Ytbifdckfglejkaa.X
namespace Go.Proofs.Ytbifdckfglejkaa.X
open Go.RowKit Go.Proofs.YtbifdckfglejkaaW.PrintWords Go.Proofs.YtbifdckfglejkaaW.PrintLast Go.Proofs.YtbifdckfglejkaaW.PrintMore
attribute [local go_sem] max2_int min2_int max_two min_two max_three min_three max_four min_four   -- for this text's walks alone
set_option linter.unusedVariables false
set_option linter.unusedSimpArgs false
def spec_InsCost.f (k : Nat) (l0_0 : List Int) (l0_1 : List Int) (l0_2 : List Int) (a1 : Int) : Option (Int) := (spec_CostOk.f k l0_0 l0_1 l0_2).bind fun t516 => (if t516 = true then ((spec_LabelOk.f a1).bind fun t517 => (if t517 = true then (if 0 ≤ a1 then (if a1 < (l0_1.length : Int) then (some (rd l0_1 a1)) else (none)) else (none)) else (some 0))) else (some 0))
set_option maxHeartbeats 8000000 in
set_option maxRecDepth 100000 in
theorem spec_InsCost.calls (k : Nat) (A0_0 : Option Addr) (c0_0 : Nat) (l0_0 : List Int) (A0_1 : Option Addr) (c0_1 : Nat) (l0_1 : List Int) (A0_2 : Option Addr) (c0_2 : Nat) (l0_2 : List Int) (a1 : Int) (r : Int) (w : World) (hr0_0 : Kd.C (Kd.int .i64) w A0_0 l0_0.length l0_0) (hc0_0 : l0_0.length ≤ c0_0) (hr0_1 : Kd.C (Kd.int .i64) w A0_1 l0_1.length l0_1) (hc0_1 : l0_1.length ≤ c0_1) (hr0_2 : Kd.C (Kd.int .i64) w A0_2 l0_2.length l0_2) (hc0_2 : l0_2.length ≤ c0_2) (h : spec_InsCost.f k l0_0 l0_1 l0_2 a1 = some r) :
  Calls Try.prog 86 #[.agg #[.slice A0_0 l0_0.length c0_0, .slice A0_1 l0_1.length c0_1, .slice A0_2 l0_2.length c0_2], .int .i64 a1] w fun e w' => e = .returned (.int .i64 r) ∧ Below w.heap.size w w' := by
 have hu53 := Try.underlying53
 have HR0_0 := Aside0.mk hr0_0
 have HC0_0 := Aside0.mk hc0_0
 clear hr0_0 hc0_0
 have HR0_1 := Aside0.mk hr0_1
 have HC0_1 := Aside0.mk hc0_1
 clear hr0_1 hc0_1
 have HR0_2 := Aside0.mk hr0_2
 have HC0_2 := Aside0.mk hc0_2
 clear hr0_2 hc0_2
 have HB := Aside0.mk (Below.refl w.heap.size w)
 have H : ((spec_CostOk.f k l0_0 l0_1 l0_2).bind fun t516 => (if t516 = true then ((spec_LabelOk.f a1).bind fun t517 => (if t517 = true then (if 0 ≤ a1 then (if a1 < (l0_1.length : Int) then (some (rd l0_1 a1)) else (none)) else (none)) else (some 0))) else (some 0))) = some r := h
 clear h
 replace H := Option.bind_eq_some_iff.mp H
 obtain ⟨t516, A30, H⟩ := H
 try dsimp only at H
 have A3 := Aside0.mk A30
 clear A30
 by_cases c4 : t516 = true
 ·subst c4
  have H1 : ((spec_LabelOk.f a1).bind fun t517 => (if t517 = true then (if 0 ≤ a1 then (if a1 < (l0_1.length : Int) then (some (rd l0_1 a1)) else (none)) else (none)) else (some 0))) = some r := by rw [if_pos rfl] at H; exact H
  clear H
  have H := H1
  clear H1
  replace H := Option.bind_eq_some_iff.mp H
  obtain ⟨t517, A50, H⟩ := H
  try dsimp only at H
  have A5 := Aside0.mk A50
  clear A50
  by_cases c6 : t517 = true
  ·subst c6
   have H1 : (if 0 ≤ a1 then (if a1 < (l0_1.length : Int) then (some (rd l0_1 a1)) else (none)) else (none)) = some r := by rw [if_pos rfl] at H; exact H
   clear H
   have H := H1
   clear H1
   by_cases c7 : 0 ≤ a1
   ·rw [if_pos c7] at H
    have c7b0 : decide (0 ≤ a1) = true := decide_eq_true c7
    clear c7
    by_cases c8 : a1 < (l0_1.length : Int)
    ·rw [if_pos c8] at H
     have c8b0 : decide (a1 < (l0_1.length : Int)) = true := decide_eq_true c8
     clear c8
     obtain rfl := Option.some.inj H
     go_enter Try.func86, Try.ntmps86
     go_wp2_with (first | ((with_reducible refine gate_dst (N := 2) rfl ?_); refine bx_ 2 #[.slice A0_0 l0_0.length c0_0, .slice A0_1 l0_1.length c0_1, .slice A0_2 l0_2.length c0_2] 53 ?_; intro gb515 hg w9 hbox hb; have BK515 := Aside0.mk (hbox); have GW515 := Aside0.mk ((by rw [hg]; exact (bs_ HB) : w.heap.size ≤ gb515)); have GE515 := Aside0.mk ((by rw [hg]; exact (bs_ HB) : w.heap.size ≤ gb515)); replace HB := tB_ HB hb; clear hb hbox hg; obtain ⟨hcz10_0, hcz10_1, hcz10_2, hfz10_0, hfz10_1, hfz10_2⟩ := bk3_ BK515) | ((with_reducible refine gate_callee (f := 81) rfl ?_); refine gL_ (some 6) Try.func81 #[.agg #[.slice A0_0 l0_0.length c0_0, .slice A0_1 l0_1.length c0_1, .slice A0_2 l0_2.length c0_2]] ?_; (with_reducible refine (spec_CostOk.calls k _ _ l0_0 _ _ l0_1 _ _ l0_2 true _ (cx_ HR0_0 HB) HC0_0.out (cx_ HR0_1 HB) HC0_1.out (cx_ HR0_2 HB) HC0_2.out A3.out).mono ?_); rintro e w11 ⟨rfl, hb⟩; refine ⟨_, rfl, ?_⟩; replace BK515 := tK_ BK515 hb; replace HB := tB_ HB hb; (try clear hb)) | (go_at_call 69; (with_reducible refine (spec_LabelOk.calls a1 true _ A5.out).mono ?_); rintro e w' ⟨rfl, ⟨nd, rfl⟩⟩; obtain ⟨hcz12_0, hcz12_1, hcz12_2, hfz12_0, hfz12_1, hfz12_2⟩ := bk3_ BK515; have p518 : 0 ≤ (a1 : Int) := od_; have q518 : a1 < (l0_1.length : Int) := od_; obtain ⟨ad518, e518, hx518_0⟩ := Kd.at_int HR0_1.out a1 p518 q518; cases e518; replace hx518_0 := ce_ HB hx518_0; replace p518 := eq_true p518; replace q518 := eq_true q518))
     go_ret
     exact ⟨ea_, (bl_ HB).out⟩
    ·rw [if_neg c8] at H
     exact absurd H (by simp)
   ·rw [if_neg c7] at H
    exact absurd H (by simp)
  ·replace c6 := Bool.eq_false_iff.mpr c6
   subst c6
   have H1 : (some 0) = some r := by rw [if_neg (show ¬ (false = true) by decide)] at H; exact H
   clear H
   have H := H1
   clear H1
   obtain rfl := Option.some.inj H
   go_enter Try.func86, Try.ntmps86
   go_wp2_with (first | ((with_reducible refine gate_dst (N := 2) rfl ?_); refine bx_ 2 #[.slice A0_0 l0_0.length c0_0, .slice A0_1 l0_1.length c0_1, .slice A0_2 l0_2.length c0_2] 53 ?_; intro gb515 hg w13 hbox hb; have BK515 := Aside0.mk (hbox); have GW515 := Aside0.mk ((by rw [hg]; exact (bs_ HB) : w.heap.size ≤ gb515)); have GE515 := Aside0.mk ((by rw [hg]; exact (bs_ HB) : w.heap.size ≤ gb515)); replace HB := tB_ HB hb; clear hb hbox hg; obtain ⟨hcz14_0, hcz14_1, hcz14_2, hfz14_0, hfz14_1, hfz14_2⟩ := bk3_ BK515) | ((with_reducible refine gate_callee (f := 81) rfl ?_); refine gL_ (some 6) Try.func81 #[.agg #[.slice A0_0 l0_0.length c0_0, .slice A0_1 l0_1.length c0_1, .slice A0_2 l0_2.length c0_2]] ?_; (with_reducible refine (spec_CostOk.calls k _ _ l0_0 _ _ l0_1 _ _ l0_2 true _ (cx_ HR0_0 HB) HC0_0.out (cx_ HR0_1 HB) HC0_1.out (cx_ HR0_2 HB) HC0_2.out A3.out).mono ?_); rintro e w15 ⟨rfl, hb⟩; refine ⟨_, rfl, ?_⟩; replace BK515 := tK_ BK515 hb; replace HB := tB_ HB hb; (try clear hb)) | (go_at_call 69; (with_reducible refine (spec_LabelOk.calls a1 false _ A5.out).mono ?_); rintro e w' ⟨rfl, ⟨nd, rfl⟩⟩))
   go_ret
   exact ⟨ea_, (bl_ HB).out⟩
 ·replace c4 := Bool.eq_false_iff.mpr c4
  subst c4
  have H1 : (some 0) = some r := by rw [if_neg (show ¬ (false = true) by decide)] at H; exact H
  clear H
  have H := H1
  clear H1
  obtain rfl := Option.some.inj H
  go_enter Try.func86, Try.ntmps86
  go_wp2_with (first | ((with_reducible refine gate_dst (N := 2) rfl ?_); refine bx_ 2 #[.slice A0_0 l0_0.length c0_0, .slice A0_1 l0_1.length c0_1, .slice A0_2 l0_2.length c0_2] 53 ?_; intro gb515 hg w16 hbox hb; have BK515 := Aside0.mk (hbox); have GW515 := Aside0.mk ((by rw [hg]; exact (bs_ HB) : w.heap.size ≤ gb515)); have GE515 := Aside0.mk ((by rw [hg]; exact (bs_ HB) : w.heap.size ≤ gb515)); replace HB := tB_ HB hb; clear hb hbox hg; obtain ⟨hcz17_0, hcz17_1, hcz17_2, hfz17_0, hfz17_1, hfz17_2⟩ := bk3_ BK515) | ((with_reducible refine gate_callee (f := 81) rfl ?_); refine gL_ (some 6) Try.func81 #[.agg #[.slice A0_0 l0_0.length c0_0, .slice A0_1 l0_1.length c0_1, .slice A0_2 l0_2.length c0_2]] ?_; (with_reducible refine (spec_CostOk.calls k _ _ l0_0 _ _ l0_1 _ _ l0_2 false _ (cx_ HR0_0 HB) HC0_0.out (cx_ HR0_1 HB) HC0_1.out (cx_ HR0_2 HB) HC0_2.out A3.out).mono ?_); rintro e w18 ⟨rfl, hb⟩; refine ⟨_, rfl, ?_⟩; replace BK515 := tK_ BK515 hb; replace HB := tB_ HB hb; (try clear hb)))
  go_ret
  exact ⟨ea_, (bl_ HB).out⟩
end Go.Proofs.Ytbifdckfglejkaa.X
namespace Go.Proofs.Ytbifdckfglejkaa.X
open Go.RowKit Go.Proofs.YtbifdckfglejkaaW.PrintWords Go.Proofs.YtbifdckfglejkaaW.PrintLast Go.Proofs.YtbifdckfglejkaaW.PrintMore
attribute [local go_sem] max2_int min2_int max_two min_two max_three min_three max_four min_four   -- for this text's walks alone
set_option linter.unusedVariables false
set_option linter.unusedSimpArgs false
def spec_l3At.f (k : Nat) (l0 : List (S90)) (a1 : Int) : Option (Bool) := (spec_TreeOk.f k l0).bind fun t471 => (if t471 = true then ((spec_l1In.f a1 0 (wrap64 ((l0.length : Int) - 1))).bind fun t472 => (some t472)) else (some false))
set_option maxHeartbeats 8000000 in
set_option maxRecDepth 100000 in
theorem spec_l3At.calls (k : Nat) (A0 : Option Addr) (c0 : Nat) (l0 : List (S90)) (a1 : Int) (r : Bool) (w : World) (hr0 : Kd.C k90 w A0 l0.length l0) (hc0 : l0.length ≤ c0) (h : spec_l3At.f k l0 a1 = some r) :
  Calls Try.prog 114 #[.slice A0 l0.length c0, .int .i64 a1] w fun e w' => e = .returned (.bool r) ∧ Below w.heap.size w w' := by
 have HR0 := Aside0.mk hr0
 have HC0 := Aside0.mk hc0
 clear hr0 hc0
 have HB := Aside0.mk (Below.refl w.heap.size w)
 have H : ((spec_TreeOk.f k l0).bind fun t471 => (if t471 = true then ((spec_l1In.f a1 0 (wrap64 ((l0.length : Int) - 1))).bind fun t472 => (some t472)) else (some false))) = some r := h
 clear h
 replace H := Option.bind_eq_some_iff.mp H
 obtain ⟨t471, A30, H⟩ := H
 try dsimp only at H
 have A3 := Aside0.mk A30
 clear A30
 by_cases c4 : t471 = true
 ·subst c4
  have H1 : ((spec_l1In.f a1 0 (wrap64 ((l0.length : Int) - 1))).bind fun t472 => (some t472)) = some r := by rw [if_pos rfl] at H; exact H
  clear H
  have H := H1
  clear H1
  replace H := Option.bind_eq_some_iff.mp H
  obtain ⟨t472, A50, H⟩ := H
  replace H : (some t472) = some r := H
  have A5 := Aside0.mk A50
  clear A50
  obtain rfl := Option.some.inj H
  go_enter Try.func114, Try.ntmps114
  go_wp2_with (first | ((with_reducible refine gate_callee (f := 64) rfl ?_); refine gL_ (some 6) Try.func64 #[.slice A0 l0.length c0] ?_; (with_reducible refine (spec_TreeOk.calls k _ _ l0 true _ (cc_ HR0.out) HC0.out A3.out).mono ?_); rintro e w6 ⟨rfl, hb⟩; refine ⟨_, rfl, ?_⟩; replace HB := tB_ HB hb; (try clear hb)) | (go_at_call 67; (with_reducible refine (spec_l1In.calls a1 0 (wrap64 ((l0.length : Int) - 1)) t472 _ A5.out).mono ?_); rintro e w' ⟨rfl, ⟨nd, rfl⟩⟩))
  go_ret
  exact ⟨ea_, (bl_ HB).out⟩
 ·replace c4 := Bool.eq_false_iff.mpr c4
  subst c4
  have H1 : (some false) = some r := by rw [if_neg (show ¬ (false = true) by decide)] at H; exact H
  clear H
  have H := H1
  clear H1
  obtain rfl := Option.some.inj H
  go_enter Try.func114, Try.ntmps114
  go_wp2_with (first | ((with_reducible refine gate_callee (f := 64) rfl ?_); refine gL_ (some 6) Try.func64 #[.slice A0 l0.length c0] ?_; (with_reducible refine (spec_TreeOk.calls k _ _ l0 false _ (cc_ HR0.out) HC0.out A3.out).mono ?_); rintro e w7 ⟨rfl, hb⟩; refine ⟨_, rfl, ?_⟩; replace HB := tB_ HB hb; (try clear hb)))
  go_ret
  exact ⟨ea_, (bl_ HB).out⟩
end Go.Proofs.Ytbifdckfglejkaa.X
namespace Go.Proofs.Ytbifdckfglejkaa.X
open Go.RowKit Go.Proofs.YtbifdckfglejkaaW.PrintWords Go.Proofs.YtbifdckfglejkaaW.PrintLast Go.Proofs.YtbifdckfglejkaaW.PrintMore
attribute [local go_sem] max2_int min2_int max_two min_two max_three min_three max_four min_four   -- for this text's walks alone
set_option linter.unusedVariables false
set_option linter.unusedSimpArgs false
def spec_EndOf.l0 : Nat → List (S90) → Int → Int → Option (Int)
 | 0, _, _, _ => none
 | k + 1, x0, x1, x5 => if x5 < (x0.length : Int) then (if 0 ≤ x5 then (if 0 ≤ x1 then (if x1 < (x0.length : Int) then (if ((rd_T90 x0 x5).f1) > ((rd_T90 x0 x1).f1) then (spec_EndOf.l0 k x0 x1 (wrap64 (x5 + 1))) else (some x5)) else (none)) else (none)) else (none)) else (some x5)
def spec_EndOf.f (k : Nat) (l0 : List (S90)) (a1 : Int) : Option (Int) := (spec_l3At.f k l0 a1).bind fun t473 => (if t473 = true then (spec_EndOf.l0 k l0 a1 (wrap64 (a1 + 1))) else (some (-1)))
set_option maxHeartbeats 8000000 in
set_option maxRecDepth 100000 in
theorem spec_EndOf.calls (k : Nat) (A0 : Option Addr) (c0 : Nat) (l0 : List (S90)) (a1 : Int) (r : Int) (w : World) (hr0 : Kd.C k90 w A0 l0.length l0) (hc0 : l0.length ≤ c0) (h : spec_EndOf.f k l0 a1 = some r) :
  Calls Try.prog 100 #[.slice A0 l0.length c0, .int .i64 a1] w fun e w' => e = .returned (.int .i64 r) ∧ Below w.heap.size w w' := by
 have HR0 := Aside0.mk hr0
 have HC0 := Aside0.mk hc0
 clear hr0 hc0
 have HB := Aside0.mk (Below.refl w.heap.size w)
 have H : ((spec_l3At.f k l0 a1).bind fun t473 => (if t473 = true then (spec_EndOf.l0 k l0 a1 (wrap64 (a1 + 1))) else (some (-1)))) = some r := h
 clear h
 replace H := Option.bind_eq_some_iff.mp H
 obtain ⟨t473, A30, H⟩ := H
 replace H : (if t473 = true then (spec_EndOf.l0 k l0 a1 (wrap64 (a1 + 1))) else (some (-1))) = some r := H
 have A3 := Aside0.mk A30
 clear A30
 by_cases c4 : t473 = true
 ·subst c4
  have H1 : (spec_EndOf.l0 k l0 a1 (wrap64 (a1 + 1))) = some r := by rw [if_pos rfl] at H; exact H
  clear H
  have H := H1
  clear H1
  have H' := Aside0.mk H
  clear H
  go_enter Try.func100, Try.ntmps100
  go_wp2_with (first | (go_at_call 114; (with_reducible refine (spec_l3At.calls k _ _ l0 a1 true _ (cc_ HR0.out) HC0.out A3.out).mono ?_); rintro e w5 ⟨rfl, hb⟩; replace HB := tB_ HB hb; (try clear hb)))
  repeat (go_quiet (first | (go_at_call 114; (with_reducible refine (spec_l3At.calls k _ _ l0 a1 true _ (cc_ HR0.out) HC0.out A3.out).mono ?_); rintro e w5 ⟨rfl, hb⟩; replace HB := tB_ HB hb; (try clear hb))); try go_wp2_with (first | (go_at_call 114; (with_reducible refine (spec_l3At.calls k _ _ l0 a1 true _ (cc_ HR0.out) HC0.out A3.out).mono ?_); rintro e w5 ⟨rfl, hb⟩; replace HB := tB_ HB hb; (try clear hb))))
  go_loopg [5] k (fun kq v5 w' => ∃ (x5_1 : Int), v5 = .int .i64 x5_1 ∧ Aside0 (spec_EndOf.l0 kq l0 a1 x5_1 = some r) ∧ Aside0 (kq ≤ k) ∧ Aside0 (Below w.heap.size w w'))
  case atStart => exact ⟨(wrap64 (a1 + 1)), eb_, H', ⟨Nat.le_refl _⟩, bl_ HB⟩
  case round =>
   clear H'
   try clear c1
   try clear p2
   try clear c4
   obtain ⟨x5_1, rfl, HA, HK1, HB⟩ := hrel
   cases gk with
   | zero => exact absurd HA.out (by simp [spec_EndOf.l0])
   | succ k1 =>
    have H := HA.out
    clear HA
    simp only [spec_EndOf.l0] at H
    by_cases c6 : x5_1 < (l0.length : Int)
    ·rw [if_pos c6] at H
     have c6b0 : decide (x5_1 < (l0.length : Int)) = true := decide_eq_true c6
     clear c6
     by_cases c7 : 0 ≤ x5_1
     ·rw [if_pos c7] at H
      have c7b0 : decide (0 ≤ x5_1) = true := decide_eq_true c7
      clear c7
      by_cases c8 : 0 ≤ a1
      ·rw [if_pos c8] at H
       have c8b0 : decide (0 ≤ a1) = true := decide_eq_true c8
       clear c8
       by_cases c9 : a1 < (l0.length : Int)
       ·rw [if_pos c9] at H
        have c9b0 : decide (a1 < (l0.length : Int)) = true := decide_eq_true c9
        clear c9
        by_cases c10 : ((rd_T90 l0 x5_1).f1) > ((rd_T90 l0 a1).f1)
        ·rw [if_pos c10] at H
         have c10b0 : decide (((rd_T90 l0 a1).f1) < ((rd_T90 l0 x5_1).f1)) = true := decide_eq_true c10
         clear c10
         have H' := Aside0.mk H
         clear H
         have p474 : 0 ≤ (x5_1 : Int) := od_
         have q474 : x5_1 < (l0.length : Int) := od_
         obtain ⟨ad474, e474, hx474_0, hx474_1⟩ := at_T90 HR0.out x5_1 p474 q474
         cases e474
         replace hx474_0 := ce_ HB hx474_0
         replace hx474_1 := ce_ HB hx474_1
         replace p474 := eq_true p474
         replace q474 := eq_true q474
         have p475 : 0 ≤ (a1 : Int) := od_
         have q475 : a1 < (l0.length : Int) := od_
         obtain ⟨ad475, e475, hx475_0, hx475_1⟩ := at_T90 HR0.out a1 p475 q475
         obtain rfl : ad474 = ad475 := (by injection e475)
         replace hx475_0 := ce_ HB hx475_0
         replace hx475_1 := ce_ HB hx475_1
         replace p475 := eq_true p475
         replace q475 := eq_true q475
         go_wp2
         repeat (go_quiet (fail); try go_wp2)
         go_roundg k1
         case measure => have := HK1.out; omega
         case rel => exact ⟨(wrap64 (x5_1 + 1)), eb_, H', ⟨by have := HK1.out; omega⟩, bl_ HB⟩
        ·rw [if_neg c10] at H
         have c10b0 : decide (((rd_T90 l0 a1).f1) < ((rd_T90 l0 x5_1).f1)) = false := decide_eq_false c10
         clear c10
         obtain rfl := Option.some.inj H
         have p474 : 0 ≤ (x5_1 : Int) := od_
         have q474 : x5_1 < (l0.length : Int) := od_
         obtain ⟨ad474, e474, hx474_0, hx474_1⟩ := at_T90 HR0.out x5_1 p474 q474
         cases e474
         replace hx474_0 := ce_ HB hx474_0
         replace hx474_1 := ce_ HB hx474_1
         replace p474 := eq_true p474
         replace q474 := eq_true q474
         have p475 : 0 ≤ (a1 : Int) := od_
         have q475 : a1 < (l0.length : Int) := od_
         obtain ⟨ad475, e475, hx475_0, hx475_1⟩ := at_T90 HR0.out a1 p475 q475
         obtain rfl : ad474 = ad475 := (by injection e475)
         replace hx475_0 := ce_ HB hx475_0
         replace hx475_1 := ce_ HB hx475_1
         replace p475 := eq_true p475
         replace q475 := eq_true q475
         go_wp2
         repeat (go_quiet (fail); try go_wp2)
         go_ret
         exact ⟨ea_, (bl_ HB).out⟩
       ·rw [if_neg c9] at H
        exact absurd H (by simp)
      ·rw [if_neg c8] at H
       exact absurd H (by simp)
     ·rw [if_neg c7] at H
      exact absurd H (by simp)
    ·rw [if_neg c6] at H
     have c6b0 : decide (x5_1 < (l0.length : Int)) = false := decide_eq_false c6
     clear c6
     obtain rfl := Option.some.inj H
     go_wp2
     repeat (go_quiet (fail); try go_wp2)
     go_ret
     exact ⟨ea_, (bl_ HB).out⟩
 ·replace c4 := Bool.eq_false_iff.mpr c4
  subst c4
  have H1 : (some (-1)) = some r := by rw [if_neg (show ¬ (false = true) by decide)] at H; exact H
  clear H
  have H := H1
  clear H1
  obtain rfl := Option.some.inj H
  go_enter Try.func100, Try.ntmps100
  go_wp2_with (first | (go_at_call 114; (with_reducible refine (spec_l3At.calls k _ _ l0 a1 false _ (cc_ HR0.out) HC0.out A3.out).mono ?_); rintro e w11 ⟨rfl, hb⟩; replace HB := tB_ HB hb; (try clear hb)))
  repeat (go_quiet (first | (go_at_call 114; (with_reducible refine (spec_l3At.calls k _ _ l0 a1 false _ (cc_ HR0.out) HC0.out A3.out).mono ?_); rintro e w11 ⟨rfl, hb⟩; replace HB := tB_ HB hb; (try clear hb))); try go_wp2_with (first | (go_at_call 114; (with_reducible refine (spec_l3At.calls k _ _ l0 a1 false _ (cc_ HR0.out) HC0.out A3.out).mono ?_); rintro e w11 ⟨rfl, hb⟩; replace HB := tB_ HB hb; (try clear hb))))
  go_ret
  exact ⟨ea_, (bl_ HB).out⟩
end Go.Proofs.Ytbifdckfglejkaa.X
namespace Go.Proofs.Ytbifdckfglejkaa.X
open Go.RowKit Go.Proofs.YtbifdckfglejkaaW.PrintWords Go.Proofs.YtbifdckfglejkaaW.PrintLast Go.Proofs.YtbifdckfglejkaaW.PrintMore
attribute [local go_sem] max2_int min2_int max_two min_two max_three min_three max_four min_four   -- for this text's walks alone
set_option linter.unusedVariables false
set_option linter.unusedSimpArgs false
mutual
def spec_KidsOf.l0 : Nat → List (S90) → Int → List Int → Int → Option (List Int)
 | 0, _, _, _, _ => none
 | k + 1, x0, x1, x5, x6 => (spec_l3At.f k x0 x1).bind fun t827 => (if t827 = true then ((spec_EndOf.f k x0 x1).bind fun t828 => (spec_KidsOf.j1 k x0 x1 x5 x6 (decide (x6 < t828)))) else (spec_KidsOf.j1 k x0 x1 x5 x6 false))
def spec_KidsOf.j1 : Nat → List (S90) → Int → List Int → Int → Bool → Option (List Int)
 | 0, _, _, _, _, _ => none
 | k + 1, x0, x1, x5, x6, x19 => if x19 = true then (if 0 ≤ x6 then (if x6 < (x0.length : Int) then (if 0 ≤ x1 then (if x1 < (x0.length : Int) then (if ((rd_T90 x0 x6).f1) = (wrap64 (((rd_T90 x0 x1).f1) + 1)) then (if x5.length < 17592186044416 then (spec_KidsOf.l0 k x0 x1 (x5 ++ [x6]) (wrap64 (x6 + 1))) else (none)) else (spec_KidsOf.l0 k x0 x1 x5 (wrap64 (x6 + 1)))) else (none)) else (none)) else (none)) else (none)) else (some x5)
end
def spec_KidsOf.f (k : Nat) (l0 : List (S90)) (a1 : Int) : Option (List Int) := spec_KidsOf.l0 k l0 a1 (([] : List Int)) (wrap64 (a1 + 1))
set_option maxHeartbeats 8000000 in
set_option maxRecDepth 100000 in
theorem spec_KidsOf.calls (k : Nat) (A0 : Option Addr) (c0 : Nat) (l0 : List (S90)) (a1 : Int) (r : List Int) (w : World) (hr0 : Kd.C k90 w A0 l0.length l0) (hc0 : l0.length ≤ c0) (h : spec_KidsOf.f k l0 a1 = some r) :
  Calls Try.prog 61 #[.slice A0 l0.length c0, .int .i64 a1] w fun e w' => ∃ v0_ : Value, e = .returned (v0_) ∧ Kd.R (Kd.int .i64) 3 w' w.heap.size (fun _ => True) v0_ r ∧ Below w.heap.size w w' := by
 have HR0 := Aside0.mk hr0
 have HC0 := Aside0.mk hc0
 clear hr0 hc0
 have HB := Aside0.mk (Below.refl w.heap.size w)
 have H : (spec_KidsOf.l0 k l0 a1 (([] : List Int)) (wrap64 (a1 + 1))) = some r := h
 clear h
 obtain ⟨y824, hy824⟩ : ∃ y_ : List Int, y_ = (([] : List Int)) := ⟨_, rfl⟩
 replace H : (spec_KidsOf.l0 k l0 a1 y824 (wrap64 (a1 + 1))) = some r := by first | (rw [hy824]; with_reducible exact H) | (have H2_ := (Option.bind_some _ _).symm.trans H; rw [hy824]; with_reducible exact H2_) | (have H2_ := (Option.bind_some _ _).symm.trans H; with_reducible exact H2_) | with_reducible exact H | (rw [hy824]; exact H) | exact H
 have Ny824 := Aside0.mk hy824
 clear hy824
 have H' := Aside0.mk H
 clear H
 go_enter Try.func61, Try.ntmps61
 go_wp2_with (first | ((with_reducible refine gate_dst (N := 7) rfl ?_); refine Kd.R_lit (Kd.int .i64) _ 3 ?hg (N := 7) ?hd (xs := ([] : List Int)) (inner := []) (ok := fun _ => True) (okp := fun _ => True) ?hr ?hp (fun _ hk => hk) trivial (Below.refl _ _) (Nat.le_refl _) (by simp) ?_; (case hd => rfl); (case hg => rfl); (case hr => first | (go_simp; done) | (go_simp; rfl)); (case hp => exact (Reps.none _ _)); intro v825 w3 ho4 hb hg_ hnew_; clear hg_ hnew_; (first | rw [← Ny824.out] at ho4 | (simp only [Int.reduceToNat] at ho4; rw [← Ny824.out] at ho4)); have HO826 := Aside0.mk (Kd.R_lower ho4 (bs_ HB)); replace HB := tB_ HB hb; clear hb ho4))
 repeat (go_quiet (first | ((with_reducible refine gate_dst (N := 7) rfl ?_); refine Kd.R_lit (Kd.int .i64) _ 3 ?hg (N := 7) ?hd (xs := ([] : List Int)) (inner := []) (ok := fun _ => True) (okp := fun _ => True) ?hr ?hp (fun _ hk => hk) trivial (Below.refl _ _) (Nat.le_refl _) (by simp) ?_; (case hd => rfl); (case hg => rfl); (case hr => first | (go_simp; done) | (go_simp; rfl)); (case hp => exact (Reps.none _ _)); intro v825 w3 ho4 hb hg_ hnew_; clear hg_ hnew_; (first | rw [← Ny824.out] at ho4 | (simp only [Int.reduceToNat] at ho4; rw [← Ny824.out] at ho4)); have HO826 := Aside0.mk (Kd.R_lower ho4 (bs_ HB)); replace HB := tB_ HB hb; clear hb ho4)); try go_wp2_with (first | ((with_reducible refine gate_dst (N := 7) rfl ?_); refine Kd.R_lit (Kd.int .i64) _ 3 ?hg (N := 7) ?hd (xs := ([] : List Int)) (inner := []) (ok := fun _ => True) (okp := fun _ => True) ?hr ?hp (fun _ hk => hk) trivial (Below.refl _ _) (Nat.le_refl _) (by simp) ?_; (case hd => rfl); (case hg => rfl); (case hr => first | (go_simp; done) | (go_simp; rfl)); (case hp => exact (Reps.none _ _)); intro v825 w3 ho4 hb hg_ hnew_; clear hg_ hnew_; (first | rw [← Ny824.out] at ho4 | (simp only [Int.reduceToNat] at ho4; rw [← Ny824.out] at ho4)); have HO826 := Aside0.mk (Kd.R_lower ho4 (bs_ HB)); replace HB := tB_ HB hb; clear hb ho4)))
 go_loopg [5, 6] k (fun kq v5 v6 w' => ∃ (x5_1 : List Int) (x6_1 : Int), v6 = .int .i64 x6_1 ∧ Aside0 (spec_KidsOf.l0 kq l0 a1 x5_1 x6_1 = some r) ∧ Aside0 (kq ≤ k) ∧ Aside0 (Kd.R (Kd.int .i64) 3 w' w.heap.size (fun _ => True) v5 x5_1) ∧ Aside0 (Below w.heap.size w w'))
 case atStart => exact ⟨(y824), (wrap64 (a1 + 1)), eb_, H', ⟨Nat.le_refl _⟩, ⟨rx_ HO826.out⟩, bl_ HB⟩
 case round =>
  clear H'
  try clear p2
  obtain ⟨x5_1, x6_1, rfl, HA, HK1, HO_5, HB⟩ := hrel
  cases gk with
  | zero => exact absurd HA.out (by simp [spec_KidsOf.l0])
  | succ k1 =>
   have H := HA.out
   clear HA
   simp only [spec_KidsOf.l0] at H
   have HC5 := Aside0.mk H
   clear H
   go_upto_region 3 with (fail)
   repeat (go_quiet (fail); go_upto_region 3 with (fail))
   go_cut [19] (fun v19 wc => ∃ (kq : Nat) (x19_4 : Bool), v19 = .bool x19_4 ∧ Aside0 (spec_KidsOf.j1 kq l0 a1 x5_1 x6_1 x19_4 = some r) ∧ Aside0 (kq ≤ k1) ∧ Aside0 (Kd.R (Kd.int .i64) 3 wc w.heap.size (fun _ => True) u5 x5_1) ∧ Aside0 (Below w.heap.size w wc))
   case first =>
    have H := HC5.out
    clear HC5
    replace H := Option.bind_eq_some_iff.mp H
    obtain ⟨t827, A60, H⟩ := H
    try dsimp only at H
    have A6 := Aside0.mk A60
    clear A60
    by_cases c7 : t827 = true
    ·subst c7
     have H1 : ((spec_EndOf.f k1 l0 a1).bind fun t828 => (spec_KidsOf.j1 k1 l0 a1 x5_1 x6_1 (decide (x6_1 < t828)))) = some r := by rw [if_pos rfl] at H; exact H
     clear H
     have H := H1
     clear H1
     replace H := Option.bind_eq_some_iff.mp H
     obtain ⟨t828, A80, H⟩ := H
     replace H : (spec_KidsOf.j1 k1 l0 a1 x5_1 x6_1 (decide (x6_1 < t828))) = some r := H
     have A8 := Aside0.mk A80
     clear A80
     have H' := Aside0.mk H
     clear H
     go_wp2_with (first | (go_at_call 114; (with_reducible refine (spec_l3At.calls k1 _ _ l0 a1 true _ (cx_ HR0 HB) HC0.out A6.out).mono ?_); rintro e w9 ⟨rfl, hb⟩; replace HO_5 := tR_ HO_5 hb; replace HB := tB_ HB hb; (try clear hb)) | (go_at_call 100; (with_reducible refine (spec_EndOf.calls k1 _ _ l0 a1 t828 _ (cx_ HR0 HB) HC0.out A8.out).mono ?_); rintro e w10 ⟨rfl, hb⟩; replace HO_5 := tR_ HO_5 hb; replace HB := tB_ HB hb; (try clear hb)))
     repeat (go_quiet (first | (go_at_call 114; (with_reducible refine (spec_l3At.calls k1 _ _ l0 a1 true _ (cx_ HR0 HB) HC0.out A6.out).mono ?_); rintro e w9 ⟨rfl, hb⟩; replace HO_5 := tR_ HO_5 hb; replace HB := tB_ HB hb; (try clear hb)) | (go_at_call 100; (with_reducible refine (spec_EndOf.calls k1 _ _ l0 a1 t828 _ (cx_ HR0 HB) HC0.out A8.out).mono ?_); rintro e w10 ⟨rfl, hb⟩; replace HO_5 := tR_ HO_5 hb; replace HB := tB_ HB hb; (try clear hb))); try go_wp2_with (first | (go_at_call 114; (with_reducible refine (spec_l3At.calls k1 _ _ l0 a1 true _ (cx_ HR0 HB) HC0.out A6.out).mono ?_); rintro e w9 ⟨rfl, hb⟩; replace HO_5 := tR_ HO_5 hb; replace HB := tB_ HB hb; (try clear hb)) | (go_at_call 100; (with_reducible refine (spec_EndOf.calls k1 _ _ l0 a1 t828 _ (cx_ HR0 HB) HC0.out A8.out).mono ?_); rintro e w10 ⟨rfl, hb⟩; replace HO_5 := tR_ HO_5 hb; replace HB := tB_ HB hb; (try clear hb))))
     go_meet
     case rel => exact ⟨_, (decide (x6_1 < t828)), eb_, H', ⟨by have := HK1.out; first | omega | exact Nat.le_refl _⟩, ⟨rx_ HO_5.out⟩, bl_ HB⟩
    ·replace c7 := Bool.eq_false_iff.mpr c7
     subst c7
     have H1 : (spec_KidsOf.j1 k1 l0 a1 x5_1 x6_1 false) = some r := by rw [if_neg (show ¬ (false = true) by decide)] at H; exact H
     clear H
     have H := H1
     clear H1
     have H' := Aside0.mk H
     clear H
     go_wp2_with (first | (go_at_call 114; (with_reducible refine (spec_l3At.calls k1 _ _ l0 a1 false _ (cx_ HR0 HB) HC0.out A6.out).mono ?_); rintro e w11 ⟨rfl, hb⟩; replace HO_5 := tR_ HO_5 hb; replace HB := tB_ HB hb; (try clear hb)))
     repeat (go_quiet (first | (go_at_call 114; (with_reducible refine (spec_l3At.calls k1 _ _ l0 a1 false _ (cx_ HR0 HB) HC0.out A6.out).mono ?_); rintro e w11 ⟨rfl, hb⟩; replace HO_5 := tR_ HO_5 hb; replace HB := tB_ HB hb; (try clear hb))); try go_wp2_with (first | (go_at_call 114; (with_reducible refine (spec_l3At.calls k1 _ _ l0 a1 false _ (cx_ HR0 HB) HC0.out A6.out).mono ?_); rintro e w11 ⟨rfl, hb⟩; replace HO_5 := tR_ HO_5 hb; replace HB := tB_ HB hb; (try clear hb))))
     go_meet
     case rel => exact ⟨_, (false), eb_, H', ⟨by have := HK1.out; first | omega | exact Nat.le_refl _⟩, ⟨rx_ HO_5.out⟩, bl_ HB⟩
   case rest =>
    clear HC5
    try clear p2
    try clear c6
    try clear p6
    try clear c7
    try clear p2
    obtain ⟨kq, x19_4, rfl, HA, HJ4, HO_5, HB⟩ := hcut
    cases kq with
    | zero => exact absurd HA.out (by simp [spec_KidsOf.j1])
    | succ kj4 =>
     have H := HA.out
     clear HA
     simp only [spec_KidsOf.j1] at H
     by_cases c12 : x19_4 = true
     ·subst c12
      have H1 : (if 0 ≤ x6_1 then (if x6_1 < (l0.length : Int) then (if 0 ≤ a1 then (if a1 < (l0.length : Int) then (if ((rd_T90 l0 x6_1).f1) = (wrap64 (((rd_T90 l0 a1).f1) + 1)) then (if x5_1.length < 17592186044416 then (spec_KidsOf.l0 kj4 l0 a1 (x5_1 ++ [x6_1]) (wrap64 (x6_1 + 1))) else (none)) else (spec_KidsOf.l0 kj4 l0 a1 x5_1 (wrap64 (x6_1 + 1)))) else (none)) else (none)) else (none)) else (none)) = some r := by rw [if_pos rfl] at H; exact H
      clear H
      have H := H1
      clear H1
      by_cases c13 : 0 ≤ x6_1
      ·rw [if_pos c13] at H
       have c13b0 : decide (0 ≤ x6_1) = true := decide_eq_true c13
       clear c13
       by_cases c14 : x6_1 < (l0.length : Int)
       ·rw [if_pos c14] at H
        have c14b0 : decide (x6_1 < (l0.length : Int)) = true := decide_eq_true c14
        clear c14
        by_cases c15 : 0 ≤ a1
        ·rw [if_pos c15] at H
         have c15b0 : decide (0 ≤ a1) = true := decide_eq_true c15
         clear c15
         by_cases c16 : a1 < (l0.length : Int)
         ·rw [if_pos c16] at H
          have c16b0 : decide (a1 < (l0.length : Int)) = true := decide_eq_true c16
          clear c16
          by_cases c17 : ((rd_T90 l0 x6_1).f1) = (wrap64 (((rd_T90 l0 a1).f1) + 1))
          ·rw [if_pos c17] at H
           have c17b0 : (((rd_T90 l0 x6_1).f1) == (wrap64 (((rd_T90 l0 a1).f1) + 1))) = true := beq_iff_eq.mpr c17
           have c17b1 : (((rd_T90 l0 x6_1).f1) != (wrap64 (((rd_T90 l0 a1).f1) + 1))) = false := bne_eq_false_iff_eq.mpr c17
           clear c17
           by_cases c18 : x5_1.length < 17592186044416
           ·rw [if_pos c18] at H
            have LMc18 := Aside0.mk c18
            clear c18
            obtain ⟨y831, hy831⟩ : ∃ y_ : List Int, y_ = (x5_1 ++ [x6_1]) := ⟨_, rfl⟩
            replace H : (spec_KidsOf.l0 kj4 l0 a1 y831 (wrap64 (x6_1 + 1))) = some r := by first | (rw [hy831]; with_reducible exact H) | (have H2_ := (Option.bind_some _ _).symm.trans H; rw [hy831]; with_reducible exact H2_) | (have H2_ := (Option.bind_some _ _).symm.trans H; with_reducible exact H2_) | with_reducible exact H | (rw [hy831]; exact H) | exact H
            have Ny831 := Aside0.mk hy831
            clear hy831
            have H' := Aside0.mk H
            clear H
            have p829 : 0 ≤ (x6_1 : Int) := od_
            have q829 : x6_1 < (l0.length : Int) := od_
            obtain ⟨ad829, e829, hx829_0, hx829_1⟩ := at_T90 HR0.out x6_1 p829 q829
            cases e829
            replace hx829_0 := ce_ HB hx829_0
            replace hx829_1 := ce_ HB hx829_1
            replace p829 := eq_true p829
            replace q829 := eq_true q829
            have p830 : 0 ≤ (a1 : Int) := od_
            have q830 : a1 < (l0.length : Int) := od_
            obtain ⟨ad830, e830, hx830_0, hx830_1⟩ := at_T90 HR0.out a1 p830 q830
            obtain rfl : ad829 = ad830 := (by injection e830)
            replace hx830_0 := ce_ HB hx830_0
            replace hx830_1 := ce_ HB hx830_1
            replace p830 := eq_true p830
            replace q830 := eq_true q830
            go_wp2_with (first | ((with_reducible refine gate_builtin (b := .append) (xs := #[.tmp 34, .tmp 36]) rfl ?_); at_builtin; refine Kd.R_append (Kd.int .i64) (w0 := w) w.heap.size rfl (.tmp 34) (.tmp 36) 39 3 (.int .i64 0) 8 rfl Try.underlying39 info3 rfl (by decide) (by omega) u5 x5_1 x6_1 [.int .i64 x6_1] (fun _ => True) (fun _ => False) rfl rfl ?aP (fun _ hk => hk.elim) ?aF ?aO ?aB ?aS ?aL ?_; (case aP => exact rfl); (case aB => exact ((bl_ HB).out)); (case aF => exact (fun _ _ => trivial)); (case aO => exact (rx_ HO_5.out)); (case aS => exact (bs_ HB)); (case aL => have := LMc18.out; omega); intro v832 w19 ho hb hg hat; rw [← Ny831.out] at ho; replace HB := Aside0.mk (hb); have HO833 := Aside0.mk (ho); clear HO_5; clear ho hb hg hat))
            repeat (go_quiet (first | ((with_reducible refine gate_builtin (b := .append) (xs := #[.tmp 34, .tmp 36]) rfl ?_); at_builtin; refine Kd.R_append (Kd.int .i64) (w0 := w) w.heap.size rfl (.tmp 34) (.tmp 36) 39 3 (.int .i64 0) 8 rfl Try.underlying39 info3 rfl (by decide) (by omega) u5 x5_1 x6_1 [.int .i64 x6_1] (fun _ => True) (fun _ => False) rfl rfl ?aP (fun _ hk => hk.elim) ?aF ?aO ?aB ?aS ?aL ?_; (case aP => exact rfl); (case aB => exact ((bl_ HB).out)); (case aF => exact (fun _ _ => trivial)); (case aO => exact (rx_ HO_5.out)); (case aS => exact (bs_ HB)); (case aL => have := LMc18.out; omega); intro v832 w19 ho hb hg hat; rw [← Ny831.out] at ho; replace HB := Aside0.mk (hb); have HO833 := Aside0.mk (ho); clear HO_5; clear ho hb hg hat)); try go_wp2_with (first | ((with_reducible refine gate_builtin (b := .append) (xs := #[.tmp 34, .tmp 36]) rfl ?_); at_builtin; refine Kd.R_append (Kd.int .i64) (w0 := w) w.heap.size rfl (.tmp 34) (.tmp 36) 39 3 (.int .i64 0) 8 rfl Try.underlying39 info3 rfl (by decide) (by omega) u5 x5_1 x6_1 [.int .i64 x6_1] (fun _ => True) (fun _ => False) rfl rfl ?aP (fun _ hk => hk.elim) ?aF ?aO ?aB ?aS ?aL ?_; (case aP => exact rfl); (case aB => exact ((bl_ HB).out)); (case aF => exact (fun _ _ => trivial)); (case aO => exact (rx_ HO_5.out)); (case aS => exact (bs_ HB)); (case aL => have := LMc18.out; omega); intro v832 w19 ho hb hg hat; rw [← Ny831.out] at ho; replace HB := Aside0.mk (hb); have HO833 := Aside0.mk (ho); clear HO_5; clear ho hb hg hat)))
            go_roundg kj4
            case measure => have := HK1.out; have := HJ4.out; omega
            case rel => exact ⟨(y831), (wrap64 (x6_1 + 1)), eb_, H', ⟨by have := HK1.out; have := HJ4.out; omega⟩, ⟨rx_ HO833.out⟩, bl_ HB⟩
           ·rw [if_neg c18] at H
            exact absurd H (by simp)
          ·rw [if_neg c17] at H
           have c17b0 : (((rd_T90 l0 x6_1).f1) == (wrap64 (((rd_T90 l0 a1).f1) + 1))) = false := beq_eq_false_iff_ne.mpr c17
           have c17b1 : (((rd_T90 l0 x6_1).f1) != (wrap64 (((rd_T90 l0 a1).f1) + 1))) = true := bne_iff_ne.mpr c17
           have H' := Aside0.mk H
           clear H
           have p829 : 0 ≤ (x6_1 : Int) := od_
           have q829 : x6_1 < (l0.length : Int) := od_
           obtain ⟨ad829, e829, hx829_0, hx829_1⟩ := at_T90 HR0.out x6_1 p829 q829
           cases e829
           replace hx829_0 := ce_ HB hx829_0
           replace hx829_1 := ce_ HB hx829_1
           replace p829 := eq_true p829
           replace q829 := eq_true q829
           have p830 : 0 ≤ (a1 : Int) := od_
           have q830 : a1 < (l0.length : Int) := od_
           obtain ⟨ad830, e830, hx830_0, hx830_1⟩ := at_T90 HR0.out a1 p830 q830
           obtain rfl : ad829 = ad830 := (by injection e830)
           replace hx830_0 := ce_ HB hx830_0
           replace hx830_1 := ce_ HB hx830_1
           replace p830 := eq_true p830
           replace q830 := eq_true q830
           go_wp2
           repeat (go_quiet (fail); try go_wp2)
           go_roundg kj4
           case measure => have := HK1.out; have := HJ4.out; omega
           case rel => exact ⟨(x5_1), (wrap64 (x6_1 + 1)), eb_, H', ⟨by have := HK1.out; have := HJ4.out; omega⟩, ⟨rx_ HO_5.out⟩, bl_ HB⟩
         ·rw [if_neg c16] at H
          exact absurd H (by simp)
        ·rw [if_neg c15] at H
         exact absurd H (by simp)
       ·rw [if_neg c14] at H
        exact absurd H (by simp)
      ·rw [if_neg c13] at H
       exact absurd H (by simp)
     ·replace c12 := Bool.eq_false_iff.mpr c12
      subst c12
      have H1 : (some x5_1) = some r := by rw [if_neg (show ¬ (false = true) by decide)] at H; exact H
      clear H
      have H := H1
      clear H1
      obtain rfl := Option.some.inj H
      go_wp2
      repeat (go_quiet (fail); try go_wp2)
      go_ret
      exact ⟨_, ea_, rx_ HO_5.out, (bl_ HB).out⟩
end Go.Proofs.Ytbifdckfglejkaa.X
namespace Go.Proofs.Ytbifdckfglejkaa.X
open Go.RowKit Go.Proofs.YtbifdckfglejkaaW.PrintWords Go.Proofs.YtbifdckfglejkaaW.PrintLast Go.Proofs.YtbifdckfglejkaaW.PrintMore
attribute [local go_sem] max2_int min2_int max_two min_two max_three min_three max_four min_four   -- for this text's walks alone
set_option linter.unusedVariables false
set_option linter.unusedSimpArgs false
def spec_NodeAt.l0 : Nat → List (S90) → List Int → Int → Int → Option (Int)
 | 0, _, _, _, _ => none
 | k + 1, x0, x1, x5, x6 => if x6 < (x1.length : Int) then ((spec_KidsOf.f k x0 x5).bind fun t835 => (if 0 ≤ x6 then ((spec_l1In.f (rd x1 x6) 0 (wrap64 ((t835.length : Int) - 1))).bind fun t839 => (if t839 = true then (if 0 ≤ (rd x1 x6) then (if (rd x1 x6) < (t835.length : Int) then (spec_NodeAt.l0 k x0 x1 (rd t835 (rd x1 x6)) (wrap64 (x6 + 1))) else (none)) else (none)) else (some (-1)))) else (none))) else (some x5)
def spec_NodeAt.f (k : Nat) (l0 : List (S90)) (l1 : List Int) : Option (Int) := (spec_TreeOk.f k l0).bind fun t834 => (if t834 = true then (spec_NodeAt.l0 k l0 l1 0 0) else (some (-1)))
set_option maxHeartbeats 8000000 in
set_option maxRecDepth 100000 in
theorem spec_NodeAt.calls (k : Nat) (A0 : Option Addr) (c0 : Nat) (l0 : List (S90)) (A1 : Option Addr) (c1 : Nat) (l1 : List Int) (r : Int) (w : World) (hr0 : Kd.C k90 w A0 l0.length l0) (hc0 : l0.length ≤ c0) (hr1 : Kd.C (Kd.int .i64) w A1 l1.length l1) (hc1 : l1.length ≤ c1) (h : spec_NodeAt.f k l0 l1 = some r) :
  Calls Try.prog 60 #[.slice A0 l0.length c0, .slice A1 l1.length c1] w fun e w' => e = .returned (.int .i64 r) ∧ Below w.heap.size w w' := by
 have HR0 := Aside0.mk hr0
 have HC0 := Aside0.mk hc0
 clear hr0 hc0
 have HR1 := Aside0.mk hr1
 have HC1 := Aside0.mk hc1
 clear hr1 hc1
 have HB := Aside0.mk (Below.refl w.heap.size w)
 have H : ((spec_TreeOk.f k l0).bind fun t834 => (if t834 = true then (spec_NodeAt.l0 k l0 l1 0 0) else (some (-1)))) = some r := h
 clear h
 replace H := Option.bind_eq_some_iff.mp H
 obtain ⟨t834, A30, H⟩ := H
 replace H : (if t834 = true then (spec_NodeAt.l0 k l0 l1 0 0) else (some (-1))) = some r := H
 have A3 := Aside0.mk A30
 clear A30
 by_cases c4 : t834 = true
 ·subst c4
  have H1 : (spec_NodeAt.l0 k l0 l1 0 0) = some r := by rw [if_pos rfl] at H; exact H
  clear H
  have H := H1
  clear H1
  have H' := Aside0.mk H
  clear H
  go_enter Try.func60, Try.ntmps60
  go_wp2_with (first | ((with_reducible refine gate_callee (f := 64) rfl ?_); refine gL_ (some 9) Try.func64 #[.slice A0 l0.length c0] ?_; (with_reducible refine (spec_TreeOk.calls k _ _ l0 true _ (cc_ HR0.out) HC0.out A3.out).mono ?_); rintro e w5 ⟨rfl, hb⟩; refine ⟨_, rfl, ?_⟩; replace HB := tB_ HB hb; (try clear hb)))
  go_loopg [5, 6] k (fun kq v5 v6 w' => ∃ (x5_1 : Int) (x6_1 : Int), v5 = .int .i64 x5_1 ∧ v6 = .int .i64 x6_1 ∧ Aside0 (spec_NodeAt.l0 kq l0 l1 x5_1 x6_1 = some r) ∧ Aside0 (kq ≤ k) ∧ Aside0 (Below w.heap.size w w'))
  case atStart => exact ⟨(0), (0), eb_, eb_, H', ⟨Nat.le_refl _⟩, bl_ HB⟩
  case round =>
   clear H'
   try clear c1
   try clear p2
   try clear c4
   obtain ⟨x5_1, x6_1, rfl, rfl, HA, HK1, HB⟩ := hrel
   cases gk with
   | zero => exact absurd HA.out (by simp [spec_NodeAt.l0])
   | succ k1 =>
    have H := HA.out
    clear HA
    simp only [spec_NodeAt.l0] at H
    by_cases c6 : x6_1 < (l1.length : Int)
    ·rw [if_pos c6] at H
     have c6b0 : decide (x6_1 < (l1.length : Int)) = true := decide_eq_true c6
     clear c6
     replace H := Option.bind_eq_some_iff.mp H
     obtain ⟨t835, A70, H⟩ := H
     try dsimp only at H
     have A7 := Aside0.mk A70
     clear A70
     by_cases c8 : 0 ≤ x6_1
     ·rw [if_pos c8] at H
      have c8b0 : decide (0 ≤ x6_1) = true := decide_eq_true c8
      clear c8
      replace H := Option.bind_eq_some_iff.mp H
      obtain ⟨t839, A90, H⟩ := H
      try dsimp only at H
      have A9 := Aside0.mk A90
      clear A90
      by_cases c10 : t839 = true
      ·subst c10
       have H1 : (if 0 ≤ (rd l1 x6_1) then (if (rd l1 x6_1) < (t835.length : Int) then (spec_NodeAt.l0 k1 l0 l1 (rd t835 (rd l1 x6_1)) (wrap64 (x6_1 + 1))) else (none)) else (none)) = some r := by rw [if_pos rfl] at H; exact H
       clear H
       have H := H1
       clear H1
       by_cases c11 : 0 ≤ (rd l1 x6_1)
       ·rw [if_pos c11] at H
        have c11b0 : decide (0 ≤ (rd l1 x6_1)) = true := decide_eq_true c11
        clear c11
        by_cases c12 : (rd l1 x6_1) < (t835.length : Int)
        ·rw [if_pos c12] at H
         have c12b0 : decide ((rd l1 x6_1) < (t835.length : Int)) = true := decide_eq_true c12
         clear c12
         have H' := Aside0.mk H
         clear H
         go_wp2_with (first | ((with_reducible refine gate_callee (f := 61) rfl ?_); refine gL_ (some 19) Try.func61 #[.slice A0 l0.length c0, .int .i64 x5_1] ?_; (with_reducible refine (spec_KidsOf.calls k1 _ _ l0 x5_1 t835 _ (cx_ HR0 HB) HC0.out A7.out).mono ?_); rintro e w13 ⟨v836, rfl, ho0, hb⟩; refine ⟨_, rfl, ?_⟩; have HO837 := Aside0.mk (Kd.R_lower ho0 (bs_ HB)); replace HB := tB_ HB hb; (try clear hb); (try clear ho0); have p838 : 0 ≤ (x6_1 : Int) := od_; have q838 : x6_1 < (l1.length : Int) := od_; obtain ⟨ad838, e838, hx838_0⟩ := Kd.at_int HR1.out x6_1 p838 q838; cases e838; replace hx838_0 := ce_ HB hx838_0; replace p838 := eq_true p838; replace q838 := eq_true q838; obtain ⟨Ao14, co14, eo14⟩ := Kd.R_slice HO837.out; subst eo14) | ((with_reducible refine gate_callee (f := 67) rfl ?_); refine gL_ (some 27) Try.func67 #[.int .i64 (rd l1 x6_1), .int .i64 0, .int .i64 (wrap64 ((t835.length : Int) - 1))] ?_; (with_reducible refine (spec_l1In.calls (rd l1 x6_1) 0 (wrap64 ((t835.length : Int) - 1)) true _ A9.out).mono ?_); rintro e w' ⟨rfl, ⟨nd, rfl⟩⟩; refine ⟨_, rfl, ?_⟩; have p840 : 0 ≤ (x6_1 : Int) := od_; have q840 : x6_1 < (l1.length : Int) := od_; obtain ⟨ad840, e840, hx840_0⟩ := Kd.at_int HR1.out x6_1 p840 q840; obtain rfl : ad838 = ad840 := (by injection e840); replace hx840_0 := ce_ HB hx840_0; replace p840 := eq_true p840; replace q840 := eq_true q840; have p841 : 0 ≤ ((rd l1 x6_1) : Int) := od_; have q841 : (rd l1 x6_1) < (t835.length : Int) := od_; obtain ⟨ad841, e841, hx841_0⟩ := Kd.at_int (Kd.R_reads' HO837.out).2.2 (rd l1 x6_1) p841 q841; cases e841; replace p841 := eq_true p841; replace q841 := eq_true q841))
         go_roundg k1
         case measure => have := HK1.out; omega
         case rel => exact ⟨(rd t835 (rd l1 x6_1)), (wrap64 (x6_1 + 1)), eb_, eb_, H', ⟨by have := HK1.out; omega⟩, bl_ HB⟩
        ·rw [if_neg c12] at H
         exact absurd H (by simp)
       ·rw [if_neg c11] at H
        exact absurd H (by simp)
      ·replace c10 := Bool.eq_false_iff.mpr c10
       subst c10
       have H1 : (some (-1)) = some r := by rw [if_neg (show ¬ (false = true) by decide)] at H; exact H
       clear H
       have H := H1
       clear H1
       obtain rfl := Option.some.inj H
       go_wp2_with (first | ((with_reducible refine gate_callee (f := 61) rfl ?_); refine gL_ (some 19) Try.func61 #[.slice A0 l0.length c0, .int .i64 x5_1] ?_; (with_reducible refine (spec_KidsOf.calls k1 _ _ l0 x5_1 t835 _ (cx_ HR0 HB) HC0.out A7.out).mono ?_); rintro e w15 ⟨v836, rfl, ho0, hb⟩; refine ⟨_, rfl, ?_⟩; have HO837 := Aside0.mk (Kd.R_lower ho0 (bs_ HB)); replace HB := tB_ HB hb; (try clear hb); (try clear ho0); have p838 : 0 ≤ (x6_1 : Int) := od_; have q838 : x6_1 < (l1.length : Int) := od_; obtain ⟨ad838, e838, hx838_0⟩ := Kd.at_int HR1.out x6_1 p838 q838; cases e838; replace hx838_0 := ce_ HB hx838_0; replace p838 := eq_true p838; replace q838 := eq_true q838; obtain ⟨Ao16, co16, eo16⟩ := Kd.R_slice HO837.out; subst eo16) | ((with_reducible refine gate_callee (f := 67) rfl ?_); refine gL_ (some 27) Try.func67 #[.int .i64 (rd l1 x6_1), .int .i64 0, .int .i64 (wrap64 ((t835.length : Int) - 1))] ?_; (with_reducible refine (spec_l1In.calls (rd l1 x6_1) 0 (wrap64 ((t835.length : Int) - 1)) false _ A9.out).mono ?_); rintro e w' ⟨rfl, ⟨nd, rfl⟩⟩; refine ⟨_, rfl, ?_⟩))
       go_ret
       exact ⟨ea_, (bl_ HB).out⟩
     ·rw [if_neg c8] at H
      exact absurd H (by simp)
    ·rw [if_neg c6] at H
     have c6b0 : decide (x6_1 < (l1.length : Int)) = false := decide_eq_false c6
     clear c6
     obtain rfl := Option.some.inj H
     go_wp2
     go_ret
     exact ⟨ea_, (bl_ HB).out⟩
 ·replace c4 := Bool.eq_false_iff.mpr c4
  subst c4
  have H1 : (some (-1)) = some r := by rw [if_neg (show ¬ (false = true) by decide)] at H; exact H
  clear H
  have H := H1
  clear H1
  obtain rfl := Option.some.inj H
  go_enter Try.func60, Try.ntmps60
  go_wp2_with (first | ((with_reducible refine gate_callee (f := 64) rfl ?_); refine gL_ (some 9) Try.func64 #[.slice A0 l0.length c0] ?_; (with_reducible refine (spec_TreeOk.calls k _ _ l0 false _ (cc_ HR0.out) HC0.out A3.out).mono ?_); rintro e w17 ⟨rfl, hb⟩; refine ⟨_, rfl, ?_⟩; replace HB := tB_ HB hb; (try clear hb)))
  go_ret
  exact ⟨ea_, (bl_ HB).out⟩
end Go.Proofs.Ytbifdckfglejkaa.X
namespace Go.Proofs.Ytbifdckfglejkaa.X
open Go.RowKit Go.Proofs.YtbifdckfglejkaaW.PrintWords Go.Proofs.YtbifdckfglejkaaW.PrintLast Go.Proofs.YtbifdckfglejkaaW.PrintMore
attribute [local go_sem] max2_int min2_int max_two min_two max_three min_three max_four min_four   -- for this text's walks alone
set_option linter.unusedVariables false
set_option linter.unusedSimpArgs false
def spec_l3Copy.f (l0 : List (S90)) : Option ((List (S90))) := (some (([] : List (S90)) : List (S90))).bind fun y842 => (if y842.length + l0.length < 8796093022208 then (some (y842 ++ l0)) else (none))
set_option maxHeartbeats 8000000 in
set_option maxRecDepth 100000 in
theorem spec_l3Copy.calls (A0 : Option Addr) (c0 : Nat) (l0 : List (S90)) (r : List (S90)) (w : World) (hr0 : Kd.C k90 w A0 l0.length l0) (hc0 : l0.length ≤ c0) (h : spec_l3Copy.f l0 = some r) :
  Calls Try.prog 98 #[.slice A0 l0.length c0] w fun e w' => ∃ v0_ : Value, e = .returned (v0_) ∧ Kd.R k90 90 w' w.heap.size (fun _ => True) v0_ r ∧ Below w.heap.size w w' := by
 have HR0 := Aside0.mk hr0
 have HC0 := Aside0.mk hc0
 clear hr0 hc0
 have HB := Aside0.mk (Below.refl w.heap.size w)
 have H : ((some (([] : List (S90)) : List (S90))).bind fun y842 => (if y842.length + l0.length < 8796093022208 then (some (y842 ++ l0)) else (none))) = some r := h
 clear h
 obtain ⟨y842, hy842⟩ : ∃ y_ : List (S90), y_ = (([] : List (S90))) := ⟨_, rfl⟩
 replace H : (if y842.length + l0.length < 8796093022208 then (some (y842 ++ l0)) else (none)) = some r := by first | (rw [hy842]; with_reducible exact H) | (have H2_ := (Option.bind_some _ _).symm.trans H; rw [hy842]; with_reducible exact H2_) | (have H2_ := (Option.bind_some _ _).symm.trans H; with_reducible exact H2_) | with_reducible exact H | (rw [hy842]; exact H) | exact H
 have Ny842 := Aside0.mk hy842
 clear hy842
 by_cases c2 : y842.length + l0.length < 8796093022208
 ·rw [if_pos c2] at H
  have LMc2 := Aside0.mk c2
  clear c2
  obtain ⟨y845, hy845⟩ : ∃ y_ : List (S90), y_ = (y842 ++ l0) := ⟨_, rfl⟩
  replace H : (some y845) = some r := by first | (rw [hy845]; with_reducible exact H) | (have H2_ := (Option.bind_some _ _).symm.trans H; rw [hy845]; with_reducible exact H2_) | (have H2_ := (Option.bind_some _ _).symm.trans H; with_reducible exact H2_) | with_reducible exact H | (rw [hy845]; exact H) | exact H
  have Ny845 := Aside0.mk hy845
  clear hy845
  obtain rfl := Option.some.inj H
  go_enter Try.func98, Try.ntmps98
  go_wp2_with (first | ((with_reducible refine gate_dst (N := 3) rfl ?_); refine Kd.R_lit k90 _ 90 ?hg (N := 3) ?hd (xs := ([] : List (S90))) (inner := []) (ok := fun _ => True) (okp := fun _ => True) ?hr ?hp (fun _ hk => hk) trivial (Below.refl _ _) (Nat.le_refl _) (by simp) ?_; (case hd => rfl); (case hg => rfl); (case hr => first | (go_simp; done) | (go_simp; rfl)); (case hp => exact (Reps.none _ _)); intro v843 w3 ho4 hb hg_ hnew_; clear hg_ hnew_; (first | rw [← Ny842.out] at ho4 | (simp only [Int.reduceToNat] at ho4; rw [← Ny842.out] at ho4)); have HO844 := Aside0.mk (Kd.R_lower ho4 (bs_ HB)); replace HB := tB_ HB hb; clear hb ho4) | ((with_reducible refine gate_builtin (b := .append) (xs := #[.tmp 3, .tmp 4]) rfl ?_); at_builtin; refine Kd.R_append_rows k90 (w0 := w) w.heap.size rfl (.tmp 3) (.tmp 4) 34 90 (.agg #[(.int .i64 0), (.int .i64 0)]) 16 rfl Try.underlying34 info90 rfl (by decide) (by omega) v843 y842 l0 _ _ _ (fun _ => True) (fun _ => False) rfl rfl ?aO ?aR (fun _ _ h => h) (fun _ h => h.elim) ?aF ?aB ?aS ?aL ?_; (case aR => exact cx_ HR0 HB); (case aB => exact ((bl_ HB).out)); (case aF => exact (fun _ _ => trivial)); (case aO => exact (rx_ HO844.out)); (case aS => exact (bs_ HB)); (case aL => have := LMc2.out; omega); intro v846 w5 ho hb hg hat; rw [← Ny845.out] at ho; replace HB := Aside0.mk (hb); have HO847 := Aside0.mk (ho); clear HO844; clear ho hb hg hat))
  go_ret
  exact ⟨_, ea_, rx_ HO847.out, (bl_ HB).out⟩
 ·rw [if_neg c2] at H
  exact absurd H (by simp)
end Go.Proofs.Ytbifdckfglejkaa.X
namespace Go.Proofs.Ytbifdckfglejkaa.X
open Go.RowKit Go.Proofs.YtbifdckfglejkaaW.PrintWords Go.Proofs.YtbifdckfglejkaaW.PrintLast Go.Proofs.YtbifdckfglejkaaW.PrintMore
attribute [local go_sem] max2_int min2_int max_two min_two max_three min_three max_four min_four   -- for this text's walks alone
set_option linter.unusedVariables false
set_option linter.unusedSimpArgs false
mutual
def spec_l13Code.j0 : Nat → List (S90) → Int → Bool → Int → List Int → Int → Int → Int → Option (Int × Int × Int)
 | 0, _, _, _, _, _, _, _, _ => none
 | k + 1, x0, x2, x22, x849000, x849001, x849002, x849003, x849004 => if x22 = true then (some (3, 0, 0)) else (if x849000 = 2 then (spec_l13Code.j1 k x0 x2 (x2 == 0) x849000 x849001 x849002 x849003 x849004) else (spec_l13Code.j1 k x0 x2 false x849000 x849001 x849002 x849003 x849004))
def spec_l13Code.j1 : Nat → List (S90) → Int → Bool → Int → List Int → Int → Int → Int → Option (Int × Int × Int)
 | 0, _, _, _, _, _, _, _, _ => none
 | k + 1, x0, x2, x32, x849000, x849001, x849002, x849003, x849004 => if x32 = true then (some (4, 0, 0)) else (if x849000 = 3 then ((spec_KidsOf.f k x0 x2).bind fun t851 => ((spec_l1In.f x849003 0 (t851.length : Int)).bind fun t854 => (if t854 = true then ((spec_l1In.f x849004 0 (wrap64 ((t851.length : Int) - x849003))).bind fun t855 => (spec_l13Code.j2 k x0 x2 t851 (!t855) x849000 x849001 x849002 x849003 x849004)) else (spec_l13Code.j2 k x0 x2 t851 true x849000 x849001 x849002 x849003 x849004)))) else (some (0, 0, 0)))
def spec_l13Code.j2 : Nat → List (S90) → Int → List Int → Bool → Int → List Int → Int → Int → Int → Option (Int × Int × Int)
 | 0, _, _, _, _, _, _, _, _, _ => none
 | k + 1, x0, x2, x9, x63, x849000, x849001, x849002, x849003, x849004 => if x63 = true then (some (5, 0, 0)) else ((spec_EndOf.f k x0 x2).bind fun t856 => (if x9.length < 17592186044416 then ((some (x9 ++ [t856] : List Int)).bind fun y857 => (if 0 ≤ x849003 then (if x849003 < (y857.length : Int) then (if 0 ≤ (wrap64 (x849003 + x849004)) then (if (wrap64 (x849003 + x849004)) < (y857.length : Int) then (if (x0.length : Int) = 24 then (some (6, 0, 0)) else (if 0 ≤ x2 then (if x2 < (x0.length : Int) then (spec_l13Code.l0 k x0 (rd y857 x849003) (rd y857 (wrap64 (x849003 + x849004))) (wrap64 (((rd_T90 x0 x2).f1) + 1)) (rd y857 x849003)) else (none)) else (none))) else (none)) else (none)) else (none)) else (none))) else (none)))
def spec_l13Code.l0 : Nat → List (S90) → Int → Int → Int → Int → Option (Int × Int × Int)
 | 0, _, _, _, _, _ => none
 | k + 1, x0, x10, x11, x12, x13 => if x13 < x11 then (if 0 ≤ x13 then (if x13 < (x0.length : Int) then (spec_l13Code.l0 k x0 x10 x11 (mx x12 (wrap64 (((rd_T90 x0 x13).f1) + 1))) (wrap64 (x13 + 1))) else (none)) else (none)) else (if x12 > 12 then (some (7, 0, 0)) else (some (0, x10, x11)))
end
def spec_l13Code.f (k : Nat) (l0 : List (S90)) (a1_0 : Int) (l1_1 : List Int) (a1_2 : Int) (a1_3 : Int) (a1_4 : Int) (a2 : Int) : Option (Int × Int × Int) := (spec_l1In.f a1_0 1 3).bind fun t849 => (if t849 = true then (if a2 < 0 then (some (2, 0, 0)) else (if a1_0 = 2 then (spec_l13Code.j0 k l0 a2 false a1_0 l1_1 a1_2 a1_3 a1_4) else ((spec_LabelOk.f a1_2).bind fun t850 => (spec_l13Code.j0 k l0 a2 (!t850) a1_0 l1_1 a1_2 a1_3 a1_4)))) else (some (1, 0, 0)))
set_option maxHeartbeats 8000000 in
set_option maxRecDepth 100000 in
theorem spec_l13Code.calls (k : Nat) (A0 : Option Addr) (c0 : Nat) (l0 : List (S90)) (a1_0 : Int) (A1_1 : Option Addr) (c1_1 : Nat) (l1_1 : List Int) (a1_2 : Int) (a1_3 : Int) (a1_4 : Int) (a2 : Int) (r1 : Int) (r2 : Int) (r3 : Int) (w : World) (hr0 : Kd.C k90 w A0 l0.length l0) (hc0 : l0.length ≤ c0) (hr1_1 : Kd.C (Kd.int .i64) w A1_1 l1_1.length l1_1) (hc1_1 : l1_1.length ≤ c1_1) (h : spec_l13Code.f k l0 a1_0 l1_1 a1_2 a1_3 a1_4 a2 = some (r1, r2, r3)) :
  Calls Try.prog 99 #[.slice A0 l0.length c0, .agg #[.int .i64 a1_0, .slice A1_1 l1_1.length c1_1, .int .i64 a1_2, .int .i64 a1_3, .int .i64 a1_4], .int .i64 a2] w fun e w' => e = .returned (.tuple #[.int .i64 r1, .int .i64 r2, .int .i64 r3]) ∧ Below w.heap.size w w' := by
 have hu67 := Try.underlying67
 have HR0 := Aside0.mk hr0
 have HC0 := Aside0.mk hc0
 clear hr0 hc0
 have HR1_1 := Aside0.mk hr1_1
 have HC1_1 := Aside0.mk hc1_1
 clear hr1_1 hc1_1
 have HB := Aside0.mk (Below.refl w.heap.size w)
 have H : ((spec_l1In.f a1_0 1 3).bind fun t849 => (if t849 = true then (if a2 < 0 then (some (2, 0, 0)) else (if a1_0 = 2 then (spec_l13Code.j0 k l0 a2 false a1_0 l1_1 a1_2 a1_3 a1_4) else ((spec_LabelOk.f a1_2).bind fun t850 => (spec_l13Code.j0 k l0 a2 (!t850) a1_0 l1_1 a1_2 a1_3 a1_4)))) else (some (1, 0, 0)))) = some (r1, r2, r3) := h
 clear h
 replace H := Option.bind_eq_some_iff.mp H
 obtain ⟨t849, A40, H⟩ := H
 try dsimp only at H
 have A4 := Aside0.mk A40
 clear A40
 by_cases c5 : t849 = true
 ·subst c5
  have H1 : (if a2 < 0 then (some (2, 0, 0)) else (if a1_0 = 2 then (spec_l13Code.j0 k l0 a2 false a1_0 l1_1 a1_2 a1_3 a1_4) else ((spec_LabelOk.f a1_2).bind fun t850 => (spec_l13Code.j0 k l0 a2 (!t850) a1_0 l1_1 a1_2 a1_3 a1_4)))) = some (r1, r2, r3) := by rw [if_pos rfl] at H; exact H
  clear H
  have H := H1
  clear H1
  by_cases c6 : a2 < 0
  ·rw [if_pos c6] at H
   have c6b0 : decide (a2 < 0) = true := decide_eq_true c6
   clear c6
   simp only [Option.some.injEq, Prod.mk.injEq] at H
   obtain ⟨rfl, rfl, rfl⟩ := H
   go_enter Try.func99, Try.ntmps99
   go_wp2_with (first | ((with_reducible refine gate_dst (N := 4) rfl ?_); (try (refine gate_guard (by rfl) ?_; dsimp only)); refine bx_ 4 #[.int .i64 a1_0, .slice A1_1 l1_1.length c1_1, .int .i64 a1_2, .int .i64 a1_3, .int .i64 a1_4] 67 ?_; intro gb848 hg w7 hbox hb; have BK848 := Aside0.mk (hbox); have GW848 := Aside0.mk ((by rw [hg]; exact (bs_ HB) : w.heap.size ≤ gb848)); have GE848 := Aside0.mk ((by rw [hg]; exact (bs_ HB) : w.heap.size ≤ gb848)); replace HB := tB_ HB hb; clear hb hbox hg; obtain ⟨hcz8_0, hcz8_1, hcz8_2, hcz8_3, hcz8_4, hfz8_0, hfz8_1, hfz8_2, hfz8_3, hfz8_4⟩ := bk5_ BK848) | ((with_reducible refine gate_callee (f := 67) rfl ?_); refine gL_ (some 17) Try.func67 #[.int .i64 a1_0, .int .i64 1, .int .i64 3] ?_; (with_reducible refine (spec_l1In.calls a1_0 1 3 true _ A4.out).mono ?_); rintro e w' ⟨rfl, ⟨nd, rfl⟩⟩; refine ⟨_, rfl, ?_⟩))
   go_ret3
   exact ⟨ea_, (bl_ HB).out⟩
  ·rw [if_neg c6] at H
   have c6b0 : decide (a2 < 0) = false := decide_eq_false c6
   clear c6
   have HC9 := Aside0.mk H
   clear H
   go_enter Try.func99, Try.ntmps99
   go_upto_region 5 with (first | ((with_reducible refine gate_dst (N := 4) rfl ?_); (try (refine gate_guard (by rfl) ?_; dsimp only)); refine bx_ 4 #[.int .i64 a1_0, .slice A1_1 l1_1.length c1_1, .int .i64 a1_2, .int .i64 a1_3, .int .i64 a1_4] 67 ?_; intro gb848 hg w10 hbox hb; have BK848 := Aside0.mk (hbox); have GW848 := Aside0.mk ((by rw [hg]; exact (bs_ HB) : w.heap.size ≤ gb848)); have GE848 := Aside0.mk ((by rw [hg]; exact (bs_ HB) : w.heap.size ≤ gb848)); replace HB := tB_ HB hb; clear hb hbox hg; obtain ⟨hcz11_0, hcz11_1, hcz11_2, hcz11_3, hcz11_4, hfz11_0, hfz11_1, hfz11_2, hfz11_3, hfz11_4⟩ := bk5_ BK848) | ((with_reducible refine gate_callee (f := 67) rfl ?_); refine gL_ (some 17) Try.func67 #[.int .i64 a1_0, .int .i64 1, .int .i64 3] ?_; (with_reducible refine (spec_l1In.calls a1_0 1 3 true _ A4.out).mono ?_); rintro e w' ⟨rfl, ⟨nd, rfl⟩⟩; refine ⟨_, rfl, ?_⟩))
   (try simp only [Act.put, List.setIfInBounds_toArray, List.set_cons_zero, List.set_cons_succ])
   go_cut [22] (fun v22 wc => ∃ (kq : Nat) (x22_8 : Bool), v22 = .bool x22_8 ∧ Aside0 (spec_l13Code.j0 kq l0 a2 x22_8 a1_0 l1_1 a1_2 a1_3 a1_4 = some (r1, r2, r3)) ∧ Aside0 (kq ≤ k) ∧ Aside0 (wc.heap[gb848]? = some (.cells #[.int .i64 a1_0, (.slice A1_1 l1_1.length c1_1), .int .i64 a1_2, .int .i64 a1_3, .int .i64 a1_4] 67 (0, 0))) ∧ Aside0 (Below w.heap.size w wc))
   case first =>
    have H := HC9.out
    clear HC9
    by_cases c12 : a1_0 = 2
    ·rw [if_pos c12] at H
     have c12b0 : (a1_0 == 2) = true := beq_iff_eq.mpr c12
     have c12b1 : (a1_0 != 2) = false := bne_eq_false_iff_eq.mpr c12
     clear c12
     (first | rw [c12b0] | (simp only [i64_w, i32_w]; rw [c12b0]) | skip)
     have H' := Aside0.mk H
     clear H
     have hcz13_0 : w10.cell? ⟨gb848, 0, none⟩ = some (.int .i64 a1_0) := (blk_cell BK848.out 0).trans rfl
     have hcz13_1 : w10.cell? ⟨gb848, 1, none⟩ = some (.slice A1_1 l1_1.length c1_1) := (blk_cell BK848.out 1).trans rfl
     have hcz13_2 : w10.cell? ⟨gb848, 2, none⟩ = some (.int .i64 a1_2) := (blk_cell BK848.out 2).trans rfl
     have hcz13_3 : w10.cell? ⟨gb848, 3, none⟩ = some (.int .i64 a1_3) := (blk_cell BK848.out 3).trans rfl
     have hcz13_4 : w10.cell? ⟨gb848, 4, none⟩ = some (.int .i64 a1_4) := (blk_cell BK848.out 4).trans rfl
     have hfz13_0 := blk_frozen BK848.out 0
     have hfz13_1 := blk_frozen BK848.out 1
     have hfz13_2 := blk_frozen BK848.out 2
     have hfz13_3 := blk_frozen BK848.out 3
     have hfz13_4 := blk_frozen BK848.out 4
     go_wp2
     go_meet
     case rel => exact ⟨_, (false), eb_, H', ⟨by first | omega | exact Nat.le_refl _⟩, ⟨kx_ BK848.out⟩, bl_ HB⟩
    ·rw [if_neg c12] at H
     have c12b0 : (a1_0 == 2) = false := beq_eq_false_iff_ne.mpr c12
     have c12b1 : (a1_0 != 2) = true := bne_iff_ne.mpr c12
     (first | rw [c12b0] | (simp only [i64_w, i32_w]; rw [c12b0]) | skip)
     replace H := Option.bind_eq_some_iff.mp H
     obtain ⟨t850, A140, H⟩ := H
     replace H : (spec_l13Code.j0 k l0 a2 (!t850) a1_0 l1_1 a1_2 a1_3 a1_4) = some (r1, r2, r3) := H
     have A14 := Aside0.mk A140
     clear A140
     have H' := Aside0.mk H
     clear H
     have hcz15_0 : w10.cell? ⟨gb848, 0, none⟩ = some (.int .i64 a1_0) := (blk_cell BK848.out 0).trans rfl
     have hcz15_1 : w10.cell? ⟨gb848, 1, none⟩ = some (.slice A1_1 l1_1.length c1_1) := (blk_cell BK848.out 1).trans rfl
     have hcz15_2 : w10.cell? ⟨gb848, 2, none⟩ = some (.int .i64 a1_2) := (blk_cell BK848.out 2).trans rfl
     have hcz15_3 : w10.cell? ⟨gb848, 3, none⟩ = some (.int .i64 a1_3) := (blk_cell BK848.out 3).trans rfl
     have hcz15_4 : w10.cell? ⟨gb848, 4, none⟩ = some (.int .i64 a1_4) := (blk_cell BK848.out 4).trans rfl
     have hfz15_0 := blk_frozen BK848.out 0
     have hfz15_1 := blk_frozen BK848.out 1
     have hfz15_2 := blk_frozen BK848.out 2
     have hfz15_3 := blk_frozen BK848.out 3
     have hfz15_4 := blk_frozen BK848.out 4
     go_wp2_with (first | (go_at_call 69; (with_reducible refine (spec_LabelOk.calls a1_2 t850 _ A14.out).mono ?_); rintro e w' ⟨rfl, ⟨nd, rfl⟩⟩))
     go_meet
     case rel => exact ⟨_, (!t850), eb_, H', ⟨by first | omega | exact Nat.le_refl _⟩, ⟨kx_ BK848.out⟩, bl_ HB⟩
   case rest =>
    clear HC9
    try clear c1
    try clear p2
    try clear c5
    try clear c6
    try clear c6b0
    try clear c9
    try clear c12
    try clear c12b0
    try clear c12b1
    try clear hcz11_0
    try clear hcz11_1
    try clear hcz11_2
    try clear hcz11_3
    try clear hcz11_4
    try clear hcz13_0
    try clear hcz13_1
    try clear hcz13_2
    try clear hcz13_3
    try clear hcz13_4
    try clear hcz15_0
    try clear hcz15_1
    try clear hcz15_2
    try clear hcz15_3
    try clear hcz15_4
    try clear hcz8_0
    try clear hcz8_1
    try clear hcz8_2
    try clear hcz8_3
    try clear hcz8_4
    try clear hfz11_0
    try clear hfz11_1
    try clear hfz11_2
    try clear hfz11_3
    try clear hfz11_4
    try clear hfz13_0
    try clear hfz13_1
    try clear hfz13_2
    try clear hfz13_3
    try clear hfz13_4
    try clear hfz15_0
    try clear hfz15_1
    try clear hfz15_2
    try clear hfz15_3
    try clear hfz15_4
    try clear hfz8_0
    try clear hfz8_1
    try clear hfz8_2
    try clear hfz8_3
    try clear hfz8_4
    obtain ⟨kq, x22_8, rfl, HA, HJ8, BK848, HB⟩ := hcut
    cases kq with
    | zero => exact absurd HA.out (by simp [spec_l13Code.j0])
    | succ kj8 =>
     have H := HA.out
     clear HA
     simp only [spec_l13Code.j0] at H
     by_cases c16 : x22_8 = true
     ·subst c16
      have H1 : (some (3, 0, 0)) = some (r1, r2, r3) := by rw [if_pos rfl] at H; exact H
      clear H
      have H := H1
      clear H1
      simp only [Option.some.injEq, Prod.mk.injEq] at H
      obtain ⟨rfl, rfl, rfl⟩ := H
      go_wp2
      go_ret3
      exact ⟨ea_, (bl_ HB).out⟩
     ·replace c16 := Bool.eq_false_iff.mpr c16
      subst c16
      have H1 : (if a1_0 = 2 then (spec_l13Code.j1 kj8 l0 a2 (a2 == 0) a1_0 l1_1 a1_2 a1_3 a1_4) else (spec_l13Code.j1 kj8 l0 a2 false a1_0 l1_1 a1_2 a1_3 a1_4)) = some (r1, r2, r3) := by rw [if_neg (show ¬ (false = true) by decide)] at H; exact H
      clear H
      have H := H1
      clear H1
      have HC17 := Aside0.mk H
      clear H
      go_upto_region 7 with (fail)
      go_cut [32] (fun v32 wc => ∃ (kq : Nat) (x32_16 : Bool), v32 = .bool x32_16 ∧ Aside0 (spec_l13Code.j1 kq l0 a2 x32_16 a1_0 l1_1 a1_2 a1_3 a1_4 = some (r1, r2, r3)) ∧ Aside0 (kq ≤ kj8) ∧ Aside0 (wc.heap[gb848]? = some (.cells #[.int .i64 a1_0, (.slice A1_1 l1_1.length c1_1), .int .i64 a1_2, .int .i64 a1_3, .int .i64 a1_4] 67 (0, 0))) ∧ Aside0 (Below w.heap.size w wc))
      case first =>
       have H := HC17.out
       clear HC17
       by_cases c18 : a1_0 = 2
       ·rw [if_pos c18] at H
        have c18b0 : (a1_0 == 2) = true := beq_iff_eq.mpr c18
        have c18b1 : (a1_0 != 2) = false := bne_eq_false_iff_eq.mpr c18
        clear c18
        (first | rw [c18b0] | (simp only [i64_w, i32_w]; rw [c18b0]) | skip)
        have H' := Aside0.mk H
        clear H
        have hcz19_0 : wc.cell? ⟨gb848, 0, none⟩ = some (.int .i64 a1_0) := (blk_cell BK848.out 0).trans rfl
        have hcz19_1 : wc.cell? ⟨gb848, 1, none⟩ = some (.slice A1_1 l1_1.length c1_1) := (blk_cell BK848.out 1).trans rfl
        have hcz19_2 : wc.cell? ⟨gb848, 2, none⟩ = some (.int .i64 a1_2) := (blk_cell BK848.out 2).trans rfl
        have hcz19_3 : wc.cell? ⟨gb848, 3, none⟩ = some (.int .i64 a1_3) := (blk_cell BK848.out 3).trans rfl
        have hcz19_4 : wc.cell? ⟨gb848, 4, none⟩ = some (.int .i64 a1_4) := (blk_cell BK848.out 4).trans rfl
        have hfz19_0 := blk_frozen BK848.out 0
        have hfz19_1 := blk_frozen BK848.out 1
        have hfz19_2 := blk_frozen BK848.out 2
        have hfz19_3 := blk_frozen BK848.out 3
        have hfz19_4 := blk_frozen BK848.out 4
        go_wp2
        go_meet
        case rel => exact ⟨_, ((a2 == 0)), eb_, H', ⟨by have := HJ8.out; first | omega | exact Nat.le_refl _⟩, ⟨kx_ BK848.out⟩, bl_ HB⟩
       ·rw [if_neg c18] at H
        have c18b0 : (a1_0 == 2) = false := beq_eq_false_iff_ne.mpr c18
        have c18b1 : (a1_0 != 2) = true := bne_iff_ne.mpr c18
        (first | rw [c18b0] | (simp only [i64_w, i32_w]; rw [c18b0]) | skip)
        have H' := Aside0.mk H
        clear H
        have hcz20_0 : wc.cell? ⟨gb848, 0, none⟩ = some (.int .i64 a1_0) := (blk_cell BK848.out 0).trans rfl
        have hcz20_1 : wc.cell? ⟨gb848, 1, none⟩ = some (.slice A1_1 l1_1.length c1_1) := (blk_cell BK848.out 1).trans rfl
        have hcz20_2 : wc.cell? ⟨gb848, 2, none⟩ = some (.int .i64 a1_2) := (blk_cell BK848.out 2).trans rfl
        have hcz20_3 : wc.cell? ⟨gb848, 3, none⟩ = some (.int .i64 a1_3) := (blk_cell BK848.out 3).trans rfl
        have hcz20_4 : wc.cell? ⟨gb848, 4, none⟩ = some (.int .i64 a1_4) := (blk_cell BK848.out 4).trans rfl
        have hfz20_0 := blk_frozen BK848.out 0
        have hfz20_1 := blk_frozen BK848.out 1
        have hfz20_2 := blk_frozen BK848.out 2
        have hfz20_3 := blk_frozen BK848.out 3
        have hfz20_4 := blk_frozen BK848.out 4
        go_wp2
        go_meet
        case rel => exact ⟨_, (false), eb_, H', ⟨by have := HJ8.out; first | omega | exact Nat.le_refl _⟩, ⟨kx_ BK848.out⟩, bl_ HB⟩
      case rest =>
       clear HC17
       try clear c1
       try clear p2
       try clear c5
       try clear c6
       try clear c6b0
       try clear c9
       try clear c12
       try clear c12b0
       try clear c12b1
       try clear c16
       try clear c18
       try clear c18b0
       try clear c18b1
       try clear hcz11_0
       try clear hcz11_1
       try clear hcz11_2
       try clear hcz11_3
       try clear hcz11_4
       try clear hcz13_0
       try clear hcz13_1
       try clear hcz13_2
       try clear hcz13_3
       try clear hcz13_4
       try clear hcz15_0
       try clear hcz15_1
       try clear hcz15_2
       try clear hcz15_3
       try clear hcz15_4
       try clear hcz19_0
       try clear hcz19_1
       try clear hcz19_2
       try clear hcz19_3
       try clear hcz19_4
       try clear hcz20_0
       try clear hcz20_1
       try clear hcz20_2
       try clear hcz20_3
       try clear hcz20_4
       try clear hcz8_0
       try clear hcz8_1
       try clear hcz8_2
       try clear hcz8_3
       try clear hcz8_4
       try clear hfz11_0
       try clear hfz11_1
       try clear hfz11_2
       try clear hfz11_3
       try clear hfz11_4
       try clear hfz13_0
       try clear hfz13_1
       try clear hfz13_2
       try clear hfz13_3
       try clear hfz13_4
       try clear hfz15_0
       try clear hfz15_1
       try clear hfz15_2
       try clear hfz15_3
       try clear hfz15_4
       try clear hfz19_0
       try clear hfz19_1
       try clear hfz19_2
       try clear hfz19_3
       try clear hfz19_4
       try clear hfz20_0
       try clear hfz20_1
       try clear hfz20_2
       try clear hfz20_3
       try clear hfz20_4
       try clear hfz8_0
       try clear hfz8_1
       try clear hfz8_2
       try clear hfz8_3
       try clear hfz8_4
       try clear p2
       obtain ⟨kq, x32_16, rfl, HA, HJ16, BK848, HB⟩ := hcut
       cases kq with
       | zero => exact absurd HA.out (by simp [spec_l13Code.j1])
       | succ kj16 =>
        have H := HA.out
        clear HA
        simp only [spec_l13Code.j1] at H
        by_cases c21 : x32_16 = true
        ·subst c21
         have H1 : (some (4, 0, 0)) = some (r1, r2, r3) := by rw [if_pos rfl] at H; exact H
         clear H
         have H := H1
         clear H1
         simp only [Option.some.injEq, Prod.mk.injEq] at H
         obtain ⟨rfl, rfl, rfl⟩ := H
         go_wp2
         go_ret3
         exact ⟨ea_, (bl_ HB).out⟩
        ·replace c21 := Bool.eq_false_iff.mpr c21
         subst c21
         have H1 : (if a1_0 = 3 then ((spec_KidsOf.f kj16 l0 a2).bind fun t851 => ((spec_l1In.f a1_3 0 (t851.length : Int)).bind fun t854 => (if t854 = true then ((spec_l1In.f a1_4 0 (wrap64 ((t851.length : Int) - a1_3))).bind fun t855 => (spec_l13Code.j2 kj16 l0 a2 t851 (!t855) a1_0 l1_1 a1_2 a1_3 a1_4)) else (spec_l13Code.j2 kj16 l0 a2 t851 true a1_0 l1_1 a1_2 a1_3 a1_4)))) else (some (0, 0, 0))) = some (r1, r2, r3) := by rw [if_neg (show ¬ (false = true) by decide)] at H; exact H
         clear H
         have H := H1
         clear H1
         by_cases c22 : a1_0 = 3
         ·rw [if_pos c22] at H
          have c22b0 : (a1_0 == 3) = true := beq_iff_eq.mpr c22
          have c22b1 : (a1_0 != 3) = false := bne_eq_false_iff_eq.mpr c22
          clear c22
          replace H := Option.bind_eq_some_iff.mp H
          obtain ⟨t851, A230, H⟩ := H
          try dsimp only at H
          have A23 := Aside0.mk A230
          clear A230
          have HC24 := Aside0.mk H
          clear H
          have hcz25_0 : wc.cell? ⟨gb848, 0, none⟩ = some (.int .i64 a1_0) := (blk_cell BK848.out 0).trans rfl
          have hcz25_1 : wc.cell? ⟨gb848, 1, none⟩ = some (.slice A1_1 l1_1.length c1_1) := (blk_cell BK848.out 1).trans rfl
          have hcz25_2 : wc.cell? ⟨gb848, 2, none⟩ = some (.int .i64 a1_2) := (blk_cell BK848.out 2).trans rfl
          have hcz25_3 : wc.cell? ⟨gb848, 3, none⟩ = some (.int .i64 a1_3) := (blk_cell BK848.out 3).trans rfl
          have hcz25_4 : wc.cell? ⟨gb848, 4, none⟩ = some (.int .i64 a1_4) := (blk_cell BK848.out 4).trans rfl
          have hfz25_0 := blk_frozen BK848.out 0
          have hfz25_1 := blk_frozen BK848.out 1
          have hfz25_2 := blk_frozen BK848.out 2
          have hfz25_3 := blk_frozen BK848.out 3
          have hfz25_4 := blk_frozen BK848.out 4
          go_upto_region 12 with (first | ((with_reducible refine gate_callee (f := 61) rfl ?_); refine gL_ (some 46) Try.func61 #[.slice A0 l0.length c0, .int .i64 a2] ?_; (with_reducible refine (spec_KidsOf.calls kj16 _ _ l0 a2 t851 _ (cx_ HR0 HB) HC0.out A23.out).mono ?_); rintro e w26 ⟨v852, rfl, ho0, hb⟩; refine ⟨_, rfl, ?_⟩; have HO853 := Aside0.mk (Kd.R_lower ho0 (bs_ HB)); replace BK848 := tK_ BK848 hb; replace HB := tB_ HB hb; (try clear hb); (try clear ho0)))
          (try simp only [Act.put, List.setIfInBounds_toArray, List.set_cons_zero, List.set_cons_succ])
          go_cut [63] (fun v63 wc => ∃ (kq : Nat) (x63_23 : Bool), v63 = .bool x63_23 ∧ Aside0 (spec_l13Code.j2 kq l0 a2 t851 x63_23 a1_0 l1_1 a1_2 a1_3 a1_4 = some (r1, r2, r3)) ∧ Aside0 (kq ≤ kj16) ∧ Aside0 (Kd.R (Kd.int .i64) 3 wc w.heap.size (fun _ => True) v852 t851) ∧ Aside0 (wc.heap[gb848]? = some (.cells #[.int .i64 a1_0, (.slice A1_1 l1_1.length c1_1), .int .i64 a1_2, .int .i64 a1_3, .int .i64 a1_4] 67 (0, 0))) ∧ Aside0 (Below w.heap.size w wc))
          case first =>
           have H := HC24.out
           clear HC24
           replace H := Option.bind_eq_some_iff.mp H
           obtain ⟨t854, A270, H⟩ := H
           try dsimp only at H
           have A27 := Aside0.mk A270
           clear A270
           by_cases c28 : t854 = true
           ·subst c28
            have H1 : ((spec_l1In.f a1_4 0 (wrap64 ((t851.length : Int) - a1_3))).bind fun t855 => (spec_l13Code.j2 kj16 l0 a2 t851 (!t855) a1_0 l1_1 a1_2 a1_3 a1_4)) = some (r1, r2, r3) := by rw [if_pos rfl] at H; exact H
            clear H
            have H := H1
            clear H1
            replace H := Option.bind_eq_some_iff.mp H
            obtain ⟨t855, A290, H⟩ := H
            replace H : (spec_l13Code.j2 kj16 l0 a2 t851 (!t855) a1_0 l1_1 a1_2 a1_3 a1_4) = some (r1, r2, r3) := H
            have A29 := Aside0.mk A290
            clear A290
            have H' := Aside0.mk H
            clear H
            have hcz30_0 : w26.cell? ⟨gb848, 0, none⟩ = some (.int .i64 a1_0) := (blk_cell BK848.out 0).trans rfl
            have hcz30_1 : w26.cell? ⟨gb848, 1, none⟩ = some (.slice A1_1 l1_1.length c1_1) := (blk_cell BK848.out 1).trans rfl
            have hcz30_2 : w26.cell? ⟨gb848, 2, none⟩ = some (.int .i64 a1_2) := (blk_cell BK848.out 2).trans rfl
            have hcz30_3 : w26.cell? ⟨gb848, 3, none⟩ = some (.int .i64 a1_3) := (blk_cell BK848.out 3).trans rfl
            have hcz30_4 : w26.cell? ⟨gb848, 4, none⟩ = some (.int .i64 a1_4) := (blk_cell BK848.out 4).trans rfl
            have hfz30_0 := blk_frozen BK848.out 0
            have hfz30_1 := blk_frozen BK848.out 1
            have hfz30_2 := blk_frozen BK848.out 2
            have hfz30_3 := blk_frozen BK848.out 3
            have hfz30_4 := blk_frozen BK848.out 4
            obtain ⟨Ao31, co31, eo31⟩ := Kd.R_slice HO853.out
            subst eo31
            go_wp2_with (first | ((with_reducible refine gate_callee (f := 67) rfl ?_); refine gL_ (some 51) Try.func67 #[.int .i64 a1_3, .int .i64 0, .int .i64 (t851.length : Int)] ?_; (with_reducible refine (spec_l1In.calls a1_3 0 (t851.length : Int) true _ A27.out).mono ?_); rintro e w' ⟨rfl, ⟨nd, rfl⟩⟩; refine ⟨_, rfl, ?_⟩) | (go_at_call 67; (with_reducible refine (spec_l1In.calls a1_4 0 (wrap64 ((t851.length : Int) - a1_3)) t855 _ A29.out).mono ?_); rintro e w' ⟨rfl, ⟨nd, rfl⟩⟩))
            go_meet
            case rel => exact ⟨_, (!t855), eb_, H', ⟨by have := HJ8.out; have := HJ16.out; first | omega | exact Nat.le_refl _⟩, ⟨rx_ HO853.out⟩, ⟨kx_ BK848.out⟩, bl_ HB⟩
           ·replace c28 := Bool.eq_false_iff.mpr c28
            subst c28
            have H1 : (spec_l13Code.j2 kj16 l0 a2 t851 true a1_0 l1_1 a1_2 a1_3 a1_4) = some (r1, r2, r3) := by rw [if_neg (show ¬ (false = true) by decide)] at H; exact H
            clear H
            have H := H1
            clear H1
            have H' := Aside0.mk H
            clear H
            have hcz32_0 : w26.cell? ⟨gb848, 0, none⟩ = some (.int .i64 a1_0) := (blk_cell BK848.out 0).trans rfl
            have hcz32_1 : w26.cell? ⟨gb848, 1, none⟩ = some (.slice A1_1 l1_1.length c1_1) := (blk_cell BK848.out 1).trans rfl
            have hcz32_2 : w26.cell? ⟨gb848, 2, none⟩ = some (.int .i64 a1_2) := (blk_cell BK848.out 2).trans rfl
            have hcz32_3 : w26.cell? ⟨gb848, 3, none⟩ = some (.int .i64 a1_3) := (blk_cell BK848.out 3).trans rfl
            have hcz32_4 : w26.cell? ⟨gb848, 4, none⟩ = some (.int .i64 a1_4) := (blk_cell BK848.out 4).trans rfl
            have hfz32_0 := blk_frozen BK848.out 0
            have hfz32_1 := blk_frozen BK848.out 1
            have hfz32_2 := blk_frozen BK848.out 2
            have hfz32_3 := blk_frozen BK848.out 3
            have hfz32_4 := blk_frozen BK848.out 4
            obtain ⟨Ao33, co33, eo33⟩ := Kd.R_slice HO853.out
            subst eo33
            go_wp2_with (first | ((with_reducible refine gate_callee (f := 67) rfl ?_); refine gL_ (some 51) Try.func67 #[.int .i64 a1_3, .int .i64 0, .int .i64 (t851.length : Int)] ?_; (with_reducible refine (spec_l1In.calls a1_3 0 (t851.length : Int) false _ A27.out).mono ?_); rintro e w' ⟨rfl, ⟨nd, rfl⟩⟩; refine ⟨_, rfl, ?_⟩))
            go_meet
            case rel => exact ⟨_, (true), eb_, H', ⟨by have := HJ8.out; have := HJ16.out; first | omega | exact Nat.le_refl _⟩, ⟨rx_ HO853.out⟩, ⟨kx_ BK848.out⟩, bl_ HB⟩
          case rest =>
           clear HC24
           try clear c1
           try clear c2
           try clear p2
           try clear c5
           try clear c6
           try clear c6b0
           try clear p6
           try clear c9
           try clear c12
           try clear c12b0
           try clear c12b1
           try clear c16
           try clear c18
           try clear c18b0
           try clear c18b1
           try clear c21
           try clear c22
           try clear c22b0
           try clear c22b1
           try clear c28
           try clear hcz11_0
           try clear hcz11_1
           try clear hcz11_2
           try clear hcz11_3
           try clear hcz11_4
           try clear hcz13_0
           try clear hcz13_1
           try clear hcz13_2
           try clear hcz13_3
           try clear hcz13_4
           try clear hcz15_0
           try clear hcz15_1
           try clear hcz15_2
           try clear hcz15_3
           try clear hcz15_4
           try clear hcz19_0
           try clear hcz19_1
           try clear hcz19_2
           try clear hcz19_3
           try clear hcz19_4
           try clear hcz20_0
           try clear hcz20_1
           try clear hcz20_2
           try clear hcz20_3
           try clear hcz20_4
           try clear hcz25_0
           try clear hcz25_1
           try clear hcz25_2
           try clear hcz25_3
           try clear hcz25_4
           try clear hcz30_0
           try clear hcz30_1
           try clear hcz30_2
           try clear hcz30_3
           try clear hcz30_4
           try clear hcz32_0
           try clear hcz32_1
           try clear hcz32_2
           try clear hcz32_3
           try clear hcz32_4
           try clear hcz8_0
           try clear hcz8_1
           try clear hcz8_2
           try clear hcz8_3
           try clear hcz8_4
           try clear hfz11_0
           try clear hfz11_1
           try clear hfz11_2
           try clear hfz11_3
           try clear hfz11_4
           try clear hfz13_0
           try clear hfz13_1
           try clear hfz13_2
           try clear hfz13_3
           try clear hfz13_4
           try clear hfz15_0
           try clear hfz15_1
           try clear hfz15_2
           try clear hfz15_3
           try clear hfz15_4
           try clear hfz19_0
           try clear hfz19_1
           try clear hfz19_2
           try clear hfz19_3
           try clear hfz19_4
           try clear hfz20_0
           try clear hfz20_1
           try clear hfz20_2
           try clear hfz20_3
           try clear hfz20_4
           try clear hfz25_0
           try clear hfz25_1
           try clear hfz25_2
           try clear hfz25_3
           try clear hfz25_4
           try clear hfz30_0
           try clear hfz30_1
           try clear hfz30_2
           try clear hfz30_3
           try clear hfz30_4
           try clear hfz32_0
           try clear hfz32_1
           try clear hfz32_2
           try clear hfz32_3
           try clear hfz32_4
           try clear hfz8_0
           try clear hfz8_1
           try clear hfz8_2
           try clear hfz8_3
           try clear hfz8_4
           try clear p2
           obtain ⟨kq, x63_23, rfl, HA, HJ23, HO_9, BK848, HB⟩ := hcut
           cases kq with
           | zero => exact absurd HA.out (by simp [spec_l13Code.j2])
           | succ kj23 =>
            have H := HA.out
            clear HA
            simp only [spec_l13Code.j2] at H
            by_cases c34 : x63_23 = true
            ·subst c34
             have H1 : (some (5, 0, 0)) = some (r1, r2, r3) := by rw [if_pos rfl] at H; exact H
             clear H
             have H := H1
             clear H1
             simp only [Option.some.injEq, Prod.mk.injEq] at H
             obtain ⟨rfl, rfl, rfl⟩ := H
             go_wp2
             go_ret3
             exact ⟨ea_, (bl_ HB).out⟩
            ·replace c34 := Bool.eq_false_iff.mpr c34
             subst c34
             have H1 : ((spec_EndOf.f kj23 l0 a2).bind fun t856 => (if t851.length < 17592186044416 then ((some (t851 ++ [t856] : List Int)).bind fun y857 => (if 0 ≤ a1_3 then (if a1_3 < (y857.length : Int) then (if 0 ≤ (wrap64 (a1_3 + a1_4)) then (if (wrap64 (a1_3 + a1_4)) < (y857.length : Int) then (if (l0.length : Int) = 24 then (some (6, 0, 0)) else (if 0 ≤ a2 then (if a2 < (l0.length : Int) then (spec_l13Code.l0 kj23 l0 (rd y857 a1_3) (rd y857 (wrap64 (a1_3 + a1_4))) (wrap64 (((rd_T90 l0 a2).f1) + 1)) (rd y857 a1_3)) else (none)) else (none))) else (none)) else (none)) else (none)) else (none))) else (none))) = some (r1, r2, r3) := by rw [if_neg (show ¬ (false = true) by decide)] at H; exact H
             clear H
             have H := H1
             clear H1
             replace H := Option.bind_eq_some_iff.mp H
             obtain ⟨t856, A350, H⟩ := H
             try dsimp only at H
             have A35 := Aside0.mk A350
             clear A350
             by_cases c36 : t851.length < 17592186044416
             ·rw [if_pos c36] at H
              have LMc36 := Aside0.mk c36
              clear c36
              obtain ⟨y857, hy857⟩ : ∃ y_ : List Int, y_ = (t851 ++ [t856]) := ⟨_, rfl⟩
              replace H : (if 0 ≤ a1_3 then (if a1_3 < (y857.length : Int) then (if 0 ≤ (wrap64 (a1_3 + a1_4)) then (if (wrap64 (a1_3 + a1_4)) < (y857.length : Int) then (if (l0.length : Int) = 24 then (some (6, 0, 0)) else (if 0 ≤ a2 then (if a2 < (l0.length : Int) then (spec_l13Code.l0 kj23 l0 (rd y857 a1_3) (rd y857 (wrap64 (a1_3 + a1_4))) (wrap64 (((rd_T90 l0 a2).f1) + 1)) (rd y857 a1_3)) else (none)) else (none))) else (none)) else (none)) else (none)) else (none)) = some (r1, r2, r3) := by first | (rw [hy857]; with_reducible exact H) | (have H2_ := (Option.bind_some _ _).symm.trans H; rw [hy857]; with_reducible exact H2_) | (have H2_ := (Option.bind_some _ _).symm.trans H; with_reducible exact H2_) | with_reducible exact H | (rw [hy857]; exact H) | exact H
              have Ny857 := Aside0.mk hy857
              clear hy857
              by_cases c37 : 0 ≤ a1_3
              ·rw [if_pos c37] at H
               have c37b0 : decide (0 ≤ a1_3) = true := decide_eq_true c37
               clear c37
               by_cases c38 : a1_3 < (y857.length : Int)
               ·rw [if_pos c38] at H
                have c38b0 : decide (a1_3 < (y857.length : Int)) = true := decide_eq_true c38
                clear c38
                obtain ⟨ji39, hji39⟩ : ∃ j_ : Int, (wrap64 (a1_3 + a1_4)) = j_ := ⟨_, rfl⟩
                replace H : (if 0 ≤ (ji39) then (if (ji39) < (y857.length : Int) then (if (l0.length : Int) = 24 then (some (6, 0, 0)) else (if 0 ≤ a2 then (if a2 < (l0.length : Int) then (spec_l13Code.l0 kj23 l0 (rd y857 a1_3) (rd y857 (ji39)) (wrap64 (((rd_T90 l0 a2).f1) + 1)) (rd y857 a1_3)) else (none)) else (none))) else (none)) else (none)) = some (r1, r2, r3) := by first | (rw [hji39] at H; exact H) | (simp only [hji39] at H ⊢; exact H)
                (try rw [hji39] at A35)
                have hji39w : (IntKind.i64.wrap (a1_3 + a1_4)) = ji39 := (i64_w _).trans hji39
                by_cases c40 : 0 ≤ (ji39)
                ·rw [if_pos c40] at H
                 have c40b0 : decide (0 ≤ (ji39)) = true := decide_eq_true c40
                 clear c40
                 by_cases c41 : (ji39) < (y857.length : Int)
                 ·rw [if_pos c41] at H
                  have c41b0 : decide ((ji39) < (y857.length : Int)) = true := decide_eq_true c41
                  clear c41
                  by_cases c42 : (l0.length : Int) = 24
                  ·rw [if_pos c42] at H
                   have c42b0 : ((l0.length : Int) == 24) = true := beq_iff_eq.mpr c42
                   have c42b1 : ((l0.length : Int) != 24) = false := bne_eq_false_iff_eq.mpr c42
                   clear c42
                   simp only [Option.some.injEq, Prod.mk.injEq] at H
                   obtain ⟨rfl, rfl, rfl⟩ := H
                   go_wp2_with (first | ((with_reducible refine gate_callee (f := 100) rfl ?_); refine gL_ (some 67) Try.func100 #[.slice A0 l0.length c0, .int .i64 a2] ?_; (with_reducible refine (spec_EndOf.calls kj23 _ _ l0 a2 t856 _ (cx_ HR0 HB) HC0.out A35.out).mono ?_); rintro e w43 ⟨rfl, hb⟩; refine ⟨_, rfl, ?_⟩; replace HO_9 := tR_ HO_9 hb; replace BK848 := tK_ BK848 hb; replace HB := tB_ HB hb; (try clear hb)) | ((with_reducible refine gate_builtin (b := .append) (xs := #[.tmp 64, .tmp 68]) rfl ?_); (try (refine gate_guard (by rfl) ?_; dsimp only)); at_builtin; refine Kd.R_append (Kd.int .i64) (w0 := w) w.heap.size rfl (.tmp 64) (.tmp 68) 39 3 (.int .i64 0) 8 rfl Try.underlying39 info3 rfl (by decide) (by omega) v852 t851 t856 [.int .i64 t856] (fun _ => True) (fun _ => False) rfl rfl ?aP (fun _ hk => hk.elim) ?aF ?aO ?aB ?aS ?aL ?_; (case aP => exact rfl); (case aB => exact ((bl_ HB).out)); (case aF => exact (fun _ _ => trivial)); (case aO => exact (rx_ HO_9.out)); (case aS => exact (bs_ HB)); (case aL => have := LMc36.out; omega); intro v858 w44 ho hb hg hat; rw [← Ny857.out] at ho; replace BK848 := Aside0.mk (blk_grown (g := gb848) (o := .cells #[.int .i64 a1_0, .slice A1_1 l1_1.length c1_1, .int .i64 a1_2, .int .i64 a1_3, .int .i64 a1_4] 67 (0, 0)) (kx_ BK848.out) hg (Kd.R_ne HO_9.out BK848.out (by decide))); replace HB := Aside0.mk (hb); have HO859 := Aside0.mk (ho); clear HO_9; clear ho hb hg hat; obtain ⟨hcz45_0, hcz45_1, hcz45_2, hcz45_3, hcz45_4, hfz45_0, hfz45_1, hfz45_2, hfz45_3, hfz45_4⟩ := bk5_ BK848; obtain ⟨Ao46, co46, eo46⟩ := Kd.R_slice HO859.out; subst eo46; have p860 : 0 ≤ (a1_3 : Int) := od_; have q860 : a1_3 < (y857.length : Int) := od_; obtain ⟨ad860, e860, hx860_0⟩ := Kd.at_int (Kd.R_reads' HO859.out).2.2 a1_3 p860 q860; cases e860; replace p860 := eq_true p860; replace q860 := eq_true q860; have p861 : 0 ≤ ((ji39) : Int) := od_; have q861 : (ji39) < (y857.length : Int) := od_; obtain ⟨ad861, e861, hx861_0⟩ := Kd.at_int (Kd.R_reads' HO859.out).2.2 (ji39) p861 q861; obtain rfl : ad860 = ad861 := (by injection e861); replace p861 := eq_true p861; replace q861 := eq_true q861))
                   go_ret3
                   exact ⟨by first | rfl | (simp [errW_none, errW_some] <;> rfl) | (simp only [← hji39]; first | rfl | (simp [errW_none, errW_some] <;> rfl)) | (simp [*, errW_none, errW_some] <;> rfl), (bl_ HB).out⟩
                  ·rw [if_neg c42] at H
                   have c42b0 : ((l0.length : Int) == 24) = false := beq_eq_false_iff_ne.mpr c42
                   have c42b1 : ((l0.length : Int) != 24) = true := bne_iff_ne.mpr c42
                   by_cases c47 : 0 ≤ a2
                   ·rw [if_pos c47] at H
                    have c47b0 : decide (0 ≤ a2) = true := decide_eq_true c47
                    clear c47
                    by_cases c48 : a2 < (l0.length : Int)
                    ·rw [if_pos c48] at H
                     have c48b0 : decide (a2 < (l0.length : Int)) = true := decide_eq_true c48
                     clear c48
                     have H' := Aside0.mk H
                     clear H
                     go_wp2_with (first | ((with_reducible refine gate_callee (f := 100) rfl ?_); refine gL_ (some 67) Try.func100 #[.slice A0 l0.length c0, .int .i64 a2] ?_; (with_reducible refine (spec_EndOf.calls kj23 _ _ l0 a2 t856 _ (cx_ HR0 HB) HC0.out A35.out).mono ?_); rintro e w49 ⟨rfl, hb⟩; refine ⟨_, rfl, ?_⟩; replace HO_9 := tR_ HO_9 hb; replace BK848 := tK_ BK848 hb; replace HB := tB_ HB hb; (try clear hb)) | ((with_reducible refine gate_builtin (b := .append) (xs := #[.tmp 64, .tmp 68]) rfl ?_); (try (refine gate_guard (by rfl) ?_; dsimp only)); at_builtin; refine Kd.R_append (Kd.int .i64) (w0 := w) w.heap.size rfl (.tmp 64) (.tmp 68) 39 3 (.int .i64 0) 8 rfl Try.underlying39 info3 rfl (by decide) (by omega) v852 t851 t856 [.int .i64 t856] (fun _ => True) (fun _ => False) rfl rfl ?aP (fun _ hk => hk.elim) ?aF ?aO ?aB ?aS ?aL ?_; (case aP => exact rfl); (case aB => exact ((bl_ HB).out)); (case aF => exact (fun _ _ => trivial)); (case aO => exact (rx_ HO_9.out)); (case aS => exact (bs_ HB)); (case aL => have := LMc36.out; omega); intro v858 w50 ho hb hg hat; rw [← Ny857.out] at ho; replace BK848 := Aside0.mk (blk_grown (g := gb848) (o := .cells #[.int .i64 a1_0, .slice A1_1 l1_1.length c1_1, .int .i64 a1_2, .int .i64 a1_3, .int .i64 a1_4] 67 (0, 0)) (kx_ BK848.out) hg (Kd.R_ne HO_9.out BK848.out (by decide))); replace HB := Aside0.mk (hb); have HO859 := Aside0.mk (ho); clear HO_9; clear ho hb hg hat; obtain ⟨hcz51_0, hcz51_1, hcz51_2, hcz51_3, hcz51_4, hfz51_0, hfz51_1, hfz51_2, hfz51_3, hfz51_4⟩ := bk5_ BK848; obtain ⟨Ao52, co52, eo52⟩ := Kd.R_slice HO859.out; subst eo52; have p860 : 0 ≤ (a1_3 : Int) := od_; have q860 : a1_3 < (y857.length : Int) := od_; obtain ⟨ad860, e860, hx860_0⟩ := Kd.at_int (Kd.R_reads' HO859.out).2.2 a1_3 p860 q860; cases e860; replace p860 := eq_true p860; replace q860 := eq_true q860; have p861 : 0 ≤ ((ji39) : Int) := od_; have q861 : (ji39) < (y857.length : Int) := od_; obtain ⟨ad861, e861, hx861_0⟩ := Kd.at_int (Kd.R_reads' HO859.out).2.2 (ji39) p861 q861; obtain rfl : ad860 = ad861 := (by injection e861); replace p861 := eq_true p861; replace q861 := eq_true q861; have p862 : 0 ≤ (a2 : Int) := od_; have q862 : a2 < (l0.length : Int) := od_; obtain ⟨ad862, e862, hx862_0, hx862_1⟩ := at_T90 HR0.out a2 p862 q862; cases e862; replace hx862_0 := ce_ HB hx862_0; replace hx862_1 := ce_ HB hx862_1; replace p862 := eq_true p862; replace q862 := eq_true q862))
                     go_loopg [12, 13] kj23 (fun kq v12 v13 w' => ∃ (x12_4 : Int) (x13_4 : Int), v12 = .int .i64 x12_4 ∧ v13 = .int .i64 x13_4 ∧ Aside0 (spec_l13Code.l0 kq l0 (rd y857 a1_3) (rd y857 (ji39)) x12_4 x13_4 = some (r1, r2, r3)) ∧ Aside0 (kq ≤ kj23) ∧ Aside0 (w'.heap[gb848]? = some (.cells #[.int .i64 a1_0, (.slice A1_1 l1_1.length c1_1), .int .i64 a1_2, .int .i64 a1_3, .int .i64 a1_4] 67 (0, 0))) ∧ Aside0 (Below w.heap.size w w'))
                     case atStart => exact ⟨(wrap64 (((rd_T90 l0 a2).f1) + 1)), (rd y857 a1_3), eb_, eb_, H', ⟨Nat.le_refl _⟩, ⟨kx_ BK848.out⟩, bl_ HB⟩
                     case round =>
                      clear H'
                      try clear c1
                      try clear c2
                      try clear p2
                      try clear c3
                      try clear c4
                      try clear c5
                      try clear c6
                      try clear c6b0
                      try clear p6
                      try clear p8
                      try clear q8
                      try clear hx8
                      try clear c9
                      try clear c10
                      try clear c12
                      try clear c12b0
                      try clear c12b1
                      try clear c16
                      try clear c18
                      try clear c18b0
                      try clear c18b1
                      try clear c21
                      try clear c22
                      try clear c22b0
                      try clear c22b1
                      try clear c28
                      try clear c34
                      try clear c36
                      try clear c37
                      try clear c37b0
                      try clear c38
                      try clear c38b0
                      try clear c40
                      try clear c40b0
                      try clear c41
                      try clear c41b0
                      try clear c42
                      try clear c42b0
                      try clear c42b1
                      try clear c47
                      try clear c47b0
                      try clear c48
                      try clear c48b0
                      try clear hcz11_0
                      try clear hcz11_1
                      try clear hcz11_2
                      try clear hcz11_3
                      try clear hcz11_4
                      try clear hcz13_0
                      try clear hcz13_1
                      try clear hcz13_2
                      try clear hcz13_3
                      try clear hcz13_4
                      try clear hcz15_0
                      try clear hcz15_1
                      try clear hcz15_2
                      try clear hcz15_3
                      try clear hcz15_4
                      try clear hcz19_0
                      try clear hcz19_1
                      try clear hcz19_2
                      try clear hcz19_3
                      try clear hcz19_4
                      try clear hcz20_0
                      try clear hcz20_1
                      try clear hcz20_2
                      try clear hcz20_3
                      try clear hcz20_4
                      try clear hcz25_0
                      try clear hcz25_1
                      try clear hcz25_2
                      try clear hcz25_3
                      try clear hcz25_4
                      try clear hcz30_0
                      try clear hcz30_1
                      try clear hcz30_2
                      try clear hcz30_3
                      try clear hcz30_4
                      try clear hcz32_0
                      try clear hcz32_1
                      try clear hcz32_2
                      try clear hcz32_3
                      try clear hcz32_4
                      try clear hcz45_0
                      try clear hcz45_1
                      try clear hcz45_2
                      try clear hcz45_3
                      try clear hcz45_4
                      try clear hcz51_0
                      try clear hcz51_1
                      try clear hcz51_2
                      try clear hcz51_3
                      try clear hcz51_4
                      try clear hcz8_0
                      try clear hcz8_1
                      try clear hcz8_2
                      try clear hcz8_3
                      try clear hcz8_4
                      try clear hfz11_0
                      try clear hfz11_1
                      try clear hfz11_2
                      try clear hfz11_3
                      try clear hfz11_4
                      try clear hfz13_0
                      try clear hfz13_1
                      try clear hfz13_2
                      try clear hfz13_3
                      try clear hfz13_4
                      try clear hfz15_0
                      try clear hfz15_1
                      try clear hfz15_2
                      try clear hfz15_3
                      try clear hfz15_4
                      try clear hfz19_0
                      try clear hfz19_1
                      try clear hfz19_2
                      try clear hfz19_3
                      try clear hfz19_4
                      try clear hfz20_0
                      try clear hfz20_1
                      try clear hfz20_2
                      try clear hfz20_3
                      try clear hfz20_4
                      try clear hfz25_0
                      try clear hfz25_1
                      try clear hfz25_2
                      try clear hfz25_3
                      try clear hfz25_4
                      try clear hfz30_0
                      try clear hfz30_1
                      try clear hfz30_2
                      try clear hfz30_3
                      try clear hfz30_4
                      try clear hfz32_0
                      try clear hfz32_1
                      try clear hfz32_2
                      try clear hfz32_3
                      try clear hfz32_4
                      try clear hfz45_0
                      try clear hfz45_1
                      try clear hfz45_2
                      try clear hfz45_3
                      try clear hfz45_4
                      try clear hfz51_0
                      try clear hfz51_1
                      try clear hfz51_2
                      try clear hfz51_3
                      try clear hfz51_4
                      try clear hfz8_0
                      try clear hfz8_1
                      try clear hfz8_2
                      try clear hfz8_3
                      try clear hfz8_4
                      try clear hx860_0
                      try clear hx861_0
                      try clear hx862_0
                      try clear hx862_1
                      try clear p2
                      try clear p6
                      try clear p860
                      try clear p861
                      try clear p862
                      try clear q860
                      try clear q861
                      try clear q862
                      obtain ⟨x12_4, x13_4, rfl, rfl, HA, HK4, BK848, HB⟩ := hrel
                      cases gk with
                      | zero => exact absurd HA.out (by simp [spec_l13Code.l0])
                      | succ k4 =>
                       have H := HA.out
                       clear HA
                       simp only [spec_l13Code.l0] at H
                       by_cases c53 : x13_4 < (rd y857 (ji39))
                       ·rw [if_pos c53] at H
                        have c53b0 : decide (x13_4 < (rd y857 (ji39))) = true := decide_eq_true c53
                        clear c53
                        by_cases c54 : 0 ≤ x13_4
                        ·rw [if_pos c54] at H
                         have c54b0 : decide (0 ≤ x13_4) = true := decide_eq_true c54
                         clear c54
                         by_cases c55 : x13_4 < (l0.length : Int)
                         ·rw [if_pos c55] at H
                          have c55b0 : decide (x13_4 < (l0.length : Int)) = true := decide_eq_true c55
                          clear c55
                          obtain ⟨ji56, hji56⟩ : ∃ j_ : Int, (mx x12_4 (wrap64 (((rd_T90 l0 x13_4).f1) + 1))) = j_ := ⟨_, rfl⟩
                          replace H : (spec_l13Code.l0 k4 l0 (rd y857 a1_3) (rd y857 (ji39)) ji56 (wrap64 (x13_4 + 1))) = some (r1, r2, r3) := by first | (rw [hji56] at H; exact H) | (simp only [hji56] at H ⊢; exact H)
                          have hji56_ : (if x12_4 < (wrap64 (((rd_T90 l0 x13_4).f1) + 1)) then (wrap64 (((rd_T90 l0 x13_4).f1) + 1)) else x12_4) = ji56 := hji56
                          have H' := Aside0.mk H
                          clear H
                          have p863 : 0 ≤ (x13_4 : Int) := od_
                          have q863 : x13_4 < (l0.length : Int) := od_
                          obtain ⟨ad863, e863, hx863_0, hx863_1⟩ := at_T90 HR0.out x13_4 p863 q863
                          obtain rfl : ad862 = ad863 := (by injection e863)
                          replace hx863_0 := ce_ HB hx863_0
                          replace hx863_1 := ce_ HB hx863_1
                          replace p863 := eq_true p863
                          replace q863 := eq_true q863
                          go_wp2
                          go_roundg k4
                          case measure => have := HJ8.out; have := HJ16.out; have := HJ23.out; have := HK4.out; omega
                          case rel => exact ⟨(ji56), (wrap64 (x13_4 + 1)), (by first | rfl | (simp; done) | (simp only [← hji56] <;> (first | rfl | simp)) | (simp [*]; done)), eb_, H', ⟨by have := HJ8.out; have := HJ16.out; have := HJ23.out; have := HK4.out; omega⟩, ⟨kx_ BK848.out⟩, bl_ HB⟩
                         ·rw [if_neg c55] at H
                          exact absurd H (by simp)
                        ·rw [if_neg c54] at H
                         exact absurd H (by simp)
                       ·rw [if_neg c53] at H
                        have c53b0 : decide (x13_4 < (rd y857 (ji39))) = false := decide_eq_false c53
                        clear c53
                        by_cases c57 : x12_4 > 12
                        ·rw [if_pos c57] at H
                         have c57b0 : decide (12 < x12_4) = true := decide_eq_true c57
                         clear c57
                         simp only [Option.some.injEq, Prod.mk.injEq] at H
                         obtain ⟨rfl, rfl, rfl⟩ := H
                         go_wp2
                         go_ret3
                         exact ⟨by first | rfl | (simp [errW_none, errW_some] <;> rfl) | (simp only [← hji39]; first | rfl | (simp [errW_none, errW_some] <;> rfl)) | (simp [*, errW_none, errW_some] <;> rfl), (bl_ HB).out⟩
                        ·rw [if_neg c57] at H
                         have c57b0 : decide (12 < x12_4) = false := decide_eq_false c57
                         clear c57
                         simp only [Option.some.injEq, Prod.mk.injEq] at H
                         obtain ⟨rfl, rfl, rfl⟩ := H
                         go_wp2
                         go_ret3
                         exact ⟨by first | rfl | (simp [errW_none, errW_some] <;> rfl) | (simp only [← hji39]; first | rfl | (simp [errW_none, errW_some] <;> rfl)) | (simp [*, errW_none, errW_some] <;> rfl), (bl_ HB).out⟩
                    ·rw [if_neg c48] at H
                     exact absurd H (by simp)
                   ·rw [if_neg c47] at H
                    exact absurd H (by simp)
                 ·rw [if_neg c41] at H
                  exact absurd H (by simp)
                ·rw [if_neg c40] at H
                 exact absurd H (by simp)
               ·rw [if_neg c38] at H
                exact absurd H (by simp)
              ·rw [if_neg c37] at H
               exact absurd H (by simp)
             ·rw [if_neg c36] at H
              exact absurd H (by simp)
         ·rw [if_neg c22] at H
          have c22b0 : (a1_0 == 3) = false := beq_eq_false_iff_ne.mpr c22
          have c22b1 : (a1_0 != 3) = true := bne_iff_ne.mpr c22
          simp only [Option.some.injEq, Prod.mk.injEq] at H
          obtain ⟨rfl, rfl, rfl⟩ := H
          have hcz58_0 : wc.cell? ⟨gb848, 0, none⟩ = some (.int .i64 a1_0) := (blk_cell BK848.out 0).trans rfl
          have hcz58_1 : wc.cell? ⟨gb848, 1, none⟩ = some (.slice A1_1 l1_1.length c1_1) := (blk_cell BK848.out 1).trans rfl
          have hcz58_2 : wc.cell? ⟨gb848, 2, none⟩ = some (.int .i64 a1_2) := (blk_cell BK848.out 2).trans rfl
          have hcz58_3 : wc.cell? ⟨gb848, 3, none⟩ = some (.int .i64 a1_3) := (blk_cell BK848.out 3).trans rfl
          have hcz58_4 : wc.cell? ⟨gb848, 4, none⟩ = some (.int .i64 a1_4) := (blk_cell BK848.out 4).trans rfl
          have hfz58_0 := blk_frozen BK848.out 0
          have hfz58_1 := blk_frozen BK848.out 1
          have hfz58_2 := blk_frozen BK848.out 2
          have hfz58_3 := blk_frozen BK848.out 3
          have hfz58_4 := blk_frozen BK848.out 4
          go_wp2
          go_ret3
          exact ⟨ea_, (bl_ HB).out⟩
 ·replace c5 := Bool.eq_false_iff.mpr c5
  subst c5
  have H1 : (some (1, 0, 0)) = some (r1, r2, r3) := by rw [if_neg (show ¬ (false = true) by decide)] at H; exact H
  clear H
  have H := H1
  clear H1
  simp only [Option.some.injEq, Prod.mk.injEq] at H
  obtain ⟨rfl, rfl, rfl⟩ := H
  go_enter Try.func99, Try.ntmps99
  go_wp2_with (first | ((with_reducible refine gate_dst (N := 4) rfl ?_); (try (refine gate_guard (by rfl) ?_; dsimp only)); refine bx_ 4 #[.int .i64 a1_0, .slice A1_1 l1_1.length c1_1, .int .i64 a1_2, .int .i64 a1_3, .int .i64 a1_4] 67 ?_; intro gb848 hg w59 hbox hb; have BK848 := Aside0.mk (hbox); have GW848 := Aside0.mk ((by rw [hg]; exact (bs_ HB) : w.heap.size ≤ gb848)); have GE848 := Aside0.mk ((by rw [hg]; exact (bs_ HB) : w.heap.size ≤ gb848)); replace HB := tB_ HB hb; clear hb hbox hg; obtain ⟨hcz60_0, hcz60_1, hcz60_2, hcz60_3, hcz60_4, hfz60_0, hfz60_1, hfz60_2, hfz60_3, hfz60_4⟩ := bk5_ BK848) | ((with_reducible refine gate_callee (f := 67) rfl ?_); refine gL_ (some 17) Try.func67 #[.int .i64 a1_0, .int .i64 1, .int .i64 3] ?_; (with_reducible refine (spec_l1In.calls a1_0 1 3 false _ A4.out).mono ?_); rintro e w' ⟨rfl, ⟨nd, rfl⟩⟩; refine ⟨_, rfl, ?_⟩))
  go_ret3
  exact ⟨ea_, (bl_ HB).out⟩
end Go.Proofs.Ytbifdckfglejkaa.X
namespace Go.Proofs.Ytbifdckfglejkaa.X
open Go.RowKit Go.Proofs.YtbifdckfglejkaaW.PrintWords Go.Proofs.YtbifdckfglejkaaW.PrintLast Go.Proofs.YtbifdckfglejkaaW.PrintMore
attribute [local go_sem] max2_int min2_int max_two min_two max_three min_three max_four min_four   -- for this text's walks alone
set_option linter.unusedVariables false
set_option linter.unusedSimpArgs false
def spec_l13Shift.l0 : Nat → List (S90) → Int → Int → List (S90) → Int → Option ((List (S90)))
 | 0, _, _, _, _, _ => none
 | k + 1, x0, x2, x3, x9, x10 => if x10 < x2 then (if 0 ≤ x10 then (if x10 < (x0.length : Int) then (if x9.length < 8796093022208 then (spec_l13Shift.l0 k x0 x2 x3 (x9 ++ [(⟨(rd_T90 x0 x10).f0, wrap64 (((rd_T90 x0 x10).f1) + x3)⟩ : S90)]) (wrap64 (x10 + 1))) else (none)) else (none)) else (none)) else (some x9)
def spec_l13Shift.f (k : Nat) (l0 : List (S90)) (a1 : Int) (a2 : Int) (a3 : Int) : Option ((List (S90))) := spec_l13Shift.l0 k l0 a2 a3 (([] : List (S90))) a1
def spec_l13Shift.T5 : Bool × List (List Nat × List Nat) := (true, [([], []), ([], []), ([], []), ([1, 2], [1, 2]), ([3], [3]), ([4], [4]), ([], []), ([], []), ([6, 7], [6, 7]), ([8], [8]), ([9], [9]), ([], []), ([10, 11], [10, 11]), ([5, 12], [5, 12]), ([13], [13]), ([0, 14], [0, 14]), ([15, 15, 0, 1, 2, 3, 4, 5, 6, 7, 8, 9, 10, 11, 12, 13, 14, 15], [0, 15])])
def spec_l13Shift.B5 : List Nat := [0, 0, 0, 6, 14, 30, 0, 0, 192, 448, 960, 0, 4032, 8190, 16382, 32767, 65535]
theorem spec_l13Shift.tab5 : rtab .any (opsOf Try.f101 5) = spec_l13Shift.T5 := by kernel_rfl
theorem spec_l13Shift.bits5 : waitsOk spec_l13Shift.T5.2 spec_l13Shift.B5 = true := by kernel_rfl
set_option maxHeartbeats 8000000 in
set_option maxRecDepth 100000 in
theorem spec_l13Shift.calls (k : Nat) (A0 : Option Addr) (c0 : Nat) (l0 : List (S90)) (a1 : Int) (a2 : Int) (a3 : Int) (r : List (S90)) (w : World) (hr0 : Kd.C k90 w A0 l0.length l0) (hc0 : l0.length ≤ c0) (h : spec_l13Shift.f k l0 a1 a2 a3 = some r) :
  Calls Try.prog 101 #[.slice A0 l0.length c0, .int .i64 a1, .int .i64 a2, .int .i64 a3] w fun e w' => ∃ v0_ : Value, e = .returned (v0_) ∧ Kd.R k90 90 w' w.heap.size (fun _ => True) v0_ r ∧ Below w.heap.size w w' := by
 have hu90 := Try.underlying90
 have HR0 := Aside0.mk hr0
 have HC0 := Aside0.mk hc0
 clear hr0 hc0
 have HB := Aside0.mk (Below.refl w.heap.size w)
 have H : (spec_l13Shift.l0 k l0 a2 a3 (([] : List (S90))) a1) = some r := h
 clear h
 obtain ⟨y864, hy864⟩ : ∃ y_ : List (S90), y_ = (([] : List (S90))) := ⟨_, rfl⟩
 replace H : (spec_l13Shift.l0 k l0 a2 a3 y864 a1) = some r := by first | (rw [hy864]; with_reducible exact H) | (have H2_ := (Option.bind_some _ _).symm.trans H; rw [hy864]; with_reducible exact H2_) | (have H2_ := (Option.bind_some _ _).symm.trans H; with_reducible exact H2_) | with_reducible exact H | (rw [hy864]; exact H) | exact H
 have Ny864 := Aside0.mk hy864
 clear hy864
 have H' := Aside0.mk H
 clear H
 go_enter Try.func101, Try.ntmps101
 go_wp2_with (first | ((with_reducible refine gate_dst (N := 11) rfl ?_); refine Kd.R_lit k90 _ 90 ?hg (N := 11) ?hd (xs := ([] : List (S90))) (inner := []) (ok := fun _ => True) (okp := fun _ => True) ?hr ?hp (fun _ hk => hk) trivial (Below.refl _ _) (Nat.le_refl _) (by simp) ?_; (case hd => rfl); (case hg => rfl); (case hr => first | (go_simp; done) | (go_simp; rfl)); (case hp => exact (Reps.none _ _)); intro v865 w5 ho6 hb hg_ hnew_; clear hg_ hnew_; (first | rw [← Ny864.out] at ho6 | (simp only [Int.reduceToNat] at ho6; rw [← Ny864.out] at ho6)); have HO866 := Aside0.mk (Kd.R_lower ho6 (bs_ HB)); replace HB := tB_ HB hb; clear hb ho6))
 go_loopg [9, 10] k (fun kq v9 v10 w' => ∃ (x9_1 : List (S90)) (x10_1 : Int), v10 = .int .i64 x10_1 ∧ Aside0 (spec_l13Shift.l0 kq l0 a2 a3 x9_1 x10_1 = some r) ∧ Aside0 (kq ≤ k) ∧ Aside0 (Kd.R k90 90 w' w.heap.size (fun _ => True) v9 x9_1) ∧ Aside0 (Below w.heap.size w w'))
 case atStart => exact ⟨(y864), (a1), eb_, H', ⟨Nat.le_refl _⟩, ⟨rx_ HO866.out⟩, bl_ HB⟩
 case round =>
  clear H'
  try clear c1
  try clear p2
  obtain ⟨x9_1, x10_1, rfl, HA, HK1, HO_9, HB⟩ := hrel
  cases gk with
  | zero => exact absurd HA.out (by simp [spec_l13Shift.l0])
  | succ k1 =>
   have H := HA.out
   clear HA
   simp only [spec_l13Shift.l0] at H
   by_cases c7 : x10_1 < a2
   ·rw [if_pos c7] at H
    have c7b0 : decide (x10_1 < a2) = true := decide_eq_true c7
    clear c7
    by_cases c8 : 0 ≤ x10_1
    ·rw [if_pos c8] at H
     have c8b0 : decide (0 ≤ x10_1) = true := decide_eq_true c8
     clear c8
     by_cases c9 : x10_1 < (l0.length : Int)
     ·rw [if_pos c9] at H
      have c9b0 : decide (x10_1 < (l0.length : Int)) = true := decide_eq_true c9
      clear c9
      by_cases c10 : x9_1.length < 8796093022208
      ·rw [if_pos c10] at H
       have LMc10 := Aside0.mk c10
       clear c10
       obtain ⟨y869, hy869⟩ : ∃ y_ : List (S90), y_ = (x9_1 ++ [(⟨(rd_T90 l0 x10_1).f0, wrap64 (((rd_T90 l0 x10_1).f1) + a3)⟩ : S90)]) := ⟨_, rfl⟩
       replace H : (spec_l13Shift.l0 k1 l0 a2 a3 y869 (wrap64 (x10_1 + 1))) = some r := by first | (rw [hy869]; with_reducible exact H) | (have H2_ := (Option.bind_some _ _).symm.trans H; rw [hy869]; with_reducible exact H2_) | (have H2_ := (Option.bind_some _ _).symm.trans H; with_reducible exact H2_) | with_reducible exact H | (rw [hy869]; exact H) | exact H
       have Ny869 := Aside0.mk hy869
       clear hy869
       have H' := Aside0.mk H
       clear H
       try go_wp2
       have n0_ := Aside0.mk (Kd.R_drew HO_9.out)
       have n1_ := Aside0.mk (below_drew1 HB.out)
       clear HO_9
       clear HB
       have HO_9 := n0_
       have HB := n1_
       clear n0_ n1_
       have p867 : 0 ≤ (x10_1 : Int) := od_
       have q867 : x10_1 < (l0.length : Int) := od_
       obtain ⟨ad867, e867, hx867_0, hx867_1⟩ := at_T90 HR0.out x10_1 p867 q867
       have hw867_1 := hx867_1
       have hw867_0 := hx867_0
       cases e867
       replace hx867_0 := ce_ HB hx867_0
       replace hx867_1 := ce_ HB hx867_1
       replace p867 := eq_true p867
       replace q867 := eq_true q867
       have p868 : 0 ≤ (x10_1 : Int) := od_
       have q868 : x10_1 < (l0.length : Int) := od_
       obtain ⟨ad868, e868, hx868_0, hx868_1⟩ := at_T90 HR0.out x10_1 p868 q868
       have hw868_1 := hx868_1
       have hw868_0 := hx868_0
       obtain rfl : ad867 = ad868 := (by injection e868)
       replace hx868_0 := ce_ HB hx868_0
       replace hx868_1 := ce_ HB hx868_1
       replace p868 := eq_true p868
       replace q868 := eq_true q868
       refine start_ (n := 17) (S := fun w' => w'.cell? (ad867.add ((x10_1).toNat * 2)) = some (.int .i64 ((rd_T90 l0 x10_1).f0)) ∧ w'.cell? ⟨(ad867.add ((x10_1).toNat * 2)).block, (ad867.add ((x10_1).toNat * 2)).off + 1, none⟩ = some (.int .i64 ((rd_T90 l0 x10_1).f1)) ∧ w'.cell? (ad867.add ((x10_1).toNat * 2)) = some (.int .i64 ((rd_T90 l0 x10_1).f0)) ∧ w'.cell? ⟨(ad867.add ((x10_1).toNat * 2)).block, (ad867.add ((x10_1).toNat * 2)).off + 1, none⟩ = some (.int .i64 ((rd_T90 l0 x10_1).f1))) (ds := []) (ba_ 17 0) (by kernel_rfl) rfl rfl ⟨(ce_ HB hw867_0), (ce_ HB hw867_1), (ce_ HB hw868_0), (ce_ HB hw868_1)⟩ (fun hHeld => ?_); refine with_tabW spec_l13Shift.tab5 spec_l13Shift.bits5 (fun HT_ HW_ => ?_)
       generalize wr.drew = w11 at HO_9 HB hx867_0 hx867_1 hx868_0 hx868_1 hHeld ⊢
       refine pu_ 0 (some 18) (ba_ 17 1) rfl rfl (any_of HT_.out (by kernel_rfl)) ?_
       refine pu_ 1 (some 19) (ba_ 17 3) rfl rfl (any_of HT_.out (by kernel_rfl)) ?_
       refine pu_ 2 (some 20) (ba_ 17 7) rfl rfl (any_of HT_.out (by kernel_rfl)) ?_
       refine pu_ 3 (some 21) (ba_ 17 15) rfl rfl (any_of HT_.out (by kernel_rfl)) ?_
       refine pu_ 4 (some 22) (ba_ 17 31) rfl rfl (any_of HT_.out (by kernel_rfl)) ?_
       refine pu_ 6 (some 24) (ba_ 17 95) rfl rfl (any_of HT_.out (by kernel_rfl)) ?_
       refine pu_ 7 (some 25) (ba_ 17 223) rfl rfl (any_of HT_.out (by kernel_rfl)) ?_
       refine pu_ 8 (some 26) (ba_ 17 479) rfl rfl (any_of HT_.out (by kernel_rfl)) ?_
       refine pu_ 9 (some 27) (ba_ 17 991) rfl rfl (any_of HT_.out (by kernel_rfl)) ?_
       refine pu_ 11 (some 29) (ba_ 17 3039) rfl rfl (any_of HT_.out (by kernel_rfl)) ?_
       refine ta_ 5 (some 23) (ba_ 17 3071) rfl rfl (take_ofW HT_.out HW_.out (by kernel_rfl)) hHeld (by rintro w' ⟨s0, s1, s2, s3⟩; go_simp; with_reducible rfl) ?_
       refine ta_ 10 (some 28) (ba_ 17 4095) rfl rfl (take_ofW HT_.out HW_.out (by kernel_rfl)) hHeld (by rintro w' ⟨s0, s1, s2, s3⟩; go_simp; with_reducible rfl) ?_
       refine pu_ 12 (some 30) (ba_ 17 8191) rfl rfl (any_of HT_.out (by kernel_rfl)) ?_
       refine pu_ 13 (some 31) (ba_ 17 16383) rfl rfl (any_of HT_.out (by kernel_rfl)) ?_
       refine one_ (i := 14) (N := some 32) (ba_ 17 32767) rfl rfl (one_of HT_.out (by kernel_rfl)) (by decide) (fun K hK => ?_)
       refine value_ (w1 := ?_) (v := ?_) (by rfl) rfl ?_ ?_
       rotate_left 2
       ·go_simp
        constructor
        ·rfl
        ·rfl
       refine hK.out _ _ ⟨(World.cell?_alloc_lt _ _ _ (World.block_lt_of_cell? _ _ ((ce_ HB hw867_0)))).trans ((ce_ HB hw867_0)), (World.cell?_alloc_lt _ _ _ (World.block_lt_of_cell? _ _ ((ce_ HB hw867_1)))).trans ((ce_ HB hw867_1)), (World.cell?_alloc_lt _ _ _ (World.block_lt_of_cell? _ _ ((ce_ HB hw868_0)))).trans ((ce_ HB hw868_0)), (World.cell?_alloc_lt _ _ _ (World.block_lt_of_cell? _ _ ((ce_ HB hw868_1)))).trans ((ce_ HB hw868_1))⟩ (fun hHeld => ?_)
       clear hK K
       refine norm_ (a' := ?_) ?_ ?_
       rotate_left
       ·show Act.put _ (some 32) _ = _
        simp only [Act.put, List.setIfInBounds_toArray, List.set_cons_zero, List.set_cons_succ, i64_w, i32_w]
        rfl
       refine one_ (i := 15) (N := some 33) (ba_ 17 65535) rfl rfl (one_of HT_.out (by kernel_rfl)) (by decide) (fun K hK => ?_)
       refine Kd.R_append_step k90 (w0 := w) w.heap.size (by rfl) (.tmp 18) (.tmp 32) 34 90 (.agg #[(.int .i64 0), (.int .i64 0)]) 16 rfl Try.underlying34 info90 rfl (by decide) (by omega) u9 x9_1 (⟨(rd_T90 l0 x10_1).f0, wrap64 (((rd_T90 l0 x10_1).f1) + a3)⟩ : S90) [.int .i64 ((rd_T90 l0 x10_1).f0), .int .i64 (wrap64 (((rd_T90 l0 x10_1).f1) + a3))] (fun _ => True) (fun _ => False) rfl rfl ?aP (fun _ hk => hk.elim) ?aF ?aO ?aB ?aS ?aL ?_
       (case aP => exact k90_mkM _ _ _ (⟨(rd_T90 l0 x10_1).f0, wrap64 (((rd_T90 l0 x10_1).f1) + a3)⟩ : S90))
       (case aB => exact ((bl_ HB).out))
       (case aF => exact (fun _ _ => trivial))
       (case aO => exact (rx_ HO_9.out))
       (case aS => exact (bs_ HB))
       (case aL => have := LMc10.out; omega)
       intro v870 w12 ho hb hg hat
       rw [← Ny869.out] at ho
       have n0_ := Aside0.mk (hb)
       have n1_ := Aside0.mk (ho)
       clear HB
       clear HO_9
       have HB := n0_
       have HO871 := n1_
       clear n0_ n1_
       clear ho hb hg hat
       refine hK.out _ _ ⟨(ce_ HB hw867_0), (ce_ HB hw867_1), (ce_ HB hw868_0), (ce_ HB hw868_1)⟩ (fun hHeld => ?_)
       clear hK K
       refine norm_ (a' := ?_) ?_ ?_
       rotate_left
       ·show Act.put _ (some 33) _ = _
        simp only [Act.put, List.setIfInBounds_toArray, List.set_cons_zero, List.set_cons_succ, i64_w, i32_w]
        rfl
       refine pu_ 16 (some 9) (ba_ 17 131071) rfl rfl (any_of HT_.out (by kernel_rfl)) ?_
       refine done_ (done_of HT_.out (by kernel_rfl)) ?_
       try go_wp2
       go_roundg k1
       case measure => have := HK1.out; omega
       case rel => exact ⟨(y869), (wrap64 (x10_1 + 1)), eb_, H', ⟨by have := HK1.out; omega⟩, ⟨rx_ HO871.out⟩, bl_ HB⟩
      ·rw [if_neg c10] at H
       exact absurd H (by simp)
     ·rw [if_neg c9] at H
      exact absurd H (by simp)
    ·rw [if_neg c8] at H
     exact absurd H (by simp)
   ·rw [if_neg c7] at H
    have c7b0 : decide (x10_1 < a2) = false := decide_eq_false c7
    clear c7
    obtain rfl := Option.some.inj H
    go_wp2
    go_ret
    exact ⟨_, ea_, rx_ HO_9.out, (bl_ HB).out⟩
end Go.Proofs.Ytbifdckfglejkaa.X
