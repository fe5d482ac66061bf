/- Part 6 of the proof of FnLeast: what it needs. -/
import Derived.Test.YtngphdmbjenkaaaKLLeast4
namespace Go.Proofs.Ytngphdmbjenkaaa.X
open Go.RowKit Go.Proofs.YtngphdmbjenkaaaW.PrintWords Go.Proofs.YtngphdmbjenkaaaW.PrintLast Go.Proofs.YtngphdmbjenkaaaW.PrintMore
attribute [local go_sem] max2_int min2_int max_two min_two max_three min_three max_four min_four   -- for this text's walks alone
set_option linter.unusedVariables false
set_option linter.unusedSimpArgs false
mutual
def spec_MapOk.l0 : Nat → List (S77) → List (S77) → List (S48) → Int → Option (Bool)
 | 0, _, _, _, _ => none
 | k + 1, x0, x1, x2, x7 => if x7 < (x2.length : Int) then (if 0 ≤ x7 then ((spec_l3At.f k x0 ((rd_T48 x2 x7).f0)).bind fun t612 => (if t612 = true then ((spec_l3At.f k x1 ((rd_T48 x2 x7).f1)).bind fun t614 => (if t614 = true then (if x7 > 0 then (if 0 ≤ (wrap64 (x7 - 1)) then (if (wrap64 (x7 - 1)) < (x2.length : Int) then (spec_MapOk.j1 k x0 x1 x2 x7 (decide (((rd_T48 x2 x7).f0) ≤ ((rd_T48 x2 (wrap64 (x7 - 1))).f0)))) else (none)) else (none)) else (spec_MapOk.j1 k x0 x1 x2 x7 false)) else (spec_MapOk.j1 k x0 x1 x2 x7 true))) else (spec_MapOk.j1 k x0 x1 x2 x7 true))) else (none)) else ((spec_TreeOk.f k x0).bind fun t609 => (if t609 = true then ((spec_TreeOk.f k x1).bind fun t610 => (some t610)) else (some false)))
def spec_MapOk.j1 : Nat → List (S77) → List (S77) → List (S48) → Int → Bool → Option (Bool)
 | 0, _, _, _, _, _ => none
 | k + 1, x0, x1, x2, x7, x50 => if x50 = true then (some false) else (spec_MapOk.l1 k x0 x1 x2 x7 0)
def spec_MapOk.l1 : Nat → List (S77) → List (S77) → List (S48) → Int → Int → Option (Bool)
 | 0, _, _, _, _, _ => none
 | k + 1, x0, x1, x2, x7, x8 => if x8 < x7 then (if 0 ≤ x8 then (if x8 < (x2.length : Int) then (if 0 ≤ x7 then (if x7 < (x2.length : Int) then (if ((rd_T48 x2 x8).f1) ≥ ((rd_T48 x2 x7).f1) then (some false) else ((spec_Under.f k x0 ((rd_T48 x2 x8).f0) ((rd_T48 x2 x7).f0)).bind fun t621 => ((spec_Under.f k x1 ((rd_T48 x2 x8).f1) ((rd_T48 x2 x7).f1)).bind fun t624 => (if (t621 != t624) = true then (some false) else (spec_MapOk.l1 k x0 x1 x2 x7 (wrap64 (x8 + 1))))))) else (none)) else (none)) else (none)) else (none)) else (spec_MapOk.l0 k x0 x1 x2 (wrap64 (x7 + 1)))
end
def spec_MapOk.f (k : Nat) (l0 : List (S77)) (l1 : List (S77)) (l2 : List (S48)) : Option (Bool) := spec_MapOk.l0 k l0 l1 l2 0
def spec_MapOk.T4 : Bool × List (List Nat × List Nat) := (true, [([], []), ([], []), ([], []), ([1, 2], [1, 2]), ([3], [3]), ([4], [4]), ([0, 5], [0, 5]), ([6], [6]), ([7, 6], [7]), ([8], [8]), ([8], [8]), ([8], [8]), ([10, 11, 8], [8, 10, 11]), ([12, 8], [8, 12]), ([13, 8], [8, 13]), ([9, 14, 8, 8], [8, 9, 14]), ([15, 8], [8, 15]), ([8, 16], [8, 16]), ([17, 15], [17]), ([18], [18]), ([19, 18], [18, 19]), ([20, 18, 18], [18, 20]), ([21], [21]), ([21], [21]), ([22, 23, 21], [21, 22, 23]), ([24, 21], [21, 24]), ([25, 21], [21, 25]), ([21], [21]), ([21], [21]), ([28, 21], [21, 28]), ([27, 29, 21], [21, 27, 29]), ([30, 21], [21, 30]), ([31, 21], [21, 31]), ([26, 32, 21], [21, 26, 32]), ([21, 33, 18], [18, 21, 33]), ([18, 34], [18, 34])])
def spec_MapOk.B4 : List Nat := [0, 0, 0, 6, 14, 30, 63, 127, 255, 511, 511, 511, 3583, 7679, 15871, 32767, 65535, 131071, 262143, 524287, 1048575, 2097151, 4194303, 4194303, 16777215, 33554431, 67108863, 4194303, 4194303, 272629759, 943718399, 2017460223, 4164943871, 8589934591, 17179869183, 34359738367]
theorem spec_MapOk.tab4 : rtab .any (opsOf Try.f20 4) = spec_MapOk.T4 := by kernel_rfl
theorem spec_MapOk.bits4 : waitsOk spec_MapOk.T4.2 spec_MapOk.B4 = true := by kernel_rfl
def spec_MapOk.T9 : Bool × List (List Nat × List Nat) := (true, [([], []), ([], []), ([0, 1], [0, 1]), ([2], [2]), ([3], [3]), ([], []), ([], []), ([5, 6], [5, 6]), ([7], [7]), ([8], [8]), ([4, 9], [4, 9]), ([10], [10]), ([11], [11]), ([11], [11]), ([11], [11]), ([13, 14, 11], [11, 13, 14]), ([15, 11], [11, 15]), ([16, 11], [11, 16]), ([11], [11]), ([11], [11]), ([18, 19, 11], [11, 18, 19]), ([20, 11], [11, 20]), ([21, 11], [11, 21]), ([12, 17, 22, 11, 11], [11, 12, 17, 22]), ([11], [11]), ([11], [11]), ([11], [11]), ([25, 26, 11], [11, 25, 26]), ([27, 11], [11, 27]), ([28, 11], [11, 28]), ([11], [11]), ([11], [11]), ([30, 31, 11], [11, 30, 31]), ([32, 11], [11, 32]), ([33, 11], [11, 33]), ([24, 29, 34, 23, 11], [11, 24, 29, 34]), ([23, 35, 11], [11, 23, 35]), ([11, 36], [11, 36])])
def spec_MapOk.B9 : List Nat := [0, 0, 3, 7, 15, 0, 0, 96, 224, 480, 1023, 2047, 4095, 4095, 4095, 28671, 61439, 126975, 4095, 4095, 790527, 1839103, 3936255, 8388607, 4095, 4095, 4095, 100667391, 234885119, 503320575, 4095, 4095, 3221229567, 7516196863, 16106131455, 34359738367, 68719476735, 137438953471]
theorem spec_MapOk.tab9 : rtab .any (opsOf Try.f20 9) = spec_MapOk.T9 := by kernel_rfl
theorem spec_MapOk.bits9 : waitsOk spec_MapOk.T9.2 spec_MapOk.B9 = true := by kernel_rfl
set_option maxHeartbeats 8000000 in
set_option maxRecDepth 100000 in
theorem spec_MapOk.calls (k : Nat) (A0 : Option Addr) (c0 : Nat) (l0 : List (S77)) (A1 : Option Addr) (c1 : Nat) (l1 : List (S77)) (A2 : Option Addr) (c2 : Nat) (l2 : List (S48)) (r : Bool) (w : World) (hr0 : Kd.C k77 w A0 l0.length l0) (hc0 : l0.length ≤ c0) (hr1 : Kd.C k77 w A1 l1.length l1) (hc1 : l1.length ≤ c1) (hr2 : Kd.C k48 w A2 l2.length l2) (hc2 : l2.length ≤ c2) (h : spec_MapOk.f k l0 l1 l2 = some r) :
  Calls Try.prog 20 #[.slice A0 l0.length c0, .slice A1 l1.length c1, .slice A2 l2.length c2] w fun e w' => e = .returned (.bool r) ∧ Below w.heap.size w w' := by
 have HR0 := Aside0.mk hr0
 have HC0 := Aside0.mk hc0
 clear hr0 hc0
 have HR1 := Aside0.mk hr1
 have HC1 := Aside0.mk hc1
 clear hr1 hc1
 have HR2 := Aside0.mk hr2
 have HC2 := Aside0.mk hc2
 clear hr2 hc2
 have HB := Aside0.mk (Below.refl w.heap.size w)
 have H : (spec_MapOk.l0 k l0 l1 l2 0) = some r := h
 clear h
 have H' := Aside0.mk H
 clear H
 go_enter Try.func20, Try.ntmps20
 go_wp2
 go_loopg [7] k (fun kq v7 w' => ∃ (x7_1 : Int), v7 = .int .i64 x7_1 ∧ Aside0 (spec_MapOk.l0 kq l0 l1 l2 x7_1 = some r) ∧ Aside0 (kq ≤ k) ∧ Aside0 (Below w.heap.size w w'))
 case atStart => exact ⟨(0), eb_, H', ⟨Nat.le_refl _⟩, bl_ HB⟩
 case round =>
  clear H'
  try clear c1
  try clear c2
  try clear p2
  obtain ⟨x7_1, rfl, HA, HK1, HB⟩ := hrel
  cases gk with
  | zero => exact absurd HA.out (by simp [spec_MapOk.l0])
  | succ k1 =>
   have H := HA.out
   clear HA
   simp only [spec_MapOk.l0] at H
   by_cases c4 : x7_1 < (l2.length : Int)
   ·rw [if_pos c4] at H
    have c4b0 : decide (x7_1 < (l2.length : Int)) = true := decide_eq_true c4
    clear c4
    have HC5 := Aside0.mk H
    clear H
    go_upto_region 4 with (fail)
    go_cut [50] (fun v50 wc => ∃ (kq : Nat) (x50_4 : Bool), v50 = .bool x50_4 ∧ Aside0 (spec_MapOk.j1 kq l0 l1 l2 x7_1 x50_4 = some r) ∧ Aside0 (kq ≤ k1) ∧ Aside0 (Below w.heap.size w wc))
    case first =>
     have H := HC5.out
     clear HC5
     by_cases c6 : 0 ≤ x7_1
     ·rw [if_pos c6] at H
      have c6b0 : decide (0 ≤ x7_1) = true := decide_eq_true c6
      clear c6
      (first | rw [c6b0] | (simp only [i64_w, i32_w]; rw [c6b0]) | skip)
      replace H := Option.bind_eq_some_iff.mp H
      obtain ⟨t612, A70, H⟩ := H
      try dsimp only at H
      have A7 := Aside0.mk A70
      clear A70
      by_cases c8 : t612 = true
      ·subst c8
       have H1 : ((spec_l3At.f k1 l1 ((rd_T48 l2 x7_1).f1)).bind fun t614 => (if t614 = true then (if x7_1 > 0 then (if 0 ≤ (wrap64 (x7_1 - 1)) then (if (wrap64 (x7_1 - 1)) < (l2.length : Int) then (spec_MapOk.j1 k1 l0 l1 l2 x7_1 (decide (((rd_T48 l2 x7_1).f0) ≤ ((rd_T48 l2 (wrap64 (x7_1 - 1))).f0)))) else (none)) else (none)) else (spec_MapOk.j1 k1 l0 l1 l2 x7_1 false)) else (spec_MapOk.j1 k1 l0 l1 l2 x7_1 true))) = some r := by rw [if_pos rfl] at H; exact H
       clear H
       have H := H1
       clear H1
       replace H := Option.bind_eq_some_iff.mp H
       obtain ⟨t614, A90, H⟩ := H
       try dsimp only at H
       have A9 := Aside0.mk A90
       clear A90
       by_cases c10 : t614 = true
       ·subst c10
        have H1 : (if x7_1 > 0 then (if 0 ≤ (wrap64 (x7_1 - 1)) then (if (wrap64 (x7_1 - 1)) < (l2.length : Int) then (spec_MapOk.j1 k1 l0 l1 l2 x7_1 (decide (((rd_T48 l2 x7_1).f0) ≤ ((rd_T48 l2 (wrap64 (x7_1 - 1))).f0)))) else (none)) else (none)) else (spec_MapOk.j1 k1 l0 l1 l2 x7_1 false)) = some r := by rw [if_pos rfl] at H; exact H
        clear H
        have H := H1
        clear H1
        by_cases c11 : x7_1 > 0
        ·rw [if_pos c11] at H
         have c11b0 : decide (0 < x7_1) = true := decide_eq_true c11
         clear c11
         obtain ⟨ji12, hji12⟩ : ∃ j_ : Int, (wrap64 (x7_1 - 1)) = j_ := ⟨_, rfl⟩
         replace H : (if 0 ≤ (ji12) then (if (ji12) < (l2.length : Int) then (spec_MapOk.j1 k1 l0 l1 l2 x7_1 (decide (((rd_T48 l2 x7_1).f0) ≤ ((rd_T48 l2 (ji12)).f0)))) else (none)) else (none)) = some r := by first | (rw [hji12] at H; exact H) | (simp only [hji12] at H ⊢; exact H)
         (try rw [hji12] at A7)
         (try rw [hji12] at A9)
         have hji12w : (IntKind.i64.wrap (x7_1 - 1)) = ji12 := (i64_w _).trans hji12
         by_cases c13 : 0 ≤ (ji12)
         ·rw [if_pos c13] at H
          have c13b0 : decide (0 ≤ (ji12)) = true := decide_eq_true c13
          clear c13
          by_cases c14 : (ji12) < (l2.length : Int)
          ·rw [if_pos c14] at H
           have c14b0 : decide ((ji12) < (l2.length : Int)) = true := decide_eq_true c14
           clear c14
           have H' := Aside0.mk H
           clear H
           try go_wp2
           have n0_ := Aside0.mk (below_drew1 HB.out)
           clear HB
           have HB := n0_
           clear n0_
           have p611 : 0 ≤ (x7_1 : Int) := od_
           have q611 : x7_1 < (l2.length : Int) := od_
           obtain ⟨ad611, e611, hx611_0, hx611_1⟩ := at_T48 HR2.out x7_1 p611 q611
           have hw611_1 := hx611_1
           have hw611_0 := hx611_0
           cases e611
           replace hx611_0 := ce_ HB hx611_0
           replace hx611_1 := ce_ HB hx611_1
           replace p611 := eq_true p611
           replace q611 := eq_true q611
           have p613 : 0 ≤ (x7_1 : Int) := od_
           have q613 : x7_1 < (l2.length : Int) := od_
           obtain ⟨ad613, e613, hx613_0, hx613_1⟩ := at_T48 HR2.out x7_1 p613 q613
           have hw613_1 := hx613_1
           have hw613_0 := hx613_0
           obtain rfl : ad611 = ad613 := (by injection e613)
           replace hx613_0 := ce_ HB hx613_0
           replace hx613_1 := ce_ HB hx613_1
           replace p613 := eq_true p613
           replace q613 := eq_true q613
           have p615 : 0 ≤ (x7_1 : Int) := od_
           have q615 : x7_1 < (l2.length : Int) := od_
           obtain ⟨ad615, e615, hx615_0, hx615_1⟩ := at_T48 HR2.out x7_1 p615 q615
           have hw615_1 := hx615_1
           have hw615_0 := hx615_0
           obtain rfl : ad611 = ad615 := (by injection e615)
           replace hx615_0 := ce_ HB hx615_0
           replace hx615_1 := ce_ HB hx615_1
           replace p615 := eq_true p615
           replace q615 := eq_true q615
           have p616 : 0 ≤ ((ji12) : Int) := od_
           have q616 : (ji12) < (l2.length : Int) := od_
           obtain ⟨ad616, e616, hx616_0, hx616_1⟩ := at_T48 HR2.out (ji12) p616 q616
           have hw616_1 := hx616_1
           have hw616_0 := hx616_0
           obtain rfl : ad611 = ad616 := (by injection e616)
           replace hx616_0 := ce_ HB hx616_0
           replace hx616_1 := ce_ HB hx616_1
           replace p616 := eq_true p616
           replace q616 := eq_true q616
           refine start_ (n := 36) (S := fun w' => w'.cell? (ad611.add ((x7_1).toNat * 2)) = some (.int .i64 ((rd_T48 l2 x7_1).f0)) ∧ w'.cell? ⟨(ad611.add ((x7_1).toNat * 2)).block, (ad611.add ((x7_1).toNat * 2)).off + 1, none⟩ = some (.int .i64 ((rd_T48 l2 x7_1).f1)) ∧ w'.cell? (ad611.add ((x7_1).toNat * 2)) = some (.int .i64 ((rd_T48 l2 x7_1).f0)) ∧ w'.cell? ⟨(ad611.add ((x7_1).toNat * 2)).block, (ad611.add ((x7_1).toNat * 2)).off + 1, none⟩ = some (.int .i64 ((rd_T48 l2 x7_1).f1)) ∧ w'.cell? (ad611.add ((x7_1).toNat * 2)) = some (.int .i64 ((rd_T48 l2 x7_1).f0)) ∧ w'.cell? ⟨(ad611.add ((x7_1).toNat * 2)).block, (ad611.add ((x7_1).toNat * 2)).off + 1, none⟩ = some (.int .i64 ((rd_T48 l2 x7_1).f1)) ∧ w'.cell? (ad611.add (((ji12)).toNat * 2)) = some (.int .i64 ((rd_T48 l2 (ji12)).f0)) ∧ w'.cell? ⟨(ad611.add (((ji12)).toNat * 2)).block, (ad611.add (((ji12)).toNat * 2)).off + 1, none⟩ = some (.int .i64 ((rd_T48 l2 (ji12)).f1))) (ds := []) (ba_ 36 0) (by kernel_rfl) rfl rfl ⟨(ce_ HB hw611_0), (ce_ HB hw611_1), (ce_ HB hw613_0), (ce_ HB hw613_1), (ce_ HB hw615_0), (ce_ HB hw615_1), (ce_ HB hw616_0), (ce_ HB hw616_1)⟩ (fun hHeld => ?_); refine with_tabW spec_MapOk.tab4 spec_MapOk.bits4 (fun HT_ HW_ => ?_)
           generalize wr.drew = w15 at HB hx611_0 hx611_1 hx613_0 hx613_1 hx615_0 hx615_1 hx616_0 hx616_1 hHeld ⊢
           refine pu_ 0 (some 15) (ba_ 36 1) rfl rfl (any_of HT_.out (by kernel_rfl)) ?_
           refine pu_ 1 (some 16) (ba_ 36 3) rfl rfl (any_of HT_.out (by kernel_rfl)) ?_
           refine pu_ 2 (some 17) (ba_ 36 7) rfl rfl (any_of HT_.out (by kernel_rfl)) ?_
           refine pu_ 3 (some 18) (ba_ 36 15) rfl rfl (any_of HT_.out (by kernel_rfl)) ?_
           refine pu_ 4 (some 19) (ba_ 36 31) rfl rfl (any_of HT_.out (by kernel_rfl)) ?_
           refine ta_ 5 (some 20) (ba_ 36 63) rfl rfl (take_ofW HT_.out HW_.out (by kernel_rfl)) hHeld (by rintro w' ⟨s0, s1, s2, s3, s4, s5, s6, s7⟩; go_simp; with_reducible rfl) ?_
           refine one_ (i := 6) (N := some 21) (ba_ 36 127) rfl rfl (one_of HT_.out (by kernel_rfl)) (by decide) (fun K hK => ?_)
           refine goes_ Try.func70 (by kernel_rfl) rfl #[.slice A0 l0.length c0, .int .i64 ((rd_T48 l2 x7_1).f0)] (by rfl) rfl rfl (by (try simp only [List.map_toArray, List.map_cons, List.map_nil]); first | done | rfl | (simp only [List.length_drop, List.length_take]; rfl)) ?_
           with_reducible refine (spec_l3At.calls k1 _ _ l0 ((rd_T48 l2 x7_1).f0) true _ ?side1 ?side2 A7.out).mono ?_
           (case side1 => exact cx_ HR0 HB)
           (case side2 => exact HC0.out)
           rintro e w16 ⟨rfl, hb⟩
           refine ⟨_, rfl, ?_⟩
           have n0_ := tB_ HB hb
           clear HB
           have HB := n0_
           clear n0_
           (try clear hb)
           (try clear hb2)
           (try clear hk)
           (try clear hi)
           refine hK.out _ _ ⟨(ce_ HB hw611_0), (ce_ HB hw611_1), (ce_ HB hw613_0), (ce_ HB hw613_1), (ce_ HB hw615_0), (ce_ HB hw615_1), (ce_ HB hw616_0), (ce_ HB hw616_1)⟩ (fun hHeld => ?_)
           clear hK K
           refine norm_ (a' := ?_) ?_ ?_
           rotate_left
           ·show Act.put _ (some 21) _ = _
            simp only [Act.put, List.setIfInBounds_toArray, List.set_cons_zero, List.set_cons_succ, i64_w, i32_w]
            rfl
           refine pu_ 7 (some 22) (ba_ 36 255) rfl rfl (any_of HT_.out (by kernel_rfl)) ?_
           refine pu_ 8 (some 23) (ba_ 36 511) rfl rfl (any_of HT_.out (by kernel_rfl)) ?_
           refine pu_ 9 (some 24) (ba_ 36 1023) rfl rfl (any_of HT_.out (by kernel_rfl)) ?_
           refine pu_ 10 (some 25) (ba_ 36 2047) rfl rfl (any_of HT_.out (by kernel_rfl)) ?_
           refine pu_ 11 (some 26) (ba_ 36 4095) rfl rfl (any_of HT_.out (by kernel_rfl)) ?_
           refine pu_ 12 (some 27) (ba_ 36 8191) rfl rfl (any_of HT_.out (by kernel_rfl)) ?_
           refine pu_ 13 (some 28) (ba_ 36 16383) rfl rfl (any_of HT_.out (by kernel_rfl)) ?_
           refine ta_ 14 (some 29) (ba_ 36 32767) rfl rfl (take_ofW HT_.out HW_.out (by kernel_rfl)) hHeld (by rintro w' ⟨s0, s1, s2, s3, s4, s5, s6, s7⟩; go_simp; with_reducible rfl) ?_
           refine one_ (i := 15) (N := some 30) (ba_ 36 65535) rfl rfl (one_of HT_.out (by kernel_rfl)) (by decide) (fun K hK => ?_)
           refine goes_ Try.func70 (by kernel_rfl) rfl #[.slice A1 l1.length c1, .int .i64 ((rd_T48 l2 x7_1).f1)] (by rfl) rfl rfl (by (try simp only [List.map_toArray, List.map_cons, List.map_nil]); first | done | rfl | (simp only [List.length_drop, List.length_take]; rfl)) ?_
           with_reducible refine (spec_l3At.calls k1 _ _ l1 ((rd_T48 l2 x7_1).f1) true _ ?side1 ?side2 A9.out).mono ?_
           (case side1 => exact cx_ HR1 HB)
           (case side2 => exact HC1.out)
           rintro e w17 ⟨rfl, hb⟩
           refine ⟨_, rfl, ?_⟩
           have n0_ := tB_ HB hb
           clear HB
           have HB := n0_
           clear n0_
           (try clear hb)
           (try clear hb2)
           (try clear hk)
           (try clear hi)
           refine hK.out _ _ ⟨(ce_ HB hw611_0), (ce_ HB hw611_1), (ce_ HB hw613_0), (ce_ HB hw613_1), (ce_ HB hw615_0), (ce_ HB hw615_1), (ce_ HB hw616_0), (ce_ HB hw616_1)⟩ (fun hHeld => ?_)
           clear hK K
           refine norm_ (a' := ?_) ?_ ?_
           rotate_left
           ·show Act.put _ (some 30) _ = _
            simp only [Act.put, List.setIfInBounds_toArray, List.set_cons_zero, List.set_cons_succ, i64_w, i32_w]
            rfl
           refine pu_ 16 (some 31) (ba_ 36 131071) rfl rfl (any_of HT_.out (by kernel_rfl)) ?_
           refine pu_ 17 (some 32) (ba_ 36 262143) rfl rfl (any_of HT_.out (by kernel_rfl)) ?_
           refine pu_ 18 (some 33) (ba_ 36 524287) rfl rfl (any_of HT_.out (by kernel_rfl)) ?_
           refine pu_ 19 (some 34) (ba_ 36 1048575) rfl rfl (any_of HT_.out (by kernel_rfl)) ?_
           refine pu_ 20 (some 35) (ba_ 36 2097151) rfl rfl (any_of HT_.out (by kernel_rfl)) ?_
           refine pu_ 21 (some 36) (ba_ 36 4194303) rfl rfl (any_of HT_.out (by kernel_rfl)) ?_
           refine pu_ 22 (some 37) (ba_ 36 8388607) rfl rfl (any_of HT_.out (by kernel_rfl)) ?_
           refine pu_ 23 (some 38) (ba_ 36 16777215) rfl rfl (any_of HT_.out (by kernel_rfl)) ?_
           refine pu_ 24 (some 39) (ba_ 36 33554431) rfl rfl (any_of HT_.out (by kernel_rfl)) ?_
           refine pu_ 25 (some 40) (ba_ 36 67108863) rfl rfl (any_of HT_.out (by kernel_rfl)) ?_
           refine pu_ 27 (some 42) (ba_ 36 201326591) rfl rfl (any_of HT_.out (by kernel_rfl)) ?_
           refine pu_ 28 (some 43) (ba_ 36 469762047) rfl rfl (any_of HT_.out (by kernel_rfl)) ?_
           refine pu_ 29 (some 44) (ba_ 36 1006632959) rfl rfl (any_of HT_.out (by kernel_rfl)) ?_
           refine pu_ 30 (some 45) (ba_ 36 2080374783) rfl rfl (any_of HT_.out (by kernel_rfl)) ?_
           refine pu_ 31 (some 46) (ba_ 36 4227858431) rfl rfl (any_of HT_.out (by kernel_rfl)) ?_
           refine ta_ 26 (some 41) (ba_ 36 4294967295) rfl rfl (take_ofW HT_.out HW_.out (by kernel_rfl)) hHeld (by rintro w' ⟨s0, s1, s2, s3, s4, s5, s6, s7⟩; go_simp; with_reducible rfl) ?_
           refine ta_ 32 (some 47) (ba_ 36 8589934591) rfl rfl (take_ofW HT_.out HW_.out (by kernel_rfl)) hHeld (by rintro w' ⟨s0, s1, s2, s3, s4, s5, s6, s7⟩; go_simp; with_reducible rfl) ?_
           refine pu_ 33 (some 48) (ba_ 36 17179869183) rfl rfl (any_of HT_.out (by kernel_rfl)) ?_
           refine pu_ 34 (some 49) (ba_ 36 34359738367) rfl rfl (any_of HT_.out (by kernel_rfl)) ?_
           refine pu_ 35 (some 50) (ba_ 36 68719476735) rfl rfl (any_of HT_.out (by kernel_rfl)) ?_
           refine done_ (done_of HT_.out (by kernel_rfl)) ?_
           try go_wp2
           go_meet
           case rel => exact ⟨_, (decide (((rd_T48 l2 x7_1).f0) ≤ ((rd_T48 l2 (ji12)).f0))), (by first | rfl | (simp; done) | (simp only [← hji12] <;> (first | rfl | simp)) | (simp [*]; done)), H', ⟨by have := HK1.out; first | omega | exact Nat.le_refl _⟩, bl_ HB⟩
          ·rw [if_neg c14] at H
           exact absurd H (by simp)
         ·rw [if_neg c13] at H
          exact absurd H (by simp)
        ·rw [if_neg c11] at H
         have c11b0 : decide (0 < x7_1) = false := decide_eq_false c11
         clear c11
         have H' := Aside0.mk H
         clear H
         try go_wp2
         have n0_ := Aside0.mk (below_drew1 HB.out)
         clear HB
         have HB := n0_
         clear n0_
         have p611 : 0 ≤ (x7_1 : Int) := od_
         have q611 : x7_1 < (l2.length : Int) := od_
         obtain ⟨ad611, e611, hx611_0, hx611_1⟩ := at_T48 HR2.out x7_1 p611 q611
         have hw611_1 := hx611_1
         have hw611_0 := hx611_0
         cases e611
         replace hx611_0 := ce_ HB hx611_0
         replace hx611_1 := ce_ HB hx611_1
         replace p611 := eq_true p611
         replace q611 := eq_true q611
         have p613 : 0 ≤ (x7_1 : Int) := od_
         have q613 : x7_1 < (l2.length : Int) := od_
         obtain ⟨ad613, e613, hx613_0, hx613_1⟩ := at_T48 HR2.out x7_1 p613 q613
         have hw613_1 := hx613_1
         have hw613_0 := hx613_0
         obtain rfl : ad611 = ad613 := (by injection e613)
         replace hx613_0 := ce_ HB hx613_0
         replace hx613_1 := ce_ HB hx613_1
         replace p613 := eq_true p613
         replace q613 := eq_true q613
         refine start_ (n := 36) (S := fun w' => w'.cell? (ad611.add ((x7_1).toNat * 2)) = some (.int .i64 ((rd_T48 l2 x7_1).f0)) ∧ w'.cell? ⟨(ad611.add ((x7_1).toNat * 2)).block, (ad611.add ((x7_1).toNat * 2)).off + 1, none⟩ = some (.int .i64 ((rd_T48 l2 x7_1).f1)) ∧ w'.cell? (ad611.add ((x7_1).toNat * 2)) = some (.int .i64 ((rd_T48 l2 x7_1).f0)) ∧ w'.cell? ⟨(ad611.add ((x7_1).toNat * 2)).block, (ad611.add ((x7_1).toNat * 2)).off + 1, none⟩ = some (.int .i64 ((rd_T48 l2 x7_1).f1))) (ds := []) (ba_ 36 0) (by kernel_rfl) rfl rfl ⟨(ce_ HB hw611_0), (ce_ HB hw611_1), (ce_ HB hw613_0), (ce_ HB hw613_1)⟩ (fun hHeld => ?_); refine with_tabW spec_MapOk.tab4 spec_MapOk.bits4 (fun HT_ HW_ => ?_)
         generalize wr.drew = w18 at HB hx611_0 hx611_1 hx613_0 hx613_1 hHeld ⊢
         refine pu_ 0 (some 15) (ba_ 36 1) rfl rfl (any_of HT_.out (by kernel_rfl)) ?_
         refine pu_ 1 (some 16) (ba_ 36 3) rfl rfl (any_of HT_.out (by kernel_rfl)) ?_
         refine pu_ 2 (some 17) (ba_ 36 7) rfl rfl (any_of HT_.out (by kernel_rfl)) ?_
         refine pu_ 3 (some 18) (ba_ 36 15) rfl rfl (any_of HT_.out (by kernel_rfl)) ?_
         refine pu_ 4 (some 19) (ba_ 36 31) rfl rfl (any_of HT_.out (by kernel_rfl)) ?_
         refine ta_ 5 (some 20) (ba_ 36 63) rfl rfl (take_ofW HT_.out HW_.out (by kernel_rfl)) hHeld (by rintro w' ⟨s0, s1, s2, s3⟩; go_simp; with_reducible rfl) ?_
         refine one_ (i := 6) (N := some 21) (ba_ 36 127) rfl rfl (one_of HT_.out (by kernel_rfl)) (by decide) (fun K hK => ?_)
         refine goes_ Try.func70 (by kernel_rfl) rfl #[.slice A0 l0.length c0, .int .i64 ((rd_T48 l2 x7_1).f0)] (by rfl) rfl rfl (by (try simp only [List.map_toArray, List.map_cons, List.map_nil]); first | done | rfl | (simp only [List.length_drop, List.length_take]; rfl)) ?_
         with_reducible refine (spec_l3At.calls k1 _ _ l0 ((rd_T48 l2 x7_1).f0) true _ ?side1 ?side2 A7.out).mono ?_
         (case side1 => exact cx_ HR0 HB)
         (case side2 => exact HC0.out)
         rintro e w19 ⟨rfl, hb⟩
         refine ⟨_, rfl, ?_⟩
         have n0_ := tB_ HB hb
         clear HB
         have HB := n0_
         clear n0_
         (try clear hb)
         (try clear hb2)
         (try clear hk)
         (try clear hi)
         refine hK.out _ _ ⟨(ce_ HB hw611_0), (ce_ HB hw611_1), (ce_ HB hw613_0), (ce_ HB hw613_1)⟩ (fun hHeld => ?_)
         clear hK K
         refine norm_ (a' := ?_) ?_ ?_
         rotate_left
         ·show Act.put _ (some 21) _ = _
          simp only [Act.put, List.setIfInBounds_toArray, List.set_cons_zero, List.set_cons_succ, i64_w, i32_w]
          rfl
         refine pu_ 7 (some 22) (ba_ 36 255) rfl rfl (any_of HT_.out (by kernel_rfl)) ?_
         refine pu_ 8 (some 23) (ba_ 36 511) rfl rfl (any_of HT_.out (by kernel_rfl)) ?_
         refine pu_ 9 (some 24) (ba_ 36 1023) rfl rfl (any_of HT_.out (by kernel_rfl)) ?_
         refine pu_ 10 (some 25) (ba_ 36 2047) rfl rfl (any_of HT_.out (by kernel_rfl)) ?_
         refine pu_ 11 (some 26) (ba_ 36 4095) rfl rfl (any_of HT_.out (by kernel_rfl)) ?_
         refine pu_ 12 (some 27) (ba_ 36 8191) rfl rfl (any_of HT_.out (by kernel_rfl)) ?_
         refine pu_ 13 (some 28) (ba_ 36 16383) rfl rfl (any_of HT_.out (by kernel_rfl)) ?_
         refine ta_ 14 (some 29) (ba_ 36 32767) rfl rfl (take_ofW HT_.out HW_.out (by kernel_rfl)) hHeld (by rintro w' ⟨s0, s1, s2, s3⟩; go_simp; with_reducible rfl) ?_
         refine one_ (i := 15) (N := some 30) (ba_ 36 65535) rfl rfl (one_of HT_.out (by kernel_rfl)) (by decide) (fun K hK => ?_)
         refine goes_ Try.func70 (by kernel_rfl) rfl #[.slice A1 l1.length c1, .int .i64 ((rd_T48 l2 x7_1).f1)] (by rfl) rfl rfl (by (try simp only [List.map_toArray, List.map_cons, List.map_nil]); first | done | rfl | (simp only [List.length_drop, List.length_take]; rfl)) ?_
         with_reducible refine (spec_l3At.calls k1 _ _ l1 ((rd_T48 l2 x7_1).f1) true _ ?side1 ?side2 A9.out).mono ?_
         (case side1 => exact cx_ HR1 HB)
         (case side2 => exact HC1.out)
         rintro e w20 ⟨rfl, hb⟩
         refine ⟨_, rfl, ?_⟩
         have n0_ := tB_ HB hb
         clear HB
         have HB := n0_
         clear n0_
         (try clear hb)
         (try clear hb2)
         (try clear hk)
         (try clear hi)
         refine hK.out _ _ ⟨(ce_ HB hw611_0), (ce_ HB hw611_1), (ce_ HB hw613_0), (ce_ HB hw613_1)⟩ (fun hHeld => ?_)
         clear hK K
         refine norm_ (a' := ?_) ?_ ?_
         rotate_left
         ·show Act.put _ (some 30) _ = _
          simp only [Act.put, List.setIfInBounds_toArray, List.set_cons_zero, List.set_cons_succ, i64_w, i32_w]
          rfl
         refine pu_ 16 (some 31) (ba_ 36 131071) rfl rfl (any_of HT_.out (by kernel_rfl)) ?_
         refine pu_ 17 (some 32) (ba_ 36 262143) rfl rfl (any_of HT_.out (by kernel_rfl)) ?_
         refine pu_ 18 (some 33) (ba_ 36 524287) rfl rfl (any_of HT_.out (by kernel_rfl)) ?_
         refine pu_ 19 (some 34) (ba_ 36 1048575) rfl rfl (any_of HT_.out (by kernel_rfl)) ?_
         refine pu_ 20 (some 35) (ba_ 36 2097151) rfl rfl (any_of HT_.out (by kernel_rfl)) ?_
         refine pu_ 21 (some 36) (ba_ 36 4194303) rfl rfl (any_of HT_.out (by kernel_rfl)) ?_
         refine pn_ 22 (some 37) (ba_ 36 8388607) rfl rfl (any_of HT_.out (by kernel_rfl)) ?_
         refine pn_ 23 (some 38) (ba_ 36 16777215) rfl rfl (any_of HT_.out (by kernel_rfl)) ?_
         refine pn_ 24 (some 39) (ba_ 36 33554431) rfl rfl (any_of HT_.out (by kernel_rfl)) ?_
         refine pn_ 25 (some 40) (ba_ 36 67108863) rfl rfl (any_of HT_.out (by kernel_rfl)) ?_
         refine pn_ 26 (some 41) (ba_ 36 134217727) rfl rfl (any_of HT_.out (by kernel_rfl)) ?_
         refine pn_ 27 (some 42) (ba_ 36 268435455) rfl rfl (any_of HT_.out (by kernel_rfl)) ?_
         refine pn_ 28 (some 43) (ba_ 36 536870911) rfl rfl (any_of HT_.out (by kernel_rfl)) ?_
         refine pn_ 29 (some 44) (ba_ 36 1073741823) rfl rfl (any_of HT_.out (by kernel_rfl)) ?_
         refine pn_ 30 (some 45) (ba_ 36 2147483647) rfl rfl (any_of HT_.out (by kernel_rfl)) ?_
         refine pn_ 31 (some 46) (ba_ 36 4294967295) rfl rfl (any_of HT_.out (by kernel_rfl)) ?_
         refine pn_ 32 (some 47) (ba_ 36 8589934591) rfl rfl (any_of HT_.out (by kernel_rfl)) ?_
         refine pn_ 33 (some 48) (ba_ 36 17179869183) rfl rfl (any_of HT_.out (by kernel_rfl)) ?_
         refine pu_ 34 (some 49) (ba_ 36 34359738367) rfl rfl (any_of HT_.out (by kernel_rfl)) ?_
         refine pu_ 35 (some 50) (ba_ 36 68719476735) rfl rfl (any_of HT_.out (by kernel_rfl)) ?_
         refine done_ (done_of HT_.out (by kernel_rfl)) ?_
         try go_wp2
         go_meet
         case rel => exact ⟨_, (false), eb_, H', ⟨by have := HK1.out; first | omega | exact Nat.le_refl _⟩, bl_ HB⟩
       ·replace c10 := Bool.eq_false_iff.mpr c10
        subst c10
        have H1 : (spec_MapOk.j1 k1 l0 l1 l2 x7_1 true) = some r := by rw [if_neg (show ¬ (false = true) by decide)] at H; exact H
        clear H
        have H := H1
        clear H1
        have H' := Aside0.mk H
        clear H
        try go_wp2
        have n0_ := Aside0.mk (below_drew1 HB.out)
        clear HB
        have HB := n0_
        clear n0_
        have p611 : 0 ≤ (x7_1 : Int) := od_
        have q611 : x7_1 < (l2.length : Int) := od_
        obtain ⟨ad611, e611, hx611_0, hx611_1⟩ := at_T48 HR2.out x7_1 p611 q611
        have hw611_1 := hx611_1
        have hw611_0 := hx611_0
        cases e611
        replace hx611_0 := ce_ HB hx611_0
        replace hx611_1 := ce_ HB hx611_1
        replace p611 := eq_true p611
        replace q611 := eq_true q611
        have p613 : 0 ≤ (x7_1 : Int) := od_
        have q613 : x7_1 < (l2.length : Int) := od_
        obtain ⟨ad613, e613, hx613_0, hx613_1⟩ := at_T48 HR2.out x7_1 p613 q613
        have hw613_1 := hx613_1
        have hw613_0 := hx613_0
        obtain rfl : ad611 = ad613 := (by injection e613)
        replace hx613_0 := ce_ HB hx613_0
        replace hx613_1 := ce_ HB hx613_1
        replace p613 := eq_true p613
        replace q613 := eq_true q613
        refine start_ (n := 36) (S := fun w' => w'.cell? (ad611.add ((x7_1).toNat * 2)) = some (.int .i64 ((rd_T48 l2 x7_1).f0)) ∧ w'.cell? ⟨(ad611.add ((x7_1).toNat * 2)).block, (ad611.add ((x7_1).toNat * 2)).off + 1, none⟩ = some (.int .i64 ((rd_T48 l2 x7_1).f1)) ∧ w'.cell? (ad611.add ((x7_1).toNat * 2)) = some (.int .i64 ((rd_T48 l2 x7_1).f0)) ∧ w'.cell? ⟨(ad611.add ((x7_1).toNat * 2)).block, (ad611.add ((x7_1).toNat * 2)).off + 1, none⟩ = some (.int .i64 ((rd_T48 l2 x7_1).f1))) (ds := []) (ba_ 36 0) (by kernel_rfl) rfl rfl ⟨(ce_ HB hw611_0), (ce_ HB hw611_1), (ce_ HB hw613_0), (ce_ HB hw613_1)⟩ (fun hHeld => ?_); refine with_tabW spec_MapOk.tab4 spec_MapOk.bits4 (fun HT_ HW_ => ?_)
        generalize wr.drew = w21 at HB hx611_0 hx611_1 hx613_0 hx613_1 hHeld ⊢
        refine pu_ 0 (some 15) (ba_ 36 1) rfl rfl (any_of HT_.out (by kernel_rfl)) ?_
        refine pu_ 1 (some 16) (ba_ 36 3) rfl rfl (any_of HT_.out (by kernel_rfl)) ?_
        refine pu_ 2 (some 17) (ba_ 36 7) rfl rfl (any_of HT_.out (by kernel_rfl)) ?_
        refine pu_ 3 (some 18) (ba_ 36 15) rfl rfl (any_of HT_.out (by kernel_rfl)) ?_
        refine pu_ 4 (some 19) (ba_ 36 31) rfl rfl (any_of HT_.out (by kernel_rfl)) ?_
        refine ta_ 5 (some 20) (ba_ 36 63) rfl rfl (take_ofW HT_.out HW_.out (by kernel_rfl)) hHeld (by rintro w' ⟨s0, s1, s2, s3⟩; go_simp; with_reducible rfl) ?_
        refine one_ (i := 6) (N := some 21) (ba_ 36 127) rfl rfl (one_of HT_.out (by kernel_rfl)) (by decide) (fun K hK => ?_)
        refine goes_ Try.func70 (by kernel_rfl) rfl #[.slice A0 l0.length c0, .int .i64 ((rd_T48 l2 x7_1).f0)] (by rfl) rfl rfl (by (try simp only [List.map_toArray, List.map_cons, List.map_nil]); first | done | rfl | (simp only [List.length_drop, List.length_take]; rfl)) ?_
        with_reducible refine (spec_l3At.calls k1 _ _ l0 ((rd_T48 l2 x7_1).f0) true _ ?side1 ?side2 A7.out).mono ?_
        (case side1 => exact cx_ HR0 HB)
        (case side2 => exact HC0.out)
        rintro e w22 ⟨rfl, hb⟩
        refine ⟨_, rfl, ?_⟩
        have n0_ := tB_ HB hb
        clear HB
        have HB := n0_
        clear n0_
        (try clear hb)
        (try clear hb2)
        (try clear hk)
        (try clear hi)
        refine hK.out _ _ ⟨(ce_ HB hw611_0), (ce_ HB hw611_1), (ce_ HB hw613_0), (ce_ HB hw613_1)⟩ (fun hHeld => ?_)
        clear hK K
        refine norm_ (a' := ?_) ?_ ?_
        rotate_left
        ·show Act.put _ (some 21) _ = _
         simp only [Act.put, List.setIfInBounds_toArray, List.set_cons_zero, List.set_cons_succ, i64_w, i32_w]
         rfl
        refine pu_ 7 (some 22) (ba_ 36 255) rfl rfl (any_of HT_.out (by kernel_rfl)) ?_
        refine pu_ 8 (some 23) (ba_ 36 511) rfl rfl (any_of HT_.out (by kernel_rfl)) ?_
        refine pu_ 9 (some 24) (ba_ 36 1023) rfl rfl (any_of HT_.out (by kernel_rfl)) ?_
        refine pu_ 10 (some 25) (ba_ 36 2047) rfl rfl (any_of HT_.out (by kernel_rfl)) ?_
        refine pu_ 11 (some 26) (ba_ 36 4095) rfl rfl (any_of HT_.out (by kernel_rfl)) ?_
        refine pu_ 12 (some 27) (ba_ 36 8191) rfl rfl (any_of HT_.out (by kernel_rfl)) ?_
        refine pu_ 13 (some 28) (ba_ 36 16383) rfl rfl (any_of HT_.out (by kernel_rfl)) ?_
        refine ta_ 14 (some 29) (ba_ 36 32767) rfl rfl (take_ofW HT_.out HW_.out (by kernel_rfl)) hHeld (by rintro w' ⟨s0, s1, s2, s3⟩; go_simp; with_reducible rfl) ?_
        refine one_ (i := 15) (N := some 30) (ba_ 36 65535) rfl rfl (one_of HT_.out (by kernel_rfl)) (by decide) (fun K hK => ?_)
        refine goes_ Try.func70 (by kernel_rfl) rfl #[.slice A1 l1.length c1, .int .i64 ((rd_T48 l2 x7_1).f1)] (by rfl) rfl rfl (by (try simp only [List.map_toArray, List.map_cons, List.map_nil]); first | done | rfl | (simp only [List.length_drop, List.length_take]; rfl)) ?_
        with_reducible refine (spec_l3At.calls k1 _ _ l1 ((rd_T48 l2 x7_1).f1) false _ ?side1 ?side2 A9.out).mono ?_
        (case side1 => exact cx_ HR1 HB)
        (case side2 => exact HC1.out)
        rintro e w23 ⟨rfl, hb⟩
        refine ⟨_, rfl, ?_⟩
        have n0_ := tB_ HB hb
        clear HB
        have HB := n0_
        clear n0_
        (try clear hb)
        (try clear hb2)
        (try clear hk)
        (try clear hi)
        refine hK.out _ _ ⟨(ce_ HB hw611_0), (ce_ HB hw611_1), (ce_ HB hw613_0), (ce_ HB hw613_1)⟩ (fun hHeld => ?_)
        clear hK K
        refine norm_ (a' := ?_) ?_ ?_
        rotate_left
        ·show Act.put _ (some 30) _ = _
         simp only [Act.put, List.setIfInBounds_toArray, List.set_cons_zero, List.set_cons_succ, i64_w, i32_w]
         rfl
        refine pu_ 16 (some 31) (ba_ 36 131071) rfl rfl (any_of HT_.out (by kernel_rfl)) ?_
        refine pu_ 17 (some 32) (ba_ 36 262143) rfl rfl (any_of HT_.out (by kernel_rfl)) ?_
        refine pu_ 18 (some 33) (ba_ 36 524287) rfl rfl (any_of HT_.out (by kernel_rfl)) ?_
        refine pn_ 19 (some 34) (ba_ 36 1048575) rfl rfl (any_of HT_.out (by kernel_rfl)) ?_
        refine pn_ 20 (some 35) (ba_ 36 2097151) rfl rfl (any_of HT_.out (by kernel_rfl)) ?_
        refine pn_ 21 (some 36) (ba_ 36 4194303) rfl rfl (any_of HT_.out (by kernel_rfl)) ?_
        refine pn_ 22 (some 37) (ba_ 36 8388607) rfl rfl (any_of HT_.out (by kernel_rfl)) ?_
        refine pn_ 23 (some 38) (ba_ 36 16777215) rfl rfl (any_of HT_.out (by kernel_rfl)) ?_
        refine pn_ 24 (some 39) (ba_ 36 33554431) rfl rfl (any_of HT_.out (by kernel_rfl)) ?_
        refine pn_ 25 (some 40) (ba_ 36 67108863) rfl rfl (any_of HT_.out (by kernel_rfl)) ?_
        refine pn_ 26 (some 41) (ba_ 36 134217727) rfl rfl (any_of HT_.out (by kernel_rfl)) ?_
        refine pn_ 27 (some 42) (ba_ 36 268435455) rfl rfl (any_of HT_.out (by kernel_rfl)) ?_
        refine pn_ 28 (some 43) (ba_ 36 536870911) rfl rfl (any_of HT_.out (by kernel_rfl)) ?_
        refine pn_ 29 (some 44) (ba_ 36 1073741823) rfl rfl (any_of HT_.out (by kernel_rfl)) ?_
        refine pn_ 30 (some 45) (ba_ 36 2147483647) rfl rfl (any_of HT_.out (by kernel_rfl)) ?_
        refine pn_ 31 (some 46) (ba_ 36 4294967295) rfl rfl (any_of HT_.out (by kernel_rfl)) ?_
        refine pn_ 32 (some 47) (ba_ 36 8589934591) rfl rfl (any_of HT_.out (by kernel_rfl)) ?_
        refine pn_ 33 (some 48) (ba_ 36 17179869183) rfl rfl (any_of HT_.out (by kernel_rfl)) ?_
        refine pn_ 34 (some 49) (ba_ 36 34359738367) rfl rfl (any_of HT_.out (by kernel_rfl)) ?_
        refine pu_ 35 (some 50) (ba_ 36 68719476735) rfl rfl (any_of HT_.out (by kernel_rfl)) ?_
        refine done_ (done_of HT_.out (by kernel_rfl)) ?_
        try go_wp2
        go_meet
        case rel => exact ⟨_, (true), eb_, H', ⟨by have := HK1.out; first | omega | exact Nat.le_refl _⟩, bl_ HB⟩
      ·replace c8 := Bool.eq_false_iff.mpr c8
       subst c8
       have H1 : (spec_MapOk.j1 k1 l0 l1 l2 x7_1 true) = some r := by rw [if_neg (show ¬ (false = true) by decide)] at H; exact H
       clear H
       have H := H1
       clear H1
       have H' := Aside0.mk H
       clear H
       try go_wp2
       have n0_ := Aside0.mk (below_drew1 HB.out)
       clear HB
       have HB := n0_
       clear n0_
       have p611 : 0 ≤ (x7_1 : Int) := od_
       have q611 : x7_1 < (l2.length : Int) := od_
       obtain ⟨ad611, e611, hx611_0, hx611_1⟩ := at_T48 HR2.out x7_1 p611 q611
       have hw611_1 := hx611_1
       have hw611_0 := hx611_0
       cases e611
       replace hx611_0 := ce_ HB hx611_0
       replace hx611_1 := ce_ HB hx611_1
       replace p611 := eq_true p611
       replace q611 := eq_true q611
       refine start_ (n := 36) (S := fun w' => w'.cell? (ad611.add ((x7_1).toNat * 2)) = some (.int .i64 ((rd_T48 l2 x7_1).f0)) ∧ w'.cell? ⟨(ad611.add ((x7_1).toNat * 2)).block, (ad611.add ((x7_1).toNat * 2)).off + 1, none⟩ = some (.int .i64 ((rd_T48 l2 x7_1).f1))) (ds := []) (ba_ 36 0) (by kernel_rfl) rfl rfl ⟨(ce_ HB hw611_0), (ce_ HB hw611_1)⟩ (fun hHeld => ?_); refine with_tabW spec_MapOk.tab4 spec_MapOk.bits4 (fun HT_ HW_ => ?_)
       generalize wr.drew = w24 at HB hx611_0 hx611_1 hHeld ⊢
       refine pu_ 0 (some 15) (ba_ 36 1) rfl rfl (any_of HT_.out (by kernel_rfl)) ?_
       refine pu_ 1 (some 16) (ba_ 36 3) rfl rfl (any_of HT_.out (by kernel_rfl)) ?_
       refine pu_ 2 (some 17) (ba_ 36 7) rfl rfl (any_of HT_.out (by kernel_rfl)) ?_
       refine pu_ 3 (some 18) (ba_ 36 15) rfl rfl (any_of HT_.out (by kernel_rfl)) ?_
       refine pu_ 4 (some 19) (ba_ 36 31) rfl rfl (any_of HT_.out (by kernel_rfl)) ?_
       refine ta_ 5 (some 20) (ba_ 36 63) rfl rfl (take_ofW HT_.out HW_.out (by kernel_rfl)) hHeld (by rintro w' ⟨s0, s1⟩; go_simp; with_reducible rfl) ?_
       refine one_ (i := 6) (N := some 21) (ba_ 36 127) rfl rfl (one_of HT_.out (by kernel_rfl)) (by decide) (fun K hK => ?_)
       refine goes_ Try.func70 (by kernel_rfl) rfl #[.slice A0 l0.length c0, .int .i64 ((rd_T48 l2 x7_1).f0)] (by rfl) rfl rfl (by (try simp only [List.map_toArray, List.map_cons, List.map_nil]); first | done | rfl | (simp only [List.length_drop, List.length_take]; rfl)) ?_
       with_reducible refine (spec_l3At.calls k1 _ _ l0 ((rd_T48 l2 x7_1).f0) false _ ?side1 ?side2 A7.out).mono ?_
       (case side1 => exact cx_ HR0 HB)
       (case side2 => exact HC0.out)
       rintro e w25 ⟨rfl, hb⟩
       refine ⟨_, rfl, ?_⟩
       have n0_ := tB_ HB hb
       clear HB
       have HB := n0_
       clear n0_
       (try clear hb)
       (try clear hb2)
       (try clear hk)
       (try clear hi)
       refine hK.out _ _ ⟨(ce_ HB hw611_0), (ce_ HB hw611_1)⟩ (fun hHeld => ?_)
       clear hK K
       refine norm_ (a' := ?_) ?_ ?_
       rotate_left
       ·show Act.put _ (some 21) _ = _
        simp only [Act.put, List.setIfInBounds_toArray, List.set_cons_zero, List.set_cons_succ, i64_w, i32_w]
        rfl
       refine pu_ 7 (some 22) (ba_ 36 255) rfl rfl (any_of HT_.out (by kernel_rfl)) ?_
       refine pu_ 8 (some 23) (ba_ 36 511) rfl rfl (any_of HT_.out (by kernel_rfl)) ?_
       refine pn_ 9 (some 24) (ba_ 36 1023) rfl rfl (any_of HT_.out (by kernel_rfl)) ?_
       refine pn_ 10 (some 25) (ba_ 36 2047) rfl rfl (any_of HT_.out (by kernel_rfl)) ?_
       refine pn_ 11 (some 26) (ba_ 36 4095) rfl rfl (any_of HT_.out (by kernel_rfl)) ?_
       refine pn_ 12 (some 27) (ba_ 36 8191) rfl rfl (any_of HT_.out (by kernel_rfl)) ?_
       refine pn_ 13 (some 28) (ba_ 36 16383) rfl rfl (any_of HT_.out (by kernel_rfl)) ?_
       refine pn_ 14 (some 29) (ba_ 36 32767) rfl rfl (any_of HT_.out (by kernel_rfl)) ?_
       refine pn_ 15 (some 30) (ba_ 36 65535) rfl rfl (any_of HT_.out (by kernel_rfl)) ?_
       refine pn_ 16 (some 31) (ba_ 36 131071) rfl rfl (any_of HT_.out (by kernel_rfl)) ?_
       refine pu_ 17 (some 32) (ba_ 36 262143) rfl rfl (any_of HT_.out (by kernel_rfl)) ?_
       refine pu_ 18 (some 33) (ba_ 36 524287) rfl rfl (any_of HT_.out (by kernel_rfl)) ?_
       refine pn_ 19 (some 34) (ba_ 36 1048575) rfl rfl (any_of HT_.out (by kernel_rfl)) ?_
       refine pn_ 20 (some 35) (ba_ 36 2097151) rfl rfl (any_of HT_.out (by kernel_rfl)) ?_
       refine pn_ 21 (some 36) (ba_ 36 4194303) rfl rfl (any_of HT_.out (by kernel_rfl)) ?_
       refine pn_ 22 (some 37) (ba_ 36 8388607) rfl rfl (any_of HT_.out (by kernel_rfl)) ?_
       refine pn_ 23 (some 38) (ba_ 36 16777215) rfl rfl (any_of HT_.out (by kernel_rfl)) ?_
       refine pn_ 24 (some 39) (ba_ 36 33554431) rfl rfl (any_of HT_.out (by kernel_rfl)) ?_
       refine pn_ 25 (some 40) (ba_ 36 67108863) rfl rfl (any_of HT_.out (by kernel_rfl)) ?_
       refine pn_ 26 (some 41) (ba_ 36 134217727) rfl rfl (any_of HT_.out (by kernel_rfl)) ?_
       refine pn_ 27 (some 42) (ba_ 36 268435455) rfl rfl (any_of HT_.out (by kernel_rfl)) ?_
       refine pn_ 28 (some 43) (ba_ 36 536870911) rfl rfl (any_of HT_.out (by kernel_rfl)) ?_
       refine pn_ 29 (some 44) (ba_ 36 1073741823) rfl rfl (any_of HT_.out (by kernel_rfl)) ?_
       refine pn_ 30 (some 45) (ba_ 36 2147483647) rfl rfl (any_of HT_.out (by kernel_rfl)) ?_
       refine pn_ 31 (some 46) (ba_ 36 4294967295) rfl rfl (any_of HT_.out (by kernel_rfl)) ?_
       refine pn_ 32 (some 47) (ba_ 36 8589934591) rfl rfl (any_of HT_.out (by kernel_rfl)) ?_
       refine pn_ 33 (some 48) (ba_ 36 17179869183) rfl rfl (any_of HT_.out (by kernel_rfl)) ?_
       refine pn_ 34 (some 49) (ba_ 36 34359738367) rfl rfl (any_of HT_.out (by kernel_rfl)) ?_
       refine pu_ 35 (some 50) (ba_ 36 68719476735) rfl rfl (any_of HT_.out (by kernel_rfl)) ?_
       refine done_ (done_of HT_.out (by kernel_rfl)) ?_
       try go_wp2
       go_meet
       case rel => exact ⟨_, (true), eb_, H', ⟨by have := HK1.out; first | omega | exact Nat.le_refl _⟩, bl_ HB⟩
     ·rw [if_neg c6] at H
      exact absurd H (by simp)
    case rest =>
     clear HC5
     try clear c1
     try clear p2
     try clear c6
     try clear p6
     try clear q6
     try clear hx6
     try clear c7
     try clear c8
     try clear c10
     try clear hx611_0
     try clear hx611_1
     try clear hx613_0
     try clear hx613_1
     try clear p611
     try clear p613
     try clear q611
     try clear q613
     obtain ⟨kq, x50_4, rfl, HA, HJ4, HB⟩ := hcut
     cases kq with
     | zero => exact absurd HA.out (by simp [spec_MapOk.j1])
     | succ kj4 =>
      have H := HA.out
      clear HA
      simp only [spec_MapOk.j1] at H
      by_cases c26 : x50_4 = true
      ·subst c26
       have H1 : (some false) = some r := by rw [if_pos rfl] at H; exact H
       clear H
       have H := H1
       clear H1
       obtain rfl := Option.some.inj H
       go_wp2
       go_ret
       exact ⟨ea_, (bl_ HB).out⟩
      ·replace c26 := Bool.eq_false_iff.mpr c26
       subst c26
       have H1 : (spec_MapOk.l1 kj4 l0 l1 l2 x7_1 0) = some r := by rw [if_neg (show ¬ (false = true) by decide)] at H; exact H
       clear H
       have H := H1
       clear H1
       have H' := Aside0.mk H
       clear H
       go_wp2
       go_loopg [8] kj4 (fun kq v8 w' => ∃ (x8_3 : Int), v8 = .int .i64 x8_3 ∧ Aside0 (spec_MapOk.l1 kq l0 l1 l2 x7_1 x8_3 = some r) ∧ Aside0 (kq ≤ kj4) ∧ Aside0 (Below w.heap.size w w'))
       case atStart => exact ⟨(0), eb_, H', ⟨Nat.le_refl _⟩, bl_ HB⟩
       case round =>
        clear H'
        try clear c1
        try clear c2
        try clear p2
        try clear c6
        try clear p6
        try clear q6
        try clear hx6
        try clear c7
        try clear c8
        try clear c10
        try clear c26
        try clear hx611_0
        try clear hx611_1
        try clear hx613_0
        try clear hx613_1
        try clear p2
        try clear p6
        try clear p611
        try clear p613
        try clear q6
        try clear q611
        try clear q613
        obtain ⟨x8_3, rfl, HA, HK3, HB⟩ := hrel
        cases gk with
        | zero => exact absurd HA.out (by simp [spec_MapOk.l1])
        | succ k3 =>
         have H := HA.out
         clear HA
         simp only [spec_MapOk.l1] at H
         by_cases c27 : x8_3 < x7_1
         ·rw [if_pos c27] at H
          have c27b0 : decide (x8_3 < x7_1) = true := decide_eq_true c27
          clear c27
          by_cases c28 : 0 ≤ x8_3
          ·rw [if_pos c28] at H
           have c28b0 : decide (0 ≤ x8_3) = true := decide_eq_true c28
           clear c28
           by_cases c29 : x8_3 < (l2.length : Int)
           ·rw [if_pos c29] at H
            have c29b0 : decide (x8_3 < (l2.length : Int)) = true := decide_eq_true c29
            clear c29
            by_cases c30 : 0 ≤ x7_1
            ·rw [if_pos c30] at H
             have c30b0 : decide (0 ≤ x7_1) = true := decide_eq_true c30
             clear c30
             by_cases c31 : x7_1 < (l2.length : Int)
             ·rw [if_pos c31] at H
              have c31b0 : decide (x7_1 < (l2.length : Int)) = true := decide_eq_true c31
              clear c31
              by_cases c32 : ((rd_T48 l2 x8_3).f1) ≥ ((rd_T48 l2 x7_1).f1)
              ·rw [if_pos c32] at H
               have c32b0 : decide (((rd_T48 l2 x7_1).f1) ≤ ((rd_T48 l2 x8_3).f1)) = true := decide_eq_true c32
               clear c32
               obtain rfl := Option.some.inj H
               try go_wp2
               have n0_ := Aside0.mk (below_drew1 HB.out)
               clear HB
               have HB := n0_
               clear n0_
               have p617 : 0 ≤ (x8_3 : Int) := od_
               have q617 : x8_3 < (l2.length : Int) := od_
               obtain ⟨ad617, e617, hx617_0, hx617_1⟩ := at_T48 HR2.out x8_3 p617 q617
               have hw617_1 := hx617_1
               have hw617_0 := hx617_0
               cases e617
               replace hx617_0 := ce_ HB hx617_0
               replace hx617_1 := ce_ HB hx617_1
               replace p617 := eq_true p617
               replace q617 := eq_true q617
               have p618 : 0 ≤ (x7_1 : Int) := od_
               have q618 : x7_1 < (l2.length : Int) := od_
               obtain ⟨ad618, e618, hx618_0, hx618_1⟩ := at_T48 HR2.out x7_1 p618 q618
               have hw618_1 := hx618_1
               have hw618_0 := hx618_0
               obtain rfl : ad617 = ad618 := (by injection e618)
               replace hx618_0 := ce_ HB hx618_0
               replace hx618_1 := ce_ HB hx618_1
               replace p618 := eq_true p618
               replace q618 := eq_true q618
               refine start_ (n := 38) (S := fun w' => w'.cell? (ad617.add ((x8_3).toNat * 2)) = some (.int .i64 ((rd_T48 l2 x8_3).f0)) ∧ w'.cell? ⟨(ad617.add ((x8_3).toNat * 2)).block, (ad617.add ((x8_3).toNat * 2)).off + 1, none⟩ = some (.int .i64 ((rd_T48 l2 x8_3).f1)) ∧ w'.cell? (ad617.add ((x7_1).toNat * 2)) = some (.int .i64 ((rd_T48 l2 x7_1).f0)) ∧ w'.cell? ⟨(ad617.add ((x7_1).toNat * 2)).block, (ad617.add ((x7_1).toNat * 2)).off + 1, none⟩ = some (.int .i64 ((rd_T48 l2 x7_1).f1))) (ds := []) (ba_ 38 0) (by kernel_rfl) rfl rfl ⟨(ce_ HB hw617_0), (ce_ HB hw617_1), (ce_ HB hw618_0), (ce_ HB hw618_1)⟩ (fun hHeld => ?_); refine with_tabW spec_MapOk.tab9 spec_MapOk.bits9 (fun HT_ HW_ => ?_)
               generalize wr.drew = w33 at HB hx617_0 hx617_1 hx618_0 hx618_1 hHeld ⊢
               refine pu_ 0 (some 56) (ba_ 38 1) rfl rfl (any_of HT_.out (by kernel_rfl)) ?_
               refine pu_ 1 (some 57) (ba_ 38 3) rfl rfl (any_of HT_.out (by kernel_rfl)) ?_
               refine pu_ 2 (some 58) (ba_ 38 7) rfl rfl (any_of HT_.out (by kernel_rfl)) ?_
               refine pu_ 3 (some 59) (ba_ 38 15) rfl rfl (any_of HT_.out (by kernel_rfl)) ?_
               refine pu_ 5 (some 61) (ba_ 38 47) rfl rfl (any_of HT_.out (by kernel_rfl)) ?_
               refine pu_ 6 (some 62) (ba_ 38 111) rfl rfl (any_of HT_.out (by kernel_rfl)) ?_
               refine pu_ 7 (some 63) (ba_ 38 239) rfl rfl (any_of HT_.out (by kernel_rfl)) ?_
               refine pu_ 8 (some 64) (ba_ 38 495) rfl rfl (any_of HT_.out (by kernel_rfl)) ?_
               refine ta_ 4 (some 60) (ba_ 38 511) rfl rfl (take_ofW HT_.out HW_.out (by kernel_rfl)) hHeld (by rintro w' ⟨s0, s1, s2, s3⟩; go_simp; with_reducible rfl) ?_
               refine ta_ 9 (some 65) (ba_ 38 1023) rfl rfl (take_ofW HT_.out HW_.out (by kernel_rfl)) hHeld (by rintro w' ⟨s0, s1, s2, s3⟩; go_simp; with_reducible rfl) ?_
               refine pu_ 10 (some 66) (ba_ 38 2047) rfl rfl (any_of HT_.out (by kernel_rfl)) ?_
               refine pu_ 11 (some 67) (ba_ 38 4095) rfl rfl (any_of HT_.out (by kernel_rfl)) ?_
               refine pn_ 12 (some 68) (ba_ 38 8191) rfl rfl (any_of HT_.out (by kernel_rfl)) ?_
               refine pn_ 13 (some 69) (ba_ 38 16383) rfl rfl (any_of HT_.out (by kernel_rfl)) ?_
               refine pn_ 14 (some 70) (ba_ 38 32767) rfl rfl (any_of HT_.out (by kernel_rfl)) ?_
               refine pn_ 15 (some 71) (ba_ 38 65535) rfl rfl (any_of HT_.out (by kernel_rfl)) ?_
               refine pn_ 16 (some 72) (ba_ 38 131071) rfl rfl (any_of HT_.out (by kernel_rfl)) ?_
               refine pn_ 17 (some 73) (ba_ 38 262143) rfl rfl (any_of HT_.out (by kernel_rfl)) ?_
               refine pn_ 18 (some 74) (ba_ 38 524287) rfl rfl (any_of HT_.out (by kernel_rfl)) ?_
               refine pn_ 19 (some 75) (ba_ 38 1048575) rfl rfl (any_of HT_.out (by kernel_rfl)) ?_
               refine pn_ 20 (some 76) (ba_ 38 2097151) rfl rfl (any_of HT_.out (by kernel_rfl)) ?_
               refine pn_ 21 (some 77) (ba_ 38 4194303) rfl rfl (any_of HT_.out (by kernel_rfl)) ?_
               refine pn_ 22 (some 78) (ba_ 38 8388607) rfl rfl (any_of HT_.out (by kernel_rfl)) ?_
               refine pn_ 23 (some 79) (ba_ 38 16777215) rfl rfl (any_of HT_.out (by kernel_rfl)) ?_
               refine pn_ 24 (some 80) (ba_ 38 33554431) rfl rfl (any_of HT_.out (by kernel_rfl)) ?_
               refine pn_ 25 (some 81) (ba_ 38 67108863) rfl rfl (any_of HT_.out (by kernel_rfl)) ?_
               refine pn_ 26 (some 82) (ba_ 38 134217727) rfl rfl (any_of HT_.out (by kernel_rfl)) ?_
               refine pn_ 27 (some 83) (ba_ 38 268435455) rfl rfl (any_of HT_.out (by kernel_rfl)) ?_
               refine pn_ 28 (some 84) (ba_ 38 536870911) rfl rfl (any_of HT_.out (by kernel_rfl)) ?_
               refine pn_ 29 (some 85) (ba_ 38 1073741823) rfl rfl (any_of HT_.out (by kernel_rfl)) ?_
               refine pn_ 30 (some 86) (ba_ 38 2147483647) rfl rfl (any_of HT_.out (by kernel_rfl)) ?_
               refine pn_ 31 (some 87) (ba_ 38 4294967295) rfl rfl (any_of HT_.out (by kernel_rfl)) ?_
               refine pn_ 32 (some 88) (ba_ 38 8589934591) rfl rfl (any_of HT_.out (by kernel_rfl)) ?_
               refine pn_ 33 (some 89) (ba_ 38 17179869183) rfl rfl (any_of HT_.out (by kernel_rfl)) ?_
               refine pn_ 34 (some 90) (ba_ 38 34359738367) rfl rfl (any_of HT_.out (by kernel_rfl)) ?_
               refine pn_ 35 (some 91) (ba_ 38 68719476735) rfl rfl (any_of HT_.out (by kernel_rfl)) ?_
               refine pn_ 36 (some 92) (ba_ 38 137438953471) rfl rfl (any_of HT_.out (by kernel_rfl)) ?_
               refine pu_ 37 (some 93) (ba_ 38 274877906943) rfl rfl (any_of HT_.out (by kernel_rfl)) ?_
               refine done_ (done_of HT_.out (by kernel_rfl)) ?_
               try go_wp2
               go_ret
               exact ⟨ea_, (bl_ HB).out⟩
              ·rw [if_neg c32] at H
               have c32b0 : decide (((rd_T48 l2 x7_1).f1) ≤ ((rd_T48 l2 x8_3).f1)) = false := decide_eq_false c32
               clear c32
               replace H := Option.bind_eq_some_iff.mp H
               obtain ⟨t621, A340, H⟩ := H
               try dsimp only at H
               have A34 := Aside0.mk A340
               clear A340
               replace H := Option.bind_eq_some_iff.mp H
               obtain ⟨t624, A350, H⟩ := H
               try dsimp only at H
               have A35 := Aside0.mk A350
               clear A350
               by_cases c36 : (t621 != t624) = true
               ·rw [if_pos c36] at H
                have c36b0 : (t621 != t624) = true := c36
                (try (have c36b1 : decide (t621 = t624) = false := by simpa using c36))
                (try (have c36b2 : (t621 == t624) = false := by simpa using c36))
                (try (have c36b3 : ¬ (t621 = t624) := by simpa using c36))
                clear c36
                obtain rfl := Option.some.inj H
                try go_wp2
                have n0_ := Aside0.mk (below_drew1 HB.out)
                clear HB
                have HB := n0_
                clear n0_
                have p617 : 0 ≤ (x8_3 : Int) := od_
                have q617 : x8_3 < (l2.length : Int) := od_
                obtain ⟨ad617, e617, hx617_0, hx617_1⟩ := at_T48 HR2.out x8_3 p617 q617
                have hw617_1 := hx617_1
                have hw617_0 := hx617_0
                cases e617
                replace hx617_0 := ce_ HB hx617_0
                replace hx617_1 := ce_ HB hx617_1
                replace p617 := eq_true p617
                replace q617 := eq_true q617
                have p618 : 0 ≤ (x7_1 : Int) := od_
                have q618 : x7_1 < (l2.length : Int) := od_
                obtain ⟨ad618, e618, hx618_0, hx618_1⟩ := at_T48 HR2.out x7_1 p618 q618
                have hw618_1 := hx618_1
                have hw618_0 := hx618_0
                obtain rfl : ad617 = ad618 := (by injection e618)
                replace hx618_0 := ce_ HB hx618_0
                replace hx618_1 := ce_ HB hx618_1
                replace p618 := eq_true p618
                replace q618 := eq_true q618
                have p619 : 0 ≤ (x8_3 : Int) := od_
                have q619 : x8_3 < (l2.length : Int) := od_
                obtain ⟨ad619, e619, hx619_0, hx619_1⟩ := at_T48 HR2.out x8_3 p619 q619
                have hw619_1 := hx619_1
                have hw619_0 := hx619_0
                obtain rfl : ad617 = ad619 := (by injection e619)
                replace hx619_0 := ce_ HB hx619_0
                replace hx619_1 := ce_ HB hx619_1
                replace p619 := eq_true p619
                replace q619 := eq_true q619
                have p620 : 0 ≤ (x7_1 : Int) := od_
                have q620 : x7_1 < (l2.length : Int) := od_
                obtain ⟨ad620, e620, hx620_0, hx620_1⟩ := at_T48 HR2.out x7_1 p620 q620
                have hw620_1 := hx620_1
                have hw620_0 := hx620_0
                obtain rfl : ad617 = ad620 := (by injection e620)
                replace hx620_0 := ce_ HB hx620_0
                replace hx620_1 := ce_ HB hx620_1
                replace p620 := eq_true p620
                replace q620 := eq_true q620
                have p622 : 0 ≤ (x8_3 : Int) := od_
                have q622 : x8_3 < (l2.length : Int) := od_
                obtain ⟨ad622, e622, hx622_0, hx622_1⟩ := at_T48 HR2.out x8_3 p622 q622
                have hw622_1 := hx622_1
                have hw622_0 := hx622_0
                obtain rfl : ad617 = ad622 := (by injection e622)
                replace hx622_0 := ce_ HB hx622_0
                replace hx622_1 := ce_ HB hx622_1
                replace p622 := eq_true p622
                replace q622 := eq_true q622
                have p623 : 0 ≤ (x7_1 : Int) := od_
                have q623 : x7_1 < (l2.length : Int) := od_
                obtain ⟨ad623, e623, hx623_0, hx623_1⟩ := at_T48 HR2.out x7_1 p623 q623
                have hw623_1 := hx623_1
                have hw623_0 := hx623_0
                obtain rfl : ad617 = ad623 := (by injection e623)
                replace hx623_0 := ce_ HB hx623_0
                replace hx623_1 := ce_ HB hx623_1
                replace p623 := eq_true p623
                replace q623 := eq_true q623
                refine start_ (n := 38) (S := fun w' => w'.cell? (ad617.add ((x8_3).toNat * 2)) = some (.int .i64 ((rd_T48 l2 x8_3).f0)) ∧ w'.cell? ⟨(ad617.add ((x8_3).toNat * 2)).block, (ad617.add ((x8_3).toNat * 2)).off + 1, none⟩ = some (.int .i64 ((rd_T48 l2 x8_3).f1)) ∧ w'.cell? (ad617.add ((x7_1).toNat * 2)) = some (.int .i64 ((rd_T48 l2 x7_1).f0)) ∧ w'.cell? ⟨(ad617.add ((x7_1).toNat * 2)).block, (ad617.add ((x7_1).toNat * 2)).off + 1, none⟩ = some (.int .i64 ((rd_T48 l2 x7_1).f1)) ∧ w'.cell? (ad617.add ((x8_3).toNat * 2)) = some (.int .i64 ((rd_T48 l2 x8_3).f0)) ∧ w'.cell? ⟨(ad617.add ((x8_3).toNat * 2)).block, (ad617.add ((x8_3).toNat * 2)).off + 1, none⟩ = some (.int .i64 ((rd_T48 l2 x8_3).f1)) ∧ w'.cell? (ad617.add ((x7_1).toNat * 2)) = some (.int .i64 ((rd_T48 l2 x7_1).f0)) ∧ w'.cell? ⟨(ad617.add ((x7_1).toNat * 2)).block, (ad617.add ((x7_1).toNat * 2)).off + 1, none⟩ = some (.int .i64 ((rd_T48 l2 x7_1).f1)) ∧ w'.cell? (ad617.add ((x8_3).toNat * 2)) = some (.int .i64 ((rd_T48 l2 x8_3).f0)) ∧ w'.cell? ⟨(ad617.add ((x8_3).toNat * 2)).block, (ad617.add ((x8_3).toNat * 2)).off + 1, none⟩ = some (.int .i64 ((rd_T48 l2 x8_3).f1)) ∧ w'.cell? (ad617.add ((x7_1).toNat * 2)) = some (.int .i64 ((rd_T48 l2 x7_1).f0)) ∧ w'.cell? ⟨(ad617.add ((x7_1).toNat * 2)).block, (ad617.add ((x7_1).toNat * 2)).off + 1, none⟩ = some (.int .i64 ((rd_T48 l2 x7_1).f1))) (ds := []) (ba_ 38 0) (by kernel_rfl) rfl rfl ⟨(ce_ HB hw617_0), (ce_ HB hw617_1), (ce_ HB hw618_0), (ce_ HB hw618_1), (ce_ HB hw619_0), (ce_ HB hw619_1), (ce_ HB hw620_0), (ce_ HB hw620_1), (ce_ HB hw622_0), (ce_ HB hw622_1), (ce_ HB hw623_0), (ce_ HB hw623_1)⟩ (fun hHeld => ?_); refine with_tabW spec_MapOk.tab9 spec_MapOk.bits9 (fun HT_ HW_ => ?_)
                generalize wr.drew = w37 at HB hx617_0 hx617_1 hx618_0 hx618_1 hx619_0 hx619_1 hx620_0 hx620_1 hx622_0 hx622_1 hx623_0 hx623_1 hHeld ⊢
                refine pu_ 0 (some 56) (ba_ 38 1) rfl rfl (any_of HT_.out (by kernel_rfl)) ?_
                refine pu_ 1 (some 57) (ba_ 38 3) rfl rfl (any_of HT_.out (by kernel_rfl)) ?_
                refine pu_ 2 (some 58) (ba_ 38 7) rfl rfl (any_of HT_.out (by kernel_rfl)) ?_
                refine pu_ 3 (some 59) (ba_ 38 15) rfl rfl (any_of HT_.out (by kernel_rfl)) ?_
                refine pu_ 5 (some 61) (ba_ 38 47) rfl rfl (any_of HT_.out (by kernel_rfl)) ?_
                refine pu_ 6 (some 62) (ba_ 38 111) rfl rfl (any_of HT_.out (by kernel_rfl)) ?_
                refine pu_ 7 (some 63) (ba_ 38 239) rfl rfl (any_of HT_.out (by kernel_rfl)) ?_
                refine pu_ 8 (some 64) (ba_ 38 495) rfl rfl (any_of HT_.out (by kernel_rfl)) ?_
                refine ta_ 4 (some 60) (ba_ 38 511) rfl rfl (take_ofW HT_.out HW_.out (by kernel_rfl)) hHeld (by rintro w' ⟨s0, s1, s2, s3, s4, s5, s6, s7, s8, s9, s10, s11⟩; go_simp; with_reducible rfl) ?_
                refine ta_ 9 (some 65) (ba_ 38 1023) rfl rfl (take_ofW HT_.out HW_.out (by kernel_rfl)) hHeld (by rintro w' ⟨s0, s1, s2, s3, s4, s5, s6, s7, s8, s9, s10, s11⟩; go_simp; with_reducible rfl) ?_
                refine pu_ 10 (some 66) (ba_ 38 2047) rfl rfl (any_of HT_.out (by kernel_rfl)) ?_
                refine pu_ 11 (some 67) (ba_ 38 4095) rfl rfl (any_of HT_.out (by kernel_rfl)) ?_
                refine pu_ 12 (some 68) (ba_ 38 8191) rfl rfl (any_of HT_.out (by kernel_rfl)) ?_
                refine pu_ 13 (some 69) (ba_ 38 16383) rfl rfl (any_of HT_.out (by kernel_rfl)) ?_
                refine pu_ 14 (some 70) (ba_ 38 32767) rfl rfl (any_of HT_.out (by kernel_rfl)) ?_
                refine pu_ 15 (some 71) (ba_ 38 65535) rfl rfl (any_of HT_.out (by kernel_rfl)) ?_
                refine pu_ 16 (some 72) (ba_ 38 131071) rfl rfl (any_of HT_.out (by kernel_rfl)) ?_
                refine pu_ 18 (some 74) (ba_ 38 393215) rfl rfl (any_of HT_.out (by kernel_rfl)) ?_
                refine pu_ 19 (some 75) (ba_ 38 917503) rfl rfl (any_of HT_.out (by kernel_rfl)) ?_
                refine pu_ 20 (some 76) (ba_ 38 1966079) rfl rfl (any_of HT_.out (by kernel_rfl)) ?_
                refine pu_ 21 (some 77) (ba_ 38 4063231) rfl rfl (any_of HT_.out (by kernel_rfl)) ?_
                refine pu_ 24 (some 80) (ba_ 38 20840447) rfl rfl (any_of HT_.out (by kernel_rfl)) ?_
                refine pu_ 25 (some 81) (ba_ 38 54394879) rfl rfl (any_of HT_.out (by kernel_rfl)) ?_
                refine pu_ 26 (some 82) (ba_ 38 121503743) rfl rfl (any_of HT_.out (by kernel_rfl)) ?_
                refine pu_ 27 (some 83) (ba_ 38 255721471) rfl rfl (any_of HT_.out (by kernel_rfl)) ?_
                refine pu_ 28 (some 84) (ba_ 38 524156927) rfl rfl (any_of HT_.out (by kernel_rfl)) ?_
                refine pu_ 30 (some 86) (ba_ 38 1597898751) rfl rfl (any_of HT_.out (by kernel_rfl)) ?_
                refine pu_ 31 (some 87) (ba_ 38 3745382399) rfl rfl (any_of HT_.out (by kernel_rfl)) ?_
                refine pu_ 32 (some 88) (ba_ 38 8040349695) rfl rfl (any_of HT_.out (by kernel_rfl)) ?_
                refine pu_ 33 (some 89) (ba_ 38 16630284287) rfl rfl (any_of HT_.out (by kernel_rfl)) ?_
                refine ta_ 17 (some 73) (ba_ 38 16630415359) rfl rfl (take_ofW HT_.out HW_.out (by kernel_rfl)) hHeld (by rintro w' ⟨s0, s1, s2, s3, s4, s5, s6, s7, s8, s9, s10, s11⟩; go_simp; with_reducible rfl) ?_
                refine ta_ 22 (some 78) (ba_ 38 16634609663) rfl rfl (take_ofW HT_.out HW_.out (by kernel_rfl)) hHeld (by rintro w' ⟨s0, s1, s2, s3, s4, s5, s6, s7, s8, s9, s10, s11⟩; go_simp; with_reducible rfl) ?_
                refine ta_ 29 (some 85) (ba_ 38 17171480575) rfl rfl (take_ofW HT_.out HW_.out (by kernel_rfl)) hHeld (by rintro w' ⟨s0, s1, s2, s3, s4, s5, s6, s7, s8, s9, s10, s11⟩; go_simp; with_reducible rfl) ?_
                refine ta_ 34 (some 90) (ba_ 38 34351349759) rfl rfl (take_ofW HT_.out HW_.out (by kernel_rfl)) hHeld (by rintro w' ⟨s0, s1, s2, s3, s4, s5, s6, s7, s8, s9, s10, s11⟩; go_simp; with_reducible rfl) ?_
                refine one_ (i := 23) (N := some 79) (ba_ 38 34359738367) rfl rfl (one_of HT_.out (by kernel_rfl)) (by decide) (fun K hK => ?_)
                refine goes_ Try.func71 (by kernel_rfl) rfl #[.slice A0 l0.length c0, .int .i64 ((rd_T48 l2 x8_3).f0), .int .i64 ((rd_T48 l2 x7_1).f0)] (by rfl) rfl rfl (by (try simp only [List.map_toArray, List.map_cons, List.map_nil]); first | done | rfl | (simp only [List.length_drop, List.length_take]; rfl)) ?_
                with_reducible refine (spec_Under.calls k3 _ _ l0 ((rd_T48 l2 x8_3).f0) ((rd_T48 l2 x7_1).f0) t621 _ ?side1 ?side2 A34.out).mono ?_
                (case side1 => exact cx_ HR0 HB)
                (case side2 => exact HC0.out)
                rintro e w38 ⟨rfl, hb⟩
                refine ⟨_, rfl, ?_⟩
                have n0_ := tB_ HB hb
                clear HB
                have HB := n0_
                clear n0_
                (try clear hb)
                (try clear hb2)
                (try clear hk)
                (try clear hi)
                refine hK.out _ _ ⟨(ce_ HB hw617_0), (ce_ HB hw617_1), (ce_ HB hw618_0), (ce_ HB hw618_1), (ce_ HB hw619_0), (ce_ HB hw619_1), (ce_ HB hw620_0), (ce_ HB hw620_1), (ce_ HB hw622_0), (ce_ HB hw622_1), (ce_ HB hw623_0), (ce_ HB hw623_1)⟩ (fun hHeld => ?_)
                clear hK K
                refine norm_ (a' := ?_) ?_ ?_
                rotate_left
                ·show Act.put _ (some 79) _ = _
                 simp only [Act.put, List.setIfInBounds_toArray, List.set_cons_zero, List.set_cons_succ, i64_w, i32_w]
                 rfl
                refine one_ (i := 35) (N := some 91) (ba_ 38 68719476735) rfl rfl (one_of HT_.out (by kernel_rfl)) (by decide) (fun K hK => ?_)
                refine goes_ Try.func71 (by kernel_rfl) rfl #[.slice A1 l1.length c1, .int .i64 ((rd_T48 l2 x8_3).f1), .int .i64 ((rd_T48 l2 x7_1).f1)] (by rfl) rfl rfl (by (try simp only [List.map_toArray, List.map_cons, List.map_nil]); first | done | rfl | (simp only [List.length_drop, List.length_take]; rfl)) ?_
                with_reducible refine (spec_Under.calls k3 _ _ l1 ((rd_T48 l2 x8_3).f1) ((rd_T48 l2 x7_1).f1) t624 _ ?side1 ?side2 A35.out).mono ?_
                (case side1 => exact cx_ HR1 HB)
                (case side2 => exact HC1.out)
                rintro e w39 ⟨rfl, hb⟩
                refine ⟨_, rfl, ?_⟩
                have n0_ := tB_ HB hb
                clear HB
                have HB := n0_
                clear n0_
                (try clear hb)
                (try clear hb2)
                (try clear hk)
                (try clear hi)
                refine hK.out _ _ ⟨(ce_ HB hw617_0), (ce_ HB hw617_1), (ce_ HB hw618_0), (ce_ HB hw618_1), (ce_ HB hw619_0), (ce_ HB hw619_1), (ce_ HB hw620_0), (ce_ HB hw620_1), (ce_ HB hw622_0), (ce_ HB hw622_1), (ce_ HB hw623_0), (ce_ HB hw623_1)⟩ (fun hHeld => ?_)
                clear hK K
                refine norm_ (a' := ?_) ?_ ?_
                rotate_left
                ·show Act.put _ (some 91) _ = _
                 simp only [Act.put, List.setIfInBounds_toArray, List.set_cons_zero, List.set_cons_succ, i64_w, i32_w]
                 rfl
                refine pu_ 36 (some 92) (ba_ 38 137438953471) rfl rfl (any_of HT_.out (by kernel_rfl)) ?_
                refine pu_ 37 (some 93) (ba_ 38 274877906943) rfl rfl (any_of HT_.out (by kernel_rfl)) ?_
                refine done_ (done_of HT_.out (by kernel_rfl)) ?_
                try go_wp2
                go_ret
                exact ⟨ea_, (bl_ HB).out⟩
               ·rw [if_neg c36] at H
                have c36b0 : (t621 != t624) = false := by simpa using c36
                (try (have c36b1 : decide (t621 = t624) = true := by simpa using c36))
                (try (have c36b2 : (t621 == t624) = true := by simpa using c36))
                clear c36
                have H' := Aside0.mk H
                clear H
                try go_wp2
                have n0_ := Aside0.mk (below_drew1 HB.out)
                clear HB
                have HB := n0_
                clear n0_
                have p617 : 0 ≤ (x8_3 : Int) := od_
                have q617 : x8_3 < (l2.length : Int) := od_
                obtain ⟨ad617, e617, hx617_0, hx617_1⟩ := at_T48 HR2.out x8_3 p617 q617
                have hw617_1 := hx617_1
                have hw617_0 := hx617_0
                cases e617
                replace hx617_0 := ce_ HB hx617_0
                replace hx617_1 := ce_ HB hx617_1
                replace p617 := eq_true p617
                replace q617 := eq_true q617
                have p618 : 0 ≤ (x7_1 : Int) := od_
                have q618 : x7_1 < (l2.length : Int) := od_
                obtain ⟨ad618, e618, hx618_0, hx618_1⟩ := at_T48 HR2.out x7_1 p618 q618
                have hw618_1 := hx618_1
                have hw618_0 := hx618_0
                obtain rfl : ad617 = ad618 := (by injection e618)
                replace hx618_0 := ce_ HB hx618_0
                replace hx618_1 := ce_ HB hx618_1
                replace p618 := eq_true p618
                replace q618 := eq_true q618
                have p619 : 0 ≤ (x8_3 : Int) := od_
                have q619 : x8_3 < (l2.length : Int) := od_
                obtain ⟨ad619, e619, hx619_0, hx619_1⟩ := at_T48 HR2.out x8_3 p619 q619
                have hw619_1 := hx619_1
                have hw619_0 := hx619_0
                obtain rfl : ad617 = ad619 := (by injection e619)
                replace hx619_0 := ce_ HB hx619_0
                replace hx619_1 := ce_ HB hx619_1
                replace p619 := eq_true p619
                replace q619 := eq_true q619
                have p620 : 0 ≤ (x7_1 : Int) := od_
                have q620 : x7_1 < (l2.length : Int) := od_
                obtain ⟨ad620, e620, hx620_0, hx620_1⟩ := at_T48 HR2.out x7_1 p620 q620
                have hw620_1 := hx620_1
                have hw620_0 := hx620_0
                obtain rfl : ad617 = ad620 := (by injection e620)
                replace hx620_0 := ce_ HB hx620_0
                replace hx620_1 := ce_ HB hx620_1
                replace p620 := eq_true p620
                replace q620 := eq_true q620
                have p622 : 0 ≤ (x8_3 : Int) := od_
                have q622 : x8_3 < (l2.length : Int) := od_
                obtain ⟨ad622, e622, hx622_0, hx622_1⟩ := at_T48 HR2.out x8_3 p622 q622
                have hw622_1 := hx622_1
                have hw622_0 := hx622_0
                obtain rfl : ad617 = ad622 := (by injection e622)
                replace hx622_0 := ce_ HB hx622_0
                replace hx622_1 := ce_ HB hx622_1
                replace p622 := eq_true p622
                replace q622 := eq_true q622
                have p623 : 0 ≤ (x7_1 : Int) := od_
                have q623 : x7_1 < (l2.length : Int) := od_
                obtain ⟨ad623, e623, hx623_0, hx623_1⟩ := at_T48 HR2.out x7_1 p623 q623
                have hw623_1 := hx623_1
                have hw623_0 := hx623_0
                obtain rfl : ad617 = ad623 := (by injection e623)
                replace hx623_0 := ce_ HB hx623_0
                replace hx623_1 := ce_ HB hx623_1
                replace p623 := eq_true p623
                replace q623 := eq_true q623
                refine start_ (n := 38) (S := fun w' => w'.cell? (ad617.add ((x8_3).toNat * 2)) = some (.int .i64 ((rd_T48 l2 x8_3).f0)) ∧ w'.cell? ⟨(ad617.add ((x8_3).toNat * 2)).block, (ad617.add ((x8_3).toNat * 2)).off + 1, none⟩ = some (.int .i64 ((rd_T48 l2 x8_3).f1)) ∧ w'.cell? (ad617.add ((x7_1).toNat * 2)) = some (.int .i64 ((rd_T48 l2 x7_1).f0)) ∧ w'.cell? ⟨(ad617.add ((x7_1).toNat * 2)).block, (ad617.add ((x7_1).toNat * 2)).off + 1, none⟩ = some (.int .i64 ((rd_T48 l2 x7_1).f1)) ∧ w'.cell? (ad617.add ((x8_3).toNat * 2)) = some (.int .i64 ((rd_T48 l2 x8_3).f0)) ∧ w'.cell? ⟨(ad617.add ((x8_3).toNat * 2)).block, (ad617.add ((x8_3).toNat * 2)).off + 1, none⟩ = some (.int .i64 ((rd_T48 l2 x8_3).f1)) ∧ w'.cell? (ad617.add ((x7_1).toNat * 2)) = some (.int .i64 ((rd_T48 l2 x7_1).f0)) ∧ w'.cell? ⟨(ad617.add ((x7_1).toNat * 2)).block, (ad617.add ((x7_1).toNat * 2)).off + 1, none⟩ = some (.int .i64 ((rd_T48 l2 x7_1).f1)) ∧ w'.cell? (ad617.add ((x8_3).toNat * 2)) = some (.int .i64 ((rd_T48 l2 x8_3).f0)) ∧ w'.cell? ⟨(ad617.add ((x8_3).toNat * 2)).block, (ad617.add ((x8_3).toNat * 2)).off + 1, none⟩ = some (.int .i64 ((rd_T48 l2 x8_3).f1)) ∧ w'.cell? (ad617.add ((x7_1).toNat * 2)) = some (.int .i64 ((rd_T48 l2 x7_1).f0)) ∧ w'.cell? ⟨(ad617.add ((x7_1).toNat * 2)).block, (ad617.add ((x7_1).toNat * 2)).off + 1, none⟩ = some (.int .i64 ((rd_T48 l2 x7_1).f1))) (ds := []) (ba_ 38 0) (by kernel_rfl) rfl rfl ⟨(ce_ HB hw617_0), (ce_ HB hw617_1), (ce_ HB hw618_0), (ce_ HB hw618_1), (ce_ HB hw619_0), (ce_ HB hw619_1), (ce_ HB hw620_0), (ce_ HB hw620_1), (ce_ HB hw622_0), (ce_ HB hw622_1), (ce_ HB hw623_0), (ce_ HB hw623_1)⟩ (fun hHeld => ?_); refine with_tabW spec_MapOk.tab9 spec_MapOk.bits9 (fun HT_ HW_ => ?_)
                generalize wr.drew = w40 at HB hx617_0 hx617_1 hx618_0 hx618_1 hx619_0 hx619_1 hx620_0 hx620_1 hx622_0 hx622_1 hx623_0 hx623_1 hHeld ⊢
                refine pu_ 0 (some 56) (ba_ 38 1) rfl rfl (any_of HT_.out (by kernel_rfl)) ?_
                refine pu_ 1 (some 57) (ba_ 38 3) rfl rfl (any_of HT_.out (by kernel_rfl)) ?_
                refine pu_ 2 (some 58) (ba_ 38 7) rfl rfl (any_of HT_.out (by kernel_rfl)) ?_
                refine pu_ 3 (some 59) (ba_ 38 15) rfl rfl (any_of HT_.out (by kernel_rfl)) ?_
                refine pu_ 5 (some 61) (ba_ 38 47) rfl rfl (any_of HT_.out (by kernel_rfl)) ?_
                refine pu_ 6 (some 62) (ba_ 38 111) rfl rfl (any_of HT_.out (by kernel_rfl)) ?_
                refine pu_ 7 (some 63) (ba_ 38 239) rfl rfl (any_of HT_.out (by kernel_rfl)) ?_
                refine pu_ 8 (some 64) (ba_ 38 495) rfl rfl (any_of HT_.out (by kernel_rfl)) ?_
                refine ta_ 4 (some 60) (ba_ 38 511) rfl rfl (take_ofW HT_.out HW_.out (by kernel_rfl)) hHeld (by rintro w' ⟨s0, s1, s2, s3, s4, s5, s6, s7, s8, s9, s10, s11⟩; go_simp; with_reducible rfl) ?_
                refine ta_ 9 (some 65) (ba_ 38 1023) rfl rfl (take_ofW HT_.out HW_.out (by kernel_rfl)) hHeld (by rintro w' ⟨s0, s1, s2, s3, s4, s5, s6, s7, s8, s9, s10, s11⟩; go_simp; with_reducible rfl) ?_
                refine pu_ 10 (some 66) (ba_ 38 2047) rfl rfl (any_of HT_.out (by kernel_rfl)) ?_
                refine pu_ 11 (some 67) (ba_ 38 4095) rfl rfl (any_of HT_.out (by kernel_rfl)) ?_
                refine pu_ 12 (some 68) (ba_ 38 8191) rfl rfl (any_of HT_.out (by kernel_rfl)) ?_
                refine pu_ 13 (some 69) (ba_ 38 16383) rfl rfl (any_of HT_.out (by kernel_rfl)) ?_
                refine pu_ 14 (some 70) (ba_ 38 32767) rfl rfl (any_of HT_.out (by kernel_rfl)) ?_
                refine pu_ 15 (some 71) (ba_ 38 65535) rfl rfl (any_of HT_.out (by kernel_rfl)) ?_
                refine pu_ 16 (some 72) (ba_ 38 131071) rfl rfl (any_of HT_.out (by kernel_rfl)) ?_
                refine pu_ 18 (some 74) (ba_ 38 393215) rfl rfl (any_of HT_.out (by kernel_rfl)) ?_
                refine pu_ 19 (some 75) (ba_ 38 917503) rfl rfl (any_of HT_.out (by kernel_rfl)) ?_
                refine pu_ 20 (some 76) (ba_ 38 1966079) rfl rfl (any_of HT_.out (by kernel_rfl)) ?_
                refine pu_ 21 (some 77) (ba_ 38 4063231) rfl rfl (any_of HT_.out (by kernel_rfl)) ?_
                refine pu_ 24 (some 80) (ba_ 38 20840447) rfl rfl (any_of HT_.out (by kernel_rfl)) ?_
                refine pu_ 25 (some 81) (ba_ 38 54394879) rfl rfl (any_of HT_.out (by kernel_rfl)) ?_
                refine pu_ 26 (some 82) (ba_ 38 121503743) rfl rfl (any_of HT_.out (by kernel_rfl)) ?_
                refine pu_ 27 (some 83) (ba_ 38 255721471) rfl rfl (any_of HT_.out (by kernel_rfl)) ?_
                refine pu_ 28 (some 84) (ba_ 38 524156927) rfl rfl (any_of HT_.out (by kernel_rfl)) ?_
                refine pu_ 30 (some 86) (ba_ 38 1597898751) rfl rfl (any_of HT_.out (by kernel_rfl)) ?_
                refine pu_ 31 (some 87) (ba_ 38 3745382399) rfl rfl (any_of HT_.out (by kernel_rfl)) ?_
                refine pu_ 32 (some 88) (ba_ 38 8040349695) rfl rfl (any_of HT_.out (by kernel_rfl)) ?_
                refine pu_ 33 (some 89) (ba_ 38 16630284287) rfl rfl (any_of HT_.out (by kernel_rfl)) ?_
                refine ta_ 17 (some 73) (ba_ 38 16630415359) rfl rfl (take_ofW HT_.out HW_.out (by kernel_rfl)) hHeld (by rintro w' ⟨s0, s1, s2, s3, s4, s5, s6, s7, s8, s9, s10, s11⟩; go_simp; with_reducible rfl) ?_
                refine ta_ 22 (some 78) (ba_ 38 16634609663) rfl rfl (take_ofW HT_.out HW_.out (by kernel_rfl)) hHeld (by rintro w' ⟨s0, s1, s2, s3, s4, s5, s6, s7, s8, s9, s10, s11⟩; go_simp; with_reducible rfl) ?_
                refine ta_ 29 (some 85) (ba_ 38 17171480575) rfl rfl (take_ofW HT_.out HW_.out (by kernel_rfl)) hHeld (by rintro w' ⟨s0, s1, s2, s3, s4, s5, s6, s7, s8, s9, s10, s11⟩; go_simp; with_reducible rfl) ?_
                refine ta_ 34 (some 90) (ba_ 38 34351349759) rfl rfl (take_ofW HT_.out HW_.out (by kernel_rfl)) hHeld (by rintro w' ⟨s0, s1, s2, s3, s4, s5, s6, s7, s8, s9, s10, s11⟩; go_simp; with_reducible rfl) ?_
                refine one_ (i := 23) (N := some 79) (ba_ 38 34359738367) rfl rfl (one_of HT_.out (by kernel_rfl)) (by decide) (fun K hK => ?_)
                refine goes_ Try.func71 (by kernel_rfl) rfl #[.slice A0 l0.length c0, .int .i64 ((rd_T48 l2 x8_3).f0), .int .i64 ((rd_T48 l2 x7_1).f0)] (by rfl) rfl rfl (by (try simp only [List.map_toArray, List.map_cons, List.map_nil]); first | done | rfl | (simp only [List.length_drop, List.length_take]; rfl)) ?_
                with_reducible refine (spec_Under.calls k3 _ _ l0 ((rd_T48 l2 x8_3).f0) ((rd_T48 l2 x7_1).f0) t621 _ ?side1 ?side2 A34.out).mono ?_
                (case side1 => exact cx_ HR0 HB)
                (case side2 => exact HC0.out)
                rintro e w41 ⟨rfl, hb⟩
                refine ⟨_, rfl, ?_⟩
                have n0_ := tB_ HB hb
                clear HB
                have HB := n0_
                clear n0_
                (try clear hb)
                (try clear hb2)
                (try clear hk)
                (try clear hi)
                refine hK.out _ _ ⟨(ce_ HB hw617_0), (ce_ HB hw617_1), (ce_ HB hw618_0), (ce_ HB hw618_1), (ce_ HB hw619_0), (ce_ HB hw619_1), (ce_ HB hw620_0), (ce_ HB hw620_1), (ce_ HB hw622_0), (ce_ HB hw622_1), (ce_ HB hw623_0), (ce_ HB hw623_1)⟩ (fun hHeld => ?_)
                clear hK K
                refine norm_ (a' := ?_) ?_ ?_
                rotate_left
                ·show Act.put _ (some 79) _ = _
                 simp only [Act.put, List.setIfInBounds_toArray, List.set_cons_zero, List.set_cons_succ, i64_w, i32_w]
                 rfl
                refine one_ (i := 35) (N := some 91) (ba_ 38 68719476735) rfl rfl (one_of HT_.out (by kernel_rfl)) (by decide) (fun K hK => ?_)
                refine goes_ Try.func71 (by kernel_rfl) rfl #[.slice A1 l1.length c1, .int .i64 ((rd_T48 l2 x8_3).f1), .int .i64 ((rd_T48 l2 x7_1).f1)] (by rfl) rfl rfl (by (try simp only [List.map_toArray, List.map_cons, List.map_nil]); first | done | rfl | (simp only [List.length_drop, List.length_take]; rfl)) ?_
                with_reducible refine (spec_Under.calls k3 _ _ l1 ((rd_T48 l2 x8_3).f1) ((rd_T48 l2 x7_1).f1) t624 _ ?side1 ?side2 A35.out).mono ?_
                (case side1 => exact cx_ HR1 HB)
                (case side2 => exact HC1.out)
                rintro e w42 ⟨rfl, hb⟩
                refine ⟨_, rfl, ?_⟩
                have n0_ := tB_ HB hb
                clear HB
                have HB := n0_
                clear n0_
                (try clear hb)
                (try clear hb2)
                (try clear hk)
                (try clear hi)
                refine hK.out _ _ ⟨(ce_ HB hw617_0), (ce_ HB hw617_1), (ce_ HB hw618_0), (ce_ HB hw618_1), (ce_ HB hw619_0), (ce_ HB hw619_1), (ce_ HB hw620_0), (ce_ HB hw620_1), (ce_ HB hw622_0), (ce_ HB hw622_1), (ce_ HB hw623_0), (ce_ HB hw623_1)⟩ (fun hHeld => ?_)
                clear hK K
                refine norm_ (a' := ?_) ?_ ?_
                rotate_left
                ·show Act.put _ (some 91) _ = _
                 simp only [Act.put, List.setIfInBounds_toArray, List.set_cons_zero, List.set_cons_succ, i64_w, i32_w]
                 rfl
                refine pu_ 36 (some 92) (ba_ 38 137438953471) rfl rfl (any_of HT_.out (by kernel_rfl)) ?_
                refine pu_ 37 (some 93) (ba_ 38 274877906943) rfl rfl (any_of HT_.out (by kernel_rfl)) ?_
                refine done_ (done_of HT_.out (by kernel_rfl)) ?_
                try go_wp2
                go_roundg k3
                case measure => have := HK1.out; have := HJ4.out; have := HK3.out; omega
                case rel => exact ⟨(wrap64 (x8_3 + 1)), eb_, H', ⟨by have := HK1.out; have := HJ4.out; have := HK3.out; omega⟩, bl_ HB⟩
             ·rw [if_neg c31] at H
              exact absurd H (by simp)
            ·rw [if_neg c30] at H
             exact absurd H (by simp)
           ·rw [if_neg c29] at H
            exact absurd H (by simp)
          ·rw [if_neg c28] at H
           exact absurd H (by simp)
         ·rw [if_neg c27] at H
          have c27b0 : decide (x8_3 < x7_1) = false := decide_eq_false c27
          clear c27
          have H' := Aside0.mk H
          clear H
          go_wp2
          go_roundg k3
          case measure => have := HK1.out; have := HJ4.out; have := HK3.out; omega
          case rel => exact ⟨(wrap64 (x7_1 + 1)), eb_, H', ⟨by have := HK1.out; have := HJ4.out; have := HK3.out; omega⟩, bl_ HB⟩
   ·rw [if_neg c4] at H
    have c4b0 : decide (x7_1 < (l2.length : Int)) = false := decide_eq_false c4
    clear c4
    replace H := Option.bind_eq_some_iff.mp H
    obtain ⟨t609, A430, H⟩ := H
    replace H : (if t609 = true then ((spec_TreeOk.f k1 l1).bind fun t610 => (some t610)) else (some false)) = some r := H
    have A43 := Aside0.mk A430
    clear A430
    by_cases c44 : t609 = true
    ·subst c44
     have H1 : ((spec_TreeOk.f k1 l1).bind fun t610 => (some t610)) = some r := by rw [if_pos rfl] at H; exact H
     clear H
     have H := H1
     clear H1
     replace H := Option.bind_eq_some_iff.mp H
     obtain ⟨t610, A450, H⟩ := H
     replace H : (some t610) = some r := H
     have A45 := Aside0.mk A450
     clear A450
     obtain rfl := Option.some.inj H
     go_wp2_with (first | ((with_reducible refine gate_callee (f := 16) rfl ?_); refine gL_ (some 95) Try.func16 #[.slice A0 l0.length c0] ?_; (with_reducible refine (spec_TreeOk.calls k1 _ _ l0 true _ (cx_ HR0 HB) HC0.out A43.out).mono ?_); rintro e w46 ⟨rfl, hb⟩; refine ⟨_, rfl, ?_⟩; replace HB := tB_ HB hb; (try clear hb)) | (go_at_call 16; (with_reducible refine (spec_TreeOk.calls k1 _ _ l1 t610 _ (cx_ HR1 HB) HC1.out A45.out).mono ?_); rintro e w47 ⟨rfl, hb⟩; replace HB := tB_ HB hb; (try clear hb)))
     go_ret
     exact ⟨ea_, (bl_ HB).out⟩
    ·replace c44 := Bool.eq_false_iff.mpr c44
     subst c44
     have H1 : (some false) = some r := by rw [if_neg (show ¬ (false = true) by decide)] at H; exact H
     clear H
     have H := H1
     clear H1
     obtain rfl := Option.some.inj H
     go_wp2_with (first | ((with_reducible refine gate_callee (f := 16) rfl ?_); refine gL_ (some 95) Try.func16 #[.slice A0 l0.length c0] ?_; (with_reducible refine (spec_TreeOk.calls k1 _ _ l0 false _ (cx_ HR0 HB) HC0.out A43.out).mono ?_); rintro e w48 ⟨rfl, hb⟩; refine ⟨_, rfl, ?_⟩; replace HB := tB_ HB hb; (try clear hb)))
     go_ret
     exact ⟨ea_, (bl_ HB).out⟩
end Go.Proofs.Ytngphdmbjenkaaa.X
namespace Go.Proofs.Ytngphdmbjenkaaa.X
open Go.RowKit Go.Proofs.YtngphdmbjenkaaaW.PrintWords Go.Proofs.YtngphdmbjenkaaaW.PrintLast Go.Proofs.YtngphdmbjenkaaaW.PrintMore
attribute [local go_sem] max2_int min2_int max_two min_two max_three min_three max_four min_four   -- for this text's walks alone
set_option linter.unusedVariables false
set_option linter.unusedSimpArgs false
mutual
def impl_MapOk.j0 : Nat → List (S77) → List (S77) → List (S48) → Bool → Option (Bool)
 | 0, _, _, _, _ => none
 | k + 1, x0, x1, x2, x18 => if x18 = true then (some false) else (impl_MapOk.l0 k x0 x1 x2 x2 (x2.length : Int) 0)
def impl_MapOk.l0 : Nat → List (S77) → List (S77) → List (S48) → List (S48) → Int → Int → Option (Bool)
 | 0, _, _, _, _, _, _ => none
 | k + 1, x0, x1, x2, x19, x20, x21 => if x21 < x20 then (if 0 ≤ x21 then (if x21 < (x19.length : Int) then ((impl_hasNode.f k x0 ((rd_T48 x19 x21).f0)).bind fun t451 => (if t451 = true then ((impl_hasNode.f k x1 ((rd_T48 x19 x21).f1)).bind fun t452 => (if t452 = true then (if x21 > 0 then (if 0 ≤ (wrap64 (x21 - 1)) then (if (wrap64 (x21 - 1)) < (x2.length : Int) then (if ((rd_T48 x19 x21).f0) ≤ ((rd_T48 x2 (wrap64 (x21 - 1))).f0) then (impl_MapOk.j2 k x0 x1 x2 x21 x19 x20 x21 true ((rd_T48 x19 x21).f0) ((rd_T48 x19 x21).f1)) else (impl_MapOk.j2 k x0 x1 x2 x21 x19 x20 x21 (decide (((rd_T48 x19 x21).f1) ≤ ((rd_T48 x2 (wrap64 (x21 - 1))).f1))) ((rd_T48 x19 x21).f0) ((rd_T48 x19 x21).f1))) else (none)) else (none)) else (impl_MapOk.j2 k x0 x1 x2 x21 x19 x20 x21 false ((rd_T48 x19 x21).f0) ((rd_T48 x19 x21).f1))) else (impl_MapOk.j2 k x0 x1 x2 x21 x19 x20 x21 true ((rd_T48 x19 x21).f0) ((rd_T48 x19 x21).f1)))) else (impl_MapOk.j2 k x0 x1 x2 x21 x19 x20 x21 true ((rd_T48 x19 x21).f0) ((rd_T48 x19 x21).f1)))) else (none)) else (none)) else (some true)
def impl_MapOk.j2 : Nat → List (S77) → List (S77) → List (S48) → Int → List (S48) → Int → Int → Bool → Int → Int → Option (Bool)
 | 0, _, _, _, _, _, _, _, _, _, _ => none
 | k + 1, x0, x1, x2, x7, x19, x20, x21, x63, x451000, x451001 => if x63 = true then (some false) else (if 0 ≤ x7 then (if x7 ≤ (x2.length : Int) then ((some (x2.take (x7 : Int).toNat : List (S48))).bind fun y455 => (impl_MapOk.l1 k x0 x1 x2 x19 x20 x21 y455 (y455.length : Int) 0 x451000 x451001)) else (none)) else (none))
def impl_MapOk.l1 : Nat → List (S77) → List (S77) → List (S48) → List (S48) → Int → Int → List (S48) → Int → Int → Int → Int → Option (Bool)
 | 0, _, _, _, _, _, _, _, _, _, _, _ => none
 | k + 1, x0, x1, x2, x19, x20, x21, x66, x67, x68, x451000, x451001 => if x68 < x67 then (if 0 ≤ x68 then (if x68 < (x66.length : Int) then ((impl_endOf.f k x0 ((rd_T48 x66 x68).f0)).bind fun t461 => ((impl_endOf.f k x1 ((rd_T48 x66 x68).f1)).bind fun t462 => (if ((decide (x451000 < t461)) != (decide (x451001 < t462))) = true then (some false) else (impl_MapOk.l1 k x0 x1 x2 x19 x20 x21 x66 x67 (wrap64 (x68 + 1)) x451000 x451001)))) else (none)) else (none)) else (impl_MapOk.l0 k x0 x1 x2 x19 x20 (wrap64 (x21 + 1)))
end
def impl_MapOk.f (k : Nat) (l0 : List (S77)) (l1 : List (S77)) (l2 : List (S48)) : Option (Bool) := (impl_TreeOk.f k l0).bind fun t447 => (if t447 = true then ((impl_TreeOk.f k l1).bind fun t448 => (impl_MapOk.j0 k l0 l1 l2 (!t448))) else (impl_MapOk.j0 k l0 l1 l2 true))
def impl_MapOk.T6 : Bool × List (List Nat × List Nat) := (true, [([], []), ([], []), ([1], [1]), ([0, 2], [0, 2]), ([3], [3]), ([4, 3], [4]), ([5], [5]), ([5], [5]), ([7, 5], [5, 7]), ([6, 8, 5, 5], [5, 6, 8]), ([9, 5], [5, 9]), ([5, 10], [5, 10]), ([11, 9], [11]), ([12], [12]), ([13, 12], [12, 13]), ([14, 12, 12], [12, 14]), ([15], [15]), ([16, 15], [15, 16]), ([15], [15]), ([15], [15]), ([19, 15], [15, 19]), ([18, 20, 15], [15, 18, 20]), ([21, 15], [15, 21]), ([22, 15], [15, 22]), ([17, 23, 15], [15, 17, 23]), ([24, 15, 15], [15, 24]), ([25], [25]), ([26, 25], [25, 26]), ([25], [25]), ([25], [25]), ([29, 25], [25, 29]), ([28, 30, 25], [25, 28, 30]), ([31, 25], [25, 31]), ([32, 25], [25, 32]), ([27, 33, 25], [25, 27, 33]), ([25, 34, 15], [15, 25, 34]), ([15, 35, 12], [12, 15, 35]), ([12, 36], [12, 36])])
def impl_MapOk.B6 : List Nat := [0, 0, 2, 7, 15, 31, 63, 63, 191, 511, 1023, 2047, 4095, 8191, 16383, 32767, 65535, 131071, 65535, 65535, 589823, 1900543, 3997695, 8191999, 16777215, 33554431, 67108863, 134217727, 67108863, 67108863, 603979775, 1946157055, 4093640703, 8388607999, 17179869183, 34359738367, 68719476735, 137438953471]
theorem impl_MapOk.tab6 : rtab .any (opsOf Try.f45 6) = impl_MapOk.T6 := by kernel_rfl
theorem impl_MapOk.bits6 : waitsOk impl_MapOk.T6.2 impl_MapOk.B6 = true := by kernel_rfl
def impl_MapOk.T11 : Bool × List (List Nat × List Nat) := (true, [([], []), ([0], [0]), ([], []), ([], []), ([3], [3]), ([2, 4], [2, 4]), ([1, 5], [1, 5]), ([], []), ([7], [7]), ([], []), ([], []), ([10], [10]), ([9, 11, 5], [9, 11]), ([8, 12], [8, 12]), ([6, 13], [6, 13])])
def impl_MapOk.B11 : List Nat := [0, 1, 0, 0, 8, 28, 63, 0, 128, 0, 0, 1024, 3644, 8124, 16383]
theorem impl_MapOk.tab11 : rtab .any (opsOf Try.f45 11) = impl_MapOk.T11 := by kernel_rfl
theorem impl_MapOk.bits11 : waitsOk impl_MapOk.T11.2 impl_MapOk.B11 = true := by kernel_rfl
set_option maxHeartbeats 8000000 in
set_option maxRecDepth 100000 in
theorem impl_MapOk.calls (k : Nat) (A0 : Option Addr) (c0 : Nat) (l0 : List (S77)) (A1 : Option Addr) (c1 : Nat) (l1 : List (S77)) (A2 : Option Addr) (c2 : Nat) (l2 : List (S48)) (r : Bool) (w : World) (hr0 : Kd.C k77 w A0 l0.length l0) (hc0 : l0.length ≤ c0) (hr1 : Kd.C k77 w A1 l1.length l1) (hc1 : l1.length ≤ c1) (hr2 : Kd.C k48 w A2 l2.length l2) (hc2 : l2.length ≤ c2) (h : impl_MapOk.f k l0 l1 l2 = some r) :
  Calls Try.prog 45 #[.slice A0 l0.length c0, .slice A1 l1.length c1, .slice A2 l2.length c2] w fun e w' => e = .returned (.bool r) ∧ Below w.heap.size w w' := by
 have hu48 := Try.underlying48
 have HR0 := Aside0.mk hr0
 have HC0 := Aside0.mk hc0
 clear hr0 hc0
 have HR1 := Aside0.mk hr1
 have HC1 := Aside0.mk hc1
 clear hr1 hc1
 have HR2 := Aside0.mk hr2
 have HC2 := Aside0.mk hc2
 clear hr2 hc2
 have HB := Aside0.mk (Below.refl w.heap.size w)
 have H : ((impl_TreeOk.f k l0).bind fun t447 => (if t447 = true then ((impl_TreeOk.f k l1).bind fun t448 => (impl_MapOk.j0 k l0 l1 l2 (!t448))) else (impl_MapOk.j0 k l0 l1 l2 true))) = some r := h
 clear h
 have HC4 := Aside0.mk H
 clear H
 go_enter Try.func45, Try.ntmps45
 go_upto_region 1 with (fail)
 go_cut [18] (fun v18 wc => ∃ (kq : Nat) (x18_3 : Bool), v18 = .bool x18_3 ∧ Aside0 (impl_MapOk.j0 kq l0 l1 l2 x18_3 = some r) ∧ Aside0 (kq ≤ k) ∧ Aside0 (Below w.heap.size w wc))
 case first =>
  have H := HC4.out
  clear HC4
  replace H := Option.bind_eq_some_iff.mp H
  obtain ⟨t447, A50, H⟩ := H
  try dsimp only at H
  have A5 := Aside0.mk A50
  clear A50
  by_cases c6 : t447 = true
  ·subst c6
   have H1 : ((impl_TreeOk.f k l1).bind fun t448 => (impl_MapOk.j0 k l0 l1 l2 (!t448))) = some r := by rw [if_pos rfl] at H; exact H
   clear H
   have H := H1
   clear H1
   replace H := Option.bind_eq_some_iff.mp H
   obtain ⟨t448, A70, H⟩ := H
   replace H : (impl_MapOk.j0 k l0 l1 l2 (!t448)) = some r := H
   have A7 := Aside0.mk A70
   clear A70
   have H' := Aside0.mk H
   clear H
   go_wp2_with (first | ((with_reducible refine gate_callee (f := 59) rfl ?_); refine gL_ (some 12) Try.func59 #[.slice A0 l0.length c0] ?_; (with_reducible refine (impl_TreeOk.calls k _ _ l0 true _ (cx_ HR0 HB) HC0.out A5.out).mono ?_); rintro e w8 ⟨rfl, hb⟩; refine ⟨_, rfl, ?_⟩; replace HB := tB_ HB hb; (try clear hb)) | (go_at_call 59; (with_reducible refine (impl_TreeOk.calls k _ _ l1 t448 _ (cx_ HR1 HB) HC1.out A7.out).mono ?_); rintro e w9 ⟨rfl, hb⟩; replace HB := tB_ HB hb; (try clear hb)))
   go_meet
   case rel => exact ⟨_, (!t448), eb_, H', ⟨by first | omega | exact Nat.le_refl _⟩, bl_ HB⟩
  ·replace c6 := Bool.eq_false_iff.mpr c6
   subst c6
   have H1 : (impl_MapOk.j0 k l0 l1 l2 true) = some r := by rw [if_neg (show ¬ (false = true) by decide)] at H; exact H
   clear H
   have H := H1
   clear H1
   have H' := Aside0.mk H
   clear H
   go_wp2_with (first | ((with_reducible refine gate_callee (f := 59) rfl ?_); refine gL_ (some 12) Try.func59 #[.slice A0 l0.length c0] ?_; (with_reducible refine (impl_TreeOk.calls k _ _ l0 false _ (cx_ HR0 HB) HC0.out A5.out).mono ?_); rintro e w10 ⟨rfl, hb⟩; refine ⟨_, rfl, ?_⟩; replace HB := tB_ HB hb; (try clear hb)))
   go_meet
   case rel => exact ⟨_, (true), eb_, H', ⟨by first | omega | exact Nat.le_refl _⟩, bl_ HB⟩
 case rest =>
  clear HC4
  try clear c1
  try clear c2
  try clear p2
  try clear c4
  try clear c5
  try clear c6
  obtain ⟨kq, x18_3, rfl, HA, HJ3, HB⟩ := hcut
  cases kq with
  | zero => exact absurd HA.out (by simp [impl_MapOk.j0])
  | succ kj3 =>
   have H := HA.out
   clear HA
   simp only [impl_MapOk.j0] at H
   by_cases c11 : x18_3 = true
   ·subst c11
    have H1 : (some false) = some r := by rw [if_pos rfl] at H; exact H
    clear H
    have H := H1
    clear H1
    obtain rfl := Option.some.inj H
    go_wp2
    go_ret
    exact ⟨ea_, (bl_ HB).out⟩
   ·replace c11 := Bool.eq_false_iff.mpr c11
    subst c11
    have H1 : (impl_MapOk.l0 kj3 l0 l1 l2 l2 (l2.length : Int) 0) = some r := by rw [if_neg (show ¬ (false = true) by decide)] at H; exact H
    clear H
    have H := H1
    clear H1
    have H' := Aside0.mk H
    clear H
    go_wp2
    go_loopg [21] kj3 (fun kq v21 w' => ∃ (x21_2 : Int), v21 = .int .i64 x21_2 ∧ Aside0 (impl_MapOk.l0 kq l0 l1 l2 l2 (l2.length : Int) x21_2 = some r) ∧ Aside0 (kq ≤ kj3) ∧ Aside0 (Below w.heap.size w w'))
    case atStart => exact ⟨(0), eb_, H', ⟨Nat.le_refl _⟩, bl_ HB⟩
    case round =>
     clear H'
     try clear c1
     try clear c2
     try clear p2
     try clear c4
     try clear c5
     try clear c6
     try clear c11
     try clear p2
     obtain ⟨x21_2, rfl, HA, HK2, HB⟩ := hrel
     cases gk with
     | zero => exact absurd HA.out (by simp [impl_MapOk.l0])
     | succ k2 =>
      have H := HA.out
      clear HA
      simp only [impl_MapOk.l0] at H
      by_cases c12 : x21_2 < (l2.length : Int)
      ·rw [if_pos c12] at H
       have c12b0 : decide (x21_2 < (l2.length : Int)) = true := decide_eq_true c12
       clear c12
       by_cases c13 : 0 ≤ x21_2
       ·rw [if_pos c13] at H
        have c13b0 : decide (0 ≤ x21_2) = true := decide_eq_true c13
        clear c13
        by_cases c14 : x21_2 < (l2.length : Int)
        ·rw [if_pos c14] at H
         have c14b0 : decide (x21_2 < (l2.length : Int)) = true := decide_eq_true c14
         clear c14
         have HC15 := Aside0.mk H
         clear H
         have p449 : 0 ≤ (x21_2 : Int) := od_
         have q449 : x21_2 < (l2.length : Int) := od_
         obtain ⟨ad449, e449, hx449_0, hx449_1⟩ := at_T48 HR2.out x21_2 p449 q449
         cases e449
         replace hx449_0 := ce_ HB hx449_0
         replace hx449_1 := ce_ HB hx449_1
         replace p449 := eq_true p449
         replace q449 := eq_true q449
         go_upto_region 6 with (first | ((with_reducible refine gate_dst (N := 8) rfl ?_); refine bx_ 8 #[.int .i64 0, .int .i64 0] 48 ?_; intro gb450 hg w16 hbox hb; have BK450 := Aside0.mk (hbox); have GW450 := Aside0.mk ((by rw [hg]; exact (bs_ HB) : w.heap.size ≤ gb450)); have GE450 := Aside0.mk ((by rw [hg]; exact (bs_ HB) : w.heap.size ≤ gb450)); replace HB := tB_ HB hb; clear hb hbox hg; obtain ⟨hcz17_0, hcz17_1, hfz17_0, hfz17_1⟩ := bk2_ BK450))
         (try simp only [Act.put, List.setIfInBounds_toArray, List.set_cons_zero, List.set_cons_succ])
         go_cut [63] (fun v63 wc => ∃ (kq : Nat) (x63_14 : Bool), v63 = .bool x63_14 ∧ Aside0 (impl_MapOk.j2 kq l0 l1 l2 x21_2 l2 (l2.length : Int) x21_2 x63_14 ((rd_T48 l2 x21_2).f0) ((rd_T48 l2 x21_2).f1) = some r) ∧ Aside0 (kq ≤ k2) ∧ Aside0 (wc.heap[gb450]? = some (.cells #[.int .i64 ((rd_T48 l2 x21_2).f0), .int .i64 ((rd_T48 l2 x21_2).f1)] 48 (0, 0))) ∧ Aside0 (Below w.heap.size w wc))
         case first =>
          have H := HC15.out
          clear HC15
          replace H := Option.bind_eq_some_iff.mp H
          obtain ⟨t451, A180, H⟩ := H
          try dsimp only at H
          have A18 := Aside0.mk A180
          clear A180
          by_cases c19 : t451 = true
          ·subst c19
           have H1 : ((impl_hasNode.f k2 l1 ((rd_T48 l2 x21_2).f1)).bind fun t452 => (if t452 = true then (if x21_2 > 0 then (if 0 ≤ (wrap64 (x21_2 - 1)) then (if (wrap64 (x21_2 - 1)) < (l2.length : Int) then (if ((rd_T48 l2 x21_2).f0) ≤ ((rd_T48 l2 (wrap64 (x21_2 - 1))).f0) then (impl_MapOk.j2 k2 l0 l1 l2 x21_2 l2 (l2.length : Int) x21_2 true ((rd_T48 l2 x21_2).f0) ((rd_T48 l2 x21_2).f1)) else (impl_MapOk.j2 k2 l0 l1 l2 x21_2 l2 (l2.length : Int) x21_2 (decide (((rd_T48 l2 x21_2).f1) ≤ ((rd_T48 l2 (wrap64 (x21_2 - 1))).f1))) ((rd_T48 l2 x21_2).f0) ((rd_T48 l2 x21_2).f1))) else (none)) else (none)) else (impl_MapOk.j2 k2 l0 l1 l2 x21_2 l2 (l2.length : Int) x21_2 false ((rd_T48 l2 x21_2).f0) ((rd_T48 l2 x21_2).f1))) else (impl_MapOk.j2 k2 l0 l1 l2 x21_2 l2 (l2.length : Int) x21_2 true ((rd_T48 l2 x21_2).f0) ((rd_T48 l2 x21_2).f1)))) = some r := by rw [if_pos rfl] at H; exact H
           clear H
           have H := H1
           clear H1
           replace H := Option.bind_eq_some_iff.mp H
           obtain ⟨t452, A200, H⟩ := H
           try dsimp only at H
           have A20 := Aside0.mk A200
           clear A200
           by_cases c21 : t452 = true
           ·subst c21
            have H1 : (if x21_2 > 0 then (if 0 ≤ (wrap64 (x21_2 - 1)) then (if (wrap64 (x21_2 - 1)) < (l2.length : Int) then (if ((rd_T48 l2 x21_2).f0) ≤ ((rd_T48 l2 (wrap64 (x21_2 - 1))).f0) then (impl_MapOk.j2 k2 l0 l1 l2 x21_2 l2 (l2.length : Int) x21_2 true ((rd_T48 l2 x21_2).f0) ((rd_T48 l2 x21_2).f1)) else (impl_MapOk.j2 k2 l0 l1 l2 x21_2 l2 (l2.length : Int) x21_2 (decide (((rd_T48 l2 x21_2).f1) ≤ ((rd_T48 l2 (wrap64 (x21_2 - 1))).f1))) ((rd_T48 l2 x21_2).f0) ((rd_T48 l2 x21_2).f1))) else (none)) else (none)) else (impl_MapOk.j2 k2 l0 l1 l2 x21_2 l2 (l2.length : Int) x21_2 false ((rd_T48 l2 x21_2).f0) ((rd_T48 l2 x21_2).f1))) = some r := by rw [if_pos rfl] at H; exact H
            clear H
            have H := H1
            clear H1
            by_cases c22 : x21_2 > 0
            ·rw [if_pos c22] at H
             have c22b0 : decide (0 < x21_2) = true := decide_eq_true c22
             clear c22
             (first | rw [c22b0] | (simp only [i64_w, i32_w]; rw [c22b0]) | skip)
             obtain ⟨ji23, hji23⟩ : ∃ j_ : Int, (wrap64 (x21_2 - 1)) = j_ := ⟨_, rfl⟩
             replace H : (if 0 ≤ (ji23) then (if (ji23) < (l2.length : Int) then (if ((rd_T48 l2 x21_2).f0) ≤ ((rd_T48 l2 (ji23)).f0) then (impl_MapOk.j2 k2 l0 l1 l2 x21_2 l2 (l2.length : Int) x21_2 true ((rd_T48 l2 x21_2).f0) ((rd_T48 l2 x21_2).f1)) else (impl_MapOk.j2 k2 l0 l1 l2 x21_2 l2 (l2.length : Int) x21_2 (decide (((rd_T48 l2 x21_2).f1) ≤ ((rd_T48 l2 (ji23)).f1))) ((rd_T48 l2 x21_2).f0) ((rd_T48 l2 x21_2).f1))) else (none)) else (none)) = some r := by first | (rw [hji23] at H; exact H) | (simp only [hji23] at H ⊢; exact H)
             (try rw [hji23] at A18)
             (try rw [hji23] at A20)
             have hji23w : (IntKind.i64.wrap (x21_2 - 1)) = ji23 := (i64_w _).trans hji23
             by_cases c24 : 0 ≤ (ji23)
             ·rw [if_pos c24] at H
              have c24b0 : decide (0 ≤ (ji23)) = true := decide_eq_true c24
              clear c24
              by_cases c25 : (ji23) < (l2.length : Int)
              ·rw [if_pos c25] at H
               have c25b0 : decide ((ji23) < (l2.length : Int)) = true := decide_eq_true c25
               clear c25
               by_cases c26 : ((rd_T48 l2 x21_2).f0) ≤ ((rd_T48 l2 (ji23)).f0)
               ·rw [if_pos c26] at H
                have c26b0 : decide (((rd_T48 l2 x21_2).f0) ≤ ((rd_T48 l2 (ji23)).f0)) = true := decide_eq_true c26
                clear c26
                have H' := Aside0.mk H
                clear H
                try go_wp2
                have n0_ : Aside0 (((w16.setCell ⟨gb450, 0, none⟩ (.int .i64 ((rd_T48 l2 x21_2).f0))).setCell ⟨gb450, 1, none⟩ (.int .i64 ((rd_T48 l2 x21_2).f1))).heap[gb450]? = some (.cells #[.int .i64 ((rd_T48 l2 x21_2).f0), .int .i64 ((rd_T48 l2 x21_2).f1)] 48 (0, 0))) := ⟨by (with_reducible repeat (first | refine blk_drewN ?_ _ | refine blk_drew ?_ | refine blk_alloc ?_ _)); refine blk_put (cs := #[.int .i64 ((rd_T48 l2 x21_2).f0), .int .i64 0]) ?_ 1 _ rfl; (with_reducible repeat (first | refine blk_drewN ?_ _ | refine blk_drew ?_ | refine blk_alloc ?_ _)); refine blk_put (cs := #[.int .i64 0, .int .i64 0]) ?_ 0 _ rfl; (with_reducible repeat (first | refine blk_drewN ?_ _ | refine blk_drew ?_ | refine blk_alloc ?_ _)); exact BK450.out⟩
                have n1_ : Aside0 (Below w.heap.size w ((w16.setCell ⟨gb450, 0, none⟩ (.int .i64 ((rd_T48 l2 x21_2).f0))).setCell ⟨gb450, 1, none⟩ (.int .i64 ((rd_T48 l2 x21_2).f1)))) := ⟨by repeat (first | (with_reducible first | exact HB.out | apply below_alloc | apply pw_below_drewN | apply below_drew1 | refine below_set ?_ GE450.out) | exact HB.out)⟩
                (try clear BK450)
                (try clear HB)
                generalize ((w16.setCell ⟨gb450, 0, none⟩ (.int .i64 ((rd_T48 l2 x21_2).f0))).setCell ⟨gb450, 1, none⟩ (.int .i64 ((rd_T48 l2 x21_2).f1))) = w27 at n0_ n1_ ⊢
                have BK450 := n0_
                have HB := n1_
                clear n0_ n1_
                have n0_ := Aside0.mk (blk_drew BK450.out)
                have n1_ := Aside0.mk (below_drew1 HB.out)
                clear BK450
                clear HB
                have BK450 := n0_
                have HB := n1_
                clear n0_ n1_
                have p453 : 0 ≤ ((ji23) : Int) := od_
                have q453 : (ji23) < (l2.length : Int) := od_
                obtain ⟨ad453, e453, hx453_0, hx453_1⟩ := at_T48 HR2.out (ji23) p453 q453
                have hw453_1 := hx453_1
                have hw453_0 := hx453_0
                obtain rfl : ad449 = ad453 := (by injection e453)
                replace hx453_0 := ce_ HB hx453_0
                replace hx453_1 := ce_ HB hx453_1
                replace p453 := eq_true p453
                replace q453 := eq_true q453
                refine start_ (n := 38) (S := fun w' => w'.cell? ⟨gb450, 0, none⟩ = some (.int .i64 ((rd_T48 l2 x21_2).f0)) ∧ w'.cell? ⟨gb450, 1, none⟩ = some (.int .i64 ((rd_T48 l2 x21_2).f1)) ∧ w'.cell? (ad449.add (((ji23)).toNat * 2)) = some (.int .i64 ((rd_T48 l2 (ji23)).f0)) ∧ w'.cell? ⟨(ad449.add (((ji23)).toNat * 2)).block, (ad449.add (((ji23)).toNat * 2)).off + 1, none⟩ = some (.int .i64 ((rd_T48 l2 (ji23)).f1))) (ds := []) (ba_ 38 0) (by kernel_rfl) rfl rfl ⟨(blk_cell BK450.out 0).trans rfl, (blk_cell BK450.out 1).trans rfl, (ce_ HB hw453_0), (ce_ HB hw453_1)⟩ (fun hHeld => ?_); refine with_tabW impl_MapOk.tab6 impl_MapOk.bits6 (fun HT_ HW_ => ?_)
                generalize w27.drew = w28 at BK450 HB hx453_0 hx453_1 hHeld ⊢
                refine pu_ 0 (some 26) (ba_ 38 1) rfl rfl (any_of HT_.out (by kernel_rfl)) ?_
                refine pu_ 1 (some 27) (ba_ 38 3) rfl rfl (any_of HT_.out (by kernel_rfl)) ?_
                refine ta_ 2 (some 28) (ba_ 38 7) rfl rfl (take_ofW HT_.out HW_.out (by kernel_rfl)) hHeld (by rintro w' ⟨s0, s1, s2, s3⟩; go_simp; with_reducible rfl) ?_
                refine one_ (i := 3) (N := some 29) (ba_ 38 15) rfl rfl (one_of HT_.out (by kernel_rfl)) (by decide) (fun K hK => ?_)
                refine goes_ Try.func95 (by kernel_rfl) rfl #[.slice A0 l0.length c0, .int .i64 ((rd_T48 l2 x21_2).f0)] (by rfl) rfl rfl (by (try simp only [List.map_toArray, List.map_cons, List.map_nil]); first | done | rfl | (simp only [List.length_drop, List.length_take]; rfl)) ?_
                with_reducible refine (impl_hasNode.calls k2 _ _ l0 ((rd_T48 l2 x21_2).f0) true _ ?side1 ?side2 A18.out).mono ?_
                (case side1 => exact cx_ HR0 HB)
                (case side2 => exact HC0.out)
                rintro e w29 ⟨rfl, hb⟩
                refine ⟨_, rfl, ?_⟩
                have n0_ := tK_ BK450 hb
                have n1_ := tB_ HB hb
                clear BK450
                clear HB
                have BK450 := n0_
                have HB := n1_
                clear n0_ n1_
                (try clear hb)
                (try clear hb2)
                (try clear hk)
                (try clear hi)
                refine hK.out _ _ ⟨(blk_cell BK450.out 0).trans rfl, (blk_cell BK450.out 1).trans rfl, (ce_ HB hw453_0), (ce_ HB hw453_1)⟩ (fun hHeld => ?_)
                clear hK K
                refine norm_ (a' := ?_) ?_ ?_
                rotate_left
                ·show Act.put _ (some 29) _ = _
                 simp only [Act.put, List.setIfInBounds_toArray, List.set_cons_zero, List.set_cons_succ, i64_w, i32_w]
                 rfl
                refine pu_ 4 (some 30) (ba_ 38 31) rfl rfl (any_of HT_.out (by kernel_rfl)) ?_
                refine pu_ 5 (some 31) (ba_ 38 63) rfl rfl (any_of HT_.out (by kernel_rfl)) ?_
                refine pu_ 6 (some 32) (ba_ 38 127) rfl rfl (any_of HT_.out (by kernel_rfl)) ?_
                refine pu_ 7 (some 33) (ba_ 38 255) rfl rfl (any_of HT_.out (by kernel_rfl)) ?_
                refine ta_ 8 (some 34) (ba_ 38 511) rfl rfl (take_ofW HT_.out HW_.out (by kernel_rfl)) hHeld (by rintro w' ⟨s0, s1, s2, s3⟩; go_simp; with_reducible rfl) ?_
                refine one_ (i := 9) (N := some 35) (ba_ 38 1023) rfl rfl (one_of HT_.out (by kernel_rfl)) (by decide) (fun K hK => ?_)
                refine goes_ Try.func95 (by kernel_rfl) rfl #[.slice A1 l1.length c1, .int .i64 ((rd_T48 l2 x21_2).f1)] (by rfl) rfl rfl (by (try simp only [List.map_toArray, List.map_cons, List.map_nil]); first | done | rfl | (simp only [List.length_drop, List.length_take]; rfl)) ?_
                with_reducible refine (impl_hasNode.calls k2 _ _ l1 ((rd_T48 l2 x21_2).f1) true _ ?side1 ?side2 A20.out).mono ?_
                (case side1 => exact cx_ HR1 HB)
                (case side2 => exact HC1.out)
                rintro e w30 ⟨rfl, hb⟩
                refine ⟨_, rfl, ?_⟩
                have n0_ := tK_ BK450 hb
                have n1_ := tB_ HB hb
                clear BK450
                clear HB
                have BK450 := n0_
                have HB := n1_
                clear n0_ n1_
                (try clear hb)
                (try clear hb2)
                (try clear hk)
                (try clear hi)
                refine hK.out _ _ ⟨(blk_cell BK450.out 0).trans rfl, (blk_cell BK450.out 1).trans rfl, (ce_ HB hw453_0), (ce_ HB hw453_1)⟩ (fun hHeld => ?_)
                clear hK K
                refine norm_ (a' := ?_) ?_ ?_
                rotate_left
                ·show Act.put _ (some 35) _ = _
                 simp only [Act.put, List.setIfInBounds_toArray, List.set_cons_zero, List.set_cons_succ, i64_w, i32_w]
                 rfl
                refine pu_ 10 (some 36) (ba_ 38 2047) rfl rfl (any_of HT_.out (by kernel_rfl)) ?_
                refine pu_ 11 (some 37) (ba_ 38 4095) rfl rfl (any_of HT_.out (by kernel_rfl)) ?_
                refine pu_ 12 (some 38) (ba_ 38 8191) rfl rfl (any_of HT_.out (by kernel_rfl)) ?_
                refine pu_ 13 (some 39) (ba_ 38 16383) rfl rfl (any_of HT_.out (by kernel_rfl)) ?_
                refine pu_ 14 (some 40) (ba_ 38 32767) rfl rfl (any_of HT_.out (by kernel_rfl)) ?_
                refine pu_ 15 (some 41) (ba_ 38 65535) rfl rfl (any_of HT_.out (by kernel_rfl)) ?_
                refine pu_ 16 (some 42) (ba_ 38 131071) rfl rfl (any_of HT_.out (by kernel_rfl)) ?_
                refine pu_ 18 (some 44) (ba_ 38 393215) rfl rfl (any_of HT_.out (by kernel_rfl)) ?_
                refine pu_ 19 (some 45) (ba_ 38 917503) rfl rfl (any_of HT_.out (by kernel_rfl)) ?_
                refine pu_ 20 (some 46) (ba_ 38 1966079) rfl rfl (any_of HT_.out (by kernel_rfl)) ?_
                refine pu_ 21 (some 47) (ba_ 38 4063231) rfl rfl (any_of HT_.out (by kernel_rfl)) ?_
                refine pu_ 22 (some 48) (ba_ 38 8257535) rfl rfl (any_of HT_.out (by kernel_rfl)) ?_
                refine ta_ 17 (some 43) (ba_ 38 8388607) rfl rfl (take_ofW HT_.out HW_.out (by kernel_rfl)) hHeld (by rintro w' ⟨s0, s1, s2, s3⟩; go_simp; with_reducible rfl) ?_
                refine ta_ 23 (some 49) (ba_ 38 16777215) rfl rfl (take_ofW HT_.out HW_.out (by kernel_rfl)) hHeld (by rintro w' ⟨s0, s1, s2, s3⟩; go_simp; with_reducible rfl) ?_
                refine pu_ 24 (some 50) (ba_ 38 33554431) rfl rfl (any_of HT_.out (by kernel_rfl)) ?_
                refine pu_ 25 (some 51) (ba_ 38 67108863) rfl rfl (any_of HT_.out (by kernel_rfl)) ?_
                refine pn_ 26 (some 52) (ba_ 38 134217727) rfl rfl (any_of HT_.out (by kernel_rfl)) ?_
                refine pn_ 27 (some 53) (ba_ 38 268435455) rfl rfl (any_of HT_.out (by kernel_rfl)) ?_
                refine pn_ 28 (some 54) (ba_ 38 536870911) rfl rfl (any_of HT_.out (by kernel_rfl)) ?_
                refine pn_ 29 (some 55) (ba_ 38 1073741823) rfl rfl (any_of HT_.out (by kernel_rfl)) ?_
                refine pn_ 30 (some 56) (ba_ 38 2147483647) rfl rfl (any_of HT_.out (by kernel_rfl)) ?_
                refine pn_ 31 (some 57) (ba_ 38 4294967295) rfl rfl (any_of HT_.out (by kernel_rfl)) ?_
                refine pn_ 32 (some 58) (ba_ 38 8589934591) rfl rfl (any_of HT_.out (by kernel_rfl)) ?_
                refine pn_ 33 (some 59) (ba_ 38 17179869183) rfl rfl (any_of HT_.out (by kernel_rfl)) ?_
                refine pn_ 34 (some 60) (ba_ 38 34359738367) rfl rfl (any_of HT_.out (by kernel_rfl)) ?_
                refine pu_ 35 (some 61) (ba_ 38 68719476735) rfl rfl (any_of HT_.out (by kernel_rfl)) ?_
                refine pu_ 36 (some 62) (ba_ 38 137438953471) rfl rfl (any_of HT_.out (by kernel_rfl)) ?_
                refine pu_ 37 (some 63) (ba_ 38 274877906943) rfl rfl (any_of HT_.out (by kernel_rfl)) ?_
                refine done_ (done_of HT_.out (by kernel_rfl)) ?_
                try go_wp2
                go_meet
                case rel => exact ⟨_, (true), eb_, H', ⟨by have := HJ3.out; have := HK2.out; first | omega | exact Nat.le_refl _⟩, ⟨kx_ BK450.out⟩, bl_ HB⟩
               ·rw [if_neg c26] at H
                have c26b0 : decide (((rd_T48 l2 x21_2).f0) ≤ ((rd_T48 l2 (ji23)).f0)) = false := decide_eq_false c26
                clear c26
                have H' := Aside0.mk H
                clear H
                try go_wp2
                have n0_ : Aside0 (((w16.setCell ⟨gb450, 0, none⟩ (.int .i64 ((rd_T48 l2 x21_2).f0))).setCell ⟨gb450, 1, none⟩ (.int .i64 ((rd_T48 l2 x21_2).f1))).heap[gb450]? = some (.cells #[.int .i64 ((rd_T48 l2 x21_2).f0), .int .i64 ((rd_T48 l2 x21_2).f1)] 48 (0, 0))) := ⟨by (with_reducible repeat (first | refine blk_drewN ?_ _ | refine blk_drew ?_ | refine blk_alloc ?_ _)); refine blk_put (cs := #[.int .i64 ((rd_T48 l2 x21_2).f0), .int .i64 0]) ?_ 1 _ rfl; (with_reducible repeat (first | refine blk_drewN ?_ _ | refine blk_drew ?_ | refine blk_alloc ?_ _)); refine blk_put (cs := #[.int .i64 0, .int .i64 0]) ?_ 0 _ rfl; (with_reducible repeat (first | refine blk_drewN ?_ _ | refine blk_drew ?_ | refine blk_alloc ?_ _)); exact BK450.out⟩
                have n1_ : Aside0 (Below w.heap.size w ((w16.setCell ⟨gb450, 0, none⟩ (.int .i64 ((rd_T48 l2 x21_2).f0))).setCell ⟨gb450, 1, none⟩ (.int .i64 ((rd_T48 l2 x21_2).f1)))) := ⟨by repeat (first | (with_reducible first | exact HB.out | apply below_alloc | apply pw_below_drewN | apply below_drew1 | refine below_set ?_ GE450.out) | exact HB.out)⟩
                (try clear BK450)
                (try clear HB)
                generalize ((w16.setCell ⟨gb450, 0, none⟩ (.int .i64 ((rd_T48 l2 x21_2).f0))).setCell ⟨gb450, 1, none⟩ (.int .i64 ((rd_T48 l2 x21_2).f1))) = w31 at n0_ n1_ ⊢
                have BK450 := n0_
                have HB := n1_
                clear n0_ n1_
                have n0_ := Aside0.mk (blk_drew BK450.out)
                have n1_ := Aside0.mk (below_drew1 HB.out)
                clear BK450
                clear HB
                have BK450 := n0_
                have HB := n1_
                clear n0_ n1_
                have p453 : 0 ≤ ((ji23) : Int) := od_
                have q453 : (ji23) < (l2.length : Int) := od_
                obtain ⟨ad453, e453, hx453_0, hx453_1⟩ := at_T48 HR2.out (ji23) p453 q453
                have hw453_1 := hx453_1
                have hw453_0 := hx453_0
                obtain rfl : ad449 = ad453 := (by injection e453)
                replace hx453_0 := ce_ HB hx453_0
                replace hx453_1 := ce_ HB hx453_1
                replace p453 := eq_true p453
                replace q453 := eq_true q453
                have p454 : 0 ≤ ((ji23) : Int) := od_
                have q454 : (ji23) < (l2.length : Int) := od_
                obtain ⟨ad454, e454, hx454_0, hx454_1⟩ := at_T48 HR2.out (ji23) p454 q454
                have hw454_1 := hx454_1
                have hw454_0 := hx454_0
                obtain rfl : ad449 = ad454 := (by injection e454)
                replace hx454_0 := ce_ HB hx454_0
                replace hx454_1 := ce_ HB hx454_1
                replace p454 := eq_true p454
                replace q454 := eq_true q454
                refine start_ (n := 38) (S := fun w' => w'.cell? ⟨gb450, 0, none⟩ = some (.int .i64 ((rd_T48 l2 x21_2).f0)) ∧ w'.cell? ⟨gb450, 1, none⟩ = some (.int .i64 ((rd_T48 l2 x21_2).f1)) ∧ w'.cell? (ad449.add (((ji23)).toNat * 2)) = some (.int .i64 ((rd_T48 l2 (ji23)).f0)) ∧ w'.cell? ⟨(ad449.add (((ji23)).toNat * 2)).block, (ad449.add (((ji23)).toNat * 2)).off + 1, none⟩ = some (.int .i64 ((rd_T48 l2 (ji23)).f1)) ∧ w'.cell? (ad449.add (((ji23)).toNat * 2)) = some (.int .i64 ((rd_T48 l2 (ji23)).f0)) ∧ w'.cell? ⟨(ad449.add (((ji23)).toNat * 2)).block, (ad449.add (((ji23)).toNat * 2)).off + 1, none⟩ = some (.int .i64 ((rd_T48 l2 (ji23)).f1))) (ds := []) (ba_ 38 0) (by kernel_rfl) rfl rfl ⟨(blk_cell BK450.out 0).trans rfl, (blk_cell BK450.out 1).trans rfl, (ce_ HB hw453_0), (ce_ HB hw453_1), (ce_ HB hw454_0), (ce_ HB hw454_1)⟩ (fun hHeld => ?_); refine with_tabW impl_MapOk.tab6 impl_MapOk.bits6 (fun HT_ HW_ => ?_)
                generalize w31.drew = w32 at BK450 HB hx453_0 hx453_1 hx454_0 hx454_1 hHeld ⊢
                refine pu_ 0 (some 26) (ba_ 38 1) rfl rfl (any_of HT_.out (by kernel_rfl)) ?_
                refine pu_ 1 (some 27) (ba_ 38 3) rfl rfl (any_of HT_.out (by kernel_rfl)) ?_
                refine ta_ 2 (some 28) (ba_ 38 7) rfl rfl (take_ofW HT_.out HW_.out (by kernel_rfl)) hHeld (by rintro w' ⟨s0, s1, s2, s3, s4, s5⟩; go_simp; with_reducible rfl) ?_
                refine one_ (i := 3) (N := some 29) (ba_ 38 15) rfl rfl (one_of HT_.out (by kernel_rfl)) (by decide) (fun K hK => ?_)
                refine goes_ Try.func95 (by kernel_rfl) rfl #[.slice A0 l0.length c0, .int .i64 ((rd_T48 l2 x21_2).f0)] (by rfl) rfl rfl (by (try simp only [List.map_toArray, List.map_cons, List.map_nil]); first | done | rfl | (simp only [List.length_drop, List.length_take]; rfl)) ?_
                with_reducible refine (impl_hasNode.calls k2 _ _ l0 ((rd_T48 l2 x21_2).f0) true _ ?side1 ?side2 A18.out).mono ?_
                (case side1 => exact cx_ HR0 HB)
                (case side2 => exact HC0.out)
                rintro e w33 ⟨rfl, hb⟩
                refine ⟨_, rfl, ?_⟩
                have n0_ := tK_ BK450 hb
                have n1_ := tB_ HB hb
                clear BK450
                clear HB
                have BK450 := n0_
                have HB := n1_
                clear n0_ n1_
                (try clear hb)
                (try clear hb2)
                (try clear hk)
                (try clear hi)
                refine hK.out _ _ ⟨(blk_cell BK450.out 0).trans rfl, (blk_cell BK450.out 1).trans rfl, (ce_ HB hw453_0), (ce_ HB hw453_1), (ce_ HB hw454_0), (ce_ HB hw454_1)⟩ (fun hHeld => ?_)
                clear hK K
                refine norm_ (a' := ?_) ?_ ?_
                rotate_left
                ·show Act.put _ (some 29) _ = _
                 simp only [Act.put, List.setIfInBounds_toArray, List.set_cons_zero, List.set_cons_succ, i64_w, i32_w]
                 rfl
                refine pu_ 4 (some 30) (ba_ 38 31) rfl rfl (any_of HT_.out (by kernel_rfl)) ?_
                refine pu_ 5 (some 31) (ba_ 38 63) rfl rfl (any_of HT_.out (by kernel_rfl)) ?_
                refine pu_ 6 (some 32) (ba_ 38 127) rfl rfl (any_of HT_.out (by kernel_rfl)) ?_
                refine pu_ 7 (some 33) (ba_ 38 255) rfl rfl (any_of HT_.out (by kernel_rfl)) ?_
                refine ta_ 8 (some 34) (ba_ 38 511) rfl rfl (take_ofW HT_.out HW_.out (by kernel_rfl)) hHeld (by rintro w' ⟨s0, s1, s2, s3, s4, s5⟩; go_simp; with_reducible rfl) ?_
                refine one_ (i := 9) (N := some 35) (ba_ 38 1023) rfl rfl (one_of HT_.out (by kernel_rfl)) (by decide) (fun K hK => ?_)
                refine goes_ Try.func95 (by kernel_rfl) rfl #[.slice A1 l1.length c1, .int .i64 ((rd_T48 l2 x21_2).f1)] (by rfl) rfl rfl (by (try simp only [List.map_toArray, List.map_cons, List.map_nil]); first | done | rfl | (simp only [List.length_drop, List.length_take]; rfl)) ?_
                with_reducible refine (impl_hasNode.calls k2 _ _ l1 ((rd_T48 l2 x21_2).f1) true _ ?side1 ?side2 A20.out).mono ?_
                (case side1 => exact cx_ HR1 HB)
                (case side2 => exact HC1.out)
                rintro e w34 ⟨rfl, hb⟩
                refine ⟨_, rfl, ?_⟩
                have n0_ := tK_ BK450 hb
                have n1_ := tB_ HB hb
                clear BK450
                clear HB
                have BK450 := n0_
                have HB := n1_
                clear n0_ n1_
                (try clear hb)
                (try clear hb2)
                (try clear hk)
                (try clear hi)
                refine hK.out _ _ ⟨(blk_cell BK450.out 0).trans rfl, (blk_cell BK450.out 1).trans rfl, (ce_ HB hw453_0), (ce_ HB hw453_1), (ce_ HB hw454_0), (ce_ HB hw454_1)⟩ (fun hHeld => ?_)
                clear hK K
                refine norm_ (a' := ?_) ?_ ?_
                rotate_left
                ·show Act.put _ (some 35) _ = _
                 simp only [Act.put, List.setIfInBounds_toArray, List.set_cons_zero, List.set_cons_succ, i64_w, i32_w]
                 rfl
                refine pu_ 10 (some 36) (ba_ 38 2047) rfl rfl (any_of HT_.out (by kernel_rfl)) ?_
                refine pu_ 11 (some 37) (ba_ 38 4095) rfl rfl (any_of HT_.out (by kernel_rfl)) ?_
                refine pu_ 12 (some 38) (ba_ 38 8191) rfl rfl (any_of HT_.out (by kernel_rfl)) ?_
                refine pu_ 13 (some 39) (ba_ 38 16383) rfl rfl (any_of HT_.out (by kernel_rfl)) ?_
                refine pu_ 14 (some 40) (ba_ 38 32767) rfl rfl (any_of HT_.out (by kernel_rfl)) ?_
                refine pu_ 15 (some 41) (ba_ 38 65535) rfl rfl (any_of HT_.out (by kernel_rfl)) ?_
                refine pu_ 16 (some 42) (ba_ 38 131071) rfl rfl (any_of HT_.out (by kernel_rfl)) ?_
                refine pu_ 18 (some 44) (ba_ 38 393215) rfl rfl (any_of HT_.out (by kernel_rfl)) ?_
                refine pu_ 19 (some 45) (ba_ 38 917503) rfl rfl (any_of HT_.out (by kernel_rfl)) ?_
                refine pu_ 20 (some 46) (ba_ 38 1966079) rfl rfl (any_of HT_.out (by kernel_rfl)) ?_
                refine pu_ 21 (some 47) (ba_ 38 4063231) rfl rfl (any_of HT_.out (by kernel_rfl)) ?_
                refine pu_ 22 (some 48) (ba_ 38 8257535) rfl rfl (any_of HT_.out (by kernel_rfl)) ?_
                refine ta_ 17 (some 43) (ba_ 38 8388607) rfl rfl (take_ofW HT_.out HW_.out (by kernel_rfl)) hHeld (by rintro w' ⟨s0, s1, s2, s3, s4, s5⟩; go_simp; with_reducible rfl) ?_
                refine ta_ 23 (some 49) (ba_ 38 16777215) rfl rfl (take_ofW HT_.out HW_.out (by kernel_rfl)) hHeld (by rintro w' ⟨s0, s1, s2, s3, s4, s5⟩; go_simp; with_reducible rfl) ?_
                refine pu_ 24 (some 50) (ba_ 38 33554431) rfl rfl (any_of HT_.out (by kernel_rfl)) ?_
                refine pu_ 25 (some 51) (ba_ 38 67108863) rfl rfl (any_of HT_.out (by kernel_rfl)) ?_
                refine pu_ 26 (some 52) (ba_ 38 134217727) rfl rfl (any_of HT_.out (by kernel_rfl)) ?_
                refine pu_ 28 (some 54) (ba_ 38 402653183) rfl rfl (any_of HT_.out (by kernel_rfl)) ?_
                refine pu_ 29 (some 55) (ba_ 38 939524095) rfl rfl (any_of HT_.out (by kernel_rfl)) ?_
                refine pu_ 30 (some 56) (ba_ 38 2013265919) rfl rfl (any_of HT_.out (by kernel_rfl)) ?_
                refine pu_ 31 (some 57) (ba_ 38 4160749567) rfl rfl (any_of HT_.out (by kernel_rfl)) ?_
                refine pu_ 32 (some 58) (ba_ 38 8455716863) rfl rfl (any_of HT_.out (by kernel_rfl)) ?_
                refine ta_ 27 (some 53) (ba_ 38 8589934591) rfl rfl (take_ofW HT_.out HW_.out (by kernel_rfl)) hHeld (by rintro w' ⟨s0, s1, s2, s3, s4, s5⟩; go_simp; with_reducible rfl) ?_
                refine ta_ 33 (some 59) (ba_ 38 17179869183) rfl rfl (take_ofW HT_.out HW_.out (by kernel_rfl)) hHeld (by rintro w' ⟨s0, s1, s2, s3, s4, s5⟩; go_simp; with_reducible rfl) ?_
                refine pu_ 34 (some 60) (ba_ 38 34359738367) rfl rfl (any_of HT_.out (by kernel_rfl)) ?_
                refine pu_ 35 (some 61) (ba_ 38 68719476735) rfl rfl (any_of HT_.out (by kernel_rfl)) ?_
                refine pu_ 36 (some 62) (ba_ 38 137438953471) rfl rfl (any_of HT_.out (by kernel_rfl)) ?_
                refine pu_ 37 (some 63) (ba_ 38 274877906943) rfl rfl (any_of HT_.out (by kernel_rfl)) ?_
                refine done_ (done_of HT_.out (by kernel_rfl)) ?_
                try go_wp2
                go_meet
                case rel => exact ⟨_, (decide (((rd_T48 l2 x21_2).f1) ≤ ((rd_T48 l2 (ji23)).f1))), (by first | rfl | (simp; done) | (simp only [← hji23] <;> (first | rfl | simp)) | (simp [*]; done)), H', ⟨by have := HJ3.out; have := HK2.out; first | omega | exact Nat.le_refl _⟩, ⟨kx_ BK450.out⟩, bl_ HB⟩
              ·rw [if_neg c25] at H
               exact absurd H (by simp)
             ·rw [if_neg c24] at H
              exact absurd H (by simp)
            ·rw [if_neg c22] at H
             have c22b0 : decide (0 < x21_2) = false := decide_eq_false c22
             clear c22
             (first | rw [c22b0] | (simp only [i64_w, i32_w]; rw [c22b0]) | skip)
             have H' := Aside0.mk H
             clear H
             try go_wp2
             have n0_ : Aside0 (((w16.setCell ⟨gb450, 0, none⟩ (.int .i64 ((rd_T48 l2 x21_2).f0))).setCell ⟨gb450, 1, none⟩ (.int .i64 ((rd_T48 l2 x21_2).f1))).heap[gb450]? = some (.cells #[.int .i64 ((rd_T48 l2 x21_2).f0), .int .i64 ((rd_T48 l2 x21_2).f1)] 48 (0, 0))) := ⟨by (with_reducible repeat (first | refine blk_drewN ?_ _ | refine blk_drew ?_ | refine blk_alloc ?_ _)); refine blk_put (cs := #[.int .i64 ((rd_T48 l2 x21_2).f0), .int .i64 0]) ?_ 1 _ rfl; (with_reducible repeat (first | refine blk_drewN ?_ _ | refine blk_drew ?_ | refine blk_alloc ?_ _)); refine blk_put (cs := #[.int .i64 0, .int .i64 0]) ?_ 0 _ rfl; (with_reducible repeat (first | refine blk_drewN ?_ _ | refine blk_drew ?_ | refine blk_alloc ?_ _)); exact BK450.out⟩
             have n1_ : Aside0 (Below w.heap.size w ((w16.setCell ⟨gb450, 0, none⟩ (.int .i64 ((rd_T48 l2 x21_2).f0))).setCell ⟨gb450, 1, none⟩ (.int .i64 ((rd_T48 l2 x21_2).f1)))) := ⟨by repeat (first | (with_reducible first | exact HB.out | apply below_alloc | apply pw_below_drewN | apply below_drew1 | refine below_set ?_ GE450.out) | exact HB.out)⟩
             (try clear BK450)
             (try clear HB)
             generalize ((w16.setCell ⟨gb450, 0, none⟩ (.int .i64 ((rd_T48 l2 x21_2).f0))).setCell ⟨gb450, 1, none⟩ (.int .i64 ((rd_T48 l2 x21_2).f1))) = w35 at n0_ n1_ ⊢
             have BK450 := n0_
             have HB := n1_
             clear n0_ n1_
             have n0_ := Aside0.mk (blk_drew BK450.out)
             have n1_ := Aside0.mk (below_drew1 HB.out)
             clear BK450
             clear HB
             have BK450 := n0_
             have HB := n1_
             clear n0_ n1_
             refine start_ (n := 38) (S := fun w' => w'.cell? ⟨gb450, 0, none⟩ = some (.int .i64 ((rd_T48 l2 x21_2).f0)) ∧ w'.cell? ⟨gb450, 1, none⟩ = some (.int .i64 ((rd_T48 l2 x21_2).f1))) (ds := []) (ba_ 38 0) (by kernel_rfl) rfl rfl ⟨(blk_cell BK450.out 0).trans rfl, (blk_cell BK450.out 1).trans rfl⟩ (fun hHeld => ?_); refine with_tabW impl_MapOk.tab6 impl_MapOk.bits6 (fun HT_ HW_ => ?_)
             generalize w35.drew = w36 at BK450 HB hHeld ⊢
             refine pu_ 0 (some 26) (ba_ 38 1) rfl rfl (any_of HT_.out (by kernel_rfl)) ?_
             refine pu_ 1 (some 27) (ba_ 38 3) rfl rfl (any_of HT_.out (by kernel_rfl)) ?_
             refine ta_ 2 (some 28) (ba_ 38 7) rfl rfl (take_ofW HT_.out HW_.out (by kernel_rfl)) hHeld (by rintro w' ⟨s0, s1⟩; go_simp; with_reducible rfl) ?_
             refine one_ (i := 3) (N := some 29) (ba_ 38 15) rfl rfl (one_of HT_.out (by kernel_rfl)) (by decide) (fun K hK => ?_)
             refine goes_ Try.func95 (by kernel_rfl) rfl #[.slice A0 l0.length c0, .int .i64 ((rd_T48 l2 x21_2).f0)] (by rfl) rfl rfl (by (try simp only [List.map_toArray, List.map_cons, List.map_nil]); first | done | rfl | (simp only [List.length_drop, List.length_take]; rfl)) ?_
             with_reducible refine (impl_hasNode.calls k2 _ _ l0 ((rd_T48 l2 x21_2).f0) true _ ?side1 ?side2 A18.out).mono ?_
             (case side1 => exact cx_ HR0 HB)
             (case side2 => exact HC0.out)
             rintro e w37 ⟨rfl, hb⟩
             refine ⟨_, rfl, ?_⟩
             have n0_ := tK_ BK450 hb
             have n1_ := tB_ HB hb
             clear BK450
             clear HB
             have BK450 := n0_
             have HB := n1_
             clear n0_ n1_
             (try clear hb)
             (try clear hb2)
             (try clear hk)
             (try clear hi)
             refine hK.out _ _ ⟨(blk_cell BK450.out 0).trans rfl, (blk_cell BK450.out 1).trans rfl⟩ (fun hHeld => ?_)
             clear hK K
             refine norm_ (a' := ?_) ?_ ?_
             rotate_left
             ·show Act.put _ (some 29) _ = _
              simp only [Act.put, List.setIfInBounds_toArray, List.set_cons_zero, List.set_cons_succ, i64_w, i32_w]
              rfl
             refine pu_ 4 (some 30) (ba_ 38 31) rfl rfl (any_of HT_.out (by kernel_rfl)) ?_
             refine pu_ 5 (some 31) (ba_ 38 63) rfl rfl (any_of HT_.out (by kernel_rfl)) ?_
             refine pu_ 6 (some 32) (ba_ 38 127) rfl rfl (any_of HT_.out (by kernel_rfl)) ?_
             refine pu_ 7 (some 33) (ba_ 38 255) rfl rfl (any_of HT_.out (by kernel_rfl)) ?_
             refine ta_ 8 (some 34) (ba_ 38 511) rfl rfl (take_ofW HT_.out HW_.out (by kernel_rfl)) hHeld (by rintro w' ⟨s0, s1⟩; go_simp; with_reducible rfl) ?_
             refine one_ (i := 9) (N := some 35) (ba_ 38 1023) rfl rfl (one_of HT_.out (by kernel_rfl)) (by decide) (fun K hK => ?_)
             refine goes_ Try.func95 (by kernel_rfl) rfl #[.slice A1 l1.length c1, .int .i64 ((rd_T48 l2 x21_2).f1)] (by rfl) rfl rfl (by (try simp only [List.map_toArray, List.map_cons, List.map_nil]); first | done | rfl | (simp only [List.length_drop, List.length_take]; rfl)) ?_
             with_reducible refine (impl_hasNode.calls k2 _ _ l1 ((rd_T48 l2 x21_2).f1) true _ ?side1 ?side2 A20.out).mono ?_
             (case side1 => exact cx_ HR1 HB)
             (case side2 => exact HC1.out)
             rintro e w38 ⟨rfl, hb⟩
             refine ⟨_, rfl, ?_⟩
             have n0_ := tK_ BK450 hb
             have n1_ := tB_ HB hb
             clear BK450
             clear HB
             have BK450 := n0_
             have HB := n1_
             clear n0_ n1_
             (try clear hb)
             (try clear hb2)
             (try clear hk)
             (try clear hi)
             refine hK.out _ _ ⟨(blk_cell BK450.out 0).trans rfl, (blk_cell BK450.out 1).trans rfl⟩ (fun hHeld => ?_)
             clear hK K
             refine norm_ (a' := ?_) ?_ ?_
             rotate_left
             ·show Act.put _ (some 35) _ = _
              simp only [Act.put, List.setIfInBounds_toArray, List.set_cons_zero, List.set_cons_succ, i64_w, i32_w]
              rfl
             refine pu_ 10 (some 36) (ba_ 38 2047) rfl rfl (any_of HT_.out (by kernel_rfl)) ?_
             refine pu_ 11 (some 37) (ba_ 38 4095) rfl rfl (any_of HT_.out (by kernel_rfl)) ?_
             refine pu_ 12 (some 38) (ba_ 38 8191) rfl rfl (any_of HT_.out (by kernel_rfl)) ?_
             refine pu_ 13 (some 39) (ba_ 38 16383) rfl rfl (any_of HT_.out (by kernel_rfl)) ?_
             refine pu_ 14 (some 40) (ba_ 38 32767) rfl rfl (any_of HT_.out (by kernel_rfl)) ?_
             refine pu_ 15 (some 41) (ba_ 38 65535) rfl rfl (any_of HT_.out (by kernel_rfl)) ?_
             refine pn_ 16 (some 42) (ba_ 38 131071) rfl rfl (any_of HT_.out (by kernel_rfl)) ?_
             refine pn_ 17 (some 43) (ba_ 38 262143) rfl rfl (any_of HT_.out (by kernel_rfl)) ?_
             refine pn_ 18 (some 44) (ba_ 38 524287) rfl rfl (any_of HT_.out (by kernel_rfl)) ?_
             refine pn_ 19 (some 45) (ba_ 38 1048575) rfl rfl (any_of HT_.out (by kernel_rfl)) ?_
             refine pn_ 20 (some 46) (ba_ 38 2097151) rfl rfl (any_of HT_.out (by kernel_rfl)) ?_
             refine pn_ 21 (some 47) (ba_ 38 4194303) rfl rfl (any_of HT_.out (by kernel_rfl)) ?_
             refine pn_ 22 (some 48) (ba_ 38 8388607) rfl rfl (any_of HT_.out (by kernel_rfl)) ?_
             refine pn_ 23 (some 49) (ba_ 38 16777215) rfl rfl (any_of HT_.out (by kernel_rfl)) ?_
             refine pn_ 24 (some 50) (ba_ 38 33554431) rfl rfl (any_of HT_.out (by kernel_rfl)) ?_
             refine pn_ 25 (some 51) (ba_ 38 67108863) rfl rfl (any_of HT_.out (by kernel_rfl)) ?_
             refine pn_ 26 (some 52) (ba_ 38 134217727) rfl rfl (any_of HT_.out (by kernel_rfl)) ?_
             refine pn_ 27 (some 53) (ba_ 38 268435455) rfl rfl (any_of HT_.out (by kernel_rfl)) ?_
             refine pn_ 28 (some 54) (ba_ 38 536870911) rfl rfl (any_of HT_.out (by kernel_rfl)) ?_
             refine pn_ 29 (some 55) (ba_ 38 1073741823) rfl rfl (any_of HT_.out (by kernel_rfl)) ?_
             refine pn_ 30 (some 56) (ba_ 38 2147483647) rfl rfl (any_of HT_.out (by kernel_rfl)) ?_
             refine pn_ 31 (some 57) (ba_ 38 4294967295) rfl rfl (any_of HT_.out (by kernel_rfl)) ?_
             refine pn_ 32 (some 58) (ba_ 38 8589934591) rfl rfl (any_of HT_.out (by kernel_rfl)) ?_
             refine pn_ 33 (some 59) (ba_ 38 17179869183) rfl rfl (any_of HT_.out (by kernel_rfl)) ?_
             refine pn_ 34 (some 60) (ba_ 38 34359738367) rfl rfl (any_of HT_.out (by kernel_rfl)) ?_
             refine pn_ 35 (some 61) (ba_ 38 68719476735) rfl rfl (any_of HT_.out (by kernel_rfl)) ?_
             refine pu_ 36 (some 62) (ba_ 38 137438953471) rfl rfl (any_of HT_.out (by kernel_rfl)) ?_
             refine pu_ 37 (some 63) (ba_ 38 274877906943) rfl rfl (any_of HT_.out (by kernel_rfl)) ?_
             refine done_ (done_of HT_.out (by kernel_rfl)) ?_
             try go_wp2
             go_meet
             case rel => exact ⟨_, (false), eb_, H', ⟨by have := HJ3.out; have := HK2.out; first | omega | exact Nat.le_refl _⟩, ⟨kx_ BK450.out⟩, bl_ HB⟩
           ·replace c21 := Bool.eq_false_iff.mpr c21
            subst c21
            have H1 : (impl_MapOk.j2 k2 l0 l1 l2 x21_2 l2 (l2.length : Int) x21_2 true ((rd_T48 l2 x21_2).f0) ((rd_T48 l2 x21_2).f1)) = some r := by rw [if_neg (show ¬ (false = true) by decide)] at H; exact H
            clear H
            have H := H1
            clear H1
            have H' := Aside0.mk H
            clear H
            try go_wp2
            have n0_ : Aside0 (((w16.setCell ⟨gb450, 0, none⟩ (.int .i64 ((rd_T48 l2 x21_2).f0))).setCell ⟨gb450, 1, none⟩ (.int .i64 ((rd_T48 l2 x21_2).f1))).heap[gb450]? = some (.cells #[.int .i64 ((rd_T48 l2 x21_2).f0), .int .i64 ((rd_T48 l2 x21_2).f1)] 48 (0, 0))) := ⟨by (with_reducible repeat (first | refine blk_drewN ?_ _ | refine blk_drew ?_ | refine blk_alloc ?_ _)); refine blk_put (cs := #[.int .i64 ((rd_T48 l2 x21_2).f0), .int .i64 0]) ?_ 1 _ rfl; (with_reducible repeat (first | refine blk_drewN ?_ _ | refine blk_drew ?_ | refine blk_alloc ?_ _)); refine blk_put (cs := #[.int .i64 0, .int .i64 0]) ?_ 0 _ rfl; (with_reducible repeat (first | refine blk_drewN ?_ _ | refine blk_drew ?_ | refine blk_alloc ?_ _)); exact BK450.out⟩
            have n1_ : Aside0 (Below w.heap.size w ((w16.setCell ⟨gb450, 0, none⟩ (.int .i64 ((rd_T48 l2 x21_2).f0))).setCell ⟨gb450, 1, none⟩ (.int .i64 ((rd_T48 l2 x21_2).f1)))) := ⟨by repeat (first | (with_reducible first | exact HB.out | apply below_alloc | apply pw_below_drewN | apply below_drew1 | refine below_set ?_ GE450.out) | exact HB.out)⟩
            (try clear BK450)
            (try clear HB)
            generalize ((w16.setCell ⟨gb450, 0, none⟩ (.int .i64 ((rd_T48 l2 x21_2).f0))).setCell ⟨gb450, 1, none⟩ (.int .i64 ((rd_T48 l2 x21_2).f1))) = w39 at n0_ n1_ ⊢
            have BK450 := n0_
            have HB := n1_
            clear n0_ n1_
            have n0_ := Aside0.mk (blk_drew BK450.out)
            have n1_ := Aside0.mk (below_drew1 HB.out)
            clear BK450
            clear HB
            have BK450 := n0_
            have HB := n1_
            clear n0_ n1_
            refine start_ (n := 38) (S := fun w' => w'.cell? ⟨gb450, 0, none⟩ = some (.int .i64 ((rd_T48 l2 x21_2).f0)) ∧ w'.cell? ⟨gb450, 1, none⟩ = some (.int .i64 ((rd_T48 l2 x21_2).f1))) (ds := []) (ba_ 38 0) (by kernel_rfl) rfl rfl ⟨(blk_cell BK450.out 0).trans rfl, (blk_cell BK450.out 1).trans rfl⟩ (fun hHeld => ?_); refine with_tabW impl_MapOk.tab6 impl_MapOk.bits6 (fun HT_ HW_ => ?_)
            generalize w39.drew = w40 at BK450 HB hHeld ⊢
            refine pu_ 0 (some 26) (ba_ 38 1) rfl rfl (any_of HT_.out (by kernel_rfl)) ?_
            refine pu_ 1 (some 27) (ba_ 38 3) rfl rfl (any_of HT_.out (by kernel_rfl)) ?_
            refine ta_ 2 (some 28) (ba_ 38 7) rfl rfl (take_ofW HT_.out HW_.out (by kernel_rfl)) hHeld (by rintro w' ⟨s0, s1⟩; go_simp; with_reducible rfl) ?_
            refine one_ (i := 3) (N := some 29) (ba_ 38 15) rfl rfl (one_of HT_.out (by kernel_rfl)) (by decide) (fun K hK => ?_)
            refine goes_ Try.func95 (by kernel_rfl) rfl #[.slice A0 l0.length c0, .int .i64 ((rd_T48 l2 x21_2).f0)] (by rfl) rfl rfl (by (try simp only [List.map_toArray, List.map_cons, List.map_nil]); first | done | rfl | (simp only [List.length_drop, List.length_take]; rfl)) ?_
            with_reducible refine (impl_hasNode.calls k2 _ _ l0 ((rd_T48 l2 x21_2).f0) true _ ?side1 ?side2 A18.out).mono ?_
            (case side1 => exact cx_ HR0 HB)
            (case side2 => exact HC0.out)
            rintro e w41 ⟨rfl, hb⟩
            refine ⟨_, rfl, ?_⟩
            have n0_ := tK_ BK450 hb
            have n1_ := tB_ HB hb
            clear BK450
            clear HB
            have BK450 := n0_
            have HB := n1_
            clear n0_ n1_
            (try clear hb)
            (try clear hb2)
            (try clear hk)
            (try clear hi)
            refine hK.out _ _ ⟨(blk_cell BK450.out 0).trans rfl, (blk_cell BK450.out 1).trans rfl⟩ (fun hHeld => ?_)
            clear hK K
            refine norm_ (a' := ?_) ?_ ?_
            rotate_left
            ·show Act.put _ (some 29) _ = _
             simp only [Act.put, List.setIfInBounds_toArray, List.set_cons_zero, List.set_cons_succ, i64_w, i32_w]
             rfl
            refine pu_ 4 (some 30) (ba_ 38 31) rfl rfl (any_of HT_.out (by kernel_rfl)) ?_
            refine pu_ 5 (some 31) (ba_ 38 63) rfl rfl (any_of HT_.out (by kernel_rfl)) ?_
            refine pu_ 6 (some 32) (ba_ 38 127) rfl rfl (any_of HT_.out (by kernel_rfl)) ?_
            refine pu_ 7 (some 33) (ba_ 38 255) rfl rfl (any_of HT_.out (by kernel_rfl)) ?_
            refine ta_ 8 (some 34) (ba_ 38 511) rfl rfl (take_ofW HT_.out HW_.out (by kernel_rfl)) hHeld (by rintro w' ⟨s0, s1⟩; go_simp; with_reducible rfl) ?_
            refine one_ (i := 9) (N := some 35) (ba_ 38 1023) rfl rfl (one_of HT_.out (by kernel_rfl)) (by decide) (fun K hK => ?_)
            refine goes_ Try.func95 (by kernel_rfl) rfl #[.slice A1 l1.length c1, .int .i64 ((rd_T48 l2 x21_2).f1)] (by rfl) rfl rfl (by (try simp only [List.map_toArray, List.map_cons, List.map_nil]); first | done | rfl | (simp only [List.length_drop, List.length_take]; rfl)) ?_
            with_reducible refine (impl_hasNode.calls k2 _ _ l1 ((rd_T48 l2 x21_2).f1) false _ ?side1 ?side2 A20.out).mono ?_
            (case side1 => exact cx_ HR1 HB)
            (case side2 => exact HC1.out)
            rintro e w42 ⟨rfl, hb⟩
            refine ⟨_, rfl, ?_⟩
            have n0_ := tK_ BK450 hb
            have n1_ := tB_ HB hb
            clear BK450
            clear HB
            have BK450 := n0_
            have HB := n1_
            clear n0_ n1_
            (try clear hb)
            (try clear hb2)
            (try clear hk)
            (try clear hi)
            refine hK.out _ _ ⟨(blk_cell BK450.out 0).trans rfl, (blk_cell BK450.out 1).trans rfl⟩ (fun hHeld => ?_)
            clear hK K
            refine norm_ (a' := ?_) ?_ ?_
            rotate_left
            ·show Act.put _ (some 35) _ = _
             simp only [Act.put, List.setIfInBounds_toArray, List.set_cons_zero, List.set_cons_succ, i64_w, i32_w]
             rfl
            refine pu_ 10 (some 36) (ba_ 38 2047) rfl rfl (any_of HT_.out (by kernel_rfl)) ?_
            refine pu_ 11 (some 37) (ba_ 38 4095) rfl rfl (any_of HT_.out (by kernel_rfl)) ?_
            refine pu_ 12 (some 38) (ba_ 38 8191) rfl rfl (any_of HT_.out (by kernel_rfl)) ?_
            refine pn_ 13 (some 39) (ba_ 38 16383) rfl rfl (any_of HT_.out (by kernel_rfl)) ?_
            refine pn_ 14 (some 40) (ba_ 38 32767) rfl rfl (any_of HT_.out (by kernel_rfl)) ?_
            refine pn_ 15 (some 41) (ba_ 38 65535) rfl rfl (any_of HT_.out (by kernel_rfl)) ?_
            refine pn_ 16 (some 42) (ba_ 38 131071) rfl rfl (any_of HT_.out (by kernel_rfl)) ?_
            refine pn_ 17 (some 43) (ba_ 38 262143) rfl rfl (any_of HT_.out (by kernel_rfl)) ?_
            refine pn_ 18 (some 44) (ba_ 38 524287) rfl rfl (any_of HT_.out (by kernel_rfl)) ?_
            refine pn_ 19 (some 45) (ba_ 38 1048575) rfl rfl (any_of HT_.out (by kernel_rfl)) ?_
            refine pn_ 20 (some 46) (ba_ 38 2097151) rfl rfl (any_of HT_.out (by kernel_rfl)) ?_
            refine pn_ 21 (some 47) (ba_ 38 4194303) rfl rfl (any_of HT_.out (by kernel_rfl)) ?_
            refine pn_ 22 (some 48) (ba_ 38 8388607) rfl rfl (any_of HT_.out (by kernel_rfl)) ?_
            refine pn_ 23 (some 49) (ba_ 38 16777215) rfl rfl (any_of HT_.out (by kernel_rfl)) ?_
            refine pn_ 24 (some 50) (ba_ 38 33554431) rfl rfl (any_of HT_.out (by kernel_rfl)) ?_
            refine pn_ 25 (some 51) (ba_ 38 67108863) rfl rfl (any_of HT_.out (by kernel_rfl)) ?_
            refine pn_ 26 (some 52) (ba_ 38 134217727) rfl rfl (any_of HT_.out (by kernel_rfl)) ?_
            refine pn_ 27 (some 53) (ba_ 38 268435455) rfl rfl (any_of HT_.out (by kernel_rfl)) ?_
            refine pn_ 28 (some 54) (ba_ 38 536870911) rfl rfl (any_of HT_.out (by kernel_rfl)) ?_
            refine pn_ 29 (some 55) (ba_ 38 1073741823) rfl rfl (any_of HT_.out (by kernel_rfl)) ?_
            refine pn_ 30 (some 56) (ba_ 38 2147483647) rfl rfl (any_of HT_.out (by kernel_rfl)) ?_
            refine pn_ 31 (some 57) (ba_ 38 4294967295) rfl rfl (any_of HT_.out (by kernel_rfl)) ?_
            refine pn_ 32 (some 58) (ba_ 38 8589934591) rfl rfl (any_of HT_.out (by kernel_rfl)) ?_
            refine pn_ 33 (some 59) (ba_ 38 17179869183) rfl rfl (any_of HT_.out (by kernel_rfl)) ?_
            refine pn_ 34 (some 60) (ba_ 38 34359738367) rfl rfl (any_of HT_.out (by kernel_rfl)) ?_
            refine pn_ 35 (some 61) (ba_ 38 68719476735) rfl rfl (any_of HT_.out (by kernel_rfl)) ?_
            refine pn_ 36 (some 62) (ba_ 38 137438953471) rfl rfl (any_of HT_.out (by kernel_rfl)) ?_
            refine pu_ 37 (some 63) (ba_ 38 274877906943) rfl rfl (any_of HT_.out (by kernel_rfl)) ?_
            refine done_ (done_of HT_.out (by kernel_rfl)) ?_
            try go_wp2
            go_meet
            case rel => exact ⟨_, (true), eb_, H', ⟨by have := HJ3.out; have := HK2.out; first | omega | exact Nat.le_refl _⟩, ⟨kx_ BK450.out⟩, bl_ HB⟩
          ·replace c19 := Bool.eq_false_iff.mpr c19
           subst c19
           have H1 : (impl_MapOk.j2 k2 l0 l1 l2 x21_2 l2 (l2.length : Int) x21_2 true ((rd_T48 l2 x21_2).f0) ((rd_T48 l2 x21_2).f1)) = some r := by rw [if_neg (show ¬ (false = true) by decide)] at H; exact H
           clear H
           have H := H1
           clear H1
           have H' := Aside0.mk H
           clear H
           try go_wp2
           have n0_ : Aside0 (((w16.setCell ⟨gb450, 0, none⟩ (.int .i64 ((rd_T48 l2 x21_2).f0))).setCell ⟨gb450, 1, none⟩ (.int .i64 ((rd_T48 l2 x21_2).f1))).heap[gb450]? = some (.cells #[.int .i64 ((rd_T48 l2 x21_2).f0), .int .i64 ((rd_T48 l2 x21_2).f1)] 48 (0, 0))) := ⟨by (with_reducible repeat (first | refine blk_drewN ?_ _ | refine blk_drew ?_ | refine blk_alloc ?_ _)); refine blk_put (cs := #[.int .i64 ((rd_T48 l2 x21_2).f0), .int .i64 0]) ?_ 1 _ rfl; (with_reducible repeat (first | refine blk_drewN ?_ _ | refine blk_drew ?_ | refine blk_alloc ?_ _)); refine blk_put (cs := #[.int .i64 0, .int .i64 0]) ?_ 0 _ rfl; (with_reducible repeat (first | refine blk_drewN ?_ _ | refine blk_drew ?_ | refine blk_alloc ?_ _)); exact BK450.out⟩
           have n1_ : Aside0 (Below w.heap.size w ((w16.setCell ⟨gb450, 0, none⟩ (.int .i64 ((rd_T48 l2 x21_2).f0))).setCell ⟨gb450, 1, none⟩ (.int .i64 ((rd_T48 l2 x21_2).f1)))) := ⟨by repeat (first | (with_reducible first | exact HB.out | apply below_alloc | apply pw_below_drewN | apply below_drew1 | refine below_set ?_ GE450.out) | exact HB.out)⟩
           (try clear BK450)
           (try clear HB)
           generalize ((w16.setCell ⟨gb450, 0, none⟩ (.int .i64 ((rd_T48 l2 x21_2).f0))).setCell ⟨gb450, 1, none⟩ (.int .i64 ((rd_T48 l2 x21_2).f1))) = w43 at n0_ n1_ ⊢
           have BK450 := n0_
           have HB := n1_
           clear n0_ n1_
           have n0_ := Aside0.mk (blk_drew BK450.out)
           have n1_ := Aside0.mk (below_drew1 HB.out)
           clear BK450
           clear HB
           have BK450 := n0_
           have HB := n1_
           clear n0_ n1_
           refine start_ (n := 38) (S := fun w' => w'.cell? ⟨gb450, 0, none⟩ = some (.int .i64 ((rd_T48 l2 x21_2).f0)) ∧ w'.cell? ⟨gb450, 1, none⟩ = some (.int .i64 ((rd_T48 l2 x21_2).f1))) (ds := []) (ba_ 38 0) (by kernel_rfl) rfl rfl ⟨(blk_cell BK450.out 0).trans rfl, (blk_cell BK450.out 1).trans rfl⟩ (fun hHeld => ?_); refine with_tabW impl_MapOk.tab6 impl_MapOk.bits6 (fun HT_ HW_ => ?_)
           generalize w43.drew = w44 at BK450 HB hHeld ⊢
           refine pu_ 0 (some 26) (ba_ 38 1) rfl rfl (any_of HT_.out (by kernel_rfl)) ?_
           refine pu_ 1 (some 27) (ba_ 38 3) rfl rfl (any_of HT_.out (by kernel_rfl)) ?_
           refine ta_ 2 (some 28) (ba_ 38 7) rfl rfl (take_ofW HT_.out HW_.out (by kernel_rfl)) hHeld (by rintro w' ⟨s0, s1⟩; go_simp; with_reducible rfl) ?_
           refine one_ (i := 3) (N := some 29) (ba_ 38 15) rfl rfl (one_of HT_.out (by kernel_rfl)) (by decide) (fun K hK => ?_)
           refine goes_ Try.func95 (by kernel_rfl) rfl #[.slice A0 l0.length c0, .int .i64 ((rd_T48 l2 x21_2).f0)] (by rfl) rfl rfl (by (try simp only [List.map_toArray, List.map_cons, List.map_nil]); first | done | rfl | (simp only [List.length_drop, List.length_take]; rfl)) ?_
           with_reducible refine (impl_hasNode.calls k2 _ _ l0 ((rd_T48 l2 x21_2).f0) false _ ?side1 ?side2 A18.out).mono ?_
           (case side1 => exact cx_ HR0 HB)
           (case side2 => exact HC0.out)
           rintro e w45 ⟨rfl, hb⟩
           refine ⟨_, rfl, ?_⟩
           have n0_ := tK_ BK450 hb
           have n1_ := tB_ HB hb
           clear BK450
           clear HB
           have BK450 := n0_
           have HB := n1_
           clear n0_ n1_
           (try clear hb)
           (try clear hb2)
           (try clear hk)
           (try clear hi)
           refine hK.out _ _ ⟨(blk_cell BK450.out 0).trans rfl, (blk_cell BK450.out 1).trans rfl⟩ (fun hHeld => ?_)
           clear hK K
           refine norm_ (a' := ?_) ?_ ?_
           rotate_left
           ·show Act.put _ (some 29) _ = _
            simp only [Act.put, List.setIfInBounds_toArray, List.set_cons_zero, List.set_cons_succ, i64_w, i32_w]
            rfl
           refine pu_ 4 (some 30) (ba_ 38 31) rfl rfl (any_of HT_.out (by kernel_rfl)) ?_
           refine pu_ 5 (some 31) (ba_ 38 63) rfl rfl (any_of HT_.out (by kernel_rfl)) ?_
           refine pn_ 6 (some 32) (ba_ 38 127) rfl rfl (any_of HT_.out (by kernel_rfl)) ?_
           refine pn_ 7 (some 33) (ba_ 38 255) rfl rfl (any_of HT_.out (by kernel_rfl)) ?_
           refine pn_ 8 (some 34) (ba_ 38 511) rfl rfl (any_of HT_.out (by kernel_rfl)) ?_
           refine pn_ 9 (some 35) (ba_ 38 1023) rfl rfl (any_of HT_.out (by kernel_rfl)) ?_
           refine pn_ 10 (some 36) (ba_ 38 2047) rfl rfl (any_of HT_.out (by kernel_rfl)) ?_
           refine pu_ 11 (some 37) (ba_ 38 4095) rfl rfl (any_of HT_.out (by kernel_rfl)) ?_
           refine pu_ 12 (some 38) (ba_ 38 8191) rfl rfl (any_of HT_.out (by kernel_rfl)) ?_
           refine pn_ 13 (some 39) (ba_ 38 16383) rfl rfl (any_of HT_.out (by kernel_rfl)) ?_
           refine pn_ 14 (some 40) (ba_ 38 32767) rfl rfl (any_of HT_.out (by kernel_rfl)) ?_
           refine pn_ 15 (some 41) (ba_ 38 65535) rfl rfl (any_of HT_.out (by kernel_rfl)) ?_
           refine pn_ 16 (some 42) (ba_ 38 131071) rfl rfl (any_of HT_.out (by kernel_rfl)) ?_
           refine pn_ 17 (some 43) (ba_ 38 262143) rfl rfl (any_of HT_.out (by kernel_rfl)) ?_
           refine pn_ 18 (some 44) (ba_ 38 524287) rfl rfl (any_of HT_.out (by kernel_rfl)) ?_
           refine pn_ 19 (some 45) (ba_ 38 1048575) rfl rfl (any_of HT_.out (by kernel_rfl)) ?_
           refine pn_ 20 (some 46) (ba_ 38 2097151) rfl rfl (any_of HT_.out (by kernel_rfl)) ?_
           refine pn_ 21 (some 47) (ba_ 38 4194303) rfl rfl (any_of HT_.out (by kernel_rfl)) ?_
           refine pn_ 22 (some 48) (ba_ 38 8388607) rfl rfl (any_of HT_.out (by kernel_rfl)) ?_
           refine pn_ 23 (some 49) (ba_ 38 16777215) rfl rfl (any_of HT_.out (by kernel_rfl)) ?_
           refine pn_ 24 (some 50) (ba_ 38 33554431) rfl rfl (any_of HT_.out (by kernel_rfl)) ?_
           refine pn_ 25 (some 51) (ba_ 38 67108863) rfl rfl (any_of HT_.out (by kernel_rfl)) ?_
           refine pn_ 26 (some 52) (ba_ 38 134217727) rfl rfl (any_of HT_.out (by kernel_rfl)) ?_
           refine pn_ 27 (some 53) (ba_ 38 268435455) rfl rfl (any_of HT_.out (by kernel_rfl)) ?_
           refine pn_ 28 (some 54) (ba_ 38 536870911) rfl rfl (any_of HT_.out (by kernel_rfl)) ?_
           refine pn_ 29 (some 55) (ba_ 38 1073741823) rfl rfl (any_of HT_.out (by kernel_rfl)) ?_
           refine pn_ 30 (some 56) (ba_ 38 2147483647) rfl rfl (any_of HT_.out (by kernel_rfl)) ?_
           refine pn_ 31 (some 57) (ba_ 38 4294967295) rfl rfl (any_of HT_.out (by kernel_rfl)) ?_
           refine pn_ 32 (some 58) (ba_ 38 8589934591) rfl rfl (any_of HT_.out (by kernel_rfl)) ?_
           refine pn_ 33 (some 59) (ba_ 38 17179869183) rfl rfl (any_of HT_.out (by kernel_rfl)) ?_
           refine pn_ 34 (some 60) (ba_ 38 34359738367) rfl rfl (any_of HT_.out (by kernel_rfl)) ?_
           refine pn_ 35 (some 61) (ba_ 38 68719476735) rfl rfl (any_of HT_.out (by kernel_rfl)) ?_
           refine pn_ 36 (some 62) (ba_ 38 137438953471) rfl rfl (any_of HT_.out (by kernel_rfl)) ?_
           refine pu_ 37 (some 63) (ba_ 38 274877906943) rfl rfl (any_of HT_.out (by kernel_rfl)) ?_
           refine done_ (done_of HT_.out (by kernel_rfl)) ?_
           try go_wp2
           go_meet
           case rel => exact ⟨_, (true), eb_, H', ⟨by have := HJ3.out; have := HK2.out; first | omega | exact Nat.le_refl _⟩, ⟨kx_ BK450.out⟩, bl_ HB⟩
         case rest =>
          clear HC15
          try clear c1
          try clear c2
          try clear p2
          try clear c9
          try clear c19
          try clear c21
          obtain ⟨kq, x63_14, rfl, HA, HJ14, BK450, HB⟩ := hcut
          cases kq with
          | zero => exact absurd HA.out (by simp [impl_MapOk.j2])
          | succ kj14 =>
           have H := HA.out
           clear HA
           simp only [impl_MapOk.j2] at H
           by_cases c46 : x63_14 = true
           ·subst c46
            have H1 : (some false) = some r := by rw [if_pos rfl] at H; exact H
            clear H
            have H := H1
            clear H1
            obtain rfl := Option.some.inj H
            go_wp2
            go_ret
            exact ⟨ea_, (bl_ HB).out⟩
           ·replace c46 := Bool.eq_false_iff.mpr c46
            subst c46
            have H1 : (if 0 ≤ x21_2 then (if x21_2 ≤ (l2.length : Int) then ((some (l2.take (x21_2 : Int).toNat : List (S48))).bind fun y455 => (impl_MapOk.l1 kj14 l0 l1 l2 l2 (l2.length : Int) x21_2 y455 (y455.length : Int) 0 ((rd_T48 l2 x21_2).f0) ((rd_T48 l2 x21_2).f1))) else (none)) else (none)) = some r := by rw [if_neg (show ¬ (false = true) by decide)] at H; exact H
            clear H
            have H := H1
            clear H1
            by_cases c47 : 0 ≤ x21_2
            ·rw [if_pos c47] at H
             have c47b0 := eq_true c47
             have c47b1 : decide (0 ≤ x21_2) = true := decide_eq_true c47
             clear c47
             by_cases c48 : x21_2 ≤ (l2.length : Int)
             ·rw [if_pos c48] at H
              have c48b0 := eq_true c48
              have c48b1 : decide (x21_2 ≤ (l2.length : Int)) = true := decide_eq_true c48
              clear c48
              obtain ⟨y455, hy455⟩ : ∃ y_ : List (S48), y_ = (l2.take (x21_2 : Int).toNat) := ⟨_, rfl⟩
              replace H : (impl_MapOk.l1 kj14 l0 l1 l2 l2 (l2.length : Int) x21_2 y455 (y455.length : Int) 0 ((rd_T48 l2 x21_2).f0) ((rd_T48 l2 x21_2).f1)) = some r := by first | (rw [hy455]; with_reducible exact H) | (have H2_ := (Option.bind_some _ _).symm.trans H; rw [hy455]; with_reducible exact H2_) | (have H2_ := (Option.bind_some _ _).symm.trans H; with_reducible exact H2_) | with_reducible exact H | (rw [hy455]; exact H) | exact H
              have Ny455 := Aside0.mk hy455
              clear hy455
              have H' := Aside0.mk H
              clear H
              have q49 : (x21_2 : Int) ≤ ((l2.length : Int) : Int) := od_
              obtain ⟨i049, hi049, _, hsz49, _⟩ := info_parts info48
              have hroom49 : l2.length ≤ c2 := HC2.out
              have hC49 : Kd.C k48 _ (some ad449) l2.length l2 := HR2.out
              have hcut49 := cut_to (P := Try.prog) 36 48 .i64 Try.underlying36 hi049 (some ad449) l2.length c2 x21_2 (od_) q49 hroom49
              have hr49 := Kd.C_take (m := (x21_2 : Int).toNat) hC49 (by omega)
              have hy49 : y455.length = (x21_2 : Int).toNat := (by rw [Ny455.out, List.length_take]; omega)
              rw [← Ny455.out] at hr49
              rw [← hy49] at hcut49
              have HR458 := Aside0.mk hr49
              have HC458 := Aside0.mk (show y455.length ≤ c2 from by omega)
              clear hr49 hC49 hroom49 hi049 hsz49
              have KY49 := Aside0.mk hy49
              clear hy49
              replace q49 := eq_true q49
              go_wp2
              go_loopg [68] kj14 (fun kq v68 w' => ∃ (x68_4 : Int), v68 = .int .i64 x68_4 ∧ Aside0 (impl_MapOk.l1 kq l0 l1 l2 l2 (l2.length : Int) x21_2 y455 (y455.length : Int) x68_4 ((rd_T48 l2 x21_2).f0) ((rd_T48 l2 x21_2).f1) = some r) ∧ Aside0 (kq ≤ kj14) ∧ Aside0 (w'.heap[gb450]? = some (.cells #[.int .i64 ((rd_T48 l2 x21_2).f0), .int .i64 ((rd_T48 l2 x21_2).f1)] 48 (0, 0))) ∧ Aside0 (Below w.heap.size w w'))
              case atStart => exact ⟨(0), eb_, H', ⟨Nat.le_refl _⟩, ⟨kx_ BK450.out⟩, bl_ HB⟩
              case round =>
               clear H'
               try clear c1
               try clear c2
               try clear p2
               try clear c4
               try clear q4
               try clear c9
               try clear c19
               try clear c21
               try clear c46
               try clear c47
               try clear c47b0
               try clear c47b1
               try clear c48
               try clear c48b0
               try clear c48b1
               try clear q49
               try clear p2
               try clear q49
               obtain ⟨x68_4, rfl, HA, HK4, BK450, HB⟩ := hrel
               cases gk with
               | zero => exact absurd HA.out (by simp [impl_MapOk.l1])
               | succ k4 =>
                have H := HA.out
                clear HA
                simp only [impl_MapOk.l1] at H
                by_cases c50 : x68_4 < (y455.length : Int)
                ·rw [if_pos c50] at H
                 have c50b0 : decide (x68_4 < (y455.length : Int)) = true := decide_eq_true c50
                 clear c50
                 by_cases c51 : 0 ≤ x68_4
                 ·rw [if_pos c51] at H
                  have c51b0 : decide (0 ≤ x68_4) = true := decide_eq_true c51
                  clear c51
                  by_cases c52 : x68_4 < (y455.length : Int)
                  ·rw [if_pos c52] at H
                   have c52b0 : decide (x68_4 < (y455.length : Int)) = true := decide_eq_true c52
                   clear c52
                   replace H := Option.bind_eq_some_iff.mp H
                   obtain ⟨t461, A530, H⟩ := H
                   try dsimp only at H
                   have A53 := Aside0.mk A530
                   clear A530
                   replace H := Option.bind_eq_some_iff.mp H
                   obtain ⟨t462, A540, H⟩ := H
                   try dsimp only at H
                   have A54 := Aside0.mk A540
                   clear A540
                   by_cases c55 : ((decide (((rd_T48 l2 x21_2).f0) < t461)) != (decide (((rd_T48 l2 x21_2).f1) < t462))) = true
                   ·rw [if_pos c55] at H
                    have c55b0 : ((decide (((rd_T48 l2 x21_2).f0) < t461)) != (decide (((rd_T48 l2 x21_2).f1) < t462))) = true := c55
                    (try (have c55b1 : decide ((decide (((rd_T48 l2 x21_2).f0) < t461)) = (decide (((rd_T48 l2 x21_2).f1) < t462))) = false := by simpa using c55))
                    (try (have c55b2 : ((decide (((rd_T48 l2 x21_2).f0) < t461)) == (decide (((rd_T48 l2 x21_2).f1) < t462))) = false := by simpa using c55))
                    (try (have c55b3 : ¬ ((decide (((rd_T48 l2 x21_2).f0) < t461)) = (decide (((rd_T48 l2 x21_2).f1) < t462))) := by simpa using c55))
                    clear c55
                    obtain rfl := Option.some.inj H
                    have p459 : 0 ≤ (x68_4 : Int) := od_
                    have q459 : x68_4 < (y455.length : Int) := od_
                    obtain ⟨ad459, e459, hx459_0, hx459_1⟩ := at_T48 HR458.out x68_4 p459 q459
                    obtain rfl : ad449 = ad459 := (by injection e459)
                    replace hx459_0 := ce_ HB hx459_0
                    replace hx459_1 := ce_ HB hx459_1
                    replace p459 := eq_true p459
                    replace q459 := eq_true q459
                    try go_wp2_with (first | ((with_reducible refine gate_dst (N := 10) rfl ?_); refine bx_ 10 #[.int .i64 0, .int .i64 0] 48 ?_; intro gb460 hg w56 hbox hb; have BK460 := Aside0.mk (hbox); have GW460 := Aside0.mk ((by rw [hg]; exact (bs_ HB) : w.heap.size ≤ gb460)); have GE460 := Aside0.mk ((by rw [hg]; exact (bs_ HB) : w.heap.size ≤ gb460)); replace HB := tB_ HB hb; have NB450_460 := Aside0.mk ((by rw [hg]; exact Nat.ne_of_lt (blk_lt (g := gb450) (o := .cells #[.int .i64 ((rd_T48 l2 x21_2).f0), .int .i64 ((rd_T48 l2 x21_2).f1)] 48 (0, 0)) (kx_ BK450.out)) : gb450 ≠ gb460)); have NB460_450 := Aside0.mk ((by rw [hg]; exact Nat.ne_of_gt (blk_lt (g := gb450) (o := .cells #[.int .i64 ((rd_T48 l2 x21_2).f0), .int .i64 ((rd_T48 l2 x21_2).f1)] 48 (0, 0)) (kx_ BK450.out)) : gb460 ≠ gb450)); replace BK450 := tK_ BK450 hb; clear hb hbox hg; have hnb57 := NB460_450.out; have hnc57 := NB450_460.out; obtain ⟨hcz58_0, hcz58_1, hfz58_0, hfz58_1⟩ := bk2_ BK460))
                    have n0_ : Aside0 (((w56.setCell ⟨gb460, 0, none⟩ (.int .i64 ((rd_T48 y455 x68_4).f0))).setCell ⟨gb460, 1, none⟩ (.int .i64 ((rd_T48 y455 x68_4).f1))).heap[gb450]? = some (.cells #[.int .i64 ((rd_T48 l2 x21_2).f0), .int .i64 ((rd_T48 l2 x21_2).f1)] 48 (0, 0))) := ⟨by (with_reducible repeat (first | refine blk_drewN ?_ _ | refine blk_drew ?_ | refine blk_alloc ?_ _)); refine blk_far ?_ NB450_460.out _; (with_reducible repeat (first | refine blk_drewN ?_ _ | refine blk_drew ?_ | refine blk_alloc ?_ _)); refine blk_far ?_ NB450_460.out _; (with_reducible repeat (first | refine blk_drewN ?_ _ | refine blk_drew ?_ | refine blk_alloc ?_ _)); exact BK450.out⟩
                    have n1_ : Aside0 (((w56.setCell ⟨gb460, 0, none⟩ (.int .i64 ((rd_T48 y455 x68_4).f0))).setCell ⟨gb460, 1, none⟩ (.int .i64 ((rd_T48 y455 x68_4).f1))).heap[gb460]? = some (.cells #[.int .i64 ((rd_T48 y455 x68_4).f0), .int .i64 ((rd_T48 y455 x68_4).f1)] 48 (0, 0))) := ⟨by (with_reducible repeat (first | refine blk_drewN ?_ _ | refine blk_drew ?_ | refine blk_alloc ?_ _)); refine blk_put (cs := #[.int .i64 ((rd_T48 y455 x68_4).f0), .int .i64 0]) ?_ 1 _ rfl; (with_reducible repeat (first | refine blk_drewN ?_ _ | refine blk_drew ?_ | refine blk_alloc ?_ _)); refine blk_put (cs := #[.int .i64 0, .int .i64 0]) ?_ 0 _ rfl; (with_reducible repeat (first | refine blk_drewN ?_ _ | refine blk_drew ?_ | refine blk_alloc ?_ _)); exact BK460.out⟩
                    have n2_ : Aside0 (Below w.heap.size w ((w56.setCell ⟨gb460, 0, none⟩ (.int .i64 ((rd_T48 y455 x68_4).f0))).setCell ⟨gb460, 1, none⟩ (.int .i64 ((rd_T48 y455 x68_4).f1)))) := ⟨by repeat (first | (with_reducible first | exact HB.out | apply below_alloc | apply pw_below_drewN | apply below_drew1 | refine below_set ?_ GE450.out | refine below_set ?_ GE460.out) | exact HB.out)⟩
                    (try clear BK450)
                    (try clear BK460)
                    (try clear HB)
                    generalize ((w56.setCell ⟨gb460, 0, none⟩ (.int .i64 ((rd_T48 y455 x68_4).f0))).setCell ⟨gb460, 1, none⟩ (.int .i64 ((rd_T48 y455 x68_4).f1))) = w59 at n0_ n1_ n2_ ⊢
                    have BK450 := n0_
                    have BK460 := n1_
                    have HB := n2_
                    clear n0_ n1_ n2_
                    have n0_ := Aside0.mk (blk_drew BK450.out)
                    have n1_ := Aside0.mk (blk_drew BK460.out)
                    have n2_ := Aside0.mk (below_drew1 HB.out)
                    clear BK450
                    clear BK460
                    clear HB
                    have BK450 := n0_
                    have BK460 := n1_
                    have HB := n2_
                    clear n0_ n1_ n2_
                    refine start_ (n := 15) (S := fun w' => w'.cell? ⟨gb450, 0, none⟩ = some (.int .i64 ((rd_T48 l2 x21_2).f0)) ∧ w'.cell? ⟨gb450, 1, none⟩ = some (.int .i64 ((rd_T48 l2 x21_2).f1)) ∧ w'.cell? ⟨gb460, 0, none⟩ = some (.int .i64 ((rd_T48 y455 x68_4).f0)) ∧ w'.cell? ⟨gb460, 1, none⟩ = some (.int .i64 ((rd_T48 y455 x68_4).f1))) (ds := []) (ba_ 15 0) (by kernel_rfl) rfl rfl ⟨(blk_cell BK450.out 0).trans rfl, (blk_cell BK450.out 1).trans rfl, (blk_cell BK460.out 0).trans rfl, (blk_cell BK460.out 1).trans rfl⟩ (fun hHeld => ?_); refine with_tabW impl_MapOk.tab11 impl_MapOk.bits11 (fun HT_ HW_ => ?_)
                    generalize w59.drew = w60 at BK450 BK460 HB hHeld ⊢
                    refine pu_ 0 (some 72) (ba_ 15 1) rfl rfl (any_of HT_.out (by kernel_rfl)) ?_
                    refine pu_ 2 (some 74) (ba_ 15 5) rfl rfl (any_of HT_.out (by kernel_rfl)) ?_
                    refine pu_ 3 (some 75) (ba_ 15 13) rfl rfl (any_of HT_.out (by kernel_rfl)) ?_
                    refine pu_ 7 (some 79) (ba_ 15 141) rfl rfl (any_of HT_.out (by kernel_rfl)) ?_
                    refine pu_ 9 (some 81) (ba_ 15 653) rfl rfl (any_of HT_.out (by kernel_rfl)) ?_
                    refine pu_ 10 (some 82) (ba_ 15 1677) rfl rfl (any_of HT_.out (by kernel_rfl)) ?_
                    refine ta_ 1 (some 73) (ba_ 15 1679) rfl rfl (take_ofW HT_.out HW_.out (by kernel_rfl)) hHeld (by rintro w' ⟨s0, s1, s2, s3⟩; go_simp; with_reducible rfl) ?_
                    refine ta_ 4 (some 76) (ba_ 15 1695) rfl rfl (take_ofW HT_.out HW_.out (by kernel_rfl)) hHeld (by rintro w' ⟨s0, s1, s2, s3⟩; go_simp; with_reducible rfl) ?_
                    refine ta_ 8 (some 80) (ba_ 15 1951) rfl rfl (take_ofW HT_.out HW_.out (by kernel_rfl)) hHeld (by rintro w' ⟨s0, s1, s2, s3⟩; go_simp; with_reducible rfl) ?_
                    refine ta_ 11 (some 83) (ba_ 15 3999) rfl rfl (take_ofW HT_.out HW_.out (by kernel_rfl)) hHeld (by rintro w' ⟨s0, s1, s2, s3⟩; go_simp; with_reducible rfl) ?_
                    refine one_ (i := 5) (N := some 77) (ba_ 15 4031) rfl rfl (one_of HT_.out (by kernel_rfl)) (by decide) (fun K hK => ?_)
                    refine goes_ Try.func85 (by kernel_rfl) rfl #[.slice A0 l0.length c0, .int .i64 ((rd_T48 y455 x68_4).f0)] (by rfl) rfl rfl (by (try simp only [List.map_toArray, List.map_cons, List.map_nil]); first | done | rfl | (simp only [List.length_drop, List.length_take]; rfl)) ?_
                    with_reducible refine (impl_endOf.calls k4 _ _ l0 ((rd_T48 y455 x68_4).f0) t461 _ ?side1 ?side2 A53.out).mono ?_
                    (case side1 => exact cx_ HR0 HB)
                    (case side2 => exact HC0.out)
                    rintro e w' ⟨rfl, ⟨nd, rfl⟩⟩
                    refine ⟨_, rfl, ?_⟩
                    refine hK.out _ _ ⟨(blk_cell BK450.out 0).trans rfl, (blk_cell BK450.out 1).trans rfl, (blk_cell BK460.out 0).trans rfl, (blk_cell BK460.out 1).trans rfl⟩ (fun hHeld => ?_)
                    clear hK K
                    refine norm_ (a' := ?_) ?_ ?_
                    rotate_left
                    ·show Act.put _ (some 77) _ = _
                     simp only [Act.put, List.setIfInBounds_toArray, List.set_cons_zero, List.set_cons_succ, i64_w, i32_w]
                     rfl
                    refine pu_ 6 (some 78) (ba_ 15 4095) rfl rfl (any_of HT_.out (by kernel_rfl)) ?_
                    refine one_ (i := 12) (N := some 84) (ba_ 15 8191) rfl rfl (one_of HT_.out (by kernel_rfl)) (by decide) (fun K hK => ?_)
                    refine goes_ Try.func85 (by kernel_rfl) rfl #[.slice A1 l1.length c1, .int .i64 ((rd_T48 y455 x68_4).f1)] (by rfl) rfl rfl (by (try simp only [List.map_toArray, List.map_cons, List.map_nil]); first | done | rfl | (simp only [List.length_drop, List.length_take]; rfl)) ?_
                    with_reducible refine (impl_endOf.calls k4 _ _ l1 ((rd_T48 y455 x68_4).f1) t462 _ ?side1 ?side2 A54.out).mono ?_
                    (case side1 => repeat (first | exact (Kd.C_below HR1.out (by repeat (first | (with_reducible first | exact HB.out | apply below_alloc | apply pw_below_drewN | apply below_drew1 | refine below_set ?_ GE450.out | refine below_set ?_ GE460.out) | exact HB.out))) | (with_reducible refine Kd.C_alloc ?_ _) | (with_reducible refine Kd.C_drewN ?_ _) | (with_reducible refine Kd.C_drew ?_)))
                    (case side2 => exact HC1.out)
                    rintro e w' ⟨rfl, ⟨nd, rfl⟩⟩
                    refine ⟨_, rfl, ?_⟩
                    refine hK.out _ _ ⟨(blk_cell BK450.out 0).trans rfl, (blk_cell BK450.out 1).trans rfl, (blk_cell BK460.out 0).trans rfl, (blk_cell BK460.out 1).trans rfl⟩ (fun hHeld => ?_)
                    clear hK K
                    refine norm_ (a' := ?_) ?_ ?_
                    rotate_left
                    ·show Act.put _ (some 84) _ = _
                     simp only [Act.put, List.setIfInBounds_toArray, List.set_cons_zero, List.set_cons_succ, i64_w, i32_w]
                     rfl
                    refine pu_ 13 (some 85) (ba_ 15 16383) rfl rfl (any_of HT_.out (by kernel_rfl)) ?_
                    refine pu_ 14 (some 86) (ba_ 15 32767) rfl rfl (any_of HT_.out (by kernel_rfl)) ?_
                    refine done_ (done_of HT_.out (by kernel_rfl)) ?_
                    try go_wp2
                    go_ret
                    exact ⟨ea_, (bl_ HB).out⟩
                   ·rw [if_neg c55] at H
                    have c55b0 : ((decide (((rd_T48 l2 x21_2).f0) < t461)) != (decide (((rd_T48 l2 x21_2).f1) < t462))) = false := by simpa using c55
                    (try (have c55b1 : decide ((decide (((rd_T48 l2 x21_2).f0) < t461)) = (decide (((rd_T48 l2 x21_2).f1) < t462))) = true := by simpa using c55))
                    (try (have c55b2 : ((decide (((rd_T48 l2 x21_2).f0) < t461)) == (decide (((rd_T48 l2 x21_2).f1) < t462))) = true := by simpa using c55))
                    clear c55
                    have H' := Aside0.mk H
                    clear H
                    have p459 : 0 ≤ (x68_4 : Int) := od_
                    have q459 : x68_4 < (y455.length : Int) := od_
                    obtain ⟨ad459, e459, hx459_0, hx459_1⟩ := at_T48 HR458.out x68_4 p459 q459
                    obtain rfl : ad449 = ad459 := (by injection e459)
                    replace hx459_0 := ce_ HB hx459_0
                    replace hx459_1 := ce_ HB hx459_1
                    replace p459 := eq_true p459
                    replace q459 := eq_true q459
                    try go_wp2_with (first | ((with_reducible refine gate_dst (N := 10) rfl ?_); refine bx_ 10 #[.int .i64 0, .int .i64 0] 48 ?_; intro gb460 hg w61 hbox hb; have BK460 := Aside0.mk (hbox); have GW460 := Aside0.mk ((by rw [hg]; exact (bs_ HB) : w.heap.size ≤ gb460)); have GE460 := Aside0.mk ((by rw [hg]; exact (bs_ HB) : w.heap.size ≤ gb460)); replace HB := tB_ HB hb; have NB450_460 := Aside0.mk ((by rw [hg]; exact Nat.ne_of_lt (blk_lt (g := gb450) (o := .cells #[.int .i64 ((rd_T48 l2 x21_2).f0), .int .i64 ((rd_T48 l2 x21_2).f1)] 48 (0, 0)) (kx_ BK450.out)) : gb450 ≠ gb460)); have NB460_450 := Aside0.mk ((by rw [hg]; exact Nat.ne_of_gt (blk_lt (g := gb450) (o := .cells #[.int .i64 ((rd_T48 l2 x21_2).f0), .int .i64 ((rd_T48 l2 x21_2).f1)] 48 (0, 0)) (kx_ BK450.out)) : gb460 ≠ gb450)); replace BK450 := tK_ BK450 hb; clear hb hbox hg; have hnb62 := NB460_450.out; have hnc62 := NB450_460.out; obtain ⟨hcz63_0, hcz63_1, hfz63_0, hfz63_1⟩ := bk2_ BK460))
                    have n0_ : Aside0 (((w61.setCell ⟨gb460, 0, none⟩ (.int .i64 ((rd_T48 y455 x68_4).f0))).setCell ⟨gb460, 1, none⟩ (.int .i64 ((rd_T48 y455 x68_4).f1))).heap[gb450]? = some (.cells #[.int .i64 ((rd_T48 l2 x21_2).f0), .int .i64 ((rd_T48 l2 x21_2).f1)] 48 (0, 0))) := ⟨by (with_reducible repeat (first | refine blk_drewN ?_ _ | refine blk_drew ?_ | refine blk_alloc ?_ _)); refine blk_far ?_ NB450_460.out _; (with_reducible repeat (first | refine blk_drewN ?_ _ | refine blk_drew ?_ | refine blk_alloc ?_ _)); refine blk_far ?_ NB450_460.out _; (with_reducible repeat (first | refine blk_drewN ?_ _ | refine blk_drew ?_ | refine blk_alloc ?_ _)); exact BK450.out⟩
                    have n1_ : Aside0 (((w61.setCell ⟨gb460, 0, none⟩ (.int .i64 ((rd_T48 y455 x68_4).f0))).setCell ⟨gb460, 1, none⟩ (.int .i64 ((rd_T48 y455 x68_4).f1))).heap[gb460]? = some (.cells #[.int .i64 ((rd_T48 y455 x68_4).f0), .int .i64 ((rd_T48 y455 x68_4).f1)] 48 (0, 0))) := ⟨by (with_reducible repeat (first | refine blk_drewN ?_ _ | refine blk_drew ?_ | refine blk_alloc ?_ _)); refine blk_put (cs := #[.int .i64 ((rd_T48 y455 x68_4).f0), .int .i64 0]) ?_ 1 _ rfl; (with_reducible repeat (first | refine blk_drewN ?_ _ | refine blk_drew ?_ | refine blk_alloc ?_ _)); refine blk_put (cs := #[.int .i64 0, .int .i64 0]) ?_ 0 _ rfl; (with_reducible repeat (first | refine blk_drewN ?_ _ | refine blk_drew ?_ | refine blk_alloc ?_ _)); exact BK460.out⟩
                    have n2_ : Aside0 (Below w.heap.size w ((w61.setCell ⟨gb460, 0, none⟩ (.int .i64 ((rd_T48 y455 x68_4).f0))).setCell ⟨gb460, 1, none⟩ (.int .i64 ((rd_T48 y455 x68_4).f1)))) := ⟨by repeat (first | (with_reducible first | exact HB.out | apply below_alloc | apply pw_below_drewN | apply below_drew1 | refine below_set ?_ GE450.out | refine below_set ?_ GE460.out) | exact HB.out)⟩
                    (try clear BK450)
                    (try clear BK460)
                    (try clear HB)
                    generalize ((w61.setCell ⟨gb460, 0, none⟩ (.int .i64 ((rd_T48 y455 x68_4).f0))).setCell ⟨gb460, 1, none⟩ (.int .i64 ((rd_T48 y455 x68_4).f1))) = w64 at n0_ n1_ n2_ ⊢
                    have BK450 := n0_
                    have BK460 := n1_
                    have HB := n2_
                    clear n0_ n1_ n2_
                    have n0_ := Aside0.mk (blk_drew BK450.out)
                    have n1_ := Aside0.mk (blk_drew BK460.out)
                    have n2_ := Aside0.mk (below_drew1 HB.out)
                    clear BK450
                    clear BK460
                    clear HB
                    have BK450 := n0_
                    have BK460 := n1_
                    have HB := n2_
                    clear n0_ n1_ n2_
                    refine start_ (n := 15) (S := fun w' => w'.cell? ⟨gb450, 0, none⟩ = some (.int .i64 ((rd_T48 l2 x21_2).f0)) ∧ w'.cell? ⟨gb450, 1, none⟩ = some (.int .i64 ((rd_T48 l2 x21_2).f1)) ∧ w'.cell? ⟨gb460, 0, none⟩ = some (.int .i64 ((rd_T48 y455 x68_4).f0)) ∧ w'.cell? ⟨gb460, 1, none⟩ = some (.int .i64 ((rd_T48 y455 x68_4).f1))) (ds := []) (ba_ 15 0) (by kernel_rfl) rfl rfl ⟨(blk_cell BK450.out 0).trans rfl, (blk_cell BK450.out 1).trans rfl, (blk_cell BK460.out 0).trans rfl, (blk_cell BK460.out 1).trans rfl⟩ (fun hHeld => ?_); refine with_tabW impl_MapOk.tab11 impl_MapOk.bits11 (fun HT_ HW_ => ?_)
                    generalize w64.drew = w65 at BK450 BK460 HB hHeld ⊢
                    refine pu_ 0 (some 72) (ba_ 15 1) rfl rfl (any_of HT_.out (by kernel_rfl)) ?_
                    refine pu_ 2 (some 74) (ba_ 15 5) rfl rfl (any_of HT_.out (by kernel_rfl)) ?_
                    refine pu_ 3 (some 75) (ba_ 15 13) rfl rfl (any_of HT_.out (by kernel_rfl)) ?_
                    refine pu_ 7 (some 79) (ba_ 15 141) rfl rfl (any_of HT_.out (by kernel_rfl)) ?_
                    refine pu_ 9 (some 81) (ba_ 15 653) rfl rfl (any_of HT_.out (by kernel_rfl)) ?_
                    refine pu_ 10 (some 82) (ba_ 15 1677) rfl rfl (any_of HT_.out (by kernel_rfl)) ?_
                    refine ta_ 1 (some 73) (ba_ 15 1679) rfl rfl (take_ofW HT_.out HW_.out (by kernel_rfl)) hHeld (by rintro w' ⟨s0, s1, s2, s3⟩; go_simp; with_reducible rfl) ?_
                    refine ta_ 4 (some 76) (ba_ 15 1695) rfl rfl (take_ofW HT_.out HW_.out (by kernel_rfl)) hHeld (by rintro w' ⟨s0, s1, s2, s3⟩; go_simp; with_reducible rfl) ?_
                    refine ta_ 8 (some 80) (ba_ 15 1951) rfl rfl (take_ofW HT_.out HW_.out (by kernel_rfl)) hHeld (by rintro w' ⟨s0, s1, s2, s3⟩; go_simp; with_reducible rfl) ?_
                    refine ta_ 11 (some 83) (ba_ 15 3999) rfl rfl (take_ofW HT_.out HW_.out (by kernel_rfl)) hHeld (by rintro w' ⟨s0, s1, s2, s3⟩; go_simp; with_reducible rfl) ?_
                    refine one_ (i := 5) (N := some 77) (ba_ 15 4031) rfl rfl (one_of HT_.out (by kernel_rfl)) (by decide) (fun K hK => ?_)
                    refine goes_ Try.func85 (by kernel_rfl) rfl #[.slice A0 l0.length c0, .int .i64 ((rd_T48 y455 x68_4).f0)] (by rfl) rfl rfl (by (try simp only [List.map_toArray, List.map_cons, List.map_nil]); first | done | rfl | (simp only [List.length_drop, List.length_take]; rfl)) ?_
                    with_reducible refine (impl_endOf.calls k4 _ _ l0 ((rd_T48 y455 x68_4).f0) t461 _ ?side1 ?side2 A53.out).mono ?_
                    (case side1 => exact cx_ HR0 HB)
                    (case side2 => exact HC0.out)
                    rintro e w' ⟨rfl, ⟨nd, rfl⟩⟩
                    refine ⟨_, rfl, ?_⟩
                    refine hK.out _ _ ⟨(blk_cell BK450.out 0).trans rfl, (blk_cell BK450.out 1).trans rfl, (blk_cell BK460.out 0).trans rfl, (blk_cell BK460.out 1).trans rfl⟩ (fun hHeld => ?_)
                    clear hK K
                    refine norm_ (a' := ?_) ?_ ?_
                    rotate_left
                    ·show Act.put _ (some 77) _ = _
                     simp only [Act.put, List.setIfInBounds_toArray, List.set_cons_zero, List.set_cons_succ, i64_w, i32_w]
                     rfl
                    refine pu_ 6 (some 78) (ba_ 15 4095) rfl rfl (any_of HT_.out (by kernel_rfl)) ?_
                    refine one_ (i := 12) (N := some 84) (ba_ 15 8191) rfl rfl (one_of HT_.out (by kernel_rfl)) (by decide) (fun K hK => ?_)
                    refine goes_ Try.func85 (by kernel_rfl) rfl #[.slice A1 l1.length c1, .int .i64 ((rd_T48 y455 x68_4).f1)] (by rfl) rfl rfl (by (try simp only [List.map_toArray, List.map_cons, List.map_nil]); first | done | rfl | (simp only [List.length_drop, List.length_take]; rfl)) ?_
                    with_reducible refine (impl_endOf.calls k4 _ _ l1 ((rd_T48 y455 x68_4).f1) t462 _ ?side1 ?side2 A54.out).mono ?_
                    (case side1 => repeat (first | exact (Kd.C_below HR1.out (by repeat (first | (with_reducible first | exact HB.out | apply below_alloc | apply pw_below_drewN | apply below_drew1 | refine below_set ?_ GE450.out | refine below_set ?_ GE460.out) | exact HB.out))) | (with_reducible refine Kd.C_alloc ?_ _) | (with_reducible refine Kd.C_drewN ?_ _) | (with_reducible refine Kd.C_drew ?_)))
                    (case side2 => exact HC1.out)
                    rintro e w' ⟨rfl, ⟨nd, rfl⟩⟩
                    refine ⟨_, rfl, ?_⟩
                    refine hK.out _ _ ⟨(blk_cell BK450.out 0).trans rfl, (blk_cell BK450.out 1).trans rfl, (blk_cell BK460.out 0).trans rfl, (blk_cell BK460.out 1).trans rfl⟩ (fun hHeld => ?_)
                    clear hK K
                    refine norm_ (a' := ?_) ?_ ?_
                    rotate_left
                    ·show Act.put _ (some 84) _ = _
                     simp only [Act.put, List.setIfInBounds_toArray, List.set_cons_zero, List.set_cons_succ, i64_w, i32_w]
                     rfl
                    refine pu_ 13 (some 85) (ba_ 15 16383) rfl rfl (any_of HT_.out (by kernel_rfl)) ?_
                    refine pu_ 14 (some 86) (ba_ 15 32767) rfl rfl (any_of HT_.out (by kernel_rfl)) ?_
                    refine done_ (done_of HT_.out (by kernel_rfl)) ?_
                    try go_wp2
                    go_roundg k4
                    case measure => have := HJ3.out; have := HK2.out; have := HJ14.out; have := HK4.out; omega
                    case rel => exact ⟨(wrap64 (x68_4 + 1)), eb_, H', ⟨by have := HJ3.out; have := HK2.out; have := HJ14.out; have := HK4.out; omega⟩, ⟨kx_ BK450.out⟩, bl_ HB⟩
                  ·rw [if_neg c52] at H
                   exact absurd H (by simp)
                 ·rw [if_neg c51] at H
                  exact absurd H (by simp)
                ·rw [if_neg c50] at H
                 have c50b0 : decide (x68_4 < (y455.length : Int)) = false := decide_eq_false c50
                 clear c50
                 have H' := Aside0.mk H
                 clear H
                 go_wp2
                 go_roundg k4
                 case measure => have := HJ3.out; have := HK2.out; have := HJ14.out; have := HK4.out; omega
                 case rel => exact ⟨(wrap64 (x21_2 + 1)), eb_, H', ⟨by have := HJ3.out; have := HK2.out; have := HJ14.out; have := HK4.out; omega⟩, bl_ HB⟩
             ·rw [if_neg c48] at H
              exact absurd H (by simp)
            ·rw [if_neg c47] at H
             exact absurd H (by simp)
        ·rw [if_neg c14] at H
         exact absurd H (by simp)
       ·rw [if_neg c13] at H
        exact absurd H (by simp)
      ·rw [if_neg c12] at H
       have c12b0 : decide (x21_2 < (l2.length : Int)) = false := decide_eq_false c12
       clear c12
       obtain rfl := Option.some.inj H
       go_wp2
       go_ret
       exact ⟨ea_, (bl_ HB).out⟩
end Go.Proofs.Ytngphdmbjenkaaa.X
namespace Go.Proofs.Ytngphdmbjenkaaa.X
open Go.RowKit Go.Proofs.YtngphdmbjenkaaaW.PrintWords Go.Proofs.YtngphdmbjenkaaaW.PrintLast Go.Proofs.YtngphdmbjenkaaaW.PrintMore
attribute [local go_sem] max2_int min2_int max_two min_two max_three min_three max_four min_four   -- for this text's walks alone
set_option linter.unusedVariables false
set_option linter.unusedSimpArgs false
mutual
def spec_l12More.l0 : Nat → List (S77) → List (S77) → List (S48) → Int → List (List (S48)) → Int → Option ((List (List (S48))))
 | 0, _, _, _, _, _, _ => none
 | k + 1, x0, x1, x2, x3, x9, x10 => if x10 < (x1.length : Int) then ((some (([] : List (S48)) : List (S48))).bind fun y638 => (if y638.length + x2.length < 8796093022208 then ((some (y638 ++ x2 : List (S48))).bind fun y641 => (if y641.length < 8796093022208 then ((some (y641 ++ [(⟨x3, x10⟩ : S48)] : List (S48))).bind fun y644 => ((spec_MapOk.f k x0 x1 y644).bind fun t647 => (if t647 = true then ((spec_l12More.f k x0 x1 y644 (wrap64 (x3 + 1))).bind fun t648 => (if x9.length + t648.length < 5864062014805 then (spec_l12More.l0 k x0 x1 x2 x3 (x9 ++ t648) (wrap64 (x10 + 1))) else (none))) else (spec_l12More.l0 k x0 x1 x2 x3 x9 (wrap64 (x10 + 1)))))) else (none))) else (none))) else (some x9)
def spec_l12More.f : Nat → List (S77) → List (S77) → List (S48) → Int → Option ((List (List (S48))))
 | 0, _, _, _, _ => none
 | k + 1, l0, l1, l2, a3 => if a3 = (l0.length : Int) then ((some (([] : List (S48)) : List (S48))).bind fun y626 => (if y626.length + l2.length < 8796093022208 then (some (([(y626 ++ l2)] : List (List (S48))))) else (none))) else ((spec_l12More.f k l0 l1 l2 (wrap64 (a3 + 1))).bind fun t635 => (spec_l12More.l0 k l0 l1 l2 a3 t635 1))
end
set_option maxHeartbeats 8000000 in
set_option maxRecDepth 100000 in
theorem spec_l12More.calls (k : Nat) : ∀ (A0 : Option Addr) (c0 : Nat) (l0 : List (S77)) (A1 : Option Addr) (c1 : Nat) (l1 : List (S77)) (A2 : Option Addr) (c2 : Nat) (l2 : List (S48)) (a3 : Int) (r : List (List (S48))) (w : World) (hr0 : Kd.C k77 w A0 l0.length l0) (hc0 : l0.length ≤ c0) (hr1 : Kd.C k77 w A1 l1.length l1) (hc1 : l1.length ≤ c1) (hr2 : Kd.C k48 w A2 l2.length l2) (hc2 : l2.length ≤ c2) (h : spec_l12More.f k l0 l1 l2 a3 = some r),
  Calls Try.prog 72 #[.slice A0 l0.length c0, .slice A1 l1.length c1, .slice A2 l2.length c2, .int .i64 a3] w fun e w' => ∃ v0_ : Value, e = .returned (v0_) ∧ Kd.N (Kd.slice 48 k48) 36 w' w.heap.size (fun k_ => (w.heap.size ≤ k_)) v0_ r ∧ Below w.heap.size w w' := by
 induction k using Nat.strongRecOn with
 | _ k ih =>
 intro A0 c0 l0 A1 c1 l1 A2 c2 l2 a3 r w hr0 hc0 hr1 hc1 hr2 hc2 h
 cases k with
 | zero => exact absurd h (by simp [spec_l12More.f])
 | succ k =>
 simp only [spec_l12More.f] at h
 have hu48 := Try.underlying48
 have HR0 := Aside0.mk hr0
 have HC0 := Aside0.mk hc0
 clear hr0 hc0
 have HR1 := Aside0.mk hr1
 have HC1 := Aside0.mk hc1
 clear hr1 hc1
 have HR2 := Aside0.mk hr2
 have HC2 := Aside0.mk hc2
 clear hr2 hc2
 have HB := Aside0.mk (Below.refl w.heap.size w)
 have H : (if a3 = (l0.length : Int) then ((some (([] : List (S48)) : List (S48))).bind fun y626 => (if y626.length + l2.length < 8796093022208 then (some (([(y626 ++ l2)] : List (List (S48))))) else (none))) else ((spec_l12More.f k l0 l1 l2 (wrap64 (a3 + 1))).bind fun t635 => (spec_l12More.l0 k l0 l1 l2 a3 t635 1))) = some r := h
 clear h
 by_cases c5 : a3 = (l0.length : Int)
 ·rw [if_pos c5] at H
  have c5b0 : (a3 == (l0.length : Int)) = true := beq_iff_eq.mpr c5
  have c5b1 : (a3 != (l0.length : Int)) = false := bne_eq_false_iff_eq.mpr c5
  clear c5
  obtain ⟨y626, hy626⟩ : ∃ y_ : List (S48), y_ = (([] : List (S48))) := ⟨_, rfl⟩
  replace H : (if y626.length + l2.length < 8796093022208 then (some (([(y626 ++ l2)] : List (List (S48))))) else (none)) = some r := by first | (rw [hy626]; with_reducible exact H) | (have H2_ := (Option.bind_some _ _).symm.trans H; rw [hy626]; with_reducible exact H2_) | (have H2_ := (Option.bind_some _ _).symm.trans H; with_reducible exact H2_) | with_reducible exact H | (rw [hy626]; exact H) | exact H
  have Ny626 := Aside0.mk hy626
  clear hy626
  by_cases c6 : y626.length + l2.length < 8796093022208
  ·rw [if_pos c6] at H
   have LMc6 := Aside0.mk c6
   clear c6
   obtain ⟨y629, hy629⟩ : ∃ y_ : List (S48), y_ = (y626 ++ l2) := ⟨_, rfl⟩
   replace H : (some (([y629] : List (List (S48))))) = some r := by first | (rw [hy629]; with_reducible exact H) | (have H2_ := (Option.bind_some _ _).symm.trans H; rw [hy629]; with_reducible exact H2_) | (have H2_ := (Option.bind_some _ _).symm.trans H; with_reducible exact H2_) | with_reducible exact H | (rw [hy629]; exact H) | exact H
   have Ny629 := Aside0.mk hy629
   clear hy629
   obtain ⟨y632, hy632⟩ : ∃ y_ : List (List (S48)), y_ = (([y629] : List (List (S48)))) := ⟨_, rfl⟩
   replace H : (some y632) = some r := by first | (rw [hy632]; with_reducible exact H) | (have H2_ := (Option.bind_some _ _).symm.trans H; rw [hy632]; with_reducible exact H2_) | (have H2_ := (Option.bind_some _ _).symm.trans H; with_reducible exact H2_) | with_reducible exact H | (rw [hy632]; exact H) | exact H
   have Ny632 := Aside0.mk hy632
   clear hy632
   obtain rfl := Option.some.inj H
   go_enter Try.func72, Try.ntmps72
   go_wp2_with (first | ((with_reducible refine gate_dst (N := 16) rfl ?_); refine Kd.R_lit k48 _ 48 ?hg (N := 16) ?hd (xs := ([] : List (S48))) (inner := []) (ok := fun _ => True) (okp := fun _ => True) ?hr ?hp (fun _ hk => hk) trivial (Below.refl _ _) (Nat.le_refl _) (by simp) ?_; (case hd => rfl); (case hg => rfl); (case hr => first | (go_simp; done) | (go_simp; rfl)); (case hp => exact (Reps.none _ _)); intro v627 w7 ho8 hb hg_ hnew_; clear hg_ hnew_; (first | rw [← Ny626.out] at ho8 | (simp only [Int.reduceToNat] at ho8; rw [← Ny626.out] at ho8)); have HO628 := Aside0.mk (Kd.R_lower (Kd.R_newM (M := fun k_ => (w.heap.size ≤ k_)) ho8 (bs_ HB) (fun k_ h_ => h_)) (bs_ HB)); replace HB := tB_ HB hb; clear hb ho8) | ((with_reducible refine gate_builtin (b := .append) (xs := #[.tmp 16, .tmp 17]) rfl ?_); at_builtin; refine Kd.R_append_rows k48 (w0 := w) w.heap.size rfl (.tmp 16) (.tmp 17) 36 48 (.agg #[(.int .i64 0), (.int .i64 0)]) 16 rfl Try.underlying36 info48 rfl (by decide) (by omega) v627 y626 l2 _ _ _ (fun k_ => (w.heap.size ≤ k_)) (fun _ => False) rfl rfl ?aO ?aR (fun _ _ h => h) (fun _ h => h.elim) ?aF ?aB ?aS ?aL ?_; (case aR => exact cx_ HR2 HB); (case aB => exact ((bl_ HB).out)); (case aF => exact (fun k_ hk => (Nat.le_trans (bs_ HB) hk))); (case aO => exact (rx_ (Kd.R_mono HO628.out (fun _ hk => hk.1)))); (case aS => exact (bs_ HB)); (case aL => have := LMc6.out; omega); intro v630 w9 ho hb hg hat; rw [← Ny629.out] at ho; replace HB := Aside0.mk (hb); have HO631 := Aside0.mk (ho); clear HO628; clear ho hb hg hat; obtain ⟨Ao10, co10, eo10⟩ := Kd.R_slice HO631.out; subst eo10) | ((with_reducible refine gate_dst (N := 19) rfl ?_); refine Kd.N_lit (Kd.slice 48 k48) _ 36 ?hg (N' := 19) ?hd (xs := ([y629] : List (List (S48)))) (inner := [.slice Ao10 y629.length co10]) (ok := (fun k_ => (w.heap.size ≤ k_))) (okp := (fun k_ => (w.heap.size ≤ k_))) ?hr ?hp (fun _ hk => hk) ((show ∀ k_, w9.heap.size ≤ k_ → (fun k_ => (w.heap.size ≤ k_)) k_ from fun k_ hk => (Nat.le_trans (bs_ HB) hk)) _ (Nat.le_refl _)) (Below.refl _ _) (Nat.le_refl _) (by simp) ?_; (case hd => rfl); (case hg => rfl); (case hr => first | (go_simp; done) | (go_simp; rfl)); (case hp => exact (Reps.one (show Kd.FK (Kd.slice 48 k48) _ _ y629 [.slice Ao10 y629.length co10] from (Kd.FK_slice_mk (Kd.R_reads' (Kd.R_mono (ok' := (fun k_ => (w.heap.size ≤ k_))) (HO631.out) (fun k_ hk => hk))).2.1 (Kd.R_F (Kd.R_mono (ok' := (fun k_ => (w.heap.size ≤ k_))) (HO631.out) (fun k_ hk => hk))))) (Reps.none _ _))); intro v633 w11 ho12 hb hg_ hnew_; clear hg_ hnew_; (first | rw [← Ny632.out] at ho12 | (simp only [Int.reduceToNat] at ho12; rw [← Ny632.out] at ho12)); have HO634 := Aside0.mk (Kd.N_lower ho12 (bs_ HB)); replace HB := tB_ HB hb; clear HO631; clear hb ho12))
   go_ret
   exact ⟨_, ea_, by (with_reducible repeat (first | apply Kd.N_alloc | apply Kd.N_drewN | apply Kd.N_drew)); exact HO634.out, (bl_ HB).out⟩
  ·rw [if_neg c6] at H
   exact absurd H (by simp)
 ·rw [if_neg c5] at H
  have c5b0 : (a3 == (l0.length : Int)) = false := beq_eq_false_iff_ne.mpr c5
  have c5b1 : (a3 != (l0.length : Int)) = true := bne_iff_ne.mpr c5
  replace H := Option.bind_eq_some_iff.mp H
  obtain ⟨t635, A130, H⟩ := H
  replace H : (spec_l12More.l0 k l0 l1 l2 a3 t635 1) = some r := H
  have A13 := Aside0.mk A130
  clear A130
  have H' := Aside0.mk H
  clear H
  go_enter Try.func72, Try.ntmps72
  go_wp2_with (first | ((with_reducible refine gate_callee (f := 72) rfl ?_); refine gL_ (some 25) Try.func72 #[.slice A0 l0.length c0, .slice A1 l1.length c1, .slice A2 l2.length c2, .int .i64 (wrap64 (a3 + 1))] ?_; (with_reducible refine (ih k (by omega) _ _ l0 _ _ l1 _ _ l2 (wrap64 (a3 + 1)) t635 _ ?side1 ?side2 ?side3 ?side4 ?side5 ?side6 A13.out).mono ?_); (case side1 => exact cc_ HR0.out); (case side2 => exact HC0.out); (case side3 => exact cc_ HR1.out); (case side4 => exact HC1.out); (case side5 => exact cc_ HR2.out); (case side6 => exact HC2.out); rintro e w14 ⟨v636, rfl, ho0, hb⟩; refine ⟨_, rfl, ?_⟩; have HO637 := Aside0.mk (Kd.N_lower (Kd.N_mono (ok' := fun k_ => (w.heap.size ≤ k_)) ho0 (fun k_ hk_ => (Nat.le_trans (bs_ HB) hk_))) (bs_ HB)); replace HB := tB_ HB hb; (try clear hb); (try clear ho0)))
  go_loopg [9, 10] k (fun kq v9 v10 w' => ∃ (x9_1 : List (List (S48))) (x10_1 : Int), v10 = .int .i64 x10_1 ∧ Aside0 (spec_l12More.l0 kq l0 l1 l2 a3 x9_1 x10_1 = some r) ∧ Aside0 (kq ≤ k) ∧ Aside0 (Kd.N (Kd.slice 48 k48) 36 w' w.heap.size (fun k_ => (w.heap.size ≤ k_)) v9 x9_1) ∧ Aside0 (Below w.heap.size w w'))
  case atStart => exact ⟨(t635), (1), eb_, H', ⟨Nat.le_refl _⟩, ⟨by (with_reducible repeat (first | apply Kd.N_alloc | apply Kd.N_drewN | apply Kd.N_drew)); exact HO637.out⟩, bl_ HB⟩
  case round =>
   clear H'
   try clear c1
   try clear c2
   try clear p2
   try clear c5
   try clear c5b0
   try clear c5b1
   try clear c6
   try clear p6
   try clear c7
   obtain ⟨x9_1, x10_1, rfl, HA, HK1, HO_9, HB⟩ := hrel
   cases gk with
   | zero => exact absurd HA.out (by simp [spec_l12More.l0])
   | succ k1 =>
    have H := HA.out
    clear HA
    simp only [spec_l12More.l0] at H
    by_cases c15 : x10_1 < (l1.length : Int)
    ·rw [if_pos c15] at H
     have c15b0 : decide (x10_1 < (l1.length : Int)) = true := decide_eq_true c15
     clear c15
     obtain ⟨y638, hy638⟩ : ∃ y_ : List (S48), y_ = (([] : List (S48))) := ⟨_, rfl⟩
     replace H : (if y638.length + l2.length < 8796093022208 then ((some (y638 ++ l2 : List (S48))).bind fun y641 => (if y641.length < 8796093022208 then ((some (y641 ++ [(⟨a3, x10_1⟩ : S48)] : List (S48))).bind fun y644 => ((spec_MapOk.f k1 l0 l1 y644).bind fun t647 => (if t647 = true then ((spec_l12More.f k1 l0 l1 y644 (wrap64 (a3 + 1))).bind fun t648 => (if x9_1.length + t648.length < 5864062014805 then (spec_l12More.l0 k1 l0 l1 l2 a3 (x9_1 ++ t648) (wrap64 (x10_1 + 1))) else (none))) else (spec_l12More.l0 k1 l0 l1 l2 a3 x9_1 (wrap64 (x10_1 + 1)))))) else (none))) else (none)) = some r := by first | (rw [hy638]; with_reducible exact H) | (have H2_ := (Option.bind_some _ _).symm.trans H; rw [hy638]; with_reducible exact H2_) | (have H2_ := (Option.bind_some _ _).symm.trans H; with_reducible exact H2_) | with_reducible exact H | (rw [hy638]; exact H) | exact H
     have Ny638 := Aside0.mk hy638
     clear hy638
     by_cases c16 : y638.length + l2.length < 8796093022208
     ·rw [if_pos c16] at H
      have LMc16 := Aside0.mk c16
      clear c16
      obtain ⟨y641, hy641⟩ : ∃ y_ : List (S48), y_ = (y638 ++ l2) := ⟨_, rfl⟩
      replace H : (if y641.length < 8796093022208 then ((some (y641 ++ [(⟨a3, x10_1⟩ : S48)] : List (S48))).bind fun y644 => ((spec_MapOk.f k1 l0 l1 y644).bind fun t647 => (if t647 = true then ((spec_l12More.f k1 l0 l1 y644 (wrap64 (a3 + 1))).bind fun t648 => (if x9_1.length + t648.length < 5864062014805 then (spec_l12More.l0 k1 l0 l1 l2 a3 (x9_1 ++ t648) (wrap64 (x10_1 + 1))) else (none))) else (spec_l12More.l0 k1 l0 l1 l2 a3 x9_1 (wrap64 (x10_1 + 1)))))) else (none)) = some r := by first | (rw [hy641]; with_reducible exact H) | (have H2_ := (Option.bind_some _ _).symm.trans H; rw [hy641]; with_reducible exact H2_) | (have H2_ := (Option.bind_some _ _).symm.trans H; with_reducible exact H2_) | with_reducible exact H | (rw [hy641]; exact H) | exact H
      have Ny641 := Aside0.mk hy641
      clear hy641
      by_cases c17 : y641.length < 8796093022208
      ·rw [if_pos c17] at H
       have LMc17 := Aside0.mk c17
       clear c17
       obtain ⟨y644, hy644⟩ : ∃ y_ : List (S48), y_ = (y641 ++ [(⟨a3, x10_1⟩ : S48)]) := ⟨_, rfl⟩
       replace H : ((spec_MapOk.f k1 l0 l1 y644).bind fun t647 => (if t647 = true then ((spec_l12More.f k1 l0 l1 y644 (wrap64 (a3 + 1))).bind fun t648 => (if x9_1.length + t648.length < 5864062014805 then (spec_l12More.l0 k1 l0 l1 l2 a3 (x9_1 ++ t648) (wrap64 (x10_1 + 1))) else (none))) else (spec_l12More.l0 k1 l0 l1 l2 a3 x9_1 (wrap64 (x10_1 + 1))))) = some r := by first | (rw [hy644]; with_reducible exact H) | (have H2_ := (Option.bind_some _ _).symm.trans H; rw [hy644]; with_reducible exact H2_) | (have H2_ := (Option.bind_some _ _).symm.trans H; with_reducible exact H2_) | with_reducible exact H | (rw [hy644]; exact H) | exact H
       have Ny644 := Aside0.mk hy644
       clear hy644
       replace H := Option.bind_eq_some_iff.mp H
       obtain ⟨t647, A180, H⟩ := H
       try dsimp only at H
       have A18 := Aside0.mk A180
       clear A180
       by_cases c19 : t647 = true
       ·subst c19
        have H1 : ((spec_l12More.f k1 l0 l1 y644 (wrap64 (a3 + 1))).bind fun t648 => (if x9_1.length + t648.length < 5864062014805 then (spec_l12More.l0 k1 l0 l1 l2 a3 (x9_1 ++ t648) (wrap64 (x10_1 + 1))) else (none))) = some r := by rw [if_pos rfl] at H; exact H
        clear H
        have H := H1
        clear H1
        replace H := Option.bind_eq_some_iff.mp H
        obtain ⟨t648, A200, H⟩ := H
        try dsimp only at H
        have A20 := Aside0.mk A200
        clear A200
        by_cases c21 : x9_1.length + t648.length < 5864062014805
        ·rw [if_pos c21] at H
         have LMc21 := Aside0.mk c21
         clear c21
         obtain ⟨y651, hy651⟩ : ∃ y_ : List (List (S48)), y_ = (x9_1 ++ t648) := ⟨_, rfl⟩
         replace H : (spec_l12More.l0 k1 l0 l1 l2 a3 y651 (wrap64 (x10_1 + 1))) = some r := by first | (rw [hy651]; with_reducible exact H) | (have H2_ := (Option.bind_some _ _).symm.trans H; rw [hy651]; with_reducible exact H2_) | (have H2_ := (Option.bind_some _ _).symm.trans H; with_reducible exact H2_) | with_reducible exact H | (rw [hy651]; exact H) | exact H
         have Ny651 := Aside0.mk hy651
         clear hy651
         have H' := Aside0.mk H
         clear H
         go_wp2_with (first | ((with_reducible refine gate_dst (N := 32) rfl ?_); refine Kd.R_lit k48 _ 48 ?hg (N := 32) ?hd (xs := ([] : List (S48))) (inner := []) (ok := fun _ => True) (okp := fun _ => True) ?hr ?hp (fun _ hk => hk) trivial (Below.refl _ _) (Nat.le_refl _) (by simp) ?_; (case hd => rfl); (case hg => rfl); (case hr => first | (go_simp; done) | (go_simp; rfl)); (case hp => exact (Reps.none _ _)); intro v639 w22 ho23 hb hg_ hnew_; clear hg_ hnew_; (first | rw [← Ny638.out] at ho23 | (simp only [Int.reduceToNat] at ho23; rw [← Ny638.out] at ho23)); replace HO_9 := Aside0.mk (Kd.N_elder' (by (with_reducible repeat (first | apply Kd.N_alloc | apply Kd.N_drewN | apply Kd.N_drew)); exact HO_9.out) (Kd.R_base ho23) hb); have HO640 := Aside0.mk (Kd.R_lower (Kd.R_newM (M := fun k_ => (w.heap.size ≤ k_)) ho23 (bs_ HB) (fun k_ h_ => h_)) (bs_ HB)); replace HB := tB_ HB hb; clear hb ho23) | ((with_reducible refine gate_builtin (b := .append) (xs := #[.tmp 32, .tmp 33]) rfl ?_); at_builtin; refine Kd.R_append_rows k48 (w0 := w) w.heap.size rfl (.tmp 32) (.tmp 33) 36 48 (.agg #[(.int .i64 0), (.int .i64 0)]) 16 rfl Try.underlying36 info48 rfl (by decide) (by omega) v639 y638 l2 _ _ _ (fun k_ => (w.heap.size ≤ k_)) (fun _ => False) rfl rfl ?aO ?aR (fun _ _ h => h) (fun _ h => h.elim) ?aF ?aB ?aS ?aL ?_; (case aR => exact cx_ HR2 HB); (case aB => exact ((bl_ HB).out)); (case aF => exact (fun k_ hk => (Nat.le_trans (bs_ HB) hk))); (case aO => exact (rx_ (Kd.R_mono HO640.out (fun _ hk => hk.1)))); (case aS => exact (bs_ HB)); (case aL => have := LMc16.out; omega); intro v642 w24 ho hb hg hat; rw [← Ny641.out] at ho; replace HO_9 := Aside0.mk (Kd.N_afterv (ok := (fun k_ => (w.heap.size ≤ k_))) (by (with_reducible repeat (first | apply Kd.N_alloc | apply Kd.N_drewN | apply Kd.N_drew)); exact HO_9.out) hg hat); replace HB := Aside0.mk (hb); have HO643 := Aside0.mk (ho); clear HO640; clear ho hb hg hat) | ((with_reducible refine gate_builtin (b := .append) (xs := #[.tmp 34, .tmp 38]) rfl ?_); at_builtin; refine Kd.R_append k48 (w0 := w) w.heap.size rfl (.tmp 34) (.tmp 38) 36 48 (.agg #[(.int .i64 0), (.int .i64 0)]) 16 rfl Try.underlying36 info48 rfl (by decide) (by omega) v642 y641 (⟨a3, x10_1⟩ : S48) [.int .i64 a3, .int .i64 x10_1] (fun k_ => (w.heap.size ≤ k_)) (fun _ => False) rfl rfl ?aP (fun _ hk => hk.elim) ?aF ?aO ?aB ?aS ?aL ?_; (case aP => exact k48_mkM _ _ _ (⟨a3, x10_1⟩ : S48)); (case aB => exact ((bl_ HB).out)); (case aF => exact (fun k_ hk => (Nat.le_trans (bs_ HB) hk))); (case aO => exact (rx_ HO643.out)); (case aS => exact (bs_ HB)); (case aL => have := LMc17.out; omega); intro v645 w25 ho hb hg hat; rw [← Ny644.out] at ho; replace HO_9 := Aside0.mk (Kd.N_afterv (ok := (fun k_ => (w.heap.size ≤ k_))) (by (with_reducible repeat (first | apply Kd.N_alloc | apply Kd.N_drewN | apply Kd.N_drew)); exact HO_9.out) hg hat); replace HB := Aside0.mk (hb); have HO646 := Aside0.mk (ho); clear HO643; clear ho hb hg hat; obtain ⟨Ao26, co26, eo26⟩ := Kd.R_slice HO646.out; subst eo26) | ((with_reducible refine gate_callee (f := 20) rfl ?_); refine gL_ (some 43) Try.func20 #[.slice A0 l0.length c0, .slice A1 l1.length c1, .slice Ao26 y644.length co26] ?_; (with_reducible refine (spec_MapOk.calls k1 _ _ l0 _ _ l1 _ _ y644 true _ (cx_ HR0 HB) HC0.out (cx_ HR1 HB) HC1.out (cc_ (Kd.R_reads' HO646.out).2.2) ((Kd.R_reads' HO646.out).2.1) A18.out).mono ?_); rintro e w27 ⟨rfl, hb⟩; refine ⟨_, rfl, ?_⟩; replace HO_9 := Aside0.mk (Kd.N_below (by (with_reducible repeat (first | apply Kd.N_alloc | apply Kd.N_drewN | apply Kd.N_drew)); exact HO_9.out) hb); replace HO646 := tR_ HO646 hb; replace HB := tB_ HB hb; (try clear hb)) | ((with_reducible refine gate_callee (f := 72) rfl ?_); refine gL_ (some 50) Try.func72 #[.slice A0 l0.length c0, .slice A1 l1.length c1, .slice Ao26 y644.length co26, .int .i64 (wrap64 (a3 + 1))] ?_; (with_reducible refine (ih k1 (by have := HK1.out; omega) _ _ l0 _ _ l1 _ _ y644 (wrap64 (a3 + 1)) t648 _ ?side1 ?side2 ?side3 ?side4 ?side5 ?side6 A20.out).mono ?_); (case side1 => exact cx_ HR0 HB); (case side2 => exact HC0.out); (case side3 => exact cx_ HR1 HB); (case side4 => exact HC1.out); (case side5 => exact cc_ (Kd.R_reads' HO646.out).2.2); (case side6 => exact (Kd.R_reads' HO646.out).2.1); rintro e w28 ⟨v649, rfl, ho0, hb⟩; refine ⟨_, rfl, ?_⟩; have HO650 := Aside0.mk (Kd.N_lower (Kd.N_mono (ok' := fun k_ => (w.heap.size ≤ k_) ∧ some k_ ≠ (u9 : Value).ownBlock ∧ some k_ ≠ (.slice Ao26 y644.length co26 : Value).ownBlock) ho0 (fun k_ hk_ => ⟨(Nat.le_trans (bs_ HB) hk_), (Kd.fresh' (Kd.N_lt (by (with_reducible repeat (first | apply Kd.N_alloc | apply Kd.N_drewN | apply Kd.N_drew)); exact HO_9.out)) k_ hk_), (Kd.fresh' (Kd.R_lt (rx_ HO646.out)) k_ hk_)⟩)) (bs_ HB)); replace HO_9 := Aside0.mk (Kd.N_elder' (by (with_reducible repeat (first | apply Kd.N_alloc | apply Kd.N_drewN | apply Kd.N_drew)); exact HO_9.out) (Kd.N_base ho0) hb); replace HO646 := tR_ HO646 hb; replace HB := tB_ HB hb; (try clear hb); (try clear ho0); obtain ⟨Ao30, co30, eo30⟩ := Kd.N_slice HO650.out; subst eo30) | ((with_reducible refine gate_builtin (b := .append) (xs := #[.tmp 44, .tmp 50]) rfl ?_); at_builtin; refine Kd.N_append_rows (Kd.slice 48 k48) (w0 := w) w.heap.size rfl (.tmp 44) (.tmp 50) 30 36 (.slice none 0 0) 24 rfl Try.underlying30 info36 rfl (by decide) (by omega) u9 x9_1 t648 _ _ _ (fun k_ => (w.heap.size ≤ k_) ∧ some k_ ≠ (.slice Ao26 y644.length co26 : Value).ownBlock) (fun k_ => ((fun k_ => (w.heap.size ≤ k_) ∧ some k_ ≠ (.slice Ao26 y644.length co26 : Value).ownBlock)) k_ ∧ some k_ ≠ (u9 : Value).ownBlock) rfl rfl ?aO ?aR (fun _ hk => hk) ?aF ?aB ?aS ?aL ?_; (case aR => exact (by skip; exact Kd.N_F (Kd.N_mono (ok' := (fun k_ => ((fun k_ => (w.heap.size ≤ k_) ∧ some k_ ≠ (.slice Ao26 y644.length co26 : Value).ownBlock)) k_ ∧ some k_ ≠ (u9 : Value).ownBlock)) (HO650.out) (fun k_ hk => ⟨⟨hk.1, hk.2.2⟩, hk.2.1⟩)))); (case aB => exact ((bl_ HB).out)); (case aF => exact (fun k_ hk => ⟨(Nat.le_trans (bs_ HB) hk), Kd.fresh' (Kd.R_lt (rx_ HO646.out)) k_ hk⟩)); (case aO => exact (by (with_reducible repeat (first | apply Kd.N_alloc | apply Kd.N_drewN | apply Kd.N_drew)); exact Kd.N_mono HO_9.out (fun _ hk => ⟨hk.1.1, hk.1.2⟩))); (case aS => exact (bs_ HB)); (case aL => have := LMc21.out; omega); intro v652 w29 ho hb hg hat; rw [← Ny651.out] at ho; replace HO646 := Aside0.mk (Kd.R_over' (rx_ HO646.out) (Kd.N_typed (by (with_reducible repeat (first | apply Kd.N_alloc | apply Kd.N_drewN | apply Kd.N_drew)); exact HO_9.out)) (by decide) hg); replace HO650 := Aside0.mk (Kd.N_afterv (ok := (fun k_ => (w.heap.size ≤ k_) ∧ some k_ ≠ (.slice Ao26 y644.length co26 : Value).ownBlock)) (by (with_reducible repeat (first | apply Kd.N_alloc | apply Kd.N_drewN | apply Kd.N_drew)); exact Kd.N_mono HO650.out (fun _ hk => ⟨⟨hk.1, hk.2.2⟩, hk.2.1⟩)) hg hat); replace HB := Aside0.mk (hb); have HO653 := Aside0.mk (ho); clear HO_9; clear ho hb hg hat))
         go_roundg k1
         case measure => have := HK1.out; omega
         case rel => exact ⟨(y651), (wrap64 (x10_1 + 1)), eb_, H', ⟨by have := HK1.out; omega⟩, ⟨by (with_reducible repeat (first | apply Kd.N_alloc | apply Kd.N_drewN | apply Kd.N_drew)); exact Kd.N_mono HO653.out (fun _ hk => hk.1)⟩, bl_ HB⟩
        ·rw [if_neg c21] at H
         exact absurd H (by simp)
       ·replace c19 := Bool.eq_false_iff.mpr c19
        subst c19
        have H1 : (spec_l12More.l0 k1 l0 l1 l2 a3 x9_1 (wrap64 (x10_1 + 1))) = some r := by rw [if_neg (show ¬ (false = true) by decide)] at H; exact H
        clear H
        have H := H1
        clear H1
        have H' := Aside0.mk H
        clear H
        go_wp2_with (first | ((with_reducible refine gate_dst (N := 32) rfl ?_); refine Kd.R_lit k48 _ 48 ?hg (N := 32) ?hd (xs := ([] : List (S48))) (inner := []) (ok := fun _ => True) (okp := fun _ => True) ?hr ?hp (fun _ hk => hk) trivial (Below.refl _ _) (Nat.le_refl _) (by simp) ?_; (case hd => rfl); (case hg => rfl); (case hr => first | (go_simp; done) | (go_simp; rfl)); (case hp => exact (Reps.none _ _)); intro v639 w31 ho32 hb hg_ hnew_; clear hg_ hnew_; (first | rw [← Ny638.out] at ho32 | (simp only [Int.reduceToNat] at ho32; rw [← Ny638.out] at ho32)); replace HO_9 := Aside0.mk (Kd.N_elder' (by (with_reducible repeat (first | apply Kd.N_alloc | apply Kd.N_drewN | apply Kd.N_drew)); exact HO_9.out) (Kd.R_base ho32) hb); have HO640 := Aside0.mk (Kd.R_lower (Kd.R_newM (M := fun k_ => (w.heap.size ≤ k_)) ho32 (bs_ HB) (fun k_ h_ => h_)) (bs_ HB)); replace HB := tB_ HB hb; clear hb ho32) | ((with_reducible refine gate_builtin (b := .append) (xs := #[.tmp 32, .tmp 33]) rfl ?_); at_builtin; refine Kd.R_append_rows k48 (w0 := w) w.heap.size rfl (.tmp 32) (.tmp 33) 36 48 (.agg #[(.int .i64 0), (.int .i64 0)]) 16 rfl Try.underlying36 info48 rfl (by decide) (by omega) v639 y638 l2 _ _ _ (fun k_ => (w.heap.size ≤ k_)) (fun _ => False) rfl rfl ?aO ?aR (fun _ _ h => h) (fun _ h => h.elim) ?aF ?aB ?aS ?aL ?_; (case aR => exact cx_ HR2 HB); (case aB => exact ((bl_ HB).out)); (case aF => exact (fun k_ hk => (Nat.le_trans (bs_ HB) hk))); (case aO => exact (rx_ (Kd.R_mono HO640.out (fun _ hk => hk.1)))); (case aS => exact (bs_ HB)); (case aL => have := LMc16.out; omega); intro v642 w33 ho hb hg hat; rw [← Ny641.out] at ho; replace HO_9 := Aside0.mk (Kd.N_afterv (ok := (fun k_ => (w.heap.size ≤ k_))) (by (with_reducible repeat (first | apply Kd.N_alloc | apply Kd.N_drewN | apply Kd.N_drew)); exact HO_9.out) hg hat); replace HB := Aside0.mk (hb); have HO643 := Aside0.mk (ho); clear HO640; clear ho hb hg hat) | ((with_reducible refine gate_builtin (b := .append) (xs := #[.tmp 34, .tmp 38]) rfl ?_); at_builtin; refine Kd.R_append k48 (w0 := w) w.heap.size rfl (.tmp 34) (.tmp 38) 36 48 (.agg #[(.int .i64 0), (.int .i64 0)]) 16 rfl Try.underlying36 info48 rfl (by decide) (by omega) v642 y641 (⟨a3, x10_1⟩ : S48) [.int .i64 a3, .int .i64 x10_1] (fun k_ => (w.heap.size ≤ k_)) (fun _ => False) rfl rfl ?aP (fun _ hk => hk.elim) ?aF ?aO ?aB ?aS ?aL ?_; (case aP => exact k48_mkM _ _ _ (⟨a3, x10_1⟩ : S48)); (case aB => exact ((bl_ HB).out)); (case aF => exact (fun k_ hk => (Nat.le_trans (bs_ HB) hk))); (case aO => exact (rx_ HO643.out)); (case aS => exact (bs_ HB)); (case aL => have := LMc17.out; omega); intro v645 w34 ho hb hg hat; rw [← Ny644.out] at ho; replace HO_9 := Aside0.mk (Kd.N_afterv (ok := (fun k_ => (w.heap.size ≤ k_))) (by (with_reducible repeat (first | apply Kd.N_alloc | apply Kd.N_drewN | apply Kd.N_drew)); exact HO_9.out) hg hat); replace HB := Aside0.mk (hb); have HO646 := Aside0.mk (ho); clear HO643; clear ho hb hg hat; obtain ⟨Ao35, co35, eo35⟩ := Kd.R_slice HO646.out; subst eo35) | ((with_reducible refine gate_callee (f := 20) rfl ?_); refine gL_ (some 43) Try.func20 #[.slice A0 l0.length c0, .slice A1 l1.length c1, .slice Ao35 y644.length co35] ?_; (with_reducible refine (spec_MapOk.calls k1 _ _ l0 _ _ l1 _ _ y644 false _ (cx_ HR0 HB) HC0.out (cx_ HR1 HB) HC1.out (cc_ (Kd.R_reads' HO646.out).2.2) ((Kd.R_reads' HO646.out).2.1) A18.out).mono ?_); rintro e w36 ⟨rfl, hb⟩; refine ⟨_, rfl, ?_⟩; replace HO_9 := Aside0.mk (Kd.N_below (by (with_reducible repeat (first | apply Kd.N_alloc | apply Kd.N_drewN | apply Kd.N_drew)); exact HO_9.out) hb); replace HO646 := tR_ HO646 hb; replace HB := tB_ HB hb; (try clear hb)))
        go_roundg k1
        case measure => have := HK1.out; omega
        case rel => exact ⟨(x9_1), (wrap64 (x10_1 + 1)), eb_, H', ⟨by have := HK1.out; omega⟩, ⟨by (with_reducible repeat (first | apply Kd.N_alloc | apply Kd.N_drewN | apply Kd.N_drew)); exact Kd.N_mono HO_9.out (fun _ hk => hk.1)⟩, bl_ HB⟩
      ·rw [if_neg c17] at H
       exact absurd H (by simp)
     ·rw [if_neg c16] at H
      exact absurd H (by simp)
    ·rw [if_neg c15] at H
     have c15b0 : decide (x10_1 < (l1.length : Int)) = false := decide_eq_false c15
     clear c15
     obtain rfl := Option.some.inj H
     go_wp2
     go_ret
     exact ⟨_, ea_, by (with_reducible repeat (first | apply Kd.N_alloc | apply Kd.N_drewN | apply Kd.N_drew)); exact HO_9.out, (bl_ HB).out⟩
end Go.Proofs.Ytngphdmbjenkaaa.X
namespace Go.Proofs.Ytngphdmbjenkaaa.X
open Go.RowKit Go.Proofs.YtngphdmbjenkaaaW.PrintWords Go.Proofs.YtngphdmbjenkaaaW.PrintLast Go.Proofs.YtngphdmbjenkaaaW.PrintMore
attribute [local go_sem] max2_int min2_int max_two min_two max_three min_three max_four min_four   -- for this text's walks alone
set_option linter.unusedVariables false
set_option linter.unusedSimpArgs false
def spec_MapsOf.f (k : Nat) (l0 : List (S77)) (l1 : List (S77)) : Option ((List (List (S48)))) := (spec_TreeOk.f k l0).bind fun t654 => (if t654 = true then ((spec_TreeOk.f k l1).bind fun t655 => (if t655 = true then (if (l0.length : Int) > 5 then (some (([] : List (List (S48))))) else (if (l1.length : Int) > 5 then (some (([] : List (List (S48))))) else ((spec_l12More.f k l0 l1 (([(⟨0, 0⟩ : S48)] : List (S48))) 1).bind fun t665 => (some t665)))) else (some (([] : List (List (S48))))))) else (some (([] : List (List (S48))))))
set_option maxHeartbeats 8000000 in
set_option maxRecDepth 100000 in
theorem spec_MapsOf.calls (k : Nat) (A0 : Option Addr) (c0 : Nat) (l0 : List (S77)) (A1 : Option Addr) (c1 : Nat) (l1 : List (S77)) (r : List (List (S48))) (w : World) (hr0 : Kd.C k77 w A0 l0.length l0) (hc0 : l0.length ≤ c0) (hr1 : Kd.C k77 w A1 l1.length l1) (hc1 : l1.length ≤ c1) (h : spec_MapsOf.f k l0 l1 = some r) :
  Calls Try.prog 22 #[.slice A0 l0.length c0, .slice A1 l1.length c1] w fun e w' => ∃ v0_ : Value, e = .returned (v0_) ∧ Kd.N (Kd.slice 48 k48) 36 w' w.heap.size (fun k_ => (w.heap.size ≤ k_)) v0_ r ∧ Below w.heap.size w w' := by
 have hu48 := Try.underlying48
 have HR0 := Aside0.mk hr0
 have HC0 := Aside0.mk hc0
 clear hr0 hc0
 have HR1 := Aside0.mk hr1
 have HC1 := Aside0.mk hc1
 clear hr1 hc1
 have HB := Aside0.mk (Below.refl w.heap.size w)
 have H : ((spec_TreeOk.f k l0).bind fun t654 => (if t654 = true then ((spec_TreeOk.f k l1).bind fun t655 => (if t655 = true then (if (l0.length : Int) > 5 then (some (([] : List (List (S48))))) else (if (l1.length : Int) > 5 then (some (([] : List (List (S48))))) else ((spec_l12More.f k l0 l1 (([(⟨0, 0⟩ : S48)] : List (S48))) 1).bind fun t665 => (some t665)))) else (some (([] : List (List (S48))))))) else (some (([] : List (List (S48))))))) = some r := h
 clear h
 replace H := Option.bind_eq_some_iff.mp H
 obtain ⟨t654, A30, H⟩ := H
 try dsimp only at H
 have A3 := Aside0.mk A30
 clear A30
 by_cases c4 : t654 = true
 ·subst c4
  have H1 : ((spec_TreeOk.f k l1).bind fun t655 => (if t655 = true then (if (l0.length : Int) > 5 then (some (([] : List (List (S48))))) else (if (l1.length : Int) > 5 then (some (([] : List (List (S48))))) else ((spec_l12More.f k l0 l1 (([(⟨0, 0⟩ : S48)] : List (S48))) 1).bind fun t665 => (some t665)))) else (some (([] : List (List (S48))))))) = some r := by rw [if_pos rfl] at H; exact H
  clear H
  have H := H1
  clear H1
  replace H := Option.bind_eq_some_iff.mp H
  obtain ⟨t655, A50, H⟩ := H
  try dsimp only at H
  have A5 := Aside0.mk A50
  clear A50
  by_cases c6 : t655 = true
  ·subst c6
   have H1 : (if (l0.length : Int) > 5 then (some (([] : List (List (S48))))) else (if (l1.length : Int) > 5 then (some (([] : List (List (S48))))) else ((spec_l12More.f k l0 l1 (([(⟨0, 0⟩ : S48)] : List (S48))) 1).bind fun t665 => (some t665)))) = some r := by rw [if_pos rfl] at H; exact H
   clear H
   have H := H1
   clear H1
   by_cases c7 : (l0.length : Int) > 5
   ·rw [if_pos c7] at H
    have c7b0 : decide (5 < (l0.length : Int)) = true := decide_eq_true c7
    have c7b1 : decide (5 < l0.length) = true := decide_eq_true (by omega)
    clear c7
    obtain ⟨y656, hy656⟩ : ∃ y_ : List (List (S48)), y_ = (([] : List (List (S48)))) := ⟨_, rfl⟩
    replace H : (some y656) = some r := by first | (rw [hy656]; with_reducible exact H) | (have H2_ := (Option.bind_some _ _).symm.trans H; rw [hy656]; with_reducible exact H2_) | (have H2_ := (Option.bind_some _ _).symm.trans H; with_reducible exact H2_) | with_reducible exact H | (rw [hy656]; exact H) | exact H
    have Ny656 := Aside0.mk hy656
    clear hy656
    obtain rfl := Option.some.inj H
    go_enter Try.func22, Try.ntmps22
    go_wp2_with (first | ((with_reducible refine gate_callee (f := 16) rfl ?_); refine gL_ (some 6) Try.func16 #[.slice A0 l0.length c0] ?_; (with_reducible refine (spec_TreeOk.calls k _ _ l0 true _ (cc_ HR0.out) HC0.out A3.out).mono ?_); rintro e w8 ⟨rfl, hb⟩; refine ⟨_, rfl, ?_⟩; replace HB := tB_ HB hb; (try clear hb)) | (go_at_call 16; (with_reducible refine (spec_TreeOk.calls k _ _ l1 true _ (cx_ HR1 HB) HC1.out A5.out).mono ?_); rintro e w9 ⟨rfl, hb⟩; replace HB := tB_ HB hb; (try clear hb)) | ((with_reducible refine gate_dst (N := 23) rfl ?_); (try (refine gate_guard (by rfl) ?_; dsimp only)); refine Kd.N_lit (Kd.slice 48 k48) _ 36 ?hg (N' := 23) ?hd (xs := ([] : List (List (S48)))) (inner := []) (ok := (fun k_ => (w.heap.size ≤ k_))) (okp := (fun k_ => (w.heap.size ≤ k_))) ?hr ?hp (fun _ hk => hk) ((show ∀ k_, w9.heap.size ≤ k_ → (fun k_ => (w.heap.size ≤ k_)) k_ from fun k_ hk => (Nat.le_trans (bs_ HB) hk)) _ (Nat.le_refl _)) (Below.refl _ _) (Nat.le_refl _) (by simp) ?_; (case hd => rfl); (case hg => rfl); (case hr => first | (go_simp; done) | (go_simp; rfl)); (case hp => exact (Reps.none _ _)); intro v657 w10 ho11 hb hg_ hnew_; clear hg_ hnew_; (first | rw [← Ny656.out] at ho11 | (simp only [Int.reduceToNat] at ho11; rw [← Ny656.out] at ho11)); have HO658 := Aside0.mk (Kd.N_lower ho11 (bs_ HB)); replace HB := tB_ HB hb; clear hb ho11))
    go_ret
    exact ⟨_, ea_, by (with_reducible repeat (first | apply Kd.N_alloc | apply Kd.N_drewN | apply Kd.N_drew)); exact HO658.out, (bl_ HB).out⟩
   ·rw [if_neg c7] at H
    have c7b0 : decide (5 < (l0.length : Int)) = false := decide_eq_false c7
    have c7b1 : decide (5 < l0.length) = false := decide_eq_false (by omega)
    clear c7
    by_cases c12 : (l1.length : Int) > 5
    ·rw [if_pos c12] at H
     have c12b0 : decide (5 < (l1.length : Int)) = true := decide_eq_true c12
     have c12b1 : decide (5 < l1.length) = true := decide_eq_true (by omega)
     clear c12
     obtain ⟨y659, hy659⟩ : ∃ y_ : List (List (S48)), y_ = (([] : List (List (S48)))) := ⟨_, rfl⟩
     replace H : (some y659) = some r := by first | (rw [hy659]; with_reducible exact H) | (have H2_ := (Option.bind_some _ _).symm.trans H; rw [hy659]; with_reducible exact H2_) | (have H2_ := (Option.bind_some _ _).symm.trans H; with_reducible exact H2_) | with_reducible exact H | (rw [hy659]; exact H) | exact H
     have Ny659 := Aside0.mk hy659
     clear hy659
     obtain rfl := Option.some.inj H
     go_enter Try.func22, Try.ntmps22
     go_wp2_with (first | ((with_reducible refine gate_callee (f := 16) rfl ?_); refine gL_ (some 6) Try.func16 #[.slice A0 l0.length c0] ?_; (with_reducible refine (spec_TreeOk.calls k _ _ l0 true _ (cc_ HR0.out) HC0.out A3.out).mono ?_); rintro e w13 ⟨rfl, hb⟩; refine ⟨_, rfl, ?_⟩; replace HB := tB_ HB hb; (try clear hb)) | (go_at_call 16; (with_reducible refine (spec_TreeOk.calls k _ _ l1 true _ (cx_ HR1 HB) HC1.out A5.out).mono ?_); rintro e w14 ⟨rfl, hb⟩; replace HB := tB_ HB hb; (try clear hb)) | ((with_reducible refine gate_dst (N := 23) rfl ?_); (try (refine gate_guard (by rfl) ?_; dsimp only)); refine Kd.N_lit (Kd.slice 48 k48) _ 36 ?hg (N' := 23) ?hd (xs := ([] : List (List (S48)))) (inner := []) (ok := (fun k_ => (w.heap.size ≤ k_))) (okp := (fun k_ => (w.heap.size ≤ k_))) ?hr ?hp (fun _ hk => hk) ((show ∀ k_, w14.heap.size ≤ k_ → (fun k_ => (w.heap.size ≤ k_)) k_ from fun k_ hk => (Nat.le_trans (bs_ HB) hk)) _ (Nat.le_refl _)) (Below.refl _ _) (Nat.le_refl _) (by simp) ?_; (case hd => rfl); (case hg => rfl); (case hr => first | (go_simp; done) | (go_simp; rfl)); (case hp => exact (Reps.none _ _)); intro v660 w15 ho16 hb hg_ hnew_; clear hg_ hnew_; (first | rw [← Ny659.out] at ho16 | (simp only [Int.reduceToNat] at ho16; rw [← Ny659.out] at ho16)); have HO661 := Aside0.mk (Kd.N_lower ho16 (bs_ HB)); replace HB := tB_ HB hb; clear hb ho16))
     go_ret
     exact ⟨_, ea_, by (with_reducible repeat (first | apply Kd.N_alloc | apply Kd.N_drewN | apply Kd.N_drew)); exact HO661.out, (bl_ HB).out⟩
    ·rw [if_neg c12] at H
     have c12b0 : decide (5 < (l1.length : Int)) = false := decide_eq_false c12
     have c12b1 : decide (5 < l1.length) = false := decide_eq_false (by omega)
     clear c12
     obtain ⟨y662, hy662⟩ : ∃ y_ : List (S48), y_ = (([(⟨0, 0⟩ : S48)] : List (S48))) := ⟨_, rfl⟩
     replace H : ((spec_l12More.f k l0 l1 y662 1).bind fun t665 => (some t665)) = some r := by first | (rw [hy662]; with_reducible exact H) | (have H2_ := (Option.bind_some _ _).symm.trans H; rw [hy662]; with_reducible exact H2_) | (have H2_ := (Option.bind_some _ _).symm.trans H; with_reducible exact H2_) | with_reducible exact H | (rw [hy662]; exact H) | exact H
     have Ny662 := Aside0.mk hy662
     clear hy662
     replace H := Option.bind_eq_some_iff.mp H
     obtain ⟨t665, A170, H⟩ := H
     replace H : (some t665) = some r := H
     have A17 := Aside0.mk A170
     clear A170
     obtain rfl := Option.some.inj H
     go_enter Try.func22, Try.ntmps22
     go_wp2_with (first | ((with_reducible refine gate_callee (f := 16) rfl ?_); refine gL_ (some 6) Try.func16 #[.slice A0 l0.length c0] ?_; (with_reducible refine (spec_TreeOk.calls k _ _ l0 true _ (cc_ HR0.out) HC0.out A3.out).mono ?_); rintro e w18 ⟨rfl, hb⟩; refine ⟨_, rfl, ?_⟩; replace HB := tB_ HB hb; (try clear hb)) | (go_at_call 16; (with_reducible refine (spec_TreeOk.calls k _ _ l1 true _ (cx_ HR1 HB) HC1.out A5.out).mono ?_); rintro e w19 ⟨rfl, hb⟩; replace HB := tB_ HB hb; (try clear hb)) | ((with_reducible refine gate_dst (N := 27) rfl ?_); (try (refine gate_guard (by rfl) ?_; dsimp only)); refine Kd.R_lit k48 _ 48 ?hg (N := 27) ?hd (xs := ([(⟨0, 0⟩ : S48)] : List (S48))) (inner := [.int .i64 0, .int .i64 0]) (ok := fun _ => True) (okp := fun _ => True) ?hr ?hp (fun _ hk => hk) trivial (Below.refl _ _) (Nat.le_refl _) (by simp) ?_; (case hd => rfl); (case hg => rfl); (case hr => first | (go_simp; done) | (go_simp; rfl)); (case hp => exact (Reps.c2 (show Kd.M k48 _ _ _ (⟨0, 0⟩ : S48) [.int .i64 0, .int .i64 0] from (k48_mkM _ _ _ (⟨0, 0⟩ : S48) )) (Reps.none _ _))); intro v663 w20 ho21 hb hg_ hnew_; clear hg_ hnew_; (first | rw [← Ny662.out] at ho21 | (simp only [Int.reduceToNat] at ho21; rw [← Ny662.out] at ho21)); have HO664 := Aside0.mk (Kd.R_lower (Kd.R_newM (M := fun k_ => (w.heap.size ≤ k_)) ho21 (bs_ HB) (fun k_ h_ => h_)) (bs_ HB)); replace HB := tB_ HB hb; clear hb ho21; obtain ⟨Ao22, co22, eo22⟩ := Kd.R_slice HO664.out; subst eo22) | ((with_reducible refine gate_callee (f := 72) rfl ?_); refine gL_ (some 28) Try.func72 #[.slice A0 l0.length c0, .slice A1 l1.length c1, .slice Ao22 y662.length co22, .int .i64 1] ?_; (with_reducible refine (spec_l12More.calls k _ _ l0 _ _ l1 _ _ y662 1 t665 _ (cx_ HR0 HB) HC0.out (cx_ HR1 HB) HC1.out (cc_ (Kd.R_reads' HO664.out).2.2) ((Kd.R_reads' HO664.out).2.1) A17.out).mono ?_); rintro e w23 ⟨v666, rfl, ho0, hb⟩; refine ⟨_, rfl, ?_⟩; have HO667 := Aside0.mk (Kd.N_lower (Kd.N_mono (ok' := fun k_ => (w.heap.size ≤ k_) ∧ some k_ ≠ (.slice Ao22 y662.length co22 : Value).ownBlock) ho0 (fun k_ hk_ => ⟨(Nat.le_trans (bs_ HB) hk_), (Kd.fresh' (Kd.R_lt (rx_ HO664.out)) k_ hk_)⟩)) (bs_ HB)); replace HO664 := tR_ HO664 hb; replace HB := tB_ HB hb; (try clear hb); (try clear ho0)))
     go_ret
     exact ⟨_, ea_, by (with_reducible repeat (first | apply Kd.N_alloc | apply Kd.N_drewN | apply Kd.N_drew)); exact Kd.N_mono HO667.out (fun _ hk => hk.1), (bl_ HB).out⟩
  ·replace c6 := Bool.eq_false_iff.mpr c6
   subst c6
   have H1 : (some (([] : List (List (S48))))) = some r := by rw [if_neg (show ¬ (false = true) by decide)] at H; exact H
   clear H
   have H := H1
   clear H1
   obtain ⟨y668, hy668⟩ : ∃ y_ : List (List (S48)), y_ = (([] : List (List (S48)))) := ⟨_, rfl⟩
   replace H : (some y668) = some r := by first | (rw [hy668]; with_reducible exact H) | (have H2_ := (Option.bind_some _ _).symm.trans H; rw [hy668]; with_reducible exact H2_) | (have H2_ := (Option.bind_some _ _).symm.trans H; with_reducible exact H2_) | with_reducible exact H | (rw [hy668]; exact H) | exact H
   have Ny668 := Aside0.mk hy668
   clear hy668
   obtain rfl := Option.some.inj H
   go_enter Try.func22, Try.ntmps22
   go_wp2_with (first | ((with_reducible refine gate_callee (f := 16) rfl ?_); refine gL_ (some 6) Try.func16 #[.slice A0 l0.length c0] ?_; (with_reducible refine (spec_TreeOk.calls k _ _ l0 true _ (cc_ HR0.out) HC0.out A3.out).mono ?_); rintro e w24 ⟨rfl, hb⟩; refine ⟨_, rfl, ?_⟩; replace HB := tB_ HB hb; (try clear hb)) | (go_at_call 16; (with_reducible refine (spec_TreeOk.calls k _ _ l1 false _ (cx_ HR1 HB) HC1.out A5.out).mono ?_); rintro e w25 ⟨rfl, hb⟩; replace HB := tB_ HB hb; (try clear hb)) | ((with_reducible refine gate_dst (N := 23) rfl ?_); (try (refine gate_guard (by rfl) ?_; dsimp only)); refine Kd.N_lit (Kd.slice 48 k48) _ 36 ?hg (N' := 23) ?hd (xs := ([] : List (List (S48)))) (inner := []) (ok := (fun k_ => (w.heap.size ≤ k_))) (okp := (fun k_ => (w.heap.size ≤ k_))) ?hr ?hp (fun _ hk => hk) ((show ∀ k_, w25.heap.size ≤ k_ → (fun k_ => (w.heap.size ≤ k_)) k_ from fun k_ hk => (Nat.le_trans (bs_ HB) hk)) _ (Nat.le_refl _)) (Below.refl _ _) (Nat.le_refl _) (by simp) ?_; (case hd => rfl); (case hg => rfl); (case hr => first | (go_simp; done) | (go_simp; rfl)); (case hp => exact (Reps.none _ _)); intro v669 w26 ho27 hb hg_ hnew_; clear hg_ hnew_; (first | rw [← Ny668.out] at ho27 | (simp only [Int.reduceToNat] at ho27; rw [← Ny668.out] at ho27)); have HO670 := Aside0.mk (Kd.N_lower ho27 (bs_ HB)); replace HB := tB_ HB hb; clear hb ho27))
   go_ret
   exact ⟨_, ea_, by (with_reducible repeat (first | apply Kd.N_alloc | apply Kd.N_drewN | apply Kd.N_drew)); exact HO670.out, (bl_ HB).out⟩
 ·replace c4 := Bool.eq_false_iff.mpr c4
  subst c4
  have H1 : (some (([] : List (List (S48))))) = some r := by rw [if_neg (show ¬ (false = true) by decide)] at H; exact H
  clear H
  have H := H1
  clear H1
  obtain ⟨y671, hy671⟩ : ∃ y_ : List (List (S48)), y_ = (([] : List (List (S48)))) := ⟨_, rfl⟩
  replace H : (some y671) = some r := by first | (rw [hy671]; with_reducible exact H) | (have H2_ := (Option.bind_some _ _).symm.trans H; rw [hy671]; with_reducible exact H2_) | (have H2_ := (Option.bind_some _ _).symm.trans H; with_reducible exact H2_) | with_reducible exact H | (rw [hy671]; exact H) | exact H
  have Ny671 := Aside0.mk hy671
  clear hy671
  obtain rfl := Option.some.inj H
  go_enter Try.func22, Try.ntmps22
  go_wp2_with (first | ((with_reducible refine gate_callee (f := 16) rfl ?_); refine gL_ (some 6) Try.func16 #[.slice A0 l0.length c0] ?_; (with_reducible refine (spec_TreeOk.calls k _ _ l0 false _ (cc_ HR0.out) HC0.out A3.out).mono ?_); rintro e w28 ⟨rfl, hb⟩; refine ⟨_, rfl, ?_⟩; replace HB := tB_ HB hb; (try clear hb)) | ((with_reducible refine gate_dst (N := 23) rfl ?_); (try (refine gate_guard (by rfl) ?_; dsimp only)); refine Kd.N_lit (Kd.slice 48 k48) _ 36 ?hg (N' := 23) ?hd (xs := ([] : List (List (S48)))) (inner := []) (ok := (fun k_ => (w.heap.size ≤ k_))) (okp := (fun k_ => (w.heap.size ≤ k_))) ?hr ?hp (fun _ hk => hk) ((show ∀ k_, w28.heap.size ≤ k_ → (fun k_ => (w.heap.size ≤ k_)) k_ from fun k_ hk => (Nat.le_trans (bs_ HB) hk)) _ (Nat.le_refl _)) (Below.refl _ _) (Nat.le_refl _) (by simp) ?_; (case hd => rfl); (case hg => rfl); (case hr => first | (go_simp; done) | (go_simp; rfl)); (case hp => exact (Reps.none _ _)); intro v672 w29 ho30 hb hg_ hnew_; clear hg_ hnew_; (first | rw [← Ny671.out] at ho30 | (simp only [Int.reduceToNat] at ho30; rw [← Ny671.out] at ho30)); have HO673 := Aside0.mk (Kd.N_lower ho30 (bs_ HB)); replace HB := tB_ HB hb; clear hb ho30))
  go_ret
  exact ⟨_, ea_, by (with_reducible repeat (first | apply Kd.N_alloc | apply Kd.N_drewN | apply Kd.N_drew)); exact HO673.out, (bl_ HB).out⟩
end Go.Proofs.Ytngphdmbjenkaaa.X
namespace Go.Proofs.Ytngphdmbjenkaaa.X
open Go.RowKit Go.Proofs.YtngphdmbjenkaaaW.PrintWords Go.Proofs.YtngphdmbjenkaaaW.PrintLast Go.Proofs.YtngphdmbjenkaaaW.PrintMore
set_option linter.unusedVariables false
set_option linter.unusedSimpArgs false
def encPair (x : S48) : Value := .agg #[.int .i64 x.f0, .int .i64 x.f1]
set_option maxHeartbeats 2000000 in
theorem indexFunc_pair (g : Nat) (lb : Array Value) (p : S48 → Bool) (eg : ∀ args w, (callFunc g args).run Try.prog w = .ok (.enter g args) w)
  (A0 : Option Addr) (c0 : Nat) (l0 : List S48) (w : World) (hp : PredB Try.prog g lb encPair p w) (hr0 : Kd.C k48 w A0 l0.length l0) (hc0 : l0.length ≤ c0) :
  Calls Try.prog 120 #[.slice A0 l0.length c0, .func (.func g) #[] lb] w fun e w' => ∃ n : Int, e = .returned (.int .i64 n) ∧ Aside0 (decide (0 ≤ n) = l0.any p) ∧ Below w.heap.size w w' := by
 have HR0 := Aside0.mk hr0
 have HP := Aside0.mk hp
 have hm := hr0.2.1
 have hu := Try.underlying48
 clear hr0 hc0 hp
 go_enter Try.func120, Try.ntmps120
 go_wp2
 go_loopg [5, 8] l0.length (fun gg _ s8 wr => ∃ kk : Nat, kk ≤ l0.length ∧ l0.length - kk ≤ gg ∧ s8 = .int .i64 kk ∧ Aside0 ((l0.take kk).any p = false) ∧ Aside0 (Below w.heap.size w wr))
 case atStart => exact ⟨0, Nat.zero_le _, by omega, rfl, ⟨by simp⟩, ⟨Below.refl _ _⟩⟩
 case round =>
  obtain ⟨kk, hkk, hg, rfl, AN, HB⟩ := hrel
  by_cases hlt : kk < l0.length
  ·have hcl := HP.out wr HB.out (rd_T48 l0 kk)
   have hcl2 := hcl
   unfold encPair at hcl
   obtain ⟨ad, e, hx, hx1⟩ := at_T48 (Kd.C_below HR0.out HB.out) kk (by omega) (by omega)
   have HC := Aside0.mk hcl
   clear hcl hcl2
   cases e
   have hany : (l0.take (kk + 1)).any p = ((l0.take kk).any p || p (rd_T48 l0 kk)) := by
    rw [List.take_succ_eq_append_getElem hlt, List.any_append]
    simp [rd_T48, List.getD_eq_getElem?_getD, List.getElem?_eq_getElem hlt]
   have HN := Aside0.mk hany
   clear hany
   have hltz : (kk : Int) < (l0.length : Int) := by omega
   rw [Int.toNat_natCast] at hx hx1
   cases hq : p (rd_T48 l0 kk) with
   | true =>
    have HQ := Aside0.mk hq
    clear hq
    go_wp2_with fail
    refine HC.out.mono ?_
    rintro e w' ⟨rfl, hb⟩
    have HBB := Aside0.mk (HB.out.trans (hb.mono (below_size HB.out)))
    clear hb
    rw [HQ.out]
    go_wp2
    go_ret
    refine ⟨_, rfl, ⟨?_⟩, HBB.out⟩
    have h1 := HN.out
    rw [HQ.out, Bool.or_true] at h1
    rw [← List.take_append_drop (kk + 1) l0, List.any_append, h1]
    simp
   | false =>
    have HQ := Aside0.mk hq
    clear hq
    go_wp2_with fail
    refine HC.out.mono ?_
    rintro e w' ⟨rfl, hb⟩
    have HBB := Aside0.mk (HB.out.trans (hb.mono (below_size HB.out)))
    clear hb
    rw [HQ.out]
    go_wp2
    go_roundg (l0.length - (kk + 1))
    case measure => omega
    case rel => exact ⟨kk + 1, by omega, by omega, by go_num, ⟨by rw [HN.out, AN.out, HQ.out]; rfl⟩, HBB⟩
  ·have hltz : ¬ (kk : Int) < (l0.length : Int) := by omega
   have e : kk = l0.length := by omega
   have AN2 : Aside0 (l0.any p = false) := ⟨by have := AN.out; rw [e, List.take_length] at this; exact this⟩
   clear AN e
   go_wp2
   go_ret
   exact ⟨-1, rfl, ⟨by rw [AN2.out]; decide⟩, HB.out⟩
set_option maxHeartbeats 2000000 in
theorem containsFunc_pair (g : Nat) (lb : Array Value) (p : S48 → Bool) (eg : ∀ args w, (callFunc g args).run Try.prog w = .ok (.enter g args) w)
  (A0 : Option Addr) (c0 : Nat) (l0 : List S48) (w : World) (hp : PredB Try.prog g lb encPair p w) (hr0 : Kd.C k48 w A0 l0.length l0) (hc0 : l0.length ≤ c0) :
  Calls Try.prog 67 #[.slice A0 l0.length c0, .func (.func g) #[] lb] w fun e w' => e = .returned (.bool (l0.any p)) ∧ Below w.heap.size w w' := by
 have HX := Aside0.mk (indexFunc_pair g lb p eg A0 c0 l0 w hp hr0 hc0)
 clear hr0 hc0 hp
 go_enter Try.func67, Try.ntmps67
 go_wp2_with (go_at_call 120; refine HX.out.mono ?_; rintro e w' ⟨n, rfl, hn, HB⟩)
 go_ret
 exact ⟨by rw [← hn.out]; rfl, HB⟩
end Go.Proofs.Ytngphdmbjenkaaa.X
namespace Go.Proofs.Ytngphdmbjenkaaa.X
open Go.RowKit Go.Proofs.YtngphdmbjenkaaaW.PrintWords Go.Proofs.YtngphdmbjenkaaaW.PrintLast Go.Proofs.YtngphdmbjenkaaaW.PrintMore
set_option linter.unusedVariables false
set_option linter.unusedSimpArgs false
abbrev MNd := S77
abbrev MPr := S48
theorem mapLitA (i : Int) (b : Nat) (x : MPr) (W : World) (hcell : W.cell? ⟨b, 0, none⟩ = some (.int .i64 i)) :
  Calls Try.prog 68 (#[encPair x] ++ #[.pointer (some ⟨b, 0, none⟩)]) W fun e w' => e = .returned (.bool (x.f0 == i)) ∧ Below W.heap.size W w' := by
 unfold encPair
 have hb : b < W.heap.size := World.block_lt_of_cell? W _ hcell
 have hc2 : ∀ o, (W.alloc o).cell? ⟨b, 0, none⟩ = some (.int .i64 i) := fun o => (((Below.refl W.heap.size W).alloc (Nat.le_refl _) o).cell (p := ⟨b, 0, none⟩) hb).trans hcell
 clear hb hcell
 go_enter Try.func68, Try.ntmps68
 go_wp2
 go_ret
 exact ⟨rfl, (Below.refl _ _).alloc (Nat.le_refl _) _⟩
theorem mapLitB (i : Int) (b : Nat) (x : MPr) (W : World) (hcell : W.cell? ⟨b, 0, none⟩ = some (.int .i64 i)) :
  Calls Try.prog 69 (#[encPair x] ++ #[.pointer (some ⟨b, 0, none⟩)]) W fun e w' => e = .returned (.bool (x.f1 == i)) ∧ Below W.heap.size W w' := by
 unfold encPair
 have hb : b < W.heap.size := World.block_lt_of_cell? W _ hcell
 have hc2 : ∀ o, (W.alloc o).cell? ⟨b, 0, none⟩ = some (.int .i64 i) := fun o => (((Below.refl W.heap.size W).alloc (Nat.le_refl _) o).cell (p := ⟨b, 0, none⟩) hb).trans hcell
 clear hb hcell
 go_enter Try.func69, Try.ntmps69
 go_wp2
 go_ret
 exact ⟨rfl, (Below.refl _ _).alloc (Nat.le_refl _) _⟩
theorem box3 {W w1 : World} {x y z : Value} {ty : TypeId} (hb : Below (W.alloc (Obj.cells #[x, y, z] ty)).heap.size (W.alloc (Obj.cells #[x, y, z] ty)) w1) :
  w1.cell? ⟨W.heap.size, 0, none⟩ = some x ∧ w1.cell? ⟨W.heap.size, 1, none⟩ = some y ∧ w1.cell? ⟨W.heap.size, 2, none⟩ = some z :=
 ⟨(hb.cell (p := ⟨W.heap.size, 0, none⟩) (by simp)).trans (by rw [World.cell?_alloc_new]; rfl), (hb.cell (p := ⟨W.heap.size, 1, none⟩) (by simp)).trans (by rw [World.cell?_alloc_new]; rfl), (hb.cell (p := ⟨W.heap.size, 2, none⟩) (by simp)).trans (by rw [World.cell?_alloc_new]; rfl)⟩
theorem newCell2 (w : World) (o : Obj) (cs : Array Value) (ty : TypeId) (j : Nat) : ((w.alloc o).alloc (Obj.cells cs ty)).cell? ⟨w.heap.size + 1, j, none⟩ = cs[j]? := by
 have e : (w.alloc o).heap.size = w.heap.size + 1 := by simp
 rw [← e, World.cell?_alloc_new]
def mcDel (d : List Int) (m : List MPr) : List MNd → Nat → Int → Option Int
 | [], _, n => some n
 | x :: xs, i, n => if (m.any fun p => p.f0 == (i : Int)) = true then mcDel d m xs (i + 1) n else if 0 ≤ x.f0 ∧ x.f0 < (d.length : Int) then mcDel d m xs (i + 1) (wrap64 (n + rd d x.f0)) else none
def mcIns (d : List Int) (m : List MPr) : List MNd → Nat → Int → Option Int
 | [], _, n => some n
 | x :: xs, i, n => if (m.any fun p => p.f1 == (i : Int)) = true then mcIns d m xs (i + 1) n else if 0 ≤ x.f0 ∧ x.f0 < (d.length : Int) then mcIns d m xs (i + 1) (wrap64 (n + rd d x.f0)) else none
def mcRel (k : Nat) (a b : List MNd) (d i r : List Int) : List MPr → Int → Option Int
 | [], n => some n
 | p :: ps, n => if (0 ≤ p.f0 ∧ p.f0 < (a.length : Int)) ∧ 0 ≤ p.f1 ∧ p.f1 < (b.length : Int) then (impl_RelCost.f k d i r (rd_T77 a p.f0).f0 (rd_T77 b p.f1).f0).bind fun t => mcRel k a b d i r ps (wrap64 (n + t)) else none
def impl_MapCost.f (k : Nat) (l0 l1 : List MNd) (d i r : List Int) (l3 : List MPr) : Option Int :=
 (impl_MapOk.f k l0 l1 l3).bind fun t => if t = true then (impl_CostOk.f k d i r).bind fun u => if u = true then (mcDel d l3 l0 0 0).bind fun x => (mcIns i l3 l1 0 x).bind fun y => mcRel k l0 l1 d i r l3 y else some (-1) else some (-1)
set_option maxHeartbeats 4000000 in
set_option maxRecDepth 100000 in
theorem impl_MapCost.calls (k : Nat) (A0 : Option Addr) (c0 : Nat) (l0 : List MNd) (A1 : Option Addr) (c1 : Nat) (l1 : List MNd) (A2 : Option Addr) (c2 : Nat) (d : List Int) (A3 : Option Addr) (c3 : Nat) (i : List Int) (A4 : Option Addr) (c4 : Nat) (r : List Int) (A5 : Option Addr) (c5 : Nat) (l3 : List MPr) (res : Int) (w : World)
  (hr0 : Kd.C k77 w A0 l0.length l0) (hc0 : l0.length ≤ c0) (hr1 : Kd.C k77 w A1 l1.length l1) (hc1 : l1.length ≤ c1) (hr2 : Kd.C (Kd.int .i64) w A2 d.length d) (hc2 : d.length ≤ c2) (hr3 : Kd.C (Kd.int .i64) w A3 i.length i) (hc3 : i.length ≤ c3) (hr4 : Kd.C (Kd.int .i64) w A4 r.length r) (hc4 : r.length ≤ c4)
  (hr5 : Kd.C k48 w A5 l3.length l3) (hc5 : l3.length ≤ c5) (h : impl_MapCost.f k l0 l1 d i r l3 = some res) :
  Calls Try.prog 19 #[.slice A0 l0.length c0, .slice A1 l1.length c1, .agg #[.slice A2 d.length c2, .slice A3 i.length c3, .slice A4 r.length c4], .slice A5 l3.length c5] w fun e w' => e = .returned (.int .i64 res) ∧ Below w.heap.size w w' := by
 have HM : Aside0 (∀ (t : Bool) W, impl_MapOk.f k l0 l1 l3 = some t → Below w.heap.size w W → Calls Try.prog 45 #[.slice A0 l0.length c0, .slice A1 l1.length c1, .slice A5 l3.length c5] W fun e w' => e = .returned (.bool t) ∧ Below W.heap.size W w') :=
  ⟨fun t W ht hb => impl_MapOk.calls k A0 c0 l0 A1 c1 l1 A5 c5 l3 t W (Kd.C_below hr0 hb) hc0 (Kd.C_below hr1 hb) hc1 (Kd.C_below hr5 hb) hc5 ht⟩
 have HC : Aside0 (∀ (t : Bool) W, impl_CostOk.f k d i r = some t → Below w.heap.size w W → Calls Try.prog 66 #[.agg #[.slice A2 d.length c2, .slice A3 i.length c3, .slice A4 r.length c4]] W fun e w' => e = .returned (.bool t) ∧ Below W.heap.size W w') :=
  ⟨fun t W ht hb => impl_CostOk.calls k A2 c2 d A3 c3 i A4 c4 r t W (Kd.C_below hr2 hb) hc2 (Kd.C_below hr3 hb) hc3 (Kd.C_below hr4 hb) hc4 ht⟩
 have HE : Aside0 (∀ (x y t : Int) W, impl_RelCost.f k d i r x y = some t → Below w.heap.size w W → Calls Try.prog 65 #[.agg #[.slice A2 d.length c2, .slice A3 i.length c3, .slice A4 r.length c4], .int .i64 x, .int .i64 y] W fun e w' => e = .returned (.int .i64 t) ∧ Below W.heap.size W w') :=
  ⟨fun x y t W ht hb => impl_RelCost.calls k A2 c2 d A3 c3 i A4 c4 r x y t W (Kd.C_below hr2 hb) hc2 (Kd.C_below hr3 hb) hc3 (Kd.C_below hr4 hb) hc4 ht⟩
 have HXA : Aside0 (∀ (wr : World) (b : Nat) (kk : Nat), Below w.heap.size w wr → wr.cell? ⟨b, 0, none⟩ = some (.int .i64 kk) → Calls Try.prog 67 #[.slice A5 l3.length c5, .func (.func 68) #[] #[.pointer (some ⟨b, 0, none⟩)]] wr fun e w' => e = .returned (.bool (l3.any fun p => p.f0 == (kk : Int))) ∧ Below wr.heap.size wr w') :=
  ⟨fun wr b kk hb hcl => containsFunc_pair 68 #[.pointer (some ⟨b, 0, none⟩)] (fun p => p.f0 == (kk : Int)) (fun args w => enters_ Try.func68 (by kernel_rfl) rfl args w) A5 c5 l3 _
   (fun W hW x => mapLitA kk b x W ((hW.cell (p := ⟨b, 0, none⟩) (World.block_lt_of_cell? wr _ hcl)).trans hcl)) (Kd.C_below hr5 hb) hc5⟩
 have HXB : Aside0 (∀ (wr : World) (b : Nat) (kk : Nat), Below w.heap.size w wr → wr.cell? ⟨b, 0, none⟩ = some (.int .i64 kk) → Calls Try.prog 67 #[.slice A5 l3.length c5, .func (.func 69) #[] #[.pointer (some ⟨b, 0, none⟩)]] wr fun e w' => e = .returned (.bool (l3.any fun p => p.f1 == (kk : Int))) ∧ Below wr.heap.size wr w') :=
  ⟨fun wr b kk hb hcl => containsFunc_pair 69 #[.pointer (some ⟨b, 0, none⟩)] (fun p => p.f1 == (kk : Int)) (fun args w => enters_ Try.func69 (by kernel_rfl) rfl args w) A5 c5 l3 _
   (fun W hW x => mapLitB kk b x W ((hW.cell (p := ⟨b, 0, none⟩) (World.block_lt_of_cell? wr _ hcl)).trans hcl)) (Kd.C_below hr5 hb) hc5⟩
 have HR0 := Aside0.mk hr0
 have HR1 := Aside0.mk hr1
 have HR2 := Aside0.mk hr2
 have HR3 := Aside0.mk hr3
 have HR5 := Aside0.mk hr5
 have hm0 := hr0.2.1
 have hm1 := hr1.2.1
 have hm5 := hr5.2.1
 clear hr0 hc0 hr1 hc1 hr2 hc2 hr3 hc3 hr4 hc4 hr5 hc5
 have hu := Try.underlying48
 have hun := Try.underlying77
 have huc := Try.underlying27
 unfold impl_MapCost.f at h
 obtain ⟨t, ht, h⟩ := Option.bind_eq_some_iff.mp h
 have HT := Aside0.mk ht
 clear ht
 cases t with
 | false =>
  rw [if_neg (by decide)] at h
  obtain rfl := Option.some.inj h
  clear h
  go_enter Try.func19, Try.ntmps19
  go_wp2_with (go_at_call 45; refine (HM.out false _ HT.out ((Below.refl _ _).alloc (Nat.le_refl _) _)).mono ?_; rintro e w' ⟨rfl, hb⟩; have HB := Aside0.mk hb; clear hb)
  go_ret
  exact ⟨rfl, ((Below.refl _ _).alloc (Nat.le_refl _) _).trans (HB.out.mono (by simp))⟩
 | true =>
  rw [if_pos rfl] at h
  obtain ⟨u, hu2, h⟩ := Option.bind_eq_some_iff.mp h
  have HU := Aside0.mk hu2
  clear hu2
  cases u with
  | false =>
   rw [if_neg (by decide)] at h
   obtain rfl := Option.some.inj h
   clear h
   go_enter Try.func19, Try.ntmps19
   go_wp2_with (first | (go_at_call 45; refine (HM.out true _ HT.out ((Below.refl _ _).alloc (Nat.le_refl _) _)).mono ?_; rintro e w' ⟨rfl, hb⟩; have hx0 := (box3 hb).1; have hx1 := (box3 hb).2.1; have hx2 := (box3 hb).2.2; have HB := Aside0.mk hb; clear hb) | (go_at_call 66; refine (HC.out false _ HU.out (((Below.refl _ _).alloc (Nat.le_refl _) _).trans (HB.out.mono (by simp)))).mono ?_; rintro e w' ⟨rfl, hb⟩; have HB2 := Aside0.mk (HB.out.trans (hb.mono HB.out.size)); clear hb))
   go_ret
   exact ⟨rfl, ((Below.refl _ _).alloc (Nat.le_refl _) _).trans (HB2.out.mono (by simp))⟩
  | true =>
   rw [if_pos rfl] at h
   obtain ⟨x, hx, h⟩ := Option.bind_eq_some_iff.mp h
   obtain ⟨y, hy, h⟩ := Option.bind_eq_some_iff.mp h
   have H1 := Aside0.mk hx
   have H2 := Aside0.mk hy
   have H3 := Aside0.mk h
   clear hx hy h
   go_enter Try.func19, Try.ntmps19
   go_wp2_with (first | (go_at_call 45; refine (HM.out true _ HT.out ((Below.refl _ _).alloc (Nat.le_refl _) _)).mono ?_; rintro e w' ⟨rfl, hb⟩; have hx0 := (box3 hb).1; have hx1 := (box3 hb).2.1; have hx2 := (box3 hb).2.2; have HB := Aside0.mk hb; clear hb) | (go_at_call 66; refine (HC.out true _ HU.out (((Below.refl _ _).alloc (Nat.le_refl _) _).trans (HB.out.mono (by simp)))).mono ?_; rintro e w' ⟨rfl, hb⟩; have HB2 := Aside0.mk (HB.out.trans (hb.mono HB.out.size)); clear hb hx0 hx1 hx2))
   go_loopg [9, 28] l0.length (fun gg s9 s28 wr => ∃ (kk : Nat) (n : Int), kk ≤ l0.length ∧ l0.length - kk ≤ gg ∧ s9 = .int .i64 n ∧ s28 = .int .i64 kk ∧ Aside0 (mcDel d l3 (l0.drop kk) kk n = some x) ∧ Aside0 (Below (w.alloc (Obj.cells #[.slice A2 d.length c2, .slice A3 i.length c3, .slice A4 r.length c4] 27)).heap.size (w.alloc (Obj.cells #[.slice A2 d.length c2, .slice A3 i.length c3, .slice A4 r.length c4] 27)) wr))
   case atStart => exact ⟨0, 0, Nat.zero_le _, by omega, rfl, rfl, H1, HB2⟩
   case round =>
    clear HB HB2 H1
    obtain ⟨kk, n, hkk, hg, rfl, rfl, H1, HB⟩ := hrel
    by_cases hlt : kk < l0.length
    ·have hltz : (kk : Int) < (l0.length : Int) := by omega
     have HW := Aside0.mk (((Below.refl w.heap.size w).alloc (Nat.le_refl _) (Obj.cells #[.slice A2 d.length c2, .slice A3 i.length c3, .slice A4 r.length c4] 27)).trans (HB.out.mono (by simp)))
     obtain ⟨ad, e, hx, hx1⟩ := at_T77 (Kd.C_below HR0.out HW.out) kk (by omega) (by omega)
     cases e
     rw [Int.toNat_natCast] at hx hx1
     have hs : mcDel d l3 (l0.drop kk) kk n = if (l3.any fun p => p.f0 == (kk : Int)) = true then mcDel d l3 (l0.drop (kk + 1)) (kk + 1) n else if 0 ≤ (rd_T77 l0 kk).f0 ∧ (rd_T77 l0 kk).f0 < (d.length : Int) then mcDel d l3 (l0.drop (kk + 1)) (kk + 1) (wrap64 (n + rd d (rd_T77 l0 kk).f0)) else none := by
      rw [List.drop_eq_getElem_cons hlt, show rd_T77 l0 (kk : Int) = l0[kk] from by simp [rd_T77, List.getD_eq_getElem?_getD, List.getElem?_eq_getElem hlt]]
      rfl
     have h1 := H1.out
     rw [hs] at h1
     clear hs H1
     cases hq : (l3.any fun p => p.f0 == (kk : Int)) with
     | true =>
      rw [if_pos hq] at h1
      have H1 := Aside0.mk h1
      have HQ := Aside0.mk hq
      clear h1 hq
      go_wp2_with (go_at_call 67; refine (HXA.out _ _ kk (below_alloc (below_alloc HW.out _) _) (by simp)).mono ?_; rintro e w' ⟨rfl, hb⟩; rw [HQ.out]; have HBB := Aside0.mk (HB.out.trans ((((Below.refl _ _).alloc (Nat.le_refl _) _).alloc (by simp) _).trans (hb.mono (by simp; omega)) |>.mono HB.out.size)); clear hb)
      go_roundg (l0.length - (kk + 1))
      case measure => omega
      case rel => exact ⟨kk + 1, n, by omega, by omega, rfl, by go_num, H1, HBB⟩
     | false =>
      rw [if_neg (by rw [hq]; decide)] at h1
      have HQ := Aside0.mk hq
      clear hq
      by_cases hlab : 0 ≤ (rd_T77 l0 kk).f0 ∧ (rd_T77 l0 kk).f0 < (d.length : Int)
      case neg => rw [if_neg hlab] at h1; cases h1
      rw [if_pos hlab] at h1
      obtain ⟨hl0, hl1⟩ := hlab
      have H1 := Aside0.mk h1
      clear h1
      obtain ⟨ad2, e2, hy2⟩ := Kd.at_int HR2.out _ hl0 hl1
      cases e2
      have HY := Aside0.mk hy2
      clear hy2
      go_wp2_with (go_at_call 67; refine (HXA.out _ _ kk (below_alloc (below_alloc HW.out _) _) (by simp)).mono ?_; rintro e w' ⟨rfl, hb⟩; rw [HQ.out]; have hx2 := (hb.cell (p := ⟨wr.heap.size + 1, 0, none⟩) (by simp)).trans (newCell2 wr _ _ _ 0); have HBB := Aside0.mk (HB.out.trans ((((Below.refl _ _).alloc (Nat.le_refl _) _).alloc (by simp) _).trans (hb.mono (by simp; omega)) |>.mono HB.out.size)); have hx3 := (box3 HBB.out).1; have hx4 := pw_cell_below (((Below.refl w.heap.size w).alloc (Nat.le_refl _) _).trans (HBB.out.mono (by simp))) HY.out; clear hb)
      go_roundg (l0.length - (kk + 1))
      case measure => omega
      case rel => exact ⟨kk + 1, _, by omega, by omega, rfl, by go_num, H1, HBB⟩
    ·have hltz : ¬ (kk : Int) < (l0.length : Int) := by omega
     obtain rfl : kk = l0.length := by omega
     have hend := H1.out
     rw [List.drop_length] at hend
     obtain rfl := Option.some.inj hend
     clear hend H1
     go_wp2
     go_loopg [9, 48] l1.length (fun gg s9 s48 wr => ∃ (kk : Nat) (n : Int), kk ≤ l1.length ∧ l1.length - kk ≤ gg ∧ s9 = .int .i64 n ∧ s48 = .int .i64 kk ∧ Aside0 (mcIns i l3 (l1.drop kk) kk n = some y) ∧ Aside0 (Below (w.alloc (Obj.cells #[.slice A2 d.length c2, .slice A3 i.length c3, .slice A4 r.length c4] 27)).heap.size (w.alloc (Obj.cells #[.slice A2 d.length c2, .slice A3 i.length c3, .slice A4 r.length c4] 27)) wr))
     case atStart => exact ⟨0, _, Nat.zero_le _, by omega, rfl, rfl, H2, HB⟩
     case round =>
      clear HB H2
      obtain ⟨kk, n, hkk, hg, rfl, rfl, H2, HB⟩ := hrel
      by_cases hlt : kk < l1.length
      ·have hltz : (kk : Int) < (l1.length : Int) := by omega
       have HW := Aside0.mk (((Below.refl w.heap.size w).alloc (Nat.le_refl _) (Obj.cells #[.slice A2 d.length c2, .slice A3 i.length c3, .slice A4 r.length c4] 27)).trans (HB.out.mono (by simp)))
       obtain ⟨ad, e, hx, hx1⟩ := at_T77 (Kd.C_below HR1.out HW.out) kk (by omega) (by omega)
       cases e
       rw [Int.toNat_natCast] at hx hx1
       have hs : mcIns i l3 (l1.drop kk) kk n = if (l3.any fun p => p.f1 == (kk : Int)) = true then mcIns i l3 (l1.drop (kk + 1)) (kk + 1) n else if 0 ≤ (rd_T77 l1 kk).f0 ∧ (rd_T77 l1 kk).f0 < (i.length : Int) then mcIns i l3 (l1.drop (kk + 1)) (kk + 1) (wrap64 (n + rd i (rd_T77 l1 kk).f0)) else none := by
        rw [List.drop_eq_getElem_cons hlt, show rd_T77 l1 (kk : Int) = l1[kk] from by simp [rd_T77, List.getD_eq_getElem?_getD, List.getElem?_eq_getElem hlt]]
        rfl
       have h1 := H2.out
       rw [hs] at h1
       clear hs H2
       cases hq : (l3.any fun p => p.f1 == (kk : Int)) with
       | true =>
        rw [if_pos hq] at h1
        have H2 := Aside0.mk h1
        have HQ := Aside0.mk hq
        clear h1 hq
        go_wp2_with (go_at_call 67; refine (HXB.out _ _ kk (below_alloc (below_alloc HW.out _) _) (by simp)).mono ?_; rintro e w' ⟨rfl, hb⟩; rw [HQ.out]; have HBB := Aside0.mk (HB.out.trans ((((Below.refl _ _).alloc (Nat.le_refl _) _).alloc (by simp) _).trans (hb.mono (by simp; omega)) |>.mono HB.out.size)); clear hb)
        go_roundg (l1.length - (kk + 1))
        case measure => omega
        case rel => exact ⟨kk + 1, n, by omega, by omega, rfl, by go_num, H2, HBB⟩
       | false =>
        rw [if_neg (by rw [hq]; decide)] at h1
        have HQ := Aside0.mk hq
        clear hq
        by_cases hlab : 0 ≤ (rd_T77 l1 kk).f0 ∧ (rd_T77 l1 kk).f0 < (i.length : Int)
        case neg => rw [if_neg hlab] at h1; cases h1
        rw [if_pos hlab] at h1
        obtain ⟨hl0, hl1⟩ := hlab
        have H2 := Aside0.mk h1
        clear h1
        obtain ⟨ad2, e2, hy2⟩ := Kd.at_int HR3.out _ hl0 hl1
        cases e2
        have HY := Aside0.mk hy2
        clear hy2
        go_wp2_with (go_at_call 67; refine (HXB.out _ _ kk (below_alloc (below_alloc HW.out _) _) (by simp)).mono ?_; rintro e w' ⟨rfl, hb⟩; rw [HQ.out]; have hx2 := (hb.cell (p := ⟨wr.heap.size + 1, 0, none⟩) (by simp)).trans (newCell2 wr _ _ _ 0); have HBB := Aside0.mk (HB.out.trans ((((Below.refl _ _).alloc (Nat.le_refl _) _).alloc (by simp) _).trans (hb.mono (by simp; omega)) |>.mono HB.out.size)); have hx3 := (box3 HBB.out).2.1; have hx4 := pw_cell_below (((Below.refl w.heap.size w).alloc (Nat.le_refl _) _).trans (HBB.out.mono (by simp))) HY.out; clear hb)
        go_roundg (l1.length - (kk + 1))
        case measure => omega
        case rel => exact ⟨kk + 1, _, by omega, by omega, rfl, by go_num, H2, HBB⟩
      ·have hltz : ¬ (kk : Int) < (l1.length : Int) := by omega
       obtain rfl : kk = l1.length := by omega
       have hend := H2.out
       rw [List.drop_length] at hend
       obtain rfl := Option.some.inj hend
       clear hend H2
       go_wp2
       go_loopg [9, 68] l3.length (fun gg s9 s68 wr => ∃ (kk : Nat) (n : Int), kk ≤ l3.length ∧ l3.length - kk ≤ gg ∧ s9 = .int .i64 n ∧ s68 = .int .i64 kk ∧ Aside0 (mcRel k l0 l1 d i r (l3.drop kk) n = some res) ∧ Aside0 (Below (w.alloc (Obj.cells #[.slice A2 d.length c2, .slice A3 i.length c3, .slice A4 r.length c4] 27)).heap.size (w.alloc (Obj.cells #[.slice A2 d.length c2, .slice A3 i.length c3, .slice A4 r.length c4] 27)) wr))
       case atStart => exact ⟨0, _, Nat.zero_le _, by omega, rfl, rfl, H3, HB⟩
       case round =>
        clear H3 HB
        obtain ⟨kk, n, hkk, hg, rfl, rfl, H3, HB⟩ := hrel
        by_cases hlt : kk < l3.length
        ·have hltz : (kk : Int) < (l3.length : Int) := by omega
         have HW := Aside0.mk (((Below.refl w.heap.size w).alloc (Nat.le_refl _) (Obj.cells #[.slice A2 d.length c2, .slice A3 i.length c3, .slice A4 r.length c4] 27)).trans (HB.out.mono (by simp)))
         obtain ⟨ad, e, hx, hx1⟩ := at_T48 (Kd.C_below HR5.out HW.out) kk (by omega) (by omega)
         cases e
         rw [Int.toNat_natCast] at hx hx1
         have hs : mcRel k l0 l1 d i r (l3.drop kk) n = if (0 ≤ (rd_T48 l3 kk).f0 ∧ (rd_T48 l3 kk).f0 < (l0.length : Int)) ∧ 0 ≤ (rd_T48 l3 kk).f1 ∧ (rd_T48 l3 kk).f1 < (l1.length : Int) then (impl_RelCost.f k d i r (rd_T77 l0 (rd_T48 l3 kk).f0).f0 (rd_T77 l1 (rd_T48 l3 kk).f1).f0).bind fun t => mcRel k l0 l1 d i r (l3.drop (kk + 1)) (wrap64 (n + t)) else none := by
          rw [List.drop_eq_getElem_cons hlt, show rd_T48 l3 (kk : Int) = l3[kk] from by simp [rd_T48, List.getD_eq_getElem?_getD, List.getElem?_eq_getElem hlt]]
          rfl
         have h1 := H3.out
         rw [hs] at h1
         clear hs H3
         by_cases hlab : (0 ≤ (rd_T48 l3 kk).f0 ∧ (rd_T48 l3 kk).f0 < (l0.length : Int)) ∧ 0 ≤ (rd_T48 l3 kk).f1 ∧ (rd_T48 l3 kk).f1 < (l1.length : Int)
         case neg => rw [if_neg hlab] at h1; cases h1
         rw [if_pos hlab] at h1
         obtain ⟨⟨ha0, ha1⟩, hb0, hb1⟩ := hlab
         obtain ⟨t, ht, h1⟩ := Option.bind_eq_some_iff.mp h1
         have H3 := Aside0.mk h1
         have HT2 := Aside0.mk ht
         clear h1 ht
         obtain ⟨ada, ea, hya, hya1⟩ := at_T77 HR0.out (rd_T48 l3 kk).f0 ha0 ha1
         cases ea
         obtain ⟨adb, eb, hyb, hyb1⟩ := at_T77 HR1.out (rd_T48 l3 kk).f1 hb0 hb1
         cases eb
         have hcl : Below w.heap.size w (wr.alloc (Obj.cells #[.int .i64 (rd_T48 l3 kk).f0, .int .i64 (rd_T48 l3 kk).f1] 48)) := below_alloc HW.out _
         replace hya := pw_cell_below hcl hya
         replace hyb := pw_cell_below hcl hyb
         have HBB := HB.out.alloc HB.out.size (Obj.cells #[.int .i64 (rd_T48 l3 kk).f0, .int .i64 (rd_T48 l3 kk).f1] 48)
         have hz0 := (box3 HBB).1
         have hz1 := (box3 HBB).2.1
         have hz2 := (box3 HBB).2.2
         have HCL := Aside0.mk hcl
         have HBB := Aside0.mk HBB
         clear hcl hya1 hyb1
         go_upto_region 19 with (fail)
         refine start_ (n := 17) (S := fun w' => w'.cell? ⟨w.heap.size, 0, none⟩ = some (.slice A2 d.length c2) ∧ w'.cell? ⟨w.heap.size, 1, none⟩ = some (.slice A3 i.length c3) ∧ w'.cell? ⟨w.heap.size, 2, none⟩ = some (.slice A4 r.length c4) ∧ w'.cell? ⟨wr.heap.size, 0, none⟩ = some (.int .i64 (rd_T48 l3 kk).f0) ∧ w'.cell? ⟨wr.heap.size, 1, none⟩ = some (.int .i64 (rd_T48 l3 kk).f1) ∧ w'.cell? (ada.add (((rd_T48 l3 kk).f0).toNat * 2)) = some (.int .i64 (rd_T77 l0 (rd_T48 l3 kk).f0).f0) ∧ w'.cell? (adb.add (((rd_T48 l3 kk).f1).toNat * 2)) = some (.int .i64 (rd_T77 l1 (rd_T48 l3 kk).f1).f0)) (ds := []) (ba_ 17 0) (by kernel_rfl) rfl rfl ⟨hz0, hz1, hz2, by rw [World.cell?_drew, World.cell?_alloc_new]; rfl, by rw [World.cell?_drew, World.cell?_alloc_new]; rfl, hya, hyb⟩ (fun hHeld => ?_)
         refine pu_ 0 (some 72) (ba_ 17 1) rfl rfl (by kernel_rfl) ?_
         refine pu_ 2 (some 74) (ba_ 17 5) rfl rfl (by kernel_rfl) ?_
         refine pu_ 3 (some 75) (ba_ 17 13) rfl rfl (by kernel_rfl) ?_
         refine pu_ 8 (some 80) (ba_ 17 269) rfl rfl (by kernel_rfl) ?_
         refine pu_ 9 (some 81) (ba_ 17 781) rfl rfl (by kernel_rfl) ?_
         refine ta_ 1 (some 73) (ba_ 17 783) rfl rfl (by kernel_rfl) hHeld (by rintro w' ⟨s0, s1, s2, s3, s4, s5, s6⟩; go_simp; with_reducible rfl) ?_
         refine ta_ 4 (some 76) (ba_ 17 799) rfl rfl (by kernel_rfl) hHeld (by rintro w' ⟨s0, s1, s2, s3, s4, s5, s6⟩; go_simp; with_reducible rfl) ?_
         refine pu_ 5 (some 77) (ba_ 17 831) rfl rfl (by kernel_rfl) ?_
         refine pu_ 6 (some 78) (ba_ 17 895) rfl rfl (by kernel_rfl) ?_
         refine ta_ 7 (some 79) (ba_ 17 1023) rfl rfl (by kernel_rfl) hHeld (by rintro w' ⟨s0, s1, s2, s3, s4, s5, s6⟩; go_simp; with_reducible rfl) ?_
         refine ta_ 10 (some 82) (ba_ 17 2047) rfl rfl (by kernel_rfl) hHeld (by rintro w' ⟨s0, s1, s2, s3, s4, s5, s6⟩; go_simp; with_reducible rfl) ?_
         refine pu_ 11 (some 83) (ba_ 17 4095) rfl rfl (by kernel_rfl) ?_
         refine pu_ 12 (some 84) (ba_ 17 8191) rfl rfl (by kernel_rfl) ?_
         refine ta_ 13 (some 85) (ba_ 17 16383) rfl rfl (by kernel_rfl) hHeld (by rintro w' ⟨s0, s1, s2, s3, s4, s5, s6⟩; go_simp; with_reducible rfl) ?_
         refine one_ (i := 14) (N := some 86) (ba_ 17 32767) rfl rfl (by kernel_rfl) (by decide) (fun K hK => ?_)
         refine goes_ Try.func65 (by kernel_rfl) rfl #[.agg #[.slice A2 d.length c2, .slice A3 i.length c3, .slice A4 r.length c4], .int .i64 (rd_T77 l0 (rd_T48 l3 kk).f0).f0, .int .i64 (rd_T77 l1 (rd_T48 l3 kk).f1).f0] (by rfl) rfl rfl (by (try simp only [List.map_toArray, List.map_cons, List.map_nil]); first | done | rfl) ?_
         refine (HE.out _ _ t _ HT2.out ?hh).mono ?_
         case hh => exact below_drew HCL.out
         rintro e w21 ⟨rfl, hb⟩
         refine ⟨_, rfl, ?_⟩
         have HB3 := Aside0.mk ((below_drew HBB.out).trans (hb.mono (by simp; have := HB.out.size; simp at this; omega)))
         refine hK.out _ _ ⟨pw_cell_below hb hHeld.1, pw_cell_below hb hHeld.2.1, pw_cell_below hb hHeld.2.2.1, pw_cell_below hb hHeld.2.2.2.1, pw_cell_below hb hHeld.2.2.2.2.1, pw_cell_below hb hHeld.2.2.2.2.2.1, pw_cell_below hb hHeld.2.2.2.2.2.2⟩ (fun hHeld => ?_)
         clear hb
         clear hK K
         refine norm_ (a' := ?_) ?_ ?_
         rotate_left
         ·show Act.put _ (some 86) _ = _
          simp only [Act.put, List.setIfInBounds_toArray, List.set_cons_zero, List.set_cons_succ, i64_w, i32_w]
          rfl
         refine pu_ 15 (some 87) (ba_ 17 65535) rfl rfl (by kernel_rfl) ?_
         refine pu_ 16 (some 9) (ba_ 17 131071) rfl rfl (by kernel_rfl) ?_
         refine done_ (by kernel_rfl) ?_
         try go_wp2
         go_roundg (l3.length - (kk + 1))
         case measure => omega
         case rel => exact ⟨kk + 1, _, by omega, by omega, rfl, by go_num, H3, HB3⟩
        ·have hltz : ¬ (kk : Int) < (l3.length : Int) := by omega
         obtain rfl : kk = l3.length := by omega
         have hend := H3.out
         rw [List.drop_length] at hend
         obtain rfl := Option.some.inj hend
         clear hend H3
         go_wp2
         go_ret
         exact ⟨rfl, ((Below.refl _ _).alloc (Nat.le_refl _) _).trans (HB.out.mono (by simp))⟩
end Go.Proofs.Ytngphdmbjenkaaa.X
namespace Go.Proofs.Ytngphdmbjenkaaa.X
open Go.RowKit Go.Proofs.YtngphdmbjenkaaaW.PrintWords Go.Proofs.YtngphdmbjenkaaaW.PrintLast Go.Proofs.YtngphdmbjenkaaaW.PrintMore
attribute [local go_sem] max2_int min2_int max_two min_two max_three min_three max_four min_four   -- for this text's walks alone
set_option linter.unusedVariables false
set_option linter.unusedSimpArgs false
theorem eqA48 (d : Nat) (w : World) (x0 y0 : Int) (x1 y1 : Int) :
    (Op.equalIn (d + 2) 48 (.agg #[.int .i64 x0, .int .i64 x1]) (.agg #[.int .i64 y0, .int .i64 y1])).run Try.prog w = .ok (x0 == y0 && (x1 == y1)) w := by
  refine eqA_of Try.underlying48 (by kernel_rfl) ?_
  refine eqf_cons (by rfl) (by go_simp; rfl) (by go_simp; rfl) (by go_simp) ?_
  exact eqf_last (by rfl) (by go_simp; rfl) (by go_simp; rfl) (by go_simp)
end Go.Proofs.Ytngphdmbjenkaaa.X
namespace Go.Proofs.Ytngphdmbjenkaaa.X
open Go.RowKit Go.Proofs.YtngphdmbjenkaaaW.PrintWords Go.Proofs.YtngphdmbjenkaaaW.PrintLast Go.Proofs.YtngphdmbjenkaaaW.PrintMore
attribute [local go_sem] max2_int min2_int max_two min_two max_three min_three max_four min_four   -- for this text's walks alone
set_option linter.unusedVariables false
set_option linter.unusedSimpArgs false
attribute [local go_sem high] eqA48
def spec_RootsPaired.f (l0 : List (S48)) : Option (Bool) := if (l0.length : Int) > 0 then (if 0 < (l0.length : Int) then (some (((rd_T48 l0 0).f0) == 0 && (((rd_T48 l0 0).f1) == 0))) else (none)) else (some false)
set_option maxHeartbeats 8000000 in
set_option maxRecDepth 100000 in
theorem spec_RootsPaired.calls (A0 : Option Addr) (c0 : Nat) (l0 : List (S48)) (r : Bool) (w : World) (hr0 : Kd.C k48 w A0 l0.length l0) (hc0 : l0.length ≤ c0) (h : spec_RootsPaired.f l0 = some r) :
  Calls Try.prog 21 #[.slice A0 l0.length c0] w fun e w' => e = .returned (.bool r) ∧ Drawn0 w w' := by
 have hu48 := Try.underlying48
 have HR0 := Aside0.mk hr0
 have HC0 := Aside0.mk hc0
 clear hr0 hc0
 have H : (if (l0.length : Int) > 0 then (if 0 < (l0.length : Int) then (some (((rd_T48 l0 0).f0) == 0 && (((rd_T48 l0 0).f1) == 0))) else (none)) else (some false)) = some r := h
 clear h
 by_cases c2 : (l0.length : Int) > 0
 ·rw [if_pos c2] at H
  have c2b0 : decide (0 < (l0.length : Int)) = true := decide_eq_true c2
  have c2b1 : decide (0 < l0.length) = true := decide_eq_true (by omega)
  clear c2
  by_cases c3 : 0 < (l0.length : Int)
  ·rw [if_pos c3] at H
   have c3b0 : decide (0 < (l0.length : Int)) = true := decide_eq_true c3
   have c3b1 : decide (0 < l0.length) = true := decide_eq_true (by omega)
   clear c3
   obtain rfl := Option.some.inj H
   have p625 : 0 ≤ (0 : Int) := (by omega)
   have q625 : 0 < (l0.length : Int) := od_
   obtain ⟨ad625, e625, hx625_0, hx625_1⟩ := at_T48 HR0.out 0 p625 q625
   cases e625
   have qi625 : (0 < l0.length) = True := eq_true (by omega)
   (try rw [show ((0 : Int)).toNat = 0 from rfl] at hx625_0)
   (try rw [show 0 * 2 = 0 from rfl] at hx625_0)
   (try rw [Addr.add_zero'] at hx625_0)
   (try rw [show ((0 : Int)).toNat = 0 from rfl] at hx625_1)
   (try rw [show 0 * 2 = 0 from rfl] at hx625_1)
   (try rw [Addr.add_zero'] at hx625_1)
   replace p625 := eq_true p625
   replace q625 := eq_true q625
   go_enter Try.func21, Try.ntmps21
   go_wp2
   go_ret
   exact ⟨by first | rfl | (simp; done) | (simp [*]; done), by repeat (first | exact Drawn0.refl _ | apply Drawn0.step)⟩
  ·rw [if_neg c3] at H
   exact absurd H (by simp)
 ·rw [if_neg c2] at H
  have c2b0 : decide (0 < (l0.length : Int)) = false := decide_eq_false c2
  have c2b1 : decide (0 < l0.length) = false := decide_eq_false (by omega)
  clear c2
  obtain rfl := Option.some.inj H
  go_enter Try.func21, Try.ntmps21
  go_wp2
  go_ret
  exact ⟨by first | rfl | (simp; done) | (simp [*]; done), by repeat (first | exact Drawn0.refl _ | apply Drawn0.step)⟩
end Go.Proofs.Ytngphdmbjenkaaa.X
