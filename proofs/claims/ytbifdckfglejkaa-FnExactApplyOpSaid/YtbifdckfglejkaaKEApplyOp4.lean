/- Part 4 of the proof of FnExactApplyOp: what it needs. -/
import Derived.Test.YtbifdckfglejkaaKEApplyOp3
namespace Go.Proofs.Ytbifdckfglejkaa.X
open Go.RowKit Go.Proofs.YtbifdckfglejkaaW.PrintWords Go.Proofs.YtbifdckfglejkaaW.PrintLast Go.Proofs.YtbifdckfglejkaaW.PrintMore
attribute [local go_sem] max2_int min2_int max_two min_two max_three min_three max_four min_four   -- for this text's walks alone
set_option linter.unusedVariables false
set_option linter.unusedSimpArgs false
mutual
def spec_l13Code.j0 : Nat → List (S90) → Int → Bool → Int → List Int → Int → Int → Int → Option (Int × Int × Int)
 | 0, _, _, _, _, _, _, _, _ => none
 | k + 1, x0, x2, x22, x849000, x849001, x849002, x849003, x849004 => if x22 = true then (some (3, 0, 0)) else (if x849000 = 2 then (spec_l13Code.j1 k x0 x2 (x2 == 0) x849000 x849001 x849002 x849003 x849004) else (spec_l13Code.j1 k x0 x2 false x849000 x849001 x849002 x849003 x849004))
def spec_l13Code.j1 : Nat → List (S90) → Int → Bool → Int → List Int → Int → Int → Int → Option (Int × Int × Int)
 | 0, _, _, _, _, _, _, _, _ => none
 | k + 1, x0, x2, x32, x849000, x849001, x849002, x849003, x849004 => if x32 = true then (some (4, 0, 0)) else (if x849000 = 3 then ((spec_KidsOf.f k x0 x2).bind fun t851 => ((spec_l1In.f x849003 0 (t851.length : Int)).bind fun t854 => (if t854 = true then ((spec_l1In.f x849004 0 (wrap64 ((t851.length : Int) - x849003))).bind fun t855 => (spec_l13Code.j2 k x0 x2 t851 (!t855) x849000 x849001 x849002 x849003 x849004)) else (spec_l13Code.j2 k x0 x2 t851 true x849000 x849001 x849002 x849003 x849004)))) else (some (0, 0, 0)))
def spec_l13Code.j2 : Nat → List (S90) → Int → List Int → Bool → Int → List Int → Int → Int → Int → Option (Int × Int × Int)
 | 0, _, _, _, _, _, _, _, _, _ => none
 | k + 1, x0, x2, x9, x63, x849000, x849001, x849002, x849003, x849004 => if x63 = true then (some (5, 0, 0)) else ((spec_EndOf.f k x0 x2).bind fun t856 => (if x9.length < 17592186044416 then ((some (x9 ++ [t856] : List Int)).bind fun y857 => (if 0 ≤ x849003 then (if x849003 < (y857.length : Int) then (if 0 ≤ (wrap64 (x849003 + x849004)) then (if (wrap64 (x849003 + x849004)) < (y857.length : Int) then (if (x0.length : Int) = 24 then (some (6, 0, 0)) else (if 0 ≤ x2 then (if x2 < (x0.length : Int) then (spec_l13Code.l0 k x0 (rd y857 x849003) (rd y857 (wrap64 (x849003 + x849004))) (wrap64 (((rd_T90 x0 x2).f1) + 1)) (rd y857 x849003)) else (none)) else (none))) else (none)) else (none)) else (none)) else (none))) else (none)))
def spec_l13Code.l0 : Nat → List (S90) → Int → Int → Int → Int → Option (Int × Int × Int)
 | 0, _, _, _, _, _ => none
 | k + 1, x0, x10, x11, x12, x13 => if x13 < x11 then (if 0 ≤ x13 then (if x13 < (x0.length : Int) then (spec_l13Code.l0 k x0 x10 x11 (mx x12 (wrap64 (((rd_T90 x0 x13).f1) + 1))) (wrap64 (x13 + 1))) else (none)) else (none)) else (if x12 > 12 then (some (7, 0, 0)) else (some (0, x10, x11)))
end
def spec_l13Code.f (k : Nat) (l0 : List (S90)) (a1_0 : Int) (l1_1 : List Int) (a1_2 : Int) (a1_3 : Int) (a1_4 : Int) (a2 : Int) : Option (Int × Int × Int) := (spec_l1In.f a1_0 1 3).bind fun t849 => (if t849 = true then (if a2 < 0 then (some (2, 0, 0)) else (if a1_0 = 2 then (spec_l13Code.j0 k l0 a2 false a1_0 l1_1 a1_2 a1_3 a1_4) else ((spec_LabelOk.f a1_2).bind fun t850 => (spec_l13Code.j0 k l0 a2 (!t850) a1_0 l1_1 a1_2 a1_3 a1_4)))) else (some (1, 0, 0)))
set_option maxHeartbeats 8000000 in
set_option maxRecDepth 100000 in
theorem spec_l13Code.calls (k : Nat) (A0 : Option Addr) (c0 : Nat) (l0 : List (S90)) (a1_0 : Int) (A1_1 : Option Addr) (c1_1 : Nat) (l1_1 : List Int) (a1_2 : Int) (a1_3 : Int) (a1_4 : Int) (a2 : Int) (r1 : Int) (r2 : Int) (r3 : Int) (w : World) (hr0 : Kd.C k90 w A0 l0.length l0) (hc0 : l0.length ≤ c0) (hr1_1 : Kd.C (Kd.int .i64) w A1_1 l1_1.length l1_1) (hc1_1 : l1_1.length ≤ c1_1) (h : spec_l13Code.f k l0 a1_0 l1_1 a1_2 a1_3 a1_4 a2 = some (r1, r2, r3)) :
  Calls Try.prog 99 #[.slice A0 l0.length c0, .agg #[.int .i64 a1_0, .slice A1_1 l1_1.length c1_1, .int .i64 a1_2, .int .i64 a1_3, .int .i64 a1_4], .int .i64 a2] w fun e w' => e = .returned (.tuple #[.int .i64 r1, .int .i64 r2, .int .i64 r3]) ∧ Below w.heap.size w w' := by
 have hu67 := Try.underlying67
 have HR0 := Aside0.mk hr0
 have HC0 := Aside0.mk hc0
 clear hr0 hc0
 have HR1_1 := Aside0.mk hr1_1
 have HC1_1 := Aside0.mk hc1_1
 clear hr1_1 hc1_1
 have HB := Aside0.mk (Below.refl w.heap.size w)
 have H : ((spec_l1In.f a1_0 1 3).bind fun t849 => (if t849 = true then (if a2 < 0 then (some (2, 0, 0)) else (if a1_0 = 2 then (spec_l13Code.j0 k l0 a2 false a1_0 l1_1 a1_2 a1_3 a1_4) else ((spec_LabelOk.f a1_2).bind fun t850 => (spec_l13Code.j0 k l0 a2 (!t850) a1_0 l1_1 a1_2 a1_3 a1_4)))) else (some (1, 0, 0)))) = some (r1, r2, r3) := h
 clear h
 replace H := Option.bind_eq_some_iff.mp H
 obtain ⟨t849, A40, H⟩ := H
 replace H : (if t849 = true then (if a2 < 0 then (some (2, 0, 0)) else (if a1_0 = 2 then (spec_l13Code.j0 k l0 a2 false a1_0 l1_1 a1_2 a1_3 a1_4) else ((spec_LabelOk.f a1_2).bind fun t850 => (spec_l13Code.j0 k l0 a2 (!t850) a1_0 l1_1 a1_2 a1_3 a1_4)))) else (some (1, 0, 0))) = some (r1, r2, r3) := H
 have A4 := Aside0.mk A40
 clear A40
 by_cases c5 : t849 = true
 ·subst c5
  have H1 : (if a2 < 0 then (some (2, 0, 0)) else (if a1_0 = 2 then (spec_l13Code.j0 k l0 a2 false a1_0 l1_1 a1_2 a1_3 a1_4) else ((spec_LabelOk.f a1_2).bind fun t850 => (spec_l13Code.j0 k l0 a2 (!t850) a1_0 l1_1 a1_2 a1_3 a1_4)))) = some (r1, r2, r3) := by rw [if_pos rfl] at H; exact H
  clear H
  have H := H1
  clear H1
  by_cases c6 : a2 < 0
  ·rw [if_pos c6] at H
   have c6b0 : decide (a2 < 0) = true := decide_eq_true c6
   clear c6
   simp only [Option.some.injEq, Prod.mk.injEq] at H
   obtain ⟨rfl, rfl, rfl⟩ := H
   go_enter Try.func99, Try.ntmps99
   go_wp2_with (first | ((with_reducible refine gate_dst (N := 4) rfl ?_); (try (refine gate_guard (by rfl) ?_; dsimp only)); refine box_event ?hg (N := 4) ?hd (cs := #[.int .i64 a1_0, .slice A1_1 l1_1.length c1_1, .int .i64 a1_2, .int .i64 a1_3, .int .i64 a1_4]) (t := 67) ?hr ?_; (case hd => rfl); (case hg => rfl); (case hr => first | (go_simp; done) | (go_simp; rfl)); intro gb848 hg w7 hbox hb; have n0_ := Aside0.mk (below_step (by repeat (first | (with_reducible first | exact HB.out | apply below_alloc | apply pw_below_drewN | apply below_drew1) | exact HB.out)) hb); have n1_ := Aside0.mk (hbox); have n2_ := Aside0.mk ((by rw [hg]; exact (below_size (by repeat (first | (with_reducible first | exact HB.out | apply below_alloc | apply pw_below_drewN | apply below_drew1) | exact HB.out))) : w.heap.size ≤ gb848)); have n3_ := Aside0.mk ((by rw [hg]; exact (below_size (by repeat (first | (with_reducible first | exact HB.out | apply below_alloc | apply pw_below_drewN | apply below_drew1) | exact HB.out))) : w.heap.size ≤ gb848)); clear HB; have HB := n0_; have BK848 := n1_; have GW848 := n2_; have GE848 := n3_; clear n0_ n1_ n2_ n3_; clear hb hbox hg; have hcz8_0 : w7.cell? ⟨gb848, 0, none⟩ = some (.int .i64 a1_0) := (blk_cell BK848.out 0).trans rfl; have hcz8_1 : w7.cell? ⟨gb848, 1, none⟩ = some (.slice A1_1 l1_1.length c1_1) := (blk_cell BK848.out 1).trans rfl; have hcz8_2 : w7.cell? ⟨gb848, 2, none⟩ = some (.int .i64 a1_2) := (blk_cell BK848.out 2).trans rfl; have hcz8_3 : w7.cell? ⟨gb848, 3, none⟩ = some (.int .i64 a1_3) := (blk_cell BK848.out 3).trans rfl; have hcz8_4 : w7.cell? ⟨gb848, 4, none⟩ = some (.int .i64 a1_4) := (blk_cell BK848.out 4).trans rfl; have hfz8_0 := blk_frozen BK848.out 0; have hfz8_1 := blk_frozen BK848.out 1; have hfz8_2 := blk_frozen BK848.out 2; have hfz8_3 := blk_frozen BK848.out 3; have hfz8_4 := blk_frozen BK848.out 4) | ((with_reducible refine gate_callee (f := 67) rfl ?_); refine goesL_ (some 17) rfl rfl Try.func67 (by kernel_rfl) rfl #[.int .i64 a1_0, .int .i64 1, .int .i64 3] rfl (by (try simp only [List.map_toArray, List.map_cons, List.map_nil]); first | done | rfl | (simp only [List.length_drop, List.length_take]; rfl)) ?_; (with_reducible refine (spec_l1In.calls a1_0 1 3 true _ A4.out).mono ?_); rintro e w' ⟨rfl, ⟨nd, rfl⟩⟩; refine ⟨_, rfl, ?_⟩))
   go_ret3
   exact ⟨by first | rfl | (simp [errW_none, errW_some] <;> rfl) | (simp [*, errW_none, errW_some] <;> rfl), by repeat (first | (with_reducible first | exact HB.out | apply below_alloc | apply pw_below_drewN | apply below_drew1 | refine below_set ?_ GE848.out) | exact HB.out)⟩
  ·rw [if_neg c6] at H
   have c6b0 : decide (a2 < 0) = false := decide_eq_false c6
   clear c6
   have HC9 := Aside0.mk H
   clear H
   go_enter Try.func99, Try.ntmps99
   go_upto_region 5 with (first | ((with_reducible refine gate_dst (N := 4) rfl ?_); (try (refine gate_guard (by rfl) ?_; dsimp only)); refine box_event ?hg (N := 4) ?hd (cs := #[.int .i64 a1_0, .slice A1_1 l1_1.length c1_1, .int .i64 a1_2, .int .i64 a1_3, .int .i64 a1_4]) (t := 67) ?hr ?_; (case hd => rfl); (case hg => rfl); (case hr => first | (go_simp; done) | (go_simp; rfl)); intro gb848 hg w10 hbox hb; have n0_ := Aside0.mk (below_step (by repeat (first | (with_reducible first | exact HB.out | apply below_alloc | apply pw_below_drewN | apply below_drew1) | exact HB.out)) hb); have n1_ := Aside0.mk (hbox); have n2_ := Aside0.mk ((by rw [hg]; exact (below_size (by repeat (first | (with_reducible first | exact HB.out | apply below_alloc | apply pw_below_drewN | apply below_drew1) | exact HB.out))) : w.heap.size ≤ gb848)); have n3_ := Aside0.mk ((by rw [hg]; exact (below_size (by repeat (first | (with_reducible first | exact HB.out | apply below_alloc | apply pw_below_drewN | apply below_drew1) | exact HB.out))) : w.heap.size ≤ gb848)); clear HB; have HB := n0_; have BK848 := n1_; have GW848 := n2_; have GE848 := n3_; clear n0_ n1_ n2_ n3_; clear hb hbox hg; have hcz11_0 : w10.cell? ⟨gb848, 0, none⟩ = some (.int .i64 a1_0) := (blk_cell BK848.out 0).trans rfl; have hcz11_1 : w10.cell? ⟨gb848, 1, none⟩ = some (.slice A1_1 l1_1.length c1_1) := (blk_cell BK848.out 1).trans rfl; have hcz11_2 : w10.cell? ⟨gb848, 2, none⟩ = some (.int .i64 a1_2) := (blk_cell BK848.out 2).trans rfl; have hcz11_3 : w10.cell? ⟨gb848, 3, none⟩ = some (.int .i64 a1_3) := (blk_cell BK848.out 3).trans rfl; have hcz11_4 : w10.cell? ⟨gb848, 4, none⟩ = some (.int .i64 a1_4) := (blk_cell BK848.out 4).trans rfl; have hfz11_0 := blk_frozen BK848.out 0; have hfz11_1 := blk_frozen BK848.out 1; have hfz11_2 := blk_frozen BK848.out 2; have hfz11_3 := blk_frozen BK848.out 3; have hfz11_4 := blk_frozen BK848.out 4) | ((with_reducible refine gate_callee (f := 67) rfl ?_); refine goesL_ (some 17) rfl rfl Try.func67 (by kernel_rfl) rfl #[.int .i64 a1_0, .int .i64 1, .int .i64 3] rfl (by (try simp only [List.map_toArray, List.map_cons, List.map_nil]); first | done | rfl | (simp only [List.length_drop, List.length_take]; rfl)) ?_; (with_reducible refine (spec_l1In.calls a1_0 1 3 true _ A4.out).mono ?_); rintro e w' ⟨rfl, ⟨nd, rfl⟩⟩; refine ⟨_, rfl, ?_⟩))
   (try simp only [Act.put, List.setIfInBounds_toArray, List.set_cons_zero, List.set_cons_succ])
   go_cut [22] (fun v22 wc => ∃ (kq : Nat) (x22_8 : Bool), v22 = .bool x22_8 ∧ Aside0 (spec_l13Code.j0 kq l0 a2 x22_8 a1_0 l1_1 a1_2 a1_3 a1_4 = some (r1, r2, r3)) ∧ Aside0 (kq ≤ k) ∧ Aside0 (wc.heap[gb848]? = some (.cells #[.int .i64 a1_0, (.slice A1_1 l1_1.length c1_1), .int .i64 a1_2, .int .i64 a1_3, .int .i64 a1_4] 67 (0, 0))) ∧ Aside0 (Below w.heap.size w wc))
   case first =>
    have H := HC9.out
    clear HC9
    by_cases c12 : a1_0 = 2
    ·rw [if_pos c12] at H
     have c12b0 : (a1_0 == 2) = true := beq_iff_eq.mpr c12
     have c12b1 : (a1_0 != 2) = false := bne_eq_false_iff_eq.mpr c12
     clear c12
     (first | rw [c12b0] | (simp only [i64_w, i32_w]; rw [c12b0]) | skip)
     have H' := Aside0.mk H
     clear H
     have hcz13_0 : w10.cell? ⟨gb848, 0, none⟩ = some (.int .i64 a1_0) := (blk_cell BK848.out 0).trans rfl
     have hcz13_1 : w10.cell? ⟨gb848, 1, none⟩ = some (.slice A1_1 l1_1.length c1_1) := (blk_cell BK848.out 1).trans rfl
     have hcz13_2 : w10.cell? ⟨gb848, 2, none⟩ = some (.int .i64 a1_2) := (blk_cell BK848.out 2).trans rfl
     have hcz13_3 : w10.cell? ⟨gb848, 3, none⟩ = some (.int .i64 a1_3) := (blk_cell BK848.out 3).trans rfl
     have hcz13_4 : w10.cell? ⟨gb848, 4, none⟩ = some (.int .i64 a1_4) := (blk_cell BK848.out 4).trans rfl
     have hfz13_0 := blk_frozen BK848.out 0
     have hfz13_1 := blk_frozen BK848.out 1
     have hfz13_2 := blk_frozen BK848.out 2
     have hfz13_3 := blk_frozen BK848.out 3
     have hfz13_4 := blk_frozen BK848.out 4
     go_wp2
     go_meet
     case rel => exact ⟨_, (false), (by first | rfl | (simp; done) | (simp [*]; done)), H', ⟨by first | omega | exact Nat.le_refl _⟩, ⟨by (with_reducible repeat (first | refine blk_drewN ?_ _ | refine blk_drew ?_ | refine blk_alloc ?_ _)); exact BK848.out⟩, ⟨by repeat (first | (with_reducible first | exact HB.out | apply below_alloc | apply pw_below_drewN | apply below_drew1 | refine below_set ?_ GE848.out) | exact HB.out)⟩⟩
    ·rw [if_neg c12] at H
     have c12b0 : (a1_0 == 2) = false := beq_eq_false_iff_ne.mpr c12
     have c12b1 : (a1_0 != 2) = true := bne_iff_ne.mpr c12
     (first | rw [c12b0] | (simp only [i64_w, i32_w]; rw [c12b0]) | skip)
     replace H := Option.bind_eq_some_iff.mp H
     obtain ⟨t850, A140, H⟩ := H
     replace H : (spec_l13Code.j0 k l0 a2 (!t850) a1_0 l1_1 a1_2 a1_3 a1_4) = some (r1, r2, r3) := H
     have A14 := Aside0.mk A140
     clear A140
     have H' := Aside0.mk H
     clear H
     have hcz15_0 : w10.cell? ⟨gb848, 0, none⟩ = some (.int .i64 a1_0) := (blk_cell BK848.out 0).trans rfl
     have hcz15_1 : w10.cell? ⟨gb848, 1, none⟩ = some (.slice A1_1 l1_1.length c1_1) := (blk_cell BK848.out 1).trans rfl
     have hcz15_2 : w10.cell? ⟨gb848, 2, none⟩ = some (.int .i64 a1_2) := (blk_cell BK848.out 2).trans rfl
     have hcz15_3 : w10.cell? ⟨gb848, 3, none⟩ = some (.int .i64 a1_3) := (blk_cell BK848.out 3).trans rfl
     have hcz15_4 : w10.cell? ⟨gb848, 4, none⟩ = some (.int .i64 a1_4) := (blk_cell BK848.out 4).trans rfl
     have hfz15_0 := blk_frozen BK848.out 0
     have hfz15_1 := blk_frozen BK848.out 1
     have hfz15_2 := blk_frozen BK848.out 2
     have hfz15_3 := blk_frozen BK848.out 3
     have hfz15_4 := blk_frozen BK848.out 4
     go_wp2_with (first | (go_at_call 69; (with_reducible refine (spec_LabelOk.calls a1_2 t850 _ A14.out).mono ?_); rintro e w' ⟨rfl, ⟨nd, rfl⟩⟩))
     go_meet
     case rel => exact ⟨_, (!t850), (by first | rfl | (simp; done) | (simp [*]; done)), H', ⟨by first | omega | exact Nat.le_refl _⟩, ⟨by (with_reducible repeat (first | refine blk_drewN ?_ _ | refine blk_drew ?_ | refine blk_alloc ?_ _)); exact BK848.out⟩, ⟨by repeat (first | (with_reducible first | exact HB.out | apply below_alloc | apply pw_below_drewN | apply below_drew1 | refine below_set ?_ GE848.out) | exact HB.out)⟩⟩
   case rest =>
    clear HC9
    try clear c1
    try clear p2
    try clear c5
    try clear c6
    try clear c6b0
    try clear c9
    try clear c12
    try clear c12b0
    try clear c12b1
    try clear hcz11_0
    try clear hcz11_1
    try clear hcz11_2
    try clear hcz11_3
    try clear hcz11_4
    try clear hcz13_0
    try clear hcz13_1
    try clear hcz13_2
    try clear hcz13_3
    try clear hcz13_4
    try clear hcz15_0
    try clear hcz15_1
    try clear hcz15_2
    try clear hcz15_3
    try clear hcz15_4
    try clear hcz8_0
    try clear hcz8_1
    try clear hcz8_2
    try clear hcz8_3
    try clear hcz8_4
    try clear hfz11_0
    try clear hfz11_1
    try clear hfz11_2
    try clear hfz11_3
    try clear hfz11_4
    try clear hfz13_0
    try clear hfz13_1
    try clear hfz13_2
    try clear hfz13_3
    try clear hfz13_4
    try clear hfz15_0
    try clear hfz15_1
    try clear hfz15_2
    try clear hfz15_3
    try clear hfz15_4
    try clear hfz8_0
    try clear hfz8_1
    try clear hfz8_2
    try clear hfz8_3
    try clear hfz8_4
    obtain ⟨kq, x22_8, rfl, HA, HJ8, BK848, HB⟩ := hcut
    cases kq with
    | zero => exact absurd HA.out (by simp [spec_l13Code.j0])
    | succ kj8 =>
     have H := HA.out
     clear HA
     simp only [spec_l13Code.j0] at H
     by_cases c16 : x22_8 = true
     ·subst c16
      have H1 : (some (3, 0, 0)) = some (r1, r2, r3) := by rw [if_pos rfl] at H; exact H
      clear H
      have H := H1
      clear H1
      simp only [Option.some.injEq, Prod.mk.injEq] at H
      obtain ⟨rfl, rfl, rfl⟩ := H
      go_wp2
      go_ret3
      exact ⟨by first | rfl | (simp [errW_none, errW_some] <;> rfl) | (simp [*, errW_none, errW_some] <;> rfl), by repeat (first | (with_reducible first | exact HB.out | apply below_alloc | apply pw_below_drewN | apply below_drew1 | refine below_set ?_ GE848.out) | exact HB.out)⟩
     ·replace c16 := Bool.eq_false_iff.mpr c16
      subst c16
      have H1 : (if a1_0 = 2 then (spec_l13Code.j1 kj8 l0 a2 (a2 == 0) a1_0 l1_1 a1_2 a1_3 a1_4) else (spec_l13Code.j1 kj8 l0 a2 false a1_0 l1_1 a1_2 a1_3 a1_4)) = some (r1, r2, r3) := by rw [if_neg (show ¬ (false = true) by decide)] at H; exact H
      clear H
      have H := H1
      clear H1
      have HC17 := Aside0.mk H
      clear H
      go_upto_region 7 with (fail)
      go_cut [32] (fun v32 wc => ∃ (kq : Nat) (x32_16 : Bool), v32 = .bool x32_16 ∧ Aside0 (spec_l13Code.j1 kq l0 a2 x32_16 a1_0 l1_1 a1_2 a1_3 a1_4 = some (r1, r2, r3)) ∧ Aside0 (kq ≤ kj8) ∧ Aside0 (wc.heap[gb848]? = some (.cells #[.int .i64 a1_0, (.slice A1_1 l1_1.length c1_1), .int .i64 a1_2, .int .i64 a1_3, .int .i64 a1_4] 67 (0, 0))) ∧ Aside0 (Below w.heap.size w wc))
      case first =>
       have H := HC17.out
       clear HC17
       by_cases c18 : a1_0 = 2
       ·rw [if_pos c18] at H
        have c18b0 : (a1_0 == 2) = true := beq_iff_eq.mpr c18
        have c18b1 : (a1_0 != 2) = false := bne_eq_false_iff_eq.mpr c18
        clear c18
        (first | rw [c18b0] | (simp only [i64_w, i32_w]; rw [c18b0]) | skip)
        have H' := Aside0.mk H
        clear H
        have hcz19_0 : wc.cell? ⟨gb848, 0, none⟩ = some (.int .i64 a1_0) := (blk_cell BK848.out 0).trans rfl
        have hcz19_1 : wc.cell? ⟨gb848, 1, none⟩ = some (.slice A1_1 l1_1.length c1_1) := (blk_cell BK848.out 1).trans rfl
        have hcz19_2 : wc.cell? ⟨gb848, 2, none⟩ = some (.int .i64 a1_2) := (blk_cell BK848.out 2).trans rfl
        have hcz19_3 : wc.cell? ⟨gb848, 3, none⟩ = some (.int .i64 a1_3) := (blk_cell BK848.out 3).trans rfl
        have hcz19_4 : wc.cell? ⟨gb848, 4, none⟩ = some (.int .i64 a1_4) := (blk_cell BK848.out 4).trans rfl
        have hfz19_0 := blk_frozen BK848.out 0
        have hfz19_1 := blk_frozen BK848.out 1
        have hfz19_2 := blk_frozen BK848.out 2
        have hfz19_3 := blk_frozen BK848.out 3
        have hfz19_4 := blk_frozen BK848.out 4
        go_wp2
        go_meet
        case rel => exact ⟨_, ((a2 == 0)), (by first | rfl | (simp; done) | (simp [*]; done)), H', ⟨by have := HJ8.out; first | omega | exact Nat.le_refl _⟩, ⟨by (with_reducible repeat (first | refine blk_drewN ?_ _ | refine blk_drew ?_ | refine blk_alloc ?_ _)); exact BK848.out⟩, ⟨by repeat (first | (with_reducible first | exact HB.out | apply below_alloc | apply pw_below_drewN | apply below_drew1 | refine below_set ?_ GE848.out) | exact HB.out)⟩⟩
       ·rw [if_neg c18] at H
        have c18b0 : (a1_0 == 2) = false := beq_eq_false_iff_ne.mpr c18
        have c18b1 : (a1_0 != 2) = true := bne_iff_ne.mpr c18
        (first | rw [c18b0] | (simp only [i64_w, i32_w]; rw [c18b0]) | skip)
        have H' := Aside0.mk H
        clear H
        have hcz20_0 : wc.cell? ⟨gb848, 0, none⟩ = some (.int .i64 a1_0) := (blk_cell BK848.out 0).trans rfl
        have hcz20_1 : wc.cell? ⟨gb848, 1, none⟩ = some (.slice A1_1 l1_1.length c1_1) := (blk_cell BK848.out 1).trans rfl
        have hcz20_2 : wc.cell? ⟨gb848, 2, none⟩ = some (.int .i64 a1_2) := (blk_cell BK848.out 2).trans rfl
        have hcz20_3 : wc.cell? ⟨gb848, 3, none⟩ = some (.int .i64 a1_3) := (blk_cell BK848.out 3).trans rfl
        have hcz20_4 : wc.cell? ⟨gb848, 4, none⟩ = some (.int .i64 a1_4) := (blk_cell BK848.out 4).trans rfl
        have hfz20_0 := blk_frozen BK848.out 0
        have hfz20_1 := blk_frozen BK848.out 1
        have hfz20_2 := blk_frozen BK848.out 2
        have hfz20_3 := blk_frozen BK848.out 3
        have hfz20_4 := blk_frozen BK848.out 4
        go_wp2
        go_meet
        case rel => exact ⟨_, (false), (by first | rfl | (simp; done) | (simp [*]; done)), H', ⟨by have := HJ8.out; first | omega | exact Nat.le_refl _⟩, ⟨by (with_reducible repeat (first | refine blk_drewN ?_ _ | refine blk_drew ?_ | refine blk_alloc ?_ _)); exact BK848.out⟩, ⟨by repeat (first | (with_reducible first | exact HB.out | apply below_alloc | apply pw_below_drewN | apply below_drew1 | refine below_set ?_ GE848.out) | exact HB.out)⟩⟩
      case rest =>
       clear HC17
       try clear c1
       try clear p2
       try clear c5
       try clear c6
       try clear c6b0
       try clear c9
       try clear c12
       try clear c12b0
       try clear c12b1
       try clear c16
       try clear c18
       try clear c18b0
       try clear c18b1
       try clear hcz11_0
       try clear hcz11_1
       try clear hcz11_2
       try clear hcz11_3
       try clear hcz11_4
       try clear hcz13_0
       try clear hcz13_1
       try clear hcz13_2
       try clear hcz13_3
       try clear hcz13_4
       try clear hcz15_0
       try clear hcz15_1
       try clear hcz15_2
       try clear hcz15_3
       try clear hcz15_4
       try clear hcz19_0
       try clear hcz19_1
       try clear hcz19_2
       try clear hcz19_3
       try clear hcz19_4
       try clear hcz20_0
       try clear hcz20_1
       try clear hcz20_2
       try clear hcz20_3
       try clear hcz20_4
       try clear hcz8_0
       try clear hcz8_1
       try clear hcz8_2
       try clear hcz8_3
       try clear hcz8_4
       try clear hfz11_0
       try clear hfz11_1
       try clear hfz11_2
       try clear hfz11_3
       try clear hfz11_4
       try clear hfz13_0
       try clear hfz13_1
       try clear hfz13_2
       try clear hfz13_3
       try clear hfz13_4
       try clear hfz15_0
       try clear hfz15_1
       try clear hfz15_2
       try clear hfz15_3
       try clear hfz15_4
       try clear hfz19_0
       try clear hfz19_1
       try clear hfz19_2
       try clear hfz19_3
       try clear hfz19_4
       try clear hfz20_0
       try clear hfz20_1
       try clear hfz20_2
       try clear hfz20_3
       try clear hfz20_4
       try clear hfz8_0
       try clear hfz8_1
       try clear hfz8_2
       try clear hfz8_3
       try clear hfz8_4
       try clear p2
       obtain ⟨kq, x32_16, rfl, HA, HJ16, BK848, HB⟩ := hcut
       cases kq with
       | zero => exact absurd HA.out (by simp [spec_l13Code.j1])
       | succ kj16 =>
        have H := HA.out
        clear HA
        simp only [spec_l13Code.j1] at H
        by_cases c21 : x32_16 = true
        ·subst c21
         have H1 : (some (4, 0, 0)) = some (r1, r2, r3) := by rw [if_pos rfl] at H; exact H
         clear H
         have H := H1
         clear H1
         simp only [Option.some.injEq, Prod.mk.injEq] at H
         obtain ⟨rfl, rfl, rfl⟩ := H
         go_wp2
         go_ret3
         exact ⟨by first | rfl | (simp [errW_none, errW_some] <;> rfl) | (simp [*, errW_none, errW_some] <;> rfl), by repeat (first | (with_reducible first | exact HB.out | apply below_alloc | apply pw_below_drewN | apply below_drew1 | refine below_set ?_ GE848.out) | exact HB.out)⟩
        ·replace c21 := Bool.eq_false_iff.mpr c21
         subst c21
         have H1 : (if a1_0 = 3 then ((spec_KidsOf.f kj16 l0 a2).bind fun t851 => ((spec_l1In.f a1_3 0 (t851.length : Int)).bind fun t854 => (if t854 = true then ((spec_l1In.f a1_4 0 (wrap64 ((t851.length : Int) - a1_3))).bind fun t855 => (spec_l13Code.j2 kj16 l0 a2 t851 (!t855) a1_0 l1_1 a1_2 a1_3 a1_4)) else (spec_l13Code.j2 kj16 l0 a2 t851 true a1_0 l1_1 a1_2 a1_3 a1_4)))) else (some (0, 0, 0))) = some (r1, r2, r3) := by rw [if_neg (show ¬ (false = true) by decide)] at H; exact H
         clear H
         have H := H1
         clear H1
         by_cases c22 : a1_0 = 3
         ·rw [if_pos c22] at H
          have c22b0 : (a1_0 == 3) = true := beq_iff_eq.mpr c22
          have c22b1 : (a1_0 != 3) = false := bne_eq_false_iff_eq.mpr c22
          clear c22
          replace H := Option.bind_eq_some_iff.mp H
          obtain ⟨t851, A230, H⟩ := H
          replace H : ((spec_l1In.f a1_3 0 (t851.length : Int)).bind fun t854 => (if t854 = true then ((spec_l1In.f a1_4 0 (wrap64 ((t851.length : Int) - a1_3))).bind fun t855 => (spec_l13Code.j2 kj16 l0 a2 t851 (!t855) a1_0 l1_1 a1_2 a1_3 a1_4)) else (spec_l13Code.j2 kj16 l0 a2 t851 true a1_0 l1_1 a1_2 a1_3 a1_4))) = some (r1, r2, r3) := H
          have A23 := Aside0.mk A230
          clear A230
          have HC24 := Aside0.mk H
          clear H
          have hcz25_0 : wc.cell? ⟨gb848, 0, none⟩ = some (.int .i64 a1_0) := (blk_cell BK848.out 0).trans rfl
          have hcz25_1 : wc.cell? ⟨gb848, 1, none⟩ = some (.slice A1_1 l1_1.length c1_1) := (blk_cell BK848.out 1).trans rfl
          have hcz25_2 : wc.cell? ⟨gb848, 2, none⟩ = some (.int .i64 a1_2) := (blk_cell BK848.out 2).trans rfl
          have hcz25_3 : wc.cell? ⟨gb848, 3, none⟩ = some (.int .i64 a1_3) := (blk_cell BK848.out 3).trans rfl
          have hcz25_4 : wc.cell? ⟨gb848, 4, none⟩ = some (.int .i64 a1_4) := (blk_cell BK848.out 4).trans rfl
          have hfz25_0 := blk_frozen BK848.out 0
          have hfz25_1 := blk_frozen BK848.out 1
          have hfz25_2 := blk_frozen BK848.out 2
          have hfz25_3 := blk_frozen BK848.out 3
          have hfz25_4 := blk_frozen BK848.out 4
          go_upto_region 12 with (first | ((with_reducible refine gate_callee (f := 61) rfl ?_); refine goesL_ (some 46) rfl rfl Try.func61 (by kernel_rfl) rfl #[.slice A0 l0.length c0, .int .i64 a2] rfl (by (try simp only [List.map_toArray, List.map_cons, List.map_nil]); first | done | rfl | (simp only [List.length_drop, List.length_take]; rfl)) ?_; (with_reducible refine (spec_KidsOf.calls kj16 _ _ l0 a2 t851 _ ?side1 ?side2 A23.out).mono ?_); (case side1 => repeat (first | exact (Kd.C_below HR0.out HB.out) | (with_reducible refine Kd.C_alloc ?_ _) | (with_reducible refine Kd.C_drewN ?_ _) | (with_reducible refine Kd.C_drew ?_))); (case side2 => exact HC0.out); rintro e w26 ⟨v852, rfl, ho0, hb⟩; refine ⟨_, rfl, ?_⟩; have n0_ := Aside0.mk (Kd.R_lower ho0 (below_size (by repeat (first | (with_reducible first | exact HB.out | apply below_alloc | apply pw_below_drewN | apply below_drew1 | refine below_set ?_ GE848.out) | exact HB.out)))); have n1_ := Aside0.mk (blk_below (g := gb848) (o := .cells #[.int .i64 a1_0, .slice A1_1 l1_1.length c1_1, .int .i64 a1_2, .int .i64 a1_3, .int .i64 a1_4] 67 (0, 0)) (by (with_reducible repeat (first | refine blk_drewN ?_ _ | refine blk_drew ?_ | refine blk_alloc ?_ _)); exact BK848.out) hb); have n2_ := Aside0.mk (below_step (by repeat (first | (with_reducible first | exact HB.out | apply below_alloc | apply pw_below_drewN | apply below_drew1 | refine below_set ?_ GE848.out) | exact HB.out)) hb); clear BK848; clear HB; have HO853 := n0_; have BK848 := n1_; have HB := n2_; clear n0_ n1_ n2_; (try clear hb); (try clear hb2); (try clear hk); (try clear hi); (try clear ho0)))
          (try simp only [Act.put, List.setIfInBounds_toArray, List.set_cons_zero, List.set_cons_succ])
          go_cut [63] (fun v63 wc => ∃ (kq : Nat) (x63_23 : Bool), v63 = .bool x63_23 ∧ Aside0 (spec_l13Code.j2 kq l0 a2 t851 x63_23 a1_0 l1_1 a1_2 a1_3 a1_4 = some (r1, r2, r3)) ∧ Aside0 (kq ≤ kj16) ∧ Aside0 (Kd.R (Kd.int .i64) 3 wc w.heap.size (fun _ => True) v852 t851) ∧ Aside0 (wc.heap[gb848]? = some (.cells #[.int .i64 a1_0, (.slice A1_1 l1_1.length c1_1), .int .i64 a1_2, .int .i64 a1_3, .int .i64 a1_4] 67 (0, 0))) ∧ Aside0 (Below w.heap.size w wc))
          case first =>
           have H := HC24.out
           clear HC24
           replace H := Option.bind_eq_some_iff.mp H
           obtain ⟨t854, A270, H⟩ := H
           replace H : (if t854 = true then ((spec_l1In.f a1_4 0 (wrap64 ((t851.length : Int) - a1_3))).bind fun t855 => (spec_l13Code.j2 kj16 l0 a2 t851 (!t855) a1_0 l1_1 a1_2 a1_3 a1_4)) else (spec_l13Code.j2 kj16 l0 a2 t851 true a1_0 l1_1 a1_2 a1_3 a1_4)) = some (r1, r2, r3) := H
           have A27 := Aside0.mk A270
           clear A270
           by_cases c28 : t854 = true
           ·subst c28
            have H1 : ((spec_l1In.f a1_4 0 (wrap64 ((t851.length : Int) - a1_3))).bind fun t855 => (spec_l13Code.j2 kj16 l0 a2 t851 (!t855) a1_0 l1_1 a1_2 a1_3 a1_4)) = some (r1, r2, r3) := by rw [if_pos rfl] at H; exact H
            clear H
            have H := H1
            clear H1
            replace H := Option.bind_eq_some_iff.mp H
            obtain ⟨t855, A290, H⟩ := H
            replace H : (spec_l13Code.j2 kj16 l0 a2 t851 (!t855) a1_0 l1_1 a1_2 a1_3 a1_4) = some (r1, r2, r3) := H
            have A29 := Aside0.mk A290
            clear A290
            have H' := Aside0.mk H
            clear H
            have hcz30_0 : w26.cell? ⟨gb848, 0, none⟩ = some (.int .i64 a1_0) := (blk_cell BK848.out 0).trans rfl
            have hcz30_1 : w26.cell? ⟨gb848, 1, none⟩ = some (.slice A1_1 l1_1.length c1_1) := (blk_cell BK848.out 1).trans rfl
            have hcz30_2 : w26.cell? ⟨gb848, 2, none⟩ = some (.int .i64 a1_2) := (blk_cell BK848.out 2).trans rfl
            have hcz30_3 : w26.cell? ⟨gb848, 3, none⟩ = some (.int .i64 a1_3) := (blk_cell BK848.out 3).trans rfl
            have hcz30_4 : w26.cell? ⟨gb848, 4, none⟩ = some (.int .i64 a1_4) := (blk_cell BK848.out 4).trans rfl
            have hfz30_0 := blk_frozen BK848.out 0
            have hfz30_1 := blk_frozen BK848.out 1
            have hfz30_2 := blk_frozen BK848.out 2
            have hfz30_3 := blk_frozen BK848.out 3
            have hfz30_4 := blk_frozen BK848.out 4
            obtain ⟨Ao31, co31, eo31⟩ := Kd.R_slice HO853.out
            subst eo31
            go_wp2_with (first | ((with_reducible refine gate_callee (f := 67) rfl ?_); refine goesL_ (some 51) rfl rfl Try.func67 (by kernel_rfl) rfl #[.int .i64 a1_3, .int .i64 0, .int .i64 (t851.length : Int)] rfl (by (try simp only [List.map_toArray, List.map_cons, List.map_nil]); first | done | rfl | (simp only [List.length_drop, List.length_take]; rfl)) ?_; (with_reducible refine (spec_l1In.calls a1_3 0 (t851.length : Int) true _ A27.out).mono ?_); rintro e w' ⟨rfl, ⟨nd, rfl⟩⟩; refine ⟨_, rfl, ?_⟩) | (go_at_call 67; (with_reducible refine (spec_l1In.calls a1_4 0 (wrap64 ((t851.length : Int) - a1_3)) t855 _ A29.out).mono ?_); rintro e w' ⟨rfl, ⟨nd, rfl⟩⟩))
            go_meet
            case rel => exact ⟨_, (!t855), (by first | rfl | (simp; done) | (simp [*]; done)), H', ⟨by have := HJ8.out; have := HJ16.out; first | omega | exact Nat.le_refl _⟩, ⟨by (with_reducible repeat (first | apply Kd.R_alloc | apply Kd.R_drewN | apply Kd.R_drew)); exact HO853.out⟩, ⟨by (with_reducible repeat (first | refine blk_drewN ?_ _ | refine blk_drew ?_ | refine blk_alloc ?_ _)); exact BK848.out⟩, ⟨by repeat (first | (with_reducible first | exact HB.out | apply below_alloc | apply pw_below_drewN | apply below_drew1 | refine below_set ?_ GE848.out) | exact HB.out)⟩⟩
           ·replace c28 := Bool.eq_false_iff.mpr c28
            subst c28
            have H1 : (spec_l13Code.j2 kj16 l0 a2 t851 true a1_0 l1_1 a1_2 a1_3 a1_4) = some (r1, r2, r3) := by rw [if_neg (show ¬ (false = true) by decide)] at H; exact H
            clear H
            have H := H1
            clear H1
            have H' := Aside0.mk H
            clear H
            have hcz32_0 : w26.cell? ⟨gb848, 0, none⟩ = some (.int .i64 a1_0) := (blk_cell BK848.out 0).trans rfl
            have hcz32_1 : w26.cell? ⟨gb848, 1, none⟩ = some (.slice A1_1 l1_1.length c1_1) := (blk_cell BK848.out 1).trans rfl
            have hcz32_2 : w26.cell? ⟨gb848, 2, none⟩ = some (.int .i64 a1_2) := (blk_cell BK848.out 2).trans rfl
            have hcz32_3 : w26.cell? ⟨gb848, 3, none⟩ = some (.int .i64 a1_3) := (blk_cell BK848.out 3).trans rfl
            have hcz32_4 : w26.cell? ⟨gb848, 4, none⟩ = some (.int .i64 a1_4) := (blk_cell BK848.out 4).trans rfl
            have hfz32_0 := blk_frozen BK848.out 0
            have hfz32_1 := blk_frozen BK848.out 1
            have hfz32_2 := blk_frozen BK848.out 2
            have hfz32_3 := blk_frozen BK848.out 3
            have hfz32_4 := blk_frozen BK848.out 4
            obtain ⟨Ao33, co33, eo33⟩ := Kd.R_slice HO853.out
            subst eo33
            go_wp2_with (first | ((with_reducible refine gate_callee (f := 67) rfl ?_); refine goesL_ (some 51) rfl rfl Try.func67 (by kernel_rfl) rfl #[.int .i64 a1_3, .int .i64 0, .int .i64 (t851.length : Int)] rfl (by (try simp only [List.map_toArray, List.map_cons, List.map_nil]); first | done | rfl | (simp only [List.length_drop, List.length_take]; rfl)) ?_; (with_reducible refine (spec_l1In.calls a1_3 0 (t851.length : Int) false _ A27.out).mono ?_); rintro e w' ⟨rfl, ⟨nd, rfl⟩⟩; refine ⟨_, rfl, ?_⟩))
            go_meet
            case rel => exact ⟨_, (true), (by first | rfl | (simp; done) | (simp [*]; done)), H', ⟨by have := HJ8.out; have := HJ16.out; first | omega | exact Nat.le_refl _⟩, ⟨by (with_reducible repeat (first | apply Kd.R_alloc | apply Kd.R_drewN | apply Kd.R_drew)); exact HO853.out⟩, ⟨by (with_reducible repeat (first | refine blk_drewN ?_ _ | refine blk_drew ?_ | refine blk_alloc ?_ _)); exact BK848.out⟩, ⟨by repeat (first | (with_reducible first | exact HB.out | apply below_alloc | apply pw_below_drewN | apply below_drew1 | refine below_set ?_ GE848.out) | exact HB.out)⟩⟩
          case rest =>
           clear HC24
           try clear c1
           try clear c2
           try clear p2
           try clear c5
           try clear c6
           try clear c6b0
           try clear p6
           try clear c9
           try clear c12
           try clear c12b0
           try clear c12b1
           try clear c16
           try clear c18
           try clear c18b0
           try clear c18b1
           try clear c21
           try clear c22
           try clear c22b0
           try clear c22b1
           try clear c28
           try clear hcz11_0
           try clear hcz11_1
           try clear hcz11_2
           try clear hcz11_3
           try clear hcz11_4
           try clear hcz13_0
           try clear hcz13_1
           try clear hcz13_2
           try clear hcz13_3
           try clear hcz13_4
           try clear hcz15_0
           try clear hcz15_1
           try clear hcz15_2
           try clear hcz15_3
           try clear hcz15_4
           try clear hcz19_0
           try clear hcz19_1
           try clear hcz19_2
           try clear hcz19_3
           try clear hcz19_4
           try clear hcz20_0
           try clear hcz20_1
           try clear hcz20_2
           try clear hcz20_3
           try clear hcz20_4
           try clear hcz25_0
           try clear hcz25_1
           try clear hcz25_2
           try clear hcz25_3
           try clear hcz25_4
           try clear hcz30_0
           try clear hcz30_1
           try clear hcz30_2
           try clear hcz30_3
           try clear hcz30_4
           try clear hcz32_0
           try clear hcz32_1
           try clear hcz32_2
           try clear hcz32_3
           try clear hcz32_4
           try clear hcz8_0
           try clear hcz8_1
           try clear hcz8_2
           try clear hcz8_3
           try clear hcz8_4
           try clear hfz11_0
           try clear hfz11_1
           try clear hfz11_2
           try clear hfz11_3
           try clear hfz11_4
           try clear hfz13_0
           try clear hfz13_1
           try clear hfz13_2
           try clear hfz13_3
           try clear hfz13_4
           try clear hfz15_0
           try clear hfz15_1
           try clear hfz15_2
           try clear hfz15_3
           try clear hfz15_4
           try clear hfz19_0
           try clear hfz19_1
           try clear hfz19_2
           try clear hfz19_3
           try clear hfz19_4
           try clear hfz20_0
           try clear hfz20_1
           try clear hfz20_2
           try clear hfz20_3
           try clear hfz20_4
           try clear hfz25_0
           try clear hfz25_1
           try clear hfz25_2
           try clear hfz25_3
           try clear hfz25_4
           try clear hfz30_0
           try clear hfz30_1
           try clear hfz30_2
           try clear hfz30_3
           try clear hfz30_4
           try clear hfz32_0
           try clear hfz32_1
           try clear hfz32_2
           try clear hfz32_3
           try clear hfz32_4
           try clear hfz8_0
           try clear hfz8_1
           try clear hfz8_2
           try clear hfz8_3
           try clear hfz8_4
           try clear p2
           obtain ⟨kq, x63_23, rfl, HA, HJ23, HO_9, BK848, HB⟩ := hcut
           cases kq with
           | zero => exact absurd HA.out (by simp [spec_l13Code.j2])
           | succ kj23 =>
            have H := HA.out
            clear HA
            simp only [spec_l13Code.j2] at H
            by_cases c34 : x63_23 = true
            ·subst c34
             have H1 : (some (5, 0, 0)) = some (r1, r2, r3) := by rw [if_pos rfl] at H; exact H
             clear H
             have H := H1
             clear H1
             simp only [Option.some.injEq, Prod.mk.injEq] at H
             obtain ⟨rfl, rfl, rfl⟩ := H
             go_wp2
             go_ret3
             exact ⟨by first | rfl | (simp [errW_none, errW_some] <;> rfl) | (simp [*, errW_none, errW_some] <;> rfl), by repeat (first | (with_reducible first | exact HB.out | apply below_alloc | apply pw_below_drewN | apply below_drew1 | refine below_set ?_ GE848.out) | exact HB.out)⟩
            ·replace c34 := Bool.eq_false_iff.mpr c34
             subst c34
             have H1 : ((spec_EndOf.f kj23 l0 a2).bind fun t856 => (if t851.length < 17592186044416 then ((some (t851 ++ [t856] : List Int)).bind fun y857 => (if 0 ≤ a1_3 then (if a1_3 < (y857.length : Int) then (if 0 ≤ (wrap64 (a1_3 + a1_4)) then (if (wrap64 (a1_3 + a1_4)) < (y857.length : Int) then (if (l0.length : Int) = 24 then (some (6, 0, 0)) else (if 0 ≤ a2 then (if a2 < (l0.length : Int) then (spec_l13Code.l0 kj23 l0 (rd y857 a1_3) (rd y857 (wrap64 (a1_3 + a1_4))) (wrap64 (((rd_T90 l0 a2).f1) + 1)) (rd y857 a1_3)) else (none)) else (none))) else (none)) else (none)) else (none)) else (none))) else (none))) = some (r1, r2, r3) := by rw [if_neg (show ¬ (false = true) by decide)] at H; exact H
             clear H
             have H := H1
             clear H1
             replace H := Option.bind_eq_some_iff.mp H
             obtain ⟨t856, A350, H⟩ := H
             replace H : (if t851.length < 17592186044416 then ((some (t851 ++ [t856] : List Int)).bind fun y857 => (if 0 ≤ a1_3 then (if a1_3 < (y857.length : Int) then (if 0 ≤ (wrap64 (a1_3 + a1_4)) then (if (wrap64 (a1_3 + a1_4)) < (y857.length : Int) then (if (l0.length : Int) = 24 then (some (6, 0, 0)) else (if 0 ≤ a2 then (if a2 < (l0.length : Int) then (spec_l13Code.l0 kj23 l0 (rd y857 a1_3) (rd y857 (wrap64 (a1_3 + a1_4))) (wrap64 (((rd_T90 l0 a2).f1) + 1)) (rd y857 a1_3)) else (none)) else (none))) else (none)) else (none)) else (none)) else (none))) else (none)) = some (r1, r2, r3) := H
             have A35 := Aside0.mk A350
             clear A350
             by_cases c36 : t851.length < 17592186044416
             ·rw [if_pos c36] at H
              have LMc36 := Aside0.mk c36
              clear c36
              obtain ⟨y857, hy857⟩ : ∃ y_ : List Int, y_ = (t851 ++ [t856]) := ⟨_, rfl⟩
              replace H : (if 0 ≤ a1_3 then (if a1_3 < (y857.length : Int) then (if 0 ≤ (wrap64 (a1_3 + a1_4)) then (if (wrap64 (a1_3 + a1_4)) < (y857.length : Int) then (if (l0.length : Int) = 24 then (some (6, 0, 0)) else (if 0 ≤ a2 then (if a2 < (l0.length : Int) then (spec_l13Code.l0 kj23 l0 (rd y857 a1_3) (rd y857 (wrap64 (a1_3 + a1_4))) (wrap64 (((rd_T90 l0 a2).f1) + 1)) (rd y857 a1_3)) else (none)) else (none))) else (none)) else (none)) else (none)) else (none)) = some (r1, r2, r3) := by first | (rw [hy857]; with_reducible exact H) | (have H2_ := (Option.bind_some _ _).symm.trans H; rw [hy857]; with_reducible exact H2_) | (have H2_ := (Option.bind_some _ _).symm.trans H; with_reducible exact H2_) | with_reducible exact H | (rw [hy857]; exact H) | exact H
              have Ny857 := Aside0.mk hy857
              clear hy857
              by_cases c37 : 0 ≤ a1_3
              ·rw [if_pos c37] at H
               have c37b0 : decide (0 ≤ a1_3) = true := decide_eq_true c37
               clear c37
               by_cases c38 : a1_3 < (y857.length : Int)
               ·rw [if_pos c38] at H
                have c38b0 : decide (a1_3 < (y857.length : Int)) = true := decide_eq_true c38
                clear c38
                obtain ⟨ji39, hji39⟩ : ∃ j_ : Int, (wrap64 (a1_3 + a1_4)) = j_ := ⟨_, rfl⟩
                replace H : (if 0 ≤ (ji39) then (if (ji39) < (y857.length : Int) then (if (l0.length : Int) = 24 then (some (6, 0, 0)) else (if 0 ≤ a2 then (if a2 < (l0.length : Int) then (spec_l13Code.l0 kj23 l0 (rd y857 a1_3) (rd y857 (ji39)) (wrap64 (((rd_T90 l0 a2).f1) + 1)) (rd y857 a1_3)) else (none)) else (none))) else (none)) else (none)) = some (r1, r2, r3) := by first | (rw [hji39] at H; exact H) | (simp only [hji39] at H ⊢; exact H)
                (try rw [hji39] at A35)
                have hji39w : (IntKind.i64.wrap (a1_3 + a1_4)) = ji39 := (i64_w _).trans hji39
                by_cases c40 : 0 ≤ (ji39)
                ·rw [if_pos c40] at H
                 have c40b0 : decide (0 ≤ (ji39)) = true := decide_eq_true c40
                 clear c40
                 by_cases c41 : (ji39) < (y857.length : Int)
                 ·rw [if_pos c41] at H
                  have c41b0 : decide ((ji39) < (y857.length : Int)) = true := decide_eq_true c41
                  clear c41
                  by_cases c42 : (l0.length : Int) = 24
                  ·rw [if_pos c42] at H
                   have c42b0 : ((l0.length : Int) == 24) = true := beq_iff_eq.mpr c42
                   have c42b1 : ((l0.length : Int) != 24) = false := bne_eq_false_iff_eq.mpr c42
                   clear c42
                   simp only [Option.some.injEq, Prod.mk.injEq] at H
                   obtain ⟨rfl, rfl, rfl⟩ := H
                   go_wp2_with (first | ((with_reducible refine gate_callee (f := 100) rfl ?_); refine goesL_ (some 67) rfl rfl Try.func100 (by kernel_rfl) rfl #[.slice A0 l0.length c0, .int .i64 a2] rfl (by (try simp only [List.map_toArray, List.map_cons, List.map_nil]); first | done | rfl | (simp only [List.length_drop, List.length_take]; rfl)) ?_; (with_reducible refine (spec_EndOf.calls kj23 _ _ l0 a2 t856 _ ?side1 ?side2 A35.out).mono ?_); (case side1 => repeat (first | exact (Kd.C_below HR0.out HB.out) | (with_reducible refine Kd.C_alloc ?_ _) | (with_reducible refine Kd.C_drewN ?_ _) | (with_reducible refine Kd.C_drew ?_))); (case side2 => exact HC0.out); rintro e w43 ⟨rfl, hb⟩; refine ⟨_, rfl, ?_⟩; have n0_ := Aside0.mk (Kd.R_below (by (with_reducible repeat (first | apply Kd.R_alloc | apply Kd.R_drewN | apply Kd.R_drew)); exact HO_9.out) hb); have n1_ := Aside0.mk (blk_below (g := gb848) (o := .cells #[.int .i64 a1_0, .slice A1_1 l1_1.length c1_1, .int .i64 a1_2, .int .i64 a1_3, .int .i64 a1_4] 67 (0, 0)) (by (with_reducible repeat (first | refine blk_drewN ?_ _ | refine blk_drew ?_ | refine blk_alloc ?_ _)); exact BK848.out) hb); have n2_ := Aside0.mk (below_step (by repeat (first | (with_reducible first | exact HB.out | apply below_alloc | apply pw_below_drewN | apply below_drew1 | refine below_set ?_ GE848.out) | exact HB.out)) hb); clear HO_9; clear BK848; clear HB; have HO_9 := n0_; have BK848 := n1_; have HB := n2_; clear n0_ n1_ n2_; (try clear hb); (try clear hb2); (try clear hk); (try clear hi)) | ((with_reducible refine gate_builtin (b := .append) (xs := #[.tmp 64, .tmp 68]) rfl ?_); (try (refine gate_guard (by rfl) ?_; dsimp only)); at_builtin; refine Kd.R_append (Kd.int .i64) (w0 := w) w.heap.size rfl (.tmp 64) (.tmp 68) 39 3 (.int .i64 0) 8 rfl Try.underlying39 info3 rfl (by decide) (by omega) v852 t851 t856 [.int .i64 t856] (fun _ => True) (fun _ => False) rfl rfl ?aP (fun _ hk => hk.elim) ?aF ?aO ?aB ?aS ?aL ?_; (case aP => exact rfl); (case aB => exact (by repeat (first | (with_reducible first | exact HB.out | apply below_alloc | apply pw_below_drewN | apply below_drew1 | refine below_set ?_ GE848.out) | exact HB.out))); (case aF => exact (fun _ _ => trivial)); (case aO => exact (by (with_reducible repeat (first | apply Kd.R_alloc | apply Kd.R_drewN | apply Kd.R_drew)); exact HO_9.out)); (case aS => exact (below_size (by repeat (first | (with_reducible first | exact HB.out | apply below_alloc | apply pw_below_drewN | apply below_drew1 | refine below_set ?_ GE848.out) | exact HB.out)))); (case aL => have := LMc36.out; omega); intro v858 w44 ho hb hg hat; rw [← Ny857.out] at ho; have n0_ := Aside0.mk (blk_grown (g := gb848) (o := .cells #[.int .i64 a1_0, .slice A1_1 l1_1.length c1_1, .int .i64 a1_2, .int .i64 a1_3, .int .i64 a1_4] 67 (0, 0)) (by (with_reducible repeat (first | refine blk_drewN ?_ _ | refine blk_drew ?_ | refine blk_alloc ?_ _)); exact BK848.out) hg (Kd.R_ne HO_9.out BK848.out (by decide))); have n1_ := Aside0.mk (hb); have n2_ := Aside0.mk (ho); clear BK848; clear HB; clear HO_9; have BK848 := n0_; have HB := n1_; have HO859 := n2_; clear n0_ n1_ n2_; clear ho hb hg hat; have hcz45_0 : w44.cell? ⟨gb848, 0, none⟩ = some (.int .i64 a1_0) := (blk_cell BK848.out 0).trans rfl; have hcz45_1 : w44.cell? ⟨gb848, 1, none⟩ = some (.slice A1_1 l1_1.length c1_1) := (blk_cell BK848.out 1).trans rfl; have hcz45_2 : w44.cell? ⟨gb848, 2, none⟩ = some (.int .i64 a1_2) := (blk_cell BK848.out 2).trans rfl; have hcz45_3 : w44.cell? ⟨gb848, 3, none⟩ = some (.int .i64 a1_3) := (blk_cell BK848.out 3).trans rfl; have hcz45_4 : w44.cell? ⟨gb848, 4, none⟩ = some (.int .i64 a1_4) := (blk_cell BK848.out 4).trans rfl; have hfz45_0 := blk_frozen BK848.out 0; have hfz45_1 := blk_frozen BK848.out 1; have hfz45_2 := blk_frozen BK848.out 2; have hfz45_3 := blk_frozen BK848.out 3; have hfz45_4 := blk_frozen BK848.out 4; obtain ⟨Ao46, co46, eo46⟩ := Kd.R_slice HO859.out; subst eo46; have p860 : 0 ≤ (a1_3 : Int) := of_decide_eq_true (by first | (with_reducible assumption) | assumption); have q860 : a1_3 < (y857.length : Int) := of_decide_eq_true (by first | (with_reducible assumption) | assumption); obtain ⟨ad860, e860, hx860_0⟩ := Kd.at_int (Kd.R_reads' HO859.out).2.2 a1_3 p860 q860; cases e860; replace p860 := eq_true p860; replace q860 := eq_true q860; have p861 : 0 ≤ ((ji39) : Int) := of_decide_eq_true (by first | (with_reducible assumption) | assumption); have q861 : (ji39) < (y857.length : Int) := of_decide_eq_true (by first | (with_reducible assumption) | assumption); obtain ⟨ad861, e861, hx861_0⟩ := Kd.at_int (Kd.R_reads' HO859.out).2.2 (ji39) p861 q861; obtain rfl : ad860 = ad861 := (by injection e861); replace p861 := eq_true p861; replace q861 := eq_true q861))
                   go_ret3
                   exact ⟨by first | rfl | (simp [errW_none, errW_some] <;> rfl) | (simp only [← hji39]; first | rfl | (simp [errW_none, errW_some] <;> rfl)) | (simp [*, errW_none, errW_some] <;> rfl), by repeat (first | (with_reducible first | exact HB.out | apply below_alloc | apply pw_below_drewN | apply below_drew1 | refine below_set ?_ GE848.out) | exact HB.out)⟩
                  ·rw [if_neg c42] at H
                   have c42b0 : ((l0.length : Int) == 24) = false := beq_eq_false_iff_ne.mpr c42
                   have c42b1 : ((l0.length : Int) != 24) = true := bne_iff_ne.mpr c42
                   by_cases c47 : 0 ≤ a2
                   ·rw [if_pos c47] at H
                    have c47b0 : decide (0 ≤ a2) = true := decide_eq_true c47
                    clear c47
                    by_cases c48 : a2 < (l0.length : Int)
                    ·rw [if_pos c48] at H
                     have c48b0 : decide (a2 < (l0.length : Int)) = true := decide_eq_true c48
                     clear c48
                     have H' := Aside0.mk H
                     clear H
                     go_wp2_with (first | ((with_reducible refine gate_callee (f := 100) rfl ?_); refine goesL_ (some 67) rfl rfl Try.func100 (by kernel_rfl) rfl #[.slice A0 l0.length c0, .int .i64 a2] rfl (by (try simp only [List.map_toArray, List.map_cons, List.map_nil]); first | done | rfl | (simp only [List.length_drop, List.length_take]; rfl)) ?_; (with_reducible refine (spec_EndOf.calls kj23 _ _ l0 a2 t856 _ ?side1 ?side2 A35.out).mono ?_); (case side1 => repeat (first | exact (Kd.C_below HR0.out HB.out) | (with_reducible refine Kd.C_alloc ?_ _) | (with_reducible refine Kd.C_drewN ?_ _) | (with_reducible refine Kd.C_drew ?_))); (case side2 => exact HC0.out); rintro e w49 ⟨rfl, hb⟩; refine ⟨_, rfl, ?_⟩; have n0_ := Aside0.mk (Kd.R_below (by (with_reducible repeat (first | apply Kd.R_alloc | apply Kd.R_drewN | apply Kd.R_drew)); exact HO_9.out) hb); have n1_ := Aside0.mk (blk_below (g := gb848) (o := .cells #[.int .i64 a1_0, .slice A1_1 l1_1.length c1_1, .int .i64 a1_2, .int .i64 a1_3, .int .i64 a1_4] 67 (0, 0)) (by (with_reducible repeat (first | refine blk_drewN ?_ _ | refine blk_drew ?_ | refine blk_alloc ?_ _)); exact BK848.out) hb); have n2_ := Aside0.mk (below_step (by repeat (first | (with_reducible first | exact HB.out | apply below_alloc | apply pw_below_drewN | apply below_drew1 | refine below_set ?_ GE848.out) | exact HB.out)) hb); clear HO_9; clear BK848; clear HB; have HO_9 := n0_; have BK848 := n1_; have HB := n2_; clear n0_ n1_ n2_; (try clear hb); (try clear hb2); (try clear hk); (try clear hi)) | ((with_reducible refine gate_builtin (b := .append) (xs := #[.tmp 64, .tmp 68]) rfl ?_); (try (refine gate_guard (by rfl) ?_; dsimp only)); at_builtin; refine Kd.R_append (Kd.int .i64) (w0 := w) w.heap.size rfl (.tmp 64) (.tmp 68) 39 3 (.int .i64 0) 8 rfl Try.underlying39 info3 rfl (by decide) (by omega) v852 t851 t856 [.int .i64 t856] (fun _ => True) (fun _ => False) rfl rfl ?aP (fun _ hk => hk.elim) ?aF ?aO ?aB ?aS ?aL ?_; (case aP => exact rfl); (case aB => exact (by repeat (first | (with_reducible first | exact HB.out | apply below_alloc | apply pw_below_drewN | apply below_drew1 | refine below_set ?_ GE848.out) | exact HB.out))); (case aF => exact (fun _ _ => trivial)); (case aO => exact (by (with_reducible repeat (first | apply Kd.R_alloc | apply Kd.R_drewN | apply Kd.R_drew)); exact HO_9.out)); (case aS => exact (below_size (by repeat (first | (with_reducible first | exact HB.out | apply below_alloc | apply pw_below_drewN | apply below_drew1 | refine below_set ?_ GE848.out) | exact HB.out)))); (case aL => have := LMc36.out; omega); intro v858 w50 ho hb hg hat; rw [← Ny857.out] at ho; have n0_ := Aside0.mk (blk_grown (g := gb848) (o := .cells #[.int .i64 a1_0, .slice A1_1 l1_1.length c1_1, .int .i64 a1_2, .int .i64 a1_3, .int .i64 a1_4] 67 (0, 0)) (by (with_reducible repeat (first | refine blk_drewN ?_ _ | refine blk_drew ?_ | refine blk_alloc ?_ _)); exact BK848.out) hg (Kd.R_ne HO_9.out BK848.out (by decide))); have n1_ := Aside0.mk (hb); have n2_ := Aside0.mk (ho); clear BK848; clear HB; clear HO_9; have BK848 := n0_; have HB := n1_; have HO859 := n2_; clear n0_ n1_ n2_; clear ho hb hg hat; have hcz51_0 : w50.cell? ⟨gb848, 0, none⟩ = some (.int .i64 a1_0) := (blk_cell BK848.out 0).trans rfl; have hcz51_1 : w50.cell? ⟨gb848, 1, none⟩ = some (.slice A1_1 l1_1.length c1_1) := (blk_cell BK848.out 1).trans rfl; have hcz51_2 : w50.cell? ⟨gb848, 2, none⟩ = some (.int .i64 a1_2) := (blk_cell BK848.out 2).trans rfl; have hcz51_3 : w50.cell? ⟨gb848, 3, none⟩ = some (.int .i64 a1_3) := (blk_cell BK848.out 3).trans rfl; have hcz51_4 : w50.cell? ⟨gb848, 4, none⟩ = some (.int .i64 a1_4) := (blk_cell BK848.out 4).trans rfl; have hfz51_0 := blk_frozen BK848.out 0; have hfz51_1 := blk_frozen BK848.out 1; have hfz51_2 := blk_frozen BK848.out 2; have hfz51_3 := blk_frozen BK848.out 3; have hfz51_4 := blk_frozen BK848.out 4; obtain ⟨Ao52, co52, eo52⟩ := Kd.R_slice HO859.out; subst eo52; have p860 : 0 ≤ (a1_3 : Int) := of_decide_eq_true (by first | (with_reducible assumption) | assumption); have q860 : a1_3 < (y857.length : Int) := of_decide_eq_true (by first | (with_reducible assumption) | assumption); obtain ⟨ad860, e860, hx860_0⟩ := Kd.at_int (Kd.R_reads' HO859.out).2.2 a1_3 p860 q860; cases e860; replace p860 := eq_true p860; replace q860 := eq_true q860; have p861 : 0 ≤ ((ji39) : Int) := of_decide_eq_true (by first | (with_reducible assumption) | assumption); have q861 : (ji39) < (y857.length : Int) := of_decide_eq_true (by first | (with_reducible assumption) | assumption); obtain ⟨ad861, e861, hx861_0⟩ := Kd.at_int (Kd.R_reads' HO859.out).2.2 (ji39) p861 q861; obtain rfl : ad860 = ad861 := (by injection e861); replace p861 := eq_true p861; replace q861 := eq_true q861; have p862 : 0 ≤ (a2 : Int) := of_decide_eq_true (by first | (with_reducible assumption) | assumption); have q862 : a2 < (l0.length : Int) := of_decide_eq_true (by first | (with_reducible assumption) | assumption); obtain ⟨ad862, e862, hx862_0, hx862_1⟩ := at_T90 HR0.out a2 p862 q862; cases e862; replace hx862_0 := (HB.out.cell (World.block_lt_of_cell? w _ hx862_0)).trans hx862_0; replace hx862_1 := (HB.out.cell (World.block_lt_of_cell? w _ hx862_1)).trans hx862_1; replace p862 := eq_true p862; replace q862 := eq_true q862))
                     go_loopg [12, 13] kj23 (fun kq v12 v13 w' => ∃ (x12_4 : Int) (x13_4 : Int), v12 = .int .i64 x12_4 ∧ v13 = .int .i64 x13_4 ∧ Aside0 (spec_l13Code.l0 kq l0 (rd y857 a1_3) (rd y857 (ji39)) x12_4 x13_4 = some (r1, r2, r3)) ∧ Aside0 (kq ≤ kj23) ∧ Aside0 (w'.heap[gb848]? = some (.cells #[.int .i64 a1_0, (.slice A1_1 l1_1.length c1_1), .int .i64 a1_2, .int .i64 a1_3, .int .i64 a1_4] 67 (0, 0))) ∧ Aside0 (Below w.heap.size w w'))
                     case atStart => exact ⟨(wrap64 (((rd_T90 l0 a2).f1) + 1)), (rd y857 a1_3), (by first | rfl | (simp; done) | (simp [*]; done)), (by first | rfl | (simp; done) | (simp [*]; done)), H', ⟨Nat.le_refl _⟩, ⟨by (with_reducible repeat (first | refine blk_drewN ?_ _ | refine blk_drew ?_ | refine blk_alloc ?_ _)); exact BK848.out⟩, ⟨by repeat (first | (with_reducible first | exact HB.out | apply below_alloc | apply pw_below_drewN | apply below_drew1 | refine below_set ?_ GE848.out) | exact HB.out)⟩⟩
                     case round =>
                      clear H'
                      try clear c1
                      try clear c2
                      try clear p2
                      try clear c3
                      try clear c4
                      try clear c5
                      try clear c6
                      try clear c6b0
                      try clear p6
                      try clear p8
                      try clear q8
                      try clear hx8
                      try clear c9
                      try clear c10
                      try clear c12
                      try clear c12b0
                      try clear c12b1
                      try clear c16
                      try clear c18
                      try clear c18b0
                      try clear c18b1
                      try clear c21
                      try clear c22
                      try clear c22b0
                      try clear c22b1
                      try clear c28
                      try clear c34
                      try clear c36
                      try clear c37
                      try clear c37b0
                      try clear c38
                      try clear c38b0
                      try clear c40
                      try clear c40b0
                      try clear c41
                      try clear c41b0
                      try clear c42
                      try clear c42b0
                      try clear c42b1
                      try clear c47
                      try clear c47b0
                      try clear c48
                      try clear c48b0
                      try clear hcz11_0
                      try clear hcz11_1
                      try clear hcz11_2
                      try clear hcz11_3
                      try clear hcz11_4
                      try clear hcz13_0
                      try clear hcz13_1
                      try clear hcz13_2
                      try clear hcz13_3
                      try clear hcz13_4
                      try clear hcz15_0
                      try clear hcz15_1
                      try clear hcz15_2
                      try clear hcz15_3
                      try clear hcz15_4
                      try clear hcz19_0
                      try clear hcz19_1
                      try clear hcz19_2
                      try clear hcz19_3
                      try clear hcz19_4
                      try clear hcz20_0
                      try clear hcz20_1
                      try clear hcz20_2
                      try clear hcz20_3
                      try clear hcz20_4
                      try clear hcz25_0
                      try clear hcz25_1
                      try clear hcz25_2
                      try clear hcz25_3
                      try clear hcz25_4
                      try clear hcz30_0
                      try clear hcz30_1
                      try clear hcz30_2
                      try clear hcz30_3
                      try clear hcz30_4
                      try clear hcz32_0
                      try clear hcz32_1
                      try clear hcz32_2
                      try clear hcz32_3
                      try clear hcz32_4
                      try clear hcz45_0
                      try clear hcz45_1
                      try clear hcz45_2
                      try clear hcz45_3
                      try clear hcz45_4
                      try clear hcz51_0
                      try clear hcz51_1
                      try clear hcz51_2
                      try clear hcz51_3
                      try clear hcz51_4
                      try clear hcz8_0
                      try clear hcz8_1
                      try clear hcz8_2
                      try clear hcz8_3
                      try clear hcz8_4
                      try clear hfz11_0
                      try clear hfz11_1
                      try clear hfz11_2
                      try clear hfz11_3
                      try clear hfz11_4
                      try clear hfz13_0
                      try clear hfz13_1
                      try clear hfz13_2
                      try clear hfz13_3
                      try clear hfz13_4
                      try clear hfz15_0
                      try clear hfz15_1
                      try clear hfz15_2
                      try clear hfz15_3
                      try clear hfz15_4
                      try clear hfz19_0
                      try clear hfz19_1
                      try clear hfz19_2
                      try clear hfz19_3
                      try clear hfz19_4
                      try clear hfz20_0
                      try clear hfz20_1
                      try clear hfz20_2
                      try clear hfz20_3
                      try clear hfz20_4
                      try clear hfz25_0
                      try clear hfz25_1
                      try clear hfz25_2
                      try clear hfz25_3
                      try clear hfz25_4
                      try clear hfz30_0
                      try clear hfz30_1
                      try clear hfz30_2
                      try clear hfz30_3
                      try clear hfz30_4
                      try clear hfz32_0
                      try clear hfz32_1
                      try clear hfz32_2
                      try clear hfz32_3
                      try clear hfz32_4
                      try clear hfz45_0
                      try clear hfz45_1
                      try clear hfz45_2
                      try clear hfz45_3
                      try clear hfz45_4
                      try clear hfz51_0
                      try clear hfz51_1
                      try clear hfz51_2
                      try clear hfz51_3
                      try clear hfz51_4
                      try clear hfz8_0
                      try clear hfz8_1
                      try clear hfz8_2
                      try clear hfz8_3
                      try clear hfz8_4
                      try clear hx860_0
                      try clear hx861_0
                      try clear hx862_0
                      try clear hx862_1
                      try clear p2
                      try clear p6
                      try clear p860
                      try clear p861
                      try clear p862
                      try clear q860
                      try clear q861
                      try clear q862
                      obtain ⟨x12_4, x13_4, rfl, rfl, HA, HK4, BK848, HB⟩ := hrel
                      cases gk with
                      | zero => exact absurd HA.out (by simp [spec_l13Code.l0])
                      | succ k4 =>
                       have H := HA.out
                       clear HA
                       simp only [spec_l13Code.l0] at H
                       by_cases c53 : x13_4 < (rd y857 (ji39))
                       ·rw [if_pos c53] at H
                        have c53b0 : decide (x13_4 < (rd y857 (ji39))) = true := decide_eq_true c53
                        clear c53
                        by_cases c54 : 0 ≤ x13_4
                        ·rw [if_pos c54] at H
                         have c54b0 : decide (0 ≤ x13_4) = true := decide_eq_true c54
                         clear c54
                         by_cases c55 : x13_4 < (l0.length : Int)
                         ·rw [if_pos c55] at H
                          have c55b0 : decide (x13_4 < (l0.length : Int)) = true := decide_eq_true c55
                          clear c55
                          obtain ⟨ji56, hji56⟩ : ∃ j_ : Int, (mx x12_4 (wrap64 (((rd_T90 l0 x13_4).f1) + 1))) = j_ := ⟨_, rfl⟩
                          replace H : (spec_l13Code.l0 k4 l0 (rd y857 a1_3) (rd y857 (ji39)) ji56 (wrap64 (x13_4 + 1))) = some (r1, r2, r3) := by first | (rw [hji56] at H; exact H) | (simp only [hji56] at H ⊢; exact H)
                          have hji56_ : (if x12_4 < (wrap64 (((rd_T90 l0 x13_4).f1) + 1)) then (wrap64 (((rd_T90 l0 x13_4).f1) + 1)) else x12_4) = ji56 := hji56
                          have H' := Aside0.mk H
                          clear H
                          have p863 : 0 ≤ (x13_4 : Int) := of_decide_eq_true (by first | (with_reducible assumption) | assumption)
                          have q863 : x13_4 < (l0.length : Int) := of_decide_eq_true (by first | (with_reducible assumption) | assumption)
                          obtain ⟨ad863, e863, hx863_0, hx863_1⟩ := at_T90 HR0.out x13_4 p863 q863
                          obtain rfl : ad862 = ad863 := (by injection e863)
                          replace hx863_0 := (HB.out.cell (World.block_lt_of_cell? w _ hx863_0)).trans hx863_0
                          replace hx863_1 := (HB.out.cell (World.block_lt_of_cell? w _ hx863_1)).trans hx863_1
                          replace p863 := eq_true p863
                          replace q863 := eq_true q863
                          go_wp2
                          go_roundg k4
                          case measure => have := HJ8.out; have := HJ16.out; have := HJ23.out; have := HK4.out; omega
                          case rel => exact ⟨(ji56), (wrap64 (x13_4 + 1)), (by first | rfl | (simp; done) | (simp only [← hji56] <;> (first | rfl | simp)) | (simp [*]; done)), (by first | rfl | (simp; done) | (simp [*]; done)), H', ⟨by have := HJ8.out; have := HJ16.out; have := HJ23.out; have := HK4.out; omega⟩, ⟨by (with_reducible repeat (first | refine blk_drewN ?_ _ | refine blk_drew ?_ | refine blk_alloc ?_ _)); exact BK848.out⟩, ⟨by repeat (first | (with_reducible first | exact HB.out | apply below_alloc | apply pw_below_drewN | apply below_drew1 | refine below_set ?_ GE848.out) | exact HB.out)⟩⟩
                         ·rw [if_neg c55] at H
                          exact absurd H (by simp)
                        ·rw [if_neg c54] at H
                         exact absurd H (by simp)
                       ·rw [if_neg c53] at H
                        have c53b0 : decide (x13_4 < (rd y857 (ji39))) = false := decide_eq_false c53
                        clear c53
                        by_cases c57 : x12_4 > 12
                        ·rw [if_pos c57] at H
                         have c57b0 : decide (12 < x12_4) = true := decide_eq_true c57
                         clear c57
                         simp only [Option.some.injEq, Prod.mk.injEq] at H
                         obtain ⟨rfl, rfl, rfl⟩ := H
                         go_wp2
                         go_ret3
                         exact ⟨by first | rfl | (simp [errW_none, errW_some] <;> rfl) | (simp only [← hji39]; first | rfl | (simp [errW_none, errW_some] <;> rfl)) | (simp [*, errW_none, errW_some] <;> rfl), by repeat (first | (with_reducible first | exact HB.out | apply below_alloc | apply pw_below_drewN | apply below_drew1 | refine below_set ?_ GE848.out) | exact HB.out)⟩
                        ·rw [if_neg c57] at H
                         have c57b0 : decide (12 < x12_4) = false := decide_eq_false c57
                         clear c57
                         simp only [Option.some.injEq, Prod.mk.injEq] at H
                         obtain ⟨rfl, rfl, rfl⟩ := H
                         go_wp2
                         go_ret3
                         exact ⟨by first | rfl | (simp [errW_none, errW_some] <;> rfl) | (simp only [← hji39]; first | rfl | (simp [errW_none, errW_some] <;> rfl)) | (simp [*, errW_none, errW_some] <;> rfl), by repeat (first | (with_reducible first | exact HB.out | apply below_alloc | apply pw_below_drewN | apply below_drew1 | refine below_set ?_ GE848.out) | exact HB.out)⟩
                    ·rw [if_neg c48] at H
                     exact absurd H (by simp)
                   ·rw [if_neg c47] at H
                    exact absurd H (by simp)
                 ·rw [if_neg c41] at H
                  exact absurd H (by simp)
                ·rw [if_neg c40] at H
                 exact absurd H (by simp)
               ·rw [if_neg c38] at H
                exact absurd H (by simp)
              ·rw [if_neg c37] at H
               exact absurd H (by simp)
             ·rw [if_neg c36] at H
              exact absurd H (by simp)
         ·rw [if_neg c22] at H
          have c22b0 : (a1_0 == 3) = false := beq_eq_false_iff_ne.mpr c22
          have c22b1 : (a1_0 != 3) = true := bne_iff_ne.mpr c22
          simp only [Option.some.injEq, Prod.mk.injEq] at H
          obtain ⟨rfl, rfl, rfl⟩ := H
          have hcz58_0 : wc.cell? ⟨gb848, 0, none⟩ = some (.int .i64 a1_0) := (blk_cell BK848.out 0).trans rfl
          have hcz58_1 : wc.cell? ⟨gb848, 1, none⟩ = some (.slice A1_1 l1_1.length c1_1) := (blk_cell BK848.out 1).trans rfl
          have hcz58_2 : wc.cell? ⟨gb848, 2, none⟩ = some (.int .i64 a1_2) := (blk_cell BK848.out 2).trans rfl
          have hcz58_3 : wc.cell? ⟨gb848, 3, none⟩ = some (.int .i64 a1_3) := (blk_cell BK848.out 3).trans rfl
          have hcz58_4 : wc.cell? ⟨gb848, 4, none⟩ = some (.int .i64 a1_4) := (blk_cell BK848.out 4).trans rfl
          have hfz58_0 := blk_frozen BK848.out 0
          have hfz58_1 := blk_frozen BK848.out 1
          have hfz58_2 := blk_frozen BK848.out 2
          have hfz58_3 := blk_frozen BK848.out 3
          have hfz58_4 := blk_frozen BK848.out 4
          go_wp2
          go_ret3
          exact ⟨by first | rfl | (simp [errW_none, errW_some] <;> rfl) | (simp [*, errW_none, errW_some] <;> rfl), by repeat (first | (with_reducible first | exact HB.out | apply below_alloc | apply pw_below_drewN | apply below_drew1 | refine below_set ?_ GE848.out) | exact HB.out)⟩
 ·replace c5 := Bool.eq_false_iff.mpr c5
  subst c5
  have H1 : (some (1, 0, 0)) = some (r1, r2, r3) := by rw [if_neg (show ¬ (false = true) by decide)] at H; exact H
  clear H
  have H := H1
  clear H1
  simp only [Option.some.injEq, Prod.mk.injEq] at H
  obtain ⟨rfl, rfl, rfl⟩ := H
  go_enter Try.func99, Try.ntmps99
  go_wp2_with (first | ((with_reducible refine gate_dst (N := 4) rfl ?_); (try (refine gate_guard (by rfl) ?_; dsimp only)); refine box_event ?hg (N := 4) ?hd (cs := #[.int .i64 a1_0, .slice A1_1 l1_1.length c1_1, .int .i64 a1_2, .int .i64 a1_3, .int .i64 a1_4]) (t := 67) ?hr ?_; (case hd => rfl); (case hg => rfl); (case hr => first | (go_simp; done) | (go_simp; rfl)); intro gb848 hg w59 hbox hb; have n0_ := Aside0.mk (below_step (by repeat (first | (with_reducible first | exact HB.out | apply below_alloc | apply pw_below_drewN | apply below_drew1) | exact HB.out)) hb); have n1_ := Aside0.mk (hbox); have n2_ := Aside0.mk ((by rw [hg]; exact (below_size (by repeat (first | (with_reducible first | exact HB.out | apply below_alloc | apply pw_below_drewN | apply below_drew1) | exact HB.out))) : w.heap.size ≤ gb848)); have n3_ := Aside0.mk ((by rw [hg]; exact (below_size (by repeat (first | (with_reducible first | exact HB.out | apply below_alloc | apply pw_below_drewN | apply below_drew1) | exact HB.out))) : w.heap.size ≤ gb848)); clear HB; have HB := n0_; have BK848 := n1_; have GW848 := n2_; have GE848 := n3_; clear n0_ n1_ n2_ n3_; clear hb hbox hg; have hcz60_0 : w59.cell? ⟨gb848, 0, none⟩ = some (.int .i64 a1_0) := (blk_cell BK848.out 0).trans rfl; have hcz60_1 : w59.cell? ⟨gb848, 1, none⟩ = some (.slice A1_1 l1_1.length c1_1) := (blk_cell BK848.out 1).trans rfl; have hcz60_2 : w59.cell? ⟨gb848, 2, none⟩ = some (.int .i64 a1_2) := (blk_cell BK848.out 2).trans rfl; have hcz60_3 : w59.cell? ⟨gb848, 3, none⟩ = some (.int .i64 a1_3) := (blk_cell BK848.out 3).trans rfl; have hcz60_4 : w59.cell? ⟨gb848, 4, none⟩ = some (.int .i64 a1_4) := (blk_cell BK848.out 4).trans rfl; have hfz60_0 := blk_frozen BK848.out 0; have hfz60_1 := blk_frozen BK848.out 1; have hfz60_2 := blk_frozen BK848.out 2; have hfz60_3 := blk_frozen BK848.out 3; have hfz60_4 := blk_frozen BK848.out 4) | ((with_reducible refine gate_callee (f := 67) rfl ?_); refine goesL_ (some 17) rfl rfl Try.func67 (by kernel_rfl) rfl #[.int .i64 a1_0, .int .i64 1, .int .i64 3] rfl (by (try simp only [List.map_toArray, List.map_cons, List.map_nil]); first | done | rfl | (simp only [List.length_drop, List.length_take]; rfl)) ?_; (with_reducible refine (spec_l1In.calls a1_0 1 3 false _ A4.out).mono ?_); rintro e w' ⟨rfl, ⟨nd, rfl⟩⟩; refine ⟨_, rfl, ?_⟩))
  go_ret3
  exact ⟨by first | rfl | (simp [errW_none, errW_some] <;> rfl) | (simp [*, errW_none, errW_some] <;> rfl), by repeat (first | (with_reducible first | exact HB.out | apply below_alloc | apply pw_below_drewN | apply below_drew1 | refine below_set ?_ GE848.out) | exact HB.out)⟩
end Go.Proofs.Ytbifdckfglejkaa.X
namespace Go.Proofs.Ytbifdckfglejkaa.X
open Go.RowKit Go.Proofs.YtbifdckfglejkaaW.PrintWords Go.Proofs.YtbifdckfglejkaaW.PrintLast Go.Proofs.YtbifdckfglejkaaW.PrintMore
attribute [local go_sem] max2_int min2_int max_two min_two max_three min_three max_four min_four   -- for this text's walks alone
set_option linter.unusedVariables false
set_option linter.unusedSimpArgs false
def spec_l13Shift.l0 : Nat → List (S90) → Int → Int → List (S90) → Int → Option ((List (S90)))
 | 0, _, _, _, _, _ => none
 | k + 1, x0, x2, x3, x9, x10 => if x10 < x2 then (if 0 ≤ x10 then (if x10 < (x0.length : Int) then (if x9.length < 8796093022208 then (spec_l13Shift.l0 k x0 x2 x3 (x9 ++ [(⟨(rd_T90 x0 x10).f0, wrap64 (((rd_T90 x0 x10).f1) + x3)⟩ : S90)]) (wrap64 (x10 + 1))) else (none)) else (none)) else (none)) else (some x9)
def spec_l13Shift.f (k : Nat) (l0 : List (S90)) (a1 : Int) (a2 : Int) (a3 : Int) : Option ((List (S90))) := spec_l13Shift.l0 k l0 a2 a3 (([] : List (S90))) a1
def spec_l13Shift.T5 : Bool × List (List Nat × List Nat) := (true, [([], []), ([], []), ([], []), ([1, 2], [1, 2]), ([3], [3]), ([4], [4]), ([], []), ([], []), ([6, 7], [6, 7]), ([8], [8]), ([9], [9]), ([], []), ([10, 11], [10, 11]), ([5, 12], [5, 12]), ([13], [13]), ([0, 14], [0, 14]), ([15, 15, 0, 1, 2, 3, 4, 5, 6, 7, 8, 9, 10, 11, 12, 13, 14, 15], [0, 15])])
def spec_l13Shift.B5 : List Nat := [0, 0, 0, 6, 14, 30, 0, 0, 192, 448, 960, 0, 4032, 8190, 16382, 32767, 65535]
theorem spec_l13Shift.tab5 : rtab .any (opsOf Try.f101 5) = spec_l13Shift.T5 := by kernel_rfl
theorem spec_l13Shift.bits5 : waitsOk spec_l13Shift.T5.2 spec_l13Shift.B5 = true := by kernel_rfl
set_option maxHeartbeats 8000000 in
set_option maxRecDepth 100000 in
theorem spec_l13Shift.calls (k : Nat) (A0 : Option Addr) (c0 : Nat) (l0 : List (S90)) (a1 : Int) (a2 : Int) (a3 : Int) (r : List (S90)) (w : World) (hr0 : Kd.C k90 w A0 l0.length l0) (hc0 : l0.length ≤ c0) (h : spec_l13Shift.f k l0 a1 a2 a3 = some r) :
  Calls Try.prog 101 #[.slice A0 l0.length c0, .int .i64 a1, .int .i64 a2, .int .i64 a3] w fun e w' => ∃ v0_ : Value, e = .returned (v0_) ∧ Kd.R k90 90 w' w.heap.size (fun _ => True) v0_ r ∧ Below w.heap.size w w' := by
 have hu90 := Try.underlying90
 have HR0 := Aside0.mk hr0
 have HC0 := Aside0.mk hc0
 clear hr0 hc0
 have HB := Aside0.mk (Below.refl w.heap.size w)
 have H : (spec_l13Shift.l0 k l0 a2 a3 (([] : List (S90))) a1) = some r := h
 clear h
 obtain ⟨y864, hy864⟩ : ∃ y_ : List (S90), y_ = (([] : List (S90))) := ⟨_, rfl⟩
 replace H : (spec_l13Shift.l0 k l0 a2 a3 y864 a1) = some r := by first | (rw [hy864]; with_reducible exact H) | (have H2_ := (Option.bind_some _ _).symm.trans H; rw [hy864]; with_reducible exact H2_) | (have H2_ := (Option.bind_some _ _).symm.trans H; with_reducible exact H2_) | with_reducible exact H | (rw [hy864]; exact H) | exact H
 have Ny864 := Aside0.mk hy864
 clear hy864
 have H' := Aside0.mk H
 clear H
 go_enter Try.func101, Try.ntmps101
 go_wp2_with (first | ((with_reducible refine gate_dst (N := 11) rfl ?_); refine Kd.R_lit k90 _ 90 ?hg (N := 11) ?hd (xs := ([] : List (S90))) (inner := []) (ok := fun _ => True) (okp := fun _ => True) ?hr ?hp (fun _ hk => hk) trivial (Below.refl _ _) (Nat.le_refl _) (by simp) ?_; (case hd => rfl); (case hg => rfl); (case hr => first | (go_simp; done) | (go_simp; rfl)); (case hp => exact (Reps.none _ _)); intro v865 w5 ho6 hb hg_ hnew_; clear hg_ hnew_; (first | rw [← Ny864.out] at ho6 | (simp only [Int.reduceToNat] at ho6; rw [← Ny864.out] at ho6)); have n0_ := Aside0.mk (Kd.R_lower ho6 (below_size (by repeat (first | (with_reducible first | exact HB.out | apply below_alloc | apply pw_below_drewN | apply below_drew1) | exact HB.out)))); have n1_ := Aside0.mk (below_step (by repeat (first | (with_reducible first | exact HB.out | apply below_alloc | apply pw_below_drewN | apply below_drew1) | exact HB.out)) hb); clear HB; have HO866 := n0_; have HB := n1_; clear n0_ n1_; clear hb ho6))
 go_loopg [9, 10] k (fun kq v9 v10 w' => ∃ (x9_1 : List (S90)) (x10_1 : Int), v10 = .int .i64 x10_1 ∧ Aside0 (spec_l13Shift.l0 kq l0 a2 a3 x9_1 x10_1 = some r) ∧ Aside0 (kq ≤ k) ∧ Aside0 (Kd.R k90 90 w' w.heap.size (fun _ => True) v9 x9_1) ∧ Aside0 (Below w.heap.size w w'))
 case atStart => exact ⟨(y864), (a1), (by first | rfl | (simp; done) | (simp [*]; done)), H', ⟨Nat.le_refl _⟩, ⟨by (with_reducible repeat (first | apply Kd.R_alloc | apply Kd.R_drewN | apply Kd.R_drew)); exact HO866.out⟩, ⟨by repeat (first | (with_reducible first | exact HB.out | apply below_alloc | apply pw_below_drewN | apply below_drew1) | exact HB.out)⟩⟩
 case round =>
  clear H'
  try clear c1
  try clear p2
  obtain ⟨x9_1, x10_1, rfl, HA, HK1, HO_9, HB⟩ := hrel
  cases gk with
  | zero => exact absurd HA.out (by simp [spec_l13Shift.l0])
  | succ k1 =>
   have H := HA.out
   clear HA
   simp only [spec_l13Shift.l0] at H
   by_cases c7 : x10_1 < a2
   ·rw [if_pos c7] at H
    have c7b0 : decide (x10_1 < a2) = true := decide_eq_true c7
    clear c7
    by_cases c8 : 0 ≤ x10_1
    ·rw [if_pos c8] at H
     have c8b0 : decide (0 ≤ x10_1) = true := decide_eq_true c8
     clear c8
     by_cases c9 : x10_1 < (l0.length : Int)
     ·rw [if_pos c9] at H
      have c9b0 : decide (x10_1 < (l0.length : Int)) = true := decide_eq_true c9
      clear c9
      by_cases c10 : x9_1.length < 8796093022208
      ·rw [if_pos c10] at H
       have LMc10 := Aside0.mk c10
       clear c10
       obtain ⟨y869, hy869⟩ : ∃ y_ : List (S90), y_ = (x9_1 ++ [(⟨(rd_T90 l0 x10_1).f0, wrap64 (((rd_T90 l0 x10_1).f1) + a3)⟩ : S90)]) := ⟨_, rfl⟩
       replace H : (spec_l13Shift.l0 k1 l0 a2 a3 y869 (wrap64 (x10_1 + 1))) = some r := by first | (rw [hy869]; with_reducible exact H) | (have H2_ := (Option.bind_some _ _).symm.trans H; rw [hy869]; with_reducible exact H2_) | (have H2_ := (Option.bind_some _ _).symm.trans H; with_reducible exact H2_) | with_reducible exact H | (rw [hy869]; exact H) | exact H
       have Ny869 := Aside0.mk hy869
       clear hy869
       have H' := Aside0.mk H
       clear H
       try go_wp2
       have n0_ := Aside0.mk (Kd.R_drew HO_9.out)
       have n1_ := Aside0.mk (below_drew1 HB.out)
       clear HO_9
       clear HB
       have HO_9 := n0_
       have HB := n1_
       clear n0_ n1_
       have p867 : 0 ≤ (x10_1 : Int) := of_decide_eq_true (by first | (with_reducible assumption) | assumption)
       have q867 : x10_1 < (l0.length : Int) := of_decide_eq_true (by first | (with_reducible assumption) | assumption)
       obtain ⟨ad867, e867, hx867_0, hx867_1⟩ := at_T90 HR0.out x10_1 p867 q867
       have hw867_1 := hx867_1
       have hw867_0 := hx867_0
       cases e867
       replace hx867_0 := (HB.out.cell (World.block_lt_of_cell? w _ hx867_0)).trans hx867_0
       replace hx867_1 := (HB.out.cell (World.block_lt_of_cell? w _ hx867_1)).trans hx867_1
       replace p867 := eq_true p867
       replace q867 := eq_true q867
       have p868 : 0 ≤ (x10_1 : Int) := of_decide_eq_true (by first | (with_reducible assumption) | assumption)
       have q868 : x10_1 < (l0.length : Int) := of_decide_eq_true (by first | (with_reducible assumption) | assumption)
       obtain ⟨ad868, e868, hx868_0, hx868_1⟩ := at_T90 HR0.out x10_1 p868 q868
       have hw868_1 := hx868_1
       have hw868_0 := hx868_0
       obtain rfl : ad867 = ad868 := (by injection e868)
       replace hx868_0 := (HB.out.cell (World.block_lt_of_cell? w _ hx868_0)).trans hx868_0
       replace hx868_1 := (HB.out.cell (World.block_lt_of_cell? w _ hx868_1)).trans hx868_1
       replace p868 := eq_true p868
       replace q868 := eq_true q868
       refine start_ (n := 17) (S := fun w' => w'.cell? (ad867.add ((x10_1).toNat * 2)) = some (.int .i64 ((rd_T90 l0 x10_1).f0)) ∧ w'.cell? ⟨(ad867.add ((x10_1).toNat * 2)).block, (ad867.add ((x10_1).toNat * 2)).off + 1, none⟩ = some (.int .i64 ((rd_T90 l0 x10_1).f1)) ∧ w'.cell? (ad867.add ((x10_1).toNat * 2)) = some (.int .i64 ((rd_T90 l0 x10_1).f0)) ∧ w'.cell? ⟨(ad867.add ((x10_1).toNat * 2)).block, (ad867.add ((x10_1).toNat * 2)).off + 1, none⟩ = some (.int .i64 ((rd_T90 l0 x10_1).f1))) (ds := []) (ba_ 17 0) (by kernel_rfl) rfl rfl ⟨((HB.out.cell (World.block_lt_of_cell? w _ hw867_0)).trans hw867_0), ((HB.out.cell (World.block_lt_of_cell? w _ hw867_1)).trans hw867_1), ((HB.out.cell (World.block_lt_of_cell? w _ hw868_0)).trans hw868_0), ((HB.out.cell (World.block_lt_of_cell? w _ hw868_1)).trans hw868_1)⟩ (fun hHeld => ?_); refine with_tabW spec_l13Shift.tab5 spec_l13Shift.bits5 (fun HT_ HW_ => ?_)
       generalize wr.drew = w11 at HO_9 HB hx867_0 hx867_1 hx868_0 hx868_1 hHeld ⊢
       refine pu_ 0 (some 18) (ba_ 17 1) rfl rfl (any_of HT_.out (by kernel_rfl)) ?_
       refine pu_ 1 (some 19) (ba_ 17 3) rfl rfl (any_of HT_.out (by kernel_rfl)) ?_
       refine pu_ 2 (some 20) (ba_ 17 7) rfl rfl (any_of HT_.out (by kernel_rfl)) ?_
       refine pu_ 3 (some 21) (ba_ 17 15) rfl rfl (any_of HT_.out (by kernel_rfl)) ?_
       refine pu_ 4 (some 22) (ba_ 17 31) rfl rfl (any_of HT_.out (by kernel_rfl)) ?_
       refine pu_ 6 (some 24) (ba_ 17 95) rfl rfl (any_of HT_.out (by kernel_rfl)) ?_
       refine pu_ 7 (some 25) (ba_ 17 223) rfl rfl (any_of HT_.out (by kernel_rfl)) ?_
       refine pu_ 8 (some 26) (ba_ 17 479) rfl rfl (any_of HT_.out (by kernel_rfl)) ?_
       refine pu_ 9 (some 27) (ba_ 17 991) rfl rfl (any_of HT_.out (by kernel_rfl)) ?_
       refine pu_ 11 (some 29) (ba_ 17 3039) rfl rfl (any_of HT_.out (by kernel_rfl)) ?_
       refine ta_ 5 (some 23) (ba_ 17 3071) rfl rfl (take_ofW HT_.out HW_.out (by kernel_rfl)) hHeld (by rintro w' ⟨s0, s1, s2, s3⟩; go_simp; with_reducible rfl) ?_
       refine ta_ 10 (some 28) (ba_ 17 4095) rfl rfl (take_ofW HT_.out HW_.out (by kernel_rfl)) hHeld (by rintro w' ⟨s0, s1, s2, s3⟩; go_simp; with_reducible rfl) ?_
       refine pu_ 12 (some 30) (ba_ 17 8191) rfl rfl (any_of HT_.out (by kernel_rfl)) ?_
       refine pu_ 13 (some 31) (ba_ 17 16383) rfl rfl (any_of HT_.out (by kernel_rfl)) ?_
       refine one_ (i := 14) (N := some 32) (ba_ 17 32767) rfl rfl (one_of HT_.out (by kernel_rfl)) (by decide) (fun K hK => ?_)
       refine value_ (w1 := ?_) (v := ?_) (by rfl) rfl ?_ ?_
       rotate_left 2
       ·go_simp
        constructor
        ·rfl
        ·rfl
       refine hK.out _ _ ⟨(World.cell?_alloc_lt _ _ _ (World.block_lt_of_cell? _ _ (((HB.out.cell (World.block_lt_of_cell? w _ hw867_0)).trans hw867_0)))).trans (((HB.out.cell (World.block_lt_of_cell? w _ hw867_0)).trans hw867_0)), (World.cell?_alloc_lt _ _ _ (World.block_lt_of_cell? _ _ (((HB.out.cell (World.block_lt_of_cell? w _ hw867_1)).trans hw867_1)))).trans (((HB.out.cell (World.block_lt_of_cell? w _ hw867_1)).trans hw867_1)), (World.cell?_alloc_lt _ _ _ (World.block_lt_of_cell? _ _ (((HB.out.cell (World.block_lt_of_cell? w _ hw868_0)).trans hw868_0)))).trans (((HB.out.cell (World.block_lt_of_cell? w _ hw868_0)).trans hw868_0)), (World.cell?_alloc_lt _ _ _ (World.block_lt_of_cell? _ _ (((HB.out.cell (World.block_lt_of_cell? w _ hw868_1)).trans hw868_1)))).trans (((HB.out.cell (World.block_lt_of_cell? w _ hw868_1)).trans hw868_1))⟩ (fun hHeld => ?_)
       clear hK K
       refine norm_ (a' := ?_) ?_ ?_
       rotate_left
       ·show Act.put _ (some 32) _ = _
        simp only [Act.put, List.setIfInBounds_toArray, List.set_cons_zero, List.set_cons_succ, i64_w, i32_w]
        rfl
       refine one_ (i := 15) (N := some 33) (ba_ 17 65535) rfl rfl (one_of HT_.out (by kernel_rfl)) (by decide) (fun K hK => ?_)
       refine Kd.R_append_step k90 (w0 := w) w.heap.size (by rfl) (.tmp 18) (.tmp 32) 34 90 (.agg #[(.int .i64 0), (.int .i64 0)]) 16 rfl Try.underlying34 info90 rfl (by decide) (by omega) u9 x9_1 (⟨(rd_T90 l0 x10_1).f0, wrap64 (((rd_T90 l0 x10_1).f1) + a3)⟩ : S90) [.int .i64 ((rd_T90 l0 x10_1).f0), .int .i64 (wrap64 (((rd_T90 l0 x10_1).f1) + a3))] (fun _ => True) (fun _ => False) rfl rfl ?aP (fun _ hk => hk.elim) ?aF ?aO ?aB ?aS ?aL ?_
       (case aP => exact k90_mkM _ _ _ (⟨(rd_T90 l0 x10_1).f0, wrap64 (((rd_T90 l0 x10_1).f1) + a3)⟩ : S90))
       (case aB => exact (by repeat (first | (with_reducible first | exact HB.out | apply below_alloc | apply pw_below_drewN | apply below_drew1) | exact HB.out)))
       (case aF => exact (fun _ _ => trivial))
       (case aO => exact (by (with_reducible repeat (first | apply Kd.R_alloc | apply Kd.R_drewN | apply Kd.R_drew)); exact HO_9.out))
       (case aS => exact (below_size (by repeat (first | (with_reducible first | exact HB.out | apply below_alloc | apply pw_below_drewN | apply below_drew1) | exact HB.out))))
       (case aL => have := LMc10.out; omega)
       intro v870 w12 ho hb hg hat
       rw [← Ny869.out] at ho
       have n0_ := Aside0.mk (hb)
       have n1_ := Aside0.mk (ho)
       clear HB
       clear HO_9
       have HB := n0_
       have HO871 := n1_
       clear n0_ n1_
       clear ho hb hg hat
       refine hK.out _ _ ⟨((HB.out.cell (World.block_lt_of_cell? w _ hw867_0)).trans hw867_0), ((HB.out.cell (World.block_lt_of_cell? w _ hw867_1)).trans hw867_1), ((HB.out.cell (World.block_lt_of_cell? w _ hw868_0)).trans hw868_0), ((HB.out.cell (World.block_lt_of_cell? w _ hw868_1)).trans hw868_1)⟩ (fun hHeld => ?_)
       clear hK K
       refine norm_ (a' := ?_) ?_ ?_
       rotate_left
       ·show Act.put _ (some 33) _ = _
        simp only [Act.put, List.setIfInBounds_toArray, List.set_cons_zero, List.set_cons_succ, i64_w, i32_w]
        rfl
       refine pu_ 16 (some 9) (ba_ 17 131071) rfl rfl (any_of HT_.out (by kernel_rfl)) ?_
       refine done_ (done_of HT_.out (by kernel_rfl)) ?_
       try go_wp2
       go_roundg k1
       case measure => have := HK1.out; omega
       case rel => exact ⟨(y869), (wrap64 (x10_1 + 1)), (by first | rfl | (simp; done) | (simp [*]; done)), H', ⟨by have := HK1.out; omega⟩, ⟨by (with_reducible repeat (first | apply Kd.R_alloc | apply Kd.R_drewN | apply Kd.R_drew)); exact HO871.out⟩, ⟨by repeat (first | (with_reducible first | exact HB.out | apply below_alloc | apply pw_below_drewN | apply below_drew1) | exact HB.out)⟩⟩
      ·rw [if_neg c10] at H
       exact absurd H (by simp)
     ·rw [if_neg c9] at H
      exact absurd H (by simp)
    ·rw [if_neg c8] at H
     exact absurd H (by simp)
   ·rw [if_neg c7] at H
    have c7b0 : decide (x10_1 < a2) = false := decide_eq_false c7
    clear c7
    obtain rfl := Option.some.inj H
    go_wp2
    go_ret
    exact ⟨_, by first | rfl | (simp [errW_none, errW_some] <;> rfl) | (simp [*, errW_none, errW_some] <;> rfl), by (with_reducible repeat (first | apply Kd.R_alloc | apply Kd.R_drewN | apply Kd.R_drew)); exact HO_9.out, by repeat (first | (with_reducible first | exact HB.out | apply below_alloc | apply pw_below_drewN | apply below_drew1) | exact HB.out)⟩
end Go.Proofs.Ytbifdckfglejkaa.X
namespace Go.Proofs.Ytbifdckfglejkaa.X
open Go.RowKit Go.Proofs.YtbifdckfglejkaaW.PrintWords Go.Proofs.YtbifdckfglejkaaW.PrintLast Go.Proofs.YtbifdckfglejkaaW.PrintMore
attribute [local go_sem] max2_int min2_int max_two min_two max_three min_three max_four min_four   -- for this text's walks alone
set_option linter.unusedVariables false
set_option linter.unusedSimpArgs false
def spec_ApplyOp.f (k : Nat) (l0 : List (S90)) (a1_0 : Int) (l1_1 : List Int) (a1_2 : Int) (a1_3 : Int) (a1_4 : Int) : Option ((List (S90)) × Int) := (spec_TreeOk.f k l0).bind fun t873 => (if t873 = true then ((spec_NodeAt.f k l0 l1_1).bind fun t877 => ((spec_l3Copy.f l0).bind fun t878 => ((spec_l13Code.f k l0 a1_0 l1_1 a1_2 a1_3 a1_4 t877).bind fun bt881 => (if bt881.1 = 0 then (if a1_0 = 1 then (if 0 ≤ t877 then (if t877 < (t878.length : Int) then (some ((t878.set (t877 : Int).toNat (⟨a1_2, (rd_T90 t878 t877).f1⟩ : S90)), bt881.1)) else (none)) else (none)) else (if a1_0 = 2 then ((spec_EndOf.f k l0 t877).bind fun t885 => ((spec_l13Shift.f k l0 0 t877 0).bind fun t886 => ((spec_l13Shift.f k l0 (wrap64 (t877 + 1)) t885 (-1)).bind fun t889 => (if t886.length + t889.length < 8796093022208 then ((some (t886 ++ t889 : List (S90))).bind fun y892 => ((spec_l13Shift.f k l0 t885 (l0.length : Int) 0).bind fun t895 => (if y892.length + t895.length < 8796093022208 then (some ((y892 ++ t895), bt881.1)) else (none)))) else (none))))) else ((spec_l13Shift.f k l0 0 bt881.2.1 0).bind fun t901 => (if 0 ≤ t877 then (if t877 < (l0.length : Int) then ((some (([(⟨a1_2, wrap64 (((rd_T90 l0 t877).f1) + 1)⟩ : S90)] : List (S90)) : List (S90))).bind fun y905 => (if t901.length + y905.length < 8796093022208 then ((some (t901 ++ y905 : List (S90))).bind fun y908 => ((spec_l13Shift.f k l0 bt881.2.1 bt881.2.2 1).bind fun t911 => (if y908.length + t911.length < 8796093022208 then ((some (y908 ++ t911 : List (S90))).bind fun y914 => ((spec_l13Shift.f k l0 bt881.2.2 (l0.length : Int) 0).bind fun t917 => (if y914.length + t917.length < 8796093022208 then (some ((y914 ++ t917), bt881.1)) else (none)))) else (none)))) else (none))) else (none)) else (none))))) else (some (t878, bt881.1)))))) else (some ((([] : List (S90))), 2)))
def spec_ApplyOp.T16 : Bool × List (List Nat × List Nat) := (true, [([], []), ([], []), ([0, 1], [0, 1]), ([], []), ([3], [3]), ([], []), ([], []), ([5, 6], [5, 6]), ([7], [7]), ([8], [8]), ([9], [9]), ([4, 10], [4, 10]), ([11], [11]), ([2, 12, 2], [2, 12]), ([13, 13, 0, 1, 2, 3, 4, 5, 6, 7, 8, 9, 10, 11, 12, 13], [13])])
def spec_ApplyOp.B16 : List Nat := [0, 0, 3, 0, 8, 0, 0, 96, 224, 480, 992, 2040, 4088, 8191, 16383]
theorem spec_ApplyOp.tab16 : rtab .any (opsOf Try.f44 16) = spec_ApplyOp.T16 := by kernel_rfl
theorem spec_ApplyOp.bits16 : waitsOk spec_ApplyOp.T16.2 spec_ApplyOp.B16 = true := by kernel_rfl
set_option maxHeartbeats 8000000 in
set_option maxRecDepth 100000 in
theorem spec_ApplyOp.calls (k : Nat) (A0 : Option Addr) (c0 : Nat) (l0 : List (S90)) (a1_0 : Int) (A1_1 : Option Addr) (c1_1 : Nat) (l1_1 : List Int) (a1_2 : Int) (a1_3 : Int) (a1_4 : Int) (r1 : List (S90)) (r2 : Int) (w : World) (hr0 : Kd.C k90 w A0 l0.length l0) (hc0 : l0.length ≤ c0) (hr1_1 : Kd.C (Kd.int .i64) w A1_1 l1_1.length l1_1) (hc1_1 : l1_1.length ≤ c1_1) (h : spec_ApplyOp.f k l0 a1_0 l1_1 a1_2 a1_3 a1_4 = some (r1, r2)) :
  Calls Try.prog 44 #[.slice A0 l0.length c0, .agg #[.int .i64 a1_0, .slice A1_1 l1_1.length c1_1, .int .i64 a1_2, .int .i64 a1_3, .int .i64 a1_4]] w fun e w' => ∃ v0_ : Value, e = .returned (.tuple #[v0_, .int .i64 r2]) ∧ Kd.R k90 90 w' w.heap.size (fun _ => True) v0_ r1 ∧ Below w.heap.size w w' := by
 have hu67 := Try.underlying67
 have hu90 := Try.underlying90
 have HR0 := Aside0.mk hr0
 have HC0 := Aside0.mk hc0
 clear hr0 hc0
 have HR1_1 := Aside0.mk hr1_1
 have HC1_1 := Aside0.mk hc1_1
 clear hr1_1 hc1_1
 have HB := Aside0.mk (Below.refl w.heap.size w)
 have H : ((spec_TreeOk.f k l0).bind fun t873 => (if t873 = true then ((spec_NodeAt.f k l0 l1_1).bind fun t877 => ((spec_l3Copy.f l0).bind fun t878 => ((spec_l13Code.f k l0 a1_0 l1_1 a1_2 a1_3 a1_4 t877).bind fun bt881 => (if bt881.1 = 0 then (if a1_0 = 1 then (if 0 ≤ t877 then (if t877 < (t878.length : Int) then (some ((t878.set (t877 : Int).toNat (⟨a1_2, (rd_T90 t878 t877).f1⟩ : S90)), bt881.1)) else (none)) else (none)) else (if a1_0 = 2 then ((spec_EndOf.f k l0 t877).bind fun t885 => ((spec_l13Shift.f k l0 0 t877 0).bind fun t886 => ((spec_l13Shift.f k l0 (wrap64 (t877 + 1)) t885 (-1)).bind fun t889 => (if t886.length + t889.length < 8796093022208 then ((some (t886 ++ t889 : List (S90))).bind fun y892 => ((spec_l13Shift.f k l0 t885 (l0.length : Int) 0).bind fun t895 => (if y892.length + t895.length < 8796093022208 then (some ((y892 ++ t895), bt881.1)) else (none)))) else (none))))) else ((spec_l13Shift.f k l0 0 bt881.2.1 0).bind fun t901 => (if 0 ≤ t877 then (if t877 < (l0.length : Int) then ((some (([(⟨a1_2, wrap64 (((rd_T90 l0 t877).f1) + 1)⟩ : S90)] : List (S90)) : List (S90))).bind fun y905 => (if t901.length + y905.length < 8796093022208 then ((some (t901 ++ y905 : List (S90))).bind fun y908 => ((spec_l13Shift.f k l0 bt881.2.1 bt881.2.2 1).bind fun t911 => (if y908.length + t911.length < 8796093022208 then ((some (y908 ++ t911 : List (S90))).bind fun y914 => ((spec_l13Shift.f k l0 bt881.2.2 (l0.length : Int) 0).bind fun t917 => (if y914.length + t917.length < 8796093022208 then (some ((y914 ++ t917), bt881.1)) else (none)))) else (none)))) else (none))) else (none)) else (none))))) else (some (t878, bt881.1)))))) else (some ((([] : List (S90))), 2)))) = some (r1, r2) := h
 clear h
 replace H := Option.bind_eq_some_iff.mp H
 obtain ⟨t873, A30, H⟩ := H
 replace H : (if t873 = true then ((spec_NodeAt.f k l0 l1_1).bind fun t877 => ((spec_l3Copy.f l0).bind fun t878 => ((spec_l13Code.f k l0 a1_0 l1_1 a1_2 a1_3 a1_4 t877).bind fun bt881 => (if bt881.1 = 0 then (if a1_0 = 1 then (if 0 ≤ t877 then (if t877 < (t878.length : Int) then (some ((t878.set (t877 : Int).toNat (⟨a1_2, (rd_T90 t878 t877).f1⟩ : S90)), bt881.1)) else (none)) else (none)) else (if a1_0 = 2 then ((spec_EndOf.f k l0 t877).bind fun t885 => ((spec_l13Shift.f k l0 0 t877 0).bind fun t886 => ((spec_l13Shift.f k l0 (wrap64 (t877 + 1)) t885 (-1)).bind fun t889 => (if t886.length + t889.length < 8796093022208 then ((some (t886 ++ t889 : List (S90))).bind fun y892 => ((spec_l13Shift.f k l0 t885 (l0.length : Int) 0).bind fun t895 => (if y892.length + t895.length < 8796093022208 then (some ((y892 ++ t895), bt881.1)) else (none)))) else (none))))) else ((spec_l13Shift.f k l0 0 bt881.2.1 0).bind fun t901 => (if 0 ≤ t877 then (if t877 < (l0.length : Int) then ((some (([(⟨a1_2, wrap64 (((rd_T90 l0 t877).f1) + 1)⟩ : S90)] : List (S90)) : List (S90))).bind fun y905 => (if t901.length + y905.length < 8796093022208 then ((some (t901 ++ y905 : List (S90))).bind fun y908 => ((spec_l13Shift.f k l0 bt881.2.1 bt881.2.2 1).bind fun t911 => (if y908.length + t911.length < 8796093022208 then ((some (y908 ++ t911 : List (S90))).bind fun y914 => ((spec_l13Shift.f k l0 bt881.2.2 (l0.length : Int) 0).bind fun t917 => (if y914.length + t917.length < 8796093022208 then (some ((y914 ++ t917), bt881.1)) else (none)))) else (none)))) else (none))) else (none)) else (none))))) else (some (t878, bt881.1)))))) else (some ((([] : List (S90))), 2))) = some (r1, r2) := H
 have A3 := Aside0.mk A30
 clear A30
 by_cases c4 : t873 = true
 ·subst c4
  have H1 : ((spec_NodeAt.f k l0 l1_1).bind fun t877 => ((spec_l3Copy.f l0).bind fun t878 => ((spec_l13Code.f k l0 a1_0 l1_1 a1_2 a1_3 a1_4 t877).bind fun bt881 => (if bt881.1 = 0 then (if a1_0 = 1 then (if 0 ≤ t877 then (if t877 < (t878.length : Int) then (some ((t878.set (t877 : Int).toNat (⟨a1_2, (rd_T90 t878 t877).f1⟩ : S90)), bt881.1)) else (none)) else (none)) else (if a1_0 = 2 then ((spec_EndOf.f k l0 t877).bind fun t885 => ((spec_l13Shift.f k l0 0 t877 0).bind fun t886 => ((spec_l13Shift.f k l0 (wrap64 (t877 + 1)) t885 (-1)).bind fun t889 => (if t886.length + t889.length < 8796093022208 then ((some (t886 ++ t889 : List (S90))).bind fun y892 => ((spec_l13Shift.f k l0 t885 (l0.length : Int) 0).bind fun t895 => (if y892.length + t895.length < 8796093022208 then (some ((y892 ++ t895), bt881.1)) else (none)))) else (none))))) else ((spec_l13Shift.f k l0 0 bt881.2.1 0).bind fun t901 => (if 0 ≤ t877 then (if t877 < (l0.length : Int) then ((some (([(⟨a1_2, wrap64 (((rd_T90 l0 t877).f1) + 1)⟩ : S90)] : List (S90)) : List (S90))).bind fun y905 => (if t901.length + y905.length < 8796093022208 then ((some (t901 ++ y905 : List (S90))).bind fun y908 => ((spec_l13Shift.f k l0 bt881.2.1 bt881.2.2 1).bind fun t911 => (if y908.length + t911.length < 8796093022208 then ((some (y908 ++ t911 : List (S90))).bind fun y914 => ((spec_l13Shift.f k l0 bt881.2.2 (l0.length : Int) 0).bind fun t917 => (if y914.length + t917.length < 8796093022208 then (some ((y914 ++ t917), bt881.1)) else (none)))) else (none)))) else (none))) else (none)) else (none))))) else (some (t878, bt881.1)))))) = some (r1, r2) := by rw [if_pos rfl] at H; exact H
  clear H
  have H := H1
  clear H1
  replace H := Option.bind_eq_some_iff.mp H
  obtain ⟨t877, A50, H⟩ := H
  replace H : ((spec_l3Copy.f l0).bind fun t878 => ((spec_l13Code.f k l0 a1_0 l1_1 a1_2 a1_3 a1_4 t877).bind fun bt881 => (if bt881.1 = 0 then (if a1_0 = 1 then (if 0 ≤ t877 then (if t877 < (t878.length : Int) then (some ((t878.set (t877 : Int).toNat (⟨a1_2, (rd_T90 t878 t877).f1⟩ : S90)), bt881.1)) else (none)) else (none)) else (if a1_0 = 2 then ((spec_EndOf.f k l0 t877).bind fun t885 => ((spec_l13Shift.f k l0 0 t877 0).bind fun t886 => ((spec_l13Shift.f k l0 (wrap64 (t877 + 1)) t885 (-1)).bind fun t889 => (if t886.length + t889.length < 8796093022208 then ((some (t886 ++ t889 : List (S90))).bind fun y892 => ((spec_l13Shift.f k l0 t885 (l0.length : Int) 0).bind fun t895 => (if y892.length + t895.length < 8796093022208 then (some ((y892 ++ t895), bt881.1)) else (none)))) else (none))))) else ((spec_l13Shift.f k l0 0 bt881.2.1 0).bind fun t901 => (if 0 ≤ t877 then (if t877 < (l0.length : Int) then ((some (([(⟨a1_2, wrap64 (((rd_T90 l0 t877).f1) + 1)⟩ : S90)] : List (S90)) : List (S90))).bind fun y905 => (if t901.length + y905.length < 8796093022208 then ((some (t901 ++ y905 : List (S90))).bind fun y908 => ((spec_l13Shift.f k l0 bt881.2.1 bt881.2.2 1).bind fun t911 => (if y908.length + t911.length < 8796093022208 then ((some (y908 ++ t911 : List (S90))).bind fun y914 => ((spec_l13Shift.f k l0 bt881.2.2 (l0.length : Int) 0).bind fun t917 => (if y914.length + t917.length < 8796093022208 then (some ((y914 ++ t917), bt881.1)) else (none)))) else (none)))) else (none))) else (none)) else (none))))) else (some (t878, bt881.1))))) = some (r1, r2) := H
  have A5 := Aside0.mk A50
  clear A50
  replace H := Option.bind_eq_some_iff.mp H
  obtain ⟨t878, A60, H⟩ := H
  replace H : ((spec_l13Code.f k l0 a1_0 l1_1 a1_2 a1_3 a1_4 t877).bind fun bt881 => (if bt881.1 = 0 then (if a1_0 = 1 then (if 0 ≤ t877 then (if t877 < (t878.length : Int) then (some ((t878.set (t877 : Int).toNat (⟨a1_2, (rd_T90 t878 t877).f1⟩ : S90)), bt881.1)) else (none)) else (none)) else (if a1_0 = 2 then ((spec_EndOf.f k l0 t877).bind fun t885 => ((spec_l13Shift.f k l0 0 t877 0).bind fun t886 => ((spec_l13Shift.f k l0 (wrap64 (t877 + 1)) t885 (-1)).bind fun t889 => (if t886.length + t889.length < 8796093022208 then ((some (t886 ++ t889 : List (S90))).bind fun y892 => ((spec_l13Shift.f k l0 t885 (l0.length : Int) 0).bind fun t895 => (if y892.length + t895.length < 8796093022208 then (some ((y892 ++ t895), bt881.1)) else (none)))) else (none))))) else ((spec_l13Shift.f k l0 0 bt881.2.1 0).bind fun t901 => (if 0 ≤ t877 then (if t877 < (l0.length : Int) then ((some (([(⟨a1_2, wrap64 (((rd_T90 l0 t877).f1) + 1)⟩ : S90)] : List (S90)) : List (S90))).bind fun y905 => (if t901.length + y905.length < 8796093022208 then ((some (t901 ++ y905 : List (S90))).bind fun y908 => ((spec_l13Shift.f k l0 bt881.2.1 bt881.2.2 1).bind fun t911 => (if y908.length + t911.length < 8796093022208 then ((some (y908 ++ t911 : List (S90))).bind fun y914 => ((spec_l13Shift.f k l0 bt881.2.2 (l0.length : Int) 0).bind fun t917 => (if y914.length + t917.length < 8796093022208 then (some ((y914 ++ t917), bt881.1)) else (none)))) else (none)))) else (none))) else (none)) else (none))))) else (some (t878, bt881.1)))) = some (r1, r2) := H
  have A6 := Aside0.mk A60
  clear A60
  replace H := Option.bind_eq_some_iff.mp H
  obtain ⟨⟨t881, t882, t883⟩, A70, H⟩ := H
  replace H : (if t881 = 0 then (if a1_0 = 1 then (if 0 ≤ t877 then (if t877 < (t878.length : Int) then (some ((t878.set (t877 : Int).toNat (⟨a1_2, (rd_T90 t878 t877).f1⟩ : S90)), t881)) else (none)) else (none)) else (if a1_0 = 2 then ((spec_EndOf.f k l0 t877).bind fun t885 => ((spec_l13Shift.f k l0 0 t877 0).bind fun t886 => ((spec_l13Shift.f k l0 (wrap64 (t877 + 1)) t885 (-1)).bind fun t889 => (if t886.length + t889.length < 8796093022208 then ((some (t886 ++ t889 : List (S90))).bind fun y892 => ((spec_l13Shift.f k l0 t885 (l0.length : Int) 0).bind fun t895 => (if y892.length + t895.length < 8796093022208 then (some ((y892 ++ t895), t881)) else (none)))) else (none))))) else ((spec_l13Shift.f k l0 0 t882 0).bind fun t901 => (if 0 ≤ t877 then (if t877 < (l0.length : Int) then ((some (([(⟨a1_2, wrap64 (((rd_T90 l0 t877).f1) + 1)⟩ : S90)] : List (S90)) : List (S90))).bind fun y905 => (if t901.length + y905.length < 8796093022208 then ((some (t901 ++ y905 : List (S90))).bind fun y908 => ((spec_l13Shift.f k l0 t882 t883 1).bind fun t911 => (if y908.length + t911.length < 8796093022208 then ((some (y908 ++ t911 : List (S90))).bind fun y914 => ((spec_l13Shift.f k l0 t883 (l0.length : Int) 0).bind fun t917 => (if y914.length + t917.length < 8796093022208 then (some ((y914 ++ t917), t881)) else (none)))) else (none)))) else (none))) else (none)) else (none))))) else (some (t878, t881))) = some (r1, r2) := H
  have A7 := Aside0.mk A70
  clear A70
  by_cases c8 : t881 = 0
  ·rw [if_pos c8] at H
   have c8b0 : (t881 == 0) = true := beq_iff_eq.mpr c8
   have c8b1 : (t881 != 0) = false := bne_eq_false_iff_eq.mpr c8
   clear c8
   by_cases c9 : a1_0 = 1
   ·rw [if_pos c9] at H
    have c9b0 : (a1_0 == 1) = true := beq_iff_eq.mpr c9
    have c9b1 : (a1_0 != 1) = false := bne_eq_false_iff_eq.mpr c9
    clear c9
    by_cases c10 : 0 ≤ t877
    ·rw [if_pos c10] at H
     have c10b0 : decide (0 ≤ t877) = true := decide_eq_true c10
     clear c10
     by_cases c11 : t877 < (t878.length : Int)
     ·rw [if_pos c11] at H
      have c11b0 : decide (t877 < (t878.length : Int)) = true := decide_eq_true c11
      clear c11
      obtain ⟨y884, hy884⟩ : ∃ y_ : List (S90), y_ = (t878.set (t877 : Int).toNat (⟨a1_2, (rd_T90 t878 t877).f1⟩ : S90)) := ⟨_, rfl⟩
      replace H : (some (y884, t881)) = some (r1, r2) := by first | (rw [hy884]; with_reducible exact H) | (have H2_ := (Option.bind_some _ _).symm.trans H; rw [hy884]; with_reducible exact H2_) | (have H2_ := (Option.bind_some _ _).symm.trans H; with_reducible exact H2_) | with_reducible exact H | (rw [hy884]; exact H) | exact H
      have Ny884 := Aside0.mk hy884
      clear hy884
      simp only [Option.some.injEq, Prod.mk.injEq] at H
      obtain ⟨rfl, rfl⟩ := H
      go_enter Try.func44, Try.ntmps44
      go_wp2_with (first | ((with_reducible refine gate_dst (N := 3) rfl ?_); refine box_event ?hg (N := 3) ?hd (cs := #[.int .i64 a1_0, .slice A1_1 l1_1.length c1_1, .int .i64 a1_2, .int .i64 a1_3, .int .i64 a1_4]) (t := 67) ?hr ?_; (case hd => rfl); (case hg => rfl); (case hr => first | (go_simp; done) | (go_simp; rfl)); intro gb872 hg w13 hbox hb; have n0_ := Aside0.mk (below_step (by repeat (first | (with_reducible first | exact HB.out | apply below_alloc | apply pw_below_drewN | apply below_drew1) | exact HB.out)) hb); have n1_ := Aside0.mk (hbox); have n2_ := Aside0.mk ((by rw [hg]; exact (below_size (by repeat (first | (with_reducible first | exact HB.out | apply below_alloc | apply pw_below_drewN | apply below_drew1) | exact HB.out))) : w.heap.size ≤ gb872)); have n3_ := Aside0.mk ((by rw [hg]; exact (below_size (by repeat (first | (with_reducible first | exact HB.out | apply below_alloc | apply pw_below_drewN | apply below_drew1) | exact HB.out))) : w.heap.size ≤ gb872)); clear HB; have HB := n0_; have BK872 := n1_; have GW872 := n2_; have GE872 := n3_; clear n0_ n1_ n2_ n3_; clear hb hbox hg) | ((with_reducible refine gate_callee (f := 64) rfl ?_); refine goesL_ (some 13) rfl rfl Try.func64 (by kernel_rfl) rfl #[.slice A0 l0.length c0] rfl (by (try simp only [List.map_toArray, List.map_cons, List.map_nil]); first | done | rfl | (simp only [List.length_drop, List.length_take]; rfl)) ?_; (with_reducible refine (spec_TreeOk.calls k _ _ l0 true _ ?side1 ?side2 A3.out).mono ?_); (case side1 => repeat (first | exact (Kd.C_below HR0.out HB.out) | (with_reducible refine Kd.C_alloc ?_ _) | (with_reducible refine Kd.C_drewN ?_ _) | (with_reducible refine Kd.C_drew ?_))); (case side2 => exact HC0.out); rintro e w14 ⟨rfl, hb⟩; refine ⟨_, rfl, ?_⟩; have n0_ := Aside0.mk (blk_below (g := gb872) (o := .cells #[.int .i64 a1_0, .slice A1_1 l1_1.length c1_1, .int .i64 a1_2, .int .i64 a1_3, .int .i64 a1_4] 67 (0, 0)) (by (with_reducible repeat (first | refine blk_drewN ?_ _ | refine blk_drew ?_ | refine blk_alloc ?_ _)); exact BK872.out) hb); have n1_ := Aside0.mk (below_step (by repeat (first | (with_reducible first | exact HB.out | apply below_alloc | apply pw_below_drewN | apply below_drew1 | refine below_set ?_ GE872.out) | exact HB.out)) hb); clear BK872; clear HB; have BK872 := n0_; have HB := n1_; clear n0_ n1_; (try clear hb); (try clear hb2); (try clear hk); (try clear hi); have hcz15_0 : w14.cell? ⟨gb872, 0, none⟩ = some (.int .i64 a1_0) := (blk_cell BK872.out 0).trans rfl; have hcz15_1 : w14.cell? ⟨gb872, 1, none⟩ = some (.slice A1_1 l1_1.length c1_1) := (blk_cell BK872.out 1).trans rfl; have hcz15_2 : w14.cell? ⟨gb872, 2, none⟩ = some (.int .i64 a1_2) := (blk_cell BK872.out 2).trans rfl; have hcz15_3 : w14.cell? ⟨gb872, 3, none⟩ = some (.int .i64 a1_3) := (blk_cell BK872.out 3).trans rfl; have hcz15_4 : w14.cell? ⟨gb872, 4, none⟩ = some (.int .i64 a1_4) := (blk_cell BK872.out 4).trans rfl; have hfz15_0 := blk_frozen BK872.out 0; have hfz15_1 := blk_frozen BK872.out 1; have hfz15_2 := blk_frozen BK872.out 2; have hfz15_3 := blk_frozen BK872.out 3; have hfz15_4 := blk_frozen BK872.out 4) | ((with_reducible refine gate_callee (f := 60) rfl ?_); refine goesL_ (some 19) rfl rfl Try.func60 (by kernel_rfl) rfl #[.slice A0 l0.length c0, .slice A1_1 l1_1.length c1_1] rfl (by (try simp only [List.map_toArray, List.map_cons, List.map_nil]); first | done | rfl | (simp only [List.length_drop, List.length_take]; rfl)) ?_; (with_reducible refine (spec_NodeAt.calls k _ _ l0 _ _ l1_1 t877 _ ?side1 ?side2 ?side3 ?side4 A5.out).mono ?_); (case side1 => repeat (first | exact (Kd.C_below HR0.out HB.out) | (with_reducible refine Kd.C_alloc ?_ _) | (with_reducible refine Kd.C_drewN ?_ _) | (with_reducible refine Kd.C_drew ?_))); (case side2 => exact HC0.out); (case side3 => repeat (first | exact (Kd.C_below HR1_1.out HB.out) | (with_reducible refine Kd.C_alloc ?_ _) | (with_reducible refine Kd.C_drewN ?_ _) | (with_reducible refine Kd.C_drew ?_))); (case side4 => exact HC1_1.out); rintro e w16 ⟨rfl, hb⟩; refine ⟨_, rfl, ?_⟩; have n0_ := Aside0.mk (blk_below (g := gb872) (o := .cells #[.int .i64 a1_0, .slice A1_1 l1_1.length c1_1, .int .i64 a1_2, .int .i64 a1_3, .int .i64 a1_4] 67 (0, 0)) (by (with_reducible repeat (first | refine blk_drewN ?_ _ | refine blk_drew ?_ | refine blk_alloc ?_ _)); exact BK872.out) hb); have n1_ := Aside0.mk (below_step (by repeat (first | (with_reducible first | exact HB.out | apply below_alloc | apply pw_below_drewN | apply below_drew1 | refine below_set ?_ GE872.out) | exact HB.out)) hb); clear BK872; clear HB; have BK872 := n0_; have HB := n1_; clear n0_ n1_; (try clear hb); (try clear hb2); (try clear hk); (try clear hi)) | ((with_reducible refine gate_callee (f := 98) rfl ?_); refine goesL_ (some 21) rfl rfl Try.func98 (by kernel_rfl) rfl #[.slice A0 l0.length c0] rfl (by (try simp only [List.map_toArray, List.map_cons, List.map_nil]); first | done | rfl | (simp only [List.length_drop, List.length_take]; rfl)) ?_; (with_reducible refine (spec_l3Copy.calls _ _ l0 t878 _ ?side1 ?side2 A6.out).mono ?_); (case side1 => repeat (first | exact (Kd.C_below HR0.out HB.out) | (with_reducible refine Kd.C_alloc ?_ _) | (with_reducible refine Kd.C_drewN ?_ _) | (with_reducible refine Kd.C_drew ?_))); (case side2 => exact HC0.out); rintro e w17 ⟨v879, rfl, ho0, hb⟩; refine ⟨_, rfl, ?_⟩; have n0_ := Aside0.mk (Kd.R_lower ho0 (below_size (by repeat (first | (with_reducible first | exact HB.out | apply below_alloc | apply pw_below_drewN | apply below_drew1 | refine below_set ?_ GE872.out) | exact HB.out)))); have n1_ := Aside0.mk (blk_below (g := gb872) (o := .cells #[.int .i64 a1_0, .slice A1_1 l1_1.length c1_1, .int .i64 a1_2, .int .i64 a1_3, .int .i64 a1_4] 67 (0, 0)) (by (with_reducible repeat (first | refine blk_drewN ?_ _ | refine blk_drew ?_ | refine blk_alloc ?_ _)); exact BK872.out) hb); have n2_ := Aside0.mk (below_step (by repeat (first | (with_reducible first | exact HB.out | apply below_alloc | apply pw_below_drewN | apply below_drew1 | refine below_set ?_ GE872.out) | exact HB.out)) hb); clear BK872; clear HB; have HO880 := n0_; have BK872 := n1_; have HB := n2_; clear n0_ n1_ n2_; (try clear hb); (try clear hb2); (try clear hk); (try clear hi); (try clear ho0); have hcz18_0 : w17.cell? ⟨gb872, 0, none⟩ = some (.int .i64 a1_0) := (blk_cell BK872.out 0).trans rfl; have hcz18_1 : w17.cell? ⟨gb872, 1, none⟩ = some (.slice A1_1 l1_1.length c1_1) := (blk_cell BK872.out 1).trans rfl; have hcz18_2 : w17.cell? ⟨gb872, 2, none⟩ = some (.int .i64 a1_2) := (blk_cell BK872.out 2).trans rfl; have hcz18_3 : w17.cell? ⟨gb872, 3, none⟩ = some (.int .i64 a1_3) := (blk_cell BK872.out 3).trans rfl; have hcz18_4 : w17.cell? ⟨gb872, 4, none⟩ = some (.int .i64 a1_4) := (blk_cell BK872.out 4).trans rfl; have hfz18_0 := blk_frozen BK872.out 0; have hfz18_1 := blk_frozen BK872.out 1; have hfz18_2 := blk_frozen BK872.out 2; have hfz18_3 := blk_frozen BK872.out 3; have hfz18_4 := blk_frozen BK872.out 4) | ((with_reducible refine gate_callee (f := 99) rfl ?_); refine goesL_ (some 26) rfl rfl Try.func99 (by kernel_rfl) rfl #[.slice A0 l0.length c0, .agg #[.int .i64 a1_0, .slice A1_1 l1_1.length c1_1, .int .i64 a1_2, .int .i64 a1_3, .int .i64 a1_4], .int .i64 t877] rfl (by (try simp only [List.map_toArray, List.map_cons, List.map_nil]); first | done | rfl | (simp only [List.length_drop, List.length_take]; rfl)) ?_; (with_reducible refine (spec_l13Code.calls k _ _ l0 a1_0 _ _ l1_1 a1_2 a1_3 a1_4 t877 t881 t882 t883 _ ?side1 ?side2 ?side3 ?side4 A7.out).mono ?_); (case side1 => repeat (first | exact (Kd.C_below HR0.out HB.out) | (with_reducible refine Kd.C_alloc ?_ _) | (with_reducible refine Kd.C_drewN ?_ _) | (with_reducible refine Kd.C_drew ?_))); (case side2 => exact HC0.out); (case side3 => repeat (first | exact (Kd.C_below HR1_1.out HB.out) | (with_reducible refine Kd.C_alloc ?_ _) | (with_reducible refine Kd.C_drewN ?_ _) | (with_reducible refine Kd.C_drew ?_))); (case side4 => exact HC1_1.out); rintro e w19 ⟨rfl, hb⟩; refine ⟨_, rfl, ?_⟩; have n0_ := Aside0.mk (Kd.R_below (by (with_reducible repeat (first | apply Kd.R_alloc | apply Kd.R_drewN | apply Kd.R_drew)); exact HO880.out) hb); have n1_ := Aside0.mk (blk_below (g := gb872) (o := .cells #[.int .i64 a1_0, .slice A1_1 l1_1.length c1_1, .int .i64 a1_2, .int .i64 a1_3, .int .i64 a1_4] 67 (0, 0)) (by (with_reducible repeat (first | refine blk_drewN ?_ _ | refine blk_drew ?_ | refine blk_alloc ?_ _)); exact BK872.out) hb); have n2_ := Aside0.mk (below_step (by repeat (first | (with_reducible first | exact HB.out | apply below_alloc | apply pw_below_drewN | apply below_drew1 | refine below_set ?_ GE872.out) | exact HB.out)) hb); clear HO880; clear BK872; clear HB; have HO880 := n0_; have BK872 := n1_; have HB := n2_; clear n0_ n1_ n2_; (try clear hb); (try clear hb2); (try clear hk); (try clear hi); have hcz20_0 : w19.cell? ⟨gb872, 0, none⟩ = some (.int .i64 a1_0) := (blk_cell BK872.out 0).trans rfl; have hcz20_1 : w19.cell? ⟨gb872, 1, none⟩ = some (.slice A1_1 l1_1.length c1_1) := (blk_cell BK872.out 1).trans rfl; have hcz20_2 : w19.cell? ⟨gb872, 2, none⟩ = some (.int .i64 a1_2) := (blk_cell BK872.out 2).trans rfl; have hcz20_3 : w19.cell? ⟨gb872, 3, none⟩ = some (.int .i64 a1_3) := (blk_cell BK872.out 3).trans rfl; have hcz20_4 : w19.cell? ⟨gb872, 4, none⟩ = some (.int .i64 a1_4) := (blk_cell BK872.out 4).trans rfl; have hfz20_0 := blk_frozen BK872.out 0; have hfz20_1 := blk_frozen BK872.out 1; have hfz20_2 := blk_frozen BK872.out 2; have hfz20_3 := blk_frozen BK872.out 3; have hfz20_4 := blk_frozen BK872.out 4; have p12 : 0 ≤ (t877 : Int) := of_decide_eq_true (by first | (with_reducible assumption) | assumption); have q12 : (t877 : Int) < ((t878.length : Int) : Int) := of_decide_eq_true (by first | (with_reducible assumption) | assumption); obtain ⟨go12, co12, eo12, gb12, gl12, cl12, HG12⟩ := Kd.R_form HO880.out (by omega); (first | cases eo12 | (injection eo12 with ea_ en_ ec_; (first | subst ea_ | (injection ea_ with ea_; subst ea_)); subst ec_; clear en_)); have GB12 := Aside0.mk gb12; have GG12 := Aside0.mk HG12; clear gb12 gl12 HG12; obtain ⟨ce12, hcl12, hM12, hcc12, hfr12⟩ := Kd.R_elem HO880.out z90 (t877 : Int) p12 q12; obtain rfl := k90_openM hM12; have hx12_0 : w19.cell? ⟨go12, (t877 : Int).toNat * 2, none⟩ = some (.int .i64 ((rd_T90 t878 t877).f0)) := hcc12 0 _ rfl; have hx12_1 : w19.cell? ⟨go12, (t877 : Int).toNat * 2 + 1, none⟩ = some (.int .i64 ((rd_T90 t878 t877).f1)) := hcc12 1 _ rfl; have hf12_0 : w19.frozen? ⟨go12, (t877 : Int).toNat * 2, none⟩ = false := hfr12 0; have hf12_1 : w19.frozen? ⟨go12, (t877 : Int).toNat * 2 + 1, none⟩ = false := hfr12 1; clear hcl12 hcc12 hfr12 hM12; replace p12 := eq_true p12; replace q12 := eq_true q12; have HX21 := Aside0.mk (show Kd.R k90 90 w19 w.heap.size (fun _ => True) (.slice (some ⟨go12, 0, none⟩) t878.length co12) t878 from (by (with_reducible repeat (first | apply Kd.R_alloc | apply Kd.R_drewN | apply Kd.R_drew)); exact HO880.out)); obtain ⟨ce21, hcl21, hM21, hcc21, hfr21⟩ := Kd.R_elem HX21.out z90 (t877 : Int) (of_decide_eq_true (by first | (with_reducible assumption) | assumption)) (by have h_ : (t877 : Int) < ((t878.length : Int) : Int) := of_decide_eq_true (by first | (with_reducible assumption) | assumption); first | exact h_ | (have e_ := (Kd.R_reads' HO880.out).1; omega) | simpa using h_); obtain rfl := k90_openM hM21; have HP21 := Kd.R_seg HX21.out (t877 : Int) (of_decide_eq_true (by first | (with_reducible assumption) | assumption)) (by have h_ : (t877 : Int) < ((t878.length : Int) : Int) := of_decide_eq_true (by first | (with_reducible assumption) | assumption); first | exact h_ | (have e_ := (Kd.R_reads' HO880.out).1; omega) | simpa using h_) (seg := [.int .i64 a1_2]) (j := 0) hcl21 hcc21 (show 1 ≤ 2 from by decide) (x' := (⟨a1_2, (rd_T90 t878 t877).f1⟩ : S90)) (k90_mkM _ _ _ (⟨a1_2, (rd_T90 t878 t877).f1⟩ : S90) ) (fun _ hk => hk); have hx21_0 := hcc21 0 _ rfl; (try simp only [show (k90).sz = 2 from rfl, Nat.mul_one, Nat.add_zero] at hx21_0); have hf21_0 := hfr21 0; (try simp only [show (k90).sz = 2 from rfl, Nat.mul_one, Nat.add_zero] at hf21_0); clear hcl21 hcc21 hfr21 hM21) | ((with_reducible refine gate_store (t := 3) (p := 43) rfl ?_); refine store_event (t := 3) (p := 43) (v := ?vo_w22) (w1 := (w19.setCell ⟨go12, (t877 : Int).toNat * 2, none⟩ (.int .i64 a1_2))) ?hg ?ho ?hn ?hr ?_; (case ho => rfl); (case hg => rfl); (case hn => rfl); (case hr => first | (go_simp; done) | (go_simp; rfl)); intro w22 hw; have hg : w19.grownBy w22 (some go12) := (by rw [hw]; exact HP21.2); have hp_ : Kd.R k90 90 w22 w.heap.size (fun _ => True) (.slice (some ⟨go12, 0, none⟩) t878.length co12) y884 := (by rw [hw, Ny884.out]; exact HP21.1); clear HP21; have n0_ := Aside0.mk (blk_grown (g := gb872) (o := .cells #[.int .i64 a1_0, .slice A1_1 l1_1.length c1_1, .int .i64 a1_2, .int .i64 a1_3, .int .i64 a1_4] 67 (0, 0)) (by (with_reducible repeat (first | refine blk_drewN ?_ _ | refine blk_drew ?_ | refine blk_alloc ?_ _)); exact BK872.out) hg (Kd.R_ne HO880.out BK872.out (by decide))); have n1_ := Aside0.mk (hp_); have n2_ := Aside0.mk ((by rw [hw]; exact below_set (HB.out) GB12.out : Below w.heap.size w w22)); clear BK872; clear HO880; clear HB; have BK872 := n0_; have HO880 := n1_; have HB := n2_; clear n0_ n1_ n2_; clear hg hw hp_))
      go_ret2
      exact ⟨_, by first | rfl | (simp [errW_none, errW_some] <;> rfl) | (simp [*, errW_none, errW_some] <;> rfl), by (with_reducible repeat (first | apply Kd.R_alloc | apply Kd.R_drewN | apply Kd.R_drew)); exact HO880.out, by repeat (first | (with_reducible first | exact HB.out | apply below_alloc | apply pw_below_drewN | apply below_drew1 | refine below_set ?_ GE872.out) | exact HB.out)⟩
     ·rw [if_neg c11] at H
      exact absurd H (by simp)
    ·rw [if_neg c10] at H
     exact absurd H (by simp)
   ·rw [if_neg c9] at H
    have c9b0 : (a1_0 == 1) = false := beq_eq_false_iff_ne.mpr c9
    have c9b1 : (a1_0 != 1) = true := bne_iff_ne.mpr c9
    by_cases c23 : a1_0 = 2
    ·rw [if_pos c23] at H
     have c23b0 : (a1_0 == 2) = true := beq_iff_eq.mpr c23
     have c23b1 : (a1_0 != 2) = false := bne_eq_false_iff_eq.mpr c23
     clear c23
     replace H := Option.bind_eq_some_iff.mp H
     obtain ⟨t885, A240, H⟩ := H
     replace H : ((spec_l13Shift.f k l0 0 t877 0).bind fun t886 => ((spec_l13Shift.f k l0 (wrap64 (t877 + 1)) t885 (-1)).bind fun t889 => (if t886.length + t889.length < 8796093022208 then ((some (t886 ++ t889 : List (S90))).bind fun y892 => ((spec_l13Shift.f k l0 t885 (l0.length : Int) 0).bind fun t895 => (if y892.length + t895.length < 8796093022208 then (some ((y892 ++ t895), t881)) else (none)))) else (none)))) = some (r1, r2) := H
     have A24 := Aside0.mk A240
     clear A240
     replace H := Option.bind_eq_some_iff.mp H
     obtain ⟨t886, A250, H⟩ := H
     replace H : ((spec_l13Shift.f k l0 (wrap64 (t877 + 1)) t885 (-1)).bind fun t889 => (if t886.length + t889.length < 8796093022208 then ((some (t886 ++ t889 : List (S90))).bind fun y892 => ((spec_l13Shift.f k l0 t885 (l0.length : Int) 0).bind fun t895 => (if y892.length + t895.length < 8796093022208 then (some ((y892 ++ t895), t881)) else (none)))) else (none))) = some (r1, r2) := H
     have A25 := Aside0.mk A250
     clear A250
     replace H := Option.bind_eq_some_iff.mp H
     obtain ⟨t889, A260, H⟩ := H
     replace H : (if t886.length + t889.length < 8796093022208 then ((some (t886 ++ t889 : List (S90))).bind fun y892 => ((spec_l13Shift.f k l0 t885 (l0.length : Int) 0).bind fun t895 => (if y892.length + t895.length < 8796093022208 then (some ((y892 ++ t895), t881)) else (none)))) else (none)) = some (r1, r2) := H
     have A26 := Aside0.mk A260
     clear A260
     by_cases c27 : t886.length + t889.length < 8796093022208
     ·rw [if_pos c27] at H
      have LMc27 := Aside0.mk c27
      clear c27
      obtain ⟨y892, hy892⟩ : ∃ y_ : List (S90), y_ = (t886 ++ t889) := ⟨_, rfl⟩
      replace H : ((spec_l13Shift.f k l0 t885 (l0.length : Int) 0).bind fun t895 => (if y892.length + t895.length < 8796093022208 then (some ((y892 ++ t895), t881)) else (none))) = some (r1, r2) := by first | (rw [hy892]; with_reducible exact H) | (have H2_ := (Option.bind_some _ _).symm.trans H; rw [hy892]; with_reducible exact H2_) | (have H2_ := (Option.bind_some _ _).symm.trans H; with_reducible exact H2_) | with_reducible exact H | (rw [hy892]; exact H) | exact H
      have Ny892 := Aside0.mk hy892
      clear hy892
      replace H := Option.bind_eq_some_iff.mp H
      obtain ⟨t895, A280, H⟩ := H
      replace H : (if y892.length + t895.length < 8796093022208 then (some ((y892 ++ t895), t881)) else (none)) = some (r1, r2) := H
      have A28 := Aside0.mk A280
      clear A280
      by_cases c29 : y892.length + t895.length < 8796093022208
      ·rw [if_pos c29] at H
       have LMc29 := Aside0.mk c29
       clear c29
       obtain ⟨y898, hy898⟩ : ∃ y_ : List (S90), y_ = (y892 ++ t895) := ⟨_, rfl⟩
       replace H : (some (y898, t881)) = some (r1, r2) := by first | (rw [hy898]; with_reducible exact H) | (have H2_ := (Option.bind_some _ _).symm.trans H; rw [hy898]; with_reducible exact H2_) | (have H2_ := (Option.bind_some _ _).symm.trans H; with_reducible exact H2_) | with_reducible exact H | (rw [hy898]; exact H) | exact H
       have Ny898 := Aside0.mk hy898
       clear hy898
       simp only [Option.some.injEq, Prod.mk.injEq] at H
       obtain ⟨rfl, rfl⟩ := H
       go_enter Try.func44, Try.ntmps44
       go_wp2_with (first | ((with_reducible refine gate_dst (N := 3) rfl ?_); refine box_event ?hg (N := 3) ?hd (cs := #[.int .i64 a1_0, .slice A1_1 l1_1.length c1_1, .int .i64 a1_2, .int .i64 a1_3, .int .i64 a1_4]) (t := 67) ?hr ?_; (case hd => rfl); (case hg => rfl); (case hr => first | (go_simp; done) | (go_simp; rfl)); intro gb872 hg w30 hbox hb; have n0_ := Aside0.mk (below_step (by repeat (first | (with_reducible first | exact HB.out | apply below_alloc | apply pw_below_drewN | apply below_drew1) | exact HB.out)) hb); have n1_ := Aside0.mk (hbox); have n2_ := Aside0.mk ((by rw [hg]; exact (below_size (by repeat (first | (with_reducible first | exact HB.out | apply below_alloc | apply pw_below_drewN | apply below_drew1) | exact HB.out))) : w.heap.size ≤ gb872)); have n3_ := Aside0.mk ((by rw [hg]; exact (below_size (by repeat (first | (with_reducible first | exact HB.out | apply below_alloc | apply pw_below_drewN | apply below_drew1) | exact HB.out))) : w.heap.size ≤ gb872)); clear HB; have HB := n0_; have BK872 := n1_; have GW872 := n2_; have GE872 := n3_; clear n0_ n1_ n2_ n3_; clear hb hbox hg) | ((with_reducible refine gate_callee (f := 64) rfl ?_); refine goesL_ (some 13) rfl rfl Try.func64 (by kernel_rfl) rfl #[.slice A0 l0.length c0] rfl (by (try simp only [List.map_toArray, List.map_cons, List.map_nil]); first | done | rfl | (simp only [List.length_drop, List.length_take]; rfl)) ?_; (with_reducible refine (spec_TreeOk.calls k _ _ l0 true _ ?side1 ?side2 A3.out).mono ?_); (case side1 => repeat (first | exact (Kd.C_below HR0.out HB.out) | (with_reducible refine Kd.C_alloc ?_ _) | (with_reducible refine Kd.C_drewN ?_ _) | (with_reducible refine Kd.C_drew ?_))); (case side2 => exact HC0.out); rintro e w31 ⟨rfl, hb⟩; refine ⟨_, rfl, ?_⟩; have n0_ := Aside0.mk (blk_below (g := gb872) (o := .cells #[.int .i64 a1_0, .slice A1_1 l1_1.length c1_1, .int .i64 a1_2, .int .i64 a1_3, .int .i64 a1_4] 67 (0, 0)) (by (with_reducible repeat (first | refine blk_drewN ?_ _ | refine blk_drew ?_ | refine blk_alloc ?_ _)); exact BK872.out) hb); have n1_ := Aside0.mk (below_step (by repeat (first | (with_reducible first | exact HB.out | apply below_alloc | apply pw_below_drewN | apply below_drew1 | refine below_set ?_ GE872.out) | exact HB.out)) hb); clear BK872; clear HB; have BK872 := n0_; have HB := n1_; clear n0_ n1_; (try clear hb); (try clear hb2); (try clear hk); (try clear hi); have hcz32_0 : w31.cell? ⟨gb872, 0, none⟩ = some (.int .i64 a1_0) := (blk_cell BK872.out 0).trans rfl; have hcz32_1 : w31.cell? ⟨gb872, 1, none⟩ = some (.slice A1_1 l1_1.length c1_1) := (blk_cell BK872.out 1).trans rfl; have hcz32_2 : w31.cell? ⟨gb872, 2, none⟩ = some (.int .i64 a1_2) := (blk_cell BK872.out 2).trans rfl; have hcz32_3 : w31.cell? ⟨gb872, 3, none⟩ = some (.int .i64 a1_3) := (blk_cell BK872.out 3).trans rfl; have hcz32_4 : w31.cell? ⟨gb872, 4, none⟩ = some (.int .i64 a1_4) := (blk_cell BK872.out 4).trans rfl; have hfz32_0 := blk_frozen BK872.out 0; have hfz32_1 := blk_frozen BK872.out 1; have hfz32_2 := blk_frozen BK872.out 2; have hfz32_3 := blk_frozen BK872.out 3; have hfz32_4 := blk_frozen BK872.out 4) | ((with_reducible refine gate_callee (f := 60) rfl ?_); refine goesL_ (some 19) rfl rfl Try.func60 (by kernel_rfl) rfl #[.slice A0 l0.length c0, .slice A1_1 l1_1.length c1_1] rfl (by (try simp only [List.map_toArray, List.map_cons, List.map_nil]); first | done | rfl | (simp only [List.length_drop, List.length_take]; rfl)) ?_; (with_reducible refine (spec_NodeAt.calls k _ _ l0 _ _ l1_1 t877 _ ?side1 ?side2 ?side3 ?side4 A5.out).mono ?_); (case side1 => repeat (first | exact (Kd.C_below HR0.out HB.out) | (with_reducible refine Kd.C_alloc ?_ _) | (with_reducible refine Kd.C_drewN ?_ _) | (with_reducible refine Kd.C_drew ?_))); (case side2 => exact HC0.out); (case side3 => repeat (first | exact (Kd.C_below HR1_1.out HB.out) | (with_reducible refine Kd.C_alloc ?_ _) | (with_reducible refine Kd.C_drewN ?_ _) | (with_reducible refine Kd.C_drew ?_))); (case side4 => exact HC1_1.out); rintro e w33 ⟨rfl, hb⟩; refine ⟨_, rfl, ?_⟩; have n0_ := Aside0.mk (blk_below (g := gb872) (o := .cells #[.int .i64 a1_0, .slice A1_1 l1_1.length c1_1, .int .i64 a1_2, .int .i64 a1_3, .int .i64 a1_4] 67 (0, 0)) (by (with_reducible repeat (first | refine blk_drewN ?_ _ | refine blk_drew ?_ | refine blk_alloc ?_ _)); exact BK872.out) hb); have n1_ := Aside0.mk (below_step (by repeat (first | (with_reducible first | exact HB.out | apply below_alloc | apply pw_below_drewN | apply below_drew1 | refine below_set ?_ GE872.out) | exact HB.out)) hb); clear BK872; clear HB; have BK872 := n0_; have HB := n1_; clear n0_ n1_; (try clear hb); (try clear hb2); (try clear hk); (try clear hi)) | ((with_reducible refine gate_callee (f := 98) rfl ?_); refine goesL_ (some 21) rfl rfl Try.func98 (by kernel_rfl) rfl #[.slice A0 l0.length c0] rfl (by (try simp only [List.map_toArray, List.map_cons, List.map_nil]); first | done | rfl | (simp only [List.length_drop, List.length_take]; rfl)) ?_; (with_reducible refine (spec_l3Copy.calls _ _ l0 t878 _ ?side1 ?side2 A6.out).mono ?_); (case side1 => repeat (first | exact (Kd.C_below HR0.out HB.out) | (with_reducible refine Kd.C_alloc ?_ _) | (with_reducible refine Kd.C_drewN ?_ _) | (with_reducible refine Kd.C_drew ?_))); (case side2 => exact HC0.out); rintro e w34 ⟨v879, rfl, ho0, hb⟩; refine ⟨_, rfl, ?_⟩; have n0_ := Aside0.mk (Kd.R_lower ho0 (below_size (by repeat (first | (with_reducible first | exact HB.out | apply below_alloc | apply pw_below_drewN | apply below_drew1 | refine below_set ?_ GE872.out) | exact HB.out)))); have n1_ := Aside0.mk (blk_below (g := gb872) (o := .cells #[.int .i64 a1_0, .slice A1_1 l1_1.length c1_1, .int .i64 a1_2, .int .i64 a1_3, .int .i64 a1_4] 67 (0, 0)) (by (with_reducible repeat (first | refine blk_drewN ?_ _ | refine blk_drew ?_ | refine blk_alloc ?_ _)); exact BK872.out) hb); have n2_ := Aside0.mk (below_step (by repeat (first | (with_reducible first | exact HB.out | apply below_alloc | apply pw_below_drewN | apply below_drew1 | refine below_set ?_ GE872.out) | exact HB.out)) hb); clear BK872; clear HB; have HO880 := n0_; have BK872 := n1_; have HB := n2_; clear n0_ n1_ n2_; (try clear hb); (try clear hb2); (try clear hk); (try clear hi); (try clear ho0); have hcz35_0 : w34.cell? ⟨gb872, 0, none⟩ = some (.int .i64 a1_0) := (blk_cell BK872.out 0).trans rfl; have hcz35_1 : w34.cell? ⟨gb872, 1, none⟩ = some (.slice A1_1 l1_1.length c1_1) := (blk_cell BK872.out 1).trans rfl; have hcz35_2 : w34.cell? ⟨gb872, 2, none⟩ = some (.int .i64 a1_2) := (blk_cell BK872.out 2).trans rfl; have hcz35_3 : w34.cell? ⟨gb872, 3, none⟩ = some (.int .i64 a1_3) := (blk_cell BK872.out 3).trans rfl; have hcz35_4 : w34.cell? ⟨gb872, 4, none⟩ = some (.int .i64 a1_4) := (blk_cell BK872.out 4).trans rfl; have hfz35_0 := blk_frozen BK872.out 0; have hfz35_1 := blk_frozen BK872.out 1; have hfz35_2 := blk_frozen BK872.out 2; have hfz35_3 := blk_frozen BK872.out 3; have hfz35_4 := blk_frozen BK872.out 4) | ((with_reducible refine gate_callee (f := 99) rfl ?_); refine goesL_ (some 26) rfl rfl Try.func99 (by kernel_rfl) rfl #[.slice A0 l0.length c0, .agg #[.int .i64 a1_0, .slice A1_1 l1_1.length c1_1, .int .i64 a1_2, .int .i64 a1_3, .int .i64 a1_4], .int .i64 t877] rfl (by (try simp only [List.map_toArray, List.map_cons, List.map_nil]); first | done | rfl | (simp only [List.length_drop, List.length_take]; rfl)) ?_; (with_reducible refine (spec_l13Code.calls k _ _ l0 a1_0 _ _ l1_1 a1_2 a1_3 a1_4 t877 t881 t882 t883 _ ?side1 ?side2 ?side3 ?side4 A7.out).mono ?_); (case side1 => repeat (first | exact (Kd.C_below HR0.out HB.out) | (with_reducible refine Kd.C_alloc ?_ _) | (with_reducible refine Kd.C_drewN ?_ _) | (with_reducible refine Kd.C_drew ?_))); (case side2 => exact HC0.out); (case side3 => repeat (first | exact (Kd.C_below HR1_1.out HB.out) | (with_reducible refine Kd.C_alloc ?_ _) | (with_reducible refine Kd.C_drewN ?_ _) | (with_reducible refine Kd.C_drew ?_))); (case side4 => exact HC1_1.out); rintro e w36 ⟨rfl, hb⟩; refine ⟨_, rfl, ?_⟩; have n0_ := Aside0.mk (Kd.R_below (by (with_reducible repeat (first | apply Kd.R_alloc | apply Kd.R_drewN | apply Kd.R_drew)); exact HO880.out) hb); have n1_ := Aside0.mk (blk_below (g := gb872) (o := .cells #[.int .i64 a1_0, .slice A1_1 l1_1.length c1_1, .int .i64 a1_2, .int .i64 a1_3, .int .i64 a1_4] 67 (0, 0)) (by (with_reducible repeat (first | refine blk_drewN ?_ _ | refine blk_drew ?_ | refine blk_alloc ?_ _)); exact BK872.out) hb); have n2_ := Aside0.mk (below_step (by repeat (first | (with_reducible first | exact HB.out | apply below_alloc | apply pw_below_drewN | apply below_drew1 | refine below_set ?_ GE872.out) | exact HB.out)) hb); clear HO880; clear BK872; clear HB; have HO880 := n0_; have BK872 := n1_; have HB := n2_; clear n0_ n1_ n2_; (try clear hb); (try clear hb2); (try clear hk); (try clear hi); have hcz37_0 : w36.cell? ⟨gb872, 0, none⟩ = some (.int .i64 a1_0) := (blk_cell BK872.out 0).trans rfl; have hcz37_1 : w36.cell? ⟨gb872, 1, none⟩ = some (.slice A1_1 l1_1.length c1_1) := (blk_cell BK872.out 1).trans rfl; have hcz37_2 : w36.cell? ⟨gb872, 2, none⟩ = some (.int .i64 a1_2) := (blk_cell BK872.out 2).trans rfl; have hcz37_3 : w36.cell? ⟨gb872, 3, none⟩ = some (.int .i64 a1_3) := (blk_cell BK872.out 3).trans rfl; have hcz37_4 : w36.cell? ⟨gb872, 4, none⟩ = some (.int .i64 a1_4) := (blk_cell BK872.out 4).trans rfl; have hfz37_0 := blk_frozen BK872.out 0; have hfz37_1 := blk_frozen BK872.out 1; have hfz37_2 := blk_frozen BK872.out 2; have hfz37_3 := blk_frozen BK872.out 3; have hfz37_4 := blk_frozen BK872.out 4) | ((with_reducible refine gate_callee (f := 100) rfl ?_); refine goesL_ (some 50) rfl rfl Try.func100 (by kernel_rfl) rfl #[.slice A0 l0.length c0, .int .i64 t877] rfl (by (try simp only [List.map_toArray, List.map_cons, List.map_nil]); first | done | rfl | (simp only [List.length_drop, List.length_take]; rfl)) ?_; (with_reducible refine (spec_EndOf.calls k _ _ l0 t877 t885 _ ?side1 ?side2 A24.out).mono ?_); (case side1 => repeat (first | exact (Kd.C_below HR0.out HB.out) | (with_reducible refine Kd.C_alloc ?_ _) | (with_reducible refine Kd.C_drewN ?_ _) | (with_reducible refine Kd.C_drew ?_))); (case side2 => exact HC0.out); rintro e w38 ⟨rfl, hb⟩; refine ⟨_, rfl, ?_⟩; have n0_ := Aside0.mk (Kd.R_below (by (with_reducible repeat (first | apply Kd.R_alloc | apply Kd.R_drewN | apply Kd.R_drew)); exact HO880.out) hb); have n1_ := Aside0.mk (blk_below (g := gb872) (o := .cells #[.int .i64 a1_0, .slice A1_1 l1_1.length c1_1, .int .i64 a1_2, .int .i64 a1_3, .int .i64 a1_4] 67 (0, 0)) (by (with_reducible repeat (first | refine blk_drewN ?_ _ | refine blk_drew ?_ | refine blk_alloc ?_ _)); exact BK872.out) hb); have n2_ := Aside0.mk (below_step (by repeat (first | (with_reducible first | exact HB.out | apply below_alloc | apply pw_below_drewN | apply below_drew1 | refine below_set ?_ GE872.out) | exact HB.out)) hb); clear HO880; clear BK872; clear HB; have HO880 := n0_; have BK872 := n1_; have HB := n2_; clear n0_ n1_ n2_; (try clear hb); (try clear hb2); (try clear hk); (try clear hi)) | ((with_reducible refine gate_callee (f := 101) rfl ?_); refine goesL_ (some 53) rfl rfl Try.func101 (by kernel_rfl) rfl #[.slice A0 l0.length c0, .int .i64 0, .int .i64 t877, .int .i64 0] rfl (by (try simp only [List.map_toArray, List.map_cons, List.map_nil]); first | done | rfl | (simp only [List.length_drop, List.length_take]; rfl)) ?_; (with_reducible refine (spec_l13Shift.calls k _ _ l0 0 t877 0 t886 _ ?side1 ?side2 A25.out).mono ?_); (case side1 => repeat (first | exact (Kd.C_below HR0.out HB.out) | (with_reducible refine Kd.C_alloc ?_ _) | (with_reducible refine Kd.C_drewN ?_ _) | (with_reducible refine Kd.C_drew ?_))); (case side2 => exact HC0.out); rintro e w39 ⟨v887, rfl, ho0, hb⟩; refine ⟨_, rfl, ?_⟩; have n0_ := Aside0.mk (Kd.R_elder' (by (with_reducible repeat (first | apply Kd.R_alloc | apply Kd.R_drewN | apply Kd.R_drew)); exact HO880.out) (Kd.R_base ho0) hb); have n1_ := Aside0.mk (Kd.R_lower (Kd.R_new' ho0 (Kd.R_lt (by (with_reducible repeat (first | apply Kd.R_alloc | apply Kd.R_drewN | apply Kd.R_drew)); exact HO880.out))) (below_size (by repeat (first | (with_reducible first | exact HB.out | apply below_alloc | apply pw_below_drewN | apply below_drew1 | refine below_set ?_ GE872.out) | exact HB.out)))); have n2_ := Aside0.mk (blk_below (g := gb872) (o := .cells #[.int .i64 a1_0, .slice A1_1 l1_1.length c1_1, .int .i64 a1_2, .int .i64 a1_3, .int .i64 a1_4] 67 (0, 0)) (by (with_reducible repeat (first | refine blk_drewN ?_ _ | refine blk_drew ?_ | refine blk_alloc ?_ _)); exact BK872.out) hb); have n3_ := Aside0.mk (below_step (by repeat (first | (with_reducible first | exact HB.out | apply below_alloc | apply pw_below_drewN | apply below_drew1 | refine below_set ?_ GE872.out) | exact HB.out)) hb); clear HO880; clear BK872; clear HB; have HO880 := n0_; have HO888 := n1_; have BK872 := n2_; have HB := n3_; clear n0_ n1_ n2_ n3_; (try clear hb); (try clear hb2); (try clear hk); (try clear hi); (try clear ho0)) | ((with_reducible refine gate_callee (f := 101) rfl ?_); refine goesL_ (some 58) rfl rfl Try.func101 (by kernel_rfl) rfl #[.slice A0 l0.length c0, .int .i64 (wrap64 (t877 + 1)), .int .i64 t885, .int .i64 (-1)] rfl (by (try simp only [List.map_toArray, List.map_cons, List.map_nil]); first | done | rfl | (simp only [List.length_drop, List.length_take]; rfl)) ?_; (with_reducible refine (spec_l13Shift.calls k _ _ l0 (wrap64 (t877 + 1)) t885 (-1) t889 _ ?side1 ?side2 A26.out).mono ?_); (case side1 => repeat (first | exact (Kd.C_below HR0.out HB.out) | (with_reducible refine Kd.C_alloc ?_ _) | (with_reducible refine Kd.C_drewN ?_ _) | (with_reducible refine Kd.C_drew ?_))); (case side2 => exact HC0.out); rintro e w40 ⟨v890, rfl, ho0, hb⟩; refine ⟨_, rfl, ?_⟩; have n0_ := Aside0.mk (Kd.R_elder' (by (with_reducible repeat (first | apply Kd.R_alloc | apply Kd.R_drewN | apply Kd.R_drew)); exact HO880.out) (Kd.R_base ho0) hb); have n1_ := Aside0.mk (Kd.R_elder' (by (with_reducible repeat (first | apply Kd.R_alloc | apply Kd.R_drewN | apply Kd.R_drew)); exact HO888.out) (Kd.R_base ho0) hb); have n2_ := Aside0.mk (Kd.R_lower (Kd.R_new' (Kd.R_new' ho0 (Kd.R_lt (by (with_reducible repeat (first | apply Kd.R_alloc | apply Kd.R_drewN | apply Kd.R_drew)); exact HO880.out))) (Kd.R_lt (by (with_reducible repeat (first | apply Kd.R_alloc | apply Kd.R_drewN | apply Kd.R_drew)); exact HO888.out))) (below_size (by repeat (first | (with_reducible first | exact HB.out | apply below_alloc | apply pw_below_drewN | apply below_drew1 | refine below_set ?_ GE872.out) | exact HB.out)))); have n3_ := Aside0.mk (blk_below (g := gb872) (o := .cells #[.int .i64 a1_0, .slice A1_1 l1_1.length c1_1, .int .i64 a1_2, .int .i64 a1_3, .int .i64 a1_4] 67 (0, 0)) (by (with_reducible repeat (first | refine blk_drewN ?_ _ | refine blk_drew ?_ | refine blk_alloc ?_ _)); exact BK872.out) hb); have n4_ := Aside0.mk (below_step (by repeat (first | (with_reducible first | exact HB.out | apply below_alloc | apply pw_below_drewN | apply below_drew1 | refine below_set ?_ GE872.out) | exact HB.out)) hb); clear HO880; clear HO888; clear BK872; clear HB; have HO880 := n0_; have HO888 := n1_; have HO891 := n2_; have BK872 := n3_; have HB := n4_; clear n0_ n1_ n2_ n3_ n4_; (try clear hb); (try clear hb2); (try clear hk); (try clear hi); (try clear ho0); obtain ⟨Ao42, co42, eo42⟩ := Kd.R_slice HO891.out; subst eo42) | ((with_reducible refine gate_builtin (b := .append) (xs := #[.tmp 53, .tmp 58]) rfl ?_); at_builtin; refine Kd.R_append_rows k90 (w0 := w) w.heap.size rfl (.tmp 53) (.tmp 58) 34 90 (.agg #[(.int .i64 0), (.int .i64 0)]) 16 rfl Try.underlying34 info90 rfl (by decide) (by omega) v887 t886 t889 _ _ _ (fun k_ => some k_ ≠ (v879 : Value).ownBlock ∧ some k_ ≠ (.slice Ao42 t889.length co42 : Value).ownBlock) (fun _ => False) rfl rfl ?aO ?aR (fun _ _ h => h) (fun _ h => h.elim) ?aF ?aB ?aS ?aL ?_; (case aR => repeat (first | exact (Kd.R_reads' HO891.out).2.2 | (with_reducible refine Kd.C_alloc ?_ _) | (with_reducible refine Kd.C_drewN ?_ _) | (with_reducible refine Kd.C_drew ?_))); (case aB => exact (by repeat (first | (with_reducible first | exact HB.out | apply below_alloc | apply pw_below_drewN | apply below_drew1 | refine below_set ?_ GE872.out) | exact HB.out))); (case aF => exact (fun k_ hk => ⟨Kd.fresh' (Kd.R_lt (by (with_reducible repeat (first | apply Kd.R_alloc | apply Kd.R_drewN | apply Kd.R_drew)); exact HO880.out)) k_ hk, Kd.fresh' (Kd.R_lt (by (with_reducible repeat (first | apply Kd.R_alloc | apply Kd.R_drewN | apply Kd.R_drew)); exact HO891.out)) k_ hk⟩)); (case aO => exact (by (with_reducible repeat (first | apply Kd.R_alloc | apply Kd.R_drewN | apply Kd.R_drew)); exact Kd.R_mono HO888.out (fun _ hk => ⟨hk.1.2, hk.2⟩))); (case aS => exact (below_size (by repeat (first | (with_reducible first | exact HB.out | apply below_alloc | apply pw_below_drewN | apply below_drew1 | refine below_set ?_ GE872.out) | exact HB.out)))); (case aL => have := LMc27.out; omega); intro v893 w41 ho hb hg hat; rw [← Ny892.out] at ho; have n0_ := Aside0.mk (blk_grown (g := gb872) (o := .cells #[.int .i64 a1_0, .slice A1_1 l1_1.length c1_1, .int .i64 a1_2, .int .i64 a1_3, .int .i64 a1_4] 67 (0, 0)) (by (with_reducible repeat (first | refine blk_drewN ?_ _ | refine blk_drew ?_ | refine blk_alloc ?_ _)); exact BK872.out) hg (Kd.R_ne HO888.out BK872.out (by decide))); have n1_ := Aside0.mk (Kd.R_after (ok := (fun k_ => some k_ ≠ (.slice Ao42 t889.length co42 : Value).ownBlock)) (by (with_reducible repeat (first | apply Kd.R_alloc | apply Kd.R_drewN | apply Kd.R_drew)); exact Kd.R_mono HO880.out (fun _ hk => ⟨hk.2, hk.1.2⟩)) hg hat); have n2_ := Aside0.mk (Kd.R_after (ok := (fun k_ => some k_ ≠ (v879 : Value).ownBlock)) (by (with_reducible repeat (first | apply Kd.R_alloc | apply Kd.R_drewN | apply Kd.R_drew)); exact Kd.R_mono HO891.out (fun _ hk => ⟨hk.1.2, hk.2⟩)) hg hat); have n3_ := Aside0.mk (hb); have n4_ := Aside0.mk (ho); clear BK872; clear HO880; clear HO891; clear HB; clear HO888; have BK872 := n0_; have HO880 := n1_; have HO891 := n2_; have HB := n3_; have HO894 := n4_; clear n0_ n1_ n2_ n3_ n4_; clear ho hb hg hat) | ((with_reducible refine gate_callee (f := 101) rfl ?_); refine goesL_ (some 65) rfl rfl Try.func101 (by kernel_rfl) rfl #[.slice A0 l0.length c0, .int .i64 t885, .int .i64 (l0.length : Int), .int .i64 0] rfl (by (try simp only [List.map_toArray, List.map_cons, List.map_nil]); first | done | rfl | (simp only [List.length_drop, List.length_take]; rfl)) ?_; (with_reducible refine (spec_l13Shift.calls k _ _ l0 t885 (l0.length : Int) 0 t895 _ ?side1 ?side2 A28.out).mono ?_); (case side1 => repeat (first | exact (Kd.C_below HR0.out HB.out) | (with_reducible refine Kd.C_alloc ?_ _) | (with_reducible refine Kd.C_drewN ?_ _) | (with_reducible refine Kd.C_drew ?_))); (case side2 => exact HC0.out); rintro e w43 ⟨v896, rfl, ho0, hb⟩; refine ⟨_, rfl, ?_⟩; have n0_ := Aside0.mk (Kd.R_elder' (by (with_reducible repeat (first | apply Kd.R_alloc | apply Kd.R_drewN | apply Kd.R_drew)); exact HO880.out) (Kd.R_base ho0) hb); have n1_ := Aside0.mk (Kd.R_elder' (by (with_reducible repeat (first | apply Kd.R_alloc | apply Kd.R_drewN | apply Kd.R_drew)); exact HO891.out) (Kd.R_base ho0) hb); have n2_ := Aside0.mk (Kd.R_elder' (by (with_reducible repeat (first | apply Kd.R_alloc | apply Kd.R_drewN | apply Kd.R_drew)); exact HO894.out) (Kd.R_base ho0) hb); have n3_ := Aside0.mk (Kd.R_lower (Kd.R_new' (Kd.R_new' (Kd.R_new' ho0 (Kd.R_lt (by (with_reducible repeat (first | apply Kd.R_alloc | apply Kd.R_drewN | apply Kd.R_drew)); exact HO880.out))) (Kd.R_lt (by (with_reducible repeat (first | apply Kd.R_alloc | apply Kd.R_drewN | apply Kd.R_drew)); exact HO891.out))) (Kd.R_lt (by (with_reducible repeat (first | apply Kd.R_alloc | apply Kd.R_drewN | apply Kd.R_drew)); exact HO894.out))) (below_size (by repeat (first | (with_reducible first | exact HB.out | apply below_alloc | apply pw_below_drewN | apply below_drew1 | refine below_set ?_ GE872.out) | exact HB.out)))); have n4_ := Aside0.mk (blk_below (g := gb872) (o := .cells #[.int .i64 a1_0, .slice A1_1 l1_1.length c1_1, .int .i64 a1_2, .int .i64 a1_3, .int .i64 a1_4] 67 (0, 0)) (by (with_reducible repeat (first | refine blk_drewN ?_ _ | refine blk_drew ?_ | refine blk_alloc ?_ _)); exact BK872.out) hb); have n5_ := Aside0.mk (below_step (by repeat (first | (with_reducible first | exact HB.out | apply below_alloc | apply pw_below_drewN | apply below_drew1 | refine below_set ?_ GE872.out) | exact HB.out)) hb); clear HO880; clear HO891; clear HO894; clear BK872; clear HB; have HO880 := n0_; have HO891 := n1_; have HO894 := n2_; have HO897 := n3_; have BK872 := n4_; have HB := n5_; clear n0_ n1_ n2_ n3_ n4_ n5_; (try clear hb); (try clear hb2); (try clear hk); (try clear hi); (try clear ho0); obtain ⟨Ao45, co45, eo45⟩ := Kd.R_slice HO897.out; subst eo45) | ((with_reducible refine gate_builtin (b := .append) (xs := #[.tmp 60, .tmp 65]) rfl ?_); at_builtin; refine Kd.R_append_rows k90 (w0 := w) w.heap.size rfl (.tmp 60) (.tmp 65) 34 90 (.agg #[(.int .i64 0), (.int .i64 0)]) 16 rfl Try.underlying34 info90 rfl (by decide) (by omega) v893 y892 t895 _ _ _ (fun k_ => some k_ ≠ (v879 : Value).ownBlock ∧ some k_ ≠ (.slice Ao42 t889.length co42 : Value).ownBlock ∧ some k_ ≠ (.slice Ao45 t895.length co45 : Value).ownBlock) (fun _ => False) rfl rfl ?aO ?aR (fun _ _ h => h) (fun _ h => h.elim) ?aF ?aB ?aS ?aL ?_; (case aR => repeat (first | exact (Kd.R_reads' HO897.out).2.2 | (with_reducible refine Kd.C_alloc ?_ _) | (with_reducible refine Kd.C_drewN ?_ _) | (with_reducible refine Kd.C_drew ?_))); (case aB => exact (by repeat (first | (with_reducible first | exact HB.out | apply below_alloc | apply pw_below_drewN | apply below_drew1 | refine below_set ?_ GE872.out) | exact HB.out))); (case aF => exact (fun k_ hk => ⟨Kd.fresh' (Kd.R_lt (by (with_reducible repeat (first | apply Kd.R_alloc | apply Kd.R_drewN | apply Kd.R_drew)); exact HO880.out)) k_ hk, Kd.fresh' (Kd.R_lt (by (with_reducible repeat (first | apply Kd.R_alloc | apply Kd.R_drewN | apply Kd.R_drew)); exact HO891.out)) k_ hk, Kd.fresh' (Kd.R_lt (by (with_reducible repeat (first | apply Kd.R_alloc | apply Kd.R_drewN | apply Kd.R_drew)); exact HO897.out)) k_ hk⟩)); (case aO => exact (by (with_reducible repeat (first | apply Kd.R_alloc | apply Kd.R_drewN | apply Kd.R_drew)); exact Kd.R_mono HO894.out (fun _ hk => ⟨hk.1.1, ⟨hk.1.2, hk.2⟩⟩))); (case aS => exact (below_size (by repeat (first | (with_reducible first | exact HB.out | apply below_alloc | apply pw_below_drewN | apply below_drew1 | refine below_set ?_ GE872.out) | exact HB.out)))); (case aL => have := LMc29.out; omega); intro v899 w44 ho hb hg hat; rw [← Ny898.out] at ho; have n0_ := Aside0.mk (blk_grown (g := gb872) (o := .cells #[.int .i64 a1_0, .slice A1_1 l1_1.length c1_1, .int .i64 a1_2, .int .i64 a1_3, .int .i64 a1_4] 67 (0, 0)) (by (with_reducible repeat (first | refine blk_drewN ?_ _ | refine blk_drew ?_ | refine blk_alloc ?_ _)); exact BK872.out) hg (Kd.R_ne HO894.out BK872.out (by decide))); have n1_ := Aside0.mk (Kd.R_after (ok := (fun k_ => some k_ ≠ (.slice Ao42 t889.length co42 : Value).ownBlock ∧ some k_ ≠ (.slice Ao45 t895.length co45 : Value).ownBlock)) (by (with_reducible repeat (first | apply Kd.R_alloc | apply Kd.R_drewN | apply Kd.R_drew)); exact Kd.R_mono HO880.out (fun _ hk => ⟨⟨hk.1.1, hk.2⟩, hk.1.2⟩)) hg hat); have n2_ := Aside0.mk (Kd.R_after (ok := (fun k_ => some k_ ≠ (v879 : Value).ownBlock ∧ some k_ ≠ (.slice Ao45 t895.length co45 : Value).ownBlock)) (by (with_reducible repeat (first | apply Kd.R_alloc | apply Kd.R_drewN | apply Kd.R_drew)); exact Kd.R_mono HO891.out (fun _ hk => ⟨⟨hk.1.1, hk.2⟩, hk.1.2⟩)) hg hat); have n3_ := Aside0.mk (Kd.R_after (ok := (fun k_ => some k_ ≠ (v879 : Value).ownBlock ∧ some k_ ≠ (.slice Ao42 t889.length co42 : Value).ownBlock)) (by (with_reducible repeat (first | apply Kd.R_alloc | apply Kd.R_drewN | apply Kd.R_drew)); exact Kd.R_mono HO897.out (fun _ hk => ⟨⟨hk.1.1.2, hk.1.2⟩, hk.2⟩)) hg hat); have n4_ := Aside0.mk (hb); have n5_ := Aside0.mk (ho); clear BK872; clear HO880; clear HO891; clear HO897; clear HB; clear HO894; have BK872 := n0_; have HO880 := n1_; have HO891 := n2_; have HO897 := n3_; have HB := n4_; have HO900 := n5_; clear n0_ n1_ n2_ n3_ n4_ n5_; clear ho hb hg hat))
       go_ret2
       exact ⟨_, by first | rfl | (simp [errW_none, errW_some] <;> rfl) | (simp [*, errW_none, errW_some] <;> rfl), by (with_reducible repeat (first | apply Kd.R_alloc | apply Kd.R_drewN | apply Kd.R_drew)); exact Kd.R_mono HO900.out (fun _ hk => trivial), by repeat (first | (with_reducible first | exact HB.out | apply below_alloc | apply pw_below_drewN | apply below_drew1 | refine below_set ?_ GE872.out) | exact HB.out)⟩
      ·rw [if_neg c29] at H
       exact absurd H (by simp)
     ·rw [if_neg c27] at H
      exact absurd H (by simp)
    ·rw [if_neg c23] at H
     have c23b0 : (a1_0 == 2) = false := beq_eq_false_iff_ne.mpr c23
     have c23b1 : (a1_0 != 2) = true := bne_iff_ne.mpr c23
     replace H := Option.bind_eq_some_iff.mp H
     obtain ⟨t901, A460, H⟩ := H
     replace H : (if 0 ≤ t877 then (if t877 < (l0.length : Int) then ((some (([(⟨a1_2, wrap64 (((rd_T90 l0 t877).f1) + 1)⟩ : S90)] : List (S90)) : List (S90))).bind fun y905 => (if t901.length + y905.length < 8796093022208 then ((some (t901 ++ y905 : List (S90))).bind fun y908 => ((spec_l13Shift.f k l0 t882 t883 1).bind fun t911 => (if y908.length + t911.length < 8796093022208 then ((some (y908 ++ t911 : List (S90))).bind fun y914 => ((spec_l13Shift.f k l0 t883 (l0.length : Int) 0).bind fun t917 => (if y914.length + t917.length < 8796093022208 then (some ((y914 ++ t917), t881)) else (none)))) else (none)))) else (none))) else (none)) else (none)) = some (r1, r2) := H
     have A46 := Aside0.mk A460
     clear A460
     by_cases c47 : 0 ≤ t877
     ·rw [if_pos c47] at H
      have c47b0 : decide (0 ≤ t877) = true := decide_eq_true c47
      clear c47
      by_cases c48 : t877 < (l0.length : Int)
      ·rw [if_pos c48] at H
       have c48b0 : decide (t877 < (l0.length : Int)) = true := decide_eq_true c48
       clear c48
       obtain ⟨y905, hy905⟩ : ∃ y_ : List (S90), y_ = (([(⟨a1_2, wrap64 (((rd_T90 l0 t877).f1) + 1)⟩ : S90)] : List (S90))) := ⟨_, rfl⟩
       replace H : (if t901.length + y905.length < 8796093022208 then ((some (t901 ++ y905 : List (S90))).bind fun y908 => ((spec_l13Shift.f k l0 t882 t883 1).bind fun t911 => (if y908.length + t911.length < 8796093022208 then ((some (y908 ++ t911 : List (S90))).bind fun y914 => ((spec_l13Shift.f k l0 t883 (l0.length : Int) 0).bind fun t917 => (if y914.length + t917.length < 8796093022208 then (some ((y914 ++ t917), t881)) else (none)))) else (none)))) else (none)) = some (r1, r2) := by first | (rw [hy905]; with_reducible exact H) | (have H2_ := (Option.bind_some _ _).symm.trans H; rw [hy905]; with_reducible exact H2_) | (have H2_ := (Option.bind_some _ _).symm.trans H; with_reducible exact H2_) | with_reducible exact H | (rw [hy905]; exact H) | exact H
       have Ny905 := Aside0.mk hy905
       clear hy905
       by_cases c49 : t901.length + y905.length < 8796093022208
       ·rw [if_pos c49] at H
        have LMc49 := Aside0.mk c49
        clear c49
        obtain ⟨y908, hy908⟩ : ∃ y_ : List (S90), y_ = (t901 ++ y905) := ⟨_, rfl⟩
        replace H : ((spec_l13Shift.f k l0 t882 t883 1).bind fun t911 => (if y908.length + t911.length < 8796093022208 then ((some (y908 ++ t911 : List (S90))).bind fun y914 => ((spec_l13Shift.f k l0 t883 (l0.length : Int) 0).bind fun t917 => (if y914.length + t917.length < 8796093022208 then (some ((y914 ++ t917), t881)) else (none)))) else (none))) = some (r1, r2) := by first | (rw [hy908]; with_reducible exact H) | (have H2_ := (Option.bind_some _ _).symm.trans H; rw [hy908]; with_reducible exact H2_) | (have H2_ := (Option.bind_some _ _).symm.trans H; with_reducible exact H2_) | with_reducible exact H | (rw [hy908]; exact H) | exact H
        have Ny908 := Aside0.mk hy908
        clear hy908
        replace H := Option.bind_eq_some_iff.mp H
        obtain ⟨t911, A500, H⟩ := H
        replace H : (if y908.length + t911.length < 8796093022208 then ((some (y908 ++ t911 : List (S90))).bind fun y914 => ((spec_l13Shift.f k l0 t883 (l0.length : Int) 0).bind fun t917 => (if y914.length + t917.length < 8796093022208 then (some ((y914 ++ t917), t881)) else (none)))) else (none)) = some (r1, r2) := H
        have A50 := Aside0.mk A500
        clear A500
        by_cases c51 : y908.length + t911.length < 8796093022208
        ·rw [if_pos c51] at H
         have LMc51 := Aside0.mk c51
         clear c51
         obtain ⟨y914, hy914⟩ : ∃ y_ : List (S90), y_ = (y908 ++ t911) := ⟨_, rfl⟩
         replace H : ((spec_l13Shift.f k l0 t883 (l0.length : Int) 0).bind fun t917 => (if y914.length + t917.length < 8796093022208 then (some ((y914 ++ t917), t881)) else (none))) = some (r1, r2) := by first | (rw [hy914]; with_reducible exact H) | (have H2_ := (Option.bind_some _ _).symm.trans H; rw [hy914]; with_reducible exact H2_) | (have H2_ := (Option.bind_some _ _).symm.trans H; with_reducible exact H2_) | with_reducible exact H | (rw [hy914]; exact H) | exact H
         have Ny914 := Aside0.mk hy914
         clear hy914
         replace H := Option.bind_eq_some_iff.mp H
         obtain ⟨t917, A520, H⟩ := H
         replace H : (if y914.length + t917.length < 8796093022208 then (some ((y914 ++ t917), t881)) else (none)) = some (r1, r2) := H
         have A52 := Aside0.mk A520
         clear A520
         by_cases c53 : y914.length + t917.length < 8796093022208
         ·rw [if_pos c53] at H
          have LMc53 := Aside0.mk c53
          clear c53
          obtain ⟨y920, hy920⟩ : ∃ y_ : List (S90), y_ = (y914 ++ t917) := ⟨_, rfl⟩
          replace H : (some (y920, t881)) = some (r1, r2) := by first | (rw [hy920]; with_reducible exact H) | (have H2_ := (Option.bind_some _ _).symm.trans H; rw [hy920]; with_reducible exact H2_) | (have H2_ := (Option.bind_some _ _).symm.trans H; with_reducible exact H2_) | with_reducible exact H | (rw [hy920]; exact H) | exact H
          have Ny920 := Aside0.mk hy920
          clear hy920
          simp only [Option.some.injEq, Prod.mk.injEq] at H
          obtain ⟨rfl, rfl⟩ := H
          go_enter Try.func44, Try.ntmps44
          try go_wp2_with (first | ((with_reducible refine gate_dst (N := 3) rfl ?_); refine box_event ?hg (N := 3) ?hd (cs := #[.int .i64 a1_0, .slice A1_1 l1_1.length c1_1, .int .i64 a1_2, .int .i64 a1_3, .int .i64 a1_4]) (t := 67) ?hr ?_; (case hd => rfl); (case hg => rfl); (case hr => first | (go_simp; done) | (go_simp; rfl)); intro gb872 hg w54 hbox hb; have n0_ := Aside0.mk (below_step (by repeat (first | (with_reducible first | exact HB.out | apply below_alloc | apply pw_below_drewN | apply below_drew1) | exact HB.out)) hb); have n1_ := Aside0.mk (hbox); have n2_ := Aside0.mk ((by rw [hg]; exact (below_size (by repeat (first | (with_reducible first | exact HB.out | apply below_alloc | apply pw_below_drewN | apply below_drew1) | exact HB.out))) : w.heap.size ≤ gb872)); have n3_ := Aside0.mk ((by rw [hg]; exact (below_size (by repeat (first | (with_reducible first | exact HB.out | apply below_alloc | apply pw_below_drewN | apply below_drew1) | exact HB.out))) : w.heap.size ≤ gb872)); clear HB; have HB := n0_; have BK872 := n1_; have GW872 := n2_; have GE872 := n3_; clear n0_ n1_ n2_ n3_; clear hb hbox hg) | ((with_reducible refine gate_callee (f := 64) rfl ?_); refine goesL_ (some 13) rfl rfl Try.func64 (by kernel_rfl) rfl #[.slice A0 l0.length c0] rfl (by (try simp only [List.map_toArray, List.map_cons, List.map_nil]); first | done | rfl | (simp only [List.length_drop, List.length_take]; rfl)) ?_; (with_reducible refine (spec_TreeOk.calls k _ _ l0 true _ ?side1 ?side2 A3.out).mono ?_); (case side1 => repeat (first | exact (Kd.C_below HR0.out HB.out) | (with_reducible refine Kd.C_alloc ?_ _) | (with_reducible refine Kd.C_drewN ?_ _) | (with_reducible refine Kd.C_drew ?_))); (case side2 => exact HC0.out); rintro e w55 ⟨rfl, hb⟩; refine ⟨_, rfl, ?_⟩; have n0_ := Aside0.mk (blk_below (g := gb872) (o := .cells #[.int .i64 a1_0, .slice A1_1 l1_1.length c1_1, .int .i64 a1_2, .int .i64 a1_3, .int .i64 a1_4] 67 (0, 0)) (by (with_reducible repeat (first | refine blk_drewN ?_ _ | refine blk_drew ?_ | refine blk_alloc ?_ _)); exact BK872.out) hb); have n1_ := Aside0.mk (below_step (by repeat (first | (with_reducible first | exact HB.out | apply below_alloc | apply pw_below_drewN | apply below_drew1 | refine below_set ?_ GE872.out) | exact HB.out)) hb); clear BK872; clear HB; have BK872 := n0_; have HB := n1_; clear n0_ n1_; (try clear hb); (try clear hb2); (try clear hk); (try clear hi); have hcz56_0 : w55.cell? ⟨gb872, 0, none⟩ = some (.int .i64 a1_0) := (blk_cell BK872.out 0).trans rfl; have hcz56_1 : w55.cell? ⟨gb872, 1, none⟩ = some (.slice A1_1 l1_1.length c1_1) := (blk_cell BK872.out 1).trans rfl; have hcz56_2 : w55.cell? ⟨gb872, 2, none⟩ = some (.int .i64 a1_2) := (blk_cell BK872.out 2).trans rfl; have hcz56_3 : w55.cell? ⟨gb872, 3, none⟩ = some (.int .i64 a1_3) := (blk_cell BK872.out 3).trans rfl; have hcz56_4 : w55.cell? ⟨gb872, 4, none⟩ = some (.int .i64 a1_4) := (blk_cell BK872.out 4).trans rfl; have hfz56_0 := blk_frozen BK872.out 0; have hfz56_1 := blk_frozen BK872.out 1; have hfz56_2 := blk_frozen BK872.out 2; have hfz56_3 := blk_frozen BK872.out 3; have hfz56_4 := blk_frozen BK872.out 4) | ((with_reducible refine gate_callee (f := 60) rfl ?_); refine goesL_ (some 19) rfl rfl Try.func60 (by kernel_rfl) rfl #[.slice A0 l0.length c0, .slice A1_1 l1_1.length c1_1] rfl (by (try simp only [List.map_toArray, List.map_cons, List.map_nil]); first | done | rfl | (simp only [List.length_drop, List.length_take]; rfl)) ?_; (with_reducible refine (spec_NodeAt.calls k _ _ l0 _ _ l1_1 t877 _ ?side1 ?side2 ?side3 ?side4 A5.out).mono ?_); (case side1 => repeat (first | exact (Kd.C_below HR0.out HB.out) | (with_reducible refine Kd.C_alloc ?_ _) | (with_reducible refine Kd.C_drewN ?_ _) | (with_reducible refine Kd.C_drew ?_))); (case side2 => exact HC0.out); (case side3 => repeat (first | exact (Kd.C_below HR1_1.out HB.out) | (with_reducible refine Kd.C_alloc ?_ _) | (with_reducible refine Kd.C_drewN ?_ _) | (with_reducible refine Kd.C_drew ?_))); (case side4 => exact HC1_1.out); rintro e w57 ⟨rfl, hb⟩; refine ⟨_, rfl, ?_⟩; have n0_ := Aside0.mk (blk_below (g := gb872) (o := .cells #[.int .i64 a1_0, .slice A1_1 l1_1.length c1_1, .int .i64 a1_2, .int .i64 a1_3, .int .i64 a1_4] 67 (0, 0)) (by (with_reducible repeat (first | refine blk_drewN ?_ _ | refine blk_drew ?_ | refine blk_alloc ?_ _)); exact BK872.out) hb); have n1_ := Aside0.mk (below_step (by repeat (first | (with_reducible first | exact HB.out | apply below_alloc | apply pw_below_drewN | apply below_drew1 | refine below_set ?_ GE872.out) | exact HB.out)) hb); clear BK872; clear HB; have BK872 := n0_; have HB := n1_; clear n0_ n1_; (try clear hb); (try clear hb2); (try clear hk); (try clear hi)) | ((with_reducible refine gate_callee (f := 98) rfl ?_); refine goesL_ (some 21) rfl rfl Try.func98 (by kernel_rfl) rfl #[.slice A0 l0.length c0] rfl (by (try simp only [List.map_toArray, List.map_cons, List.map_nil]); first | done | rfl | (simp only [List.length_drop, List.length_take]; rfl)) ?_; (with_reducible refine (spec_l3Copy.calls _ _ l0 t878 _ ?side1 ?side2 A6.out).mono ?_); (case side1 => repeat (first | exact (Kd.C_below HR0.out HB.out) | (with_reducible refine Kd.C_alloc ?_ _) | (with_reducible refine Kd.C_drewN ?_ _) | (with_reducible refine Kd.C_drew ?_))); (case side2 => exact HC0.out); rintro e w58 ⟨v879, rfl, ho0, hb⟩; refine ⟨_, rfl, ?_⟩; have n0_ := Aside0.mk (Kd.R_lower ho0 (below_size (by repeat (first | (with_reducible first | exact HB.out | apply below_alloc | apply pw_below_drewN | apply below_drew1 | refine below_set ?_ GE872.out) | exact HB.out)))); have n1_ := Aside0.mk (blk_below (g := gb872) (o := .cells #[.int .i64 a1_0, .slice A1_1 l1_1.length c1_1, .int .i64 a1_2, .int .i64 a1_3, .int .i64 a1_4] 67 (0, 0)) (by (with_reducible repeat (first | refine blk_drewN ?_ _ | refine blk_drew ?_ | refine blk_alloc ?_ _)); exact BK872.out) hb); have n2_ := Aside0.mk (below_step (by repeat (first | (with_reducible first | exact HB.out | apply below_alloc | apply pw_below_drewN | apply below_drew1 | refine below_set ?_ GE872.out) | exact HB.out)) hb); clear BK872; clear HB; have HO880 := n0_; have BK872 := n1_; have HB := n2_; clear n0_ n1_ n2_; (try clear hb); (try clear hb2); (try clear hk); (try clear hi); (try clear ho0); have hcz59_0 : w58.cell? ⟨gb872, 0, none⟩ = some (.int .i64 a1_0) := (blk_cell BK872.out 0).trans rfl; have hcz59_1 : w58.cell? ⟨gb872, 1, none⟩ = some (.slice A1_1 l1_1.length c1_1) := (blk_cell BK872.out 1).trans rfl; have hcz59_2 : w58.cell? ⟨gb872, 2, none⟩ = some (.int .i64 a1_2) := (blk_cell BK872.out 2).trans rfl; have hcz59_3 : w58.cell? ⟨gb872, 3, none⟩ = some (.int .i64 a1_3) := (blk_cell BK872.out 3).trans rfl; have hcz59_4 : w58.cell? ⟨gb872, 4, none⟩ = some (.int .i64 a1_4) := (blk_cell BK872.out 4).trans rfl; have hfz59_0 := blk_frozen BK872.out 0; have hfz59_1 := blk_frozen BK872.out 1; have hfz59_2 := blk_frozen BK872.out 2; have hfz59_3 := blk_frozen BK872.out 3; have hfz59_4 := blk_frozen BK872.out 4) | ((with_reducible refine gate_callee (f := 99) rfl ?_); refine goesL_ (some 26) rfl rfl Try.func99 (by kernel_rfl) rfl #[.slice A0 l0.length c0, .agg #[.int .i64 a1_0, .slice A1_1 l1_1.length c1_1, .int .i64 a1_2, .int .i64 a1_3, .int .i64 a1_4], .int .i64 t877] rfl (by (try simp only [List.map_toArray, List.map_cons, List.map_nil]); first | done | rfl | (simp only [List.length_drop, List.length_take]; rfl)) ?_; (with_reducible refine (spec_l13Code.calls k _ _ l0 a1_0 _ _ l1_1 a1_2 a1_3 a1_4 t877 t881 t882 t883 _ ?side1 ?side2 ?side3 ?side4 A7.out).mono ?_); (case side1 => repeat (first | exact (Kd.C_below HR0.out HB.out) | (with_reducible refine Kd.C_alloc ?_ _) | (with_reducible refine Kd.C_drewN ?_ _) | (with_reducible refine Kd.C_drew ?_))); (case side2 => exact HC0.out); (case side3 => repeat (first | exact (Kd.C_below HR1_1.out HB.out) | (with_reducible refine Kd.C_alloc ?_ _) | (with_reducible refine Kd.C_drewN ?_ _) | (with_reducible refine Kd.C_drew ?_))); (case side4 => exact HC1_1.out); rintro e w60 ⟨rfl, hb⟩; refine ⟨_, rfl, ?_⟩; have n0_ := Aside0.mk (Kd.R_below (by (with_reducible repeat (first | apply Kd.R_alloc | apply Kd.R_drewN | apply Kd.R_drew)); exact HO880.out) hb); have n1_ := Aside0.mk (blk_below (g := gb872) (o := .cells #[.int .i64 a1_0, .slice A1_1 l1_1.length c1_1, .int .i64 a1_2, .int .i64 a1_3, .int .i64 a1_4] 67 (0, 0)) (by (with_reducible repeat (first | refine blk_drewN ?_ _ | refine blk_drew ?_ | refine blk_alloc ?_ _)); exact BK872.out) hb); have n2_ := Aside0.mk (below_step (by repeat (first | (with_reducible first | exact HB.out | apply below_alloc | apply pw_below_drewN | apply below_drew1 | refine below_set ?_ GE872.out) | exact HB.out)) hb); clear HO880; clear BK872; clear HB; have HO880 := n0_; have BK872 := n1_; have HB := n2_; clear n0_ n1_ n2_; (try clear hb); (try clear hb2); (try clear hk); (try clear hi); have hcz61_0 : w60.cell? ⟨gb872, 0, none⟩ = some (.int .i64 a1_0) := (blk_cell BK872.out 0).trans rfl; have hcz61_1 : w60.cell? ⟨gb872, 1, none⟩ = some (.slice A1_1 l1_1.length c1_1) := (blk_cell BK872.out 1).trans rfl; have hcz61_2 : w60.cell? ⟨gb872, 2, none⟩ = some (.int .i64 a1_2) := (blk_cell BK872.out 2).trans rfl; have hcz61_3 : w60.cell? ⟨gb872, 3, none⟩ = some (.int .i64 a1_3) := (blk_cell BK872.out 3).trans rfl; have hcz61_4 : w60.cell? ⟨gb872, 4, none⟩ = some (.int .i64 a1_4) := (blk_cell BK872.out 4).trans rfl; have hfz61_0 := blk_frozen BK872.out 0; have hfz61_1 := blk_frozen BK872.out 1; have hfz61_2 := blk_frozen BK872.out 2; have hfz61_3 := blk_frozen BK872.out 3; have hfz61_4 := blk_frozen BK872.out 4))
          have n0_ := Aside0.mk (Kd.R_drew HO880.out)
          have n1_ := Aside0.mk (blk_drew BK872.out)
          have n2_ := Aside0.mk (below_drew1 HB.out)
          clear HO880
          clear BK872
          clear HB
          have HO880 := n0_
          have BK872 := n1_
          have HB := n2_
          clear n0_ n1_ n2_
          have p904 : 0 ≤ (t877 : Int) := of_decide_eq_true (by first | (with_reducible assumption) | assumption)
          have q904 : t877 < (l0.length : Int) := of_decide_eq_true (by first | (with_reducible assumption) | assumption)
          obtain ⟨ad904, e904, hx904_0, hx904_1⟩ := at_T90 HR0.out t877 p904 q904
          have hw904_1 := hx904_1
          have hw904_0 := hx904_0
          cases e904
          replace hx904_0 := (HB.out.cell (World.block_lt_of_cell? w _ hx904_0)).trans hx904_0
          replace hx904_1 := (HB.out.cell (World.block_lt_of_cell? w _ hx904_1)).trans hx904_1
          replace p904 := eq_true p904
          replace q904 := eq_true q904
          refine start_ (n := 15) (S := fun w' => w'.cell? ⟨gb872, 0, none⟩ = some (.int .i64 a1_0) ∧ w'.cell? ⟨gb872, 1, none⟩ = some (.slice A1_1 l1_1.length c1_1) ∧ w'.cell? ⟨gb872, 2, none⟩ = some (.int .i64 a1_2) ∧ w'.cell? ⟨gb872, 3, none⟩ = some (.int .i64 a1_3) ∧ w'.cell? ⟨gb872, 4, none⟩ = some (.int .i64 a1_4) ∧ w'.cell? (ad904.add ((t877).toNat * 2)) = some (.int .i64 ((rd_T90 l0 t877).f0)) ∧ w'.cell? ⟨(ad904.add ((t877).toNat * 2)).block, (ad904.add ((t877).toNat * 2)).off + 1, none⟩ = some (.int .i64 ((rd_T90 l0 t877).f1))) (ds := []) (ba_ 15 0) (by kernel_rfl) rfl rfl ⟨(blk_cell BK872.out 0).trans rfl, (blk_cell BK872.out 1).trans rfl, (blk_cell BK872.out 2).trans rfl, (blk_cell BK872.out 3).trans rfl, (blk_cell BK872.out 4).trans rfl, ((HB.out.cell (World.block_lt_of_cell? w _ hw904_0)).trans hw904_0), ((HB.out.cell (World.block_lt_of_cell? w _ hw904_1)).trans hw904_1)⟩ (fun hHeld => ?_); refine with_tabW spec_ApplyOp.tab16 spec_ApplyOp.bits16 (fun HT_ HW_ => ?_)
          generalize w60.drew = w62 at HO880 BK872 HB hx904_0 hx904_1 hHeld ⊢
          refine pu_ 0 (some 68) (ba_ 15 1) rfl rfl (any_of HT_.out (by kernel_rfl)) ?_
          refine pu_ 1 (some 69) (ba_ 15 3) rfl rfl (any_of HT_.out (by kernel_rfl)) ?_
          refine pu_ 3 (some 71) (ba_ 15 11) rfl rfl (any_of HT_.out (by kernel_rfl)) ?_
          refine pu_ 5 (some 73) (ba_ 15 43) rfl rfl (any_of HT_.out (by kernel_rfl)) ?_
          refine pu_ 6 (some 74) (ba_ 15 107) rfl rfl (any_of HT_.out (by kernel_rfl)) ?_
          refine pu_ 7 (some 75) (ba_ 15 235) rfl rfl (any_of HT_.out (by kernel_rfl)) ?_
          refine pu_ 8 (some 76) (ba_ 15 491) rfl rfl (any_of HT_.out (by kernel_rfl)) ?_
          refine ta_ 4 (some 72) (ba_ 15 507) rfl rfl (take_ofW HT_.out HW_.out (by kernel_rfl)) hHeld (by rintro w' ⟨s0, s1, s2, s3, s4, s5, s6⟩; go_simp; with_reducible rfl) ?_
          refine ta_ 9 (some 77) (ba_ 15 1019) rfl rfl (take_ofW HT_.out HW_.out (by kernel_rfl)) hHeld (by rintro w' ⟨s0, s1, s2, s3, s4, s5, s6⟩; go_simp; with_reducible rfl) ?_
          refine pu_ 10 (some 78) (ba_ 15 2043) rfl rfl (any_of HT_.out (by kernel_rfl)) ?_
          refine pu_ 11 (some 79) (ba_ 15 4091) rfl rfl (any_of HT_.out (by kernel_rfl)) ?_
          refine join_ (σ := Value × Value) 2 (ba_ 15 8191) (fun s_ => [(70, s_.1), (80, s_.2)]) (fun s_ w' => (w'.cell? ⟨gb872, 0, none⟩ = some (.int .i64 a1_0) ∧ w'.cell? ⟨gb872, 1, none⟩ = some (.slice A1_1 l1_1.length c1_1) ∧ w'.cell? ⟨gb872, 2, none⟩ = some (.int .i64 a1_2) ∧ w'.cell? ⟨gb872, 3, none⟩ = some (.int .i64 a1_3) ∧ w'.cell? ⟨gb872, 4, none⟩ = some (.int .i64 a1_4) ∧ w'.cell? (ad904.add ((t877).toNat * 2)) = some (.int .i64 ((rd_T90 l0 t877).f0)) ∧ w'.cell? ⟨(ad904.add ((t877).toNat * 2)).block, (ad904.add ((t877).toNat * 2)).off + 1, none⟩ = some (.int .i64 ((rd_T90 l0 t877).f1))) ∧ (Kd.R k90 90 w' w.heap.size (fun k_ => some k_ ≠ (s_.1 : Value).ownBlock ∧ some k_ ≠ (s_.2 : Value).ownBlock) v879 t878) ∧ (Kd.R k90 90 w' w.heap.size (fun k_ => some k_ ≠ (v879 : Value).ownBlock ∧ some k_ ≠ (s_.2 : Value).ownBlock) s_.1 t901) ∧ (Kd.R k90 90 w' w.heap.size (fun k_ => some k_ ≠ (v879 : Value).ownBlock ∧ some k_ ≠ (s_.1 : Value).ownBlock) s_.2 y905) ∧ (w'.heap[gb872]? = some (.cells #[.int .i64 a1_0, .slice A1_1 l1_1.length c1_1, .int .i64 a1_2, .int .i64 a1_3, .int .i64 a1_4] 67 (0, 0))) ∧ (Below w.heap.size w w')) ?_ ?_
          rotate_left
          ·intro hCont
           refine two_ (i := 2) (j := 12) (Ni := some 70) (Nj := some 80) (ba_ 15 4095) (ba_ 15 8187) rfl rfl rfl rfl (two_of HT_.out (by kernel_rfl)) (by decide) (by decide) (fun K hK => ?_) (fun K hK => ?_)
           ·skip
            refine goes_ Try.func101 (by kernel_rfl) rfl #[.slice (some ad904) l0.length c0, .int .i64 0, .int .i64 t882, .int .i64 0] (by rfl) rfl rfl (by (try simp only [List.map_toArray, List.map_cons, List.map_nil]); first | done | rfl | (simp only [List.length_drop, List.length_take]; rfl)) ?_
            with_reducible refine (spec_l13Shift.calls k _ _ l0 0 t882 0 t901 _ ?side1 ?side2 A46.out).mono ?_
            (case side1 => repeat (first | exact (Kd.C_below HR0.out HB.out) | (with_reducible refine Kd.C_alloc ?_ _) | (with_reducible refine Kd.C_drewN ?_ _) | (with_reducible refine Kd.C_drew ?_)))
            (case side2 => exact HC0.out)
            rintro e w63 ⟨v902, rfl, ho0, hb⟩
            refine ⟨_, rfl, ?_⟩
            have n0_ := Aside0.mk (Kd.R_elder' (by (with_reducible repeat (first | apply Kd.R_alloc | apply Kd.R_drewN | apply Kd.R_drew)); exact HO880.out) (Kd.R_base ho0) hb)
            have n1_ := Aside0.mk (Kd.R_lower (Kd.R_new' ho0 (Kd.R_lt (by (with_reducible repeat (first | apply Kd.R_alloc | apply Kd.R_drewN | apply Kd.R_drew)); exact HO880.out))) (below_size (by repeat (first | (with_reducible first | exact HB.out | apply below_alloc | apply pw_below_drewN | apply below_drew1 | refine below_set ?_ GE872.out) | exact HB.out))))
            have n2_ := Aside0.mk (blk_below (g := gb872) (o := .cells #[.int .i64 a1_0, .slice A1_1 l1_1.length c1_1, .int .i64 a1_2, .int .i64 a1_3, .int .i64 a1_4] 67 (0, 0)) (by (with_reducible repeat (first | refine blk_drewN ?_ _ | refine blk_drew ?_ | refine blk_alloc ?_ _)); exact BK872.out) hb)
            have n3_ := Aside0.mk (below_step (by repeat (first | (with_reducible first | exact HB.out | apply below_alloc | apply pw_below_drewN | apply below_drew1 | refine below_set ?_ GE872.out) | exact HB.out)) hb)
            clear HO880
            clear BK872
            clear HB
            have HO880 := n0_
            have HO903 := n1_
            have BK872 := n2_
            have HB := n3_
            clear n0_ n1_ n2_ n3_
            (try clear hb)
            (try clear hb2)
            (try clear hk)
            (try clear hi)
            (try clear ho0)
            refine hK.out _ _ ⟨(blk_cell BK872.out 0).trans rfl, (blk_cell BK872.out 1).trans rfl, (blk_cell BK872.out 2).trans rfl, (blk_cell BK872.out 3).trans rfl, (blk_cell BK872.out 4).trans rfl, ((HB.out.cell (World.block_lt_of_cell? w _ hw904_0)).trans hw904_0), ((HB.out.cell (World.block_lt_of_cell? w _ hw904_1)).trans hw904_1)⟩ (fun hHeld => ?_)
            clear hK K
            refine norm_ (a' := ?_) ?_ ?_
            rotate_left
            ·show Act.put _ (some 70) _ = _
             simp only [Act.put, List.setIfInBounds_toArray, List.set_cons_zero, List.set_cons_succ, i64_w, i32_w]
             rfl
            refine one_ (i := 12) (N := some 80) (ba_ 15 8191) rfl rfl (one_of HT_.out (by kernel_rfl)) (by decide) (fun K hK => ?_)
            refine Kd.R_lit_step k90 _ 90 ?hg (N := 80) ?hd (xs := ([(⟨a1_2, wrap64 (((rd_T90 l0 t877).f1) + 1)⟩ : S90)] : List (S90))) (inner := [.int .i64 a1_2, .int .i64 (wrap64 (((rd_T90 l0 t877).f1) + 1))]) (ok := fun _ => True) (okp := fun _ => True) ?hr ?hp (fun _ hk => hk) trivial (Below.refl _ _) (Nat.le_refl _) (by simp) ?_; (case hd => rfl); (case hg => rfl); (case hr => first | (go_simp; done) | (go_simp; rfl)); (case hp => exact (Reps.c2 (show Kd.M k90 _ _ _ (⟨a1_2, wrap64 (((rd_T90 l0 t877).f1) + 1)⟩ : S90) [.int .i64 a1_2, .int .i64 (wrap64 (((rd_T90 l0 t877).f1) + 1))] from (k90_mkM _ _ _ (⟨a1_2, wrap64 (((rd_T90 l0 t877).f1) + 1)⟩ : S90) )) (Reps.none _ _)))
            intro v906 w64 ho65 hb hg_ hnew_
            clear hg_ hnew_
            (first | rw [← Ny905.out] at ho65 | (simp only [Int.reduceToNat] at ho65; rw [← Ny905.out] at ho65))
            have n0_ := Aside0.mk (Kd.R_elder' (by (with_reducible repeat (first | apply Kd.R_alloc | apply Kd.R_drewN | apply Kd.R_drew)); exact HO880.out) (Kd.R_base ho65) hb)
            have n1_ := Aside0.mk (Kd.R_elder' (by (with_reducible repeat (first | apply Kd.R_alloc | apply Kd.R_drewN | apply Kd.R_drew)); exact HO903.out) (Kd.R_base ho65) hb)
            have n2_ := Aside0.mk (Kd.R_lower (Kd.R_new' (Kd.R_new' ho65 (Kd.R_lt (by (with_reducible repeat (first | apply Kd.R_alloc | apply Kd.R_drewN | apply Kd.R_drew)); exact HO880.out))) (Kd.R_lt (by (with_reducible repeat (first | apply Kd.R_alloc | apply Kd.R_drewN | apply Kd.R_drew)); exact HO903.out))) (below_size (by repeat (first | (with_reducible first | exact HB.out | apply below_alloc | apply pw_below_drewN | apply below_drew1 | refine below_set ?_ GE872.out) | exact HB.out))))
            have n3_ := Aside0.mk (blk_below (g := gb872) (o := .cells #[.int .i64 a1_0, .slice A1_1 l1_1.length c1_1, .int .i64 a1_2, .int .i64 a1_3, .int .i64 a1_4] 67 (0, 0)) (by (with_reducible repeat (first | refine blk_drewN ?_ _ | refine blk_drew ?_ | refine blk_alloc ?_ _)); exact BK872.out) hb)
            have n4_ := Aside0.mk (below_step (by repeat (first | (with_reducible first | exact HB.out | apply below_alloc | apply pw_below_drewN | apply below_drew1 | refine below_set ?_ GE872.out) | exact HB.out)) hb)
            clear HO880
            clear HO903
            clear BK872
            clear HB
            have HO880 := n0_
            have HO903 := n1_
            have HO907 := n2_
            have BK872 := n3_
            have HB := n4_
            clear n0_ n1_ n2_ n3_ n4_
            clear hb ho65
            refine hK.out _ _ ⟨(blk_cell BK872.out 0).trans rfl, (blk_cell BK872.out 1).trans rfl, (blk_cell BK872.out 2).trans rfl, (blk_cell BK872.out 3).trans rfl, (blk_cell BK872.out 4).trans rfl, ((HB.out.cell (World.block_lt_of_cell? w _ hw904_0)).trans hw904_0), ((HB.out.cell (World.block_lt_of_cell? w _ hw904_1)).trans hw904_1)⟩ (fun hHeld => ?_)
            clear hK K
            refine norm_ (a' := ?_) ?_ ?_
            rotate_left
            ·show Act.put _ (some 80) _ = _
             simp only [Act.put, List.setIfInBounds_toArray, List.set_cons_zero, List.set_cons_succ, i64_w, i32_w]
             rfl
            exact norm_ (by simp only [putAll, Act.put, List.setIfInBounds_toArray, List.set_cons_zero, List.set_cons_succ]) (hCont (v902, v906) _ ⟨hHeld, (by (with_reducible repeat (first | apply Kd.R_alloc | apply Kd.R_drewN | apply Kd.R_drew)); exact Kd.R_mono HO880.out (fun _ hk => ⟨hk.1.2, hk.2⟩)), (by (with_reducible repeat (first | apply Kd.R_alloc | apply Kd.R_drewN | apply Kd.R_drew)); exact Kd.R_mono HO903.out (fun _ hk => ⟨hk.1.2, hk.2⟩)), (by (with_reducible repeat (first | apply Kd.R_alloc | apply Kd.R_drewN | apply Kd.R_drew)); exact Kd.R_mono HO907.out (fun _ hk => ⟨hk.1.2, hk.2⟩)), (by (with_reducible repeat (first | refine blk_drewN ?_ _ | refine blk_drew ?_ | refine blk_alloc ?_ _)); exact BK872.out), (by repeat (first | (with_reducible first | exact HB.out | apply below_alloc | apply pw_below_drewN | apply below_drew1 | refine below_set ?_ GE872.out) | exact HB.out))⟩)
           ·skip
            refine Kd.R_lit_step k90 _ 90 ?hg (N := 80) ?hd (xs := ([(⟨a1_2, wrap64 (((rd_T90 l0 t877).f1) + 1)⟩ : S90)] : List (S90))) (inner := [.int .i64 a1_2, .int .i64 (wrap64 (((rd_T90 l0 t877).f1) + 1))]) (ok := fun _ => True) (okp := fun _ => True) ?hr ?hp (fun _ hk => hk) trivial (Below.refl _ _) (Nat.le_refl _) (by simp) ?_; (case hd => rfl); (case hg => rfl); (case hr => first | (go_simp; done) | (go_simp; rfl)); (case hp => exact (Reps.c2 (show Kd.M k90 _ _ _ (⟨a1_2, wrap64 (((rd_T90 l0 t877).f1) + 1)⟩ : S90) [.int .i64 a1_2, .int .i64 (wrap64 (((rd_T90 l0 t877).f1) + 1))] from (k90_mkM _ _ _ (⟨a1_2, wrap64 (((rd_T90 l0 t877).f1) + 1)⟩ : S90) )) (Reps.none _ _)))
            intro v906 w63 ho64 hb hg_ hnew_
            clear hg_ hnew_
            (first | rw [← Ny905.out] at ho64 | (simp only [Int.reduceToNat] at ho64; rw [← Ny905.out] at ho64))
            have n0_ := Aside0.mk (Kd.R_elder' (by (with_reducible repeat (first | apply Kd.R_alloc | apply Kd.R_drewN | apply Kd.R_drew)); exact HO880.out) (Kd.R_base ho64) hb)
            have n1_ := Aside0.mk (Kd.R_lower (Kd.R_new' ho64 (Kd.R_lt (by (with_reducible repeat (first | apply Kd.R_alloc | apply Kd.R_drewN | apply Kd.R_drew)); exact HO880.out))) (below_size (by repeat (first | (with_reducible first | exact HB.out | apply below_alloc | apply pw_below_drewN | apply below_drew1 | refine below_set ?_ GE872.out) | exact HB.out))))
            have n2_ := Aside0.mk (blk_below (g := gb872) (o := .cells #[.int .i64 a1_0, .slice A1_1 l1_1.length c1_1, .int .i64 a1_2, .int .i64 a1_3, .int .i64 a1_4] 67 (0, 0)) (by (with_reducible repeat (first | refine blk_drewN ?_ _ | refine blk_drew ?_ | refine blk_alloc ?_ _)); exact BK872.out) hb)
            have n3_ := Aside0.mk (below_step (by repeat (first | (with_reducible first | exact HB.out | apply below_alloc | apply pw_below_drewN | apply below_drew1 | refine below_set ?_ GE872.out) | exact HB.out)) hb)
            clear HO880
            clear BK872
            clear HB
            have HO880 := n0_
            have HO907 := n1_
            have BK872 := n2_
            have HB := n3_
            clear n0_ n1_ n2_ n3_
            clear hb ho64
            refine hK.out _ _ ⟨(blk_cell BK872.out 0).trans rfl, (blk_cell BK872.out 1).trans rfl, (blk_cell BK872.out 2).trans rfl, (blk_cell BK872.out 3).trans rfl, (blk_cell BK872.out 4).trans rfl, ((HB.out.cell (World.block_lt_of_cell? w _ hw904_0)).trans hw904_0), ((HB.out.cell (World.block_lt_of_cell? w _ hw904_1)).trans hw904_1)⟩ (fun hHeld => ?_)
            clear hK K
            refine norm_ (a' := ?_) ?_ ?_
            rotate_left
            ·show Act.put _ (some 80) _ = _
             simp only [Act.put, List.setIfInBounds_toArray, List.set_cons_zero, List.set_cons_succ, i64_w, i32_w]
             rfl
            refine one_ (i := 2) (N := some 70) (ba_ 15 8191) rfl rfl (one_of HT_.out (by kernel_rfl)) (by decide) (fun K hK => ?_)
            refine goes_ Try.func101 (by kernel_rfl) rfl #[.slice (some ad904) l0.length c0, .int .i64 0, .int .i64 t882, .int .i64 0] (by rfl) rfl rfl (by (try simp only [List.map_toArray, List.map_cons, List.map_nil]); first | done | rfl | (simp only [List.length_drop, List.length_take]; rfl)) ?_
            with_reducible refine (spec_l13Shift.calls k _ _ l0 0 t882 0 t901 _ ?side1 ?side2 A46.out).mono ?_
            (case side1 => repeat (first | exact (Kd.C_below HR0.out HB.out) | (with_reducible refine Kd.C_alloc ?_ _) | (with_reducible refine Kd.C_drewN ?_ _) | (with_reducible refine Kd.C_drew ?_)))
            (case side2 => exact HC0.out)
            rintro e w65 ⟨v902, rfl, ho0, hb⟩
            refine ⟨_, rfl, ?_⟩
            have n0_ := Aside0.mk (Kd.R_elder' (by (with_reducible repeat (first | apply Kd.R_alloc | apply Kd.R_drewN | apply Kd.R_drew)); exact HO880.out) (Kd.R_base ho0) hb)
            have n1_ := Aside0.mk (Kd.R_elder' (by (with_reducible repeat (first | apply Kd.R_alloc | apply Kd.R_drewN | apply Kd.R_drew)); exact HO907.out) (Kd.R_base ho0) hb)
            have n2_ := Aside0.mk (Kd.R_lower (Kd.R_new' (Kd.R_new' ho0 (Kd.R_lt (by (with_reducible repeat (first | apply Kd.R_alloc | apply Kd.R_drewN | apply Kd.R_drew)); exact HO880.out))) (Kd.R_lt (by (with_reducible repeat (first | apply Kd.R_alloc | apply Kd.R_drewN | apply Kd.R_drew)); exact HO907.out))) (below_size (by repeat (first | (with_reducible first | exact HB.out | apply below_alloc | apply pw_below_drewN | apply below_drew1 | refine below_set ?_ GE872.out) | exact HB.out))))
            have n3_ := Aside0.mk (blk_below (g := gb872) (o := .cells #[.int .i64 a1_0, .slice A1_1 l1_1.length c1_1, .int .i64 a1_2, .int .i64 a1_3, .int .i64 a1_4] 67 (0, 0)) (by (with_reducible repeat (first | refine blk_drewN ?_ _ | refine blk_drew ?_ | refine blk_alloc ?_ _)); exact BK872.out) hb)
            have n4_ := Aside0.mk (below_step (by repeat (first | (with_reducible first | exact HB.out | apply below_alloc | apply pw_below_drewN | apply below_drew1 | refine below_set ?_ GE872.out) | exact HB.out)) hb)
            clear HO880
            clear HO907
            clear BK872
            clear HB
            have HO880 := n0_
            have HO907 := n1_
            have HO903 := n2_
            have BK872 := n3_
            have HB := n4_
            clear n0_ n1_ n2_ n3_ n4_
            (try clear hb)
            (try clear hb2)
            (try clear hk)
            (try clear hi)
            (try clear ho0)
            refine hK.out _ _ ⟨(blk_cell BK872.out 0).trans rfl, (blk_cell BK872.out 1).trans rfl, (blk_cell BK872.out 2).trans rfl, (blk_cell BK872.out 3).trans rfl, (blk_cell BK872.out 4).trans rfl, ((HB.out.cell (World.block_lt_of_cell? w _ hw904_0)).trans hw904_0), ((HB.out.cell (World.block_lt_of_cell? w _ hw904_1)).trans hw904_1)⟩ (fun hHeld => ?_)
            clear hK K
            refine norm_ (a' := ?_) ?_ ?_
            rotate_left
            ·show Act.put _ (some 70) _ = _
             simp only [Act.put, List.setIfInBounds_toArray, List.set_cons_zero, List.set_cons_succ, i64_w, i32_w]
             rfl
            exact norm_ (by simp only [putAll, Act.put, List.setIfInBounds_toArray, List.set_cons_zero, List.set_cons_succ]) (hCont (v902, v906) _ ⟨hHeld, (by (with_reducible repeat (first | apply Kd.R_alloc | apply Kd.R_drewN | apply Kd.R_drew)); exact Kd.R_mono HO880.out (fun _ hk => ⟨hk.2, hk.1.2⟩)), (by (with_reducible repeat (first | apply Kd.R_alloc | apply Kd.R_drewN | apply Kd.R_drew)); exact Kd.R_mono HO903.out (fun _ hk => ⟨hk.1.2, hk.2⟩)), (by (with_reducible repeat (first | apply Kd.R_alloc | apply Kd.R_drewN | apply Kd.R_drew)); exact Kd.R_mono HO907.out (fun _ hk => ⟨hk.1.2, hk.2⟩)), (by (with_reducible repeat (first | refine blk_drewN ?_ _ | refine blk_drew ?_ | refine blk_alloc ?_ _)); exact BK872.out), (by repeat (first | (with_reducible first | exact HB.out | apply below_alloc | apply pw_below_drewN | apply below_drew1 | refine below_set ?_ GE872.out) | exact HB.out))⟩)
          rintro ⟨v902, v906⟩ w66 ⟨hS_, h0_, h1_, h2_, h3_, h4_⟩
          have n0_ : Aside0 (Kd.R k90 90 w66 w.heap.size (fun k_ => some k_ ≠ (v902 : Value).ownBlock ∧ some k_ ≠ (v906 : Value).ownBlock) v879 t878) := ⟨h0_⟩
          have n1_ : Aside0 (Kd.R k90 90 w66 w.heap.size (fun k_ => some k_ ≠ (v879 : Value).ownBlock ∧ some k_ ≠ (v906 : Value).ownBlock) v902 t901) := ⟨h1_⟩
          have n2_ : Aside0 (Kd.R k90 90 w66 w.heap.size (fun k_ => some k_ ≠ (v879 : Value).ownBlock ∧ some k_ ≠ (v902 : Value).ownBlock) v906 y905) := ⟨h2_⟩
          have n3_ : Aside0 (w66.heap[gb872]? = some (.cells #[.int .i64 a1_0, .slice A1_1 l1_1.length c1_1, .int .i64 a1_2, .int .i64 a1_3, .int .i64 a1_4] 67 (0, 0))) := ⟨h3_⟩
          have n4_ : Aside0 (Below w.heap.size w w66) := ⟨h4_⟩
          clear HO880
          clear BK872
          clear HB
          clear h0_ h1_ h2_ h3_ h4_
          have HO880 := n0_
          have HO903 := n1_
          have HO907 := n2_
          have BK872 := n3_
          have HB := n4_
          clear n0_ n1_ n2_ n3_ n4_
          have hHeld : w66.cell? ⟨gb872, 0, none⟩ = some (.int .i64 a1_0) ∧ w66.cell? ⟨gb872, 1, none⟩ = some (.slice A1_1 l1_1.length c1_1) ∧ w66.cell? ⟨gb872, 2, none⟩ = some (.int .i64 a1_2) ∧ w66.cell? ⟨gb872, 3, none⟩ = some (.int .i64 a1_3) ∧ w66.cell? ⟨gb872, 4, none⟩ = some (.int .i64 a1_4) ∧ w66.cell? (ad904.add ((t877).toNat * 2)) = some (.int .i64 ((rd_T90 l0 t877).f0)) ∧ w66.cell? ⟨(ad904.add ((t877).toNat * 2)).block, (ad904.add ((t877).toNat * 2)).off + 1, none⟩ = some (.int .i64 ((rd_T90 l0 t877).f1)) := hS_
          obtain ⟨Ao68, co68, eo68⟩ := Kd.R_slice HO907.out
          (first | subst eo68 | (injection eo68 with f1_ f2_ f3_; have f4_ := f1_.symm; have f5_ := f3_.symm; clear f1_ f2_ f3_; subst f4_; subst f5_))
          refine norm_ (a' := ?_) ?_ ?_
          rotate_left
          ·simp only [putAll, Act.put, List.setIfInBounds_toArray, List.set_cons_zero, List.set_cons_succ]
           rfl
          refine one_ (i := 13) (N := some 81) (ba_ 15 16383) rfl rfl (one_of HT_.out (by kernel_rfl)) (by decide) (fun K hK => ?_)
          refine Kd.R_append_rows_step k90 (w0 := w) w.heap.size (by rfl) (.tmp 70) (.tmp 80) 34 90 (.agg #[(.int .i64 0), (.int .i64 0)]) 16 rfl Try.underlying34 info90 rfl (by decide) (by omega) v902 t901 y905 _ _ _ (fun k_ => some k_ ≠ (v879 : Value).ownBlock ∧ some k_ ≠ (.slice Ao68 y905.length co68 : Value).ownBlock) (fun _ => False) rfl rfl ?aO ?aR (fun _ _ h => h) (fun _ h => h.elim) ?aF ?aB ?aS ?aL ?_
          (case aR => repeat (first | exact (Kd.R_reads' HO907.out).2.2 | (with_reducible refine Kd.C_alloc ?_ _) | (with_reducible refine Kd.C_drewN ?_ _) | (with_reducible refine Kd.C_drew ?_)))
          (case aB => exact (by repeat (first | (with_reducible first | exact HB.out | apply below_alloc | apply pw_below_drewN | apply below_drew1 | refine below_set ?_ GE872.out) | exact HB.out)))
          (case aF => exact (fun k_ hk => ⟨Kd.fresh' (Kd.R_lt (by (with_reducible repeat (first | apply Kd.R_alloc | apply Kd.R_drewN | apply Kd.R_drew)); exact HO880.out)) k_ hk, Kd.fresh' (Kd.R_lt (by (with_reducible repeat (first | apply Kd.R_alloc | apply Kd.R_drewN | apply Kd.R_drew)); exact HO907.out)) k_ hk⟩))
          (case aO => exact (by (with_reducible repeat (first | apply Kd.R_alloc | apply Kd.R_drewN | apply Kd.R_drew)); exact HO903.out))
          (case aS => exact (below_size (by repeat (first | (with_reducible first | exact HB.out | apply below_alloc | apply pw_below_drewN | apply below_drew1 | refine below_set ?_ GE872.out) | exact HB.out))))
          (case aL => have := LMc49.out; omega)
          intro v909 w67 ho hb hg hat
          rw [← Ny908.out] at ho
          have n0_ := Aside0.mk (blk_grown (g := gb872) (o := .cells #[.int .i64 a1_0, .slice A1_1 l1_1.length c1_1, .int .i64 a1_2, .int .i64 a1_3, .int .i64 a1_4] 67 (0, 0)) (by (with_reducible repeat (first | refine blk_drewN ?_ _ | refine blk_drew ?_ | refine blk_alloc ?_ _)); exact BK872.out) hg (Kd.R_ne HO903.out BK872.out (by decide)))
          have n1_ := Aside0.mk (Kd.R_after (ok := (fun k_ => some k_ ≠ (.slice Ao68 y905.length co68 : Value).ownBlock)) (by (with_reducible repeat (first | apply Kd.R_alloc | apply Kd.R_drewN | apply Kd.R_drew)); exact Kd.R_mono HO880.out (fun _ hk => ⟨hk.2, hk.1⟩)) hg hat)
          have n2_ := Aside0.mk (Kd.R_after (ok := (fun k_ => some k_ ≠ (v879 : Value).ownBlock)) (by (with_reducible repeat (first | apply Kd.R_alloc | apply Kd.R_drewN | apply Kd.R_drew)); exact HO907.out) hg hat)
          have n3_ := Aside0.mk (hb)
          have n4_ := Aside0.mk (ho)
          clear BK872
          clear HO880
          clear HO907
          clear HB
          clear HO903
          have BK872 := n0_
          have HO880 := n1_
          have HO907 := n2_
          have HB := n3_
          have HO910 := n4_
          clear n0_ n1_ n2_ n3_ n4_
          clear ho hb hg hat
          refine hK.out _ _ ⟨(blk_cell BK872.out 0).trans rfl, (blk_cell BK872.out 1).trans rfl, (blk_cell BK872.out 2).trans rfl, (blk_cell BK872.out 3).trans rfl, (blk_cell BK872.out 4).trans rfl, ((HB.out.cell (World.block_lt_of_cell? w _ hw904_0)).trans hw904_0), ((HB.out.cell (World.block_lt_of_cell? w _ hw904_1)).trans hw904_1)⟩ (fun hHeld => ?_)
          clear hK K
          refine norm_ (a' := ?_) ?_ ?_
          rotate_left
          ·show Act.put _ (some 81) _ = _
           simp only [Act.put, List.setIfInBounds_toArray, List.set_cons_zero, List.set_cons_succ, i64_w, i32_w]
           rfl
          refine pu_ 14 (some 7) (ba_ 15 32767) rfl rfl (any_of HT_.out (by kernel_rfl)) ?_
          refine done_ (done_of HT_.out (by kernel_rfl)) ?_
          try go_wp2_with (first | ((with_reducible refine gate_callee (f := 101) rfl ?_); refine goesL_ (some 86) rfl rfl Try.func101 (by kernel_rfl) rfl #[.slice (some ad904) l0.length c0, .int .i64 t882, .int .i64 t883, .int .i64 1] rfl (by (try simp only [List.map_toArray, List.map_cons, List.map_nil]); first | done | rfl | (simp only [List.length_drop, List.length_take]; rfl)) ?_; (with_reducible refine (spec_l13Shift.calls k _ _ l0 t882 t883 1 t911 _ ?side1 ?side2 A50.out).mono ?_); (case side1 => repeat (first | exact (Kd.C_below HR0.out HB.out) | (with_reducible refine Kd.C_alloc ?_ _) | (with_reducible refine Kd.C_drewN ?_ _) | (with_reducible refine Kd.C_drew ?_))); (case side2 => exact HC0.out); rintro e w69 ⟨v912, rfl, ho0, hb⟩; refine ⟨_, rfl, ?_⟩; have n0_ := Aside0.mk (Kd.R_elder' (by (with_reducible repeat (first | apply Kd.R_alloc | apply Kd.R_drewN | apply Kd.R_drew)); exact HO880.out) (Kd.R_base ho0) hb); have n1_ := Aside0.mk (Kd.R_elder' (by (with_reducible repeat (first | apply Kd.R_alloc | apply Kd.R_drewN | apply Kd.R_drew)); exact HO907.out) (Kd.R_base ho0) hb); have n2_ := Aside0.mk (Kd.R_elder' (by (with_reducible repeat (first | apply Kd.R_alloc | apply Kd.R_drewN | apply Kd.R_drew)); exact HO910.out) (Kd.R_base ho0) hb); have n3_ := Aside0.mk (Kd.R_lower (Kd.R_new' (Kd.R_new' (Kd.R_new' ho0 (Kd.R_lt (by (with_reducible repeat (first | apply Kd.R_alloc | apply Kd.R_drewN | apply Kd.R_drew)); exact HO880.out))) (Kd.R_lt (by (with_reducible repeat (first | apply Kd.R_alloc | apply Kd.R_drewN | apply Kd.R_drew)); exact HO907.out))) (Kd.R_lt (by (with_reducible repeat (first | apply Kd.R_alloc | apply Kd.R_drewN | apply Kd.R_drew)); exact HO910.out))) (below_size (by repeat (first | (with_reducible first | exact HB.out | apply below_alloc | apply pw_below_drewN | apply below_drew1 | refine below_set ?_ GE872.out) | exact HB.out)))); have n4_ := Aside0.mk (blk_below (g := gb872) (o := .cells #[.int .i64 a1_0, .slice A1_1 l1_1.length c1_1, .int .i64 a1_2, .int .i64 a1_3, .int .i64 a1_4] 67 (0, 0)) (by (with_reducible repeat (first | refine blk_drewN ?_ _ | refine blk_drew ?_ | refine blk_alloc ?_ _)); exact BK872.out) hb); have n5_ := Aside0.mk (below_step (by repeat (first | (with_reducible first | exact HB.out | apply below_alloc | apply pw_below_drewN | apply below_drew1 | refine below_set ?_ GE872.out) | exact HB.out)) hb); clear HO880; clear HO907; clear HO910; clear BK872; clear HB; have HO880 := n0_; have HO907 := n1_; have HO910 := n2_; have HO913 := n3_; have BK872 := n4_; have HB := n5_; clear n0_ n1_ n2_ n3_ n4_ n5_; (try clear hb); (try clear hb2); (try clear hk); (try clear hi); (try clear ho0); obtain ⟨Ao71, co71, eo71⟩ := Kd.R_slice HO913.out; subst eo71) | ((with_reducible refine gate_builtin (b := .append) (xs := #[.tmp 82, .tmp 86]) rfl ?_); at_builtin; refine Kd.R_append_rows k90 (w0 := w) w.heap.size rfl (.tmp 82) (.tmp 86) 34 90 (.agg #[(.int .i64 0), (.int .i64 0)]) 16 rfl Try.underlying34 info90 rfl (by decide) (by omega) v909 y908 t911 _ _ _ (fun k_ => some k_ ≠ (v879 : Value).ownBlock ∧ some k_ ≠ (.slice Ao68 y905.length co68 : Value).ownBlock ∧ some k_ ≠ (.slice Ao71 t911.length co71 : Value).ownBlock) (fun _ => False) rfl rfl ?aO ?aR (fun _ _ h => h) (fun _ h => h.elim) ?aF ?aB ?aS ?aL ?_; (case aR => repeat (first | exact (Kd.R_reads' HO913.out).2.2 | (with_reducible refine Kd.C_alloc ?_ _) | (with_reducible refine Kd.C_drewN ?_ _) | (with_reducible refine Kd.C_drew ?_))); (case aB => exact (by repeat (first | (with_reducible first | exact HB.out | apply below_alloc | apply pw_below_drewN | apply below_drew1 | refine below_set ?_ GE872.out) | exact HB.out))); (case aF => exact (fun k_ hk => ⟨Kd.fresh' (Kd.R_lt (by (with_reducible repeat (first | apply Kd.R_alloc | apply Kd.R_drewN | apply Kd.R_drew)); exact HO880.out)) k_ hk, Kd.fresh' (Kd.R_lt (by (with_reducible repeat (first | apply Kd.R_alloc | apply Kd.R_drewN | apply Kd.R_drew)); exact HO907.out)) k_ hk, Kd.fresh' (Kd.R_lt (by (with_reducible repeat (first | apply Kd.R_alloc | apply Kd.R_drewN | apply Kd.R_drew)); exact HO913.out)) k_ hk⟩)); (case aO => exact (by (with_reducible repeat (first | apply Kd.R_alloc | apply Kd.R_drewN | apply Kd.R_drew)); exact Kd.R_mono HO910.out (fun _ hk => ⟨hk.1.1, ⟨hk.1.2, hk.2⟩⟩))); (case aS => exact (below_size (by repeat (first | (with_reducible first | exact HB.out | apply below_alloc | apply pw_below_drewN | apply below_drew1 | refine below_set ?_ GE872.out) | exact HB.out)))); (case aL => have := LMc51.out; omega); intro v915 w70 ho hb hg hat; rw [← Ny914.out] at ho; have n0_ := Aside0.mk (blk_grown (g := gb872) (o := .cells #[.int .i64 a1_0, .slice A1_1 l1_1.length c1_1, .int .i64 a1_2, .int .i64 a1_3, .int .i64 a1_4] 67 (0, 0)) (by (with_reducible repeat (first | refine blk_drewN ?_ _ | refine blk_drew ?_ | refine blk_alloc ?_ _)); exact BK872.out) hg (Kd.R_ne HO910.out BK872.out (by decide))); have n1_ := Aside0.mk (Kd.R_after (ok := (fun k_ => some k_ ≠ (.slice Ao68 y905.length co68 : Value).ownBlock ∧ some k_ ≠ (.slice Ao71 t911.length co71 : Value).ownBlock)) (by (with_reducible repeat (first | apply Kd.R_alloc | apply Kd.R_drewN | apply Kd.R_drew)); exact Kd.R_mono HO880.out (fun _ hk => ⟨⟨hk.1.1, hk.2⟩, hk.1.2⟩)) hg hat); have n2_ := Aside0.mk (Kd.R_after (ok := (fun k_ => some k_ ≠ (v879 : Value).ownBlock ∧ some k_ ≠ (.slice Ao71 t911.length co71 : Value).ownBlock)) (by (with_reducible repeat (first | apply Kd.R_alloc | apply Kd.R_drewN | apply Kd.R_drew)); exact Kd.R_mono HO907.out (fun _ hk => ⟨⟨hk.1.1, hk.2⟩, hk.1.2⟩)) hg hat); have n3_ := Aside0.mk (Kd.R_after (ok := (fun k_ => some k_ ≠ (v879 : Value).ownBlock ∧ some k_ ≠ (.slice Ao68 y905.length co68 : Value).ownBlock)) (by (with_reducible repeat (first | apply Kd.R_alloc | apply Kd.R_drewN | apply Kd.R_drew)); exact Kd.R_mono HO913.out (fun _ hk => ⟨⟨hk.1.1.2, hk.1.2⟩, hk.2⟩)) hg hat); have n4_ := Aside0.mk (hb); have n5_ := Aside0.mk (ho); clear BK872; clear HO880; clear HO907; clear HO913; clear HB; clear HO910; have BK872 := n0_; have HO880 := n1_; have HO907 := n2_; have HO913 := n3_; have HB := n4_; have HO916 := n5_; clear n0_ n1_ n2_ n3_ n4_ n5_; clear ho hb hg hat) | ((with_reducible refine gate_callee (f := 101) rfl ?_); refine goesL_ (some 93) rfl rfl Try.func101 (by kernel_rfl) rfl #[.slice (some ad904) l0.length c0, .int .i64 t883, .int .i64 (l0.length : Int), .int .i64 0] rfl (by (try simp only [List.map_toArray, List.map_cons, List.map_nil]); first | done | rfl | (simp only [List.length_drop, List.length_take]; rfl)) ?_; (with_reducible refine (spec_l13Shift.calls k _ _ l0 t883 (l0.length : Int) 0 t917 _ ?side1 ?side2 A52.out).mono ?_); (case side1 => repeat (first | exact (Kd.C_below HR0.out HB.out) | (with_reducible refine Kd.C_alloc ?_ _) | (with_reducible refine Kd.C_drewN ?_ _) | (with_reducible refine Kd.C_drew ?_))); (case side2 => exact HC0.out); rintro e w72 ⟨v918, rfl, ho0, hb⟩; refine ⟨_, rfl, ?_⟩; have n0_ := Aside0.mk (Kd.R_elder' (by (with_reducible repeat (first | apply Kd.R_alloc | apply Kd.R_drewN | apply Kd.R_drew)); exact HO880.out) (Kd.R_base ho0) hb); have n1_ := Aside0.mk (Kd.R_elder' (by (with_reducible repeat (first | apply Kd.R_alloc | apply Kd.R_drewN | apply Kd.R_drew)); exact HO907.out) (Kd.R_base ho0) hb); have n2_ := Aside0.mk (Kd.R_elder' (by (with_reducible repeat (first | apply Kd.R_alloc | apply Kd.R_drewN | apply Kd.R_drew)); exact HO913.out) (Kd.R_base ho0) hb); have n3_ := Aside0.mk (Kd.R_elder' (by (with_reducible repeat (first | apply Kd.R_alloc | apply Kd.R_drewN | apply Kd.R_drew)); exact HO916.out) (Kd.R_base ho0) hb); have n4_ := Aside0.mk (Kd.R_lower (Kd.R_new' (Kd.R_new' (Kd.R_new' (Kd.R_new' ho0 (Kd.R_lt (by (with_reducible repeat (first | apply Kd.R_alloc | apply Kd.R_drewN | apply Kd.R_drew)); exact HO880.out))) (Kd.R_lt (by (with_reducible repeat (first | apply Kd.R_alloc | apply Kd.R_drewN | apply Kd.R_drew)); exact HO907.out))) (Kd.R_lt (by (with_reducible repeat (first | apply Kd.R_alloc | apply Kd.R_drewN | apply Kd.R_drew)); exact HO913.out))) (Kd.R_lt (by (with_reducible repeat (first | apply Kd.R_alloc | apply Kd.R_drewN | apply Kd.R_drew)); exact HO916.out))) (below_size (by repeat (first | (with_reducible first | exact HB.out | apply below_alloc | apply pw_below_drewN | apply below_drew1 | refine below_set ?_ GE872.out) | exact HB.out)))); have n5_ := Aside0.mk (blk_below (g := gb872) (o := .cells #[.int .i64 a1_0, .slice A1_1 l1_1.length c1_1, .int .i64 a1_2, .int .i64 a1_3, .int .i64 a1_4] 67 (0, 0)) (by (with_reducible repeat (first | refine blk_drewN ?_ _ | refine blk_drew ?_ | refine blk_alloc ?_ _)); exact BK872.out) hb); have n6_ := Aside0.mk (below_step (by repeat (first | (with_reducible first | exact HB.out | apply below_alloc | apply pw_below_drewN | apply below_drew1 | refine below_set ?_ GE872.out) | exact HB.out)) hb); clear HO880; clear HO907; clear HO913; clear HO916; clear BK872; clear HB; have HO880 := n0_; have HO907 := n1_; have HO913 := n2_; have HO916 := n3_; have HO919 := n4_; have BK872 := n5_; have HB := n6_; clear n0_ n1_ n2_ n3_ n4_ n5_ n6_; (try clear hb); (try clear hb2); (try clear hk); (try clear hi); (try clear ho0); obtain ⟨Ao74, co74, eo74⟩ := Kd.R_slice HO919.out; subst eo74) | ((with_reducible refine gate_builtin (b := .append) (xs := #[.tmp 88, .tmp 93]) rfl ?_); at_builtin; refine Kd.R_append_rows k90 (w0 := w) w.heap.size rfl (.tmp 88) (.tmp 93) 34 90 (.agg #[(.int .i64 0), (.int .i64 0)]) 16 rfl Try.underlying34 info90 rfl (by decide) (by omega) v915 y914 t917 _ _ _ (fun k_ => some k_ ≠ (v879 : Value).ownBlock ∧ some k_ ≠ (.slice Ao68 y905.length co68 : Value).ownBlock ∧ some k_ ≠ (.slice Ao71 t911.length co71 : Value).ownBlock ∧ some k_ ≠ (.slice Ao74 t917.length co74 : Value).ownBlock) (fun _ => False) rfl rfl ?aO ?aR (fun _ _ h => h) (fun _ h => h.elim) ?aF ?aB ?aS ?aL ?_; (case aR => repeat (first | exact (Kd.R_reads' HO919.out).2.2 | (with_reducible refine Kd.C_alloc ?_ _) | (with_reducible refine Kd.C_drewN ?_ _) | (with_reducible refine Kd.C_drew ?_))); (case aB => exact (by repeat (first | (with_reducible first | exact HB.out | apply below_alloc | apply pw_below_drewN | apply below_drew1 | refine below_set ?_ GE872.out) | exact HB.out))); (case aF => exact (fun k_ hk => ⟨Kd.fresh' (Kd.R_lt (by (with_reducible repeat (first | apply Kd.R_alloc | apply Kd.R_drewN | apply Kd.R_drew)); exact HO880.out)) k_ hk, Kd.fresh' (Kd.R_lt (by (with_reducible repeat (first | apply Kd.R_alloc | apply Kd.R_drewN | apply Kd.R_drew)); exact HO907.out)) k_ hk, Kd.fresh' (Kd.R_lt (by (with_reducible repeat (first | apply Kd.R_alloc | apply Kd.R_drewN | apply Kd.R_drew)); exact HO913.out)) k_ hk, Kd.fresh' (Kd.R_lt (by (with_reducible repeat (first | apply Kd.R_alloc | apply Kd.R_drewN | apply Kd.R_drew)); exact HO919.out)) k_ hk⟩)); (case aO => exact (by (with_reducible repeat (first | apply Kd.R_alloc | apply Kd.R_drewN | apply Kd.R_drew)); exact Kd.R_mono HO916.out (fun _ hk => ⟨hk.1.1, ⟨hk.1.2.1, ⟨hk.1.2.2, hk.2⟩⟩⟩))); (case aS => exact (below_size (by repeat (first | (with_reducible first | exact HB.out | apply below_alloc | apply pw_below_drewN | apply below_drew1 | refine below_set ?_ GE872.out) | exact HB.out)))); (case aL => have := LMc53.out; omega); intro v921 w73 ho hb hg hat; rw [← Ny920.out] at ho; have n0_ := Aside0.mk (blk_grown (g := gb872) (o := .cells #[.int .i64 a1_0, .slice A1_1 l1_1.length c1_1, .int .i64 a1_2, .int .i64 a1_3, .int .i64 a1_4] 67 (0, 0)) (by (with_reducible repeat (first | refine blk_drewN ?_ _ | refine blk_drew ?_ | refine blk_alloc ?_ _)); exact BK872.out) hg (Kd.R_ne HO916.out BK872.out (by decide))); have n1_ := Aside0.mk (Kd.R_after (ok := (fun k_ => some k_ ≠ (.slice Ao68 y905.length co68 : Value).ownBlock ∧ some k_ ≠ (.slice Ao71 t911.length co71 : Value).ownBlock ∧ some k_ ≠ (.slice Ao74 t917.length co74 : Value).ownBlock)) (by (with_reducible repeat (first | apply Kd.R_alloc | apply Kd.R_drewN | apply Kd.R_drew)); exact Kd.R_mono HO880.out (fun _ hk => ⟨⟨hk.1.1.1, ⟨hk.1.1.2, hk.2⟩⟩, hk.1.2⟩)) hg hat); have n2_ := Aside0.mk (Kd.R_after (ok := (fun k_ => some k_ ≠ (v879 : Value).ownBlock ∧ some k_ ≠ (.slice Ao71 t911.length co71 : Value).ownBlock ∧ some k_ ≠ (.slice Ao74 t917.length co74 : Value).ownBlock)) (by (with_reducible repeat (first | apply Kd.R_alloc | apply Kd.R_drewN | apply Kd.R_drew)); exact Kd.R_mono HO907.out (fun _ hk => ⟨⟨hk.1.1.1, ⟨hk.1.1.2, hk.2⟩⟩, hk.1.2⟩)) hg hat); have n3_ := Aside0.mk (Kd.R_after (ok := (fun k_ => some k_ ≠ (v879 : Value).ownBlock ∧ some k_ ≠ (.slice Ao68 y905.length co68 : Value).ownBlock ∧ some k_ ≠ (.slice Ao74 t917.length co74 : Value).ownBlock)) (by (with_reducible repeat (first | apply Kd.R_alloc | apply Kd.R_drewN | apply Kd.R_drew)); exact Kd.R_mono HO913.out (fun _ hk => ⟨⟨hk.1.1.1, ⟨hk.1.1.2, hk.2⟩⟩, hk.1.2⟩)) hg hat); have n4_ := Aside0.mk (Kd.R_after (ok := (fun k_ => some k_ ≠ (v879 : Value).ownBlock ∧ some k_ ≠ (.slice Ao68 y905.length co68 : Value).ownBlock ∧ some k_ ≠ (.slice Ao71 t911.length co71 : Value).ownBlock)) (by (with_reducible repeat (first | apply Kd.R_alloc | apply Kd.R_drewN | apply Kd.R_drew)); exact Kd.R_mono HO919.out (fun _ hk => ⟨⟨hk.1.1.1.2, ⟨hk.1.1.2, hk.1.2⟩⟩, hk.2⟩)) hg hat); have n5_ := Aside0.mk (hb); have n6_ := Aside0.mk (ho); clear BK872; clear HO880; clear HO907; clear HO913; clear HO919; clear HB; clear HO916; have BK872 := n0_; have HO880 := n1_; have HO907 := n2_; have HO913 := n3_; have HO919 := n4_; have HB := n5_; have HO922 := n6_; clear n0_ n1_ n2_ n3_ n4_ n5_ n6_; clear ho hb hg hat))
          go_ret2
          exact ⟨_, by first | rfl | (simp [errW_none, errW_some] <;> rfl) | (simp [*, errW_none, errW_some] <;> rfl), by (with_reducible repeat (first | apply Kd.R_alloc | apply Kd.R_drewN | apply Kd.R_drew)); exact Kd.R_mono HO922.out (fun _ hk => trivial), by repeat (first | (with_reducible first | exact HB.out | apply below_alloc | apply pw_below_drewN | apply below_drew1 | refine below_set ?_ GE872.out) | exact HB.out)⟩
         ·rw [if_neg c53] at H
          exact absurd H (by simp)
        ·rw [if_neg c51] at H
         exact absurd H (by simp)
       ·rw [if_neg c49] at H
        exact absurd H (by simp)
      ·rw [if_neg c48] at H
       exact absurd H (by simp)
     ·rw [if_neg c47] at H
      exact absurd H (by simp)
  ·rw [if_neg c8] at H
   have c8b0 : (t881 == 0) = false := beq_eq_false_iff_ne.mpr c8
   have c8b1 : (t881 != 0) = true := bne_iff_ne.mpr c8
   simp only [Option.some.injEq, Prod.mk.injEq] at H
   obtain ⟨rfl, rfl⟩ := H
   go_enter Try.func44, Try.ntmps44
   go_wp2_with (first | ((with_reducible refine gate_dst (N := 3) rfl ?_); refine box_event ?hg (N := 3) ?hd (cs := #[.int .i64 a1_0, .slice A1_1 l1_1.length c1_1, .int .i64 a1_2, .int .i64 a1_3, .int .i64 a1_4]) (t := 67) ?hr ?_; (case hd => rfl); (case hg => rfl); (case hr => first | (go_simp; done) | (go_simp; rfl)); intro gb872 hg w75 hbox hb; have n0_ := Aside0.mk (below_step (by repeat (first | (with_reducible first | exact HB.out | apply below_alloc | apply pw_below_drewN | apply below_drew1) | exact HB.out)) hb); have n1_ := Aside0.mk (hbox); have n2_ := Aside0.mk ((by rw [hg]; exact (below_size (by repeat (first | (with_reducible first | exact HB.out | apply below_alloc | apply pw_below_drewN | apply below_drew1) | exact HB.out))) : w.heap.size ≤ gb872)); have n3_ := Aside0.mk ((by rw [hg]; exact (below_size (by repeat (first | (with_reducible first | exact HB.out | apply below_alloc | apply pw_below_drewN | apply below_drew1) | exact HB.out))) : w.heap.size ≤ gb872)); clear HB; have HB := n0_; have BK872 := n1_; have GW872 := n2_; have GE872 := n3_; clear n0_ n1_ n2_ n3_; clear hb hbox hg) | ((with_reducible refine gate_callee (f := 64) rfl ?_); refine goesL_ (some 13) rfl rfl Try.func64 (by kernel_rfl) rfl #[.slice A0 l0.length c0] rfl (by (try simp only [List.map_toArray, List.map_cons, List.map_nil]); first | done | rfl | (simp only [List.length_drop, List.length_take]; rfl)) ?_; (with_reducible refine (spec_TreeOk.calls k _ _ l0 true _ ?side1 ?side2 A3.out).mono ?_); (case side1 => repeat (first | exact (Kd.C_below HR0.out HB.out) | (with_reducible refine Kd.C_alloc ?_ _) | (with_reducible refine Kd.C_drewN ?_ _) | (with_reducible refine Kd.C_drew ?_))); (case side2 => exact HC0.out); rintro e w76 ⟨rfl, hb⟩; refine ⟨_, rfl, ?_⟩; have n0_ := Aside0.mk (blk_below (g := gb872) (o := .cells #[.int .i64 a1_0, .slice A1_1 l1_1.length c1_1, .int .i64 a1_2, .int .i64 a1_3, .int .i64 a1_4] 67 (0, 0)) (by (with_reducible repeat (first | refine blk_drewN ?_ _ | refine blk_drew ?_ | refine blk_alloc ?_ _)); exact BK872.out) hb); have n1_ := Aside0.mk (below_step (by repeat (first | (with_reducible first | exact HB.out | apply below_alloc | apply pw_below_drewN | apply below_drew1 | refine below_set ?_ GE872.out) | exact HB.out)) hb); clear BK872; clear HB; have BK872 := n0_; have HB := n1_; clear n0_ n1_; (try clear hb); (try clear hb2); (try clear hk); (try clear hi); have hcz77_0 : w76.cell? ⟨gb872, 0, none⟩ = some (.int .i64 a1_0) := (blk_cell BK872.out 0).trans rfl; have hcz77_1 : w76.cell? ⟨gb872, 1, none⟩ = some (.slice A1_1 l1_1.length c1_1) := (blk_cell BK872.out 1).trans rfl; have hcz77_2 : w76.cell? ⟨gb872, 2, none⟩ = some (.int .i64 a1_2) := (blk_cell BK872.out 2).trans rfl; have hcz77_3 : w76.cell? ⟨gb872, 3, none⟩ = some (.int .i64 a1_3) := (blk_cell BK872.out 3).trans rfl; have hcz77_4 : w76.cell? ⟨gb872, 4, none⟩ = some (.int .i64 a1_4) := (blk_cell BK872.out 4).trans rfl; have hfz77_0 := blk_frozen BK872.out 0; have hfz77_1 := blk_frozen BK872.out 1; have hfz77_2 := blk_frozen BK872.out 2; have hfz77_3 := blk_frozen BK872.out 3; have hfz77_4 := blk_frozen BK872.out 4) | ((with_reducible refine gate_callee (f := 60) rfl ?_); refine goesL_ (some 19) rfl rfl Try.func60 (by kernel_rfl) rfl #[.slice A0 l0.length c0, .slice A1_1 l1_1.length c1_1] rfl (by (try simp only [List.map_toArray, List.map_cons, List.map_nil]); first | done | rfl | (simp only [List.length_drop, List.length_take]; rfl)) ?_; (with_reducible refine (spec_NodeAt.calls k _ _ l0 _ _ l1_1 t877 _ ?side1 ?side2 ?side3 ?side4 A5.out).mono ?_); (case side1 => repeat (first | exact (Kd.C_below HR0.out HB.out) | (with_reducible refine Kd.C_alloc ?_ _) | (with_reducible refine Kd.C_drewN ?_ _) | (with_reducible refine Kd.C_drew ?_))); (case side2 => exact HC0.out); (case side3 => repeat (first | exact (Kd.C_below HR1_1.out HB.out) | (with_reducible refine Kd.C_alloc ?_ _) | (with_reducible refine Kd.C_drewN ?_ _) | (with_reducible refine Kd.C_drew ?_))); (case side4 => exact HC1_1.out); rintro e w78 ⟨rfl, hb⟩; refine ⟨_, rfl, ?_⟩; have n0_ := Aside0.mk (blk_below (g := gb872) (o := .cells #[.int .i64 a1_0, .slice A1_1 l1_1.length c1_1, .int .i64 a1_2, .int .i64 a1_3, .int .i64 a1_4] 67 (0, 0)) (by (with_reducible repeat (first | refine blk_drewN ?_ _ | refine blk_drew ?_ | refine blk_alloc ?_ _)); exact BK872.out) hb); have n1_ := Aside0.mk (below_step (by repeat (first | (with_reducible first | exact HB.out | apply below_alloc | apply pw_below_drewN | apply below_drew1 | refine below_set ?_ GE872.out) | exact HB.out)) hb); clear BK872; clear HB; have BK872 := n0_; have HB := n1_; clear n0_ n1_; (try clear hb); (try clear hb2); (try clear hk); (try clear hi)) | ((with_reducible refine gate_callee (f := 98) rfl ?_); refine goesL_ (some 21) rfl rfl Try.func98 (by kernel_rfl) rfl #[.slice A0 l0.length c0] rfl (by (try simp only [List.map_toArray, List.map_cons, List.map_nil]); first | done | rfl | (simp only [List.length_drop, List.length_take]; rfl)) ?_; (with_reducible refine (spec_l3Copy.calls _ _ l0 t878 _ ?side1 ?side2 A6.out).mono ?_); (case side1 => repeat (first | exact (Kd.C_below HR0.out HB.out) | (with_reducible refine Kd.C_alloc ?_ _) | (with_reducible refine Kd.C_drewN ?_ _) | (with_reducible refine Kd.C_drew ?_))); (case side2 => exact HC0.out); rintro e w79 ⟨v879, rfl, ho0, hb⟩; refine ⟨_, rfl, ?_⟩; have n0_ := Aside0.mk (Kd.R_lower ho0 (below_size (by repeat (first | (with_reducible first | exact HB.out | apply below_alloc | apply pw_below_drewN | apply below_drew1 | refine below_set ?_ GE872.out) | exact HB.out)))); have n1_ := Aside0.mk (blk_below (g := gb872) (o := .cells #[.int .i64 a1_0, .slice A1_1 l1_1.length c1_1, .int .i64 a1_2, .int .i64 a1_3, .int .i64 a1_4] 67 (0, 0)) (by (with_reducible repeat (first | refine blk_drewN ?_ _ | refine blk_drew ?_ | refine blk_alloc ?_ _)); exact BK872.out) hb); have n2_ := Aside0.mk (below_step (by repeat (first | (with_reducible first | exact HB.out | apply below_alloc | apply pw_below_drewN | apply below_drew1 | refine below_set ?_ GE872.out) | exact HB.out)) hb); clear BK872; clear HB; have HO880 := n0_; have BK872 := n1_; have HB := n2_; clear n0_ n1_ n2_; (try clear hb); (try clear hb2); (try clear hk); (try clear hi); (try clear ho0); have hcz80_0 : w79.cell? ⟨gb872, 0, none⟩ = some (.int .i64 a1_0) := (blk_cell BK872.out 0).trans rfl; have hcz80_1 : w79.cell? ⟨gb872, 1, none⟩ = some (.slice A1_1 l1_1.length c1_1) := (blk_cell BK872.out 1).trans rfl; have hcz80_2 : w79.cell? ⟨gb872, 2, none⟩ = some (.int .i64 a1_2) := (blk_cell BK872.out 2).trans rfl; have hcz80_3 : w79.cell? ⟨gb872, 3, none⟩ = some (.int .i64 a1_3) := (blk_cell BK872.out 3).trans rfl; have hcz80_4 : w79.cell? ⟨gb872, 4, none⟩ = some (.int .i64 a1_4) := (blk_cell BK872.out 4).trans rfl; have hfz80_0 := blk_frozen BK872.out 0; have hfz80_1 := blk_frozen BK872.out 1; have hfz80_2 := blk_frozen BK872.out 2; have hfz80_3 := blk_frozen BK872.out 3; have hfz80_4 := blk_frozen BK872.out 4) | ((with_reducible refine gate_callee (f := 99) rfl ?_); refine goesL_ (some 26) rfl rfl Try.func99 (by kernel_rfl) rfl #[.slice A0 l0.length c0, .agg #[.int .i64 a1_0, .slice A1_1 l1_1.length c1_1, .int .i64 a1_2, .int .i64 a1_3, .int .i64 a1_4], .int .i64 t877] rfl (by (try simp only [List.map_toArray, List.map_cons, List.map_nil]); first | done | rfl | (simp only [List.length_drop, List.length_take]; rfl)) ?_; (with_reducible refine (spec_l13Code.calls k _ _ l0 a1_0 _ _ l1_1 a1_2 a1_3 a1_4 t877 t881 t882 t883 _ ?side1 ?side2 ?side3 ?side4 A7.out).mono ?_); (case side1 => repeat (first | exact (Kd.C_below HR0.out HB.out) | (with_reducible refine Kd.C_alloc ?_ _) | (with_reducible refine Kd.C_drewN ?_ _) | (with_reducible refine Kd.C_drew ?_))); (case side2 => exact HC0.out); (case side3 => repeat (first | exact (Kd.C_below HR1_1.out HB.out) | (with_reducible refine Kd.C_alloc ?_ _) | (with_reducible refine Kd.C_drewN ?_ _) | (with_reducible refine Kd.C_drew ?_))); (case side4 => exact HC1_1.out); rintro e w81 ⟨rfl, hb⟩; refine ⟨_, rfl, ?_⟩; have n0_ := Aside0.mk (Kd.R_below (by (with_reducible repeat (first | apply Kd.R_alloc | apply Kd.R_drewN | apply Kd.R_drew)); exact HO880.out) hb); have n1_ := Aside0.mk (blk_below (g := gb872) (o := .cells #[.int .i64 a1_0, .slice A1_1 l1_1.length c1_1, .int .i64 a1_2, .int .i64 a1_3, .int .i64 a1_4] 67 (0, 0)) (by (with_reducible repeat (first | refine blk_drewN ?_ _ | refine blk_drew ?_ | refine blk_alloc ?_ _)); exact BK872.out) hb); have n2_ := Aside0.mk (below_step (by repeat (first | (with_reducible first | exact HB.out | apply below_alloc | apply pw_below_drewN | apply below_drew1 | refine below_set ?_ GE872.out) | exact HB.out)) hb); clear HO880; clear BK872; clear HB; have HO880 := n0_; have BK872 := n1_; have HB := n2_; clear n0_ n1_ n2_; (try clear hb); (try clear hb2); (try clear hk); (try clear hi)))
   go_ret2
   exact ⟨_, by first | rfl | (simp [errW_none, errW_some] <;> rfl) | (simp [*, errW_none, errW_some] <;> rfl), by (with_reducible repeat (first | apply Kd.R_alloc | apply Kd.R_drewN | apply Kd.R_drew)); exact HO880.out, by repeat (first | (with_reducible first | exact HB.out | apply below_alloc | apply pw_below_drewN | apply below_drew1 | refine below_set ?_ GE872.out) | exact HB.out)⟩
 ·replace c4 := Bool.eq_false_iff.mpr c4
  subst c4
  have H1 : (some ((([] : List (S90))), 2)) = some (r1, r2) := by rw [if_neg (show ¬ (false = true) by decide)] at H; exact H
  clear H
  have H := H1
  clear H1
  obtain ⟨y874, hy874⟩ : ∃ y_ : List (S90), y_ = (([] : List (S90))) := ⟨_, rfl⟩
  replace H : (some (y874, 2)) = some (r1, r2) := by first | (rw [hy874]; with_reducible exact H) | (have H2_ := (Option.bind_some _ _).symm.trans H; rw [hy874]; with_reducible exact H2_) | (have H2_ := (Option.bind_some _ _).symm.trans H; with_reducible exact H2_) | with_reducible exact H | (rw [hy874]; exact H) | exact H
  have Ny874 := Aside0.mk hy874
  clear hy874
  simp only [Option.some.injEq, Prod.mk.injEq] at H
  obtain ⟨rfl, rfl⟩ := H
  go_enter Try.func44, Try.ntmps44
  go_wp2_with (first | ((with_reducible refine gate_dst (N := 3) rfl ?_); refine box_event ?hg (N := 3) ?hd (cs := #[.int .i64 a1_0, .slice A1_1 l1_1.length c1_1, .int .i64 a1_2, .int .i64 a1_3, .int .i64 a1_4]) (t := 67) ?hr ?_; (case hd => rfl); (case hg => rfl); (case hr => first | (go_simp; done) | (go_simp; rfl)); intro gb872 hg w82 hbox hb; have n0_ := Aside0.mk (below_step (by repeat (first | (with_reducible first | exact HB.out | apply below_alloc | apply pw_below_drewN | apply below_drew1) | exact HB.out)) hb); have n1_ := Aside0.mk (hbox); have n2_ := Aside0.mk ((by rw [hg]; exact (below_size (by repeat (first | (with_reducible first | exact HB.out | apply below_alloc | apply pw_below_drewN | apply below_drew1) | exact HB.out))) : w.heap.size ≤ gb872)); have n3_ := Aside0.mk ((by rw [hg]; exact (below_size (by repeat (first | (with_reducible first | exact HB.out | apply below_alloc | apply pw_below_drewN | apply below_drew1) | exact HB.out))) : w.heap.size ≤ gb872)); clear HB; have HB := n0_; have BK872 := n1_; have GW872 := n2_; have GE872 := n3_; clear n0_ n1_ n2_ n3_; clear hb hbox hg) | ((with_reducible refine gate_callee (f := 64) rfl ?_); refine goesL_ (some 13) rfl rfl Try.func64 (by kernel_rfl) rfl #[.slice A0 l0.length c0] rfl (by (try simp only [List.map_toArray, List.map_cons, List.map_nil]); first | done | rfl | (simp only [List.length_drop, List.length_take]; rfl)) ?_; (with_reducible refine (spec_TreeOk.calls k _ _ l0 false _ ?side1 ?side2 A3.out).mono ?_); (case side1 => repeat (first | exact (Kd.C_below HR0.out HB.out) | (with_reducible refine Kd.C_alloc ?_ _) | (with_reducible refine Kd.C_drewN ?_ _) | (with_reducible refine Kd.C_drew ?_))); (case side2 => exact HC0.out); rintro e w83 ⟨rfl, hb⟩; refine ⟨_, rfl, ?_⟩; have n0_ := Aside0.mk (blk_below (g := gb872) (o := .cells #[.int .i64 a1_0, .slice A1_1 l1_1.length c1_1, .int .i64 a1_2, .int .i64 a1_3, .int .i64 a1_4] 67 (0, 0)) (by (with_reducible repeat (first | refine blk_drewN ?_ _ | refine blk_drew ?_ | refine blk_alloc ?_ _)); exact BK872.out) hb); have n1_ := Aside0.mk (below_step (by repeat (first | (with_reducible first | exact HB.out | apply below_alloc | apply pw_below_drewN | apply below_drew1 | refine below_set ?_ GE872.out) | exact HB.out)) hb); clear BK872; clear HB; have BK872 := n0_; have HB := n1_; clear n0_ n1_; (try clear hb); (try clear hb2); (try clear hk); (try clear hi)) | ((with_reducible refine gate_dst (N := 15) rfl ?_); refine Kd.R_lit k90 _ 90 ?hg (N := 15) ?hd (xs := ([] : List (S90))) (inner := []) (ok := fun _ => True) (okp := fun _ => True) ?hr ?hp (fun _ hk => hk) trivial (Below.refl _ _) (Nat.le_refl _) (by simp) ?_; (case hd => rfl); (case hg => rfl); (case hr => first | (go_simp; done) | (go_simp; rfl)); (case hp => exact (Reps.none _ _)); intro v875 w84 ho85 hb hg_ hnew_; clear hg_ hnew_; (first | rw [← Ny874.out] at ho85 | (simp only [Int.reduceToNat] at ho85; rw [← Ny874.out] at ho85)); have n0_ := Aside0.mk (Kd.R_lower ho85 (below_size (by repeat (first | (with_reducible first | exact HB.out | apply below_alloc | apply pw_below_drewN | apply below_drew1 | refine below_set ?_ GE872.out) | exact HB.out)))); have n1_ := Aside0.mk (blk_below (g := gb872) (o := .cells #[.int .i64 a1_0, .slice A1_1 l1_1.length c1_1, .int .i64 a1_2, .int .i64 a1_3, .int .i64 a1_4] 67 (0, 0)) (by (with_reducible repeat (first | refine blk_drewN ?_ _ | refine blk_drew ?_ | refine blk_alloc ?_ _)); exact BK872.out) hb); have n2_ := Aside0.mk (below_step (by repeat (first | (with_reducible first | exact HB.out | apply below_alloc | apply pw_below_drewN | apply below_drew1 | refine below_set ?_ GE872.out) | exact HB.out)) hb); clear BK872; clear HB; have HO876 := n0_; have BK872 := n1_; have HB := n2_; clear n0_ n1_ n2_; clear hb ho85))
  go_ret2
  exact ⟨_, by first | rfl | (simp [errW_none, errW_some] <;> rfl) | (simp [*, errW_none, errW_some] <;> rfl), by (with_reducible repeat (first | apply Kd.R_alloc | apply Kd.R_drewN | apply Kd.R_drew)); exact HO876.out, by repeat (first | (with_reducible first | exact HB.out | apply below_alloc | apply pw_below_drewN | apply below_drew1 | refine below_set ?_ GE872.out) | exact HB.out)⟩
end Go.Proofs.Ytbifdckfglejkaa.X
namespace Go.Proofs.Ytbifdckfglejkaa.X
open Go.RowKit Go.Proofs.YtbifdckfglejkaaW.PrintWords Go.Proofs.YtbifdckfglejkaaW.PrintLast Go.Proofs.YtbifdckfglejkaaW.PrintMore
attribute [local go_sem] max2_int min2_int max_two min_two max_three min_three max_four min_four   -- for this text's walks alone
set_option linter.unusedVariables false
set_option linter.unusedSimpArgs false
def laws_toIntS.l0 : Nat → List Int → List Int → Int → Option (List Int)
 | 0, _, _, _ => none
 | k + 1, x0, x3, x4 => if x4 < (x0.length : Int) then (if 0 ≤ x4 then (if x4 < (x3.length : Int) then (laws_toIntS.l0 k x0 (x3.set (x4 : Int).toNat (rd x0 x4)) (wrap64 (x4 + 1))) else (none)) else (none)) else (some x3)
def laws_toIntS.f (k : Nat) (l0 : List Int) : Option (List Int) := if 0 ≤ (l0.length : Int) then (if ((l0.length : Int) : Int).toNat ≤ 35184372088832 then (laws_toIntS.l0 k l0 (List.replicate ((l0.length : Int) : Int).toNat 0) 0) else (none)) else (none)
set_option maxHeartbeats 8000000 in
set_option maxRecDepth 100000 in
theorem laws_toIntS.calls (k : Nat) (A0 : Option Addr) (c0 : Nat) (l0 : List Int) (r : List Int) (w : World) (hr0 : Kd.C (Kd.int .i64) w A0 l0.length l0) (hc0 : l0.length ≤ c0) (h : laws_toIntS.f k l0 = some r) :
  Calls Try.prog 28 #[.slice A0 l0.length c0] w fun e w' => ∃ v0_ : Value, e = .returned (v0_) ∧ Kd.R (Kd.int .i64) 3 w' w.heap.size (fun _ => True) v0_ r ∧ Below w.heap.size w w' := by
 have HR0 := Aside0.mk hr0
 have HC0 := Aside0.mk hc0
 clear hr0 hc0
 have HB := Aside0.mk (Below.refl w.heap.size w)
 have H : (if 0 ≤ (l0.length : Int) then (if ((l0.length : Int) : Int).toNat ≤ 35184372088832 then (laws_toIntS.l0 k l0 (List.replicate ((l0.length : Int) : Int).toNat 0) 0) else (none)) else (none)) = some r := h
 clear h
 by_cases c2 : 0 ≤ (l0.length : Int)
 ·rw [if_pos c2] at H
  have c2b0 := eq_true c2
  have c2b1 : decide (0 ≤ (l0.length : Int)) = true := decide_eq_true c2
  clear c2
  by_cases c3 : ((l0.length : Int) : Int).toNat ≤ 35184372088832
  ·rw [if_pos c3] at H
   have c3b0 := eq_true c3
   have c3b1 : decide (((l0.length : Int) : Int).toNat ≤ 35184372088832) = true := decide_eq_true c3
   clear c3
   obtain ⟨y386, hy386⟩ : ∃ y_ : List Int, y_ = (List.replicate ((l0.length : Int) : Int).toNat 0) := ⟨_, rfl⟩
   replace H : (laws_toIntS.l0 k l0 y386 0) = some r := by first | (rw [hy386]; with_reducible exact H) | (have H2_ := (Option.bind_some _ _).symm.trans H; rw [hy386]; with_reducible exact H2_) | (have H2_ := (Option.bind_some _ _).symm.trans H; with_reducible exact H2_) | with_reducible exact H | (rw [hy386]; exact H) | exact H
   have Ny386 := Aside0.mk hy386
   clear hy386
   have H' := Aside0.mk H
   clear H
   go_enter Try.func28, Try.ntmps28
   go_wp2_with (first | ((with_reducible refine gate_dst (N := 7) rfl ?_); refine Kd.R_make (Kd.int .i64) _ 3 rfl (N := 7) rfl 39 _ _ rfl (l0.length : Int) rfl rfl Try.underlying39 (.int .i64 0) 8 info3 rfl (by decide) (by omega) 0 (ok := fun _ => True) (okp := fun _ => True) rfl (fun _ hk => hk) trivial (of_decide_eq_true (by first | (with_reducible assumption) | assumption)) (Nat.le_trans (Nat.mul_le_mul_right _ (of_decide_eq_true (by first | (with_reducible assumption) | assumption) : (l0.length : Int).toNat ≤ 35184372088832)) (by omega)) (Below.refl _ _) (Nat.le_refl _) ?_; intro v387 w4 ho5 hb hg_ hnew_; clear hg_ hnew_; (first | rw [← Ny386.out] at ho5 | (simp only [Int.reduceToNat] at ho5; rw [← Ny386.out] at ho5)); have n0_ := Aside0.mk (Kd.R_lower ho5 (below_size (by repeat (first | (with_reducible first | exact HB.out | apply below_alloc | apply pw_below_drewN | apply below_drew1) | exact HB.out)))); have n1_ := Aside0.mk (below_step (by repeat (first | (with_reducible first | exact HB.out | apply below_alloc | apply pw_below_drewN | apply below_drew1) | exact HB.out)) hb); clear HB; have HO388 := n0_; have HB := n1_; clear n0_ n1_; clear hb ho5))
   go_loopg [4] k (fun kq v4 w' => ∃ (x3_1 : List Int) (x4_1 : Int), v4 = .int .i64 x4_1 ∧ Aside0 (laws_toIntS.l0 kq l0 x3_1 x4_1 = some r) ∧ Aside0 (kq ≤ k) ∧ Aside0 (Kd.R (Kd.int .i64) 3 w' w.heap.size (fun _ => True) v387 x3_1) ∧ Aside0 (Below w.heap.size w w'))
   case atStart => exact ⟨(y386), (0), (by first | rfl | (simp; done) | (simp [*]; done)), H', ⟨Nat.le_refl _⟩, ⟨by (with_reducible repeat (first | apply Kd.R_alloc | apply Kd.R_drewN | apply Kd.R_drew)); exact HO388.out⟩, ⟨by repeat (first | (with_reducible first | exact HB.out | apply below_alloc | apply pw_below_drewN | apply below_drew1) | exact HB.out)⟩⟩
   case round =>
    clear H'
    try clear c2
    try clear c2b0
    try clear c2b1
    try clear p2
    try clear c3
    try clear c3b0
    try clear c3b1
    obtain ⟨x3_1, x4_1, rfl, HA, HK1, HO_3, HB⟩ := hrel
    cases gk with
    | zero => exact absurd HA.out (by simp [laws_toIntS.l0])
    | succ k1 =>
     have H := HA.out
     clear HA
     simp only [laws_toIntS.l0] at H
     by_cases c6 : x4_1 < (l0.length : Int)
     ·rw [if_pos c6] at H
      have c6b0 : decide (x4_1 < (l0.length : Int)) = true := decide_eq_true c6
      clear c6
      by_cases c7 : 0 ≤ x4_1
      ·rw [if_pos c7] at H
       have c7b0 : decide (0 ≤ x4_1) = true := decide_eq_true c7
       clear c7
       by_cases c8 : x4_1 < (x3_1.length : Int)
       ·rw [if_pos c8] at H
        have c8b0 : decide (x4_1 < (x3_1.length : Int)) = true := decide_eq_true c8
        clear c8
        obtain ⟨y390, hy390⟩ : ∃ y_ : List Int, y_ = (x3_1.set (x4_1 : Int).toNat (rd l0 x4_1)) := ⟨_, rfl⟩
        replace H : (laws_toIntS.l0 k1 l0 y390 (wrap64 (x4_1 + 1))) = some r := by first | (rw [hy390]; with_reducible exact H) | (have H2_ := (Option.bind_some _ _).symm.trans H; rw [hy390]; with_reducible exact H2_) | (have H2_ := (Option.bind_some _ _).symm.trans H; with_reducible exact H2_) | with_reducible exact H | (rw [hy390]; exact H) | exact H
        have Ny390 := Aside0.mk hy390
        clear hy390
        have H' := Aside0.mk H
        clear H
        have p389 : 0 ≤ (x4_1 : Int) := of_decide_eq_true (by first | (with_reducible assumption) | assumption)
        have q389 : x4_1 < (l0.length : Int) := of_decide_eq_true (by first | (with_reducible assumption) | assumption)
        obtain ⟨ad389, e389, hx389_0⟩ := Kd.at_int HR0.out x4_1 p389 q389
        cases e389
        replace hx389_0 := (HB.out.cell (World.block_lt_of_cell? w _ hx389_0)).trans hx389_0
        replace p389 := eq_true p389
        replace q389 := eq_true q389
        have p9 : 0 ≤ (x4_1 : Int) := of_decide_eq_true (by first | (with_reducible assumption) | assumption)
        have q9 : (x4_1 : Int) < ((x3_1.length : Int) : Int) := of_decide_eq_true (by first | (with_reducible assumption) | assumption)
        obtain ⟨go9, co9, eo9, gb9, gl9, cl9, HG9⟩ := Kd.R_form HO_3.out (by omega)
        (first | cases eo9 | (injection eo9 with ea_ en_ ec_; (first | subst ea_ | (injection ea_ with ea_; subst ea_)); subst ec_; clear en_))
        have GB9 := Aside0.mk gb9
        have GG9 := Aside0.mk HG9
        clear gb9 gl9 HG9
        obtain ⟨hx9_0, hf9_0⟩ := Kd.R_celln 0 HO_3.out (x4_1 : Int) p9 q9
        replace p9 := eq_true p9
        replace q9 := eq_true q9
        have HP10 := Kd.R_putg HO_3.out (x4_1 : Int) (rd l0 x4_1)
        go_wp2_with (first | ((with_reducible refine gate_store (t := 3) (p := 20) rfl ?_); refine store_event (t := 3) (p := 20) (v := ?vo_w11) (w1 := (wr.setCell ⟨go9, (x4_1 : Int).toNat, none⟩ (.int .i64 (rd l0 x4_1)))) ?hg ?ho ?hn ?hr ?_; (case ho => rfl); (case hg => rfl); (case hn => rfl); (case hr => first | (go_simp; done) | (go_simp; rfl)); intro w11 hw; have hg : wr.grownBy w11 (some go9) := (by rw [hw]; exact HP10.2); have hp_ : Kd.R (Kd.int .i64) 3 w11 w.heap.size (fun _ => True) (.slice (some ⟨go9, 0, none⟩) x3_1.length co9) y390 := (by rw [hw, Ny390.out]; exact HP10.1); clear HP10; have n0_ := Aside0.mk (hp_); have n1_ := Aside0.mk ((by rw [hw]; exact below_set (HB.out) GB9.out : Below w.heap.size w w11)); clear HO_3; clear HB; have HO_3 := n0_; have HB := n1_; clear n0_ n1_; clear hg hw hp_))
        go_roundg k1
        case measure => have := HK1.out; omega
        case rel => exact ⟨(y390), (wrap64 (x4_1 + 1)), (by first | rfl | (simp; done) | (simp [*]; done)), H', ⟨by have := HK1.out; omega⟩, ⟨by (with_reducible repeat (first | apply Kd.R_alloc | apply Kd.R_drewN | apply Kd.R_drew)); exact HO_3.out⟩, ⟨by repeat (first | (with_reducible first | exact HB.out | apply below_alloc | apply pw_below_drewN | apply below_drew1) | exact HB.out)⟩⟩
       ·rw [if_neg c8] at H
        exact absurd H (by simp)
      ·rw [if_neg c7] at H
       exact absurd H (by simp)
     ·rw [if_neg c6] at H
      have c6b0 : decide (x4_1 < (l0.length : Int)) = false := decide_eq_false c6
      clear c6
      obtain rfl := Option.some.inj H
      go_wp2
      go_ret
      exact ⟨_, by first | rfl | (simp [errW_none, errW_some] <;> rfl) | (simp [*, errW_none, errW_some] <;> rfl), by (with_reducible repeat (first | apply Kd.R_alloc | apply Kd.R_drewN | apply Kd.R_drew)); exact HO_3.out, by repeat (first | (with_reducible first | exact HB.out | apply below_alloc | apply pw_below_drewN | apply below_drew1) | exact HB.out)⟩
  ·rw [if_neg c3] at H
   exact absurd H (by simp)
 ·rw [if_neg c2] at H
  exact absurd H (by simp)
end Go.Proofs.Ytbifdckfglejkaa.X
namespace Go.Proofs.Ytbifdckfglejkaa.X
open Go.RowKit Go.Proofs.YtbifdckfglejkaaW.PrintWords Go.Proofs.YtbifdckfglejkaaW.PrintLast Go.Proofs.YtbifdckfglejkaaW.PrintMore
attribute [local go_sem] max2_int min2_int max_two min_two max_three min_three max_four min_four   -- for this text's walks alone
set_option linter.unusedVariables false
set_option linter.unusedSimpArgs false
def laws_toOp.f (k : Nat) (a0_0 : Int) (l0_1 : List Int) (a0_2 : Int) (a0_3 : Int) (a0_4 : Int) : Option (Int × List Int × Int × Int × Int) := (laws_toIntS.f k l0_1).bind fun t926 => (some (a0_0, t926, a0_2, a0_3, a0_4))
set_option maxHeartbeats 8000000 in
set_option maxRecDepth 100000 in
theorem laws_toOp.calls (k : Nat) (a0_0 : Int) (A0_1 : Option Addr) (c0_1 : Nat) (l0_1 : List Int) (a0_2 : Int) (a0_3 : Int) (a0_4 : Int) (r1 : Int) (r2 : List Int) (r3 : Int) (r4 : Int) (r5 : Int) (w : World) (hr0_1 : Kd.C (Kd.int .i64) w A0_1 l0_1.length l0_1) (hc0_1 : l0_1.length ≤ c0_1) (h : laws_toOp.f k a0_0 l0_1 a0_2 a0_3 a0_4 = some (r1, r2, r3, r4, r5)) :
  Calls Try.prog 45 #[.agg #[.int .i64 a0_0, .slice A0_1 l0_1.length c0_1, .int .i64 a0_2, .int .i64 a0_3, .int .i64 a0_4]] w fun e w' => ∃ v1_ : Value, e = .returned (.agg #[.int .i64 r1, v1_, .int .i64 r3, .int .i64 r4, .int .i64 r5]) ∧ Kd.R (Kd.int .i64) 3 w' w.heap.size (fun _ => True) v1_ r2 ∧ Below w.heap.size w w' := by
 have hu63 := Try.underlying63
 have hu67 := Try.underlying67
 have HR0_1 := Aside0.mk hr0_1
 have HC0_1 := Aside0.mk hc0_1
 clear hr0_1 hc0_1
 have HB := Aside0.mk (Below.refl w.heap.size w)
 have H : ((laws_toIntS.f k l0_1).bind fun t926 => (some (a0_0, t926, a0_2, a0_3, a0_4))) = some (r1, r2, r3, r4, r5) := h
 clear h
 replace H := Option.bind_eq_some_iff.mp H
 obtain ⟨t926, A20, H⟩ := H
 replace H : (some (a0_0, t926, a0_2, a0_3, a0_4)) = some (r1, r2, r3, r4, r5) := H
 have A2 := Aside0.mk A20
 clear A20
 simp only [Option.some.injEq, Prod.mk.injEq] at H
 obtain ⟨rfl, rfl, rfl, rfl, rfl⟩ := H
 go_enter Try.func45, Try.ntmps45
 go_wp2_with (first | ((with_reducible refine gate_dst (N := 1) rfl ?_); refine box_event ?hg (N := 1) ?hd (cs := #[.int .i64 a0_0, .slice A0_1 l0_1.length c0_1, .int .i64 a0_2, .int .i64 a0_3, .int .i64 a0_4]) (t := 63) ?hr ?_; (case hd => rfl); (case hg => rfl); (case hr => first | (go_simp; done) | (go_simp; rfl)); intro gb923 hg w3 hbox hb; have n0_ := Aside0.mk (below_step (by repeat (first | (with_reducible first | exact HB.out | apply below_alloc | apply pw_below_drewN | apply below_drew1) | exact HB.out)) hb); have n1_ := Aside0.mk (hbox); have n2_ := Aside0.mk ((by rw [hg]; exact (below_size (by repeat (first | (with_reducible first | exact HB.out | apply below_alloc | apply pw_below_drewN | apply below_drew1) | exact HB.out))) : w.heap.size ≤ gb923)); have n3_ := Aside0.mk ((by rw [hg]; exact (below_size (by repeat (first | (with_reducible first | exact HB.out | apply below_alloc | apply pw_below_drewN | apply below_drew1) | exact HB.out))) : w.heap.size ≤ gb923)); clear HB; have HB := n0_; have BK923 := n1_; have GW923 := n2_; have GE923 := n3_; clear n0_ n1_ n2_ n3_; clear hb hbox hg) | ((with_reducible refine gate_dst (N := 2) rfl ?_); refine box_event ?hg (N := 2) ?hd (cs := #[.int .i64 0, .slice none 0 0, .int .i64 0, .int .i64 0, .int .i64 0]) (t := 67) ?hr ?_; (case hd => rfl); (case hg => rfl); (case hr => first | (go_simp; done) | (go_simp; rfl)); intro gb924 hg w4 hbox hb; have n0_ := Aside0.mk (blk_below (g := gb923) (o := .cells #[.int .i64 a0_0, .slice A0_1 l0_1.length c0_1, .int .i64 a0_2, .int .i64 a0_3, .int .i64 a0_4] 63 (0, 0)) (by (with_reducible repeat (first | refine blk_drewN ?_ _ | refine blk_drew ?_ | refine blk_alloc ?_ _)); exact BK923.out) hb); have n1_ := Aside0.mk (below_step (by repeat (first | (with_reducible first | exact HB.out | apply below_alloc | apply pw_below_drewN | apply below_drew1 | refine below_set ?_ GE923.out) | exact HB.out)) hb); have n2_ := Aside0.mk (hbox); have n3_ := Aside0.mk ((by rw [hg]; exact (below_size (by repeat (first | (with_reducible first | exact HB.out | apply below_alloc | apply pw_below_drewN | apply below_drew1 | refine below_set ?_ GE923.out) | exact HB.out))) : w.heap.size ≤ gb924)); have n4_ := Aside0.mk ((by rw [hg]; exact (below_size (by repeat (first | (with_reducible first | exact HB.out | apply below_alloc | apply pw_below_drewN | apply below_drew1 | refine below_set ?_ GE923.out) | exact HB.out))) : w.heap.size ≤ gb924)); have n5_ := Aside0.mk ((by rw [hg]; exact Nat.ne_of_lt (blk_lt (g := gb923) (o := .cells #[.int .i64 a0_0, .slice A0_1 l0_1.length c0_1, .int .i64 a0_2, .int .i64 a0_3, .int .i64 a0_4] 63 (0, 0)) (by (with_reducible repeat (first | refine blk_drewN ?_ _ | refine blk_drew ?_ | refine blk_alloc ?_ _)); exact BK923.out)) : gb923 ≠ gb924)); have n6_ := Aside0.mk ((by rw [hg]; exact Nat.ne_of_gt (blk_lt (g := gb923) (o := .cells #[.int .i64 a0_0, .slice A0_1 l0_1.length c0_1, .int .i64 a0_2, .int .i64 a0_3, .int .i64 a0_4] 63 (0, 0)) (by (with_reducible repeat (first | refine blk_drewN ?_ _ | refine blk_drew ?_ | refine blk_alloc ?_ _)); exact BK923.out)) : gb924 ≠ gb923)); clear BK923; clear HB; have BK923 := n0_; have HB := n1_; have BK924 := n2_; have GW924 := n3_; have GE924 := n4_; have NB923_924 := n5_; have NB924_923 := n6_; clear n0_ n1_ n2_ n3_ n4_ n5_ n6_; clear hb hbox hg) | ((with_reducible refine gate_dst (N := 3) rfl ?_); refine box_event ?hg (N := 3) ?hd (cs := #[.int .i64 0, .slice none 0 0, .int .i64 0, .int .i64 0, .int .i64 0]) (t := 67) ?hr ?_; (case hd => rfl); (case hg => rfl); (case hr => first | (go_simp; done) | (go_simp; rfl)); intro gb925 hg w5 hbox hb; have n0_ := Aside0.mk (blk_below (g := gb923) (o := .cells #[.int .i64 a0_0, .slice A0_1 l0_1.length c0_1, .int .i64 a0_2, .int .i64 a0_3, .int .i64 a0_4] 63 (0, 0)) (by (with_reducible repeat (first | refine blk_drewN ?_ _ | refine blk_drew ?_ | refine blk_alloc ?_ _)); exact BK923.out) hb); have n1_ := Aside0.mk (blk_below (g := gb924) (o := .cells #[.int .i64 0, .slice none 0 0, .int .i64 0, .int .i64 0, .int .i64 0] 67 (0, 0)) (by (with_reducible repeat (first | refine blk_drewN ?_ _ | refine blk_drew ?_ | refine blk_alloc ?_ _)); exact BK924.out) hb); have n2_ := Aside0.mk (below_step (by repeat (first | (with_reducible first | exact HB.out | apply below_alloc | apply pw_below_drewN | apply below_drew1 | refine below_set ?_ GE923.out | refine below_set ?_ GE924.out) | exact HB.out)) hb); have n3_ := Aside0.mk (hbox); have n4_ := Aside0.mk ((by rw [hg]; exact (below_size (by repeat (first | (with_reducible first | exact HB.out | apply below_alloc | apply pw_below_drewN | apply below_drew1 | refine below_set ?_ GE923.out | refine below_set ?_ GE924.out) | exact HB.out))) : w.heap.size ≤ gb925)); have n5_ := Aside0.mk ((by rw [hg]; exact (below_size (by repeat (first | (with_reducible first | exact HB.out | apply below_alloc | apply pw_below_drewN | apply below_drew1 | refine below_set ?_ GE923.out | refine below_set ?_ GE924.out) | exact HB.out))) : w.heap.size ≤ gb925)); have n6_ := Aside0.mk ((by rw [hg]; exact Nat.ne_of_lt (blk_lt (g := gb923) (o := .cells #[.int .i64 a0_0, .slice A0_1 l0_1.length c0_1, .int .i64 a0_2, .int .i64 a0_3, .int .i64 a0_4] 63 (0, 0)) (by (with_reducible repeat (first | refine blk_drewN ?_ _ | refine blk_drew ?_ | refine blk_alloc ?_ _)); exact BK923.out)) : gb923 ≠ gb925)); have n7_ := Aside0.mk ((by rw [hg]; exact Nat.ne_of_gt (blk_lt (g := gb923) (o := .cells #[.int .i64 a0_0, .slice A0_1 l0_1.length c0_1, .int .i64 a0_2, .int .i64 a0_3, .int .i64 a0_4] 63 (0, 0)) (by (with_reducible repeat (first | refine blk_drewN ?_ _ | refine blk_drew ?_ | refine blk_alloc ?_ _)); exact BK923.out)) : gb925 ≠ gb923)); have n8_ := Aside0.mk ((by rw [hg]; exact Nat.ne_of_lt (blk_lt (g := gb924) (o := .cells #[.int .i64 0, .slice none 0 0, .int .i64 0, .int .i64 0, .int .i64 0] 67 (0, 0)) (by (with_reducible repeat (first | refine blk_drewN ?_ _ | refine blk_drew ?_ | refine blk_alloc ?_ _)); exact BK924.out)) : gb924 ≠ gb925)); have n9_ := Aside0.mk ((by rw [hg]; exact Nat.ne_of_gt (blk_lt (g := gb924) (o := .cells #[.int .i64 0, .slice none 0 0, .int .i64 0, .int .i64 0, .int .i64 0] 67 (0, 0)) (by (with_reducible repeat (first | refine blk_drewN ?_ _ | refine blk_drew ?_ | refine blk_alloc ?_ _)); exact BK924.out)) : gb925 ≠ gb924)); clear BK923; clear BK924; clear HB; have BK923 := n0_; have BK924 := n1_; have HB := n2_; have BK925 := n3_; have GW925 := n4_; have GE925 := n5_; have NB923_925 := n6_; have NB925_923 := n7_; have NB924_925 := n8_; have NB925_924 := n9_; clear n0_ n1_ n2_ n3_ n4_ n5_ n6_ n7_ n8_ n9_; clear hb hbox hg; have hnb6 := NB923_924.out; have hnc6 := NB924_923.out; have hnb7 := NB923_925.out; have hnc7 := NB925_923.out; have hcz8_0 : w5.cell? ⟨gb923, 0, none⟩ = some (.int .i64 a0_0) := (blk_cell BK923.out 0).trans rfl; have hcz8_1 : w5.cell? ⟨gb923, 1, none⟩ = some (.slice A0_1 l0_1.length c0_1) := (blk_cell BK923.out 1).trans rfl; have hcz8_2 : w5.cell? ⟨gb923, 2, none⟩ = some (.int .i64 a0_2) := (blk_cell BK923.out 2).trans rfl; have hcz8_3 : w5.cell? ⟨gb923, 3, none⟩ = some (.int .i64 a0_3) := (blk_cell BK923.out 3).trans rfl; have hcz8_4 : w5.cell? ⟨gb923, 4, none⟩ = some (.int .i64 a0_4) := (blk_cell BK923.out 4).trans rfl; have hfz8_0 := blk_frozen BK923.out 0; have hfz8_1 := blk_frozen BK923.out 1; have hfz8_2 := blk_frozen BK923.out 2; have hfz8_3 := blk_frozen BK923.out 3; have hfz8_4 := blk_frozen BK923.out 4; have hnb9 := NB925_924.out; have hnc9 := NB924_925.out; have hcz10_0 : w5.cell? ⟨gb925, 0, none⟩ = some (.int .i64 0) := (blk_cell BK925.out 0).trans rfl; have hcz10_1 : w5.cell? ⟨gb925, 1, none⟩ = some (.slice none 0 0) := (blk_cell BK925.out 1).trans rfl; have hcz10_2 : w5.cell? ⟨gb925, 2, none⟩ = some (.int .i64 0) := (blk_cell BK925.out 2).trans rfl; have hcz10_3 : w5.cell? ⟨gb925, 3, none⟩ = some (.int .i64 0) := (blk_cell BK925.out 3).trans rfl; have hcz10_4 : w5.cell? ⟨gb925, 4, none⟩ = some (.int .i64 0) := (blk_cell BK925.out 4).trans rfl; have hfz10_0 := blk_frozen BK925.out 0; have hfz10_1 := blk_frozen BK925.out 1; have hfz10_2 := blk_frozen BK925.out 2; have hfz10_3 := blk_frozen BK925.out 3; have hfz10_4 := blk_frozen BK925.out 4) | ((with_reducible refine gate_callee (f := 28) rfl ?_); refine goesL_ (some 9) rfl rfl Try.func28 (by kernel_rfl) rfl #[.slice A0_1 l0_1.length c0_1] rfl (by (try simp only [List.map_toArray, List.map_cons, List.map_nil]); first | done | rfl | (simp only [List.length_drop, List.length_take]; rfl)) ?_; (with_reducible refine (laws_toIntS.calls k _ _ l0_1 t926 _ ?side1 ?side2 A2.out).mono ?_); (case side1 => exact Kd.C_below HR0_1.out (by repeat (first | (with_reducible first | exact HB.out | apply below_alloc | apply pw_below_drewN | apply below_drew1 | refine below_set ?_ GE923.out | refine below_set ?_ GE924.out | refine below_set ?_ GE925.out) | exact HB.out))); (case side2 => exact HC0_1.out); rintro e w11 ⟨v927, rfl, ho0, hb⟩; refine ⟨_, rfl, ?_⟩; have n0_ := Aside0.mk (Kd.R_lower ho0 (below_size (by repeat (first | (with_reducible first | exact HB.out | apply below_alloc | apply pw_below_drewN | apply below_drew1 | refine below_set ?_ GE923.out | refine below_set ?_ GE924.out | refine below_set ?_ GE925.out) | exact HB.out)))); have n1_ := Aside0.mk (blk_below (g := gb923) (o := .cells #[.int .i64 a0_0, .slice A0_1 l0_1.length c0_1, .int .i64 a0_2, .int .i64 a0_3, .int .i64 a0_4] 63 (0, 0)) (by (with_reducible repeat (first | refine blk_drewN ?_ _ | refine blk_drew ?_ | refine blk_alloc ?_ _)); refine blk_far ?_ NB923_925.out _; (with_reducible repeat (first | refine blk_drewN ?_ _ | refine blk_drew ?_ | refine blk_alloc ?_ _)); exact BK923.out) hb); have n2_ := Aside0.mk (blk_below (g := gb924) (o := .cells #[.int .i64 0, .slice none 0 0, .int .i64 0, .int .i64 0, .int .i64 0] 67 (0, 0)) (by (with_reducible repeat (first | refine blk_drewN ?_ _ | refine blk_drew ?_ | refine blk_alloc ?_ _)); refine blk_far ?_ NB924_925.out _; (with_reducible repeat (first | refine blk_drewN ?_ _ | refine blk_drew ?_ | refine blk_alloc ?_ _)); exact BK924.out) hb); have n3_ := Aside0.mk (blk_below (g := gb925) (o := .cells #[.int .i64 a0_0, .slice none 0 0, .int .i64 0, .int .i64 0, .int .i64 0] 67 (0, 0)) (by (with_reducible repeat (first | refine blk_drewN ?_ _ | refine blk_drew ?_ | refine blk_alloc ?_ _)); refine blk_put (cs := #[.int .i64 0, .slice none 0 0, .int .i64 0, .int .i64 0, .int .i64 0]) ?_ 0 _ rfl; (with_reducible repeat (first | refine blk_drewN ?_ _ | refine blk_drew ?_ | refine blk_alloc ?_ _)); exact BK925.out) hb); have n4_ := Aside0.mk (below_step (by repeat (first | (with_reducible first | exact HB.out | apply below_alloc | apply pw_below_drewN | apply below_drew1 | refine below_set ?_ GE923.out | refine below_set ?_ GE924.out | refine below_set ?_ GE925.out) | exact HB.out)) hb); clear BK923; clear BK924; clear BK925; clear HB; have HO928 := n0_; have BK923 := n1_; have BK924 := n2_; have BK925 := n3_; have HB := n4_; clear n0_ n1_ n2_ n3_ n4_; (try clear hb); (try clear hb2); (try clear hk); (try clear hi); (try clear ho0); obtain ⟨Ao12, co12, eo12⟩ := Kd.R_slice HO928.out; subst eo12; have hcz13_0 : w11.cell? ⟨gb925, 0, none⟩ = some (.int .i64 a0_0) := (blk_cell BK925.out 0).trans rfl; have hcz13_1 : w11.cell? ⟨gb925, 1, none⟩ = some (.slice none 0 0) := (blk_cell BK925.out 1).trans rfl; have hcz13_2 : w11.cell? ⟨gb925, 2, none⟩ = some (.int .i64 0) := (blk_cell BK925.out 2).trans rfl; have hcz13_3 : w11.cell? ⟨gb925, 3, none⟩ = some (.int .i64 0) := (blk_cell BK925.out 3).trans rfl; have hcz13_4 : w11.cell? ⟨gb925, 4, none⟩ = some (.int .i64 0) := (blk_cell BK925.out 4).trans rfl; have hfz13_0 := blk_frozen BK925.out 0; have hfz13_1 := blk_frozen BK925.out 1; have hfz13_2 := blk_frozen BK925.out 2; have hfz13_3 := blk_frozen BK925.out 3; have hfz13_4 := blk_frozen BK925.out 4; have hcz14_0 : w11.cell? ⟨gb923, 0, none⟩ = some (.int .i64 a0_0) := (blk_cell BK923.out 0).trans rfl; have hcz14_1 : w11.cell? ⟨gb923, 1, none⟩ = some (.slice A0_1 l0_1.length c0_1) := (blk_cell BK923.out 1).trans rfl; have hcz14_2 : w11.cell? ⟨gb923, 2, none⟩ = some (.int .i64 a0_2) := (blk_cell BK923.out 2).trans rfl; have hcz14_3 : w11.cell? ⟨gb923, 3, none⟩ = some (.int .i64 a0_3) := (blk_cell BK923.out 3).trans rfl; have hcz14_4 : w11.cell? ⟨gb923, 4, none⟩ = some (.int .i64 a0_4) := (blk_cell BK923.out 4).trans rfl; have hfz14_0 := blk_frozen BK923.out 0; have hfz14_1 := blk_frozen BK923.out 1; have hfz14_2 := blk_frozen BK923.out 2; have hfz14_3 := blk_frozen BK923.out 3; have hfz14_4 := blk_frozen BK923.out 4; have hcz15_0 : w11.cell? ⟨gb924, 0, none⟩ = some (.int .i64 0) := (blk_cell BK924.out 0).trans rfl; have hcz15_1 : w11.cell? ⟨gb924, 1, none⟩ = some (.slice none 0 0) := (blk_cell BK924.out 1).trans rfl; have hcz15_2 : w11.cell? ⟨gb924, 2, none⟩ = some (.int .i64 0) := (blk_cell BK924.out 2).trans rfl; have hcz15_3 : w11.cell? ⟨gb924, 3, none⟩ = some (.int .i64 0) := (blk_cell BK924.out 3).trans rfl; have hcz15_4 : w11.cell? ⟨gb924, 4, none⟩ = some (.int .i64 0) := (blk_cell BK924.out 4).trans rfl; have hfz15_0 := blk_frozen BK924.out 0; have hfz15_1 := blk_frozen BK924.out 1; have hfz15_2 := blk_frozen BK924.out 2; have hfz15_3 := blk_frozen BK924.out 3; have hfz15_4 := blk_frozen BK924.out 4))
 refine bodyPost_ret (results_cell_row rfl _ _ gb924 67 #[.int .i64 a0_0, .slice Ao12 t926.length co12, .int .i64 a0_2, .int .i64 a0_3, .int .i64 a0_4] (0, 0) _ rfl (by (with_reducible repeat (first | refine blk_drewN ?_ _ | refine blk_drew ?_ | refine blk_alloc ?_ _)); refine blk_put (cs := #[.int .i64 a0_0, .slice Ao12 t926.length co12, .int .i64 a0_2, .int .i64 a0_3, .int .i64 0]) ?_ 4 _ rfl; (with_reducible repeat (first | refine blk_drewN ?_ _ | refine blk_drew ?_ | refine blk_alloc ?_ _)); refine blk_put (cs := #[.int .i64 a0_0, .slice Ao12 t926.length co12, .int .i64 a0_2, .int .i64 0, .int .i64 0]) ?_ 3 _ rfl; (with_reducible repeat (first | refine blk_drewN ?_ _ | refine blk_drew ?_ | refine blk_alloc ?_ _)); refine blk_put (cs := #[.int .i64 a0_0, .slice Ao12 t926.length co12, .int .i64 0, .int .i64 0, .int .i64 0]) ?_ 2 _ rfl; (with_reducible repeat (first | refine blk_drewN ?_ _ | refine blk_drew ?_ | refine blk_alloc ?_ _)); refine blk_put (cs := #[.int .i64 a0_0, .slice none 0 0, .int .i64 0, .int .i64 0, .int .i64 0]) ?_ 1 _ rfl; (with_reducible repeat (first | refine blk_drewN ?_ _ | refine blk_drew ?_ | refine blk_alloc ?_ _)); refine blk_put (cs := #[.int .i64 0, .slice none 0 0, .int .i64 0, .int .i64 0, .int .i64 0]) ?_ 0 _ rfl; (with_reducible repeat (first | refine blk_drewN ?_ _ | refine blk_drew ?_ | refine blk_alloc ?_ _)); refine blk_far ?_ NB924_925.out _; (with_reducible repeat (first | refine blk_drewN ?_ _ | refine blk_drew ?_ | refine blk_alloc ?_ _)); refine blk_far ?_ NB924_925.out _; (with_reducible repeat (first | refine blk_drewN ?_ _ | refine blk_drew ?_ | refine blk_alloc ?_ _)); refine blk_far ?_ NB924_925.out _; (with_reducible repeat (first | refine blk_drewN ?_ _ | refine blk_drew ?_ | refine blk_alloc ?_ _)); refine blk_far ?_ NB924_925.out _; (with_reducible repeat (first | refine blk_drewN ?_ _ | refine blk_drew ?_ | refine blk_alloc ?_ _)); exact BK924.out) Try.underlying67 rfl (by kernel_rfl)) rfl ?_
 exact ⟨_, by first | rfl | (simp [errW_none, errW_some] <;> rfl) | (simp [*, errW_none, errW_some] <;> rfl), by (with_reducible repeat (first | apply Kd.R_alloc | apply Kd.R_drewN | apply Kd.R_drew)); exact Kd.R_mono (Kd.R_far (p := ⟨gb924, 4, none⟩) (Kd.R_far (p := ⟨gb924, 3, none⟩) (Kd.R_far (p := ⟨gb924, 2, none⟩) (Kd.R_far (p := ⟨gb924, 1, none⟩) (Kd.R_far (p := ⟨gb924, 0, none⟩) (Kd.R_far (p := ⟨gb925, 4, none⟩) (Kd.R_far (p := ⟨gb925, 3, none⟩) (Kd.R_far (p := ⟨gb925, 2, none⟩) (Kd.R_far (p := ⟨gb925, 1, none⟩) (Kd.R_types (Kd.R_types HO928.out BK925.out (by decide)) BK924.out (by decide)) (fun _ hk => hk.1.2) (.slice Ao12 t926.length co12)) (fun _ hk => hk.1.2) (.int .i64 a0_2)) (fun _ hk => hk.1.2) (.int .i64 a0_3)) (fun _ hk => hk.1.2) (.int .i64 a0_4)) (fun _ hk => hk.2) (.int .i64 a0_0)) (fun _ hk => hk.2) (.slice Ao12 t926.length co12)) (fun _ hk => hk.2) (.int .i64 a0_2)) (fun _ hk => hk.2) (.int .i64 a0_3)) (fun _ hk => hk.2) (.int .i64 a0_4)) (fun _ hk => trivial), by repeat (first | (with_reducible first | exact HB.out | apply below_alloc | apply pw_below_drewN | apply below_drew1 | refine below_set ?_ GE923.out | refine below_set ?_ GE924.out | refine below_set ?_ GE925.out) | exact HB.out)⟩
end Go.Proofs.Ytbifdckfglejkaa.X
namespace Go.Proofs.Ytbifdckfglejkaa.X
open Go.RowKit Go.Proofs.YtbifdckfglejkaaW.PrintWords Go.Proofs.YtbifdckfglejkaaW.PrintLast Go.Proofs.YtbifdckfglejkaaW.PrintMore
attribute [local go_sem] max2_int min2_int max_two min_two max_three min_three max_four min_four   -- for this text's walks alone
set_option linter.unusedVariables false
set_option linter.unusedSimpArgs false
def laws_eqIntS.l0 : Nat → List Int → List Int → Int → Option (Bool)
 | 0, _, _, _ => none
 | k + 1, x0, x1, x5 => if x5 < (x0.length : Int) then (if 0 ≤ x5 then (if x5 < (x1.length : Int) then (if (rd x0 x5) = (rd x1 x5) then (laws_eqIntS.l0 k x0 x1 (wrap64 (x5 + 1))) else (some false)) else (none)) else (none)) else (some true)
def laws_eqIntS.f (k : Nat) (l0 : List Int) (l1 : List Int) : Option (Bool) := if (l0.length : Int) = (l1.length : Int) then (laws_eqIntS.l0 k l0 l1 0) else (some false)
set_option maxHeartbeats 8000000 in
set_option maxRecDepth 100000 in
theorem laws_eqIntS.calls (k : Nat) (A0 : Option Addr) (c0 : Nat) (l0 : List Int) (A1 : Option Addr) (c1 : Nat) (l1 : List Int) (r : Bool) (w : World) (hr0 : Kd.C (Kd.int .i64) w A0 l0.length l0) (hc0 : l0.length ≤ c0) (hr1 : Kd.C (Kd.int .i64) w A1 l1.length l1) (hc1 : l1.length ≤ c1) (h : laws_eqIntS.f k l0 l1 = some r) :
  Calls Try.prog 30 #[.slice A0 l0.length c0, .slice A1 l1.length c1] w fun e w' => e = .returned (.bool r) ∧ Drawn0 w w' := by
 have HR0 := Aside0.mk hr0
 have HC0 := Aside0.mk hc0
 clear hr0 hc0
 have HR1 := Aside0.mk hr1
 have HC1 := Aside0.mk hc1
 clear hr1 hc1
 have H : (if (l0.length : Int) = (l1.length : Int) then (laws_eqIntS.l0 k l0 l1 0) else (some false)) = some r := h
 clear h
 by_cases c3 : (l0.length : Int) = (l1.length : Int)
 ·rw [if_pos c3] at H
  have c3b0 : ((l0.length : Int) == (l1.length : Int)) = true := beq_iff_eq.mpr c3
  have c3b1 : ((l0.length : Int) != (l1.length : Int)) = false := bne_eq_false_iff_eq.mpr c3
  have c3b2 : (l0.length == l1.length) = true := by first | simpa using c3 | (simp at c3 ⊢; omega)
  clear c3
  have H' := Aside0.mk H
  clear H
  go_enter Try.func30, Try.ntmps30
  go_wp2
  repeat (go_quiet (fail); try go_wp2)
  go_loopg [5] k (fun kq v5 w' => ∃ (x5_1 : Int), v5 = .int .i64 x5_1 ∧ Aside0 (laws_eqIntS.l0 kq l0 l1 x5_1 = some r) ∧ Aside0 (kq ≤ k) ∧ Drawn0 w w')
  case atStart => exact ⟨(0), (by first | rfl | (simp; done) | (simp [*]; done)), H', ⟨Nat.le_refl _⟩, by repeat (first | exact Drawn0.refl _ | apply Drawn0.step)⟩
  case round =>
   clear H'
   try clear c1
   try clear p2
   try clear c3
   try clear c3b0
   try clear c3b1
   try clear c3b2
   obtain ⟨x5_1, rfl, HA, HK1, ⟨m1, rfl⟩⟩ := hrel
   cases gk with
   | zero => exact absurd HA.out (by simp [laws_eqIntS.l0])
   | succ k1 =>
    have H := HA.out
    clear HA
    simp only [laws_eqIntS.l0] at H
    by_cases c4 : x5_1 < (l0.length : Int)
    ·rw [if_pos c4] at H
     have c4b0 : decide (x5_1 < (l0.length : Int)) = true := decide_eq_true c4
     clear c4
     by_cases c5 : 0 ≤ x5_1
     ·rw [if_pos c5] at H
      have c5b0 : decide (0 ≤ x5_1) = true := decide_eq_true c5
      clear c5
      by_cases c6 : x5_1 < (l1.length : Int)
      ·rw [if_pos c6] at H
       have c6b0 : decide (x5_1 < (l1.length : Int)) = true := decide_eq_true c6
       clear c6
       by_cases c7 : (rd l0 x5_1) = (rd l1 x5_1)
       ·rw [if_pos c7] at H
        have c7b0 : ((rd l0 x5_1) == (rd l1 x5_1)) = true := beq_iff_eq.mpr c7
        have c7b1 : ((rd l0 x5_1) != (rd l1 x5_1)) = false := bne_eq_false_iff_eq.mpr c7
        clear c7
        have H' := Aside0.mk H
        clear H
        have p432 : 0 ≤ (x5_1 : Int) := of_decide_eq_true (by first | (with_reducible assumption) | assumption)
        have q432 : x5_1 < (l0.length : Int) := of_decide_eq_true (by first | (with_reducible assumption) | assumption)
        obtain ⟨ad432, e432, hx432_0⟩ := Kd.at_int HR0.out x5_1 p432 q432
        cases e432
        replace p432 := eq_true p432
        replace q432 := eq_true q432
        have p433 : 0 ≤ (x5_1 : Int) := of_decide_eq_true (by first | (with_reducible assumption) | assumption)
        have q433 : x5_1 < (l1.length : Int) := of_decide_eq_true (by first | (with_reducible assumption) | assumption)
        obtain ⟨ad433, e433, hx433_0⟩ := Kd.at_int HR1.out x5_1 p433 q433
        cases e433
        replace p433 := eq_true p433
        replace q433 := eq_true q433
        go_wp2
        repeat (go_quiet (fail); try go_wp2)
        go_roundg k1
        case measure => have := HK1.out; omega
        case rel => exact ⟨(wrap64 (x5_1 + 1)), (by first | rfl | (simp; done) | (simp [*]; done)), H', ⟨by have := HK1.out; omega⟩, by repeat (first | exact Drawn0.refl _ | apply Drawn0.step)⟩
       ·rw [if_neg c7] at H
        have c7b0 : ((rd l0 x5_1) == (rd l1 x5_1)) = false := beq_eq_false_iff_ne.mpr c7
        have c7b1 : ((rd l0 x5_1) != (rd l1 x5_1)) = true := bne_iff_ne.mpr c7
        obtain rfl := Option.some.inj H
        have p432 : 0 ≤ (x5_1 : Int) := of_decide_eq_true (by first | (with_reducible assumption) | assumption)
        have q432 : x5_1 < (l0.length : Int) := of_decide_eq_true (by first | (with_reducible assumption) | assumption)
        obtain ⟨ad432, e432, hx432_0⟩ := Kd.at_int HR0.out x5_1 p432 q432
        cases e432
        replace p432 := eq_true p432
        replace q432 := eq_true q432
        have p433 : 0 ≤ (x5_1 : Int) := of_decide_eq_true (by first | (with_reducible assumption) | assumption)
        have q433 : x5_1 < (l1.length : Int) := of_decide_eq_true (by first | (with_reducible assumption) | assumption)
        obtain ⟨ad433, e433, hx433_0⟩ := Kd.at_int HR1.out x5_1 p433 q433
        cases e433
        replace p433 := eq_true p433
        replace q433 := eq_true q433
        go_wp2
        repeat (go_quiet (fail); try go_wp2)
        go_ret
        exact ⟨by first | rfl | (simp; done) | (simp [*]; done), by repeat (first | exact Drawn0.refl _ | apply Drawn0.step)⟩
      ·rw [if_neg c6] at H
       exact absurd H (by simp)
     ·rw [if_neg c5] at H
      exact absurd H (by simp)
    ·rw [if_neg c4] at H
     have c4b0 : decide (x5_1 < (l0.length : Int)) = false := decide_eq_false c4
     clear c4
     obtain rfl := Option.some.inj H
     go_wp2
     repeat (go_quiet (fail); try go_wp2)
     go_ret
     exact ⟨by first | rfl | (simp; done) | (simp [*]; done), by repeat (first | exact Drawn0.refl _ | apply Drawn0.step)⟩
 ·rw [if_neg c3] at H
  have c3b0 : ((l0.length : Int) == (l1.length : Int)) = false := beq_eq_false_iff_ne.mpr c3
  have c3b1 : ((l0.length : Int) != (l1.length : Int)) = true := bne_iff_ne.mpr c3
  have c3b2 : (l0.length == l1.length) = false := by first | simpa using c3 | (simp at c3 ⊢; omega)
  obtain rfl := Option.some.inj H
  go_enter Try.func30, Try.ntmps30
  go_wp2
  repeat (go_quiet (fail); try go_wp2)
  go_ret
  exact ⟨by first | rfl | (simp; done) | (simp [*]; done), by repeat (first | exact Drawn0.refl _ | apply Drawn0.step)⟩
end Go.Proofs.Ytbifdckfglejkaa.X
