/- Part 10 of the proof of FnExactScriptCost: what it needs. -/
import Derived.Test.YtbifdckfglejkaaKEScriptCost3
import Derived.Test.YtbifdckfglejkaaKEScriptCost5
namespace Go.Proofs.Ytbifdckfglejkaa.X
open Go.RowKit Go.Proofs.YtbifdckfglejkaaW.PrintWords Go.Proofs.YtbifdckfglejkaaW.PrintLast Go.Proofs.YtbifdckfglejkaaW.PrintMore
attribute [local go_sem] max2_int min2_int max_two min_two max_three min_three max_four min_four   -- for this text's walks alone
set_option linter.unusedVariables false
set_option linter.unusedSimpArgs false
mutual
def impl_opCode.j0 : Nat → List (S90) → Int → Bool → Int → List Int → Int → Int → Int → Option (Int × Int × Int)
 | 0, _, _, _, _, _, _, _, _ => none
 | k + 1, x0, x2, x22, x930000, x930001, x930002, x930003, x930004 => if x22 = true then (some (3, 0, 0)) else (if x930000 = 2 then (impl_opCode.j1 k x0 x2 (x2 == 0) x930000 x930001 x930002 x930003 x930004) else (impl_opCode.j1 k x0 x2 false x930000 x930001 x930002 x930003 x930004))
def impl_opCode.j1 : Nat → List (S90) → Int → Bool → Int → List Int → Int → Int → Int → Option (Int × Int × Int)
 | 0, _, _, _, _, _, _, _, _ => none
 | k + 1, x0, x2, x32, x930000, x930001, x930002, x930003, x930004 => if x32 = true then (some (4, 0, 0)) else (if x930000 = 3 then ((impl_KidsOf.f k x0 x2).bind fun t932 => ((impl_within.f x930003 0 (t932.length : Int)).bind fun t935 => (if t935 = true then ((impl_within.f x930004 0 (wrap64 ((t932.length : Int) - x930003))).bind fun t936 => (impl_opCode.j2 k x0 x2 t932 (!t936) x930000 x930001 x930002 x930003 x930004)) else (impl_opCode.j2 k x0 x2 t932 true x930000 x930001 x930002 x930003 x930004)))) else (some (0, 0, 0)))
def impl_opCode.j2 : Nat → List (S90) → Int → List Int → Bool → Int → List Int → Int → Int → Int → Option (Int × Int × Int)
 | 0, _, _, _, _, _, _, _, _, _ => none
 | k + 1, x0, x2, x9, x63, x930000, x930001, x930002, x930003, x930004 => if x63 = true then (some (5, 0, 0)) else ((impl_endOf.f k x0 x2).bind fun t937 => (if x9.length < 17592186044416 then ((some (x9 ++ [t937] : List Int)).bind fun y938 => (if 0 ≤ x930003 then (if x930003 < (y938.length : Int) then (if 0 ≤ (wrap64 (x930003 + x930004)) then (if (wrap64 (x930003 + x930004)) < (y938.length : Int) then (if 0 ≤ x2 then (if x2 < (x0.length : Int) then (if 0 ≤ (rd y938 x930003) then (if (rd y938 x930003) ≤ (rd y938 (wrap64 (x930003 + x930004))) then (if (rd y938 (wrap64 (x930003 + x930004))) ≤ (x0.length : Int) then ((some ((x0.take ((rd y938 (wrap64 (x930003 + x930004))) : Int).toNat).drop ((rd y938 x930003) : Int).toNat : List (S90))).bind fun y944 => (impl_opCode.l0 k x0 (rd y938 x930003) (rd y938 (wrap64 (x930003 + x930004))) (wrap64 (((rd_T90 x0 x2).f1) + 1)) y944 (y944.length : Int) 0)) else (none)) else (none)) else (none)) else (none)) else (none)) else (none)) else (none)) else (none)) else (none))) else (none)))
def impl_opCode.l0 : Nat → List (S90) → Int → Int → Int → List (S90) → Int → Int → Option (Int × Int × Int)
 | 0, _, _, _, _, _, _, _ => none
 | k + 1, x0, x7, x8, x11, x92, x93, x94 => if x94 < x93 then (if 0 ≤ x94 then (if x94 < (x92.length : Int) then (impl_opCode.l0 k x0 x7 x8 (mx x11 (wrap64 (((rd_T90 x92 x94).f1) + 1))) x92 x93 (wrap64 (x94 + 1))) else (none)) else (none)) else (if (x0.length : Int) = 24 then (some (6, 0, 0)) else (if x11 > 12 then (some (7, 0, 0)) else (some (0, x7, x8))))
end
def impl_opCode.f (k : Nat) (l0 : List (S90)) (a1_0 : Int) (l1_1 : List Int) (a1_2 : Int) (a1_3 : Int) (a1_4 : Int) (a2 : Int) : Option (Int × Int × Int) := (impl_within.f a1_0 1 3).bind fun t930 => (if t930 = true then (if a2 < 0 then (some (2, 0, 0)) else (if a1_0 = 2 then (impl_opCode.j0 k l0 a2 false a1_0 l1_1 a1_2 a1_3 a1_4) else ((impl_LabelOk.f a1_2).bind fun t931 => (impl_opCode.j0 k l0 a2 (!t931) a1_0 l1_1 a1_2 a1_3 a1_4)))) else (some (1, 0, 0)))
set_option maxHeartbeats 8000000 in
set_option maxRecDepth 100000 in
theorem impl_opCode.calls (k : Nat) (A0 : Option Addr) (c0 : Nat) (l0 : List (S90)) (a1_0 : Int) (A1_1 : Option Addr) (c1_1 : Nat) (l1_1 : List Int) (a1_2 : Int) (a1_3 : Int) (a1_4 : Int) (a2 : Int) (r1 : Int) (r2 : Int) (r3 : Int) (w : World) (hr0 : Kd.C k90 w A0 l0.length l0) (hc0 : l0.length ≤ c0) (hr1_1 : Kd.C (Kd.int .i64) w A1_1 l1_1.length l1_1) (hc1_1 : l1_1.length ≤ c1_1) (h : impl_opCode.f k l0 a1_0 l1_1 a1_2 a1_3 a1_4 a2 = some (r1, r2, r3)) :
  Calls Try.prog 104 #[.slice A0 l0.length c0, .agg #[.int .i64 a1_0, .slice A1_1 l1_1.length c1_1, .int .i64 a1_2, .int .i64 a1_3, .int .i64 a1_4], .int .i64 a2] w fun e w' => e = .returned (.tuple #[.int .i64 r1, .int .i64 r2, .int .i64 r3]) ∧ Below w.heap.size w w' := by
 have hu67 := Try.underlying67
 have hu90 := Try.underlying90
 have HR0 := Aside0.mk hr0
 have HC0 := Aside0.mk hc0
 clear hr0 hc0
 have HR1_1 := Aside0.mk hr1_1
 have HC1_1 := Aside0.mk hc1_1
 clear hr1_1 hc1_1
 have HB := Aside0.mk (Below.refl w.heap.size w)
 have H : ((impl_within.f a1_0 1 3).bind fun t930 => (if t930 = true then (if a2 < 0 then (some (2, 0, 0)) else (if a1_0 = 2 then (impl_opCode.j0 k l0 a2 false a1_0 l1_1 a1_2 a1_3 a1_4) else ((impl_LabelOk.f a1_2).bind fun t931 => (impl_opCode.j0 k l0 a2 (!t931) a1_0 l1_1 a1_2 a1_3 a1_4)))) else (some (1, 0, 0)))) = some (r1, r2, r3) := h
 clear h
 replace H := Option.bind_eq_some_iff.mp H
 obtain ⟨t930, A40, H⟩ := H
 try dsimp only at H
 have A4 := Aside0.mk A40
 clear A40
 by_cases c5 : t930 = true
 ·subst c5
  have H1 : (if a2 < 0 then (some (2, 0, 0)) else (if a1_0 = 2 then (impl_opCode.j0 k l0 a2 false a1_0 l1_1 a1_2 a1_3 a1_4) else ((impl_LabelOk.f a1_2).bind fun t931 => (impl_opCode.j0 k l0 a2 (!t931) a1_0 l1_1 a1_2 a1_3 a1_4)))) = some (r1, r2, r3) := by rw [if_pos rfl] at H; exact H
  clear H
  have H := H1
  clear H1
  by_cases c6 : a2 < 0
  ·rw [if_pos c6] at H
   have c6b0 : decide (a2 < 0) = true := decide_eq_true c6
   clear c6
   simp only [Option.some.injEq, Prod.mk.injEq] at H
   obtain ⟨rfl, rfl, rfl⟩ := H
   go_enter Try.func104, Try.ntmps104
   go_wp2_with (first | ((with_reducible refine gate_dst (N := 4) rfl ?_); (try (refine gate_guard (by rfl) ?_; dsimp only)); refine bx_ 4 #[.int .i64 a1_0, .slice A1_1 l1_1.length c1_1, .int .i64 a1_2, .int .i64 a1_3, .int .i64 a1_4] 67 ?_; intro gb929 hg w7 hbox hb; have BK929 := Aside0.mk (hbox); have GW929 := Aside0.mk ((by rw [hg]; exact (bs_ HB) : w.heap.size ≤ gb929)); have GE929 := Aside0.mk ((by rw [hg]; exact (bs_ HB) : w.heap.size ≤ gb929)); replace HB := tB_ HB hb; clear hb hbox hg; obtain ⟨hcz8_0, hcz8_1, hcz8_2, hcz8_3, hcz8_4, hfz8_0, hfz8_1, hfz8_2, hfz8_3, hfz8_4⟩ := bk5_ BK929) | (go_at_call 117; (with_reducible refine (impl_within.calls a1_0 1 3 true _ A4.out).mono ?_); rintro e w' ⟨rfl, ⟨nd, rfl⟩⟩; (try first | exact ⟨rfl, _, World.drewN_drewN _ _ _⟩ | exact ⟨rfl, _, Eq.trans (World.drewN_drewN _ _ _) (congrArg (World.drewN _) (Nat.add_assoc _ _ _))⟩)))
   repeat (go_quiet (first | ((with_reducible refine gate_dst (N := 4) rfl ?_); (try (refine gate_guard (by rfl) ?_; dsimp only)); refine bx_ 4 #[.int .i64 a1_0, .slice A1_1 l1_1.length c1_1, .int .i64 a1_2, .int .i64 a1_3, .int .i64 a1_4] 67 ?_; intro gb929 hg w7 hbox hb; have BK929 := Aside0.mk (hbox); have GW929 := Aside0.mk ((by rw [hg]; exact (bs_ HB) : w.heap.size ≤ gb929)); have GE929 := Aside0.mk ((by rw [hg]; exact (bs_ HB) : w.heap.size ≤ gb929)); replace HB := tB_ HB hb; clear hb hbox hg; obtain ⟨hcz8_0, hcz8_1, hcz8_2, hcz8_3, hcz8_4, hfz8_0, hfz8_1, hfz8_2, hfz8_3, hfz8_4⟩ := bk5_ BK929) | (go_at_call 117; (with_reducible refine (impl_within.calls a1_0 1 3 true _ A4.out).mono ?_); rintro e w' ⟨rfl, ⟨nd, rfl⟩⟩; (try first | exact ⟨rfl, _, World.drewN_drewN _ _ _⟩ | exact ⟨rfl, _, Eq.trans (World.drewN_drewN _ _ _) (congrArg (World.drewN _) (Nat.add_assoc _ _ _))⟩))); try go_wp2_with (first | ((with_reducible refine gate_dst (N := 4) rfl ?_); (try (refine gate_guard (by rfl) ?_; dsimp only)); refine bx_ 4 #[.int .i64 a1_0, .slice A1_1 l1_1.length c1_1, .int .i64 a1_2, .int .i64 a1_3, .int .i64 a1_4] 67 ?_; intro gb929 hg w7 hbox hb; have BK929 := Aside0.mk (hbox); have GW929 := Aside0.mk ((by rw [hg]; exact (bs_ HB) : w.heap.size ≤ gb929)); have GE929 := Aside0.mk ((by rw [hg]; exact (bs_ HB) : w.heap.size ≤ gb929)); replace HB := tB_ HB hb; clear hb hbox hg; obtain ⟨hcz8_0, hcz8_1, hcz8_2, hcz8_3, hcz8_4, hfz8_0, hfz8_1, hfz8_2, hfz8_3, hfz8_4⟩ := bk5_ BK929) | (go_at_call 117; (with_reducible refine (impl_within.calls a1_0 1 3 true _ A4.out).mono ?_); rintro e w' ⟨rfl, ⟨nd, rfl⟩⟩; (try first | exact ⟨rfl, _, World.drewN_drewN _ _ _⟩ | exact ⟨rfl, _, Eq.trans (World.drewN_drewN _ _ _) (congrArg (World.drewN _) (Nat.add_assoc _ _ _))⟩))))
   go_ret3
   exact ⟨ea_, (bl_ HB).out⟩
  ·rw [if_neg c6] at H
   have c6b0 : decide (a2 < 0) = false := decide_eq_false c6
   clear c6
   have HC9 := Aside0.mk H
   clear H
   go_enter Try.func104, Try.ntmps104
   go_upto_region 5 with (first | ((with_reducible refine gate_dst (N := 4) rfl ?_); (try (refine gate_guard (by rfl) ?_; dsimp only)); refine bx_ 4 #[.int .i64 a1_0, .slice A1_1 l1_1.length c1_1, .int .i64 a1_2, .int .i64 a1_3, .int .i64 a1_4] 67 ?_; intro gb929 hg w10 hbox hb; have BK929 := Aside0.mk (hbox); have GW929 := Aside0.mk ((by rw [hg]; exact (bs_ HB) : w.heap.size ≤ gb929)); have GE929 := Aside0.mk ((by rw [hg]; exact (bs_ HB) : w.heap.size ≤ gb929)); replace HB := tB_ HB hb; clear hb hbox hg; obtain ⟨hcz11_0, hcz11_1, hcz11_2, hcz11_3, hcz11_4, hfz11_0, hfz11_1, hfz11_2, hfz11_3, hfz11_4⟩ := bk5_ BK929) | (go_at_call 117; (with_reducible refine (impl_within.calls a1_0 1 3 true _ A4.out).mono ?_); rintro e w' ⟨rfl, ⟨nd, rfl⟩⟩; (try first | exact ⟨rfl, _, World.drewN_drewN _ _ _⟩ | exact ⟨rfl, _, Eq.trans (World.drewN_drewN _ _ _) (congrArg (World.drewN _) (Nat.add_assoc _ _ _))⟩)))
   repeat (go_quiet (first | ((with_reducible refine gate_dst (N := 4) rfl ?_); (try (refine gate_guard (by rfl) ?_; dsimp only)); refine bx_ 4 #[.int .i64 a1_0, .slice A1_1 l1_1.length c1_1, .int .i64 a1_2, .int .i64 a1_3, .int .i64 a1_4] 67 ?_; intro gb929 hg w10 hbox hb; have BK929 := Aside0.mk (hbox); have GW929 := Aside0.mk ((by rw [hg]; exact (bs_ HB) : w.heap.size ≤ gb929)); have GE929 := Aside0.mk ((by rw [hg]; exact (bs_ HB) : w.heap.size ≤ gb929)); replace HB := tB_ HB hb; clear hb hbox hg; obtain ⟨hcz11_0, hcz11_1, hcz11_2, hcz11_3, hcz11_4, hfz11_0, hfz11_1, hfz11_2, hfz11_3, hfz11_4⟩ := bk5_ BK929) | (go_at_call 117; (with_reducible refine (impl_within.calls a1_0 1 3 true _ A4.out).mono ?_); rintro e w' ⟨rfl, ⟨nd, rfl⟩⟩; (try first | exact ⟨rfl, _, World.drewN_drewN _ _ _⟩ | exact ⟨rfl, _, Eq.trans (World.drewN_drewN _ _ _) (congrArg (World.drewN _) (Nat.add_assoc _ _ _))⟩))); go_upto_region 5 with (first | ((with_reducible refine gate_dst (N := 4) rfl ?_); (try (refine gate_guard (by rfl) ?_; dsimp only)); refine bx_ 4 #[.int .i64 a1_0, .slice A1_1 l1_1.length c1_1, .int .i64 a1_2, .int .i64 a1_3, .int .i64 a1_4] 67 ?_; intro gb929 hg w10 hbox hb; have BK929 := Aside0.mk (hbox); have GW929 := Aside0.mk ((by rw [hg]; exact (bs_ HB) : w.heap.size ≤ gb929)); have GE929 := Aside0.mk ((by rw [hg]; exact (bs_ HB) : w.heap.size ≤ gb929)); replace HB := tB_ HB hb; clear hb hbox hg; obtain ⟨hcz11_0, hcz11_1, hcz11_2, hcz11_3, hcz11_4, hfz11_0, hfz11_1, hfz11_2, hfz11_3, hfz11_4⟩ := bk5_ BK929) | (go_at_call 117; (with_reducible refine (impl_within.calls a1_0 1 3 true _ A4.out).mono ?_); rintro e w' ⟨rfl, ⟨nd, rfl⟩⟩; (try first | exact ⟨rfl, _, World.drewN_drewN _ _ _⟩ | exact ⟨rfl, _, Eq.trans (World.drewN_drewN _ _ _) (congrArg (World.drewN _) (Nat.add_assoc _ _ _))⟩))))
   (try simp only [Act.put, List.setIfInBounds_toArray, List.set_cons_zero, List.set_cons_succ])
   go_cut [22] (fun v22 wc => ∃ (kq : Nat) (x22_8 : Bool), v22 = .bool x22_8 ∧ Aside0 (impl_opCode.j0 kq l0 a2 x22_8 a1_0 l1_1 a1_2 a1_3 a1_4 = some (r1, r2, r3)) ∧ Aside0 (kq ≤ k) ∧ Aside0 (wc.heap[gb929]? = some (.cells #[.int .i64 a1_0, (.slice A1_1 l1_1.length c1_1), .int .i64 a1_2, .int .i64 a1_3, .int .i64 a1_4] 67 (0, 0))) ∧ Aside0 (Below w.heap.size w wc))
   case first =>
    have H := HC9.out
    clear HC9
    by_cases c12 : a1_0 = 2
    ·rw [if_pos c12] at H
     have c12b0 : (a1_0 == 2) = true := beq_iff_eq.mpr c12
     have c12b1 : (a1_0 != 2) = false := bne_eq_false_iff_eq.mpr c12
     clear c12
     (first | rw [c12b0] | (simp only [i64_w, i32_w]; rw [c12b0]) | skip)
     have H' := Aside0.mk H
     clear H
     have hcz13_0 : w10.cell? ⟨gb929, 0, none⟩ = some (.int .i64 a1_0) := (blk_cell BK929.out 0).trans rfl
     have hcz13_1 : w10.cell? ⟨gb929, 1, none⟩ = some (.slice A1_1 l1_1.length c1_1) := (blk_cell BK929.out 1).trans rfl
     have hcz13_2 : w10.cell? ⟨gb929, 2, none⟩ = some (.int .i64 a1_2) := (blk_cell BK929.out 2).trans rfl
     have hcz13_3 : w10.cell? ⟨gb929, 3, none⟩ = some (.int .i64 a1_3) := (blk_cell BK929.out 3).trans rfl
     have hcz13_4 : w10.cell? ⟨gb929, 4, none⟩ = some (.int .i64 a1_4) := (blk_cell BK929.out 4).trans rfl
     have hfz13_0 := blk_frozen BK929.out 0
     have hfz13_1 := blk_frozen BK929.out 1
     have hfz13_2 := blk_frozen BK929.out 2
     have hfz13_3 := blk_frozen BK929.out 3
     have hfz13_4 := blk_frozen BK929.out 4
     go_wp2
     repeat (go_quiet (fail); try go_wp2)
     go_meet
     case rel => exact ⟨_, (false), eb_, H', ⟨by first | omega | exact Nat.le_refl _⟩, ⟨kx_ BK929.out⟩, bl_ HB⟩
    ·rw [if_neg c12] at H
     have c12b0 : (a1_0 == 2) = false := beq_eq_false_iff_ne.mpr c12
     have c12b1 : (a1_0 != 2) = true := bne_iff_ne.mpr c12
     (first | rw [c12b0] | (simp only [i64_w, i32_w]; rw [c12b0]) | skip)
     replace H := Option.bind_eq_some_iff.mp H
     obtain ⟨t931, A140, H⟩ := H
     replace H : (impl_opCode.j0 k l0 a2 (!t931) a1_0 l1_1 a1_2 a1_3 a1_4) = some (r1, r2, r3) := H
     have A14 := Aside0.mk A140
     clear A140
     have H' := Aside0.mk H
     clear H
     have hcz15_0 : w10.cell? ⟨gb929, 0, none⟩ = some (.int .i64 a1_0) := (blk_cell BK929.out 0).trans rfl
     have hcz15_1 : w10.cell? ⟨gb929, 1, none⟩ = some (.slice A1_1 l1_1.length c1_1) := (blk_cell BK929.out 1).trans rfl
     have hcz15_2 : w10.cell? ⟨gb929, 2, none⟩ = some (.int .i64 a1_2) := (blk_cell BK929.out 2).trans rfl
     have hcz15_3 : w10.cell? ⟨gb929, 3, none⟩ = some (.int .i64 a1_3) := (blk_cell BK929.out 3).trans rfl
     have hcz15_4 : w10.cell? ⟨gb929, 4, none⟩ = some (.int .i64 a1_4) := (blk_cell BK929.out 4).trans rfl
     have hfz15_0 := blk_frozen BK929.out 0
     have hfz15_1 := blk_frozen BK929.out 1
     have hfz15_2 := blk_frozen BK929.out 2
     have hfz15_3 := blk_frozen BK929.out 3
     have hfz15_4 := blk_frozen BK929.out 4
     go_wp2_with (first | (go_at_call 128; (with_reducible refine (impl_LabelOk.calls a1_2 t931 _ A14.out).mono ?_); rintro e w' ⟨rfl, ⟨nd, rfl⟩⟩; (try first | exact ⟨rfl, _, World.drewN_drewN _ _ _⟩ | exact ⟨rfl, _, Eq.trans (World.drewN_drewN _ _ _) (congrArg (World.drewN _) (Nat.add_assoc _ _ _))⟩)))
     repeat (go_quiet (first | (go_at_call 128; (with_reducible refine (impl_LabelOk.calls a1_2 t931 _ A14.out).mono ?_); rintro e w' ⟨rfl, ⟨nd, rfl⟩⟩; (try first | exact ⟨rfl, _, World.drewN_drewN _ _ _⟩ | exact ⟨rfl, _, Eq.trans (World.drewN_drewN _ _ _) (congrArg (World.drewN _) (Nat.add_assoc _ _ _))⟩))); try go_wp2_with (first | (go_at_call 128; (with_reducible refine (impl_LabelOk.calls a1_2 t931 _ A14.out).mono ?_); rintro e w' ⟨rfl, ⟨nd, rfl⟩⟩; (try first | exact ⟨rfl, _, World.drewN_drewN _ _ _⟩ | exact ⟨rfl, _, Eq.trans (World.drewN_drewN _ _ _) (congrArg (World.drewN _) (Nat.add_assoc _ _ _))⟩))))
     go_meet
     case rel => exact ⟨_, (!t931), eb_, H', ⟨by first | omega | exact Nat.le_refl _⟩, ⟨kx_ BK929.out⟩, bl_ HB⟩
   case rest =>
    clear HC9
    try clear c1
    try clear p2
    try clear c5
    try clear c6
    try clear c6b0
    try clear c10
    try clear c12
    try clear c12b0
    try clear c12b1
    try clear hcz11_0
    try clear hcz11_1
    try clear hcz11_2
    try clear hcz11_3
    try clear hcz11_4
    try clear hcz13_0
    try clear hcz13_1
    try clear hcz13_2
    try clear hcz13_3
    try clear hcz13_4
    try clear hcz15_0
    try clear hcz15_1
    try clear hcz15_2
    try clear hcz15_3
    try clear hcz15_4
    try clear hcz8_0
    try clear hcz8_1
    try clear hcz8_2
    try clear hcz8_3
    try clear hcz8_4
    try clear hfz11_0
    try clear hfz11_1
    try clear hfz11_2
    try clear hfz11_3
    try clear hfz11_4
    try clear hfz13_0
    try clear hfz13_1
    try clear hfz13_2
    try clear hfz13_3
    try clear hfz13_4
    try clear hfz15_0
    try clear hfz15_1
    try clear hfz15_2
    try clear hfz15_3
    try clear hfz15_4
    try clear hfz8_0
    try clear hfz8_1
    try clear hfz8_2
    try clear hfz8_3
    try clear hfz8_4
    obtain ⟨kq, x22_8, rfl, HA, HJ8, BK929, HB⟩ := hcut
    cases kq with
    | zero => exact absurd HA.out (by simp [impl_opCode.j0])
    | succ kj8 =>
     have H := HA.out
     clear HA
     simp only [impl_opCode.j0] at H
     by_cases c16 : x22_8 = true
     ·subst c16
      have H1 : (some (3, 0, 0)) = some (r1, r2, r3) := by rw [if_pos rfl] at H; exact H
      clear H
      have H := H1
      clear H1
      simp only [Option.some.injEq, Prod.mk.injEq] at H
      obtain ⟨rfl, rfl, rfl⟩ := H
      go_wp2
      repeat (go_quiet (fail); try go_wp2)
      go_ret3
      exact ⟨ea_, (bl_ HB).out⟩
     ·replace c16 := Bool.eq_false_iff.mpr c16
      subst c16
      have H1 : (if a1_0 = 2 then (impl_opCode.j1 kj8 l0 a2 (a2 == 0) a1_0 l1_1 a1_2 a1_3 a1_4) else (impl_opCode.j1 kj8 l0 a2 false a1_0 l1_1 a1_2 a1_3 a1_4)) = some (r1, r2, r3) := by rw [if_neg (show ¬ (false = true) by decide)] at H; exact H
      clear H
      have H := H1
      clear H1
      have HC17 := Aside0.mk H
      clear H
      go_upto_region 7 with (fail)
      repeat (go_quiet (fail); go_upto_region 7 with (fail))
      go_cut [32] (fun v32 wc => ∃ (kq : Nat) (x32_16 : Bool), v32 = .bool x32_16 ∧ Aside0 (impl_opCode.j1 kq l0 a2 x32_16 a1_0 l1_1 a1_2 a1_3 a1_4 = some (r1, r2, r3)) ∧ Aside0 (kq ≤ kj8) ∧ Aside0 (wc.heap[gb929]? = some (.cells #[.int .i64 a1_0, (.slice A1_1 l1_1.length c1_1), .int .i64 a1_2, .int .i64 a1_3, .int .i64 a1_4] 67 (0, 0))) ∧ Aside0 (Below w.heap.size w wc))
      case first =>
       have H := HC17.out
       clear HC17
       by_cases c18 : a1_0 = 2
       ·rw [if_pos c18] at H
        have c18b0 : (a1_0 == 2) = true := beq_iff_eq.mpr c18
        have c18b1 : (a1_0 != 2) = false := bne_eq_false_iff_eq.mpr c18
        clear c18
        (first | rw [c18b0] | (simp only [i64_w, i32_w]; rw [c18b0]) | skip)
        have H' := Aside0.mk H
        clear H
        have hcz19_0 : wc.cell? ⟨gb929, 0, none⟩ = some (.int .i64 a1_0) := (blk_cell BK929.out 0).trans rfl
        have hcz19_1 : wc.cell? ⟨gb929, 1, none⟩ = some (.slice A1_1 l1_1.length c1_1) := (blk_cell BK929.out 1).trans rfl
        have hcz19_2 : wc.cell? ⟨gb929, 2, none⟩ = some (.int .i64 a1_2) := (blk_cell BK929.out 2).trans rfl
        have hcz19_3 : wc.cell? ⟨gb929, 3, none⟩ = some (.int .i64 a1_3) := (blk_cell BK929.out 3).trans rfl
        have hcz19_4 : wc.cell? ⟨gb929, 4, none⟩ = some (.int .i64 a1_4) := (blk_cell BK929.out 4).trans rfl
        have hfz19_0 := blk_frozen BK929.out 0
        have hfz19_1 := blk_frozen BK929.out 1
        have hfz19_2 := blk_frozen BK929.out 2
        have hfz19_3 := blk_frozen BK929.out 3
        have hfz19_4 := blk_frozen BK929.out 4
        go_wp2
        repeat (go_quiet (fail); try go_wp2)
        go_meet
        case rel => exact ⟨_, ((a2 == 0)), eb_, H', ⟨by have := HJ8.out; first | omega | exact Nat.le_refl _⟩, ⟨kx_ BK929.out⟩, bl_ HB⟩
       ·rw [if_neg c18] at H
        have c18b0 : (a1_0 == 2) = false := beq_eq_false_iff_ne.mpr c18
        have c18b1 : (a1_0 != 2) = true := bne_iff_ne.mpr c18
        (first | rw [c18b0] | (simp only [i64_w, i32_w]; rw [c18b0]) | skip)
        have H' := Aside0.mk H
        clear H
        have hcz20_0 : wc.cell? ⟨gb929, 0, none⟩ = some (.int .i64 a1_0) := (blk_cell BK929.out 0).trans rfl
        have hcz20_1 : wc.cell? ⟨gb929, 1, none⟩ = some (.slice A1_1 l1_1.length c1_1) := (blk_cell BK929.out 1).trans rfl
        have hcz20_2 : wc.cell? ⟨gb929, 2, none⟩ = some (.int .i64 a1_2) := (blk_cell BK929.out 2).trans rfl
        have hcz20_3 : wc.cell? ⟨gb929, 3, none⟩ = some (.int .i64 a1_3) := (blk_cell BK929.out 3).trans rfl
        have hcz20_4 : wc.cell? ⟨gb929, 4, none⟩ = some (.int .i64 a1_4) := (blk_cell BK929.out 4).trans rfl
        have hfz20_0 := blk_frozen BK929.out 0
        have hfz20_1 := blk_frozen BK929.out 1
        have hfz20_2 := blk_frozen BK929.out 2
        have hfz20_3 := blk_frozen BK929.out 3
        have hfz20_4 := blk_frozen BK929.out 4
        go_wp2
        repeat (go_quiet (fail); try go_wp2)
        go_meet
        case rel => exact ⟨_, (false), eb_, H', ⟨by have := HJ8.out; first | omega | exact Nat.le_refl _⟩, ⟨kx_ BK929.out⟩, bl_ HB⟩
      case rest =>
       clear HC17
       try clear c1
       try clear p2
       try clear c5
       try clear c6
       try clear c6b0
       try clear c10
       try clear c12
       try clear c12b0
       try clear c12b1
       try clear c16
       try clear c18
       try clear c18b0
       try clear c18b1
       try clear hcz11_0
       try clear hcz11_1
       try clear hcz11_2
       try clear hcz11_3
       try clear hcz11_4
       try clear hcz13_0
       try clear hcz13_1
       try clear hcz13_2
       try clear hcz13_3
       try clear hcz13_4
       try clear hcz15_0
       try clear hcz15_1
       try clear hcz15_2
       try clear hcz15_3
       try clear hcz15_4
       try clear hcz19_0
       try clear hcz19_1
       try clear hcz19_2
       try clear hcz19_3
       try clear hcz19_4
       try clear hcz20_0
       try clear hcz20_1
       try clear hcz20_2
       try clear hcz20_3
       try clear hcz20_4
       try clear hcz8_0
       try clear hcz8_1
       try clear hcz8_2
       try clear hcz8_3
       try clear hcz8_4
       try clear hfz11_0
       try clear hfz11_1
       try clear hfz11_2
       try clear hfz11_3
       try clear hfz11_4
       try clear hfz13_0
       try clear hfz13_1
       try clear hfz13_2
       try clear hfz13_3
       try clear hfz13_4
       try clear hfz15_0
       try clear hfz15_1
       try clear hfz15_2
       try clear hfz15_3
       try clear hfz15_4
       try clear hfz19_0
       try clear hfz19_1
       try clear hfz19_2
       try clear hfz19_3
       try clear hfz19_4
       try clear hfz20_0
       try clear hfz20_1
       try clear hfz20_2
       try clear hfz20_3
       try clear hfz20_4
       try clear hfz8_0
       try clear hfz8_1
       try clear hfz8_2
       try clear hfz8_3
       try clear hfz8_4
       try clear p2
       obtain ⟨kq, x32_16, rfl, HA, HJ16, BK929, HB⟩ := hcut
       cases kq with
       | zero => exact absurd HA.out (by simp [impl_opCode.j1])
       | succ kj16 =>
        have H := HA.out
        clear HA
        simp only [impl_opCode.j1] at H
        by_cases c21 : x32_16 = true
        ·subst c21
         have H1 : (some (4, 0, 0)) = some (r1, r2, r3) := by rw [if_pos rfl] at H; exact H
         clear H
         have H := H1
         clear H1
         simp only [Option.some.injEq, Prod.mk.injEq] at H
         obtain ⟨rfl, rfl, rfl⟩ := H
         go_wp2
         repeat (go_quiet (fail); try go_wp2)
         go_ret3
         exact ⟨ea_, (bl_ HB).out⟩
        ·replace c21 := Bool.eq_false_iff.mpr c21
         subst c21
         have H1 : (if a1_0 = 3 then ((impl_KidsOf.f kj16 l0 a2).bind fun t932 => ((impl_within.f a1_3 0 (t932.length : Int)).bind fun t935 => (if t935 = true then ((impl_within.f a1_4 0 (wrap64 ((t932.length : Int) - a1_3))).bind fun t936 => (impl_opCode.j2 kj16 l0 a2 t932 (!t936) a1_0 l1_1 a1_2 a1_3 a1_4)) else (impl_opCode.j2 kj16 l0 a2 t932 true a1_0 l1_1 a1_2 a1_3 a1_4)))) else (some (0, 0, 0))) = some (r1, r2, r3) := by rw [if_neg (show ¬ (false = true) by decide)] at H; exact H
         clear H
         have H := H1
         clear H1
         by_cases c22 : a1_0 = 3
         ·rw [if_pos c22] at H
          have c22b0 : (a1_0 == 3) = true := beq_iff_eq.mpr c22
          have c22b1 : (a1_0 != 3) = false := bne_eq_false_iff_eq.mpr c22
          clear c22
          replace H := Option.bind_eq_some_iff.mp H
          obtain ⟨t932, A230, H⟩ := H
          try dsimp only at H
          have A23 := Aside0.mk A230
          clear A230
          have HC24 := Aside0.mk H
          clear H
          have hcz25_0 : wc.cell? ⟨gb929, 0, none⟩ = some (.int .i64 a1_0) := (blk_cell BK929.out 0).trans rfl
          have hcz25_1 : wc.cell? ⟨gb929, 1, none⟩ = some (.slice A1_1 l1_1.length c1_1) := (blk_cell BK929.out 1).trans rfl
          have hcz25_2 : wc.cell? ⟨gb929, 2, none⟩ = some (.int .i64 a1_2) := (blk_cell BK929.out 2).trans rfl
          have hcz25_3 : wc.cell? ⟨gb929, 3, none⟩ = some (.int .i64 a1_3) := (blk_cell BK929.out 3).trans rfl
          have hcz25_4 : wc.cell? ⟨gb929, 4, none⟩ = some (.int .i64 a1_4) := (blk_cell BK929.out 4).trans rfl
          have hfz25_0 := blk_frozen BK929.out 0
          have hfz25_1 := blk_frozen BK929.out 1
          have hfz25_2 := blk_frozen BK929.out 2
          have hfz25_3 := blk_frozen BK929.out 3
          have hfz25_4 := blk_frozen BK929.out 4
          go_upto_region 12 with (first | (go_at_call 122; (with_reducible refine (impl_KidsOf.calls kj16 _ _ l0 a2 t932 _ (cx_ HR0 HB) HC0.out A23.out).mono ?_); rintro e w26 ⟨v933, rfl, ho0, hb⟩; have HO934 := Aside0.mk (Kd.R_lower ho0 (bs_ HB)); replace BK929 := tK_ BK929 hb; replace HB := tB_ HB hb; (try clear hb); (try clear ho0)))
          repeat (go_quiet (first | (go_at_call 122; (with_reducible refine (impl_KidsOf.calls kj16 _ _ l0 a2 t932 _ (cx_ HR0 HB) HC0.out A23.out).mono ?_); rintro e w26 ⟨v933, rfl, ho0, hb⟩; have HO934 := Aside0.mk (Kd.R_lower ho0 (bs_ HB)); replace BK929 := tK_ BK929 hb; replace HB := tB_ HB hb; (try clear hb); (try clear ho0))); go_upto_region 12 with (first | (go_at_call 122; (with_reducible refine (impl_KidsOf.calls kj16 _ _ l0 a2 t932 _ (cx_ HR0 HB) HC0.out A23.out).mono ?_); rintro e w26 ⟨v933, rfl, ho0, hb⟩; have HO934 := Aside0.mk (Kd.R_lower ho0 (bs_ HB)); replace BK929 := tK_ BK929 hb; replace HB := tB_ HB hb; (try clear hb); (try clear ho0))))
          (try simp only [Act.put, List.setIfInBounds_toArray, List.set_cons_zero, List.set_cons_succ])
          go_cut [63] (fun v63 wc => ∃ (kq : Nat) (x63_23 : Bool), v63 = .bool x63_23 ∧ Aside0 (impl_opCode.j2 kq l0 a2 t932 x63_23 a1_0 l1_1 a1_2 a1_3 a1_4 = some (r1, r2, r3)) ∧ Aside0 (kq ≤ kj16) ∧ Aside0 (Kd.R (Kd.int .i64) 3 wc w.heap.size (fun _ => True) v933 t932) ∧ Aside0 (wc.heap[gb929]? = some (.cells #[.int .i64 a1_0, (.slice A1_1 l1_1.length c1_1), .int .i64 a1_2, .int .i64 a1_3, .int .i64 a1_4] 67 (0, 0))) ∧ Aside0 (Below w.heap.size w wc))
          case first =>
           have H := HC24.out
           clear HC24
           replace H := Option.bind_eq_some_iff.mp H
           obtain ⟨t935, A270, H⟩ := H
           try dsimp only at H
           have A27 := Aside0.mk A270
           clear A270
           by_cases c28 : t935 = true
           ·subst c28
            have H1 : ((impl_within.f a1_4 0 (wrap64 ((t932.length : Int) - a1_3))).bind fun t936 => (impl_opCode.j2 kj16 l0 a2 t932 (!t936) a1_0 l1_1 a1_2 a1_3 a1_4)) = some (r1, r2, r3) := by rw [if_pos rfl] at H; exact H
            clear H
            have H := H1
            clear H1
            replace H := Option.bind_eq_some_iff.mp H
            obtain ⟨t936, A290, H⟩ := H
            replace H : (impl_opCode.j2 kj16 l0 a2 t932 (!t936) a1_0 l1_1 a1_2 a1_3 a1_4) = some (r1, r2, r3) := H
            have A29 := Aside0.mk A290
            clear A290
            have H' := Aside0.mk H
            clear H
            have hcz30_0 : w26.cell? ⟨gb929, 0, none⟩ = some (.int .i64 a1_0) := (blk_cell BK929.out 0).trans rfl
            have hcz30_1 : w26.cell? ⟨gb929, 1, none⟩ = some (.slice A1_1 l1_1.length c1_1) := (blk_cell BK929.out 1).trans rfl
            have hcz30_2 : w26.cell? ⟨gb929, 2, none⟩ = some (.int .i64 a1_2) := (blk_cell BK929.out 2).trans rfl
            have hcz30_3 : w26.cell? ⟨gb929, 3, none⟩ = some (.int .i64 a1_3) := (blk_cell BK929.out 3).trans rfl
            have hcz30_4 : w26.cell? ⟨gb929, 4, none⟩ = some (.int .i64 a1_4) := (blk_cell BK929.out 4).trans rfl
            have hfz30_0 := blk_frozen BK929.out 0
            have hfz30_1 := blk_frozen BK929.out 1
            have hfz30_2 := blk_frozen BK929.out 2
            have hfz30_3 := blk_frozen BK929.out 3
            have hfz30_4 := blk_frozen BK929.out 4
            obtain ⟨Ao31, co31, eo31⟩ := Kd.R_slice HO934.out
            subst eo31
            go_wp2_with (first | (go_at_call 117; (with_reducible refine (impl_within.calls a1_3 0 (t932.length : Int) true _ A27.out).mono ?_); rintro e w' ⟨rfl, ⟨nd, rfl⟩⟩; (try first | exact ⟨rfl, _, World.drewN_drewN _ _ _⟩ | exact ⟨rfl, _, Eq.trans (World.drewN_drewN _ _ _) (congrArg (World.drewN _) (Nat.add_assoc _ _ _))⟩)) | (go_at_call 117; (with_reducible refine (impl_within.calls a1_4 0 (wrap64 ((t932.length : Int) - a1_3)) t936 _ A29.out).mono ?_); rintro e w' ⟨rfl, ⟨nd, rfl⟩⟩; (try first | exact ⟨rfl, _, World.drewN_drewN _ _ _⟩ | exact ⟨rfl, _, Eq.trans (World.drewN_drewN _ _ _) (congrArg (World.drewN _) (Nat.add_assoc _ _ _))⟩)))
            repeat (go_quiet (first | (go_at_call 117; (with_reducible refine (impl_within.calls a1_3 0 (t932.length : Int) true _ A27.out).mono ?_); rintro e w' ⟨rfl, ⟨nd, rfl⟩⟩; (try first | exact ⟨rfl, _, World.drewN_drewN _ _ _⟩ | exact ⟨rfl, _, Eq.trans (World.drewN_drewN _ _ _) (congrArg (World.drewN _) (Nat.add_assoc _ _ _))⟩)) | (go_at_call 117; (with_reducible refine (impl_within.calls a1_4 0 (wrap64 ((t932.length : Int) - a1_3)) t936 _ A29.out).mono ?_); rintro e w' ⟨rfl, ⟨nd, rfl⟩⟩; (try first | exact ⟨rfl, _, World.drewN_drewN _ _ _⟩ | exact ⟨rfl, _, Eq.trans (World.drewN_drewN _ _ _) (congrArg (World.drewN _) (Nat.add_assoc _ _ _))⟩))); try go_wp2_with (first | (go_at_call 117; (with_reducible refine (impl_within.calls a1_3 0 (t932.length : Int) true _ A27.out).mono ?_); rintro e w' ⟨rfl, ⟨nd, rfl⟩⟩; (try first | exact ⟨rfl, _, World.drewN_drewN _ _ _⟩ | exact ⟨rfl, _, Eq.trans (World.drewN_drewN _ _ _) (congrArg (World.drewN _) (Nat.add_assoc _ _ _))⟩)) | (go_at_call 117; (with_reducible refine (impl_within.calls a1_4 0 (wrap64 ((t932.length : Int) - a1_3)) t936 _ A29.out).mono ?_); rintro e w' ⟨rfl, ⟨nd, rfl⟩⟩; (try first | exact ⟨rfl, _, World.drewN_drewN _ _ _⟩ | exact ⟨rfl, _, Eq.trans (World.drewN_drewN _ _ _) (congrArg (World.drewN _) (Nat.add_assoc _ _ _))⟩))))
            go_meet
            case rel => exact ⟨_, (!t936), eb_, H', ⟨by have := HJ8.out; have := HJ16.out; first | omega | exact Nat.le_refl _⟩, ⟨rx_ HO934.out⟩, ⟨kx_ BK929.out⟩, bl_ HB⟩
           ·replace c28 := Bool.eq_false_iff.mpr c28
            subst c28
            have H1 : (impl_opCode.j2 kj16 l0 a2 t932 true a1_0 l1_1 a1_2 a1_3 a1_4) = some (r1, r2, r3) := by rw [if_neg (show ¬ (false = true) by decide)] at H; exact H
            clear H
            have H := H1
            clear H1
            have H' := Aside0.mk H
            clear H
            have hcz32_0 : w26.cell? ⟨gb929, 0, none⟩ = some (.int .i64 a1_0) := (blk_cell BK929.out 0).trans rfl
            have hcz32_1 : w26.cell? ⟨gb929, 1, none⟩ = some (.slice A1_1 l1_1.length c1_1) := (blk_cell BK929.out 1).trans rfl
            have hcz32_2 : w26.cell? ⟨gb929, 2, none⟩ = some (.int .i64 a1_2) := (blk_cell BK929.out 2).trans rfl
            have hcz32_3 : w26.cell? ⟨gb929, 3, none⟩ = some (.int .i64 a1_3) := (blk_cell BK929.out 3).trans rfl
            have hcz32_4 : w26.cell? ⟨gb929, 4, none⟩ = some (.int .i64 a1_4) := (blk_cell BK929.out 4).trans rfl
            have hfz32_0 := blk_frozen BK929.out 0
            have hfz32_1 := blk_frozen BK929.out 1
            have hfz32_2 := blk_frozen BK929.out 2
            have hfz32_3 := blk_frozen BK929.out 3
            have hfz32_4 := blk_frozen BK929.out 4
            obtain ⟨Ao33, co33, eo33⟩ := Kd.R_slice HO934.out
            subst eo33
            go_wp2_with (first | (go_at_call 117; (with_reducible refine (impl_within.calls a1_3 0 (t932.length : Int) false _ A27.out).mono ?_); rintro e w' ⟨rfl, ⟨nd, rfl⟩⟩; (try first | exact ⟨rfl, _, World.drewN_drewN _ _ _⟩ | exact ⟨rfl, _, Eq.trans (World.drewN_drewN _ _ _) (congrArg (World.drewN _) (Nat.add_assoc _ _ _))⟩)))
            repeat (go_quiet (first | (go_at_call 117; (with_reducible refine (impl_within.calls a1_3 0 (t932.length : Int) false _ A27.out).mono ?_); rintro e w' ⟨rfl, ⟨nd, rfl⟩⟩; (try first | exact ⟨rfl, _, World.drewN_drewN _ _ _⟩ | exact ⟨rfl, _, Eq.trans (World.drewN_drewN _ _ _) (congrArg (World.drewN _) (Nat.add_assoc _ _ _))⟩))); try go_wp2_with (first | (go_at_call 117; (with_reducible refine (impl_within.calls a1_3 0 (t932.length : Int) false _ A27.out).mono ?_); rintro e w' ⟨rfl, ⟨nd, rfl⟩⟩; (try first | exact ⟨rfl, _, World.drewN_drewN _ _ _⟩ | exact ⟨rfl, _, Eq.trans (World.drewN_drewN _ _ _) (congrArg (World.drewN _) (Nat.add_assoc _ _ _))⟩))))
            go_meet
            case rel => exact ⟨_, (true), eb_, H', ⟨by have := HJ8.out; have := HJ16.out; first | omega | exact Nat.le_refl _⟩, ⟨rx_ HO934.out⟩, ⟨kx_ BK929.out⟩, bl_ HB⟩
          case rest =>
           clear HC24
           try clear c1
           try clear c2
           try clear p2
           try clear c5
           try clear c6
           try clear c6b0
           try clear p6
           try clear c10
           try clear c12
           try clear c12b0
           try clear c12b1
           try clear c16
           try clear c18
           try clear c18b0
           try clear c18b1
           try clear c21
           try clear c22
           try clear c22b0
           try clear c22b1
           try clear c28
           try clear hcz11_0
           try clear hcz11_1
           try clear hcz11_2
           try clear hcz11_3
           try clear hcz11_4
           try clear hcz13_0
           try clear hcz13_1
           try clear hcz13_2
           try clear hcz13_3
           try clear hcz13_4
           try clear hcz15_0
           try clear hcz15_1
           try clear hcz15_2
           try clear hcz15_3
           try clear hcz15_4
           try clear hcz19_0
           try clear hcz19_1
           try clear hcz19_2
           try clear hcz19_3
           try clear hcz19_4
           try clear hcz20_0
           try clear hcz20_1
           try clear hcz20_2
           try clear hcz20_3
           try clear hcz20_4
           try clear hcz25_0
           try clear hcz25_1
           try clear hcz25_2
           try clear hcz25_3
           try clear hcz25_4
           try clear hcz30_0
           try clear hcz30_1
           try clear hcz30_2
           try clear hcz30_3
           try clear hcz30_4
           try clear hcz32_0
           try clear hcz32_1
           try clear hcz32_2
           try clear hcz32_3
           try clear hcz32_4
           try clear hcz8_0
           try clear hcz8_1
           try clear hcz8_2
           try clear hcz8_3
           try clear hcz8_4
           try clear hfz11_0
           try clear hfz11_1
           try clear hfz11_2
           try clear hfz11_3
           try clear hfz11_4
           try clear hfz13_0
           try clear hfz13_1
           try clear hfz13_2
           try clear hfz13_3
           try clear hfz13_4
           try clear hfz15_0
           try clear hfz15_1
           try clear hfz15_2
           try clear hfz15_3
           try clear hfz15_4
           try clear hfz19_0
           try clear hfz19_1
           try clear hfz19_2
           try clear hfz19_3
           try clear hfz19_4
           try clear hfz20_0
           try clear hfz20_1
           try clear hfz20_2
           try clear hfz20_3
           try clear hfz20_4
           try clear hfz25_0
           try clear hfz25_1
           try clear hfz25_2
           try clear hfz25_3
           try clear hfz25_4
           try clear hfz30_0
           try clear hfz30_1
           try clear hfz30_2
           try clear hfz30_3
           try clear hfz30_4
           try clear hfz32_0
           try clear hfz32_1
           try clear hfz32_2
           try clear hfz32_3
           try clear hfz32_4
           try clear hfz8_0
           try clear hfz8_1
           try clear hfz8_2
           try clear hfz8_3
           try clear hfz8_4
           try clear p2
           obtain ⟨kq, x63_23, rfl, HA, HJ23, HO_9, BK929, HB⟩ := hcut
           cases kq with
           | zero => exact absurd HA.out (by simp [impl_opCode.j2])
           | succ kj23 =>
            have H := HA.out
            clear HA
            simp only [impl_opCode.j2] at H
            by_cases c34 : x63_23 = true
            ·subst c34
             have H1 : (some (5, 0, 0)) = some (r1, r2, r3) := by rw [if_pos rfl] at H; exact H
             clear H
             have H := H1
             clear H1
             simp only [Option.some.injEq, Prod.mk.injEq] at H
             obtain ⟨rfl, rfl, rfl⟩ := H
             go_wp2
             repeat (go_quiet (fail); try go_wp2)
             go_ret3
             exact ⟨ea_, (bl_ HB).out⟩
            ·replace c34 := Bool.eq_false_iff.mpr c34
             subst c34
             have H1 : ((impl_endOf.f kj23 l0 a2).bind fun t937 => (if t932.length < 17592186044416 then ((some (t932 ++ [t937] : List Int)).bind fun y938 => (if 0 ≤ a1_3 then (if a1_3 < (y938.length : Int) then (if 0 ≤ (wrap64 (a1_3 + a1_4)) then (if (wrap64 (a1_3 + a1_4)) < (y938.length : Int) then (if 0 ≤ a2 then (if a2 < (l0.length : Int) then (if 0 ≤ (rd y938 a1_3) then (if (rd y938 a1_3) ≤ (rd y938 (wrap64 (a1_3 + a1_4))) then (if (rd y938 (wrap64 (a1_3 + a1_4))) ≤ (l0.length : Int) then ((some ((l0.take ((rd y938 (wrap64 (a1_3 + a1_4))) : Int).toNat).drop ((rd y938 a1_3) : Int).toNat : List (S90))).bind fun y944 => (impl_opCode.l0 kj23 l0 (rd y938 a1_3) (rd y938 (wrap64 (a1_3 + a1_4))) (wrap64 (((rd_T90 l0 a2).f1) + 1)) y944 (y944.length : Int) 0)) else (none)) else (none)) else (none)) else (none)) else (none)) else (none)) else (none)) else (none)) else (none))) else (none))) = some (r1, r2, r3) := by rw [if_neg (show ¬ (false = true) by decide)] at H; exact H
             clear H
             have H := H1
             clear H1
             replace H := Option.bind_eq_some_iff.mp H
             obtain ⟨t937, A350, H⟩ := H
             try dsimp only at H
             have A35 := Aside0.mk A350
             clear A350
             by_cases c36 : t932.length < 17592186044416
             ·rw [if_pos c36] at H
              have LMc36 := Aside0.mk c36
              clear c36
              obtain ⟨y938, hy938⟩ : ∃ y_ : List Int, y_ = (t932 ++ [t937]) := ⟨_, rfl⟩
              replace H : (if 0 ≤ a1_3 then (if a1_3 < (y938.length : Int) then (if 0 ≤ (wrap64 (a1_3 + a1_4)) then (if (wrap64 (a1_3 + a1_4)) < (y938.length : Int) then (if 0 ≤ a2 then (if a2 < (l0.length : Int) then (if 0 ≤ (rd y938 a1_3) then (if (rd y938 a1_3) ≤ (rd y938 (wrap64 (a1_3 + a1_4))) then (if (rd y938 (wrap64 (a1_3 + a1_4))) ≤ (l0.length : Int) then ((some ((l0.take ((rd y938 (wrap64 (a1_3 + a1_4))) : Int).toNat).drop ((rd y938 a1_3) : Int).toNat : List (S90))).bind fun y944 => (impl_opCode.l0 kj23 l0 (rd y938 a1_3) (rd y938 (wrap64 (a1_3 + a1_4))) (wrap64 (((rd_T90 l0 a2).f1) + 1)) y944 (y944.length : Int) 0)) else (none)) else (none)) else (none)) else (none)) else (none)) else (none)) else (none)) else (none)) else (none)) = some (r1, r2, r3) := by first | (rw [hy938]; with_reducible exact H) | (have H2_ := (Option.bind_some _ _).symm.trans H; rw [hy938]; with_reducible exact H2_) | (have H2_ := (Option.bind_some _ _).symm.trans H; with_reducible exact H2_) | with_reducible exact H | (rw [hy938]; exact H) | exact H
              have Ny938 := Aside0.mk hy938
              clear hy938
              by_cases c37 : 0 ≤ a1_3
              ·rw [if_pos c37] at H
               have c37b0 : decide (0 ≤ a1_3) = true := decide_eq_true c37
               clear c37
               by_cases c38 : a1_3 < (y938.length : Int)
               ·rw [if_pos c38] at H
                have c38b0 : decide (a1_3 < (y938.length : Int)) = true := decide_eq_true c38
                clear c38
                obtain ⟨ji39, hji39⟩ : ∃ j_ : Int, (wrap64 (a1_3 + a1_4)) = j_ := ⟨_, rfl⟩
                replace H : (if 0 ≤ (ji39) then (if (ji39) < (y938.length : Int) then (if 0 ≤ a2 then (if a2 < (l0.length : Int) then (if 0 ≤ (rd y938 a1_3) then (if (rd y938 a1_3) ≤ (rd y938 (ji39)) then (if (rd y938 (ji39)) ≤ (l0.length : Int) then ((some ((l0.take ((rd y938 (ji39)) : Int).toNat).drop ((rd y938 a1_3) : Int).toNat : List (S90))).bind fun y944 => (impl_opCode.l0 kj23 l0 (rd y938 a1_3) (rd y938 (ji39)) (wrap64 (((rd_T90 l0 a2).f1) + 1)) y944 (y944.length : Int) 0)) else (none)) else (none)) else (none)) else (none)) else (none)) else (none)) else (none)) = some (r1, r2, r3) := by first | (rw [hji39] at H; exact H) | (simp only [hji39] at H ⊢; exact H)
                (try rw [hji39] at A35)
                have hji39w : (IntKind.i64.wrap (a1_3 + a1_4)) = ji39 := (i64_w _).trans hji39
                by_cases c40 : 0 ≤ (ji39)
                ·rw [if_pos c40] at H
                 have c40b0 : decide (0 ≤ (ji39)) = true := decide_eq_true c40
                 clear c40
                 by_cases c41 : (ji39) < (y938.length : Int)
                 ·rw [if_pos c41] at H
                  have c41b0 : decide ((ji39) < (y938.length : Int)) = true := decide_eq_true c41
                  clear c41
                  by_cases c42 : 0 ≤ a2
                  ·rw [if_pos c42] at H
                   have c42b0 : decide (0 ≤ a2) = true := decide_eq_true c42
                   clear c42
                   by_cases c43 : a2 < (l0.length : Int)
                   ·rw [if_pos c43] at H
                    have c43b0 : decide (a2 < (l0.length : Int)) = true := decide_eq_true c43
                    clear c43
                    by_cases c44 : 0 ≤ (rd y938 a1_3)
                    ·rw [if_pos c44] at H
                     have c44b0 := eq_true c44
                     have c44b1 : decide (0 ≤ (rd y938 a1_3)) = true := decide_eq_true c44
                     clear c44
                     by_cases c45 : (rd y938 a1_3) ≤ (rd y938 (ji39))
                     ·rw [if_pos c45] at H
                      have c45b0 := eq_true c45
                      have c45b1 : decide ((rd y938 a1_3) ≤ (rd y938 (ji39))) = true := decide_eq_true c45
                      clear c45
                      by_cases c46 : (rd y938 (ji39)) ≤ (l0.length : Int)
                      ·rw [if_pos c46] at H
                       have c46b0 := eq_true c46
                       have c46b1 : decide ((rd y938 (ji39)) ≤ (l0.length : Int)) = true := decide_eq_true c46
                       clear c46
                       obtain ⟨y944, hy944⟩ : ∃ y_ : List (S90), y_ = ((l0.take ((rd y938 (ji39)) : Int).toNat).drop ((rd y938 a1_3) : Int).toNat) := ⟨_, rfl⟩
                       replace H : (impl_opCode.l0 kj23 l0 (rd y938 a1_3) (rd y938 (ji39)) (wrap64 (((rd_T90 l0 a2).f1) + 1)) y944 (y944.length : Int) 0) = some (r1, r2, r3) := by first | (rw [hy944]; with_reducible exact H) | (have H2_ := (Option.bind_some _ _).symm.trans H; rw [hy944]; with_reducible exact H2_) | (have H2_ := (Option.bind_some _ _).symm.trans H; with_reducible exact H2_) | with_reducible exact H | (rw [hy944]; exact H) | exact H
                       have Ny944 := Aside0.mk hy944
                       clear hy944
                       have H' := Aside0.mk H
                       clear H
                       go_wp2_with (first | (go_at_call 105; (with_reducible refine (impl_endOf.calls kj23 _ _ l0 a2 t937 _ (cx_ HR0 HB) HC0.out A35.out).mono ?_); rintro e w' ⟨rfl, ⟨nd, rfl⟩⟩; (try first | exact ⟨rfl, _, World.drewN_drewN _ _ _⟩ | exact ⟨rfl, _, Eq.trans (World.drewN_drewN _ _ _) (congrArg (World.drewN _) (Nat.add_assoc _ _ _))⟩)) | ((with_reducible refine gate_builtin (b := .append) (xs := #[.tmp 64, .tmp 68]) rfl ?_); (try (refine gate_guard (by rfl) ?_; dsimp only)); at_builtin; refine Kd.R_append (Kd.int .i64) (w0 := w) w.heap.size rfl (.tmp 64) (.tmp 68) 39 3 (.int .i64 0) 8 rfl Try.underlying39 info3 rfl (by decide) (by omega) v933 t932 t937 [.int .i64 t937] (fun _ => True) (fun _ => False) rfl rfl ?aP (fun _ hk => hk.elim) ?aF ?aO ?aB ?aS ?aL ?_; (case aP => exact rfl); (case aB => exact ((bl_ HB).out)); (case aF => exact (fun _ _ => trivial)); (case aO => exact (rx_ HO_9.out)); (case aS => exact (bs_ HB)); (case aL => have := LMc36.out; omega); intro v939 w47 ho hb hg hat; rw [← Ny938.out] at ho; replace BK929 := Aside0.mk (blk_grown (g := gb929) (o := .cells #[.int .i64 a1_0, .slice A1_1 l1_1.length c1_1, .int .i64 a1_2, .int .i64 a1_3, .int .i64 a1_4] 67 (0, 0)) (kx_ BK929.out) hg (Kd.R_ne HO_9.out BK929.out (by decide))); replace HB := Aside0.mk (hb); have HO940 := Aside0.mk (ho); clear HO_9; clear ho hb hg hat; obtain ⟨hcz48_0, hcz48_1, hcz48_2, hcz48_3, hcz48_4, hfz48_0, hfz48_1, hfz48_2, hfz48_3, hfz48_4⟩ := bk5_ BK929; obtain ⟨Ao49, co49, eo49⟩ := Kd.R_slice HO940.out; subst eo49; have p941 : 0 ≤ (a1_3 : Int) := od_; have q941 : a1_3 < (y938.length : Int) := od_; obtain ⟨ad941, e941, hx941_0⟩ := Kd.at_int (Kd.R_reads' HO940.out).2.2 a1_3 p941 q941; cases e941; replace p941 := eq_true p941; replace q941 := eq_true q941; have p942 : 0 ≤ ((ji39) : Int) := od_; have q942 : (ji39) < (y938.length : Int) := od_; obtain ⟨ad942, e942, hx942_0⟩ := Kd.at_int (Kd.R_reads' HO940.out).2.2 (ji39) p942 q942; obtain rfl : ad941 = ad942 := (by injection e942); replace p942 := eq_true p942; replace q942 := eq_true q942; have p943 : 0 ≤ (a2 : Int) := od_; have q943 : a2 < (l0.length : Int) := od_; obtain ⟨ad943, e943, hx943_0, hx943_1⟩ := at_T90 HR0.out a2 p943 q943; cases e943; replace hx943_0 := ce_ HB hx943_0; replace hx943_1 := ce_ HB hx943_1; replace p943 := eq_true p943; replace q943 := eq_true q943; have q50 : ((rd y938 (ji39)) : Int) ≤ ((l0.length : Int) : Int) := od_; obtain ⟨i050, hi050, _, hsz50, _⟩ := info_parts info90; have hroom50 : l0.length ≤ c0 := HC0.out; have hC50 : Kd.C k90 _ (some ad943) l0.length l0 := HR0.out; have ql50 : ((rd y938 a1_3) : Int) ≤ ((rd y938 (ji39)) : Int) := od_; have q050 : (0 : Int) ≤ ((rd y938 a1_3) : Int) := od_; have hcut50 := cut_mid (P := Try.prog) 34 90 .i64 .i64 Try.underlying34 hi050 2 hsz50 (some ad943) l0.length c0 (rd y938 a1_3) (rd y938 (ji39)) q050 ql50 q50 hroom50; have hr50 := Kd.C_mid (lo := ((rd y938 a1_3) : Int).toNat) (hi := ((rd y938 (ji39)) : Int).toNat) (c := c0) hC50 (by omega) (by omega) hroom50; obtain ⟨A50, hA50⟩ : ∃ A1, A1 = (if c0 = ((rd y938 a1_3) : Int).toNat then (some ad943) else ((some ad943) : Option Addr).map (·.add (((rd y938 a1_3) : Int).toNat * 2))) := ⟨_, rfl⟩; obtain ⟨c50, hc50⟩ : ∃ c1, c1 = c0 - ((rd y938 a1_3) : Int).toNat := ⟨_, rfl⟩; have hy50 : y944.length = ((rd y938 (ji39)) : Int).toNat - ((rd y938 a1_3) : Int).toNat := (by rw [Ny944.out, List.length_drop, List.length_take] <;> omega); rw [show ((l0).take ((rd y938 (ji39)) : Int).toNat).drop ((rd y938 a1_3) : Int).toNat = y944 from Ny944.out.symm] at hr50; replace hr50 : Kd.C k90 _ A50 y944.length y944 := (by rw [hA50]; exact hr50); rw [← hy50, ← hA50, ← hc50] at hcut50; have HR947 := Aside0.mk hr50; have HC947 := Aside0.mk (show y944.length ≤ c50 from by rw [hy50, hc50]; exact Nat.sub_le_sub_right (Nat.le_trans (by omega) hroom50) _); clear hr50 hC50 hroom50 hi050 hsz50 hc50; have KY50 := Aside0.mk hy50; have KA50 := Aside0.mk hA50; clear hy50 hA50; replace q50 := eq_true q50))
                       repeat (go_quiet (first | (go_at_call 105; (with_reducible refine (impl_endOf.calls kj23 _ _ l0 a2 t937 _ (cx_ HR0 HB) HC0.out A35.out).mono ?_); rintro e w' ⟨rfl, ⟨nd, rfl⟩⟩; (try first | exact ⟨rfl, _, World.drewN_drewN _ _ _⟩ | exact ⟨rfl, _, Eq.trans (World.drewN_drewN _ _ _) (congrArg (World.drewN _) (Nat.add_assoc _ _ _))⟩)) | ((with_reducible refine gate_builtin (b := .append) (xs := #[.tmp 64, .tmp 68]) rfl ?_); (try (refine gate_guard (by rfl) ?_; dsimp only)); at_builtin; refine Kd.R_append (Kd.int .i64) (w0 := w) w.heap.size rfl (.tmp 64) (.tmp 68) 39 3 (.int .i64 0) 8 rfl Try.underlying39 info3 rfl (by decide) (by omega) v933 t932 t937 [.int .i64 t937] (fun _ => True) (fun _ => False) rfl rfl ?aP (fun _ hk => hk.elim) ?aF ?aO ?aB ?aS ?aL ?_; (case aP => exact rfl); (case aB => exact ((bl_ HB).out)); (case aF => exact (fun _ _ => trivial)); (case aO => exact (rx_ HO_9.out)); (case aS => exact (bs_ HB)); (case aL => have := LMc36.out; omega); intro v939 w47 ho hb hg hat; rw [← Ny938.out] at ho; replace BK929 := Aside0.mk (blk_grown (g := gb929) (o := .cells #[.int .i64 a1_0, .slice A1_1 l1_1.length c1_1, .int .i64 a1_2, .int .i64 a1_3, .int .i64 a1_4] 67 (0, 0)) (kx_ BK929.out) hg (Kd.R_ne HO_9.out BK929.out (by decide))); replace HB := Aside0.mk (hb); have HO940 := Aside0.mk (ho); clear HO_9; clear ho hb hg hat; obtain ⟨hcz48_0, hcz48_1, hcz48_2, hcz48_3, hcz48_4, hfz48_0, hfz48_1, hfz48_2, hfz48_3, hfz48_4⟩ := bk5_ BK929; obtain ⟨Ao49, co49, eo49⟩ := Kd.R_slice HO940.out; subst eo49; have p941 : 0 ≤ (a1_3 : Int) := od_; have q941 : a1_3 < (y938.length : Int) := od_; obtain ⟨ad941, e941, hx941_0⟩ := Kd.at_int (Kd.R_reads' HO940.out).2.2 a1_3 p941 q941; cases e941; replace p941 := eq_true p941; replace q941 := eq_true q941; have p942 : 0 ≤ ((ji39) : Int) := od_; have q942 : (ji39) < (y938.length : Int) := od_; obtain ⟨ad942, e942, hx942_0⟩ := Kd.at_int (Kd.R_reads' HO940.out).2.2 (ji39) p942 q942; obtain rfl : ad941 = ad942 := (by injection e942); replace p942 := eq_true p942; replace q942 := eq_true q942; have p943 : 0 ≤ (a2 : Int) := od_; have q943 : a2 < (l0.length : Int) := od_; obtain ⟨ad943, e943, hx943_0, hx943_1⟩ := at_T90 HR0.out a2 p943 q943; cases e943; replace hx943_0 := ce_ HB hx943_0; replace hx943_1 := ce_ HB hx943_1; replace p943 := eq_true p943; replace q943 := eq_true q943; have q50 : ((rd y938 (ji39)) : Int) ≤ ((l0.length : Int) : Int) := od_; obtain ⟨i050, hi050, _, hsz50, _⟩ := info_parts info90; have hroom50 : l0.length ≤ c0 := HC0.out; have hC50 : Kd.C k90 _ (some ad943) l0.length l0 := HR0.out; have ql50 : ((rd y938 a1_3) : Int) ≤ ((rd y938 (ji39)) : Int) := od_; have q050 : (0 : Int) ≤ ((rd y938 a1_3) : Int) := od_; have hcut50 := cut_mid (P := Try.prog) 34 90 .i64 .i64 Try.underlying34 hi050 2 hsz50 (some ad943) l0.length c0 (rd y938 a1_3) (rd y938 (ji39)) q050 ql50 q50 hroom50; have hr50 := Kd.C_mid (lo := ((rd y938 a1_3) : Int).toNat) (hi := ((rd y938 (ji39)) : Int).toNat) (c := c0) hC50 (by omega) (by omega) hroom50; obtain ⟨A50, hA50⟩ : ∃ A1, A1 = (if c0 = ((rd y938 a1_3) : Int).toNat then (some ad943) else ((some ad943) : Option Addr).map (·.add (((rd y938 a1_3) : Int).toNat * 2))) := ⟨_, rfl⟩; obtain ⟨c50, hc50⟩ : ∃ c1, c1 = c0 - ((rd y938 a1_3) : Int).toNat := ⟨_, rfl⟩; have hy50 : y944.length = ((rd y938 (ji39)) : Int).toNat - ((rd y938 a1_3) : Int).toNat := (by rw [Ny944.out, List.length_drop, List.length_take] <;> omega); rw [show ((l0).take ((rd y938 (ji39)) : Int).toNat).drop ((rd y938 a1_3) : Int).toNat = y944 from Ny944.out.symm] at hr50; replace hr50 : Kd.C k90 _ A50 y944.length y944 := (by rw [hA50]; exact hr50); rw [← hy50, ← hA50, ← hc50] at hcut50; have HR947 := Aside0.mk hr50; have HC947 := Aside0.mk (show y944.length ≤ c50 from by rw [hy50, hc50]; exact Nat.sub_le_sub_right (Nat.le_trans (by omega) hroom50) _); clear hr50 hC50 hroom50 hi050 hsz50 hc50; have KY50 := Aside0.mk hy50; have KA50 := Aside0.mk hA50; clear hy50 hA50; replace q50 := eq_true q50)); try go_wp2_with (first | (go_at_call 105; (with_reducible refine (impl_endOf.calls kj23 _ _ l0 a2 t937 _ (cx_ HR0 HB) HC0.out A35.out).mono ?_); rintro e w' ⟨rfl, ⟨nd, rfl⟩⟩; (try first | exact ⟨rfl, _, World.drewN_drewN _ _ _⟩ | exact ⟨rfl, _, Eq.trans (World.drewN_drewN _ _ _) (congrArg (World.drewN _) (Nat.add_assoc _ _ _))⟩)) | ((with_reducible refine gate_builtin (b := .append) (xs := #[.tmp 64, .tmp 68]) rfl ?_); (try (refine gate_guard (by rfl) ?_; dsimp only)); at_builtin; refine Kd.R_append (Kd.int .i64) (w0 := w) w.heap.size rfl (.tmp 64) (.tmp 68) 39 3 (.int .i64 0) 8 rfl Try.underlying39 info3 rfl (by decide) (by omega) v933 t932 t937 [.int .i64 t937] (fun _ => True) (fun _ => False) rfl rfl ?aP (fun _ hk => hk.elim) ?aF ?aO ?aB ?aS ?aL ?_; (case aP => exact rfl); (case aB => exact ((bl_ HB).out)); (case aF => exact (fun _ _ => trivial)); (case aO => exact (rx_ HO_9.out)); (case aS => exact (bs_ HB)); (case aL => have := LMc36.out; omega); intro v939 w47 ho hb hg hat; rw [← Ny938.out] at ho; replace BK929 := Aside0.mk (blk_grown (g := gb929) (o := .cells #[.int .i64 a1_0, .slice A1_1 l1_1.length c1_1, .int .i64 a1_2, .int .i64 a1_3, .int .i64 a1_4] 67 (0, 0)) (kx_ BK929.out) hg (Kd.R_ne HO_9.out BK929.out (by decide))); replace HB := Aside0.mk (hb); have HO940 := Aside0.mk (ho); clear HO_9; clear ho hb hg hat; obtain ⟨hcz48_0, hcz48_1, hcz48_2, hcz48_3, hcz48_4, hfz48_0, hfz48_1, hfz48_2, hfz48_3, hfz48_4⟩ := bk5_ BK929; obtain ⟨Ao49, co49, eo49⟩ := Kd.R_slice HO940.out; subst eo49; have p941 : 0 ≤ (a1_3 : Int) := od_; have q941 : a1_3 < (y938.length : Int) := od_; obtain ⟨ad941, e941, hx941_0⟩ := Kd.at_int (Kd.R_reads' HO940.out).2.2 a1_3 p941 q941; cases e941; replace p941 := eq_true p941; replace q941 := eq_true q941; have p942 : 0 ≤ ((ji39) : Int) := od_; have q942 : (ji39) < (y938.length : Int) := od_; obtain ⟨ad942, e942, hx942_0⟩ := Kd.at_int (Kd.R_reads' HO940.out).2.2 (ji39) p942 q942; obtain rfl : ad941 = ad942 := (by injection e942); replace p942 := eq_true p942; replace q942 := eq_true q942; have p943 : 0 ≤ (a2 : Int) := od_; have q943 : a2 < (l0.length : Int) := od_; obtain ⟨ad943, e943, hx943_0, hx943_1⟩ := at_T90 HR0.out a2 p943 q943; cases e943; replace hx943_0 := ce_ HB hx943_0; replace hx943_1 := ce_ HB hx943_1; replace p943 := eq_true p943; replace q943 := eq_true q943; have q50 : ((rd y938 (ji39)) : Int) ≤ ((l0.length : Int) : Int) := od_; obtain ⟨i050, hi050, _, hsz50, _⟩ := info_parts info90; have hroom50 : l0.length ≤ c0 := HC0.out; have hC50 : Kd.C k90 _ (some ad943) l0.length l0 := HR0.out; have ql50 : ((rd y938 a1_3) : Int) ≤ ((rd y938 (ji39)) : Int) := od_; have q050 : (0 : Int) ≤ ((rd y938 a1_3) : Int) := od_; have hcut50 := cut_mid (P := Try.prog) 34 90 .i64 .i64 Try.underlying34 hi050 2 hsz50 (some ad943) l0.length c0 (rd y938 a1_3) (rd y938 (ji39)) q050 ql50 q50 hroom50; have hr50 := Kd.C_mid (lo := ((rd y938 a1_3) : Int).toNat) (hi := ((rd y938 (ji39)) : Int).toNat) (c := c0) hC50 (by omega) (by omega) hroom50; obtain ⟨A50, hA50⟩ : ∃ A1, A1 = (if c0 = ((rd y938 a1_3) : Int).toNat then (some ad943) else ((some ad943) : Option Addr).map (·.add (((rd y938 a1_3) : Int).toNat * 2))) := ⟨_, rfl⟩; obtain ⟨c50, hc50⟩ : ∃ c1, c1 = c0 - ((rd y938 a1_3) : Int).toNat := ⟨_, rfl⟩; have hy50 : y944.length = ((rd y938 (ji39)) : Int).toNat - ((rd y938 a1_3) : Int).toNat := (by rw [Ny944.out, List.length_drop, List.length_take] <;> omega); rw [show ((l0).take ((rd y938 (ji39)) : Int).toNat).drop ((rd y938 a1_3) : Int).toNat = y944 from Ny944.out.symm] at hr50; replace hr50 : Kd.C k90 _ A50 y944.length y944 := (by rw [hA50]; exact hr50); rw [← hy50, ← hA50, ← hc50] at hcut50; have HR947 := Aside0.mk hr50; have HC947 := Aside0.mk (show y944.length ≤ c50 from by rw [hy50, hc50]; exact Nat.sub_le_sub_right (Nat.le_trans (by omega) hroom50) _); clear hr50 hC50 hroom50 hi050 hsz50 hc50; have KY50 := Aside0.mk hy50; have KA50 := Aside0.mk hA50; clear hy50 hA50; replace q50 := eq_true q50)))
                       go_loopg [11, 94] kj23 (fun kq v11 v94 w' => ∃ (x11_4 : Int) (x94_4 : Int), v11 = .int .i64 x11_4 ∧ v94 = .int .i64 x94_4 ∧ Aside0 (impl_opCode.l0 kq l0 (rd y938 a1_3) (rd y938 (ji39)) x11_4 y944 (y944.length : Int) x94_4 = some (r1, r2, r3)) ∧ Aside0 (kq ≤ kj23) ∧ Aside0 (w'.heap[gb929]? = some (.cells #[.int .i64 a1_0, (.slice A1_1 l1_1.length c1_1), .int .i64 a1_2, .int .i64 a1_3, .int .i64 a1_4] 67 (0, 0))) ∧ Aside0 (Below w.heap.size w w'))
                       case atStart => exact ⟨(wrap64 (((rd_T90 l0 a2).f1) + 1)), (0), eb_, eb_, H', ⟨Nat.le_refl _⟩, ⟨kx_ BK929.out⟩, bl_ HB⟩
                       case round =>
                        clear H'
                        try clear c1
                        try clear c2
                        try clear p2
                        try clear c3
                        try clear c4
                        try clear c5
                        try clear q5
                        try clear c6
                        try clear c6b0
                        try clear p6
                        try clear p9
                        try clear q9
                        try clear hx9
                        try clear c10
                        try clear c12
                        try clear c12b0
                        try clear c12b1
                        try clear c16
                        try clear c18
                        try clear c18b0
                        try clear c18b1
                        try clear c21
                        try clear c22
                        try clear c22b0
                        try clear c22b1
                        try clear c28
                        try clear c34
                        try clear c36
                        try clear c37
                        try clear c37b0
                        try clear c38
                        try clear c38b0
                        try clear c40
                        try clear c40b0
                        try clear c41
                        try clear c41b0
                        try clear c42
                        try clear c42b0
                        try clear c43
                        try clear c43b0
                        try clear c44
                        try clear c44b0
                        try clear c44b1
                        try clear c45
                        try clear c45b0
                        try clear c45b1
                        try clear c46
                        try clear c46b0
                        try clear c46b1
                        try clear c50
                        try clear q50
                        try clear hcz11_0
                        try clear hcz11_1
                        try clear hcz11_2
                        try clear hcz11_3
                        try clear hcz11_4
                        try clear hcz13_0
                        try clear hcz13_1
                        try clear hcz13_2
                        try clear hcz13_3
                        try clear hcz13_4
                        try clear hcz15_0
                        try clear hcz15_1
                        try clear hcz15_2
                        try clear hcz15_3
                        try clear hcz15_4
                        try clear hcz19_0
                        try clear hcz19_1
                        try clear hcz19_2
                        try clear hcz19_3
                        try clear hcz19_4
                        try clear hcz20_0
                        try clear hcz20_1
                        try clear hcz20_2
                        try clear hcz20_3
                        try clear hcz20_4
                        try clear hcz25_0
                        try clear hcz25_1
                        try clear hcz25_2
                        try clear hcz25_3
                        try clear hcz25_4
                        try clear hcz30_0
                        try clear hcz30_1
                        try clear hcz30_2
                        try clear hcz30_3
                        try clear hcz30_4
                        try clear hcz32_0
                        try clear hcz32_1
                        try clear hcz32_2
                        try clear hcz32_3
                        try clear hcz32_4
                        try clear hcz48_0
                        try clear hcz48_1
                        try clear hcz48_2
                        try clear hcz48_3
                        try clear hcz48_4
                        try clear hcz8_0
                        try clear hcz8_1
                        try clear hcz8_2
                        try clear hcz8_3
                        try clear hcz8_4
                        try clear hfz11_0
                        try clear hfz11_1
                        try clear hfz11_2
                        try clear hfz11_3
                        try clear hfz11_4
                        try clear hfz13_0
                        try clear hfz13_1
                        try clear hfz13_2
                        try clear hfz13_3
                        try clear hfz13_4
                        try clear hfz15_0
                        try clear hfz15_1
                        try clear hfz15_2
                        try clear hfz15_3
                        try clear hfz15_4
                        try clear hfz19_0
                        try clear hfz19_1
                        try clear hfz19_2
                        try clear hfz19_3
                        try clear hfz19_4
                        try clear hfz20_0
                        try clear hfz20_1
                        try clear hfz20_2
                        try clear hfz20_3
                        try clear hfz20_4
                        try clear hfz25_0
                        try clear hfz25_1
                        try clear hfz25_2
                        try clear hfz25_3
                        try clear hfz25_4
                        try clear hfz30_0
                        try clear hfz30_1
                        try clear hfz30_2
                        try clear hfz30_3
                        try clear hfz30_4
                        try clear hfz32_0
                        try clear hfz32_1
                        try clear hfz32_2
                        try clear hfz32_3
                        try clear hfz32_4
                        try clear hfz48_0
                        try clear hfz48_1
                        try clear hfz48_2
                        try clear hfz48_3
                        try clear hfz48_4
                        try clear hfz8_0
                        try clear hfz8_1
                        try clear hfz8_2
                        try clear hfz8_3
                        try clear hfz8_4
                        try clear hx941_0
                        try clear hx942_0
                        try clear hx943_0
                        try clear hx943_1
                        try clear p2
                        try clear p6
                        try clear p941
                        try clear p942
                        try clear p943
                        try clear q050
                        try clear q50
                        try clear q941
                        try clear q942
                        try clear q943
                        obtain ⟨x11_4, x94_4, rfl, rfl, HA, HK4, BK929, HB⟩ := hrel
                        cases gk with
                        | zero => exact absurd HA.out (by simp [impl_opCode.l0])
                        | succ k4 =>
                         have H := HA.out
                         clear HA
                         simp only [impl_opCode.l0] at H
                         by_cases c51 : x94_4 < (y944.length : Int)
                         ·rw [if_pos c51] at H
                          have c51b0 : decide (x94_4 < (y944.length : Int)) = true := decide_eq_true c51
                          clear c51
                          by_cases c52 : 0 ≤ x94_4
                          ·rw [if_pos c52] at H
                           have c52b0 : decide (0 ≤ x94_4) = true := decide_eq_true c52
                           clear c52
                           by_cases c53 : x94_4 < (y944.length : Int)
                           ·rw [if_pos c53] at H
                            have c53b0 : decide (x94_4 < (y944.length : Int)) = true := decide_eq_true c53
                            clear c53
                            obtain ⟨ji54, hji54⟩ : ∃ j_ : Int, (mx x11_4 (wrap64 (((rd_T90 y944 x94_4).f1) + 1))) = j_ := ⟨_, rfl⟩
                            replace H : (impl_opCode.l0 k4 l0 (rd y938 a1_3) (rd y938 (ji39)) ji54 y944 (y944.length : Int) (wrap64 (x94_4 + 1))) = some (r1, r2, r3) := by first | (rw [hji54] at H; exact H) | (simp only [hji54] at H ⊢; exact H)
                            have hji54_ : (if x11_4 < (wrap64 (((rd_T90 y944 x94_4).f1) + 1)) then (wrap64 (((rd_T90 y944 x94_4).f1) + 1)) else x11_4) = ji54 := hji54
                            have H' := Aside0.mk H
                            clear H
                            have p948 : 0 ≤ (x94_4 : Int) := od_
                            have q948 : x94_4 < (y944.length : Int) := od_
                            obtain ⟨ad948, e948, hx948_0, hx948_1⟩ := at_T90 HR947.out x94_4 p948 q948
                            cases e948
                            replace hx948_0 := ce_ HB hx948_0
                            replace hx948_1 := ce_ HB hx948_1
                            replace p948 := eq_true p948
                            replace q948 := eq_true q948
                            go_wp2_with (first | ((with_reducible refine gate_dst (N := 13) rfl ?_); (try (refine gate_guard (by rfl) ?_; dsimp only)); refine bx_ 13 #[.int .i64 0, .int .i64 0] 90 ?_; intro gb949 hg w55 hbox hb; have BK949 := Aside0.mk (hbox); have GW949 := Aside0.mk ((by rw [hg]; exact (bs_ HB) : w.heap.size ≤ gb949)); have GE949 := Aside0.mk ((by rw [hg]; exact (bs_ HB) : w.heap.size ≤ gb949)); replace HB := tB_ HB hb; have NB929_949 := Aside0.mk ((by rw [hg]; exact Nat.ne_of_lt (blk_lt (g := gb929) (o := .cells #[.int .i64 a1_0, .slice A1_1 l1_1.length c1_1, .int .i64 a1_2, .int .i64 a1_3, .int .i64 a1_4] 67 (0, 0)) (kx_ BK929.out)) : gb929 ≠ gb949)); have NB949_929 := Aside0.mk ((by rw [hg]; exact Nat.ne_of_gt (blk_lt (g := gb929) (o := .cells #[.int .i64 a1_0, .slice A1_1 l1_1.length c1_1, .int .i64 a1_2, .int .i64 a1_3, .int .i64 a1_4] 67 (0, 0)) (kx_ BK929.out)) : gb949 ≠ gb929)); replace BK929 := tK_ BK929 hb; clear hb hbox hg; have hnb56 := NB949_929.out; have hnc56 := NB929_949.out; obtain ⟨hcz57_0, hcz57_1, hfz57_0, hfz57_1⟩ := bk2_ BK949))
                            repeat (go_quiet (first | ((with_reducible refine gate_dst (N := 13) rfl ?_); (try (refine gate_guard (by rfl) ?_; dsimp only)); refine bx_ 13 #[.int .i64 0, .int .i64 0] 90 ?_; intro gb949 hg w55 hbox hb; have BK949 := Aside0.mk (hbox); have GW949 := Aside0.mk ((by rw [hg]; exact (bs_ HB) : w.heap.size ≤ gb949)); have GE949 := Aside0.mk ((by rw [hg]; exact (bs_ HB) : w.heap.size ≤ gb949)); replace HB := tB_ HB hb; have NB929_949 := Aside0.mk ((by rw [hg]; exact Nat.ne_of_lt (blk_lt (g := gb929) (o := .cells #[.int .i64 a1_0, .slice A1_1 l1_1.length c1_1, .int .i64 a1_2, .int .i64 a1_3, .int .i64 a1_4] 67 (0, 0)) (kx_ BK929.out)) : gb929 ≠ gb949)); have NB949_929 := Aside0.mk ((by rw [hg]; exact Nat.ne_of_gt (blk_lt (g := gb929) (o := .cells #[.int .i64 a1_0, .slice A1_1 l1_1.length c1_1, .int .i64 a1_2, .int .i64 a1_3, .int .i64 a1_4] 67 (0, 0)) (kx_ BK929.out)) : gb949 ≠ gb929)); replace BK929 := tK_ BK929 hb; clear hb hbox hg; have hnb56 := NB949_929.out; have hnc56 := NB929_949.out; obtain ⟨hcz57_0, hcz57_1, hfz57_0, hfz57_1⟩ := bk2_ BK949)); try go_wp2_with (first | ((with_reducible refine gate_dst (N := 13) rfl ?_); (try (refine gate_guard (by rfl) ?_; dsimp only)); refine bx_ 13 #[.int .i64 0, .int .i64 0] 90 ?_; intro gb949 hg w55 hbox hb; have BK949 := Aside0.mk (hbox); have GW949 := Aside0.mk ((by rw [hg]; exact (bs_ HB) : w.heap.size ≤ gb949)); have GE949 := Aside0.mk ((by rw [hg]; exact (bs_ HB) : w.heap.size ≤ gb949)); replace HB := tB_ HB hb; have NB929_949 := Aside0.mk ((by rw [hg]; exact Nat.ne_of_lt (blk_lt (g := gb929) (o := .cells #[.int .i64 a1_0, .slice A1_1 l1_1.length c1_1, .int .i64 a1_2, .int .i64 a1_3, .int .i64 a1_4] 67 (0, 0)) (kx_ BK929.out)) : gb929 ≠ gb949)); have NB949_929 := Aside0.mk ((by rw [hg]; exact Nat.ne_of_gt (blk_lt (g := gb929) (o := .cells #[.int .i64 a1_0, .slice A1_1 l1_1.length c1_1, .int .i64 a1_2, .int .i64 a1_3, .int .i64 a1_4] 67 (0, 0)) (kx_ BK929.out)) : gb949 ≠ gb929)); replace BK929 := tK_ BK929 hb; clear hb hbox hg; have hnb56 := NB949_929.out; have hnc56 := NB929_949.out; obtain ⟨hcz57_0, hcz57_1, hfz57_0, hfz57_1⟩ := bk2_ BK949)))
                            go_roundg k4
                            case measure => have := HJ8.out; have := HJ16.out; have := HJ23.out; have := HK4.out; omega
                            case rel => exact ⟨(ji54), (wrap64 (x94_4 + 1)), (by first | rfl | (simp; done) | (simp only [← hji54] <;> (first | rfl | simp)) | (simp [*]; done)), (by first | rfl | (simp; done) | (simp [*]; done)), H', ⟨by have := HJ8.out; have := HJ16.out; have := HJ23.out; have := HK4.out; omega⟩, ⟨by (with_reducible repeat (first | refine blk_drewN ?_ _ | refine blk_drew ?_ | refine blk_alloc ?_ _)); refine blk_far ?_ NB929_949.out _; (with_reducible repeat (first | refine blk_drewN ?_ _ | refine blk_drew ?_ | refine blk_alloc ?_ _)); refine blk_far ?_ NB929_949.out _; (with_reducible repeat (first | refine blk_drewN ?_ _ | refine blk_drew ?_ | refine blk_alloc ?_ _)); exact BK929.out⟩, ⟨by repeat (first | (with_reducible first | exact HB.out | apply below_alloc | apply pw_below_drewN | apply below_drew1 | refine below_set ?_ GE929.out | refine below_set ?_ GE949.out) | exact HB.out)⟩⟩
                           ·rw [if_neg c53] at H
                            exact absurd H (by simp)
                          ·rw [if_neg c52] at H
                           exact absurd H (by simp)
                         ·rw [if_neg c51] at H
                          have c51b0 : decide (x94_4 < (y944.length : Int)) = false := decide_eq_false c51
                          clear c51
                          by_cases c58 : (l0.length : Int) = 24
                          ·rw [if_pos c58] at H
                           have c58b0 : ((l0.length : Int) == 24) = true := beq_iff_eq.mpr c58
                           have c58b1 : ((l0.length : Int) != 24) = false := bne_eq_false_iff_eq.mpr c58
                           clear c58
                           simp only [Option.some.injEq, Prod.mk.injEq] at H
                           obtain ⟨rfl, rfl, rfl⟩ := H
                           go_wp2
                           repeat (go_quiet (fail); try go_wp2)
                           go_ret3
                           exact ⟨by first | rfl | (simp [errW_none, errW_some] <;> rfl) | (simp only [← hji39]; first | rfl | (simp [errW_none, errW_some] <;> rfl)) | (simp [*, errW_none, errW_some] <;> rfl), (bl_ HB).out⟩
                          ·rw [if_neg c58] at H
                           have c58b0 : ((l0.length : Int) == 24) = false := beq_eq_false_iff_ne.mpr c58
                           have c58b1 : ((l0.length : Int) != 24) = true := bne_iff_ne.mpr c58
                           by_cases c59 : x11_4 > 12
                           ·rw [if_pos c59] at H
                            have c59b0 : decide (12 < x11_4) = true := decide_eq_true c59
                            clear c59
                            simp only [Option.some.injEq, Prod.mk.injEq] at H
                            obtain ⟨rfl, rfl, rfl⟩ := H
                            go_wp2
                            repeat (go_quiet (fail); try go_wp2)
                            go_ret3
                            exact ⟨by first | rfl | (simp [errW_none, errW_some] <;> rfl) | (simp only [← hji39]; first | rfl | (simp [errW_none, errW_some] <;> rfl)) | (simp [*, errW_none, errW_some] <;> rfl), (bl_ HB).out⟩
                           ·rw [if_neg c59] at H
                            have c59b0 : decide (12 < x11_4) = false := decide_eq_false c59
                            clear c59
                            simp only [Option.some.injEq, Prod.mk.injEq] at H
                            obtain ⟨rfl, rfl, rfl⟩ := H
                            go_wp2
                            repeat (go_quiet (fail); try go_wp2)
                            go_ret3
                            exact ⟨by first | rfl | (simp [errW_none, errW_some] <;> rfl) | (simp only [← hji39]; first | rfl | (simp [errW_none, errW_some] <;> rfl)) | (simp [*, errW_none, errW_some] <;> rfl), (bl_ HB).out⟩
                      ·rw [if_neg c46] at H
                       exact absurd H (by simp)
                     ·rw [if_neg c45] at H
                      exact absurd H (by simp)
                    ·rw [if_neg c44] at H
                     exact absurd H (by simp)
                   ·rw [if_neg c43] at H
                    exact absurd H (by simp)
                  ·rw [if_neg c42] at H
                   exact absurd H (by simp)
                 ·rw [if_neg c41] at H
                  exact absurd H (by simp)
                ·rw [if_neg c40] at H
                 exact absurd H (by simp)
               ·rw [if_neg c38] at H
                exact absurd H (by simp)
              ·rw [if_neg c37] at H
               exact absurd H (by simp)
             ·rw [if_neg c36] at H
              exact absurd H (by simp)
         ·rw [if_neg c22] at H
          have c22b0 : (a1_0 == 3) = false := beq_eq_false_iff_ne.mpr c22
          have c22b1 : (a1_0 != 3) = true := bne_iff_ne.mpr c22
          simp only [Option.some.injEq, Prod.mk.injEq] at H
          obtain ⟨rfl, rfl, rfl⟩ := H
          have hcz60_0 : wc.cell? ⟨gb929, 0, none⟩ = some (.int .i64 a1_0) := (blk_cell BK929.out 0).trans rfl
          have hcz60_1 : wc.cell? ⟨gb929, 1, none⟩ = some (.slice A1_1 l1_1.length c1_1) := (blk_cell BK929.out 1).trans rfl
          have hcz60_2 : wc.cell? ⟨gb929, 2, none⟩ = some (.int .i64 a1_2) := (blk_cell BK929.out 2).trans rfl
          have hcz60_3 : wc.cell? ⟨gb929, 3, none⟩ = some (.int .i64 a1_3) := (blk_cell BK929.out 3).trans rfl
          have hcz60_4 : wc.cell? ⟨gb929, 4, none⟩ = some (.int .i64 a1_4) := (blk_cell BK929.out 4).trans rfl
          have hfz60_0 := blk_frozen BK929.out 0
          have hfz60_1 := blk_frozen BK929.out 1
          have hfz60_2 := blk_frozen BK929.out 2
          have hfz60_3 := blk_frozen BK929.out 3
          have hfz60_4 := blk_frozen BK929.out 4
          go_wp2
          repeat (go_quiet (fail); try go_wp2)
          go_ret3
          exact ⟨ea_, (bl_ HB).out⟩
 ·replace c5 := Bool.eq_false_iff.mpr c5
  subst c5
  have H1 : (some (1, 0, 0)) = some (r1, r2, r3) := by rw [if_neg (show ¬ (false = true) by decide)] at H; exact H
  clear H
  have H := H1
  clear H1
  simp only [Option.some.injEq, Prod.mk.injEq] at H
  obtain ⟨rfl, rfl, rfl⟩ := H
  go_enter Try.func104, Try.ntmps104
  go_wp2_with (first | ((with_reducible refine gate_dst (N := 4) rfl ?_); (try (refine gate_guard (by rfl) ?_; dsimp only)); refine bx_ 4 #[.int .i64 a1_0, .slice A1_1 l1_1.length c1_1, .int .i64 a1_2, .int .i64 a1_3, .int .i64 a1_4] 67 ?_; intro gb929 hg w61 hbox hb; have BK929 := Aside0.mk (hbox); have GW929 := Aside0.mk ((by rw [hg]; exact (bs_ HB) : w.heap.size ≤ gb929)); have GE929 := Aside0.mk ((by rw [hg]; exact (bs_ HB) : w.heap.size ≤ gb929)); replace HB := tB_ HB hb; clear hb hbox hg; obtain ⟨hcz62_0, hcz62_1, hcz62_2, hcz62_3, hcz62_4, hfz62_0, hfz62_1, hfz62_2, hfz62_3, hfz62_4⟩ := bk5_ BK929) | (go_at_call 117; (with_reducible refine (impl_within.calls a1_0 1 3 false _ A4.out).mono ?_); rintro e w' ⟨rfl, ⟨nd, rfl⟩⟩; (try first | exact ⟨rfl, _, World.drewN_drewN _ _ _⟩ | exact ⟨rfl, _, Eq.trans (World.drewN_drewN _ _ _) (congrArg (World.drewN _) (Nat.add_assoc _ _ _))⟩)))
  repeat (go_quiet (first | ((with_reducible refine gate_dst (N := 4) rfl ?_); (try (refine gate_guard (by rfl) ?_; dsimp only)); refine bx_ 4 #[.int .i64 a1_0, .slice A1_1 l1_1.length c1_1, .int .i64 a1_2, .int .i64 a1_3, .int .i64 a1_4] 67 ?_; intro gb929 hg w61 hbox hb; have BK929 := Aside0.mk (hbox); have GW929 := Aside0.mk ((by rw [hg]; exact (bs_ HB) : w.heap.size ≤ gb929)); have GE929 := Aside0.mk ((by rw [hg]; exact (bs_ HB) : w.heap.size ≤ gb929)); replace HB := tB_ HB hb; clear hb hbox hg; obtain ⟨hcz62_0, hcz62_1, hcz62_2, hcz62_3, hcz62_4, hfz62_0, hfz62_1, hfz62_2, hfz62_3, hfz62_4⟩ := bk5_ BK929) | (go_at_call 117; (with_reducible refine (impl_within.calls a1_0 1 3 false _ A4.out).mono ?_); rintro e w' ⟨rfl, ⟨nd, rfl⟩⟩; (try first | exact ⟨rfl, _, World.drewN_drewN _ _ _⟩ | exact ⟨rfl, _, Eq.trans (World.drewN_drewN _ _ _) (congrArg (World.drewN _) (Nat.add_assoc _ _ _))⟩))); try go_wp2_with (first | ((with_reducible refine gate_dst (N := 4) rfl ?_); (try (refine gate_guard (by rfl) ?_; dsimp only)); refine bx_ 4 #[.int .i64 a1_0, .slice A1_1 l1_1.length c1_1, .int .i64 a1_2, .int .i64 a1_3, .int .i64 a1_4] 67 ?_; intro gb929 hg w61 hbox hb; have BK929 := Aside0.mk (hbox); have GW929 := Aside0.mk ((by rw [hg]; exact (bs_ HB) : w.heap.size ≤ gb929)); have GE929 := Aside0.mk ((by rw [hg]; exact (bs_ HB) : w.heap.size ≤ gb929)); replace HB := tB_ HB hb; clear hb hbox hg; obtain ⟨hcz62_0, hcz62_1, hcz62_2, hcz62_3, hcz62_4, hfz62_0, hfz62_1, hfz62_2, hfz62_3, hfz62_4⟩ := bk5_ BK929) | (go_at_call 117; (with_reducible refine (impl_within.calls a1_0 1 3 false _ A4.out).mono ?_); rintro e w' ⟨rfl, ⟨nd, rfl⟩⟩; (try first | exact ⟨rfl, _, World.drewN_drewN _ _ _⟩ | exact ⟨rfl, _, Eq.trans (World.drewN_drewN _ _ _) (congrArg (World.drewN _) (Nat.add_assoc _ _ _))⟩))))
  go_ret3
  exact ⟨ea_, (bl_ HB).out⟩
end Go.Proofs.Ytbifdckfglejkaa.X
