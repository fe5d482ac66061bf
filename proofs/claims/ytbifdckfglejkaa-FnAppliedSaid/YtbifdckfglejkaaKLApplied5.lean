/- Part 5 of the proof of FnApplied: what it needs. -/
import Derived.Test.YtbifdckfglejkaaKLApplied4
namespace Go.Proofs.Ytbifdckfglejkaa.X
open Go.RowKit Go.Proofs.YtbifdckfglejkaaW.PrintWords Go.Proofs.YtbifdckfglejkaaW.PrintLast Go.Proofs.YtbifdckfglejkaaW.PrintMore
attribute [local go_sem] max2_int min2_int max_two min_two max_three min_three max_four min_four   -- for this text's walks alone
set_option linter.unusedVariables false
set_option linter.unusedSimpArgs false
def impl_TreeOk.l0 : Nat → List (S90) → List (S90) → Int → Int → Option (Bool)
 | 0, _, _, _, _ => none
 | k + 1, x0, x9, x10, x11 => if x11 < x10 then (if 0 ≤ x11 then (if x11 < (x9.length : Int) then ((impl_LabelOk.f ((rd_T90 x9 x11).f0)).bind fun t398 => (if t398 = true then ((impl_within.f ((rd_T90 x9 x11).f1) 0 12).bind fun t399 => (if t399 = true then ((impl_depthOk.f x0 x11).bind fun t400 => (if t400 = true then (impl_TreeOk.l0 k x0 x9 x10 (wrap64 (x11 + 1))) else (some false))) else (some false))) else (some false))) else (none)) else (none)) else (some true)
def impl_TreeOk.f (k : Nat) (l0 : List (S90)) : Option (Bool) := (impl_within.f (l0.length : Int) 1 24).bind fun t395 => (if t395 = true then (impl_TreeOk.l0 k l0 l0 (l0.length : Int) 0) else (some false))
set_option maxHeartbeats 8000000 in
set_option maxRecDepth 100000 in
theorem impl_TreeOk.calls (k : Nat) (A0 : Option Addr) (c0 : Nat) (l0 : List (S90)) (r : Bool) (w : World) (hr0 : Kd.C k90 w A0 l0.length l0) (hc0 : l0.length ≤ c0) (h : impl_TreeOk.f k l0 = some r) :
  Calls Try.prog 102 #[.slice A0 l0.length c0] w fun e w' => e = .returned (.bool r) ∧ Below w.heap.size w w' := by
 have hu90 := Try.underlying90
 have HR0 := Aside0.mk hr0
 have HC0 := Aside0.mk hc0
 clear hr0 hc0
 have HB := Aside0.mk (Below.refl w.heap.size w)
 have H : ((impl_within.f (l0.length : Int) 1 24).bind fun t395 => (if t395 = true then (impl_TreeOk.l0 k l0 l0 (l0.length : Int) 0) else (some false))) = some r := h
 clear h
 replace H := Option.bind_eq_some_iff.mp H
 obtain ⟨t395, A20, H⟩ := H
 replace H : (if t395 = true then (impl_TreeOk.l0 k l0 l0 (l0.length : Int) 0) else (some false)) = some r := H
 have A2 := Aside0.mk A20
 clear A20
 by_cases c3 : t395 = true
 ·subst c3
  have H1 : (impl_TreeOk.l0 k l0 l0 (l0.length : Int) 0) = some r := by rw [if_pos rfl] at H; exact H
  clear H
  have H := H1
  clear H1
  have H' := Aside0.mk H
  clear H
  go_enter Try.func102, Try.ntmps102
  go_wp2_with (first | ((with_reducible refine gate_callee (f := 117) rfl ?_); refine gL_ (some 7) Try.func117 #[.int .i64 (l0.length : Int), .int .i64 1, .int .i64 24] ?_; (with_reducible refine (impl_within.calls (l0.length : Int) 1 24 true _ A2.out).mono ?_); rintro e w' ⟨rfl, ⟨nd, rfl⟩⟩; refine ⟨_, rfl, ?_⟩))
  go_loopg [11] k (fun kq v11 w' => ∃ (x11_1 : Int), v11 = .int .i64 x11_1 ∧ Aside0 (impl_TreeOk.l0 kq l0 l0 (l0.length : Int) x11_1 = some r) ∧ Aside0 (kq ≤ k) ∧ Aside0 (Below w.heap.size w w'))
  case atStart => exact ⟨(0), eb_, H', ⟨Nat.le_refl _⟩, bl_ HB⟩
  case round =>
   clear H'
   try clear c1
   try clear p2
   try clear c3
   obtain ⟨x11_1, rfl, HA, HK1, HB⟩ := hrel
   cases gk with
   | zero => exact absurd HA.out (by simp [impl_TreeOk.l0])
   | succ k1 =>
    have H := HA.out
    clear HA
    simp only [impl_TreeOk.l0] at H
    by_cases c4 : x11_1 < (l0.length : Int)
    ·rw [if_pos c4] at H
     have c4b0 : decide (x11_1 < (l0.length : Int)) = true := decide_eq_true c4
     clear c4
     by_cases c5 : 0 ≤ x11_1
     ·rw [if_pos c5] at H
      have c5b0 : decide (0 ≤ x11_1) = true := decide_eq_true c5
      clear c5
      by_cases c6 : x11_1 < (l0.length : Int)
      ·rw [if_pos c6] at H
       have c6b0 : decide (x11_1 < (l0.length : Int)) = true := decide_eq_true c6
       clear c6
       replace H := Option.bind_eq_some_iff.mp H
       obtain ⟨t398, A70, H⟩ := H
       try dsimp only at H
       have A7 := Aside0.mk A70
       clear A70
       by_cases c8 : t398 = true
       ·subst c8
        have H1 : ((impl_within.f ((rd_T90 l0 x11_1).f1) 0 12).bind fun t399 => (if t399 = true then ((impl_depthOk.f l0 x11_1).bind fun t400 => (if t400 = true then (impl_TreeOk.l0 k1 l0 l0 (l0.length : Int) (wrap64 (x11_1 + 1))) else (some false))) else (some false))) = some r := by rw [if_pos rfl] at H; exact H
        clear H
        have H := H1
        clear H1
        replace H := Option.bind_eq_some_iff.mp H
        obtain ⟨t399, A90, H⟩ := H
        try dsimp only at H
        have A9 := Aside0.mk A90
        clear A90
        by_cases c10 : t399 = true
        ·subst c10
         have H1 : ((impl_depthOk.f l0 x11_1).bind fun t400 => (if t400 = true then (impl_TreeOk.l0 k1 l0 l0 (l0.length : Int) (wrap64 (x11_1 + 1))) else (some false))) = some r := by rw [if_pos rfl] at H; exact H
         clear H
         have H := H1
         clear H1
         replace H := Option.bind_eq_some_iff.mp H
         obtain ⟨t400, A110, H⟩ := H
         try dsimp only at H
         have A11 := Aside0.mk A110
         clear A110
         by_cases c12 : t400 = true
         ·subst c12
          have H1 : (impl_TreeOk.l0 k1 l0 l0 (l0.length : Int) (wrap64 (x11_1 + 1))) = some r := by rw [if_pos rfl] at H; exact H
          clear H
          have H := H1
          clear H1
          have H' := Aside0.mk H
          clear H
          have p396 : 0 ≤ (x11_1 : Int) := od_
          have q396 : x11_1 < (l0.length : Int) := od_
          obtain ⟨ad396, e396, hx396_0, hx396_1⟩ := at_T90 HR0.out x11_1 p396 q396
          cases e396
          replace hx396_0 := (HB.out.cell (World.block_lt_of_cell? w _ hx396_0)).trans hx396_0
          replace hx396_1 := (HB.out.cell (World.block_lt_of_cell? w _ hx396_1)).trans hx396_1
          replace p396 := eq_true p396
          replace q396 := eq_true q396
          go_wp2_with (first | ((with_reducible refine gate_dst (N := 4) rfl ?_); refine box_event ?hg (N := 4) ?hd (cs := #[.int .i64 0, .int .i64 0]) (t := 90) ?hr ?_; (case hd => rfl); (case hg => rfl); (case hr => first | (go_simp; done) | (go_simp; rfl)); intro gb397 hg w13 hbox hb; have n0_ := Aside0.mk (below_step (by repeat (first | (with_reducible first | exact HB.out | apply below_alloc | apply pw_below_drewN | apply below_drew1) | exact HB.out)) hb); have n1_ := Aside0.mk (hbox); have n2_ := Aside0.mk ((by rw [hg]; exact (below_size (by repeat (first | (with_reducible first | exact HB.out | apply below_alloc | apply pw_below_drewN | apply below_drew1) | exact HB.out))) : w.heap.size ≤ gb397)); have n3_ := Aside0.mk ((by rw [hg]; exact (below_size (by repeat (first | (with_reducible first | exact HB.out | apply below_alloc | apply pw_below_drewN | apply below_drew1) | exact HB.out))) : w.heap.size ≤ gb397)); clear HB; have HB := n0_; have BK397 := n1_; have GW397 := n2_; have GE397 := n3_; clear n0_ n1_ n2_ n3_; clear hb hbox hg; have hcz14_0 : w13.cell? ⟨gb397, 0, none⟩ = some (.int .i64 0) := (blk_cell BK397.out 0).trans rfl; have hcz14_1 : w13.cell? ⟨gb397, 1, none⟩ = some (.int .i64 0) := (blk_cell BK397.out 1).trans rfl; have hfz14_0 := blk_frozen BK397.out 0; have hfz14_1 := blk_frozen BK397.out 1) | ((with_reducible refine gate_callee (f := 128) rfl ?_); refine goesL_ (some 18) rfl rfl Try.func128 (by kernel_rfl) rfl #[.int .i64 ((rd_T90 l0 x11_1).f0)] rfl (by (try simp only [List.map_toArray, List.map_cons, List.map_nil]); first | done | rfl | (simp only [List.length_drop, List.length_take]; rfl)) ?_; (with_reducible refine (impl_LabelOk.calls ((rd_T90 l0 x11_1).f0) true _ A7.out).mono ?_); rintro e w' ⟨rfl, ⟨nd, rfl⟩⟩; refine ⟨_, rfl, ?_⟩) | (go_at_call 117; (with_reducible refine (impl_within.calls ((rd_T90 l0 x11_1).f1) 0 12 true _ A9.out).mono ?_); rintro e w' ⟨rfl, ⟨nd, rfl⟩⟩) | (go_at_call 131; (with_reducible refine (impl_depthOk.calls _ _ l0 x11_1 true _ ?side1 ?side2 A11.out).mono ?_); (case side1 => exact Kd.C_below HR0.out (by repeat (first | (with_reducible first | exact HB.out | apply below_alloc | apply pw_below_drewN | apply below_drew1 | refine below_set ?_ GE397.out) | exact HB.out))); (case side2 => exact HC0.out); rintro e w' ⟨rfl, ⟨nd, rfl⟩⟩))
          go_roundg k1
          case measure => have := HK1.out; omega
          case rel => exact ⟨(wrap64 (x11_1 + 1)), (by first | rfl | (simp; done) | (simp [*]; done)), H', ⟨by have := HK1.out; omega⟩, ⟨by repeat (first | (with_reducible first | exact HB.out | apply below_alloc | apply pw_below_drewN | apply below_drew1 | refine below_set ?_ GE397.out) | exact HB.out)⟩⟩
         ·replace c12 := Bool.eq_false_iff.mpr c12
          subst c12
          have H1 : (some false) = some r := by rw [if_neg (show ¬ (false = true) by decide)] at H; exact H
          clear H
          have H := H1
          clear H1
          obtain rfl := Option.some.inj H
          have p396 : 0 ≤ (x11_1 : Int) := od_
          have q396 : x11_1 < (l0.length : Int) := od_
          obtain ⟨ad396, e396, hx396_0, hx396_1⟩ := at_T90 HR0.out x11_1 p396 q396
          cases e396
          replace hx396_0 := (HB.out.cell (World.block_lt_of_cell? w _ hx396_0)).trans hx396_0
          replace hx396_1 := (HB.out.cell (World.block_lt_of_cell? w _ hx396_1)).trans hx396_1
          replace p396 := eq_true p396
          replace q396 := eq_true q396
          go_wp2_with (first | ((with_reducible refine gate_dst (N := 4) rfl ?_); refine box_event ?hg (N := 4) ?hd (cs := #[.int .i64 0, .int .i64 0]) (t := 90) ?hr ?_; (case hd => rfl); (case hg => rfl); (case hr => first | (go_simp; done) | (go_simp; rfl)); intro gb397 hg w15 hbox hb; have n0_ := Aside0.mk (below_step (by repeat (first | (with_reducible first | exact HB.out | apply below_alloc | apply pw_below_drewN | apply below_drew1) | exact HB.out)) hb); have n1_ := Aside0.mk (hbox); have n2_ := Aside0.mk ((by rw [hg]; exact (below_size (by repeat (first | (with_reducible first | exact HB.out | apply below_alloc | apply pw_below_drewN | apply below_drew1) | exact HB.out))) : w.heap.size ≤ gb397)); have n3_ := Aside0.mk ((by rw [hg]; exact (below_size (by repeat (first | (with_reducible first | exact HB.out | apply below_alloc | apply pw_below_drewN | apply below_drew1) | exact HB.out))) : w.heap.size ≤ gb397)); clear HB; have HB := n0_; have BK397 := n1_; have GW397 := n2_; have GE397 := n3_; clear n0_ n1_ n2_ n3_; clear hb hbox hg; have hcz16_0 : w15.cell? ⟨gb397, 0, none⟩ = some (.int .i64 0) := (blk_cell BK397.out 0).trans rfl; have hcz16_1 : w15.cell? ⟨gb397, 1, none⟩ = some (.int .i64 0) := (blk_cell BK397.out 1).trans rfl; have hfz16_0 := blk_frozen BK397.out 0; have hfz16_1 := blk_frozen BK397.out 1) | ((with_reducible refine gate_callee (f := 128) rfl ?_); refine goesL_ (some 18) rfl rfl Try.func128 (by kernel_rfl) rfl #[.int .i64 ((rd_T90 l0 x11_1).f0)] rfl (by (try simp only [List.map_toArray, List.map_cons, List.map_nil]); first | done | rfl | (simp only [List.length_drop, List.length_take]; rfl)) ?_; (with_reducible refine (impl_LabelOk.calls ((rd_T90 l0 x11_1).f0) true _ A7.out).mono ?_); rintro e w' ⟨rfl, ⟨nd, rfl⟩⟩; refine ⟨_, rfl, ?_⟩) | (go_at_call 117; (with_reducible refine (impl_within.calls ((rd_T90 l0 x11_1).f1) 0 12 true _ A9.out).mono ?_); rintro e w' ⟨rfl, ⟨nd, rfl⟩⟩) | (go_at_call 131; (with_reducible refine (impl_depthOk.calls _ _ l0 x11_1 false _ ?side1 ?side2 A11.out).mono ?_); (case side1 => exact Kd.C_below HR0.out (by repeat (first | (with_reducible first | exact HB.out | apply below_alloc | apply pw_below_drewN | apply below_drew1 | refine below_set ?_ GE397.out) | exact HB.out))); (case side2 => exact HC0.out); rintro e w' ⟨rfl, ⟨nd, rfl⟩⟩))
          go_ret
          exact ⟨by first | rfl | (simp [errW_none, errW_some] <;> rfl) | (simp [*, errW_none, errW_some] <;> rfl), by repeat (first | (with_reducible first | exact HB.out | apply below_alloc | apply pw_below_drewN | apply below_drew1 | refine below_set ?_ GE397.out) | exact HB.out)⟩
        ·replace c10 := Bool.eq_false_iff.mpr c10
         subst c10
         have H1 : (some false) = some r := by rw [if_neg (show ¬ (false = true) by decide)] at H; exact H
         clear H
         have H := H1
         clear H1
         obtain rfl := Option.some.inj H
         have p396 : 0 ≤ (x11_1 : Int) := od_
         have q396 : x11_1 < (l0.length : Int) := od_
         obtain ⟨ad396, e396, hx396_0, hx396_1⟩ := at_T90 HR0.out x11_1 p396 q396
         cases e396
         replace hx396_0 := ce_ HB hx396_0
         replace hx396_1 := ce_ HB hx396_1
         replace p396 := eq_true p396
         replace q396 := eq_true q396
         go_wp2_with (first | ((with_reducible refine gate_dst (N := 4) rfl ?_); refine bx_ 4 #[.int .i64 0, .int .i64 0] 90 ?_; intro gb397 hg w17 hbox hb; have BK397 := Aside0.mk (hbox); have GW397 := Aside0.mk ((by rw [hg]; exact (bs_ HB) : w.heap.size ≤ gb397)); have GE397 := Aside0.mk ((by rw [hg]; exact (bs_ HB) : w.heap.size ≤ gb397)); replace HB := tB_ HB hb; clear hb hbox hg; obtain ⟨hcz18_0, hcz18_1, hfz18_0, hfz18_1⟩ := bk2_ BK397) | ((with_reducible refine gate_callee (f := 128) rfl ?_); refine gL_ (some 18) Try.func128 #[.int .i64 ((rd_T90 l0 x11_1).f0)] ?_; (with_reducible refine (impl_LabelOk.calls ((rd_T90 l0 x11_1).f0) true _ A7.out).mono ?_); rintro e w' ⟨rfl, ⟨nd, rfl⟩⟩; refine ⟨_, rfl, ?_⟩) | (go_at_call 117; (with_reducible refine (impl_within.calls ((rd_T90 l0 x11_1).f1) 0 12 false _ A9.out).mono ?_); rintro e w' ⟨rfl, ⟨nd, rfl⟩⟩))
         go_ret
         exact ⟨by first | rfl | (simp [errW_none, errW_some] <;> rfl) | (simp [*, errW_none, errW_some] <;> rfl), by repeat (first | (with_reducible first | exact HB.out | apply below_alloc | apply pw_below_drewN | apply below_drew1 | refine below_set ?_ GE397.out) | exact HB.out)⟩
       ·replace c8 := Bool.eq_false_iff.mpr c8
        subst c8
        have H1 : (some false) = some r := by rw [if_neg (show ¬ (false = true) by decide)] at H; exact H
        clear H
        have H := H1
        clear H1
        obtain rfl := Option.some.inj H
        have p396 : 0 ≤ (x11_1 : Int) := od_
        have q396 : x11_1 < (l0.length : Int) := od_
        obtain ⟨ad396, e396, hx396_0, hx396_1⟩ := at_T90 HR0.out x11_1 p396 q396
        cases e396
        replace hx396_0 := ce_ HB hx396_0
        replace hx396_1 := ce_ HB hx396_1
        replace p396 := eq_true p396
        replace q396 := eq_true q396
        go_wp2_with (first | ((with_reducible refine gate_dst (N := 4) rfl ?_); refine bx_ 4 #[.int .i64 0, .int .i64 0] 90 ?_; intro gb397 hg w19 hbox hb; have BK397 := Aside0.mk (hbox); have GW397 := Aside0.mk ((by rw [hg]; exact (bs_ HB) : w.heap.size ≤ gb397)); have GE397 := Aside0.mk ((by rw [hg]; exact (bs_ HB) : w.heap.size ≤ gb397)); replace HB := tB_ HB hb; clear hb hbox hg; obtain ⟨hcz20_0, hcz20_1, hfz20_0, hfz20_1⟩ := bk2_ BK397) | ((with_reducible refine gate_callee (f := 128) rfl ?_); refine gL_ (some 18) Try.func128 #[.int .i64 ((rd_T90 l0 x11_1).f0)] ?_; (with_reducible refine (impl_LabelOk.calls ((rd_T90 l0 x11_1).f0) false _ A7.out).mono ?_); rintro e w' ⟨rfl, ⟨nd, rfl⟩⟩; refine ⟨_, rfl, ?_⟩))
        go_ret
        exact ⟨by first | rfl | (simp [errW_none, errW_some] <;> rfl) | (simp [*, errW_none, errW_some] <;> rfl), by repeat (first | (with_reducible first | exact HB.out | apply below_alloc | apply pw_below_drewN | apply below_drew1 | refine below_set ?_ GE397.out) | exact HB.out)⟩
      ·rw [if_neg c6] at H
       exact absurd H (by simp)
     ·rw [if_neg c5] at H
      exact absurd H (by simp)
    ·rw [if_neg c4] at H
     have c4b0 : decide (x11_1 < (l0.length : Int)) = false := decide_eq_false c4
     clear c4
     obtain rfl := Option.some.inj H
     go_wp2
     go_ret
     exact ⟨ea_, (bl_ HB).out⟩
 ·replace c3 := Bool.eq_false_iff.mpr c3
  subst c3
  have H1 : (some false) = some r := by rw [if_neg (show ¬ (false = true) by decide)] at H; exact H
  clear H
  have H := H1
  clear H1
  obtain rfl := Option.some.inj H
  go_enter Try.func102, Try.ntmps102
  go_wp2_with (first | ((with_reducible refine gate_callee (f := 117) rfl ?_); refine gL_ (some 7) Try.func117 #[.int .i64 (l0.length : Int), .int .i64 1, .int .i64 24] ?_; (with_reducible refine (impl_within.calls (l0.length : Int) 1 24 false _ A2.out).mono ?_); rintro e w' ⟨rfl, ⟨nd, rfl⟩⟩; refine ⟨_, rfl, ?_⟩))
  go_ret
  exact ⟨ea_, (bl_ HB).out⟩
end Go.Proofs.Ytbifdckfglejkaa.X
namespace Go.Proofs.Ytbifdckfglejkaa.X
open Go.RowKit Go.Proofs.YtbifdckfglejkaaW.PrintWords Go.Proofs.YtbifdckfglejkaaW.PrintLast Go.Proofs.YtbifdckfglejkaaW.PrintMore
attribute [local go_sem] max2_int min2_int max_two min_two max_three min_three max_four min_four   -- for this text's walks alone
set_option linter.unusedVariables false
set_option linter.unusedSimpArgs false
def impl_endOf.l0 : Nat → List (S90) → Int → Int → Option (Int)
 | 0, _, _, _ => none
 | k + 1, x0, x1, x5 => if x5 < (x0.length : Int) then (if 0 ≤ x5 then (if 0 ≤ x1 then (if x1 < (x0.length : Int) then (if ((rd_T90 x0 x5).f1) > ((rd_T90 x0 x1).f1) then (impl_endOf.l0 k x0 x1 (wrap64 (x5 + 1))) else (some x5)) else (none)) else (none)) else (none)) else (some x5)
def impl_endOf.f (k : Nat) (l0 : List (S90)) (a1 : Int) : Option (Int) := impl_endOf.l0 k l0 a1 (wrap64 (a1 + 1))
set_option maxHeartbeats 8000000 in
set_option maxRecDepth 100000 in
theorem impl_endOf.calls (k : Nat) (A0 : Option Addr) (c0 : Nat) (l0 : List (S90)) (a1 : Int) (r : Int) (w : World) (hr0 : Kd.C k90 w A0 l0.length l0) (hc0 : l0.length ≤ c0) (h : impl_endOf.f k l0 a1 = some r) :
  Calls Try.prog 105 #[.slice A0 l0.length c0, .int .i64 a1] w fun e w' => e = .returned (.int .i64 r) ∧ Drawn0 w w' := by
 have HR0 := Aside0.mk hr0
 have HC0 := Aside0.mk hc0
 clear hr0 hc0
 have H : (impl_endOf.l0 k l0 a1 (wrap64 (a1 + 1))) = some r := h
 clear h
 have H' := Aside0.mk H
 clear H
 go_enter Try.func105, Try.ntmps105
 go_wp2
 repeat (go_quiet (fail); try go_wp2)
 go_loopg [5] k (fun kq v5 w' => ∃ (x5_1 : Int), v5 = .int .i64 x5_1 ∧ Aside0 (impl_endOf.l0 kq l0 a1 x5_1 = some r) ∧ Aside0 (kq ≤ k) ∧ Drawn0 w w')
 case atStart => exact ⟨(wrap64 (a1 + 1)), eb_, H', ⟨Nat.le_refl _⟩, by repeat (first | exact Drawn0.refl _ | apply Drawn0.step)⟩
 case round =>
  clear H'
  try clear c1
  try clear p2
  obtain ⟨x5_1, rfl, HA, HK1, ⟨m1, rfl⟩⟩ := hrel
  cases gk with
  | zero => exact absurd HA.out (by simp [impl_endOf.l0])
  | succ k1 =>
   have H := HA.out
   clear HA
   simp only [impl_endOf.l0] at H
   by_cases c3 : x5_1 < (l0.length : Int)
   ·rw [if_pos c3] at H
    have c3b0 : decide (x5_1 < (l0.length : Int)) = true := decide_eq_true c3
    clear c3
    by_cases c4 : 0 ≤ x5_1
    ·rw [if_pos c4] at H
     have c4b0 : decide (0 ≤ x5_1) = true := decide_eq_true c4
     clear c4
     by_cases c5 : 0 ≤ a1
     ·rw [if_pos c5] at H
      have c5b0 : decide (0 ≤ a1) = true := decide_eq_true c5
      clear c5
      by_cases c6 : a1 < (l0.length : Int)
      ·rw [if_pos c6] at H
       have c6b0 : decide (a1 < (l0.length : Int)) = true := decide_eq_true c6
       clear c6
       by_cases c7 : ((rd_T90 l0 x5_1).f1) > ((rd_T90 l0 a1).f1)
       ·rw [if_pos c7] at H
        have c7b0 : decide (((rd_T90 l0 a1).f1) < ((rd_T90 l0 x5_1).f1)) = true := decide_eq_true c7
        clear c7
        have H' := Aside0.mk H
        clear H
        have p401 : 0 ≤ (x5_1 : Int) := od_
        have q401 : x5_1 < (l0.length : Int) := od_
        obtain ⟨ad401, e401, hx401_0, hx401_1⟩ := at_T90 HR0.out x5_1 p401 q401
        cases e401
        replace p401 := eq_true p401
        replace q401 := eq_true q401
        have p402 : 0 ≤ (a1 : Int) := od_
        have q402 : a1 < (l0.length : Int) := od_
        obtain ⟨ad402, e402, hx402_0, hx402_1⟩ := at_T90 HR0.out a1 p402 q402
        obtain rfl : ad401 = ad402 := (by injection e402)
        replace p402 := eq_true p402
        replace q402 := eq_true q402
        go_wp2
        repeat (go_quiet (fail); try go_wp2)
        go_roundg k1
        case measure => have := HK1.out; omega
        case rel => exact ⟨(wrap64 (x5_1 + 1)), eb_, H', ⟨by have := HK1.out; omega⟩, by repeat (first | exact Drawn0.refl _ | apply Drawn0.step)⟩
       ·rw [if_neg c7] at H
        have c7b0 : decide (((rd_T90 l0 a1).f1) < ((rd_T90 l0 x5_1).f1)) = false := decide_eq_false c7
        clear c7
        obtain rfl := Option.some.inj H
        have p401 : 0 ≤ (x5_1 : Int) := od_
        have q401 : x5_1 < (l0.length : Int) := od_
        obtain ⟨ad401, e401, hx401_0, hx401_1⟩ := at_T90 HR0.out x5_1 p401 q401
        cases e401
        replace p401 := eq_true p401
        replace q401 := eq_true q401
        have p402 : 0 ≤ (a1 : Int) := od_
        have q402 : a1 < (l0.length : Int) := od_
        obtain ⟨ad402, e402, hx402_0, hx402_1⟩ := at_T90 HR0.out a1 p402 q402
        obtain rfl : ad401 = ad402 := (by injection e402)
        replace p402 := eq_true p402
        replace q402 := eq_true q402
        go_wp2
        repeat (go_quiet (fail); try go_wp2)
        go_ret
        exact ⟨by first | rfl | (simp; done) | (simp [*]; done), by repeat (first | exact Drawn0.refl _ | apply Drawn0.step)⟩
      ·rw [if_neg c6] at H
       exact absurd H (by simp)
     ·rw [if_neg c5] at H
      exact absurd H (by simp)
    ·rw [if_neg c4] at H
     exact absurd H (by simp)
   ·rw [if_neg c3] at H
    have c3b0 : decide (x5_1 < (l0.length : Int)) = false := decide_eq_false c3
    clear c3
    obtain rfl := Option.some.inj H
    go_wp2
    repeat (go_quiet (fail); try go_wp2)
    go_ret
    exact ⟨by first | rfl | (simp; done) | (simp [*]; done), by repeat (first | exact Drawn0.refl _ | apply Drawn0.step)⟩
end Go.Proofs.Ytbifdckfglejkaa.X
namespace Go.Proofs.Ytbifdckfglejkaa.X
open Go.RowKit Go.Proofs.YtbifdckfglejkaaW.PrintWords Go.Proofs.YtbifdckfglejkaaW.PrintLast Go.Proofs.YtbifdckfglejkaaW.PrintMore
attribute [local go_sem] max2_int min2_int max_two min_two max_three min_three max_four min_four   -- for this text's walks alone
set_option linter.unusedVariables false
set_option linter.unusedSimpArgs false
def impl_hasNode.f (k : Nat) (l0 : List (S90)) (a1 : Int) : Option (Bool) := (impl_TreeOk.f k l0).bind fun t403 => (if t403 = true then ((impl_within.f a1 0 (wrap64 ((l0.length : Int) - 1))).bind fun t404 => (some t404)) else (some false))
set_option maxHeartbeats 8000000 in
set_option maxRecDepth 100000 in
theorem impl_hasNode.calls (k : Nat) (A0 : Option Addr) (c0 : Nat) (l0 : List (S90)) (a1 : Int) (r : Bool) (w : World) (hr0 : Kd.C k90 w A0 l0.length l0) (hc0 : l0.length ≤ c0) (h : impl_hasNode.f k l0 a1 = some r) :
  Calls Try.prog 125 #[.slice A0 l0.length c0, .int .i64 a1] w fun e w' => e = .returned (.bool r) ∧ Below w.heap.size w w' := by
 have HR0 := Aside0.mk hr0
 have HC0 := Aside0.mk hc0
 clear hr0 hc0
 have HB := Aside0.mk (Below.refl w.heap.size w)
 have H : ((impl_TreeOk.f k l0).bind fun t403 => (if t403 = true then ((impl_within.f a1 0 (wrap64 ((l0.length : Int) - 1))).bind fun t404 => (some t404)) else (some false))) = some r := h
 clear h
 replace H := Option.bind_eq_some_iff.mp H
 obtain ⟨t403, A30, H⟩ := H
 try dsimp only at H
 have A3 := Aside0.mk A30
 clear A30
 by_cases c4 : t403 = true
 ·subst c4
  have H1 : ((impl_within.f a1 0 (wrap64 ((l0.length : Int) - 1))).bind fun t404 => (some t404)) = some r := by rw [if_pos rfl] at H; exact H
  clear H
  have H := H1
  clear H1
  replace H := Option.bind_eq_some_iff.mp H
  obtain ⟨t404, A50, H⟩ := H
  replace H : (some t404) = some r := H
  have A5 := Aside0.mk A50
  clear A50
  obtain rfl := Option.some.inj H
  go_enter Try.func125, Try.ntmps125
  go_wp2_with (first | ((with_reducible refine gate_callee (f := 102) rfl ?_); refine gL_ (some 6) Try.func102 #[.slice A0 l0.length c0] ?_; (with_reducible refine (impl_TreeOk.calls k _ _ l0 true _ (cc_ HR0.out) HC0.out A3.out).mono ?_); rintro e w6 ⟨rfl, hb⟩; refine ⟨_, rfl, ?_⟩; replace HB := tB_ HB hb; (try clear hb)) | (go_at_call 117; (with_reducible refine (impl_within.calls a1 0 (wrap64 ((l0.length : Int) - 1)) t404 _ A5.out).mono ?_); rintro e w' ⟨rfl, ⟨nd, rfl⟩⟩))
  go_ret
  exact ⟨ea_, (bl_ HB).out⟩
 ·replace c4 := Bool.eq_false_iff.mpr c4
  subst c4
  have H1 : (some false) = some r := by rw [if_neg (show ¬ (false = true) by decide)] at H; exact H
  clear H
  have H := H1
  clear H1
  obtain rfl := Option.some.inj H
  go_enter Try.func125, Try.ntmps125
  go_wp2_with (first | ((with_reducible refine gate_callee (f := 102) rfl ?_); refine gL_ (some 6) Try.func102 #[.slice A0 l0.length c0] ?_; (with_reducible refine (impl_TreeOk.calls k _ _ l0 false _ (cc_ HR0.out) HC0.out A3.out).mono ?_); rintro e w7 ⟨rfl, hb⟩; refine ⟨_, rfl, ?_⟩; replace HB := tB_ HB hb; (try clear hb)))
  go_ret
  exact ⟨ea_, (bl_ HB).out⟩
end Go.Proofs.Ytbifdckfglejkaa.X
namespace Go.Proofs.Ytbifdckfglejkaa.X
open Go.RowKit Go.Proofs.YtbifdckfglejkaaW.PrintWords Go.Proofs.YtbifdckfglejkaaW.PrintLast Go.Proofs.YtbifdckfglejkaaW.PrintMore
attribute [local go_sem] max2_int min2_int max_two min_two max_three min_three max_four min_four   -- for this text's walks alone
set_option linter.unusedVariables false
set_option linter.unusedSimpArgs false
def impl_KidsOf.l0 : Nat → List (S90) → Int → List Int → Int → Option (List Int)
 | 0, _, _, _, _ => none
 | k + 1, x0, x1, x5, x6 => (impl_endOf.f k x0 x1).bind fun t409 => (if x6 < t409 then (if 0 ≤ x6 then (if x6 < (x0.length : Int) then (if 0 ≤ x1 then (if x1 < (x0.length : Int) then (if ((rd_T90 x0 x6).f1) = (wrap64 (((rd_T90 x0 x1).f1) + 1)) then (if x5.length < 17592186044416 then (impl_KidsOf.l0 k x0 x1 (x5 ++ [x6]) (wrap64 (x6 + 1))) else (none)) else (impl_KidsOf.l0 k x0 x1 x5 (wrap64 (x6 + 1)))) else (none)) else (none)) else (none)) else (none)) else (some x5))
def impl_KidsOf.f (k : Nat) (l0 : List (S90)) (a1 : Int) : Option (List Int) := (some (([] : List Int) : List Int)).bind fun y405 => ((impl_hasNode.f k l0 a1).bind fun t408 => (if t408 = true then (impl_KidsOf.l0 k l0 a1 y405 (wrap64 (a1 + 1))) else (some y405)))
set_option maxHeartbeats 8000000 in
set_option maxRecDepth 100000 in
theorem impl_KidsOf.calls (k : Nat) (A0 : Option Addr) (c0 : Nat) (l0 : List (S90)) (a1 : Int) (r : List Int) (w : World) (hr0 : Kd.C k90 w A0 l0.length l0) (hc0 : l0.length ≤ c0) (h : impl_KidsOf.f k l0 a1 = some r) :
  Calls Try.prog 122 #[.slice A0 l0.length c0, .int .i64 a1] w fun e w' => ∃ v0_ : Value, e = .returned (v0_) ∧ Kd.R (Kd.int .i64) 3 w' w.heap.size (fun _ => True) v0_ r ∧ Below w.heap.size w w' := by
 have HR0 := Aside0.mk hr0
 have HC0 := Aside0.mk hc0
 clear hr0 hc0
 have HB := Aside0.mk (Below.refl w.heap.size w)
 have H : ((some (([] : List Int) : List Int)).bind fun y405 => ((impl_hasNode.f k l0 a1).bind fun t408 => (if t408 = true then (impl_KidsOf.l0 k l0 a1 y405 (wrap64 (a1 + 1))) else (some y405)))) = some r := h
 clear h
 obtain ⟨y405, hy405⟩ : ∃ y_ : List Int, y_ = (([] : List Int)) := ⟨_, rfl⟩
 replace H : ((impl_hasNode.f k l0 a1).bind fun t408 => (if t408 = true then (impl_KidsOf.l0 k l0 a1 y405 (wrap64 (a1 + 1))) else (some y405))) = some r := by first | (rw [hy405]; with_reducible exact H) | (have H2_ := (Option.bind_some _ _).symm.trans H; rw [hy405]; with_reducible exact H2_) | (have H2_ := (Option.bind_some _ _).symm.trans H; with_reducible exact H2_) | with_reducible exact H | (rw [hy405]; exact H) | exact H
 have Ny405 := Aside0.mk hy405
 clear hy405
 replace H := Option.bind_eq_some_iff.mp H
 obtain ⟨t408, A30, H⟩ := H
 replace H : (if t408 = true then (impl_KidsOf.l0 k l0 a1 y405 (wrap64 (a1 + 1))) else (some y405)) = some r := H
 have A3 := Aside0.mk A30
 clear A30
 by_cases c4 : t408 = true
 ·subst c4
  have H1 : (impl_KidsOf.l0 k l0 a1 y405 (wrap64 (a1 + 1))) = some r := by rw [if_pos rfl] at H; exact H
  clear H
  have H := H1
  clear H1
  have H' := Aside0.mk H
  clear H
  go_enter Try.func122, Try.ntmps122
  go_wp2_with (first | ((with_reducible refine gate_dst (N := 7) rfl ?_); refine Kd.R_lit (Kd.int .i64) _ 3 ?hg (N := 7) ?hd (xs := ([] : List Int)) (inner := []) (ok := fun _ => True) (okp := fun _ => True) ?hr ?hp (fun _ hk => hk) trivial (Below.refl _ _) (Nat.le_refl _) (by simp) ?_; (case hd => rfl); (case hg => rfl); (case hr => first | (go_simp; done) | (go_simp; rfl)); (case hp => exact (Reps.none _ _)); intro v406 w5 ho6 hb hg_ hnew_; clear hg_ hnew_; (first | rw [← Ny405.out] at ho6 | (simp only [Int.reduceToNat] at ho6; rw [← Ny405.out] at ho6)); have HO407 := Aside0.mk (Kd.R_lower ho6 (bs_ HB)); replace HB := tB_ HB hb; clear hb ho6) | (go_at_call 125; (with_reducible refine (impl_hasNode.calls k _ _ l0 a1 true _ (cx_ HR0 HB) HC0.out A3.out).mono ?_); rintro e w7 ⟨rfl, hb⟩; replace HO407 := tR_ HO407 hb; replace HB := tB_ HB hb; (try clear hb)))
  repeat (go_quiet (first | ((with_reducible refine gate_dst (N := 7) rfl ?_); refine Kd.R_lit (Kd.int .i64) _ 3 ?hg (N := 7) ?hd (xs := ([] : List Int)) (inner := []) (ok := fun _ => True) (okp := fun _ => True) ?hr ?hp (fun _ hk => hk) trivial (Below.refl _ _) (Nat.le_refl _) (by simp) ?_; (case hd => rfl); (case hg => rfl); (case hr => first | (go_simp; done) | (go_simp; rfl)); (case hp => exact (Reps.none _ _)); intro v406 w5 ho6 hb hg_ hnew_; clear hg_ hnew_; (first | rw [← Ny405.out] at ho6 | (simp only [Int.reduceToNat] at ho6; rw [← Ny405.out] at ho6)); have HO407 := Aside0.mk (Kd.R_lower ho6 (bs_ HB)); replace HB := tB_ HB hb; clear hb ho6) | (go_at_call 125; (with_reducible refine (impl_hasNode.calls k _ _ l0 a1 true _ (cx_ HR0 HB) HC0.out A3.out).mono ?_); rintro e w7 ⟨rfl, hb⟩; replace HO407 := tR_ HO407 hb; replace HB := tB_ HB hb; (try clear hb))); try go_wp2_with (first | ((with_reducible refine gate_dst (N := 7) rfl ?_); refine Kd.R_lit (Kd.int .i64) _ 3 ?hg (N := 7) ?hd (xs := ([] : List Int)) (inner := []) (ok := fun _ => True) (okp := fun _ => True) ?hr ?hp (fun _ hk => hk) trivial (Below.refl _ _) (Nat.le_refl _) (by simp) ?_; (case hd => rfl); (case hg => rfl); (case hr => first | (go_simp; done) | (go_simp; rfl)); (case hp => exact (Reps.none _ _)); intro v406 w5 ho6 hb hg_ hnew_; clear hg_ hnew_; (first | rw [← Ny405.out] at ho6 | (simp only [Int.reduceToNat] at ho6; rw [← Ny405.out] at ho6)); have HO407 := Aside0.mk (Kd.R_lower ho6 (bs_ HB)); replace HB := tB_ HB hb; clear hb ho6) | (go_at_call 125; (with_reducible refine (impl_hasNode.calls k _ _ l0 a1 true _ (cx_ HR0 HB) HC0.out A3.out).mono ?_); rintro e w7 ⟨rfl, hb⟩; replace HO407 := tR_ HO407 hb; replace HB := tB_ HB hb; (try clear hb))))
  go_loopg [5, 6] k (fun kq v5 v6 w' => ∃ (x5_1 : List Int) (x6_1 : Int), v6 = .int .i64 x6_1 ∧ Aside0 (impl_KidsOf.l0 kq l0 a1 x5_1 x6_1 = some r) ∧ Aside0 (kq ≤ k) ∧ Aside0 (Kd.R (Kd.int .i64) 3 w' w.heap.size (fun _ => True) v5 x5_1) ∧ Aside0 (Below w.heap.size w w'))
  case atStart => exact ⟨(y405), (wrap64 (a1 + 1)), eb_, H', ⟨Nat.le_refl _⟩, ⟨rx_ HO407.out⟩, bl_ HB⟩
  case round =>
   clear H'
   try clear c1
   try clear p2
   try clear c4
   try clear p6
   obtain ⟨x5_1, x6_1, rfl, HA, HK1, HO_5, HB⟩ := hrel
   cases gk with
   | zero => exact absurd HA.out (by simp [impl_KidsOf.l0])
   | succ k1 =>
    have H := HA.out
    clear HA
    simp only [impl_KidsOf.l0] at H
    replace H := Option.bind_eq_some_iff.mp H
    obtain ⟨t409, A80, H⟩ := H
    try dsimp only at H
    have A8 := Aside0.mk A80
    clear A80
    by_cases c9 : x6_1 < t409
    ·rw [if_pos c9] at H
     have c9b0 : decide (x6_1 < t409) = true := decide_eq_true c9
     clear c9
     by_cases c10 : 0 ≤ x6_1
     ·rw [if_pos c10] at H
      have c10b0 : decide (0 ≤ x6_1) = true := decide_eq_true c10
      clear c10
      by_cases c11 : x6_1 < (l0.length : Int)
      ·rw [if_pos c11] at H
       have c11b0 : decide (x6_1 < (l0.length : Int)) = true := decide_eq_true c11
       clear c11
       by_cases c12 : 0 ≤ a1
       ·rw [if_pos c12] at H
        have c12b0 : decide (0 ≤ a1) = true := decide_eq_true c12
        clear c12
        by_cases c13 : a1 < (l0.length : Int)
        ·rw [if_pos c13] at H
         have c13b0 : decide (a1 < (l0.length : Int)) = true := decide_eq_true c13
         clear c13
         by_cases c14 : ((rd_T90 l0 x6_1).f1) = (wrap64 (((rd_T90 l0 a1).f1) + 1))
         ·rw [if_pos c14] at H
          have c14b0 : (((rd_T90 l0 x6_1).f1) == (wrap64 (((rd_T90 l0 a1).f1) + 1))) = true := beq_iff_eq.mpr c14
          have c14b1 : (((rd_T90 l0 x6_1).f1) != (wrap64 (((rd_T90 l0 a1).f1) + 1))) = false := bne_eq_false_iff_eq.mpr c14
          clear c14
          by_cases c15 : x5_1.length < 17592186044416
          ·rw [if_pos c15] at H
           have LMc15 := Aside0.mk c15
           clear c15
           obtain ⟨y412, hy412⟩ : ∃ y_ : List Int, y_ = (x5_1 ++ [x6_1]) := ⟨_, rfl⟩
           replace H : (impl_KidsOf.l0 k1 l0 a1 y412 (wrap64 (x6_1 + 1))) = some r := by first | (rw [hy412]; with_reducible exact H) | (have H2_ := (Option.bind_some _ _).symm.trans H; rw [hy412]; with_reducible exact H2_) | (have H2_ := (Option.bind_some _ _).symm.trans H; with_reducible exact H2_) | with_reducible exact H | (rw [hy412]; exact H) | exact H
           have Ny412 := Aside0.mk hy412
           clear hy412
           have H' := Aside0.mk H
           clear H
           go_wp2_with (first | (go_at_call 105; (with_reducible refine (impl_endOf.calls k1 _ _ l0 a1 t409 _ (cx_ HR0 HB) HC0.out A8.out).mono ?_); rintro e w' ⟨rfl, ⟨nd, rfl⟩⟩; (try first | exact ⟨rfl, _, World.drewN_drewN _ _ _⟩ | exact ⟨rfl, _, Eq.trans (World.drewN_drewN _ _ _) (congrArg (World.drewN _) (Nat.add_assoc _ _ _))⟩); have p410 : 0 ≤ (x6_1 : Int) := od_; have q410 : x6_1 < (l0.length : Int) := od_; obtain ⟨ad410, e410, hx410_0, hx410_1⟩ := at_T90 HR0.out x6_1 p410 q410; cases e410; replace hx410_0 := ce_ HB hx410_0; replace hx410_1 := ce_ HB hx410_1; replace p410 := eq_true p410; replace q410 := eq_true q410; have p411 : 0 ≤ (a1 : Int) := od_; have q411 : a1 < (l0.length : Int) := od_; obtain ⟨ad411, e411, hx411_0, hx411_1⟩ := at_T90 HR0.out a1 p411 q411; obtain rfl : ad410 = ad411 := (by injection e411); replace hx411_0 := ce_ HB hx411_0; replace hx411_1 := ce_ HB hx411_1; replace p411 := eq_true p411; replace q411 := eq_true q411) | ((with_reducible refine gate_builtin (b := .append) (xs := #[.tmp 34, .tmp 36]) rfl ?_); at_builtin; refine Kd.R_append (Kd.int .i64) (w0 := w) w.heap.size rfl (.tmp 34) (.tmp 36) 39 3 (.int .i64 0) 8 rfl Try.underlying39 info3 rfl (by decide) (by omega) u5 x5_1 x6_1 [.int .i64 x6_1] (fun _ => True) (fun _ => False) rfl rfl ?aP (fun _ hk => hk.elim) ?aF ?aO ?aB ?aS ?aL ?_; (case aP => exact rfl); (case aB => exact ((bl_ HB).out)); (case aF => exact (fun _ _ => trivial)); (case aO => exact (rx_ HO_5.out)); (case aS => exact (bs_ HB)); (case aL => have := LMc15.out; omega); intro v413 w16 ho hb hg hat; rw [← Ny412.out] at ho; replace HB := Aside0.mk (hb); have HO414 := Aside0.mk (ho); clear HO_5; clear ho hb hg hat))
           repeat (go_quiet (first | (go_at_call 105; (with_reducible refine (impl_endOf.calls k1 _ _ l0 a1 t409 _ (cx_ HR0 HB) HC0.out A8.out).mono ?_); rintro e w' ⟨rfl, ⟨nd, rfl⟩⟩; (try first | exact ⟨rfl, _, World.drewN_drewN _ _ _⟩ | exact ⟨rfl, _, Eq.trans (World.drewN_drewN _ _ _) (congrArg (World.drewN _) (Nat.add_assoc _ _ _))⟩); have p410 : 0 ≤ (x6_1 : Int) := od_; have q410 : x6_1 < (l0.length : Int) := od_; obtain ⟨ad410, e410, hx410_0, hx410_1⟩ := at_T90 HR0.out x6_1 p410 q410; cases e410; replace hx410_0 := ce_ HB hx410_0; replace hx410_1 := ce_ HB hx410_1; replace p410 := eq_true p410; replace q410 := eq_true q410; have p411 : 0 ≤ (a1 : Int) := od_; have q411 : a1 < (l0.length : Int) := od_; obtain ⟨ad411, e411, hx411_0, hx411_1⟩ := at_T90 HR0.out a1 p411 q411; obtain rfl : ad410 = ad411 := (by injection e411); replace hx411_0 := ce_ HB hx411_0; replace hx411_1 := ce_ HB hx411_1; replace p411 := eq_true p411; replace q411 := eq_true q411) | ((with_reducible refine gate_builtin (b := .append) (xs := #[.tmp 34, .tmp 36]) rfl ?_); at_builtin; refine Kd.R_append (Kd.int .i64) (w0 := w) w.heap.size rfl (.tmp 34) (.tmp 36) 39 3 (.int .i64 0) 8 rfl Try.underlying39 info3 rfl (by decide) (by omega) u5 x5_1 x6_1 [.int .i64 x6_1] (fun _ => True) (fun _ => False) rfl rfl ?aP (fun _ hk => hk.elim) ?aF ?aO ?aB ?aS ?aL ?_; (case aP => exact rfl); (case aB => exact ((bl_ HB).out)); (case aF => exact (fun _ _ => trivial)); (case aO => exact (rx_ HO_5.out)); (case aS => exact (bs_ HB)); (case aL => have := LMc15.out; omega); intro v413 w16 ho hb hg hat; rw [← Ny412.out] at ho; replace HB := Aside0.mk (hb); have HO414 := Aside0.mk (ho); clear HO_5; clear ho hb hg hat)); try go_wp2_with (first | (go_at_call 105; (with_reducible refine (impl_endOf.calls k1 _ _ l0 a1 t409 _ (cx_ HR0 HB) HC0.out A8.out).mono ?_); rintro e w' ⟨rfl, ⟨nd, rfl⟩⟩; (try first | exact ⟨rfl, _, World.drewN_drewN _ _ _⟩ | exact ⟨rfl, _, Eq.trans (World.drewN_drewN _ _ _) (congrArg (World.drewN _) (Nat.add_assoc _ _ _))⟩); have p410 : 0 ≤ (x6_1 : Int) := od_; have q410 : x6_1 < (l0.length : Int) := od_; obtain ⟨ad410, e410, hx410_0, hx410_1⟩ := at_T90 HR0.out x6_1 p410 q410; cases e410; replace hx410_0 := ce_ HB hx410_0; replace hx410_1 := ce_ HB hx410_1; replace p410 := eq_true p410; replace q410 := eq_true q410; have p411 : 0 ≤ (a1 : Int) := od_; have q411 : a1 < (l0.length : Int) := od_; obtain ⟨ad411, e411, hx411_0, hx411_1⟩ := at_T90 HR0.out a1 p411 q411; obtain rfl : ad410 = ad411 := (by injection e411); replace hx411_0 := ce_ HB hx411_0; replace hx411_1 := ce_ HB hx411_1; replace p411 := eq_true p411; replace q411 := eq_true q411) | ((with_reducible refine gate_builtin (b := .append) (xs := #[.tmp 34, .tmp 36]) rfl ?_); at_builtin; refine Kd.R_append (Kd.int .i64) (w0 := w) w.heap.size rfl (.tmp 34) (.tmp 36) 39 3 (.int .i64 0) 8 rfl Try.underlying39 info3 rfl (by decide) (by omega) u5 x5_1 x6_1 [.int .i64 x6_1] (fun _ => True) (fun _ => False) rfl rfl ?aP (fun _ hk => hk.elim) ?aF ?aO ?aB ?aS ?aL ?_; (case aP => exact rfl); (case aB => exact ((bl_ HB).out)); (case aF => exact (fun _ _ => trivial)); (case aO => exact (rx_ HO_5.out)); (case aS => exact (bs_ HB)); (case aL => have := LMc15.out; omega); intro v413 w16 ho hb hg hat; rw [← Ny412.out] at ho; replace HB := Aside0.mk (hb); have HO414 := Aside0.mk (ho); clear HO_5; clear ho hb hg hat)))
           go_roundg k1
           case measure => have := HK1.out; omega
           case rel => exact ⟨(y412), (wrap64 (x6_1 + 1)), eb_, H', ⟨by have := HK1.out; omega⟩, ⟨rx_ HO414.out⟩, bl_ HB⟩
          ·rw [if_neg c15] at H
           exact absurd H (by simp)
         ·rw [if_neg c14] at H
          have c14b0 : (((rd_T90 l0 x6_1).f1) == (wrap64 (((rd_T90 l0 a1).f1) + 1))) = false := beq_eq_false_iff_ne.mpr c14
          have c14b1 : (((rd_T90 l0 x6_1).f1) != (wrap64 (((rd_T90 l0 a1).f1) + 1))) = true := bne_iff_ne.mpr c14
          have H' := Aside0.mk H
          clear H
          go_wp2_with (first | (go_at_call 105; (with_reducible refine (impl_endOf.calls k1 _ _ l0 a1 t409 _ (cx_ HR0 HB) HC0.out A8.out).mono ?_); rintro e w' ⟨rfl, ⟨nd, rfl⟩⟩; (try first | exact ⟨rfl, _, World.drewN_drewN _ _ _⟩ | exact ⟨rfl, _, Eq.trans (World.drewN_drewN _ _ _) (congrArg (World.drewN _) (Nat.add_assoc _ _ _))⟩); have p410 : 0 ≤ (x6_1 : Int) := od_; have q410 : x6_1 < (l0.length : Int) := od_; obtain ⟨ad410, e410, hx410_0, hx410_1⟩ := at_T90 HR0.out x6_1 p410 q410; cases e410; replace hx410_0 := ce_ HB hx410_0; replace hx410_1 := ce_ HB hx410_1; replace p410 := eq_true p410; replace q410 := eq_true q410; have p411 : 0 ≤ (a1 : Int) := od_; have q411 : a1 < (l0.length : Int) := od_; obtain ⟨ad411, e411, hx411_0, hx411_1⟩ := at_T90 HR0.out a1 p411 q411; obtain rfl : ad410 = ad411 := (by injection e411); replace hx411_0 := ce_ HB hx411_0; replace hx411_1 := ce_ HB hx411_1; replace p411 := eq_true p411; replace q411 := eq_true q411))
          repeat (go_quiet (first | (go_at_call 105; (with_reducible refine (impl_endOf.calls k1 _ _ l0 a1 t409 _ (cx_ HR0 HB) HC0.out A8.out).mono ?_); rintro e w' ⟨rfl, ⟨nd, rfl⟩⟩; (try first | exact ⟨rfl, _, World.drewN_drewN _ _ _⟩ | exact ⟨rfl, _, Eq.trans (World.drewN_drewN _ _ _) (congrArg (World.drewN _) (Nat.add_assoc _ _ _))⟩); have p410 : 0 ≤ (x6_1 : Int) := od_; have q410 : x6_1 < (l0.length : Int) := od_; obtain ⟨ad410, e410, hx410_0, hx410_1⟩ := at_T90 HR0.out x6_1 p410 q410; cases e410; replace hx410_0 := ce_ HB hx410_0; replace hx410_1 := ce_ HB hx410_1; replace p410 := eq_true p410; replace q410 := eq_true q410; have p411 : 0 ≤ (a1 : Int) := od_; have q411 : a1 < (l0.length : Int) := od_; obtain ⟨ad411, e411, hx411_0, hx411_1⟩ := at_T90 HR0.out a1 p411 q411; obtain rfl : ad410 = ad411 := (by injection e411); replace hx411_0 := ce_ HB hx411_0; replace hx411_1 := ce_ HB hx411_1; replace p411 := eq_true p411; replace q411 := eq_true q411)); try go_wp2_with (first | (go_at_call 105; (with_reducible refine (impl_endOf.calls k1 _ _ l0 a1 t409 _ (cx_ HR0 HB) HC0.out A8.out).mono ?_); rintro e w' ⟨rfl, ⟨nd, rfl⟩⟩; (try first | exact ⟨rfl, _, World.drewN_drewN _ _ _⟩ | exact ⟨rfl, _, Eq.trans (World.drewN_drewN _ _ _) (congrArg (World.drewN _) (Nat.add_assoc _ _ _))⟩); have p410 : 0 ≤ (x6_1 : Int) := od_; have q410 : x6_1 < (l0.length : Int) := od_; obtain ⟨ad410, e410, hx410_0, hx410_1⟩ := at_T90 HR0.out x6_1 p410 q410; cases e410; replace hx410_0 := ce_ HB hx410_0; replace hx410_1 := ce_ HB hx410_1; replace p410 := eq_true p410; replace q410 := eq_true q410; have p411 : 0 ≤ (a1 : Int) := od_; have q411 : a1 < (l0.length : Int) := od_; obtain ⟨ad411, e411, hx411_0, hx411_1⟩ := at_T90 HR0.out a1 p411 q411; obtain rfl : ad410 = ad411 := (by injection e411); replace hx411_0 := ce_ HB hx411_0; replace hx411_1 := ce_ HB hx411_1; replace p411 := eq_true p411; replace q411 := eq_true q411)))
          go_roundg k1
          case measure => have := HK1.out; omega
          case rel => exact ⟨(x5_1), (wrap64 (x6_1 + 1)), eb_, H', ⟨by have := HK1.out; omega⟩, ⟨rx_ HO_5.out⟩, bl_ HB⟩
        ·rw [if_neg c13] at H
         exact absurd H (by simp)
       ·rw [if_neg c12] at H
        exact absurd H (by simp)
      ·rw [if_neg c11] at H
       exact absurd H (by simp)
     ·rw [if_neg c10] at H
      exact absurd H (by simp)
    ·rw [if_neg c9] at H
     have c9b0 : decide (x6_1 < t409) = false := decide_eq_false c9
     clear c9
     obtain rfl := Option.some.inj H
     go_wp2_with (first | (go_at_call 105; (with_reducible refine (impl_endOf.calls k1 _ _ l0 a1 t409 _ (cx_ HR0 HB) HC0.out A8.out).mono ?_); rintro e w' ⟨rfl, ⟨nd, rfl⟩⟩; (try first | exact ⟨rfl, _, World.drewN_drewN _ _ _⟩ | exact ⟨rfl, _, Eq.trans (World.drewN_drewN _ _ _) (congrArg (World.drewN _) (Nat.add_assoc _ _ _))⟩)))
     repeat (go_quiet (first | (go_at_call 105; (with_reducible refine (impl_endOf.calls k1 _ _ l0 a1 t409 _ (cx_ HR0 HB) HC0.out A8.out).mono ?_); rintro e w' ⟨rfl, ⟨nd, rfl⟩⟩; (try first | exact ⟨rfl, _, World.drewN_drewN _ _ _⟩ | exact ⟨rfl, _, Eq.trans (World.drewN_drewN _ _ _) (congrArg (World.drewN _) (Nat.add_assoc _ _ _))⟩))); try go_wp2_with (first | (go_at_call 105; (with_reducible refine (impl_endOf.calls k1 _ _ l0 a1 t409 _ (cx_ HR0 HB) HC0.out A8.out).mono ?_); rintro e w' ⟨rfl, ⟨nd, rfl⟩⟩; (try first | exact ⟨rfl, _, World.drewN_drewN _ _ _⟩ | exact ⟨rfl, _, Eq.trans (World.drewN_drewN _ _ _) (congrArg (World.drewN _) (Nat.add_assoc _ _ _))⟩))))
     go_ret
     exact ⟨_, ea_, rx_ HO_5.out, (bl_ HB).out⟩
 ·replace c4 := Bool.eq_false_iff.mpr c4
  subst c4
  have H1 : (some y405) = some r := by rw [if_neg (show ¬ (false = true) by decide)] at H; exact H
  clear H
  have H := H1
  clear H1
  obtain rfl := Option.some.inj H
  go_enter Try.func122, Try.ntmps122
  go_wp2_with (first | ((with_reducible refine gate_dst (N := 7) rfl ?_); refine Kd.R_lit (Kd.int .i64) _ 3 ?hg (N := 7) ?hd (xs := ([] : List Int)) (inner := []) (ok := fun _ => True) (okp := fun _ => True) ?hr ?hp (fun _ hk => hk) trivial (Below.refl _ _) (Nat.le_refl _) (by simp) ?_; (case hd => rfl); (case hg => rfl); (case hr => first | (go_simp; done) | (go_simp; rfl)); (case hp => exact (Reps.none _ _)); intro v406 w17 ho18 hb hg_ hnew_; clear hg_ hnew_; (first | rw [← Ny405.out] at ho18 | (simp only [Int.reduceToNat] at ho18; rw [← Ny405.out] at ho18)); have HO407 := Aside0.mk (Kd.R_lower ho18 (bs_ HB)); replace HB := tB_ HB hb; clear hb ho18) | (go_at_call 125; (with_reducible refine (impl_hasNode.calls k _ _ l0 a1 false _ (cx_ HR0 HB) HC0.out A3.out).mono ?_); rintro e w19 ⟨rfl, hb⟩; replace HO407 := tR_ HO407 hb; replace HB := tB_ HB hb; (try clear hb)))
  repeat (go_quiet (first | ((with_reducible refine gate_dst (N := 7) rfl ?_); refine Kd.R_lit (Kd.int .i64) _ 3 ?hg (N := 7) ?hd (xs := ([] : List Int)) (inner := []) (ok := fun _ => True) (okp := fun _ => True) ?hr ?hp (fun _ hk => hk) trivial (Below.refl _ _) (Nat.le_refl _) (by simp) ?_; (case hd => rfl); (case hg => rfl); (case hr => first | (go_simp; done) | (go_simp; rfl)); (case hp => exact (Reps.none _ _)); intro v406 w17 ho18 hb hg_ hnew_; clear hg_ hnew_; (first | rw [← Ny405.out] at ho18 | (simp only [Int.reduceToNat] at ho18; rw [← Ny405.out] at ho18)); have HO407 := Aside0.mk (Kd.R_lower ho18 (bs_ HB)); replace HB := tB_ HB hb; clear hb ho18) | (go_at_call 125; (with_reducible refine (impl_hasNode.calls k _ _ l0 a1 false _ (cx_ HR0 HB) HC0.out A3.out).mono ?_); rintro e w19 ⟨rfl, hb⟩; replace HO407 := tR_ HO407 hb; replace HB := tB_ HB hb; (try clear hb))); try go_wp2_with (first | ((with_reducible refine gate_dst (N := 7) rfl ?_); refine Kd.R_lit (Kd.int .i64) _ 3 ?hg (N := 7) ?hd (xs := ([] : List Int)) (inner := []) (ok := fun _ => True) (okp := fun _ => True) ?hr ?hp (fun _ hk => hk) trivial (Below.refl _ _) (Nat.le_refl _) (by simp) ?_; (case hd => rfl); (case hg => rfl); (case hr => first | (go_simp; done) | (go_simp; rfl)); (case hp => exact (Reps.none _ _)); intro v406 w17 ho18 hb hg_ hnew_; clear hg_ hnew_; (first | rw [← Ny405.out] at ho18 | (simp only [Int.reduceToNat] at ho18; rw [← Ny405.out] at ho18)); have HO407 := Aside0.mk (Kd.R_lower ho18 (bs_ HB)); replace HB := tB_ HB hb; clear hb ho18) | (go_at_call 125; (with_reducible refine (impl_hasNode.calls k _ _ l0 a1 false _ (cx_ HR0 HB) HC0.out A3.out).mono ?_); rintro e w19 ⟨rfl, hb⟩; replace HO407 := tR_ HO407 hb; replace HB := tB_ HB hb; (try clear hb))))
  go_ret
  exact ⟨_, ea_, rx_ HO407.out, (bl_ HB).out⟩
end Go.Proofs.Ytbifdckfglejkaa.X
namespace Go.Proofs.Ytbifdckfglejkaa.X
open Go.RowKit Go.Proofs.YtbifdckfglejkaaW.PrintWords Go.Proofs.YtbifdckfglejkaaW.PrintLast Go.Proofs.YtbifdckfglejkaaW.PrintMore
attribute [local go_sem] max2_int min2_int max_two min_two max_three min_three max_four min_four   -- for this text's walks alone
set_option linter.unusedVariables false
set_option linter.unusedSimpArgs false
def impl_NodeAt.l0 : Nat → List (S90) → Int → List Int → Int → Int → Option (Int)
 | 0, _, _, _, _, _ => none
 | k + 1, x0, x5, x12, x13, x14 => if x14 < x13 then (if 0 ≤ x14 then (if x14 < (x12.length : Int) then ((impl_KidsOf.f k x0 x5).bind fun t417 => ((impl_within.f (rd x12 x14) 0 (wrap64 ((t417.length : Int) - 1))).bind fun t420 => (if t420 = true then (if 0 ≤ (rd x12 x14) then (if (rd x12 x14) < (t417.length : Int) then (impl_NodeAt.l0 k x0 (rd t417 (rd x12 x14)) x12 x13 (wrap64 (x14 + 1))) else (none)) else (none)) else (some (-1))))) else (none)) else (none)) else (some x5)
def impl_NodeAt.f (k : Nat) (l0 : List (S90)) (l1 : List Int) : Option (Int) := (impl_TreeOk.f k l0).bind fun t415 => (if t415 = true then (impl_NodeAt.l0 k l0 0 l1 (l1.length : Int) 0) else (some (-1)))
set_option maxHeartbeats 8000000 in
set_option maxRecDepth 100000 in
theorem impl_NodeAt.calls (k : Nat) (A0 : Option Addr) (c0 : Nat) (l0 : List (S90)) (A1 : Option Addr) (c1 : Nat) (l1 : List Int) (r : Int) (w : World) (hr0 : Kd.C k90 w A0 l0.length l0) (hc0 : l0.length ≤ c0) (hr1 : Kd.C (Kd.int .i64) w A1 l1.length l1) (hc1 : l1.length ≤ c1) (h : impl_NodeAt.f k l0 l1 = some r) :
  Calls Try.prog 78 #[.slice A0 l0.length c0, .slice A1 l1.length c1] w fun e w' => e = .returned (.int .i64 r) ∧ Below w.heap.size w w' := by
 have HR0 := Aside0.mk hr0
 have HC0 := Aside0.mk hc0
 clear hr0 hc0
 have HR1 := Aside0.mk hr1
 have HC1 := Aside0.mk hc1
 clear hr1 hc1
 have HB := Aside0.mk (Below.refl w.heap.size w)
 have H : ((impl_TreeOk.f k l0).bind fun t415 => (if t415 = true then (impl_NodeAt.l0 k l0 0 l1 (l1.length : Int) 0) else (some (-1)))) = some r := h
 clear h
 replace H := Option.bind_eq_some_iff.mp H
 obtain ⟨t415, A30, H⟩ := H
 replace H : (if t415 = true then (impl_NodeAt.l0 k l0 0 l1 (l1.length : Int) 0) else (some (-1))) = some r := H
 have A3 := Aside0.mk A30
 clear A30
 by_cases c4 : t415 = true
 ·subst c4
  have H1 : (impl_NodeAt.l0 k l0 0 l1 (l1.length : Int) 0) = some r := by rw [if_pos rfl] at H; exact H
  clear H
  have H := H1
  clear H1
  have H' := Aside0.mk H
  clear H
  go_enter Try.func78, Try.ntmps78
  go_wp2_with (first | ((with_reducible refine gate_callee (f := 102) rfl ?_); refine gL_ (some 10) Try.func102 #[.slice A0 l0.length c0] ?_; (with_reducible refine (impl_TreeOk.calls k _ _ l0 true _ (cc_ HR0.out) HC0.out A3.out).mono ?_); rintro e w5 ⟨rfl, hb⟩; refine ⟨_, rfl, ?_⟩; replace HB := tB_ HB hb; (try clear hb)))
  go_loopg [5, 14] k (fun kq v5 v14 w' => ∃ (x5_1 : Int) (x14_1 : Int), v5 = .int .i64 x5_1 ∧ v14 = .int .i64 x14_1 ∧ Aside0 (impl_NodeAt.l0 kq l0 x5_1 l1 (l1.length : Int) x14_1 = some r) ∧ Aside0 (kq ≤ k) ∧ Aside0 (Below w.heap.size w w'))
  case atStart => exact ⟨(0), (0), eb_, eb_, H', ⟨Nat.le_refl _⟩, bl_ HB⟩
  case round =>
   clear H'
   try clear c1
   try clear p2
   try clear c4
   obtain ⟨x5_1, x14_1, rfl, rfl, HA, HK1, HB⟩ := hrel
   cases gk with
   | zero => exact absurd HA.out (by simp [impl_NodeAt.l0])
   | succ k1 =>
    have H := HA.out
    clear HA
    simp only [impl_NodeAt.l0] at H
    by_cases c6 : x14_1 < (l1.length : Int)
    ·rw [if_pos c6] at H
     have c6b0 : decide (x14_1 < (l1.length : Int)) = true := decide_eq_true c6
     clear c6
     by_cases c7 : 0 ≤ x14_1
     ·rw [if_pos c7] at H
      have c7b0 : decide (0 ≤ x14_1) = true := decide_eq_true c7
      clear c7
      by_cases c8 : x14_1 < (l1.length : Int)
      ·rw [if_pos c8] at H
       have c8b0 : decide (x14_1 < (l1.length : Int)) = true := decide_eq_true c8
       clear c8
       replace H := Option.bind_eq_some_iff.mp H
       obtain ⟨t417, A90, H⟩ := H
       try dsimp only at H
       have A9 := Aside0.mk A90
       clear A90
       replace H := Option.bind_eq_some_iff.mp H
       obtain ⟨t420, A100, H⟩ := H
       try dsimp only at H
       have A10 := Aside0.mk A100
       clear A100
       by_cases c11 : t420 = true
       ·subst c11
        have H1 : (if 0 ≤ (rd l1 x14_1) then (if (rd l1 x14_1) < (t417.length : Int) then (impl_NodeAt.l0 k1 l0 (rd t417 (rd l1 x14_1)) l1 (l1.length : Int) (wrap64 (x14_1 + 1))) else (none)) else (none)) = some r := by rw [if_pos rfl] at H; exact H
        clear H
        have H := H1
        clear H1
        by_cases c12 : 0 ≤ (rd l1 x14_1)
        ·rw [if_pos c12] at H
         have c12b0 : decide (0 ≤ (rd l1 x14_1)) = true := decide_eq_true c12
         clear c12
         by_cases c13 : (rd l1 x14_1) < (t417.length : Int)
         ·rw [if_pos c13] at H
          have c13b0 : decide ((rd l1 x14_1) < (t417.length : Int)) = true := decide_eq_true c13
          clear c13
          have H' := Aside0.mk H
          clear H
          have p416 : 0 ≤ (x14_1 : Int) := od_
          have q416 : x14_1 < (l1.length : Int) := od_
          obtain ⟨ad416, e416, hx416_0⟩ := Kd.at_int HR1.out x14_1 p416 q416
          cases e416
          replace hx416_0 := ce_ HB hx416_0
          replace p416 := eq_true p416
          replace q416 := eq_true q416
          go_wp2_with (first | ((with_reducible refine gate_callee (f := 122) rfl ?_); refine gL_ (some 20) Try.func122 #[.slice A0 l0.length c0, .int .i64 x5_1] ?_; (with_reducible refine (impl_KidsOf.calls k1 _ _ l0 x5_1 t417 _ (cx_ HR0 HB) HC0.out A9.out).mono ?_); rintro e w14 ⟨v418, rfl, ho0, hb⟩; refine ⟨_, rfl, ?_⟩; have HO419 := Aside0.mk (Kd.R_lower ho0 (bs_ HB)); replace HB := tB_ HB hb; (try clear hb); (try clear ho0); obtain ⟨Ao15, co15, eo15⟩ := Kd.R_slice HO419.out; subst eo15) | ((with_reducible refine gate_callee (f := 117) rfl ?_); refine gL_ (some 25) Try.func117 #[.int .i64 (rd l1 x14_1), .int .i64 0, .int .i64 (wrap64 ((t417.length : Int) - 1))] ?_; (with_reducible refine (impl_within.calls (rd l1 x14_1) 0 (wrap64 ((t417.length : Int) - 1)) true _ A10.out).mono ?_); rintro e w' ⟨rfl, ⟨nd, rfl⟩⟩; refine ⟨_, rfl, ?_⟩; have p421 : 0 ≤ ((rd l1 x14_1) : Int) := od_; have q421 : (rd l1 x14_1) < (t417.length : Int) := od_; obtain ⟨ad421, e421, hx421_0⟩ := Kd.at_int (Kd.R_reads' HO419.out).2.2 (rd l1 x14_1) p421 q421; cases e421; replace p421 := eq_true p421; replace q421 := eq_true q421))
          go_roundg k1
          case measure => have := HK1.out; omega
          case rel => exact ⟨(rd t417 (rd l1 x14_1)), (wrap64 (x14_1 + 1)), eb_, eb_, H', ⟨by have := HK1.out; omega⟩, bl_ HB⟩
         ·rw [if_neg c13] at H
          exact absurd H (by simp)
        ·rw [if_neg c12] at H
         exact absurd H (by simp)
       ·replace c11 := Bool.eq_false_iff.mpr c11
        subst c11
        have H1 : (some (-1)) = some r := by rw [if_neg (show ¬ (false = true) by decide)] at H; exact H
        clear H
        have H := H1
        clear H1
        obtain rfl := Option.some.inj H
        have p416 : 0 ≤ (x14_1 : Int) := od_
        have q416 : x14_1 < (l1.length : Int) := od_
        obtain ⟨ad416, e416, hx416_0⟩ := Kd.at_int HR1.out x14_1 p416 q416
        cases e416
        replace hx416_0 := ce_ HB hx416_0
        replace p416 := eq_true p416
        replace q416 := eq_true q416
        go_wp2_with (first | ((with_reducible refine gate_callee (f := 122) rfl ?_); refine gL_ (some 20) Try.func122 #[.slice A0 l0.length c0, .int .i64 x5_1] ?_; (with_reducible refine (impl_KidsOf.calls k1 _ _ l0 x5_1 t417 _ (cx_ HR0 HB) HC0.out A9.out).mono ?_); rintro e w16 ⟨v418, rfl, ho0, hb⟩; refine ⟨_, rfl, ?_⟩; have HO419 := Aside0.mk (Kd.R_lower ho0 (bs_ HB)); replace HB := tB_ HB hb; (try clear hb); (try clear ho0); obtain ⟨Ao17, co17, eo17⟩ := Kd.R_slice HO419.out; subst eo17) | ((with_reducible refine gate_callee (f := 117) rfl ?_); refine gL_ (some 25) Try.func117 #[.int .i64 (rd l1 x14_1), .int .i64 0, .int .i64 (wrap64 ((t417.length : Int) - 1))] ?_; (with_reducible refine (impl_within.calls (rd l1 x14_1) 0 (wrap64 ((t417.length : Int) - 1)) false _ A10.out).mono ?_); rintro e w' ⟨rfl, ⟨nd, rfl⟩⟩; refine ⟨_, rfl, ?_⟩))
        go_ret
        exact ⟨ea_, (bl_ HB).out⟩
      ·rw [if_neg c8] at H
       exact absurd H (by simp)
     ·rw [if_neg c7] at H
      exact absurd H (by simp)
    ·rw [if_neg c6] at H
     have c6b0 : decide (x14_1 < (l1.length : Int)) = false := decide_eq_false c6
     clear c6
     obtain rfl := Option.some.inj H
     go_wp2
     go_ret
     exact ⟨ea_, (bl_ HB).out⟩
 ·replace c4 := Bool.eq_false_iff.mpr c4
  subst c4
  have H1 : (some (-1)) = some r := by rw [if_neg (show ¬ (false = true) by decide)] at H; exact H
  clear H
  have H := H1
  clear H1
  obtain rfl := Option.some.inj H
  go_enter Try.func78, Try.ntmps78
  go_wp2_with (first | ((with_reducible refine gate_callee (f := 102) rfl ?_); refine gL_ (some 10) Try.func102 #[.slice A0 l0.length c0] ?_; (with_reducible refine (impl_TreeOk.calls k _ _ l0 false _ (cc_ HR0.out) HC0.out A3.out).mono ?_); rintro e w18 ⟨rfl, hb⟩; refine ⟨_, rfl, ?_⟩; replace HB := tB_ HB hb; (try clear hb)))
  go_ret
  exact ⟨ea_, (bl_ HB).out⟩
end Go.Proofs.Ytbifdckfglejkaa.X
namespace Go.Proofs.Ytbifdckfglejkaa.X
open Go.RowKit Go.Proofs.YtbifdckfglejkaaW.PrintWords Go.Proofs.YtbifdckfglejkaaW.PrintLast Go.Proofs.YtbifdckfglejkaaW.PrintMore
attribute [local go_sem] max2_int min2_int max_two min_two max_three min_three max_four min_four   -- for this text's walks alone
set_option linter.unusedVariables false
set_option linter.unusedSimpArgs false
mutual
def impl_opCode.j0 : Nat → List (S90) → Int → Bool → Int → List Int → Int → Int → Int → Option (Int × Int × Int)
 | 0, _, _, _, _, _, _, _, _ => none
 | k + 1, x0, x2, x22, x930000, x930001, x930002, x930003, x930004 => if x22 = true then (some (3, 0, 0)) else (if x930000 = 2 then (impl_opCode.j1 k x0 x2 (x2 == 0) x930000 x930001 x930002 x930003 x930004) else (impl_opCode.j1 k x0 x2 false x930000 x930001 x930002 x930003 x930004))
def impl_opCode.j1 : Nat → List (S90) → Int → Bool → Int → List Int → Int → Int → Int → Option (Int × Int × Int)
 | 0, _, _, _, _, _, _, _, _ => none
 | k + 1, x0, x2, x32, x930000, x930001, x930002, x930003, x930004 => if x32 = true then (some (4, 0, 0)) else (if x930000 = 3 then ((impl_KidsOf.f k x0 x2).bind fun t932 => ((impl_within.f x930003 0 (t932.length : Int)).bind fun t935 => (if t935 = true then ((impl_within.f x930004 0 (wrap64 ((t932.length : Int) - x930003))).bind fun t936 => (impl_opCode.j2 k x0 x2 t932 (!t936) x930000 x930001 x930002 x930003 x930004)) else (impl_opCode.j2 k x0 x2 t932 true x930000 x930001 x930002 x930003 x930004)))) else (some (0, 0, 0)))
def impl_opCode.j2 : Nat → List (S90) → Int → List Int → Bool → Int → List Int → Int → Int → Int → Option (Int × Int × Int)
 | 0, _, _, _, _, _, _, _, _, _ => none
 | k + 1, x0, x2, x9, x63, x930000, x930001, x930002, x930003, x930004 => if x63 = true then (some (5, 0, 0)) else ((impl_endOf.f k x0 x2).bind fun t937 => (if x9.length < 17592186044416 then ((some (x9 ++ [t937] : List Int)).bind fun y938 => (if 0 ≤ x930003 then (if x930003 < (y938.length : Int) then (if 0 ≤ (wrap64 (x930003 + x930004)) then (if (wrap64 (x930003 + x930004)) < (y938.length : Int) then (if 0 ≤ x2 then (if x2 < (x0.length : Int) then (if 0 ≤ (rd y938 x930003) then (if (rd y938 x930003) ≤ (rd y938 (wrap64 (x930003 + x930004))) then (if (rd y938 (wrap64 (x930003 + x930004))) ≤ (x0.length : Int) then ((some ((x0.take ((rd y938 (wrap64 (x930003 + x930004))) : Int).toNat).drop ((rd y938 x930003) : Int).toNat : List (S90))).bind fun y944 => (impl_opCode.l0 k x0 (rd y938 x930003) (rd y938 (wrap64 (x930003 + x930004))) (wrap64 (((rd_T90 x0 x2).f1) + 1)) y944 (y944.length : Int) 0)) else (none)) else (none)) else (none)) else (none)) else (none)) else (none)) else (none)) else (none)) else (none))) else (none)))
def impl_opCode.l0 : Nat → List (S90) → Int → Int → Int → List (S90) → Int → Int → Option (Int × Int × Int)
 | 0, _, _, _, _, _, _, _ => none
 | k + 1, x0, x7, x8, x11, x92, x93, x94 => if x94 < x93 then (if 0 ≤ x94 then (if x94 < (x92.length : Int) then (impl_opCode.l0 k x0 x7 x8 (mx x11 (wrap64 (((rd_T90 x92 x94).f1) + 1))) x92 x93 (wrap64 (x94 + 1))) else (none)) else (none)) else (if (x0.length : Int) = 24 then (some (6, 0, 0)) else (if x11 > 12 then (some (7, 0, 0)) else (some (0, x7, x8))))
end
def impl_opCode.f (k : Nat) (l0 : List (S90)) (a1_0 : Int) (l1_1 : List Int) (a1_2 : Int) (a1_3 : Int) (a1_4 : Int) (a2 : Int) : Option (Int × Int × Int) := (impl_within.f a1_0 1 3).bind fun t930 => (if t930 = true then (if a2 < 0 then (some (2, 0, 0)) else (if a1_0 = 2 then (impl_opCode.j0 k l0 a2 false a1_0 l1_1 a1_2 a1_3 a1_4) else ((impl_LabelOk.f a1_2).bind fun t931 => (impl_opCode.j0 k l0 a2 (!t931) a1_0 l1_1 a1_2 a1_3 a1_4)))) else (some (1, 0, 0)))
set_option maxHeartbeats 8000000 in
set_option maxRecDepth 100000 in
theorem impl_opCode.calls (k : Nat) (A0 : Option Addr) (c0 : Nat) (l0 : List (S90)) (a1_0 : Int) (A1_1 : Option Addr) (c1_1 : Nat) (l1_1 : List Int) (a1_2 : Int) (a1_3 : Int) (a1_4 : Int) (a2 : Int) (r1 : Int) (r2 : Int) (r3 : Int) (w : World) (hr0 : Kd.C k90 w A0 l0.length l0) (hc0 : l0.length ≤ c0) (hr1_1 : Kd.C (Kd.int .i64) w A1_1 l1_1.length l1_1) (hc1_1 : l1_1.length ≤ c1_1) (h : impl_opCode.f k l0 a1_0 l1_1 a1_2 a1_3 a1_4 a2 = some (r1, r2, r3)) :
  Calls Try.prog 104 #[.slice A0 l0.length c0, .agg #[.int .i64 a1_0, .slice A1_1 l1_1.length c1_1, .int .i64 a1_2, .int .i64 a1_3, .int .i64 a1_4], .int .i64 a2] w fun e w' => e = .returned (.tuple #[.int .i64 r1, .int .i64 r2, .int .i64 r3]) ∧ Below w.heap.size w w' := by
 have hu67 := Try.underlying67
 have hu90 := Try.underlying90
 have HR0 := Aside0.mk hr0
 have HC0 := Aside0.mk hc0
 clear hr0 hc0
 have HR1_1 := Aside0.mk hr1_1
 have HC1_1 := Aside0.mk hc1_1
 clear hr1_1 hc1_1
 have HB := Aside0.mk (Below.refl w.heap.size w)
 have H : ((impl_within.f a1_0 1 3).bind fun t930 => (if t930 = true then (if a2 < 0 then (some (2, 0, 0)) else (if a1_0 = 2 then (impl_opCode.j0 k l0 a2 false a1_0 l1_1 a1_2 a1_3 a1_4) else ((impl_LabelOk.f a1_2).bind fun t931 => (impl_opCode.j0 k l0 a2 (!t931) a1_0 l1_1 a1_2 a1_3 a1_4)))) else (some (1, 0, 0)))) = some (r1, r2, r3) := h
 clear h
 replace H := Option.bind_eq_some_iff.mp H
 obtain ⟨t930, A40, H⟩ := H
 try dsimp only at H
 have A4 := Aside0.mk A40
 clear A40
 by_cases c5 : t930 = true
 ·subst c5
  have H1 : (if a2 < 0 then (some (2, 0, 0)) else (if a1_0 = 2 then (impl_opCode.j0 k l0 a2 false a1_0 l1_1 a1_2 a1_3 a1_4) else ((impl_LabelOk.f a1_2).bind fun t931 => (impl_opCode.j0 k l0 a2 (!t931) a1_0 l1_1 a1_2 a1_3 a1_4)))) = some (r1, r2, r3) := by rw [if_pos rfl] at H; exact H
  clear H
  have H := H1
  clear H1
  by_cases c6 : a2 < 0
  ·rw [if_pos c6] at H
   have c6b0 : decide (a2 < 0) = true := decide_eq_true c6
   clear c6
   simp only [Option.some.injEq, Prod.mk.injEq] at H
   obtain ⟨rfl, rfl, rfl⟩ := H
   go_enter Try.func104, Try.ntmps104
   go_wp2_with (first | ((with_reducible refine gate_dst (N := 4) rfl ?_); (try (refine gate_guard (by rfl) ?_; dsimp only)); refine bx_ 4 #[.int .i64 a1_0, .slice A1_1 l1_1.length c1_1, .int .i64 a1_2, .int .i64 a1_3, .int .i64 a1_4] 67 ?_; intro gb929 hg w7 hbox hb; have BK929 := Aside0.mk (hbox); have GW929 := Aside0.mk ((by rw [hg]; exact (bs_ HB) : w.heap.size ≤ gb929)); have GE929 := Aside0.mk ((by rw [hg]; exact (bs_ HB) : w.heap.size ≤ gb929)); replace HB := tB_ HB hb; clear hb hbox hg; obtain ⟨hcz8_0, hcz8_1, hcz8_2, hcz8_3, hcz8_4, hfz8_0, hfz8_1, hfz8_2, hfz8_3, hfz8_4⟩ := bk5_ BK929) | (go_at_call 117; (with_reducible refine (impl_within.calls a1_0 1 3 true _ A4.out).mono ?_); rintro e w' ⟨rfl, ⟨nd, rfl⟩⟩; (try first | exact ⟨rfl, _, World.drewN_drewN _ _ _⟩ | exact ⟨rfl, _, Eq.trans (World.drewN_drewN _ _ _) (congrArg (World.drewN _) (Nat.add_assoc _ _ _))⟩)))
   repeat (go_quiet (first | ((with_reducible refine gate_dst (N := 4) rfl ?_); (try (refine gate_guard (by rfl) ?_; dsimp only)); refine bx_ 4 #[.int .i64 a1_0, .slice A1_1 l1_1.length c1_1, .int .i64 a1_2, .int .i64 a1_3, .int .i64 a1_4] 67 ?_; intro gb929 hg w7 hbox hb; have BK929 := Aside0.mk (hbox); have GW929 := Aside0.mk ((by rw [hg]; exact (bs_ HB) : w.heap.size ≤ gb929)); have GE929 := Aside0.mk ((by rw [hg]; exact (bs_ HB) : w.heap.size ≤ gb929)); replace HB := tB_ HB hb; clear hb hbox hg; obtain ⟨hcz8_0, hcz8_1, hcz8_2, hcz8_3, hcz8_4, hfz8_0, hfz8_1, hfz8_2, hfz8_3, hfz8_4⟩ := bk5_ BK929) | (go_at_call 117; (with_reducible refine (impl_within.calls a1_0 1 3 true _ A4.out).mono ?_); rintro e w' ⟨rfl, ⟨nd, rfl⟩⟩; (try first | exact ⟨rfl, _, World.drewN_drewN _ _ _⟩ | exact ⟨rfl, _, Eq.trans (World.drewN_drewN _ _ _) (congrArg (World.drewN _) (Nat.add_assoc _ _ _))⟩))); try go_wp2_with (first | ((with_reducible refine gate_dst (N := 4) rfl ?_); (try (refine gate_guard (by rfl) ?_; dsimp only)); refine bx_ 4 #[.int .i64 a1_0, .slice A1_1 l1_1.length c1_1, .int .i64 a1_2, .int .i64 a1_3, .int .i64 a1_4] 67 ?_; intro gb929 hg w7 hbox hb; have BK929 := Aside0.mk (hbox); have GW929 := Aside0.mk ((by rw [hg]; exact (bs_ HB) : w.heap.size ≤ gb929)); have GE929 := Aside0.mk ((by rw [hg]; exact (bs_ HB) : w.heap.size ≤ gb929)); replace HB := tB_ HB hb; clear hb hbox hg; obtain ⟨hcz8_0, hcz8_1, hcz8_2, hcz8_3, hcz8_4, hfz8_0, hfz8_1, hfz8_2, hfz8_3, hfz8_4⟩ := bk5_ BK929) | (go_at_call 117; (with_reducible refine (impl_within.calls a1_0 1 3 true _ A4.out).mono ?_); rintro e w' ⟨rfl, ⟨nd, rfl⟩⟩; (try first | exact ⟨rfl, _, World.drewN_drewN _ _ _⟩ | exact ⟨rfl, _, Eq.trans (World.drewN_drewN _ _ _) (congrArg (World.drewN _) (Nat.add_assoc _ _ _))⟩))))
   go_ret3
   exact ⟨ea_, (bl_ HB).out⟩
  ·rw [if_neg c6] at H
   have c6b0 : decide (a2 < 0) = false := decide_eq_false c6
   clear c6
   have HC9 := Aside0.mk H
   clear H
   go_enter Try.func104, Try.ntmps104
   go_upto_region 5 with (first | ((with_reducible refine gate_dst (N := 4) rfl ?_); (try (refine gate_guard (by rfl) ?_; dsimp only)); refine bx_ 4 #[.int .i64 a1_0, .slice A1_1 l1_1.length c1_1, .int .i64 a1_2, .int .i64 a1_3, .int .i64 a1_4] 67 ?_; intro gb929 hg w10 hbox hb; have BK929 := Aside0.mk (hbox); have GW929 := Aside0.mk ((by rw [hg]; exact (bs_ HB) : w.heap.size ≤ gb929)); have GE929 := Aside0.mk ((by rw [hg]; exact (bs_ HB) : w.heap.size ≤ gb929)); replace HB := tB_ HB hb; clear hb hbox hg; obtain ⟨hcz11_0, hcz11_1, hcz11_2, hcz11_3, hcz11_4, hfz11_0, hfz11_1, hfz11_2, hfz11_3, hfz11_4⟩ := bk5_ BK929) | (go_at_call 117; (with_reducible refine (impl_within.calls a1_0 1 3 true _ A4.out).mono ?_); rintro e w' ⟨rfl, ⟨nd, rfl⟩⟩; (try first | exact ⟨rfl, _, World.drewN_drewN _ _ _⟩ | exact ⟨rfl, _, Eq.trans (World.drewN_drewN _ _ _) (congrArg (World.drewN _) (Nat.add_assoc _ _ _))⟩)))
   repeat (go_quiet (first | ((with_reducible refine gate_dst (N := 4) rfl ?_); (try (refine gate_guard (by rfl) ?_; dsimp only)); refine bx_ 4 #[.int .i64 a1_0, .slice A1_1 l1_1.length c1_1, .int .i64 a1_2, .int .i64 a1_3, .int .i64 a1_4] 67 ?_; intro gb929 hg w10 hbox hb; have BK929 := Aside0.mk (hbox); have GW929 := Aside0.mk ((by rw [hg]; exact (bs_ HB) : w.heap.size ≤ gb929)); have GE929 := Aside0.mk ((by rw [hg]; exact (bs_ HB) : w.heap.size ≤ gb929)); replace HB := tB_ HB hb; clear hb hbox hg; obtain ⟨hcz11_0, hcz11_1, hcz11_2, hcz11_3, hcz11_4, hfz11_0, hfz11_1, hfz11_2, hfz11_3, hfz11_4⟩ := bk5_ BK929) | (go_at_call 117; (with_reducible refine (impl_within.calls a1_0 1 3 true _ A4.out).mono ?_); rintro e w' ⟨rfl, ⟨nd, rfl⟩⟩; (try first | exact ⟨rfl, _, World.drewN_drewN _ _ _⟩ | exact ⟨rfl, _, Eq.trans (World.drewN_drewN _ _ _) (congrArg (World.drewN _) (Nat.add_assoc _ _ _))⟩))); go_upto_region 5 with (first | ((with_reducible refine gate_dst (N := 4) rfl ?_); (try (refine gate_guard (by rfl) ?_; dsimp only)); refine bx_ 4 #[.int .i64 a1_0, .slice A1_1 l1_1.length c1_1, .int .i64 a1_2, .int .i64 a1_3, .int .i64 a1_4] 67 ?_; intro gb929 hg w10 hbox hb; have BK929 := Aside0.mk (hbox); have GW929 := Aside0.mk ((by rw [hg]; exact (bs_ HB) : w.heap.size ≤ gb929)); have GE929 := Aside0.mk ((by rw [hg]; exact (bs_ HB) : w.heap.size ≤ gb929)); replace HB := tB_ HB hb; clear hb hbox hg; obtain ⟨hcz11_0, hcz11_1, hcz11_2, hcz11_3, hcz11_4, hfz11_0, hfz11_1, hfz11_2, hfz11_3, hfz11_4⟩ := bk5_ BK929) | (go_at_call 117; (with_reducible refine (impl_within.calls a1_0 1 3 true _ A4.out).mono ?_); rintro e w' ⟨rfl, ⟨nd, rfl⟩⟩; (try first | exact ⟨rfl, _, World.drewN_drewN _ _ _⟩ | exact ⟨rfl, _, Eq.trans (World.drewN_drewN _ _ _) (congrArg (World.drewN _) (Nat.add_assoc _ _ _))⟩))))
   (try simp only [Act.put, List.setIfInBounds_toArray, List.set_cons_zero, List.set_cons_succ])
   go_cut [22] (fun v22 wc => ∃ (kq : Nat) (x22_8 : Bool), v22 = .bool x22_8 ∧ Aside0 (impl_opCode.j0 kq l0 a2 x22_8 a1_0 l1_1 a1_2 a1_3 a1_4 = some (r1, r2, r3)) ∧ Aside0 (kq ≤ k) ∧ Aside0 (wc.heap[gb929]? = some (.cells #[.int .i64 a1_0, (.slice A1_1 l1_1.length c1_1), .int .i64 a1_2, .int .i64 a1_3, .int .i64 a1_4] 67 (0, 0))) ∧ Aside0 (Below w.heap.size w wc))
   case first =>
    have H := HC9.out
    clear HC9
    by_cases c12 : a1_0 = 2
    ·rw [if_pos c12] at H
     have c12b0 : (a1_0 == 2) = true := beq_iff_eq.mpr c12
     have c12b1 : (a1_0 != 2) = false := bne_eq_false_iff_eq.mpr c12
     clear c12
     (first | rw [c12b0] | (simp only [i64_w, i32_w]; rw [c12b0]) | skip)
     have H' := Aside0.mk H
     clear H
     have hcz13_0 : w10.cell? ⟨gb929, 0, none⟩ = some (.int .i64 a1_0) := (blk_cell BK929.out 0).trans rfl
     have hcz13_1 : w10.cell? ⟨gb929, 1, none⟩ = some (.slice A1_1 l1_1.length c1_1) := (blk_cell BK929.out 1).trans rfl
     have hcz13_2 : w10.cell? ⟨gb929, 2, none⟩ = some (.int .i64 a1_2) := (blk_cell BK929.out 2).trans rfl
     have hcz13_3 : w10.cell? ⟨gb929, 3, none⟩ = some (.int .i64 a1_3) := (blk_cell BK929.out 3).trans rfl
     have hcz13_4 : w10.cell? ⟨gb929, 4, none⟩ = some (.int .i64 a1_4) := (blk_cell BK929.out 4).trans rfl
     have hfz13_0 := blk_frozen BK929.out 0
     have hfz13_1 := blk_frozen BK929.out 1
     have hfz13_2 := blk_frozen BK929.out 2
     have hfz13_3 := blk_frozen BK929.out 3
     have hfz13_4 := blk_frozen BK929.out 4
     go_wp2
     repeat (go_quiet (fail); try go_wp2)
     go_meet
     case rel => exact ⟨_, (false), eb_, H', ⟨by first | omega | exact Nat.le_refl _⟩, ⟨kx_ BK929.out⟩, bl_ HB⟩
    ·rw [if_neg c12] at H
     have c12b0 : (a1_0 == 2) = false := beq_eq_false_iff_ne.mpr c12
     have c12b1 : (a1_0 != 2) = true := bne_iff_ne.mpr c12
     (first | rw [c12b0] | (simp only [i64_w, i32_w]; rw [c12b0]) | skip)
     replace H := Option.bind_eq_some_iff.mp H
     obtain ⟨t931, A140, H⟩ := H
     replace H : (impl_opCode.j0 k l0 a2 (!t931) a1_0 l1_1 a1_2 a1_3 a1_4) = some (r1, r2, r3) := H
     have A14 := Aside0.mk A140
     clear A140
     have H' := Aside0.mk H
     clear H
     have hcz15_0 : w10.cell? ⟨gb929, 0, none⟩ = some (.int .i64 a1_0) := (blk_cell BK929.out 0).trans rfl
     have hcz15_1 : w10.cell? ⟨gb929, 1, none⟩ = some (.slice A1_1 l1_1.length c1_1) := (blk_cell BK929.out 1).trans rfl
     have hcz15_2 : w10.cell? ⟨gb929, 2, none⟩ = some (.int .i64 a1_2) := (blk_cell BK929.out 2).trans rfl
     have hcz15_3 : w10.cell? ⟨gb929, 3, none⟩ = some (.int .i64 a1_3) := (blk_cell BK929.out 3).trans rfl
     have hcz15_4 : w10.cell? ⟨gb929, 4, none⟩ = some (.int .i64 a1_4) := (blk_cell BK929.out 4).trans rfl
     have hfz15_0 := blk_frozen BK929.out 0
     have hfz15_1 := blk_frozen BK929.out 1
     have hfz15_2 := blk_frozen BK929.out 2
     have hfz15_3 := blk_frozen BK929.out 3
     have hfz15_4 := blk_frozen BK929.out 4
     go_wp2_with (first | (go_at_call 128; (with_reducible refine (impl_LabelOk.calls a1_2 t931 _ A14.out).mono ?_); rintro e w' ⟨rfl, ⟨nd, rfl⟩⟩; (try first | exact ⟨rfl, _, World.drewN_drewN _ _ _⟩ | exact ⟨rfl, _, Eq.trans (World.drewN_drewN _ _ _) (congrArg (World.drewN _) (Nat.add_assoc _ _ _))⟩)))
     repeat (go_quiet (first | (go_at_call 128; (with_reducible refine (impl_LabelOk.calls a1_2 t931 _ A14.out).mono ?_); rintro e w' ⟨rfl, ⟨nd, rfl⟩⟩; (try first | exact ⟨rfl, _, World.drewN_drewN _ _ _⟩ | exact ⟨rfl, _, Eq.trans (World.drewN_drewN _ _ _) (congrArg (World.drewN _) (Nat.add_assoc _ _ _))⟩))); try go_wp2_with (first | (go_at_call 128; (with_reducible refine (impl_LabelOk.calls a1_2 t931 _ A14.out).mono ?_); rintro e w' ⟨rfl, ⟨nd, rfl⟩⟩; (try first | exact ⟨rfl, _, World.drewN_drewN _ _ _⟩ | exact ⟨rfl, _, Eq.trans (World.drewN_drewN _ _ _) (congrArg (World.drewN _) (Nat.add_assoc _ _ _))⟩))))
     go_meet
     case rel => exact ⟨_, (!t931), eb_, H', ⟨by first | omega | exact Nat.le_refl _⟩, ⟨kx_ BK929.out⟩, bl_ HB⟩
   case rest =>
    clear HC9
    try clear c1
    try clear p2
    try clear c5
    try clear c6
    try clear c6b0
    try clear c10
    try clear c12
    try clear c12b0
    try clear c12b1
    try clear hcz11_0
    try clear hcz11_1
    try clear hcz11_2
    try clear hcz11_3
    try clear hcz11_4
    try clear hcz13_0
    try clear hcz13_1
    try clear hcz13_2
    try clear hcz13_3
    try clear hcz13_4
    try clear hcz15_0
    try clear hcz15_1
    try clear hcz15_2
    try clear hcz15_3
    try clear hcz15_4
    try clear hcz8_0
    try clear hcz8_1
    try clear hcz8_2
    try clear hcz8_3
    try clear hcz8_4
    try clear hfz11_0
    try clear hfz11_1
    try clear hfz11_2
    try clear hfz11_3
    try clear hfz11_4
    try clear hfz13_0
    try clear hfz13_1
    try clear hfz13_2
    try clear hfz13_3
    try clear hfz13_4
    try clear hfz15_0
    try clear hfz15_1
    try clear hfz15_2
    try clear hfz15_3
    try clear hfz15_4
    try clear hfz8_0
    try clear hfz8_1
    try clear hfz8_2
    try clear hfz8_3
    try clear hfz8_4
    obtain ⟨kq, x22_8, rfl, HA, HJ8, BK929, HB⟩ := hcut
    cases kq with
    | zero => exact absurd HA.out (by simp [impl_opCode.j0])
    | succ kj8 =>
     have H := HA.out
     clear HA
     simp only [impl_opCode.j0] at H
     by_cases c16 : x22_8 = true
     ·subst c16
      have H1 : (some (3, 0, 0)) = some (r1, r2, r3) := by rw [if_pos rfl] at H; exact H
      clear H
      have H := H1
      clear H1
      simp only [Option.some.injEq, Prod.mk.injEq] at H
      obtain ⟨rfl, rfl, rfl⟩ := H
      go_wp2
      repeat (go_quiet (fail); try go_wp2)
      go_ret3
      exact ⟨ea_, (bl_ HB).out⟩
     ·replace c16 := Bool.eq_false_iff.mpr c16
      subst c16
      have H1 : (if a1_0 = 2 then (impl_opCode.j1 kj8 l0 a2 (a2 == 0) a1_0 l1_1 a1_2 a1_3 a1_4) else (impl_opCode.j1 kj8 l0 a2 false a1_0 l1_1 a1_2 a1_3 a1_4)) = some (r1, r2, r3) := by rw [if_neg (show ¬ (false = true) by decide)] at H; exact H
      clear H
      have H := H1
      clear H1
      have HC17 := Aside0.mk H
      clear H
      go_upto_region 7 with (fail)
      repeat (go_quiet (fail); go_upto_region 7 with (fail))
      go_cut [32] (fun v32 wc => ∃ (kq : Nat) (x32_16 : Bool), v32 = .bool x32_16 ∧ Aside0 (impl_opCode.j1 kq l0 a2 x32_16 a1_0 l1_1 a1_2 a1_3 a1_4 = some (r1, r2, r3)) ∧ Aside0 (kq ≤ kj8) ∧ Aside0 (wc.heap[gb929]? = some (.cells #[.int .i64 a1_0, (.slice A1_1 l1_1.length c1_1), .int .i64 a1_2, .int .i64 a1_3, .int .i64 a1_4] 67 (0, 0))) ∧ Aside0 (Below w.heap.size w wc))
      case first =>
       have H := HC17.out
       clear HC17
       by_cases c18 : a1_0 = 2
       ·rw [if_pos c18] at H
        have c18b0 : (a1_0 == 2) = true := beq_iff_eq.mpr c18
        have c18b1 : (a1_0 != 2) = false := bne_eq_false_iff_eq.mpr c18
        clear c18
        (first | rw [c18b0] | (simp only [i64_w, i32_w]; rw [c18b0]) | skip)
        have H' := Aside0.mk H
        clear H
        have hcz19_0 : wc.cell? ⟨gb929, 0, none⟩ = some (.int .i64 a1_0) := (blk_cell BK929.out 0).trans rfl
        have hcz19_1 : wc.cell? ⟨gb929, 1, none⟩ = some (.slice A1_1 l1_1.length c1_1) := (blk_cell BK929.out 1).trans rfl
        have hcz19_2 : wc.cell? ⟨gb929, 2, none⟩ = some (.int .i64 a1_2) := (blk_cell BK929.out 2).trans rfl
        have hcz19_3 : wc.cell? ⟨gb929, 3, none⟩ = some (.int .i64 a1_3) := (blk_cell BK929.out 3).trans rfl
        have hcz19_4 : wc.cell? ⟨gb929, 4, none⟩ = some (.int .i64 a1_4) := (blk_cell BK929.out 4).trans rfl
        have hfz19_0 := blk_frozen BK929.out 0
        have hfz19_1 := blk_frozen BK929.out 1
        have hfz19_2 := blk_frozen BK929.out 2
        have hfz19_3 := blk_frozen BK929.out 3
        have hfz19_4 := blk_frozen BK929.out 4
        go_wp2
        repeat (go_quiet (fail); try go_wp2)
        go_meet
        case rel => exact ⟨_, ((a2 == 0)), eb_, H', ⟨by have := HJ8.out; first | omega | exact Nat.le_refl _⟩, ⟨kx_ BK929.out⟩, bl_ HB⟩
       ·rw [if_neg c18] at H
        have c18b0 : (a1_0 == 2) = false := beq_eq_false_iff_ne.mpr c18
        have c18b1 : (a1_0 != 2) = true := bne_iff_ne.mpr c18
        (first | rw [c18b0] | (simp only [i64_w, i32_w]; rw [c18b0]) | skip)
        have H' := Aside0.mk H
        clear H
        have hcz20_0 : wc.cell? ⟨gb929, 0, none⟩ = some (.int .i64 a1_0) := (blk_cell BK929.out 0).trans rfl
        have hcz20_1 : wc.cell? ⟨gb929, 1, none⟩ = some (.slice A1_1 l1_1.length c1_1) := (blk_cell BK929.out 1).trans rfl
        have hcz20_2 : wc.cell? ⟨gb929, 2, none⟩ = some (.int .i64 a1_2) := (blk_cell BK929.out 2).trans rfl
        have hcz20_3 : wc.cell? ⟨gb929, 3, none⟩ = some (.int .i64 a1_3) := (blk_cell BK929.out 3).trans rfl
        have hcz20_4 : wc.cell? ⟨gb929, 4, none⟩ = some (.int .i64 a1_4) := (blk_cell BK929.out 4).trans rfl
        have hfz20_0 := blk_frozen BK929.out 0
        have hfz20_1 := blk_frozen BK929.out 1
        have hfz20_2 := blk_frozen BK929.out 2
        have hfz20_3 := blk_frozen BK929.out 3
        have hfz20_4 := blk_frozen BK929.out 4
        go_wp2
        repeat (go_quiet (fail); try go_wp2)
        go_meet
        case rel => exact ⟨_, (false), eb_, H', ⟨by have := HJ8.out; first | omega | exact Nat.le_refl _⟩, ⟨kx_ BK929.out⟩, bl_ HB⟩
      case rest =>
       clear HC17
       try clear c1
       try clear p2
       try clear c5
       try clear c6
       try clear c6b0
       try clear c10
       try clear c12
       try clear c12b0
       try clear c12b1
       try clear c16
       try clear c18
       try clear c18b0
       try clear c18b1
       try clear hcz11_0
       try clear hcz11_1
       try clear hcz11_2
       try clear hcz11_3
       try clear hcz11_4
       try clear hcz13_0
       try clear hcz13_1
       try clear hcz13_2
       try clear hcz13_3
       try clear hcz13_4
       try clear hcz15_0
       try clear hcz15_1
       try clear hcz15_2
       try clear hcz15_3
       try clear hcz15_4
       try clear hcz19_0
       try clear hcz19_1
       try clear hcz19_2
       try clear hcz19_3
       try clear hcz19_4
       try clear hcz20_0
       try clear hcz20_1
       try clear hcz20_2
       try clear hcz20_3
       try clear hcz20_4
       try clear hcz8_0
       try clear hcz8_1
       try clear hcz8_2
       try clear hcz8_3
       try clear hcz8_4
       try clear hfz11_0
       try clear hfz11_1
       try clear hfz11_2
       try clear hfz11_3
       try clear hfz11_4
       try clear hfz13_0
       try clear hfz13_1
       try clear hfz13_2
       try clear hfz13_3
       try clear hfz13_4
       try clear hfz15_0
       try clear hfz15_1
       try clear hfz15_2
       try clear hfz15_3
       try clear hfz15_4
       try clear hfz19_0
       try clear hfz19_1
       try clear hfz19_2
       try clear hfz19_3
       try clear hfz19_4
       try clear hfz20_0
       try clear hfz20_1
       try clear hfz20_2
       try clear hfz20_3
       try clear hfz20_4
       try clear hfz8_0
       try clear hfz8_1
       try clear hfz8_2
       try clear hfz8_3
       try clear hfz8_4
       try clear p2
       obtain ⟨kq, x32_16, rfl, HA, HJ16, BK929, HB⟩ := hcut
       cases kq with
       | zero => exact absurd HA.out (by simp [impl_opCode.j1])
       | succ kj16 =>
        have H := HA.out
        clear HA
        simp only [impl_opCode.j1] at H
        by_cases c21 : x32_16 = true
        ·subst c21
         have H1 : (some (4, 0, 0)) = some (r1, r2, r3) := by rw [if_pos rfl] at H; exact H
         clear H
         have H := H1
         clear H1
         simp only [Option.some.injEq, Prod.mk.injEq] at H
         obtain ⟨rfl, rfl, rfl⟩ := H
         go_wp2
         repeat (go_quiet (fail); try go_wp2)
         go_ret3
         exact ⟨ea_, (bl_ HB).out⟩
        ·replace c21 := Bool.eq_false_iff.mpr c21
         subst c21
         have H1 : (if a1_0 = 3 then ((impl_KidsOf.f kj16 l0 a2).bind fun t932 => ((impl_within.f a1_3 0 (t932.length : Int)).bind fun t935 => (if t935 = true then ((impl_within.f a1_4 0 (wrap64 ((t932.length : Int) - a1_3))).bind fun t936 => (impl_opCode.j2 kj16 l0 a2 t932 (!t936) a1_0 l1_1 a1_2 a1_3 a1_4)) else (impl_opCode.j2 kj16 l0 a2 t932 true a1_0 l1_1 a1_2 a1_3 a1_4)))) else (some (0, 0, 0))) = some (r1, r2, r3) := by rw [if_neg (show ¬ (false = true) by decide)] at H; exact H
         clear H
         have H := H1
         clear H1
         by_cases c22 : a1_0 = 3
         ·rw [if_pos c22] at H
          have c22b0 : (a1_0 == 3) = true := beq_iff_eq.mpr c22
          have c22b1 : (a1_0 != 3) = false := bne_eq_false_iff_eq.mpr c22
          clear c22
          replace H := Option.bind_eq_some_iff.mp H
          obtain ⟨t932, A230, H⟩ := H
          try dsimp only at H
          have A23 := Aside0.mk A230
          clear A230
          have HC24 := Aside0.mk H
          clear H
          have hcz25_0 : wc.cell? ⟨gb929, 0, none⟩ = some (.int .i64 a1_0) := (blk_cell BK929.out 0).trans rfl
          have hcz25_1 : wc.cell? ⟨gb929, 1, none⟩ = some (.slice A1_1 l1_1.length c1_1) := (blk_cell BK929.out 1).trans rfl
          have hcz25_2 : wc.cell? ⟨gb929, 2, none⟩ = some (.int .i64 a1_2) := (blk_cell BK929.out 2).trans rfl
          have hcz25_3 : wc.cell? ⟨gb929, 3, none⟩ = some (.int .i64 a1_3) := (blk_cell BK929.out 3).trans rfl
          have hcz25_4 : wc.cell? ⟨gb929, 4, none⟩ = some (.int .i64 a1_4) := (blk_cell BK929.out 4).trans rfl
          have hfz25_0 := blk_frozen BK929.out 0
          have hfz25_1 := blk_frozen BK929.out 1
          have hfz25_2 := blk_frozen BK929.out 2
          have hfz25_3 := blk_frozen BK929.out 3
          have hfz25_4 := blk_frozen BK929.out 4
          go_upto_region 12 with (first | (go_at_call 122; (with_reducible refine (impl_KidsOf.calls kj16 _ _ l0 a2 t932 _ (cx_ HR0 HB) HC0.out A23.out).mono ?_); rintro e w26 ⟨v933, rfl, ho0, hb⟩; have HO934 := Aside0.mk (Kd.R_lower ho0 (bs_ HB)); replace BK929 := tK_ BK929 hb; replace HB := tB_ HB hb; (try clear hb); (try clear ho0)))
          repeat (go_quiet (first | (go_at_call 122; (with_reducible refine (impl_KidsOf.calls kj16 _ _ l0 a2 t932 _ (cx_ HR0 HB) HC0.out A23.out).mono ?_); rintro e w26 ⟨v933, rfl, ho0, hb⟩; have HO934 := Aside0.mk (Kd.R_lower ho0 (bs_ HB)); replace BK929 := tK_ BK929 hb; replace HB := tB_ HB hb; (try clear hb); (try clear ho0))); go_upto_region 12 with (first | (go_at_call 122; (with_reducible refine (impl_KidsOf.calls kj16 _ _ l0 a2 t932 _ (cx_ HR0 HB) HC0.out A23.out).mono ?_); rintro e w26 ⟨v933, rfl, ho0, hb⟩; have HO934 := Aside0.mk (Kd.R_lower ho0 (bs_ HB)); replace BK929 := tK_ BK929 hb; replace HB := tB_ HB hb; (try clear hb); (try clear ho0))))
          (try simp only [Act.put, List.setIfInBounds_toArray, List.set_cons_zero, List.set_cons_succ])
          go_cut [63] (fun v63 wc => ∃ (kq : Nat) (x63_23 : Bool), v63 = .bool x63_23 ∧ Aside0 (impl_opCode.j2 kq l0 a2 t932 x63_23 a1_0 l1_1 a1_2 a1_3 a1_4 = some (r1, r2, r3)) ∧ Aside0 (kq ≤ kj16) ∧ Aside0 (Kd.R (Kd.int .i64) 3 wc w.heap.size (fun _ => True) v933 t932) ∧ Aside0 (wc.heap[gb929]? = some (.cells #[.int .i64 a1_0, (.slice A1_1 l1_1.length c1_1), .int .i64 a1_2, .int .i64 a1_3, .int .i64 a1_4] 67 (0, 0))) ∧ Aside0 (Below w.heap.size w wc))
          case first =>
           have H := HC24.out
           clear HC24
           replace H := Option.bind_eq_some_iff.mp H
           obtain ⟨t935, A270, H⟩ := H
           try dsimp only at H
           have A27 := Aside0.mk A270
           clear A270
           by_cases c28 : t935 = true
           ·subst c28
            have H1 : ((impl_within.f a1_4 0 (wrap64 ((t932.length : Int) - a1_3))).bind fun t936 => (impl_opCode.j2 kj16 l0 a2 t932 (!t936) a1_0 l1_1 a1_2 a1_3 a1_4)) = some (r1, r2, r3) := by rw [if_pos rfl] at H; exact H
            clear H
            have H := H1
            clear H1
            replace H := Option.bind_eq_some_iff.mp H
            obtain ⟨t936, A290, H⟩ := H
            replace H : (impl_opCode.j2 kj16 l0 a2 t932 (!t936) a1_0 l1_1 a1_2 a1_3 a1_4) = some (r1, r2, r3) := H
            have A29 := Aside0.mk A290
            clear A290
            have H' := Aside0.mk H
            clear H
            have hcz30_0 : w26.cell? ⟨gb929, 0, none⟩ = some (.int .i64 a1_0) := (blk_cell BK929.out 0).trans rfl
            have hcz30_1 : w26.cell? ⟨gb929, 1, none⟩ = some (.slice A1_1 l1_1.length c1_1) := (blk_cell BK929.out 1).trans rfl
            have hcz30_2 : w26.cell? ⟨gb929, 2, none⟩ = some (.int .i64 a1_2) := (blk_cell BK929.out 2).trans rfl
            have hcz30_3 : w26.cell? ⟨gb929, 3, none⟩ = some (.int .i64 a1_3) := (blk_cell BK929.out 3).trans rfl
            have hcz30_4 : w26.cell? ⟨gb929, 4, none⟩ = some (.int .i64 a1_4) := (blk_cell BK929.out 4).trans rfl
            have hfz30_0 := blk_frozen BK929.out 0
            have hfz30_1 := blk_frozen BK929.out 1
            have hfz30_2 := blk_frozen BK929.out 2
            have hfz30_3 := blk_frozen BK929.out 3
            have hfz30_4 := blk_frozen BK929.out 4
            obtain ⟨Ao31, co31, eo31⟩ := Kd.R_slice HO934.out
            subst eo31
            go_wp2_with (first | (go_at_call 117; (with_reducible refine (impl_within.calls a1_3 0 (t932.length : Int) true _ A27.out).mono ?_); rintro e w' ⟨rfl, ⟨nd, rfl⟩⟩; (try first | exact ⟨rfl, _, World.drewN_drewN _ _ _⟩ | exact ⟨rfl, _, Eq.trans (World.drewN_drewN _ _ _) (congrArg (World.drewN _) (Nat.add_assoc _ _ _))⟩)) | (go_at_call 117; (with_reducible refine (impl_within.calls a1_4 0 (wrap64 ((t932.length : Int) - a1_3)) t936 _ A29.out).mono ?_); rintro e w' ⟨rfl, ⟨nd, rfl⟩⟩; (try first | exact ⟨rfl, _, World.drewN_drewN _ _ _⟩ | exact ⟨rfl, _, Eq.trans (World.drewN_drewN _ _ _) (congrArg (World.drewN _) (Nat.add_assoc _ _ _))⟩)))
            repeat (go_quiet (first | (go_at_call 117; (with_reducible refine (impl_within.calls a1_3 0 (t932.length : Int) true _ A27.out).mono ?_); rintro e w' ⟨rfl, ⟨nd, rfl⟩⟩; (try first | exact ⟨rfl, _, World.drewN_drewN _ _ _⟩ | exact ⟨rfl, _, Eq.trans (World.drewN_drewN _ _ _) (congrArg (World.drewN _) (Nat.add_assoc _ _ _))⟩)) | (go_at_call 117; (with_reducible refine (impl_within.calls a1_4 0 (wrap64 ((t932.length : Int) - a1_3)) t936 _ A29.out).mono ?_); rintro e w' ⟨rfl, ⟨nd, rfl⟩⟩; (try first | exact ⟨rfl, _, World.drewN_drewN _ _ _⟩ | exact ⟨rfl, _, Eq.trans (World.drewN_drewN _ _ _) (congrArg (World.drewN _) (Nat.add_assoc _ _ _))⟩))); try go_wp2_with (first | (go_at_call 117; (with_reducible refine (impl_within.calls a1_3 0 (t932.length : Int) true _ A27.out).mono ?_); rintro e w' ⟨rfl, ⟨nd, rfl⟩⟩; (try first | exact ⟨rfl, _, World.drewN_drewN _ _ _⟩ | exact ⟨rfl, _, Eq.trans (World.drewN_drewN _ _ _) (congrArg (World.drewN _) (Nat.add_assoc _ _ _))⟩)) | (go_at_call 117; (with_reducible refine (impl_within.calls a1_4 0 (wrap64 ((t932.length : Int) - a1_3)) t936 _ A29.out).mono ?_); rintro e w' ⟨rfl, ⟨nd, rfl⟩⟩; (try first | exact ⟨rfl, _, World.drewN_drewN _ _ _⟩ | exact ⟨rfl, _, Eq.trans (World.drewN_drewN _ _ _) (congrArg (World.drewN _) (Nat.add_assoc _ _ _))⟩))))
            go_meet
            case rel => exact ⟨_, (!t936), eb_, H', ⟨by have := HJ8.out; have := HJ16.out; first | omega | exact Nat.le_refl _⟩, ⟨rx_ HO934.out⟩, ⟨kx_ BK929.out⟩, bl_ HB⟩
           ·replace c28 := Bool.eq_false_iff.mpr c28
            subst c28
            have H1 : (impl_opCode.j2 kj16 l0 a2 t932 true a1_0 l1_1 a1_2 a1_3 a1_4) = some (r1, r2, r3) := by rw [if_neg (show ¬ (false = true) by decide)] at H; exact H
            clear H
            have H := H1
            clear H1
            have H' := Aside0.mk H
            clear H
            have hcz32_0 : w26.cell? ⟨gb929, 0, none⟩ = some (.int .i64 a1_0) := (blk_cell BK929.out 0).trans rfl
            have hcz32_1 : w26.cell? ⟨gb929, 1, none⟩ = some (.slice A1_1 l1_1.length c1_1) := (blk_cell BK929.out 1).trans rfl
            have hcz32_2 : w26.cell? ⟨gb929, 2, none⟩ = some (.int .i64 a1_2) := (blk_cell BK929.out 2).trans rfl
            have hcz32_3 : w26.cell? ⟨gb929, 3, none⟩ = some (.int .i64 a1_3) := (blk_cell BK929.out 3).trans rfl
            have hcz32_4 : w26.cell? ⟨gb929, 4, none⟩ = some (.int .i64 a1_4) := (blk_cell BK929.out 4).trans rfl
            have hfz32_0 := blk_frozen BK929.out 0
            have hfz32_1 := blk_frozen BK929.out 1
            have hfz32_2 := blk_frozen BK929.out 2
            have hfz32_3 := blk_frozen BK929.out 3
            have hfz32_4 := blk_frozen BK929.out 4
            obtain ⟨Ao33, co33, eo33⟩ := Kd.R_slice HO934.out
            subst eo33
            go_wp2_with (first | (go_at_call 117; (with_reducible refine (impl_within.calls a1_3 0 (t932.length : Int) false _ A27.out).mono ?_); rintro e w' ⟨rfl, ⟨nd, rfl⟩⟩; (try first | exact ⟨rfl, _, World.drewN_drewN _ _ _⟩ | exact ⟨rfl, _, Eq.trans (World.drewN_drewN _ _ _) (congrArg (World.drewN _) (Nat.add_assoc _ _ _))⟩)))
            repeat (go_quiet (first | (go_at_call 117; (with_reducible refine (impl_within.calls a1_3 0 (t932.length : Int) false _ A27.out).mono ?_); rintro e w' ⟨rfl, ⟨nd, rfl⟩⟩; (try first | exact ⟨rfl, _, World.drewN_drewN _ _ _⟩ | exact ⟨rfl, _, Eq.trans (World.drewN_drewN _ _ _) (congrArg (World.drewN _) (Nat.add_assoc _ _ _))⟩))); try go_wp2_with (first | (go_at_call 117; (with_reducible refine (impl_within.calls a1_3 0 (t932.length : Int) false _ A27.out).mono ?_); rintro e w' ⟨rfl, ⟨nd, rfl⟩⟩; (try first | exact ⟨rfl, _, World.drewN_drewN _ _ _⟩ | exact ⟨rfl, _, Eq.trans (World.drewN_drewN _ _ _) (congrArg (World.drewN _) (Nat.add_assoc _ _ _))⟩))))
            go_meet
            case rel => exact ⟨_, (true), eb_, H', ⟨by have := HJ8.out; have := HJ16.out; first | omega | exact Nat.le_refl _⟩, ⟨rx_ HO934.out⟩, ⟨kx_ BK929.out⟩, bl_ HB⟩
          case rest =>
           clear HC24
           try clear c1
           try clear c2
           try clear p2
           try clear c5
           try clear c6
           try clear c6b0
           try clear p6
           try clear c10
           try clear c12
           try clear c12b0
           try clear c12b1
           try clear c16
           try clear c18
           try clear c18b0
           try clear c18b1
           try clear c21
           try clear c22
           try clear c22b0
           try clear c22b1
           try clear c28
           try clear hcz11_0
           try clear hcz11_1
           try clear hcz11_2
           try clear hcz11_3
           try clear hcz11_4
           try clear hcz13_0
           try clear hcz13_1
           try clear hcz13_2
           try clear hcz13_3
           try clear hcz13_4
           try clear hcz15_0
           try clear hcz15_1
           try clear hcz15_2
           try clear hcz15_3
           try clear hcz15_4
           try clear hcz19_0
           try clear hcz19_1
           try clear hcz19_2
           try clear hcz19_3
           try clear hcz19_4
           try clear hcz20_0
           try clear hcz20_1
           try clear hcz20_2
           try clear hcz20_3
           try clear hcz20_4
           try clear hcz25_0
           try clear hcz25_1
           try clear hcz25_2
           try clear hcz25_3
           try clear hcz25_4
           try clear hcz30_0
           try clear hcz30_1
           try clear hcz30_2
           try clear hcz30_3
           try clear hcz30_4
           try clear hcz32_0
           try clear hcz32_1
           try clear hcz32_2
           try clear hcz32_3
           try clear hcz32_4
           try clear hcz8_0
           try clear hcz8_1
           try clear hcz8_2
           try clear hcz8_3
           try clear hcz8_4
           try clear hfz11_0
           try clear hfz11_1
           try clear hfz11_2
           try clear hfz11_3
           try clear hfz11_4
           try clear hfz13_0
           try clear hfz13_1
           try clear hfz13_2
           try clear hfz13_3
           try clear hfz13_4
           try clear hfz15_0
           try clear hfz15_1
           try clear hfz15_2
           try clear hfz15_3
           try clear hfz15_4
           try clear hfz19_0
           try clear hfz19_1
           try clear hfz19_2
           try clear hfz19_3
           try clear hfz19_4
           try clear hfz20_0
           try clear hfz20_1
           try clear hfz20_2
           try clear hfz20_3
           try clear hfz20_4
           try clear hfz25_0
           try clear hfz25_1
           try clear hfz25_2
           try clear hfz25_3
           try clear hfz25_4
           try clear hfz30_0
           try clear hfz30_1
           try clear hfz30_2
           try clear hfz30_3
           try clear hfz30_4
           try clear hfz32_0
           try clear hfz32_1
           try clear hfz32_2
           try clear hfz32_3
           try clear hfz32_4
           try clear hfz8_0
           try clear hfz8_1
           try clear hfz8_2
           try clear hfz8_3
           try clear hfz8_4
           try clear p2
           obtain ⟨kq, x63_23, rfl, HA, HJ23, HO_9, BK929, HB⟩ := hcut
           cases kq with
           | zero => exact absurd HA.out (by simp [impl_opCode.j2])
           | succ kj23 =>
            have H := HA.out
            clear HA
            simp only [impl_opCode.j2] at H
            by_cases c34 : x63_23 = true
            ·subst c34
             have H1 : (some (5, 0, 0)) = some (r1, r2, r3) := by rw [if_pos rfl] at H; exact H
             clear H
             have H := H1
             clear H1
             simp only [Option.some.injEq, Prod.mk.injEq] at H
             obtain ⟨rfl, rfl, rfl⟩ := H
             go_wp2
             repeat (go_quiet (fail); try go_wp2)
             go_ret3
             exact ⟨ea_, (bl_ HB).out⟩
            ·replace c34 := Bool.eq_false_iff.mpr c34
             subst c34
             have H1 : ((impl_endOf.f kj23 l0 a2).bind fun t937 => (if t932.length < 17592186044416 then ((some (t932 ++ [t937] : List Int)).bind fun y938 => (if 0 ≤ a1_3 then (if a1_3 < (y938.length : Int) then (if 0 ≤ (wrap64 (a1_3 + a1_4)) then (if (wrap64 (a1_3 + a1_4)) < (y938.length : Int) then (if 0 ≤ a2 then (if a2 < (l0.length : Int) then (if 0 ≤ (rd y938 a1_3) then (if (rd y938 a1_3) ≤ (rd y938 (wrap64 (a1_3 + a1_4))) then (if (rd y938 (wrap64 (a1_3 + a1_4))) ≤ (l0.length : Int) then ((some ((l0.take ((rd y938 (wrap64 (a1_3 + a1_4))) : Int).toNat).drop ((rd y938 a1_3) : Int).toNat : List (S90))).bind fun y944 => (impl_opCode.l0 kj23 l0 (rd y938 a1_3) (rd y938 (wrap64 (a1_3 + a1_4))) (wrap64 (((rd_T90 l0 a2).f1) + 1)) y944 (y944.length : Int) 0)) else (none)) else (none)) else (none)) else (none)) else (none)) else (none)) else (none)) else (none)) else (none))) else (none))) = some (r1, r2, r3) := by rw [if_neg (show ¬ (false = true) by decide)] at H; exact H
             clear H
             have H := H1
             clear H1
             replace H := Option.bind_eq_some_iff.mp H
             obtain ⟨t937, A350, H⟩ := H
             try dsimp only at H
             have A35 := Aside0.mk A350
             clear A350
             by_cases c36 : t932.length < 17592186044416
             ·rw [if_pos c36] at H
              have LMc36 := Aside0.mk c36
              clear c36
              obtain ⟨y938, hy938⟩ : ∃ y_ : List Int, y_ = (t932 ++ [t937]) := ⟨_, rfl⟩
              replace H : (if 0 ≤ a1_3 then (if a1_3 < (y938.length : Int) then (if 0 ≤ (wrap64 (a1_3 + a1_4)) then (if (wrap64 (a1_3 + a1_4)) < (y938.length : Int) then (if 0 ≤ a2 then (if a2 < (l0.length : Int) then (if 0 ≤ (rd y938 a1_3) then (if (rd y938 a1_3) ≤ (rd y938 (wrap64 (a1_3 + a1_4))) then (if (rd y938 (wrap64 (a1_3 + a1_4))) ≤ (l0.length : Int) then ((some ((l0.take ((rd y938 (wrap64 (a1_3 + a1_4))) : Int).toNat).drop ((rd y938 a1_3) : Int).toNat : List (S90))).bind fun y944 => (impl_opCode.l0 kj23 l0 (rd y938 a1_3) (rd y938 (wrap64 (a1_3 + a1_4))) (wrap64 (((rd_T90 l0 a2).f1) + 1)) y944 (y944.length : Int) 0)) else (none)) else (none)) else (none)) else (none)) else (none)) else (none)) else (none)) else (none)) else (none)) = some (r1, r2, r3) := by first | (rw [hy938]; with_reducible exact H) | (have H2_ := (Option.bind_some _ _).symm.trans H; rw [hy938]; with_reducible exact H2_) | (have H2_ := (Option.bind_some _ _).symm.trans H; with_reducible exact H2_) | with_reducible exact H | (rw [hy938]; exact H) | exact H
              have Ny938 := Aside0.mk hy938
              clear hy938
              by_cases c37 : 0 ≤ a1_3
              ·rw [if_pos c37] at H
               have c37b0 : decide (0 ≤ a1_3) = true := decide_eq_true c37
               clear c37
               by_cases c38 : a1_3 < (y938.length : Int)
               ·rw [if_pos c38] at H
                have c38b0 : decide (a1_3 < (y938.length : Int)) = true := decide_eq_true c38
                clear c38
                obtain ⟨ji39, hji39⟩ : ∃ j_ : Int, (wrap64 (a1_3 + a1_4)) = j_ := ⟨_, rfl⟩
                replace H : (if 0 ≤ (ji39) then (if (ji39) < (y938.length : Int) then (if 0 ≤ a2 then (if a2 < (l0.length : Int) then (if 0 ≤ (rd y938 a1_3) then (if (rd y938 a1_3) ≤ (rd y938 (ji39)) then (if (rd y938 (ji39)) ≤ (l0.length : Int) then ((some ((l0.take ((rd y938 (ji39)) : Int).toNat).drop ((rd y938 a1_3) : Int).toNat : List (S90))).bind fun y944 => (impl_opCode.l0 kj23 l0 (rd y938 a1_3) (rd y938 (ji39)) (wrap64 (((rd_T90 l0 a2).f1) + 1)) y944 (y944.length : Int) 0)) else (none)) else (none)) else (none)) else (none)) else (none)) else (none)) else (none)) = some (r1, r2, r3) := by first | (rw [hji39] at H; exact H) | (simp only [hji39] at H ⊢; exact H)
                (try rw [hji39] at A35)
                have hji39w : (IntKind.i64.wrap (a1_3 + a1_4)) = ji39 := (i64_w _).trans hji39
                by_cases c40 : 0 ≤ (ji39)
                ·rw [if_pos c40] at H
                 have c40b0 : decide (0 ≤ (ji39)) = true := decide_eq_true c40
                 clear c40
                 by_cases c41 : (ji39) < (y938.length : Int)
                 ·rw [if_pos c41] at H
                  have c41b0 : decide ((ji39) < (y938.length : Int)) = true := decide_eq_true c41
                  clear c41
                  by_cases c42 : 0 ≤ a2
                  ·rw [if_pos c42] at H
                   have c42b0 : decide (0 ≤ a2) = true := decide_eq_true c42
                   clear c42
                   by_cases c43 : a2 < (l0.length : Int)
                   ·rw [if_pos c43] at H
                    have c43b0 : decide (a2 < (l0.length : Int)) = true := decide_eq_true c43
                    clear c43
                    by_cases c44 : 0 ≤ (rd y938 a1_3)
                    ·rw [if_pos c44] at H
                     have c44b0 := eq_true c44
                     have c44b1 : decide (0 ≤ (rd y938 a1_3)) = true := decide_eq_true c44
                     clear c44
                     by_cases c45 : (rd y938 a1_3) ≤ (rd y938 (ji39))
                     ·rw [if_pos c45] at H
                      have c45b0 := eq_true c45
                      have c45b1 : decide ((rd y938 a1_3) ≤ (rd y938 (ji39))) = true := decide_eq_true c45
                      clear c45
                      by_cases c46 : (rd y938 (ji39)) ≤ (l0.length : Int)
                      ·rw [if_pos c46] at H
                       have c46b0 := eq_true c46
                       have c46b1 : decide ((rd y938 (ji39)) ≤ (l0.length : Int)) = true := decide_eq_true c46
                       clear c46
                       obtain ⟨y944, hy944⟩ : ∃ y_ : List (S90), y_ = ((l0.take ((rd y938 (ji39)) : Int).toNat).drop ((rd y938 a1_3) : Int).toNat) := ⟨_, rfl⟩
                       replace H : (impl_opCode.l0 kj23 l0 (rd y938 a1_3) (rd y938 (ji39)) (wrap64 (((rd_T90 l0 a2).f1) + 1)) y944 (y944.length : Int) 0) = some (r1, r2, r3) := by first | (rw [hy944]; with_reducible exact H) | (have H2_ := (Option.bind_some _ _).symm.trans H; rw [hy944]; with_reducible exact H2_) | (have H2_ := (Option.bind_some _ _).symm.trans H; with_reducible exact H2_) | with_reducible exact H | (rw [hy944]; exact H) | exact H
                       have Ny944 := Aside0.mk hy944
                       clear hy944
                       have H' := Aside0.mk H
                       clear H
                       go_wp2_with (first | (go_at_call 105; (with_reducible refine (impl_endOf.calls kj23 _ _ l0 a2 t937 _ (cx_ HR0 HB) HC0.out A35.out).mono ?_); rintro e w' ⟨rfl, ⟨nd, rfl⟩⟩; (try first | exact ⟨rfl, _, World.drewN_drewN _ _ _⟩ | exact ⟨rfl, _, Eq.trans (World.drewN_drewN _ _ _) (congrArg (World.drewN _) (Nat.add_assoc _ _ _))⟩)) | ((with_reducible refine gate_builtin (b := .append) (xs := #[.tmp 64, .tmp 68]) rfl ?_); (try (refine gate_guard (by rfl) ?_; dsimp only)); at_builtin; refine Kd.R_append (Kd.int .i64) (w0 := w) w.heap.size rfl (.tmp 64) (.tmp 68) 39 3 (.int .i64 0) 8 rfl Try.underlying39 info3 rfl (by decide) (by omega) v933 t932 t937 [.int .i64 t937] (fun _ => True) (fun _ => False) rfl rfl ?aP (fun _ hk => hk.elim) ?aF ?aO ?aB ?aS ?aL ?_; (case aP => exact rfl); (case aB => exact ((bl_ HB).out)); (case aF => exact (fun _ _ => trivial)); (case aO => exact (rx_ HO_9.out)); (case aS => exact (bs_ HB)); (case aL => have := LMc36.out; omega); intro v939 w47 ho hb hg hat; rw [← Ny938.out] at ho; replace BK929 := Aside0.mk (blk_grown (g := gb929) (o := .cells #[.int .i64 a1_0, .slice A1_1 l1_1.length c1_1, .int .i64 a1_2, .int .i64 a1_3, .int .i64 a1_4] 67 (0, 0)) (kx_ BK929.out) hg (Kd.R_ne HO_9.out BK929.out (by decide))); replace HB := Aside0.mk (hb); have HO940 := Aside0.mk (ho); clear HO_9; clear ho hb hg hat; obtain ⟨hcz48_0, hcz48_1, hcz48_2, hcz48_3, hcz48_4, hfz48_0, hfz48_1, hfz48_2, hfz48_3, hfz48_4⟩ := bk5_ BK929; obtain ⟨Ao49, co49, eo49⟩ := Kd.R_slice HO940.out; subst eo49; have p941 : 0 ≤ (a1_3 : Int) := od_; have q941 : a1_3 < (y938.length : Int) := od_; obtain ⟨ad941, e941, hx941_0⟩ := Kd.at_int (Kd.R_reads' HO940.out).2.2 a1_3 p941 q941; cases e941; replace p941 := eq_true p941; replace q941 := eq_true q941; have p942 : 0 ≤ ((ji39) : Int) := od_; have q942 : (ji39) < (y938.length : Int) := od_; obtain ⟨ad942, e942, hx942_0⟩ := Kd.at_int (Kd.R_reads' HO940.out).2.2 (ji39) p942 q942; obtain rfl : ad941 = ad942 := (by injection e942); replace p942 := eq_true p942; replace q942 := eq_true q942; have p943 : 0 ≤ (a2 : Int) := od_; have q943 : a2 < (l0.length : Int) := od_; obtain ⟨ad943, e943, hx943_0, hx943_1⟩ := at_T90 HR0.out a2 p943 q943; cases e943; replace hx943_0 := ce_ HB hx943_0; replace hx943_1 := ce_ HB hx943_1; replace p943 := eq_true p943; replace q943 := eq_true q943; have q50 : ((rd y938 (ji39)) : Int) ≤ ((l0.length : Int) : Int) := od_; obtain ⟨i050, hi050, _, hsz50, _⟩ := info_parts info90; have hroom50 : l0.length ≤ c0 := HC0.out; have hC50 : Kd.C k90 _ (some ad943) l0.length l0 := HR0.out; have ql50 : ((rd y938 a1_3) : Int) ≤ ((rd y938 (ji39)) : Int) := od_; have q050 : (0 : Int) ≤ ((rd y938 a1_3) : Int) := od_; have hcut50 := cut_mid (P := Try.prog) 34 90 .i64 .i64 Try.underlying34 hi050 2 hsz50 (some ad943) l0.length c0 (rd y938 a1_3) (rd y938 (ji39)) q050 ql50 q50 hroom50; have hr50 := Kd.C_mid (lo := ((rd y938 a1_3) : Int).toNat) (hi := ((rd y938 (ji39)) : Int).toNat) (c := c0) hC50 (by omega) (by omega) hroom50; obtain ⟨A50, hA50⟩ : ∃ A1, A1 = (if c0 = ((rd y938 a1_3) : Int).toNat then (some ad943) else ((some ad943) : Option Addr).map (·.add (((rd y938 a1_3) : Int).toNat * 2))) := ⟨_, rfl⟩; obtain ⟨c50, hc50⟩ : ∃ c1, c1 = c0 - ((rd y938 a1_3) : Int).toNat := ⟨_, rfl⟩; have hy50 : y944.length = ((rd y938 (ji39)) : Int).toNat - ((rd y938 a1_3) : Int).toNat := (by rw [Ny944.out, List.length_drop, List.length_take] <;> omega); rw [show ((l0).take ((rd y938 (ji39)) : Int).toNat).drop ((rd y938 a1_3) : Int).toNat = y944 from Ny944.out.symm] at hr50; replace hr50 : Kd.C k90 _ A50 y944.length y944 := (by rw [hA50]; exact hr50); rw [← hy50, ← hA50, ← hc50] at hcut50; have HR947 := Aside0.mk hr50; have HC947 := Aside0.mk (show y944.length ≤ c50 from by rw [hy50, hc50]; exact Nat.sub_le_sub_right (Nat.le_trans (by omega) hroom50) _); clear hr50 hC50 hroom50 hi050 hsz50 hc50; have KY50 := Aside0.mk hy50; have KA50 := Aside0.mk hA50; clear hy50 hA50; replace q50 := eq_true q50))
                       repeat (go_quiet (first | (go_at_call 105; (with_reducible refine (impl_endOf.calls kj23 _ _ l0 a2 t937 _ (cx_ HR0 HB) HC0.out A35.out).mono ?_); rintro e w' ⟨rfl, ⟨nd, rfl⟩⟩; (try first | exact ⟨rfl, _, World.drewN_drewN _ _ _⟩ | exact ⟨rfl, _, Eq.trans (World.drewN_drewN _ _ _) (congrArg (World.drewN _) (Nat.add_assoc _ _ _))⟩)) | ((with_reducible refine gate_builtin (b := .append) (xs := #[.tmp 64, .tmp 68]) rfl ?_); (try (refine gate_guard (by rfl) ?_; dsimp only)); at_builtin; refine Kd.R_append (Kd.int .i64) (w0 := w) w.heap.size rfl (.tmp 64) (.tmp 68) 39 3 (.int .i64 0) 8 rfl Try.underlying39 info3 rfl (by decide) (by omega) v933 t932 t937 [.int .i64 t937] (fun _ => True) (fun _ => False) rfl rfl ?aP (fun _ hk => hk.elim) ?aF ?aO ?aB ?aS ?aL ?_; (case aP => exact rfl); (case aB => exact ((bl_ HB).out)); (case aF => exact (fun _ _ => trivial)); (case aO => exact (rx_ HO_9.out)); (case aS => exact (bs_ HB)); (case aL => have := LMc36.out; omega); intro v939 w47 ho hb hg hat; rw [← Ny938.out] at ho; replace BK929 := Aside0.mk (blk_grown (g := gb929) (o := .cells #[.int .i64 a1_0, .slice A1_1 l1_1.length c1_1, .int .i64 a1_2, .int .i64 a1_3, .int .i64 a1_4] 67 (0, 0)) (kx_ BK929.out) hg (Kd.R_ne HO_9.out BK929.out (by decide))); replace HB := Aside0.mk (hb); have HO940 := Aside0.mk (ho); clear HO_9; clear ho hb hg hat; obtain ⟨hcz48_0, hcz48_1, hcz48_2, hcz48_3, hcz48_4, hfz48_0, hfz48_1, hfz48_2, hfz48_3, hfz48_4⟩ := bk5_ BK929; obtain ⟨Ao49, co49, eo49⟩ := Kd.R_slice HO940.out; subst eo49; have p941 : 0 ≤ (a1_3 : Int) := od_; have q941 : a1_3 < (y938.length : Int) := od_; obtain ⟨ad941, e941, hx941_0⟩ := Kd.at_int (Kd.R_reads' HO940.out).2.2 a1_3 p941 q941; cases e941; replace p941 := eq_true p941; replace q941 := eq_true q941; have p942 : 0 ≤ ((ji39) : Int) := od_; have q942 : (ji39) < (y938.length : Int) := od_; obtain ⟨ad942, e942, hx942_0⟩ := Kd.at_int (Kd.R_reads' HO940.out).2.2 (ji39) p942 q942; obtain rfl : ad941 = ad942 := (by injection e942); replace p942 := eq_true p942; replace q942 := eq_true q942; have p943 : 0 ≤ (a2 : Int) := od_; have q943 : a2 < (l0.length : Int) := od_; obtain ⟨ad943, e943, hx943_0, hx943_1⟩ := at_T90 HR0.out a2 p943 q943; cases e943; replace hx943_0 := ce_ HB hx943_0; replace hx943_1 := ce_ HB hx943_1; replace p943 := eq_true p943; replace q943 := eq_true q943; have q50 : ((rd y938 (ji39)) : Int) ≤ ((l0.length : Int) : Int) := od_; obtain ⟨i050, hi050, _, hsz50, _⟩ := info_parts info90; have hroom50 : l0.length ≤ c0 := HC0.out; have hC50 : Kd.C k90 _ (some ad943) l0.length l0 := HR0.out; have ql50 : ((rd y938 a1_3) : Int) ≤ ((rd y938 (ji39)) : Int) := od_; have q050 : (0 : Int) ≤ ((rd y938 a1_3) : Int) := od_; have hcut50 := cut_mid (P := Try.prog) 34 90 .i64 .i64 Try.underlying34 hi050 2 hsz50 (some ad943) l0.length c0 (rd y938 a1_3) (rd y938 (ji39)) q050 ql50 q50 hroom50; have hr50 := Kd.C_mid (lo := ((rd y938 a1_3) : Int).toNat) (hi := ((rd y938 (ji39)) : Int).toNat) (c := c0) hC50 (by omega) (by omega) hroom50; obtain ⟨A50, hA50⟩ : ∃ A1, A1 = (if c0 = ((rd y938 a1_3) : Int).toNat then (some ad943) else ((some ad943) : Option Addr).map (·.add (((rd y938 a1_3) : Int).toNat * 2))) := ⟨_, rfl⟩; obtain ⟨c50, hc50⟩ : ∃ c1, c1 = c0 - ((rd y938 a1_3) : Int).toNat := ⟨_, rfl⟩; have hy50 : y944.length = ((rd y938 (ji39)) : Int).toNat - ((rd y938 a1_3) : Int).toNat := (by rw [Ny944.out, List.length_drop, List.length_take] <;> omega); rw [show ((l0).take ((rd y938 (ji39)) : Int).toNat).drop ((rd y938 a1_3) : Int).toNat = y944 from Ny944.out.symm] at hr50; replace hr50 : Kd.C k90 _ A50 y944.length y944 := (by rw [hA50]; exact hr50); rw [← hy50, ← hA50, ← hc50] at hcut50; have HR947 := Aside0.mk hr50; have HC947 := Aside0.mk (show y944.length ≤ c50 from by rw [hy50, hc50]; exact Nat.sub_le_sub_right (Nat.le_trans (by omega) hroom50) _); clear hr50 hC50 hroom50 hi050 hsz50 hc50; have KY50 := Aside0.mk hy50; have KA50 := Aside0.mk hA50; clear hy50 hA50; replace q50 := eq_true q50)); try go_wp2_with (first | (go_at_call 105; (with_reducible refine (impl_endOf.calls kj23 _ _ l0 a2 t937 _ (cx_ HR0 HB) HC0.out A35.out).mono ?_); rintro e w' ⟨rfl, ⟨nd, rfl⟩⟩; (try first | exact ⟨rfl, _, World.drewN_drewN _ _ _⟩ | exact ⟨rfl, _, Eq.trans (World.drewN_drewN _ _ _) (congrArg (World.drewN _) (Nat.add_assoc _ _ _))⟩)) | ((with_reducible refine gate_builtin (b := .append) (xs := #[.tmp 64, .tmp 68]) rfl ?_); (try (refine gate_guard (by rfl) ?_; dsimp only)); at_builtin; refine Kd.R_append (Kd.int .i64) (w0 := w) w.heap.size rfl (.tmp 64) (.tmp 68) 39 3 (.int .i64 0) 8 rfl Try.underlying39 info3 rfl (by decide) (by omega) v933 t932 t937 [.int .i64 t937] (fun _ => True) (fun _ => False) rfl rfl ?aP (fun _ hk => hk.elim) ?aF ?aO ?aB ?aS ?aL ?_; (case aP => exact rfl); (case aB => exact ((bl_ HB).out)); (case aF => exact (fun _ _ => trivial)); (case aO => exact (rx_ HO_9.out)); (case aS => exact (bs_ HB)); (case aL => have := LMc36.out; omega); intro v939 w47 ho hb hg hat; rw [← Ny938.out] at ho; replace BK929 := Aside0.mk (blk_grown (g := gb929) (o := .cells #[.int .i64 a1_0, .slice A1_1 l1_1.length c1_1, .int .i64 a1_2, .int .i64 a1_3, .int .i64 a1_4] 67 (0, 0)) (kx_ BK929.out) hg (Kd.R_ne HO_9.out BK929.out (by decide))); replace HB := Aside0.mk (hb); have HO940 := Aside0.mk (ho); clear HO_9; clear ho hb hg hat; obtain ⟨hcz48_0, hcz48_1, hcz48_2, hcz48_3, hcz48_4, hfz48_0, hfz48_1, hfz48_2, hfz48_3, hfz48_4⟩ := bk5_ BK929; obtain ⟨Ao49, co49, eo49⟩ := Kd.R_slice HO940.out; subst eo49; have p941 : 0 ≤ (a1_3 : Int) := od_; have q941 : a1_3 < (y938.length : Int) := od_; obtain ⟨ad941, e941, hx941_0⟩ := Kd.at_int (Kd.R_reads' HO940.out).2.2 a1_3 p941 q941; cases e941; replace p941 := eq_true p941; replace q941 := eq_true q941; have p942 : 0 ≤ ((ji39) : Int) := od_; have q942 : (ji39) < (y938.length : Int) := od_; obtain ⟨ad942, e942, hx942_0⟩ := Kd.at_int (Kd.R_reads' HO940.out).2.2 (ji39) p942 q942; obtain rfl : ad941 = ad942 := (by injection e942); replace p942 := eq_true p942; replace q942 := eq_true q942; have p943 : 0 ≤ (a2 : Int) := od_; have q943 : a2 < (l0.length : Int) := od_; obtain ⟨ad943, e943, hx943_0, hx943_1⟩ := at_T90 HR0.out a2 p943 q943; cases e943; replace hx943_0 := ce_ HB hx943_0; replace hx943_1 := ce_ HB hx943_1; replace p943 := eq_true p943; replace q943 := eq_true q943; have q50 : ((rd y938 (ji39)) : Int) ≤ ((l0.length : Int) : Int) := od_; obtain ⟨i050, hi050, _, hsz50, _⟩ := info_parts info90; have hroom50 : l0.length ≤ c0 := HC0.out; have hC50 : Kd.C k90 _ (some ad943) l0.length l0 := HR0.out; have ql50 : ((rd y938 a1_3) : Int) ≤ ((rd y938 (ji39)) : Int) := od_; have q050 : (0 : Int) ≤ ((rd y938 a1_3) : Int) := od_; have hcut50 := cut_mid (P := Try.prog) 34 90 .i64 .i64 Try.underlying34 hi050 2 hsz50 (some ad943) l0.length c0 (rd y938 a1_3) (rd y938 (ji39)) q050 ql50 q50 hroom50; have hr50 := Kd.C_mid (lo := ((rd y938 a1_3) : Int).toNat) (hi := ((rd y938 (ji39)) : Int).toNat) (c := c0) hC50 (by omega) (by omega) hroom50; obtain ⟨A50, hA50⟩ : ∃ A1, A1 = (if c0 = ((rd y938 a1_3) : Int).toNat then (some ad943) else ((some ad943) : Option Addr).map (·.add (((rd y938 a1_3) : Int).toNat * 2))) := ⟨_, rfl⟩; obtain ⟨c50, hc50⟩ : ∃ c1, c1 = c0 - ((rd y938 a1_3) : Int).toNat := ⟨_, rfl⟩; have hy50 : y944.length = ((rd y938 (ji39)) : Int).toNat - ((rd y938 a1_3) : Int).toNat := (by rw [Ny944.out, List.length_drop, List.length_take] <;> omega); rw [show ((l0).take ((rd y938 (ji39)) : Int).toNat).drop ((rd y938 a1_3) : Int).toNat = y944 from Ny944.out.symm] at hr50; replace hr50 : Kd.C k90 _ A50 y944.length y944 := (by rw [hA50]; exact hr50); rw [← hy50, ← hA50, ← hc50] at hcut50; have HR947 := Aside0.mk hr50; have HC947 := Aside0.mk (show y944.length ≤ c50 from by rw [hy50, hc50]; exact Nat.sub_le_sub_right (Nat.le_trans (by omega) hroom50) _); clear hr50 hC50 hroom50 hi050 hsz50 hc50; have KY50 := Aside0.mk hy50; have KA50 := Aside0.mk hA50; clear hy50 hA50; replace q50 := eq_true q50)))
                       go_loopg [11, 94] kj23 (fun kq v11 v94 w' => ∃ (x11_4 : Int) (x94_4 : Int), v11 = .int .i64 x11_4 ∧ v94 = .int .i64 x94_4 ∧ Aside0 (impl_opCode.l0 kq l0 (rd y938 a1_3) (rd y938 (ji39)) x11_4 y944 (y944.length : Int) x94_4 = some (r1, r2, r3)) ∧ Aside0 (kq ≤ kj23) ∧ Aside0 (w'.heap[gb929]? = some (.cells #[.int .i64 a1_0, (.slice A1_1 l1_1.length c1_1), .int .i64 a1_2, .int .i64 a1_3, .int .i64 a1_4] 67 (0, 0))) ∧ Aside0 (Below w.heap.size w w'))
                       case atStart => exact ⟨(wrap64 (((rd_T90 l0 a2).f1) + 1)), (0), eb_, eb_, H', ⟨Nat.le_refl _⟩, ⟨kx_ BK929.out⟩, bl_ HB⟩
                       case round =>
                        clear H'
                        try clear c1
                        try clear c2
                        try clear p2
                        try clear c3
                        try clear c4
                        try clear c5
                        try clear q5
                        try clear c6
                        try clear c6b0
                        try clear p6
                        try clear p9
                        try clear q9
                        try clear hx9
                        try clear c10
                        try clear c12
                        try clear c12b0
                        try clear c12b1
                        try clear c16
                        try clear c18
                        try clear c18b0
                        try clear c18b1
                        try clear c21
                        try clear c22
                        try clear c22b0
                        try clear c22b1
                        try clear c28
                        try clear c34
                        try clear c36
                        try clear c37
                        try clear c37b0
                        try clear c38
                        try clear c38b0
                        try clear c40
                        try clear c40b0
                        try clear c41
                        try clear c41b0
                        try clear c42
                        try clear c42b0
                        try clear c43
                        try clear c43b0
                        try clear c44
                        try clear c44b0
                        try clear c44b1
                        try clear c45
                        try clear c45b0
                        try clear c45b1
                        try clear c46
                        try clear c46b0
                        try clear c46b1
                        try clear c50
                        try clear q50
                        try clear hcz11_0
                        try clear hcz11_1
                        try clear hcz11_2
                        try clear hcz11_3
                        try clear hcz11_4
                        try clear hcz13_0
                        try clear hcz13_1
                        try clear hcz13_2
                        try clear hcz13_3
                        try clear hcz13_4
                        try clear hcz15_0
                        try clear hcz15_1
                        try clear hcz15_2
                        try clear hcz15_3
                        try clear hcz15_4
                        try clear hcz19_0
                        try clear hcz19_1
                        try clear hcz19_2
                        try clear hcz19_3
                        try clear hcz19_4
                        try clear hcz20_0
                        try clear hcz20_1
                        try clear hcz20_2
                        try clear hcz20_3
                        try clear hcz20_4
                        try clear hcz25_0
                        try clear hcz25_1
                        try clear hcz25_2
                        try clear hcz25_3
                        try clear hcz25_4
                        try clear hcz30_0
                        try clear hcz30_1
                        try clear hcz30_2
                        try clear hcz30_3
                        try clear hcz30_4
                        try clear hcz32_0
                        try clear hcz32_1
                        try clear hcz32_2
                        try clear hcz32_3
                        try clear hcz32_4
                        try clear hcz48_0
                        try clear hcz48_1
                        try clear hcz48_2
                        try clear hcz48_3
                        try clear hcz48_4
                        try clear hcz8_0
                        try clear hcz8_1
                        try clear hcz8_2
                        try clear hcz8_3
                        try clear hcz8_4
                        try clear hfz11_0
                        try clear hfz11_1
                        try clear hfz11_2
                        try clear hfz11_3
                        try clear hfz11_4
                        try clear hfz13_0
                        try clear hfz13_1
                        try clear hfz13_2
                        try clear hfz13_3
                        try clear hfz13_4
                        try clear hfz15_0
                        try clear hfz15_1
                        try clear hfz15_2
                        try clear hfz15_3
                        try clear hfz15_4
                        try clear hfz19_0
                        try clear hfz19_1
                        try clear hfz19_2
                        try clear hfz19_3
                        try clear hfz19_4
                        try clear hfz20_0
                        try clear hfz20_1
                        try clear hfz20_2
                        try clear hfz20_3
                        try clear hfz20_4
                        try clear hfz25_0
                        try clear hfz25_1
                        try clear hfz25_2
                        try clear hfz25_3
                        try clear hfz25_4
                        try clear hfz30_0
                        try clear hfz30_1
                        try clear hfz30_2
                        try clear hfz30_3
                        try clear hfz30_4
                        try clear hfz32_0
                        try clear hfz32_1
                        try clear hfz32_2
                        try clear hfz32_3
                        try clear hfz32_4
                        try clear hfz48_0
                        try clear hfz48_1
                        try clear hfz48_2
                        try clear hfz48_3
                        try clear hfz48_4
                        try clear hfz8_0
                        try clear hfz8_1
                        try clear hfz8_2
                        try clear hfz8_3
                        try clear hfz8_4
                        try clear hx941_0
                        try clear hx942_0
                        try clear hx943_0
                        try clear hx943_1
                        try clear p2
                        try clear p6
                        try clear p941
                        try clear p942
                        try clear p943
                        try clear q050
                        try clear q50
                        try clear q941
                        try clear q942
                        try clear q943
                        obtain ⟨x11_4, x94_4, rfl, rfl, HA, HK4, BK929, HB⟩ := hrel
                        cases gk with
                        | zero => exact absurd HA.out (by simp [impl_opCode.l0])
                        | succ k4 =>
                         have H := HA.out
                         clear HA
                         simp only [impl_opCode.l0] at H
                         by_cases c51 : x94_4 < (y944.length : Int)
                         ·rw [if_pos c51] at H
                          have c51b0 : decide (x94_4 < (y944.length : Int)) = true := decide_eq_true c51
                          clear c51
                          by_cases c52 : 0 ≤ x94_4
                          ·rw [if_pos c52] at H
                           have c52b0 : decide (0 ≤ x94_4) = true := decide_eq_true c52
                           clear c52
                           by_cases c53 : x94_4 < (y944.length : Int)
                           ·rw [if_pos c53] at H
                            have c53b0 : decide (x94_4 < (y944.length : Int)) = true := decide_eq_true c53
                            clear c53
                            obtain ⟨ji54, hji54⟩ : ∃ j_ : Int, (mx x11_4 (wrap64 (((rd_T90 y944 x94_4).f1) + 1))) = j_ := ⟨_, rfl⟩
                            replace H : (impl_opCode.l0 k4 l0 (rd y938 a1_3) (rd y938 (ji39)) ji54 y944 (y944.length : Int) (wrap64 (x94_4 + 1))) = some (r1, r2, r3) := by first | (rw [hji54] at H; exact H) | (simp only [hji54] at H ⊢; exact H)
                            have hji54_ : (if x11_4 < (wrap64 (((rd_T90 y944 x94_4).f1) + 1)) then (wrap64 (((rd_T90 y944 x94_4).f1) + 1)) else x11_4) = ji54 := hji54
                            have H' := Aside0.mk H
                            clear H
                            have p948 : 0 ≤ (x94_4 : Int) := od_
                            have q948 : x94_4 < (y944.length : Int) := od_
                            obtain ⟨ad948, e948, hx948_0, hx948_1⟩ := at_T90 HR947.out x94_4 p948 q948
                            cases e948
                            replace hx948_0 := ce_ HB hx948_0
                            replace hx948_1 := ce_ HB hx948_1
                            replace p948 := eq_true p948
                            replace q948 := eq_true q948
                            go_wp2_with (first | ((with_reducible refine gate_dst (N := 13) rfl ?_); (try (refine gate_guard (by rfl) ?_; dsimp only)); refine bx_ 13 #[.int .i64 0, .int .i64 0] 90 ?_; intro gb949 hg w55 hbox hb; have BK949 := Aside0.mk (hbox); have GW949 := Aside0.mk ((by rw [hg]; exact (bs_ HB) : w.heap.size ≤ gb949)); have GE949 := Aside0.mk ((by rw [hg]; exact (bs_ HB) : w.heap.size ≤ gb949)); replace HB := tB_ HB hb; have NB929_949 := Aside0.mk ((by rw [hg]; exact Nat.ne_of_lt (blk_lt (g := gb929) (o := .cells #[.int .i64 a1_0, .slice A1_1 l1_1.length c1_1, .int .i64 a1_2, .int .i64 a1_3, .int .i64 a1_4] 67 (0, 0)) (kx_ BK929.out)) : gb929 ≠ gb949)); have NB949_929 := Aside0.mk ((by rw [hg]; exact Nat.ne_of_gt (blk_lt (g := gb929) (o := .cells #[.int .i64 a1_0, .slice A1_1 l1_1.length c1_1, .int .i64 a1_2, .int .i64 a1_3, .int .i64 a1_4] 67 (0, 0)) (kx_ BK929.out)) : gb949 ≠ gb929)); replace BK929 := tK_ BK929 hb; clear hb hbox hg; have hnb56 := NB949_929.out; have hnc56 := NB929_949.out; obtain ⟨hcz57_0, hcz57_1, hfz57_0, hfz57_1⟩ := bk2_ BK949))
                            repeat (go_quiet (first | ((with_reducible refine gate_dst (N := 13) rfl ?_); (try (refine gate_guard (by rfl) ?_; dsimp only)); refine bx_ 13 #[.int .i64 0, .int .i64 0] 90 ?_; intro gb949 hg w55 hbox hb; have BK949 := Aside0.mk (hbox); have GW949 := Aside0.mk ((by rw [hg]; exact (bs_ HB) : w.heap.size ≤ gb949)); have GE949 := Aside0.mk ((by rw [hg]; exact (bs_ HB) : w.heap.size ≤ gb949)); replace HB := tB_ HB hb; have NB929_949 := Aside0.mk ((by rw [hg]; exact Nat.ne_of_lt (blk_lt (g := gb929) (o := .cells #[.int .i64 a1_0, .slice A1_1 l1_1.length c1_1, .int .i64 a1_2, .int .i64 a1_3, .int .i64 a1_4] 67 (0, 0)) (kx_ BK929.out)) : gb929 ≠ gb949)); have NB949_929 := Aside0.mk ((by rw [hg]; exact Nat.ne_of_gt (blk_lt (g := gb929) (o := .cells #[.int .i64 a1_0, .slice A1_1 l1_1.length c1_1, .int .i64 a1_2, .int .i64 a1_3, .int .i64 a1_4] 67 (0, 0)) (kx_ BK929.out)) : gb949 ≠ gb929)); replace BK929 := tK_ BK929 hb; clear hb hbox hg; have hnb56 := NB949_929.out; have hnc56 := NB929_949.out; obtain ⟨hcz57_0, hcz57_1, hfz57_0, hfz57_1⟩ := bk2_ BK949)); try go_wp2_with (first | ((with_reducible refine gate_dst (N := 13) rfl ?_); (try (refine gate_guard (by rfl) ?_; dsimp only)); refine bx_ 13 #[.int .i64 0, .int .i64 0] 90 ?_; intro gb949 hg w55 hbox hb; have BK949 := Aside0.mk (hbox); have GW949 := Aside0.mk ((by rw [hg]; exact (bs_ HB) : w.heap.size ≤ gb949)); have GE949 := Aside0.mk ((by rw [hg]; exact (bs_ HB) : w.heap.size ≤ gb949)); replace HB := tB_ HB hb; have NB929_949 := Aside0.mk ((by rw [hg]; exact Nat.ne_of_lt (blk_lt (g := gb929) (o := .cells #[.int .i64 a1_0, .slice A1_1 l1_1.length c1_1, .int .i64 a1_2, .int .i64 a1_3, .int .i64 a1_4] 67 (0, 0)) (kx_ BK929.out)) : gb929 ≠ gb949)); have NB949_929 := Aside0.mk ((by rw [hg]; exact Nat.ne_of_gt (blk_lt (g := gb929) (o := .cells #[.int .i64 a1_0, .slice A1_1 l1_1.length c1_1, .int .i64 a1_2, .int .i64 a1_3, .int .i64 a1_4] 67 (0, 0)) (kx_ BK929.out)) : gb949 ≠ gb929)); replace BK929 := tK_ BK929 hb; clear hb hbox hg; have hnb56 := NB949_929.out; have hnc56 := NB929_949.out; obtain ⟨hcz57_0, hcz57_1, hfz57_0, hfz57_1⟩ := bk2_ BK949)))
                            go_roundg k4
                            case measure => have := HJ8.out; have := HJ16.out; have := HJ23.out; have := HK4.out; omega
                            case rel => exact ⟨(ji54), (wrap64 (x94_4 + 1)), (by first | rfl | (simp; done) | (simp only [← hji54] <;> (first | rfl | simp)) | (simp [*]; done)), (by first | rfl | (simp; done) | (simp [*]; done)), H', ⟨by have := HJ8.out; have := HJ16.out; have := HJ23.out; have := HK4.out; omega⟩, ⟨by (with_reducible repeat (first | refine blk_drewN ?_ _ | refine blk_drew ?_ | refine blk_alloc ?_ _)); refine blk_far ?_ NB929_949.out _; (with_reducible repeat (first | refine blk_drewN ?_ _ | refine blk_drew ?_ | refine blk_alloc ?_ _)); refine blk_far ?_ NB929_949.out _; (with_reducible repeat (first | refine blk_drewN ?_ _ | refine blk_drew ?_ | refine blk_alloc ?_ _)); exact BK929.out⟩, ⟨by repeat (first | (with_reducible first | exact HB.out | apply below_alloc | apply pw_below_drewN | apply below_drew1 | refine below_set ?_ GE929.out | refine below_set ?_ GE949.out) | exact HB.out)⟩⟩
                           ·rw [if_neg c53] at H
                            exact absurd H (by simp)
                          ·rw [if_neg c52] at H
                           exact absurd H (by simp)
                         ·rw [if_neg c51] at H
                          have c51b0 : decide (x94_4 < (y944.length : Int)) = false := decide_eq_false c51
                          clear c51
                          by_cases c58 : (l0.length : Int) = 24
                          ·rw [if_pos c58] at H
                           have c58b0 : ((l0.length : Int) == 24) = true := beq_iff_eq.mpr c58
                           have c58b1 : ((l0.length : Int) != 24) = false := bne_eq_false_iff_eq.mpr c58
                           clear c58
                           simp only [Option.some.injEq, Prod.mk.injEq] at H
                           obtain ⟨rfl, rfl, rfl⟩ := H
                           go_wp2
                           repeat (go_quiet (fail); try go_wp2)
                           go_ret3
                           exact ⟨by first | rfl | (simp [errW_none, errW_some] <;> rfl) | (simp only [← hji39]; first | rfl | (simp [errW_none, errW_some] <;> rfl)) | (simp [*, errW_none, errW_some] <;> rfl), (bl_ HB).out⟩
                          ·rw [if_neg c58] at H
                           have c58b0 : ((l0.length : Int) == 24) = false := beq_eq_false_iff_ne.mpr c58
                           have c58b1 : ((l0.length : Int) != 24) = true := bne_iff_ne.mpr c58
                           by_cases c59 : x11_4 > 12
                           ·rw [if_pos c59] at H
                            have c59b0 : decide (12 < x11_4) = true := decide_eq_true c59
                            clear c59
                            simp only [Option.some.injEq, Prod.mk.injEq] at H
                            obtain ⟨rfl, rfl, rfl⟩ := H
                            go_wp2
                            repeat (go_quiet (fail); try go_wp2)
                            go_ret3
                            exact ⟨by first | rfl | (simp [errW_none, errW_some] <;> rfl) | (simp only [← hji39]; first | rfl | (simp [errW_none, errW_some] <;> rfl)) | (simp [*, errW_none, errW_some] <;> rfl), (bl_ HB).out⟩
                           ·rw [if_neg c59] at H
                            have c59b0 : decide (12 < x11_4) = false := decide_eq_false c59
                            clear c59
                            simp only [Option.some.injEq, Prod.mk.injEq] at H
                            obtain ⟨rfl, rfl, rfl⟩ := H
                            go_wp2
                            repeat (go_quiet (fail); try go_wp2)
                            go_ret3
                            exact ⟨by first | rfl | (simp [errW_none, errW_some] <;> rfl) | (simp only [← hji39]; first | rfl | (simp [errW_none, errW_some] <;> rfl)) | (simp [*, errW_none, errW_some] <;> rfl), (bl_ HB).out⟩
                      ·rw [if_neg c46] at H
                       exact absurd H (by simp)
                     ·rw [if_neg c45] at H
                      exact absurd H (by simp)
                    ·rw [if_neg c44] at H
                     exact absurd H (by simp)
                   ·rw [if_neg c43] at H
                    exact absurd H (by simp)
                  ·rw [if_neg c42] at H
                   exact absurd H (by simp)
                 ·rw [if_neg c41] at H
                  exact absurd H (by simp)
                ·rw [if_neg c40] at H
                 exact absurd H (by simp)
               ·rw [if_neg c38] at H
                exact absurd H (by simp)
              ·rw [if_neg c37] at H
               exact absurd H (by simp)
             ·rw [if_neg c36] at H
              exact absurd H (by simp)
         ·rw [if_neg c22] at H
          have c22b0 : (a1_0 == 3) = false := beq_eq_false_iff_ne.mpr c22
          have c22b1 : (a1_0 != 3) = true := bne_iff_ne.mpr c22
          simp only [Option.some.injEq, Prod.mk.injEq] at H
          obtain ⟨rfl, rfl, rfl⟩ := H
          have hcz60_0 : wc.cell? ⟨gb929, 0, none⟩ = some (.int .i64 a1_0) := (blk_cell BK929.out 0).trans rfl
          have hcz60_1 : wc.cell? ⟨gb929, 1, none⟩ = some (.slice A1_1 l1_1.length c1_1) := (blk_cell BK929.out 1).trans rfl
          have hcz60_2 : wc.cell? ⟨gb929, 2, none⟩ = some (.int .i64 a1_2) := (blk_cell BK929.out 2).trans rfl
          have hcz60_3 : wc.cell? ⟨gb929, 3, none⟩ = some (.int .i64 a1_3) := (blk_cell BK929.out 3).trans rfl
          have hcz60_4 : wc.cell? ⟨gb929, 4, none⟩ = some (.int .i64 a1_4) := (blk_cell BK929.out 4).trans rfl
          have hfz60_0 := blk_frozen BK929.out 0
          have hfz60_1 := blk_frozen BK929.out 1
          have hfz60_2 := blk_frozen BK929.out 2
          have hfz60_3 := blk_frozen BK929.out 3
          have hfz60_4 := blk_frozen BK929.out 4
          go_wp2
          repeat (go_quiet (fail); try go_wp2)
          go_ret3
          exact ⟨ea_, (bl_ HB).out⟩
 ·replace c5 := Bool.eq_false_iff.mpr c5
  subst c5
  have H1 : (some (1, 0, 0)) = some (r1, r2, r3) := by rw [if_neg (show ¬ (false = true) by decide)] at H; exact H
  clear H
  have H := H1
  clear H1
  simp only [Option.some.injEq, Prod.mk.injEq] at H
  obtain ⟨rfl, rfl, rfl⟩ := H
  go_enter Try.func104, Try.ntmps104
  go_wp2_with (first | ((with_reducible refine gate_dst (N := 4) rfl ?_); (try (refine gate_guard (by rfl) ?_; dsimp only)); refine bx_ 4 #[.int .i64 a1_0, .slice A1_1 l1_1.length c1_1, .int .i64 a1_2, .int .i64 a1_3, .int .i64 a1_4] 67 ?_; intro gb929 hg w61 hbox hb; have BK929 := Aside0.mk (hbox); have GW929 := Aside0.mk ((by rw [hg]; exact (bs_ HB) : w.heap.size ≤ gb929)); have GE929 := Aside0.mk ((by rw [hg]; exact (bs_ HB) : w.heap.size ≤ gb929)); replace HB := tB_ HB hb; clear hb hbox hg; obtain ⟨hcz62_0, hcz62_1, hcz62_2, hcz62_3, hcz62_4, hfz62_0, hfz62_1, hfz62_2, hfz62_3, hfz62_4⟩ := bk5_ BK929) | (go_at_call 117; (with_reducible refine (impl_within.calls a1_0 1 3 false _ A4.out).mono ?_); rintro e w' ⟨rfl, ⟨nd, rfl⟩⟩; (try first | exact ⟨rfl, _, World.drewN_drewN _ _ _⟩ | exact ⟨rfl, _, Eq.trans (World.drewN_drewN _ _ _) (congrArg (World.drewN _) (Nat.add_assoc _ _ _))⟩)))
  repeat (go_quiet (first | ((with_reducible refine gate_dst (N := 4) rfl ?_); (try (refine gate_guard (by rfl) ?_; dsimp only)); refine bx_ 4 #[.int .i64 a1_0, .slice A1_1 l1_1.length c1_1, .int .i64 a1_2, .int .i64 a1_3, .int .i64 a1_4] 67 ?_; intro gb929 hg w61 hbox hb; have BK929 := Aside0.mk (hbox); have GW929 := Aside0.mk ((by rw [hg]; exact (bs_ HB) : w.heap.size ≤ gb929)); have GE929 := Aside0.mk ((by rw [hg]; exact (bs_ HB) : w.heap.size ≤ gb929)); replace HB := tB_ HB hb; clear hb hbox hg; obtain ⟨hcz62_0, hcz62_1, hcz62_2, hcz62_3, hcz62_4, hfz62_0, hfz62_1, hfz62_2, hfz62_3, hfz62_4⟩ := bk5_ BK929) | (go_at_call 117; (with_reducible refine (impl_within.calls a1_0 1 3 false _ A4.out).mono ?_); rintro e w' ⟨rfl, ⟨nd, rfl⟩⟩; (try first | exact ⟨rfl, _, World.drewN_drewN _ _ _⟩ | exact ⟨rfl, _, Eq.trans (World.drewN_drewN _ _ _) (congrArg (World.drewN _) (Nat.add_assoc _ _ _))⟩))); try go_wp2_with (first | ((with_reducible refine gate_dst (N := 4) rfl ?_); (try (refine gate_guard (by rfl) ?_; dsimp only)); refine bx_ 4 #[.int .i64 a1_0, .slice A1_1 l1_1.length c1_1, .int .i64 a1_2, .int .i64 a1_3, .int .i64 a1_4] 67 ?_; intro gb929 hg w61 hbox hb; have BK929 := Aside0.mk (hbox); have GW929 := Aside0.mk ((by rw [hg]; exact (bs_ HB) : w.heap.size ≤ gb929)); have GE929 := Aside0.mk ((by rw [hg]; exact (bs_ HB) : w.heap.size ≤ gb929)); replace HB := tB_ HB hb; clear hb hbox hg; obtain ⟨hcz62_0, hcz62_1, hcz62_2, hcz62_3, hcz62_4, hfz62_0, hfz62_1, hfz62_2, hfz62_3, hfz62_4⟩ := bk5_ BK929) | (go_at_call 117; (with_reducible refine (impl_within.calls a1_0 1 3 false _ A4.out).mono ?_); rintro e w' ⟨rfl, ⟨nd, rfl⟩⟩; (try first | exact ⟨rfl, _, World.drewN_drewN _ _ _⟩ | exact ⟨rfl, _, Eq.trans (World.drewN_drewN _ _ _) (congrArg (World.drewN _) (Nat.add_assoc _ _ _))⟩))))
  go_ret3
  exact ⟨ea_, (bl_ HB).out⟩
end Go.Proofs.Ytbifdckfglejkaa.X
namespace Go.Proofs.Ytbifdckfglejkaa.X
open Go.RowKit Go.Proofs.YtbifdckfglejkaaW.PrintWords Go.Proofs.YtbifdckfglejkaaW.PrintLast Go.Proofs.YtbifdckfglejkaaW.PrintMore
attribute [local go_sem] max2_int min2_int max_two min_two max_three min_three max_four min_four   -- for this text's walks alone
set_option linter.unusedVariables false
set_option linter.unusedSimpArgs false
def laws_big.f (l0 : List Int) : Option (Bool) := some (decide ((l0.length : Int) > 1048576))
set_option maxHeartbeats 8000000 in
set_option maxRecDepth 100000 in
theorem laws_big.calls (A0 : Option Addr) (c0 : Nat) (l0 : List Int) (r : Bool) (w : World) (hr0 : Kd.C (Kd.int .u8) w A0 l0.length l0) (hc0 : l0.length ≤ c0) (h : laws_big.f l0 = some r) :
  Calls Try.prog 57 #[.slice A0 l0.length c0] w fun e w' => e = .returned (.bool r) ∧ Drawn0 w w' := by
 have HR0 := Aside0.mk hr0
 have HC0 := Aside0.mk hc0
 clear hr0 hc0
 have H : (some (decide ((l0.length : Int) > 1048576))) = some r := h
 clear h
 obtain rfl := Option.some.inj H
 go_enter Try.func57, Try.ntmps57
 go_wp2
 go_ret
 exact ⟨by first | rfl | (simp; done) | (simp [*]; done), by repeat (first | exact Drawn0.refl _ | apply Drawn0.step)⟩
end Go.Proofs.Ytbifdckfglejkaa.X
namespace Go.Proofs.Ytbifdckfglejkaa.X
open Go.RowKit Go.Proofs.YtbifdckfglejkaaW.PrintWords Go.Proofs.YtbifdckfglejkaaW.PrintLast Go.Proofs.YtbifdckfglejkaaW.PrintMore
attribute [local go_sem] max2_int min2_int max_two min_two max_three min_three max_four min_four   -- for this text's walks alone
set_option linter.unusedVariables false
set_option linter.unusedSimpArgs false
theorem eqA90 (d : Nat) (w : World) (x0 y0 : Int) (x1 y1 : Int) :
    (Op.equalIn (d + 2) 90 (.agg #[.int .i64 x0, .int .i64 x1]) (.agg #[.int .i64 y0, .int .i64 y1])).run Try.prog w = .ok (x0 == y0 && (x1 == y1)) w := by
  refine eqA_of Try.underlying90 (by kernel_rfl) ?_
  refine eqf_cons (by rfl) (by go_simp; rfl) (by go_simp; rfl) (by go_simp) ?_
  exact eqf_last (by rfl) (by go_simp; rfl) (by go_simp; rfl) (by go_simp)
end Go.Proofs.Ytbifdckfglejkaa.X
namespace Go.Proofs.Ytbifdckfglejkaa.X
open Go.RowKit Go.Proofs.YtbifdckfglejkaaW.PrintWords Go.Proofs.YtbifdckfglejkaaW.PrintLast Go.Proofs.YtbifdckfglejkaaW.PrintMore
attribute [local go_sem] max2_int min2_int max_two min_two max_three min_three max_four min_four   -- for this text's walks alone
set_option linter.unusedVariables false
set_option linter.unusedSimpArgs false
attribute [local go_sem high] eqA90
def spec_SameTree.l0 : Nat → List (S90) → List (S90) → Int → Option (Bool)
 | 0, _, _, _ => none
 | k + 1, x0, x1, x5 => if x5 < (x0.length : Int) then (if 0 ≤ x5 then (if x5 < (x1.length : Int) then (if (!(((rd_T90 x0 x5).f0) == ((rd_T90 x1 x5).f0)) || (!(((rd_T90 x0 x5).f1) == ((rd_T90 x1 x5).f1)))) = true then (some false) else (spec_SameTree.l0 k x0 x1 (wrap64 (x5 + 1)))) else (none)) else (none)) else (some true)
def spec_SameTree.f (k : Nat) (l0 : List (S90)) (l1 : List (S90)) : Option (Bool) := if (l0.length : Int) = (l1.length : Int) then (spec_SameTree.l0 k l0 l1 0) else (some false)
set_option maxHeartbeats 8000000 in
set_option maxRecDepth 100000 in
theorem spec_SameTree.calls (k : Nat) (A0 : Option Addr) (c0 : Nat) (l0 : List (S90)) (A1 : Option Addr) (c1 : Nat) (l1 : List (S90)) (r : Bool) (w : World) (hr0 : Kd.C k90 w A0 l0.length l0) (hc0 : l0.length ≤ c0) (hr1 : Kd.C k90 w A1 l1.length l1) (hc1 : l1.length ≤ c1) (h : spec_SameTree.f k l0 l1 = some r) :
  Calls Try.prog 62 #[.slice A0 l0.length c0, .slice A1 l1.length c1] w fun e w' => e = .returned (.bool r) ∧ Drawn0 w w' := by
 have hu90 := Try.underlying90
 have HR0 := Aside0.mk hr0
 have HC0 := Aside0.mk hc0
 clear hr0 hc0
 have HR1 := Aside0.mk hr1
 have HC1 := Aside0.mk hc1
 clear hr1 hc1
 have H : (if (l0.length : Int) = (l1.length : Int) then (spec_SameTree.l0 k l0 l1 0) else (some false)) = some r := h
 clear h
 by_cases c3 : (l0.length : Int) = (l1.length : Int)
 ·rw [if_pos c3] at H
  have c3b0 : ((l0.length : Int) == (l1.length : Int)) = true := beq_iff_eq.mpr c3
  have c3b1 : ((l0.length : Int) != (l1.length : Int)) = false := bne_eq_false_iff_eq.mpr c3
  have c3b2 : (l0.length == l1.length) = true := by first | simpa using c3 | (simp at c3 ⊢; omega)
  clear c3
  have H' := Aside0.mk H
  clear H
  go_enter Try.func62, Try.ntmps62
  go_wp2
  repeat (go_quiet (fail); try go_wp2)
  go_loopg [5] k (fun kq v5 w' => ∃ (x5_1 : Int), v5 = .int .i64 x5_1 ∧ Aside0 (spec_SameTree.l0 kq l0 l1 x5_1 = some r) ∧ Aside0 (kq ≤ k) ∧ Drawn0 w w')
  case atStart => exact ⟨(0), eb_, H', ⟨Nat.le_refl _⟩, by repeat (first | exact Drawn0.refl _ | apply Drawn0.step)⟩
  case round =>
   clear H'
   try clear c1
   try clear p2
   try clear c3
   try clear c3b0
   try clear c3b1
   try clear c3b2
   obtain ⟨x5_1, rfl, HA, HK1, ⟨m1, rfl⟩⟩ := hrel
   cases gk with
   | zero => exact absurd HA.out (by simp [spec_SameTree.l0])
   | succ k1 =>
    have H := HA.out
    clear HA
    simp only [spec_SameTree.l0] at H
    by_cases c4 : x5_1 < (l0.length : Int)
    ·rw [if_pos c4] at H
     have c4b0 : decide (x5_1 < (l0.length : Int)) = true := decide_eq_true c4
     clear c4
     by_cases c5 : 0 ≤ x5_1
     ·rw [if_pos c5] at H
      have c5b0 : decide (0 ≤ x5_1) = true := decide_eq_true c5
      clear c5
      by_cases c6 : x5_1 < (l1.length : Int)
      ·rw [if_pos c6] at H
       have c6b0 : decide (x5_1 < (l1.length : Int)) = true := decide_eq_true c6
       clear c6
       by_cases c7 : (!(((rd_T90 l0 x5_1).f0) == ((rd_T90 l1 x5_1).f0)) || (!(((rd_T90 l0 x5_1).f1) == ((rd_T90 l1 x5_1).f1)))) = true
       ·rw [if_pos c7] at H
        have c7b0 : (!(((rd_T90 l0 x5_1).f0) == ((rd_T90 l1 x5_1).f0)) || (!(((rd_T90 l0 x5_1).f1) == ((rd_T90 l1 x5_1).f1)))) = true := c7
        clear c7
        obtain rfl := Option.some.inj H
        have p1427 : 0 ≤ (x5_1 : Int) := od_
        have q1427 : x5_1 < (l0.length : Int) := od_
        obtain ⟨ad1427, e1427, hx1427_0, hx1427_1⟩ := at_T90 HR0.out x5_1 p1427 q1427
        cases e1427
        replace p1427 := eq_true p1427
        replace q1427 := eq_true q1427
        have p1428 : 0 ≤ (x5_1 : Int) := od_
        have q1428 : x5_1 < (l1.length : Int) := od_
        obtain ⟨ad1428, e1428, hx1428_0, hx1428_1⟩ := at_T90 HR1.out x5_1 p1428 q1428
        cases e1428
        replace p1428 := eq_true p1428
        replace q1428 := eq_true q1428
        go_wp2
        repeat (go_quiet (fail); try go_wp2)
        go_ret
        exact ⟨by first | rfl | (simp; done) | (simp [*]; done), by repeat (first | exact Drawn0.refl _ | apply Drawn0.step)⟩
       ·rw [if_neg c7] at H
        have c7b0 : (!(((rd_T90 l0 x5_1).f0) == ((rd_T90 l1 x5_1).f0)) || (!(((rd_T90 l0 x5_1).f1) == ((rd_T90 l1 x5_1).f1)))) = false := by simpa using c7
        clear c7
        have H' := Aside0.mk H
        clear H
        have p1427 : 0 ≤ (x5_1 : Int) := od_
        have q1427 : x5_1 < (l0.length : Int) := od_
        obtain ⟨ad1427, e1427, hx1427_0, hx1427_1⟩ := at_T90 HR0.out x5_1 p1427 q1427
        cases e1427
        replace p1427 := eq_true p1427
        replace q1427 := eq_true q1427
        have p1428 : 0 ≤ (x5_1 : Int) := od_
        have q1428 : x5_1 < (l1.length : Int) := od_
        obtain ⟨ad1428, e1428, hx1428_0, hx1428_1⟩ := at_T90 HR1.out x5_1 p1428 q1428
        cases e1428
        replace p1428 := eq_true p1428
        replace q1428 := eq_true q1428
        go_wp2
        repeat (go_quiet (fail); try go_wp2)
        go_roundg k1
        case measure => have := HK1.out; omega
        case rel => exact ⟨(wrap64 (x5_1 + 1)), eb_, H', ⟨by have := HK1.out; omega⟩, by repeat (first | exact Drawn0.refl _ | apply Drawn0.step)⟩
      ·rw [if_neg c6] at H
       exact absurd H (by simp)
     ·rw [if_neg c5] at H
      exact absurd H (by simp)
    ·rw [if_neg c4] at H
     have c4b0 : decide (x5_1 < (l0.length : Int)) = false := decide_eq_false c4
     clear c4
     obtain rfl := Option.some.inj H
     go_wp2
     repeat (go_quiet (fail); try go_wp2)
     go_ret
     exact ⟨by first | rfl | (simp; done) | (simp [*]; done), by repeat (first | exact Drawn0.refl _ | apply Drawn0.step)⟩
 ·rw [if_neg c3] at H
  have c3b0 : ((l0.length : Int) == (l1.length : Int)) = false := beq_eq_false_iff_ne.mpr c3
  have c3b1 : ((l0.length : Int) != (l1.length : Int)) = true := bne_iff_ne.mpr c3
  have c3b2 : (l0.length == l1.length) = false := by first | simpa using c3 | (simp at c3 ⊢; omega)
  obtain rfl := Option.some.inj H
  go_enter Try.func62, Try.ntmps62
  go_wp2
  repeat (go_quiet (fail); try go_wp2)
  go_ret
  exact ⟨by first | rfl | (simp; done) | (simp [*]; done), by repeat (first | exact Drawn0.refl _ | apply Drawn0.step)⟩
end Go.Proofs.Ytbifdckfglejkaa.X
namespace Go.Proofs.Ytbifdckfglejkaa.X
open Go.RowKit Go.Proofs.YtbifdckfglejkaaW.PrintWords Go.Proofs.YtbifdckfglejkaaW.PrintLast Go.Proofs.YtbifdckfglejkaaW.PrintMore
attribute [local go_sem] max2_int min2_int max_two min_two max_three min_three max_four min_four   -- for this text's walks alone
set_option linter.unusedVariables false
set_option linter.unusedSimpArgs false
def IsS152 (w0 W : World) (g : Nat) (f0 : List Int) (f1 : Int) (f2 : Int) : Prop := ∃ A0 c0, W.heap[g]? = some (.cells #[.slice A0 f0.length c0, .int .i64 f1, .int .i64 f2] 152 (0, 0)) ∧ w0.heap.size ≤ g ∧ Kd.C (Kd.int .u8) w0 A0 f0.length f0
theorem IsS152.grown {w0 W : World} {g : Nat} {f0 : List Int} {f1 : Int} {f2 : Int} {W1 : World} {row : Option Nat} (h : IsS152 w0 W g f0 f1 f2) (hw : W.grownBy W1 row) (hne : some g ≠ row) : IsS152 w0 W1 g f0 f1 f2 := by
 obtain ⟨A0, c0, hb, hg, hr0⟩ := h
 exact ⟨A0, c0, blk_grown hb hw hne, hg, hr0⟩
theorem IsS152.kept {w0 W : World} {g : Nat} {f0 : List Int} {f1 : Int} {f2 : Int} {W1 : World} {S : Nat → Prop} (h : IsS152 w0 W g f0 f1 f2) (hk : Kept W W1 S) (hne : ¬ S g) : IsS152 w0 W1 g f0 f1 f2 := by
 obtain ⟨A0, c0, hb, hg, hr0⟩ := h
 exact ⟨A0, c0, blk_kept hb hk hne, hg, hr0⟩
theorem IsS152.below {w0 W : World} {g : Nat} {f0 : List Int} {f1 : Int} {f2 : Int} {W1 : World} (h : IsS152 w0 W g f0 f1 f2) (hw : Below W.heap.size W W1) : IsS152 w0 W1 g f0 f1 f2 := h.grown (grown_of_below hw none) (by simp)
theorem IsS152.alloc {w0 W : World} {g : Nat} {f0 : List Int} {f1 : Int} {f2 : Int} (h : IsS152 w0 W g f0 f1 f2) (o : Obj) : IsS152 w0 (W.alloc o) g f0 f1 f2 := h.below (below_alloc (Below.refl _ _) o)
theorem IsS152.drewN {w0 W : World} {g : Nat} {f0 : List Int} {f1 : Int} {f2 : Int} (h : IsS152 w0 W g f0 f1 f2) (m : Nat) : IsS152 w0 (W.drewN m) g f0 f1 f2 := h
theorem IsS152.drew {w0 W : World} {g : Nat} {f0 : List Int} {f1 : Int} {f2 : Int} (h : IsS152 w0 W g f0 f1 f2) : IsS152 w0 W.drew g f0 f1 f2 := h
theorem IsS152.at_ {w0 W : World} {g : Nat} {f0 : List Int} {f1 : Int} {f2 : Int} {w' : World} {m : Nat} (hq : W.drewN m = w') (h : IsS152 w0 W g f0 f1 f2) : IsS152 w0 w' g f0 f1 f2 := by subst hq; exact IsS152.drewN h m
theorem IsS152.apart {w0 W : World} {g : Nat} {f0 : List Int} {f1 : Int} {f2 : Int} {α : Type} {d : Kd α} {e : Nat} {base : Nat} {ok : Nat → Prop} {v : Value} {xs : List α} (h : IsS152 w0 W g f0 f1 f2) (ho : d.R e W base ok v xs) (ht : ∀ q, q ∈ e :: d.E → q ≠ 152) : d.R e W base (fun k => ok k ∧ k ≠ g) v xs := by
 obtain ⟨A0, c0, hb, hg, hr0⟩ := h
 exact Kd.R_types ho hb ht
theorem IsS152.own_ne {w0 W : World} {g : Nat} {f0 : List Int} {f1 : Int} {f2 : Int} {α : Type} {d : Kd α} {e : Nat} {base : Nat} {ok : Nat → Prop} {v : Value} {xs : List α} (h : IsS152 w0 W g f0 f1 f2) (ho : d.R e W base ok v xs) (ht : e ≠ 152) : some g ≠ v.ownBlock := by
 obtain ⟨A0, c0, hb, hg, hr0⟩ := h
 exact Kd.R_ne ho hb ht
theorem IsS152.apartQ {w0 W : World} {g : Nat} {f0 : List Int} {f1 : Int} {f2 : Int} {α : Type} {d : Kd α} {e : Nat} {base : Nat} {ok : Nat → Prop} {v : Value} {xs : List α} (h : IsS152 w0 W g f0 f1 f2) (ho : d.Q e W base ok v xs) (ht : ∀ q, q ∈ e :: d.E → q ≠ 152) : d.Q e W base (fun k => ok k ∧ k ≠ g) v xs := by
 obtain ⟨A0, c0, hb, hg, hr0⟩ := h
 exact Kd.Q_types ho hb ht
theorem IsS152.apartS {w0 W : World} {g : Nat} {f0 : List Int} {f1 : Int} {f2 : Int} {α : Type} {d : Kd α} {e : Nat} {base : Nat} {ok : Nat → Prop} {v : Value} {xs : List α} (h : IsS152 w0 W g f0 f1 f2) (ho : d.S e W base ok v xs) (ht : ∀ q, q ∈ e :: d.E → q ≠ 152) : d.S e W base (fun k => ok k ∧ k ≠ g) v xs := by
 obtain ⟨A0, c0, hb, hg, hr0⟩ := h
 exact Kd.S_types ho hb ht
theorem IsS152.own_neS {w0 W : World} {g : Nat} {f0 : List Int} {f1 : Int} {f2 : Int} {α : Type} {d : Kd α} {e : Nat} {base : Nat} {ok : Nat → Prop} {v : Value} {xs : List α} (h : IsS152 w0 W g f0 f1 f2) (ho : d.S e W base ok v xs) (ht : e ≠ 152) : some g ≠ v.ownBlock := by
 obtain ⟨A0, c0, hb, hg, hr0⟩ := h
 exact Kd.S_ne ho hb ht
theorem IsS152.lt {w0 W : World} {g : Nat} {f0 : List Int} {f1 : Int} {f2 : Int} (h : IsS152 w0 W g f0 f1 f2) : g < W.heap.size := by
 obtain ⟨A0, c0, hb, hg, hr0⟩ := h
 exact blk_lt hb
theorem IsS152.ge {w0 W : World} {g : Nat} {f0 : List Int} {f1 : Int} {f2 : Int} (h : IsS152 w0 W g f0 f1 f2) : w0.heap.size ≤ g := by
 obtain ⟨A0, c0, hb, hg, hr0⟩ := h
 exact hg
theorem IsS152.far {w0 W : World} {g : Nat} {f0 : List Int} {f1 : Int} {f2 : Int} {p : Addr} (h : IsS152 w0 W g f0 f1 f2) (hne : g ≠ p.block) (u : Value) : IsS152 w0 (W.setCell p u) g f0 f1 f2 := by
 obtain ⟨A0, c0, hb, hg, hr0⟩ := h
 exact ⟨A0, c0, blk_far hb hne u, hg, hr0⟩
theorem cellS152_0 {W : World} {g : Nat} {A0 : Option Addr} {c0 : Nat} {f0 : List Int} {f1 : Int} {f2 : Int} (h : W.heap[g]? = some (.cells #[.slice A0 f0.length c0, .int .i64 f1, .int .i64 f2] 152 (0, 0))) : W.cell? ⟨g, 0, none⟩ = some (.slice A0 f0.length c0) := (blk_cell h 0).trans rfl
theorem cellS152_1 {W : World} {g : Nat} {A0 : Option Addr} {c0 : Nat} {f0 : List Int} {f1 : Int} {f2 : Int} (h : W.heap[g]? = some (.cells #[.slice A0 f0.length c0, .int .i64 f1, .int .i64 f2] 152 (0, 0))) : W.cell? ⟨g, 1, none⟩ = some (.int .i64 f1) := (blk_cell h 1).trans rfl
theorem IsS152.set_1 {w0 W : World} {g : Nat} {f0 : List Int} {f1 : Int} {f2 : Int} (h : IsS152 w0 W g f0 f1 f2) (x : Int) : IsS152 w0 (W.setCell ⟨g, 1, none⟩ (.int .i64 x)) g f0 x f2 := by
 obtain ⟨A0, c0, hb, hg, hr0⟩ := h
 exact ⟨A0, c0, by simpa using blk_set hb 1 (.int .i64 x), hg, hr0⟩
theorem cellS152_2 {W : World} {g : Nat} {A0 : Option Addr} {c0 : Nat} {f0 : List Int} {f1 : Int} {f2 : Int} (h : W.heap[g]? = some (.cells #[.slice A0 f0.length c0, .int .i64 f1, .int .i64 f2] 152 (0, 0))) : W.cell? ⟨g, 2, none⟩ = some (.int .i64 f2) := (blk_cell h 2).trans rfl
theorem IsS152.set_2 {w0 W : World} {g : Nat} {f0 : List Int} {f1 : Int} {f2 : Int} (h : IsS152 w0 W g f0 f1 f2) (x : Int) : IsS152 w0 (W.setCell ⟨g, 2, none⟩ (.int .i64 x)) g f0 f1 x := by
 obtain ⟨A0, c0, hb, hg, hr0⟩ := h
 exact ⟨A0, c0, by simpa using blk_set hb 2 (.int .i64 x), hg, hr0⟩
def spec_l1New.l0 : Nat → List Int → Int → Int → Option (List Int × Int × Int)
 | 0, _, _, _ => none
 | k + 1, x0, x3, x4 => if x4 < (x0.length : Int) then (if x4 < 4000 then (if 0 ≤ x4 then (spec_l1New.l0 k x0 (Go.bits .and .i64 (wrap64 ((wrap64 ((wrap64 (x3 * 131)) + (wrap64 (rd x0 x4)))) + 7)) 1073741823) (wrap64 (x4 + 1))) else (none)) else (some (x0, 0, x3))) else (some (x0, 0, x3))
def spec_l1New.f (k : Nat) (l0 : List Int) : Option (List Int × Int × Int) := spec_l1New.l0 k l0 (wrap64 (10101 + (l0.length : Int))) 0
set_option maxHeartbeats 8000000 in
set_option maxRecDepth 100000 in
theorem spec_l1New.calls (k : Nat) (A0 : Option Addr) (c0 : Nat) (l0 : List Int) (r1 : List Int) (r2 : Int) (r3 : Int) (w0 w : World) (hB : Below w0.heap.size w0 w) (hr0 : Kd.C (Kd.int .u8) w0 A0 l0.length l0) (hc0 : l0.length ≤ c0) (h : spec_l1New.f k l0 = some (r1, r2, r3)) :
  Calls Try.prog 111 #[.slice A0 l0.length c0] w fun e w' => ∃ g_ : Nat, e = .returned (.pointer (some ⟨g_, 0, none⟩)) ∧ IsS152 w0 w' g_ r1 r2 r3 ∧ Below w0.heap.size w0 w' ∧ Below w.heap.size w w' := by
 have hu152 := Try.underlying152
 have HR0 := Aside0.mk hr0
 have HC0 := Aside0.mk hc0
 clear hr0 hc0
 have HBW := Aside0.mk (Below.refl w.heap.size w)
 have HW0 := Aside0.mk hB.size
 have HB := Aside0.mk hB
 clear hB
 have H : (spec_l1New.l0 k l0 (wrap64 (10101 + (l0.length : Int))) 0) = some (r1, r2, r3) := h
 clear h
 have H' := Aside0.mk H
 clear H
 go_enter Try.func111, Try.ntmps111
 go_wp2
 go_loopg [3, 4] k (fun kq v3 v4 w' => ∃ (x3_1 : Int) (x4_1 : Int), v3 = .int .i64 x3_1 ∧ v4 = .int .i64 x4_1 ∧ Aside0 (spec_l1New.l0 kq l0 x3_1 x4_1 = some (r1, r2, r3)) ∧ Aside0 (kq ≤ k) ∧ Aside0 (Below w0.heap.size w0 w') ∧ Aside0 (Below w.heap.size w w'))
 case atStart => exact ⟨(wrap64 (10101 + (l0.length : Int))), (0), eb_, eb_, H', ⟨Nat.le_refl _⟩, bl_ HB, bl_ HBW⟩
 case round =>
  clear H'
  try clear c1
  obtain ⟨x3_1, x4_1, rfl, rfl, HA, HK1, HB, HBW⟩ := hrel
  cases gk with
  | zero => exact absurd HA.out (by simp [spec_l1New.l0])
  | succ k1 =>
   have H := HA.out
   clear HA
   simp only [spec_l1New.l0] at H
   by_cases c2 : x4_1 < (l0.length : Int)
   ·rw [if_pos c2] at H
    have c2b0 : decide (x4_1 < (l0.length : Int)) = true := decide_eq_true c2
    clear c2
    by_cases c3 : x4_1 < 4000
    ·rw [if_pos c3] at H
     have c3b0 : decide (x4_1 < 4000) = true := decide_eq_true c3
     clear c3
     by_cases c4 : 0 ≤ x4_1
     ·rw [if_pos c4] at H
      have c4b0 : decide (0 ≤ x4_1) = true := decide_eq_true c4
      clear c4
      have H' := Aside0.mk H
      clear H
      have p1220 : 0 ≤ (x4_1 : Int) := od_
      have q1220 : x4_1 < (l0.length : Int) := od_
      obtain ⟨ad1220, e1220, hx1220_0⟩ := Kd.at_int HR0.out x4_1 p1220 q1220
      cases e1220
      replace hx1220_0 := pw_cell_below HB.out hx1220_0
      replace p1220 := eq_true p1220
      replace q1220 := eq_true q1220
      go_wp2
      go_roundg k1
      case measure => have := HK1.out; omega
      case rel => exact ⟨(Go.bits .and .i64 (wrap64 ((wrap64 ((wrap64 (x3_1 * 131)) + (wrap64 (rd l0 x4_1)))) + 7)) 1073741823), (wrap64 (x4_1 + 1)), eb_, eb_, H', ⟨by have := HK1.out; omega⟩, bl_ HB, bl_ HBW⟩
     ·rw [if_neg c4] at H
      exact absurd H (by simp)
    ·rw [if_neg c3] at H
     have c3b0 : decide (x4_1 < 4000) = false := decide_eq_false c3
     clear c3
     simp only [Option.some.injEq, Prod.mk.injEq] at H
     obtain ⟨rfl, rfl, rfl⟩ := H
     go_wp2_with (first | ((with_reducible refine gate_dst (N := 31) rfl ?_); refine bx_ 31 #[.slice A0 l0.length c0, .int .i64 0, .int .i64 x3_1] 152 ?_; intro gb1221 hg w5 hbox hb; replace HB := tB_ HB hb; have BK1221 := Aside0.mk (hbox); have GW1221 := Aside0.mk ((by rw [hg]; exact (bs_ HBW) : w.heap.size ≤ gb1221)); have GE1221 := Aside0.mk ((Nat.le_trans HW0.out (by rw [hg]; exact (bs_ HBW) : w.heap.size ≤ gb1221) : w0.heap.size ≤ gb1221)); replace HBW := Aside0.mk (below_step HBW.out hb); clear hb hbox hg))
     go_ret
     exact ⟨_, rfl, (show IsS152 w0 _ gb1221 l0 0 x3_1 from ⟨_, _, kx_ BK1221.out, GE1221.out, HR0.out⟩), (bl_ HB).out, (bl_ HBW).out⟩
   ·rw [if_neg c2] at H
    have c2b0 : decide (x4_1 < (l0.length : Int)) = false := decide_eq_false c2
    clear c2
    simp only [Option.some.injEq, Prod.mk.injEq] at H
    obtain ⟨rfl, rfl, rfl⟩ := H
    go_wp2_with (first | ((with_reducible refine gate_dst (N := 31) rfl ?_); refine bx_ 31 #[.slice A0 l0.length c0, .int .i64 0, .int .i64 x3_1] 152 ?_; intro gb1222 hg w6 hbox hb; replace HB := tB_ HB hb; have BK1222 := Aside0.mk (hbox); have GW1222 := Aside0.mk ((by rw [hg]; exact (bs_ HBW) : w.heap.size ≤ gb1222)); have GE1222 := Aside0.mk ((Nat.le_trans HW0.out (by rw [hg]; exact (bs_ HBW) : w.heap.size ≤ gb1222) : w0.heap.size ≤ gb1222)); replace HBW := Aside0.mk (below_step HBW.out hb); clear hb hbox hg))
    go_ret
    exact ⟨_, rfl, (show IsS152 w0 _ gb1222 l0 0 x3_1 from ⟨_, _, kx_ BK1222.out, GE1222.out, HR0.out⟩), (bl_ HB).out, (bl_ HBW).out⟩
end Go.Proofs.Ytbifdckfglejkaa.X
namespace Go.Proofs.Ytbifdckfglejkaa.X
open Go.RowKit Go.Proofs.YtbifdckfglejkaaW.PrintWords Go.Proofs.YtbifdckfglejkaaW.PrintLast Go.Proofs.YtbifdckfglejkaaW.PrintMore
attribute [local go_sem] max2_int min2_int max_two min_two max_three min_three max_four min_four   -- for this text's walks alone
set_option linter.unusedVariables false
set_option linter.unusedSimpArgs false
def spec_l1Byte.f (s0_0 : List Int) (s0_1 : Int) (s0_2 : Int) : Option (Int × Int × Int) := if s0_1 < (s0_0.length : Int) then (if 0 ≤ s0_1 then (some (Go.bits .and .i64 (wrap64 ((Go.bits .and .i64 (Go.bits .xor .i64 ((wrap64 ((wrap64 (s0_2 * 6364136223846793005)) + 1442695040888963407)) / 8589934592) ((wrap64 ((wrap64 (s0_2 * 6364136223846793005)) + 1442695040888963407)) / 35184372088832)) 255) + (wrap64 (rd s0_0 s0_1)))) 255, wrap64 (s0_1 + 1), wrap64 ((wrap64 (s0_2 * 6364136223846793005)) + 1442695040888963407))) else (none)) else (some (Go.bits .and .i64 (Go.bits .xor .i64 ((wrap64 ((wrap64 (s0_2 * 6364136223846793005)) + 1442695040888963407)) / 8589934592) ((wrap64 ((wrap64 (s0_2 * 6364136223846793005)) + 1442695040888963407)) / 35184372088832)) 255, s0_1, wrap64 ((wrap64 (s0_2 * 6364136223846793005)) + 1442695040888963407)))
set_option maxHeartbeats 8000000 in
set_option maxRecDepth 100000 in
theorem spec_l1Byte.calls (g : Nat) (s0_0 : List Int) (s0_1 : Int) (s0_2 : Int) (r1 : Int) (r2 : Int) (r3 : Int) (w0 w : World) (hI : IsS152 w0 w g s0_0 s0_1 s0_2) (hB : Below w0.heap.size w0 w) (h : spec_l1Byte.f s0_0 s0_1 s0_2 = some (r1, r2, r3)) :
  Calls Try.prog 146 #[.pointer (some ⟨g, 0, none⟩)] w fun e w' => e = .returned (.int .i64 r1) ∧ IsS152 w0 w' g s0_0 r2 r3 ∧ Below w0.heap.size w0 w' ∧ KeepBut w w' g none := by
 have HI0 := Aside0.mk hI
 have HK := Aside0.mk (KeepBut.refl w g none)
 have HL := Aside0.mk hB.size
 clear hI
 have HW0 := Aside0.mk hB.size
 have HB := Aside0.mk hB
 clear hB
 have H : (if s0_1 < (s0_0.length : Int) then (if 0 ≤ s0_1 then (some (Go.bits .and .i64 (wrap64 ((Go.bits .and .i64 (Go.bits .xor .i64 ((wrap64 ((wrap64 (s0_2 * 6364136223846793005)) + 1442695040888963407)) / 8589934592) ((wrap64 ((wrap64 (s0_2 * 6364136223846793005)) + 1442695040888963407)) / 35184372088832)) 255) + (wrap64 (rd s0_0 s0_1)))) 255, wrap64 (s0_1 + 1), wrap64 ((wrap64 (s0_2 * 6364136223846793005)) + 1442695040888963407))) else (none)) else (some (Go.bits .and .i64 (Go.bits .xor .i64 ((wrap64 ((wrap64 (s0_2 * 6364136223846793005)) + 1442695040888963407)) / 8589934592) ((wrap64 ((wrap64 (s0_2 * 6364136223846793005)) + 1442695040888963407)) / 35184372088832)) 255, s0_1, wrap64 ((wrap64 (s0_2 * 6364136223846793005)) + 1442695040888963407)))) = some (r1, r2, r3) := h
 clear h
 by_cases c2 : s0_1 < (s0_0.length : Int)
 ·rw [if_pos c2] at H
  have c2b0 : decide (s0_1 < (s0_0.length : Int)) = true := decide_eq_true c2
  clear c2
  by_cases c3 : 0 ≤ s0_1
  ·rw [if_pos c3] at H
   have c3b0 : decide (0 ≤ s0_1) = true := decide_eq_true c3
   clear c3
   simp only [Option.some.injEq, Prod.mk.injEq] at H
   obtain ⟨rfl, rfl, rfl⟩ := H
   obtain ⟨ASz4_0, cSz4_0, HGz4, hgz4, HSz4_0⟩ := HI0.out
   have hcz4_0 := cellS152_0 HGz4
   have hcz4_1 := cellS152_1 HGz4
   have hcz4_2 := cellS152_2 HGz4
   have hfz4_1 := blk_frozen HGz4 1
   have hfz4_2 := blk_frozen HGz4 2
   clear HGz4 hgz4
   have p1223 : 0 ≤ (s0_1 : Int) := od_
   have q1223 : s0_1 < (s0_0.length : Int) := od_
   obtain ⟨ad1223, e1223, hx1223_0⟩ := Kd.at_int HSz4_0 s0_1 p1223 q1223
   cases e1223
   have hn1223_0 : ad1223.block ≠ g := Nat.ne_of_lt (Nat.lt_of_lt_of_le (by have := World.block_lt_of_cell? _ _ hx1223_0; first | rwa [add_block] at this | exact this) (IsS152.ge HI0.out))
   replace hx1223_0 := pw_cell_below HB.out hx1223_0
   replace hx1223_0 := (cell_far (p := ⟨g, 2, none⟩) (by first | (rw [add_block]; exact hn1223_0) | (show (Addr.add _ _).block ≠ _; rw [add_block]; exact hn1223_0) | exact hn1223_0) (.int .i64 (wrap64 ((wrap64 (s0_2 * 6364136223846793005)) + 1442695040888963407)))).trans hx1223_0
   (try have hy1223_0 := fun (n_ : Nat) => (show (((w.drewN n_).setCell ⟨g, 2, none⟩ (.int .i64 (wrap64 ((wrap64 (s0_2 * 6364136223846793005)) + 1442695040888963407))))).cell? _ = some _ from hx1223_0))
   clear hn1223_0
   replace p1223 := eq_true p1223
   replace q1223 := eq_true q1223
   go_enter Try.func146, Try.ntmps146
   go_wp2
   repeat (go_quiet (fail); try go_wp2)
   go_ret
   exact ⟨ea_, by repeat (first | (with_reducible first | exact HI0.out | apply IsS152.alloc | apply IsS152.drewN | apply IsS152.drew | apply IsS152.set_1 | apply IsS152.set_2) | exact HI0.out), by repeat (first | (with_reducible first | exact HB.out | apply below_alloc | apply pw_below_drewN | apply below_drew1 | refine below_set ?_ (IsS152.ge HI0.out)) | exact HB.out), by repeat (first | (with_reducible first | exact HK.out | apply KeepBut.set_ | apply keep_drewN | apply keep_drew | apply keep_alloc) | exact HK.out)⟩
  ·rw [if_neg c3] at H
   exact absurd H (by simp)
 ·rw [if_neg c2] at H
  have c2b0 : decide (s0_1 < (s0_0.length : Int)) = false := decide_eq_false c2
  clear c2
  simp only [Option.some.injEq, Prod.mk.injEq] at H
  obtain ⟨rfl, rfl, rfl⟩ := H
  obtain ⟨ASz5_0, cSz5_0, HGz5, hgz5, HSz5_0⟩ := HI0.out
  have hcz5_0 := cellS152_0 HGz5
  have hcz5_1 := cellS152_1 HGz5
  have hcz5_2 := cellS152_2 HGz5
  have hfz5_1 := blk_frozen HGz5 1
  have hfz5_2 := blk_frozen HGz5 2
  clear HGz5 hgz5
  go_enter Try.func146, Try.ntmps146
  go_wp2
  repeat (go_quiet (fail); try go_wp2)
  go_ret
  exact ⟨ea_, by repeat (first | (with_reducible first | exact HI0.out | apply IsS152.alloc | apply IsS152.drewN | apply IsS152.drew | apply IsS152.set_1 | apply IsS152.set_2) | exact HI0.out), by repeat (first | (with_reducible first | exact HB.out | apply below_alloc | apply pw_below_drewN | apply below_drew1 | refine below_set ?_ (IsS152.ge HI0.out)) | exact HB.out), by repeat (first | (with_reducible first | exact HK.out | apply KeepBut.set_ | apply keep_drewN | apply keep_drew | apply keep_alloc) | exact HK.out)⟩
end Go.Proofs.Ytbifdckfglejkaa.X
namespace Go.Proofs.Ytbifdckfglejkaa.X
open Go.RowKit Go.Proofs.YtbifdckfglejkaaW.PrintWords Go.Proofs.YtbifdckfglejkaaW.PrintLast Go.Proofs.YtbifdckfglejkaaW.PrintMore
attribute [local go_sem] max2_int min2_int max_two min_two max_three min_three max_four min_four   -- for this text's walks alone
set_option linter.unusedVariables false
set_option linter.unusedSimpArgs false
def spec_l1Below.f (s0_0 : List Int) (s0_1 : Int) (s0_2 : Int) (a1 : Int) : Option (Int × Int × Int) := if a1 ≤ 0 then (some (0, s0_1, s0_2)) else (if a1 ≤ 256 then ((spec_l1Byte.f s0_0 s0_1 s0_2).bind fun bt1224 => (if a1 = 0 then (none) else (some (Int.tmod bt1224.1 a1, bt1224.2.1, bt1224.2.2)))) else ((spec_l1Byte.f s0_0 s0_1 s0_2).bind fun bt1227 => ((spec_l1Byte.f s0_0 bt1227.2.1 bt1227.2.2).bind fun bt1230 => ((spec_l1Byte.f s0_0 bt1230.2.1 bt1230.2.2).bind fun bt1233 => ((spec_l1Byte.f s0_0 bt1233.2.1 bt1233.2.2).bind fun bt1236 => (if a1 = 0 then (none) else (some (Int.tmod (wrap64 ((wrap64 ((wrap64 ((wrap64 (bt1227.1 * 16777216)) + (wrap64 (bt1230.1 * 65536)))) + (wrap64 (bt1233.1 * 256)))) + bt1236.1)) a1, bt1236.2.1, bt1236.2.2))))))))
set_option maxHeartbeats 8000000 in
set_option maxRecDepth 100000 in
theorem spec_l1Below.calls (g : Nat) (s0_0 : List Int) (s0_1 : Int) (s0_2 : Int) (a1 : Int) (r1 : Int) (r2 : Int) (r3 : Int) (w0 w : World) (hI : IsS152 w0 w g s0_0 s0_1 s0_2) (hB : Below w0.heap.size w0 w) (h : spec_l1Below.f s0_0 s0_1 s0_2 a1 = some (r1, r2, r3)) :
  Calls Try.prog 135 #[.pointer (some ⟨g, 0, none⟩), .int .i64 a1] w fun e w' => e = .returned (.int .i64 r1) ∧ IsS152 w0 w' g s0_0 r2 r3 ∧ Below w0.heap.size w0 w' ∧ KeepBut w w' g none := by
 have HI0 := Aside0.mk hI
 have HK := Aside0.mk (KeepBut.refl w g none)
 have HL := Aside0.mk hB.size
 clear hI
 have HW0 := Aside0.mk hB.size
 have HB := Aside0.mk hB
 clear hB
 have H : (if a1 ≤ 0 then (some (0, s0_1, s0_2)) else (if a1 ≤ 256 then ((spec_l1Byte.f s0_0 s0_1 s0_2).bind fun bt1224 => (if a1 = 0 then (none) else (some (Int.tmod bt1224.1 a1, bt1224.2.1, bt1224.2.2)))) else ((spec_l1Byte.f s0_0 s0_1 s0_2).bind fun bt1227 => ((spec_l1Byte.f s0_0 bt1227.2.1 bt1227.2.2).bind fun bt1230 => ((spec_l1Byte.f s0_0 bt1230.2.1 bt1230.2.2).bind fun bt1233 => ((spec_l1Byte.f s0_0 bt1233.2.1 bt1233.2.2).bind fun bt1236 => (if a1 = 0 then (none) else (some (Int.tmod (wrap64 ((wrap64 ((wrap64 ((wrap64 (bt1227.1 * 16777216)) + (wrap64 (bt1230.1 * 65536)))) + (wrap64 (bt1233.1 * 256)))) + bt1236.1)) a1, bt1236.2.1, bt1236.2.2))))))))) = some (r1, r2, r3) := h
 clear h
 by_cases c3 : a1 ≤ 0
 ·rw [if_pos c3] at H
  have c3b0 : decide (a1 ≤ 0) = true := decide_eq_true c3
  clear c3
  simp only [Option.some.injEq, Prod.mk.injEq] at H
  obtain ⟨rfl, rfl, rfl⟩ := H
  go_enter Try.func135, Try.ntmps135
  go_wp2
  go_ret
  exact ⟨ea_, by repeat (first | (with_reducible first | exact HI0.out | apply IsS152.alloc | apply IsS152.drewN | apply IsS152.drew | apply IsS152.set_1 | apply IsS152.set_2) | exact HI0.out), by repeat (first | (with_reducible first | exact HB.out | apply below_alloc | apply pw_below_drewN | apply below_drew1 | refine below_set ?_ (IsS152.ge HI0.out)) | exact HB.out), by repeat (first | (with_reducible first | exact HK.out | apply KeepBut.set_ | apply keep_drewN | apply keep_drew | apply keep_alloc) | exact HK.out)⟩
 ·rw [if_neg c3] at H
  have c3b0 : decide (a1 ≤ 0) = false := decide_eq_false c3
  clear c3
  by_cases c4 : a1 ≤ 256
  ·rw [if_pos c4] at H
   have c4b0 : decide (a1 ≤ 256) = true := decide_eq_true c4
   clear c4
   replace H := Option.bind_eq_some_iff.mp H
   obtain ⟨⟨t1224, t1225, t1226⟩, A50, H⟩ := H
   replace H : (if a1 = 0 then (none) else (some (Int.tmod t1224 a1, t1225, t1226))) = some (r1, r2, r3) := H
   have A5 := Aside0.mk A50
   clear A50
   by_cases c6 : a1 = 0
   ·rw [if_pos c6] at H
    exact absurd H (by simp)
   ·rw [if_neg c6] at H
    have c6b0 : (a1 == 0) = false := beq_eq_false_iff_ne.mpr c6
    have c6b1 : (a1 != 0) = true := bne_iff_ne.mpr c6
    simp only [Option.some.injEq, Prod.mk.injEq] at H
    obtain ⟨rfl, rfl, rfl⟩ := H
    go_enter Try.func135, Try.ntmps135
    go_wp2_with (first | ((with_reducible refine gate_callee (f := 146) rfl ?_); refine gL_ (some 14) Try.func146 #[.pointer (some ⟨g, 0, none⟩)] ?_; (with_reducible refine (spec_l1Byte.calls g s0_0 s0_1 s0_2 t1224 t1225 t1226 w0 _ ?side1 ?side2 A5.out).mono ?_); (case side1 => repeat (first | (with_reducible first | exact HI0.out | apply IsS152.alloc | apply IsS152.drewN | apply IsS152.drew | apply IsS152.set_1 | apply IsS152.set_2) | exact HI0.out)); (case side2 => repeat (first | (with_reducible first | exact HB.out | apply below_alloc | apply pw_below_drewN | apply below_drew1 | refine below_set ?_ (IsS152.ge HI0.out)) | exact HB.out)); rintro e w7 ⟨rfl, hi, hb, hk⟩; refine ⟨_, rfl, ?_⟩; replace HK := Aside0.mk (KeepBut.trans (by repeat (first | (with_reducible first | exact HK.out | apply KeepBut.set_ | apply keep_drewN | apply keep_drew | apply keep_alloc) | exact HK.out)) hk (.inl rfl)); replace HB := Aside0.mk (hb); replace HI0 := Aside0.mk (hi); (try clear hb); (try clear hk); (try clear hi)))
    go_ret
    exact ⟨ea_, by repeat (first | (with_reducible first | exact HI0.out | apply IsS152.alloc | apply IsS152.drewN | apply IsS152.drew | apply IsS152.set_1 | apply IsS152.set_2) | exact HI0.out), by repeat (first | (with_reducible first | exact HB.out | apply below_alloc | apply pw_below_drewN | apply below_drew1 | refine below_set ?_ (IsS152.ge HI0.out)) | exact HB.out), by repeat (first | (with_reducible first | exact HK.out | apply KeepBut.set_ | apply keep_drewN | apply keep_drew | apply keep_alloc) | exact HK.out)⟩
  ·rw [if_neg c4] at H
   have c4b0 : decide (a1 ≤ 256) = false := decide_eq_false c4
   clear c4
   replace H := Option.bind_eq_some_iff.mp H
   obtain ⟨⟨t1227, t1228, t1229⟩, A80, H⟩ := H
   try dsimp only at H
   have A8 := Aside0.mk A80
   clear A80
   replace H := Option.bind_eq_some_iff.mp H
   obtain ⟨⟨t1230, t1231, t1232⟩, A90, H⟩ := H
   try dsimp only at H
   have A9 := Aside0.mk A90
   clear A90
   replace H := Option.bind_eq_some_iff.mp H
   obtain ⟨⟨t1233, t1234, t1235⟩, A100, H⟩ := H
   try dsimp only at H
   have A10 := Aside0.mk A100
   clear A100
   replace H := Option.bind_eq_some_iff.mp H
   obtain ⟨⟨t1236, t1237, t1238⟩, A110, H⟩ := H
   try dsimp only at H
   have A11 := Aside0.mk A110
   clear A110
   by_cases c12 : a1 = 0
   ·rw [if_pos c12] at H
    exact absurd H (by simp)
   ·rw [if_neg c12] at H
    have c12b0 : (a1 == 0) = false := beq_eq_false_iff_ne.mpr c12
    have c12b1 : (a1 != 0) = true := bne_iff_ne.mpr c12
    simp only [Option.some.injEq, Prod.mk.injEq] at H
    obtain ⟨rfl, rfl, rfl⟩ := H
    go_enter Try.func135, Try.ntmps135
    go_wp2_with (first | ((with_reducible refine gate_callee (f := 146) rfl ?_); refine gL_ (some 18) Try.func146 #[.pointer (some ⟨g, 0, none⟩)] ?_; (with_reducible refine (spec_l1Byte.calls g s0_0 s0_1 s0_2 t1227 t1228 t1229 w0 _ ?side1 ?side2 A8.out).mono ?_); (case side1 => repeat (first | (with_reducible first | exact HI0.out | apply IsS152.alloc | apply IsS152.drewN | apply IsS152.drew | apply IsS152.set_1 | apply IsS152.set_2) | exact HI0.out)); (case side2 => repeat (first | (with_reducible first | exact HB.out | apply below_alloc | apply pw_below_drewN | apply below_drew1 | refine below_set ?_ (IsS152.ge HI0.out)) | exact HB.out)); rintro e w13 ⟨rfl, hi, hb, hk⟩; refine ⟨_, rfl, ?_⟩; replace HK := Aside0.mk (KeepBut.trans (by repeat (first | (with_reducible first | exact HK.out | apply KeepBut.set_ | apply keep_drewN | apply keep_drew | apply keep_alloc) | exact HK.out)) hk (.inl rfl)); replace HB := Aside0.mk (hb); replace HI0 := Aside0.mk (hi); (try clear hb); (try clear hk); (try clear hi)) | ((with_reducible refine gate_callee (f := 146) rfl ?_); refine gL_ (some 20) Try.func146 #[.pointer (some ⟨g, 0, none⟩)] ?_; (with_reducible refine (spec_l1Byte.calls g s0_0 t1228 t1229 t1230 t1231 t1232 w0 _ ?side1 ?side2 A9.out).mono ?_); (case side1 => repeat (first | (with_reducible first | exact HI0.out | apply IsS152.alloc | apply IsS152.drewN | apply IsS152.drew | apply IsS152.set_1 | apply IsS152.set_2) | exact HI0.out)); (case side2 => repeat (first | (with_reducible first | exact HB.out | apply below_alloc | apply pw_below_drewN | apply below_drew1 | refine below_set ?_ (IsS152.ge HI0.out)) | exact HB.out)); rintro e w14 ⟨rfl, hi, hb, hk⟩; refine ⟨_, rfl, ?_⟩; replace HK := Aside0.mk (KeepBut.trans (by repeat (first | (with_reducible first | exact HK.out | apply KeepBut.set_ | apply keep_drewN | apply keep_drew | apply keep_alloc) | exact HK.out)) hk (.inl rfl)); replace HB := Aside0.mk (hb); replace HI0 := Aside0.mk (hi); (try clear hb); (try clear hk); (try clear hi)) | ((with_reducible refine gate_callee (f := 146) rfl ?_); refine gL_ (some 22) Try.func146 #[.pointer (some ⟨g, 0, none⟩)] ?_; (with_reducible refine (spec_l1Byte.calls g s0_0 t1231 t1232 t1233 t1234 t1235 w0 _ ?side1 ?side2 A10.out).mono ?_); (case side1 => repeat (first | (with_reducible first | exact HI0.out | apply IsS152.alloc | apply IsS152.drewN | apply IsS152.drew | apply IsS152.set_1 | apply IsS152.set_2) | exact HI0.out)); (case side2 => repeat (first | (with_reducible first | exact HB.out | apply below_alloc | apply pw_below_drewN | apply below_drew1 | refine below_set ?_ (IsS152.ge HI0.out)) | exact HB.out)); rintro e w15 ⟨rfl, hi, hb, hk⟩; refine ⟨_, rfl, ?_⟩; replace HK := Aside0.mk (KeepBut.trans (by repeat (first | (with_reducible first | exact HK.out | apply KeepBut.set_ | apply keep_drewN | apply keep_drew | apply keep_alloc) | exact HK.out)) hk (.inl rfl)); replace HB := Aside0.mk (hb); replace HI0 := Aside0.mk (hi); (try clear hb); (try clear hk); (try clear hi)) | ((with_reducible refine gate_callee (f := 146) rfl ?_); refine gL_ (some 24) Try.func146 #[.pointer (some ⟨g, 0, none⟩)] ?_; (with_reducible refine (spec_l1Byte.calls g s0_0 t1234 t1235 t1236 t1237 t1238 w0 _ ?side1 ?side2 A11.out).mono ?_); (case side1 => repeat (first | (with_reducible first | exact HI0.out | apply IsS152.alloc | apply IsS152.drewN | apply IsS152.drew | apply IsS152.set_1 | apply IsS152.set_2) | exact HI0.out)); (case side2 => repeat (first | (with_reducible first | exact HB.out | apply below_alloc | apply pw_below_drewN | apply below_drew1 | refine below_set ?_ (IsS152.ge HI0.out)) | exact HB.out)); rintro e w16 ⟨rfl, hi, hb, hk⟩; refine ⟨_, rfl, ?_⟩; replace HK := Aside0.mk (KeepBut.trans (by repeat (first | (with_reducible first | exact HK.out | apply KeepBut.set_ | apply keep_drewN | apply keep_drew | apply keep_alloc) | exact HK.out)) hk (.inl rfl)); replace HB := Aside0.mk (hb); replace HI0 := Aside0.mk (hi); (try clear hb); (try clear hk); (try clear hi)))
    go_ret
    exact ⟨ea_, by repeat (first | (with_reducible first | exact HI0.out | apply IsS152.alloc | apply IsS152.drewN | apply IsS152.drew | apply IsS152.set_1 | apply IsS152.set_2) | exact HI0.out), by repeat (first | (with_reducible first | exact HB.out | apply below_alloc | apply pw_below_drewN | apply below_drew1 | refine below_set ?_ (IsS152.ge HI0.out)) | exact HB.out), by repeat (first | (with_reducible first | exact HK.out | apply KeepBut.set_ | apply keep_drewN | apply keep_drew | apply keep_alloc) | exact HK.out)⟩
end Go.Proofs.Ytbifdckfglejkaa.X
namespace Go.Proofs.Ytbifdckfglejkaa.X
open Go.RowKit Go.Proofs.YtbifdckfglejkaaW.PrintWords Go.Proofs.YtbifdckfglejkaaW.PrintLast Go.Proofs.YtbifdckfglejkaaW.PrintMore
attribute [local go_sem] max2_int min2_int max_two min_two max_three min_three max_four min_four   -- for this text's walks alone
set_option linter.unusedVariables false
set_option linter.unusedSimpArgs false
def spec_l2Label.f (s0_0 : List Int) (s0_1 : Int) (s0_2 : Int) : Option (Int × Int × Int) := (spec_l1Below.f s0_0 s0_1 s0_2 4).bind fun bt1239 => (some (bt1239.1, bt1239.2.1, bt1239.2.2))
set_option maxHeartbeats 8000000 in
set_option maxRecDepth 100000 in
theorem spec_l2Label.calls (g : Nat) (s0_0 : List Int) (s0_1 : Int) (s0_2 : Int) (r1 : Int) (r2 : Int) (r3 : Int) (w0 w : World) (hI : IsS152 w0 w g s0_0 s0_1 s0_2) (hB : Below w0.heap.size w0 w) (h : spec_l2Label.f s0_0 s0_1 s0_2 = some (r1, r2, r3)) :
  Calls Try.prog 139 #[.pointer (some ⟨g, 0, none⟩)] w fun e w' => e = .returned (.int .i64 r1) ∧ IsS152 w0 w' g s0_0 r2 r3 ∧ Below w0.heap.size w0 w' ∧ KeepBut w w' g none := by
 have HI0 := Aside0.mk hI
 have HK := Aside0.mk (KeepBut.refl w g none)
 have HL := Aside0.mk hB.size
 clear hI
 have HW0 := Aside0.mk hB.size
 have HB := Aside0.mk hB
 clear hB
 have H : ((spec_l1Below.f s0_0 s0_1 s0_2 4).bind fun bt1239 => (some (bt1239.1, bt1239.2.1, bt1239.2.2))) = some (r1, r2, r3) := h
 clear h
 replace H := Option.bind_eq_some_iff.mp H
 obtain ⟨⟨t1239, t1240, t1241⟩, A20, H⟩ := H
 replace H : (some (t1239, t1240, t1241)) = some (r1, r2, r3) := H
 have A2 := Aside0.mk A20
 clear A20
 simp only [Option.some.injEq, Prod.mk.injEq] at H
 obtain ⟨rfl, rfl, rfl⟩ := H
 go_enter Try.func139, Try.ntmps139
 go_wp2_with (first | ((with_reducible refine gate_callee (f := 135) rfl ?_); refine gL_ (some 4) Try.func135 #[.pointer (some ⟨g, 0, none⟩), .int .i64 4] ?_; (with_reducible refine (spec_l1Below.calls g s0_0 s0_1 s0_2 4 t1239 t1240 t1241 w0 _ ?side1 ?side2 A2.out).mono ?_); (case side1 => repeat (first | (with_reducible first | exact HI0.out | apply IsS152.alloc | apply IsS152.drewN | apply IsS152.drew | apply IsS152.set_1 | apply IsS152.set_2) | exact HI0.out)); (case side2 => repeat (first | (with_reducible first | exact HB.out | apply below_alloc | apply pw_below_drewN | apply below_drew1 | refine below_set ?_ (IsS152.ge HI0.out)) | exact HB.out)); rintro e w3 ⟨rfl, hi, hb, hk⟩; refine ⟨_, rfl, ?_⟩; replace HK := Aside0.mk (KeepBut.trans (by repeat (first | (with_reducible first | exact HK.out | apply KeepBut.set_ | apply keep_drewN | apply keep_drew | apply keep_alloc) | exact HK.out)) hk (.inl rfl)); replace HB := Aside0.mk (hb); replace HI0 := Aside0.mk (hi); (try clear hb); (try clear hk); (try clear hi)))
 go_ret
 exact ⟨ea_, by repeat (first | (with_reducible first | exact HI0.out | apply IsS152.alloc | apply IsS152.drewN | apply IsS152.drew | apply IsS152.set_1 | apply IsS152.set_2) | exact HI0.out), by repeat (first | (with_reducible first | exact HB.out | apply below_alloc | apply pw_below_drewN | apply below_drew1 | refine below_set ?_ (IsS152.ge HI0.out)) | exact HB.out), by repeat (first | (with_reducible first | exact HK.out | apply KeepBut.set_ | apply keep_drewN | apply keep_drew | apply keep_alloc) | exact HK.out)⟩
end Go.Proofs.Ytbifdckfglejkaa.X
namespace Go.Proofs.Ytbifdckfglejkaa.X
open Go.RowKit Go.Proofs.YtbifdckfglejkaaW.PrintWords Go.Proofs.YtbifdckfglejkaaW.PrintLast Go.Proofs.YtbifdckfglejkaaW.PrintMore
attribute [local go_sem] max2_int min2_int max_two min_two max_three min_three max_four min_four   -- for this text's walks alone
set_option linter.unusedVariables false
set_option linter.unusedSimpArgs false
def spec_l1Once.f (s0_0 : List Int) (s0_1 : Int) (s0_2 : Int) (a1 : Int) : Option (Bool × Int × Int) := (spec_l1Below.f s0_0 s0_1 s0_2 a1).bind fun bt1242 => (some ((bt1242.1 == 0), bt1242.2.1, bt1242.2.2))
set_option maxHeartbeats 8000000 in
set_option maxRecDepth 100000 in
theorem spec_l1Once.calls (g : Nat) (s0_0 : List Int) (s0_1 : Int) (s0_2 : Int) (a1 : Int) (r1 : Bool) (r2 : Int) (r3 : Int) (w0 w : World) (hI : IsS152 w0 w g s0_0 s0_1 s0_2) (hB : Below w0.heap.size w0 w) (h : spec_l1Once.f s0_0 s0_1 s0_2 a1 = some (r1, r2, r3)) :
  Calls Try.prog 140 #[.pointer (some ⟨g, 0, none⟩), .int .i64 a1] w fun e w' => e = .returned (.bool r1) ∧ IsS152 w0 w' g s0_0 r2 r3 ∧ Below w0.heap.size w0 w' ∧ KeepBut w w' g none := by
 have HI0 := Aside0.mk hI
 have HK := Aside0.mk (KeepBut.refl w g none)
 have HL := Aside0.mk hB.size
 clear hI
 have HW0 := Aside0.mk hB.size
 have HB := Aside0.mk hB
 clear hB
 have H : ((spec_l1Below.f s0_0 s0_1 s0_2 a1).bind fun bt1242 => (some ((bt1242.1 == 0), bt1242.2.1, bt1242.2.2))) = some (r1, r2, r3) := h
 clear h
 replace H := Option.bind_eq_some_iff.mp H
 obtain ⟨⟨t1242, t1243, t1244⟩, A30, H⟩ := H
 replace H : (some ((t1242 == 0), t1243, t1244)) = some (r1, r2, r3) := H
 have A3 := Aside0.mk A30
 clear A30
 simp only [Option.some.injEq, Prod.mk.injEq] at H
 obtain ⟨rfl, rfl, rfl⟩ := H
 go_enter Try.func140, Try.ntmps140
 go_wp2_with (first | ((with_reducible refine gate_callee (f := 135) rfl ?_); refine gL_ (some 7) Try.func135 #[.pointer (some ⟨g, 0, none⟩), .int .i64 a1] ?_; (with_reducible refine (spec_l1Below.calls g s0_0 s0_1 s0_2 a1 t1242 t1243 t1244 w0 _ ?side1 ?side2 A3.out).mono ?_); (case side1 => repeat (first | (with_reducible first | exact HI0.out | apply IsS152.alloc | apply IsS152.drewN | apply IsS152.drew | apply IsS152.set_1 | apply IsS152.set_2) | exact HI0.out)); (case side2 => repeat (first | (with_reducible first | exact HB.out | apply below_alloc | apply pw_below_drewN | apply below_drew1 | refine below_set ?_ (IsS152.ge HI0.out)) | exact HB.out)); rintro e w4 ⟨rfl, hi, hb, hk⟩; refine ⟨_, rfl, ?_⟩; replace HK := Aside0.mk (KeepBut.trans (by repeat (first | (with_reducible first | exact HK.out | apply KeepBut.set_ | apply keep_drewN | apply keep_drew | apply keep_alloc) | exact HK.out)) hk (.inl rfl)); replace HB := Aside0.mk (hb); replace HI0 := Aside0.mk (hi); (try clear hb); (try clear hk); (try clear hi)))
 go_ret
 exact ⟨ea_, by repeat (first | (with_reducible first | exact HI0.out | apply IsS152.alloc | apply IsS152.drewN | apply IsS152.drew | apply IsS152.set_1 | apply IsS152.set_2) | exact HI0.out), by repeat (first | (with_reducible first | exact HB.out | apply below_alloc | apply pw_below_drewN | apply below_drew1 | refine below_set ?_ (IsS152.ge HI0.out)) | exact HB.out), by repeat (first | (with_reducible first | exact HK.out | apply KeepBut.set_ | apply keep_drewN | apply keep_drew | apply keep_alloc) | exact HK.out)⟩
end Go.Proofs.Ytbifdckfglejkaa.X
namespace Go.Proofs.Ytbifdckfglejkaa.X
open Go.RowKit Go.Proofs.YtbifdckfglejkaaW.PrintWords Go.Proofs.YtbifdckfglejkaaW.PrintLast Go.Proofs.YtbifdckfglejkaaW.PrintMore
attribute [local go_sem] max2_int min2_int max_two min_two max_three min_three max_four min_four   -- for this text's walks alone
set_option linter.unusedVariables false
set_option linter.unusedSimpArgs false
def spec_l3Tree.l0 : Nat → List (S90) → Int → List Int → Int → Int → Option ((List (S90)) × Int × Int)
 | 0, _, _, _, _, _ => none
 | k + 1, x5, x6, x1000, x1001, x1002 => if x6 > 0 then (if 0 ≤ (wrap64 ((x5.length : Int) - 1)) then (if (wrap64 ((x5.length : Int) - 1)) < (x5.length : Int) then ((spec_l1Below.f x1000 x1001 x1002 (wrap64 (((rd_T90 x5 (wrap64 ((x5.length : Int) - 1))).f1) + 1))).bind fun bt1255 => ((spec_l1Once.f x1000 bt1255.2.1 bt1255.2.2 2).bind fun bt1258 => (if bt1258.1 = true then (if (wrap64 (((rd_T90 x5 (wrap64 ((x5.length : Int) - 1))).f1) + 1)) > 12 then ((spec_l2Label.f x1000 bt1258.2.1 bt1258.2.2).bind fun bt1261 => (if x5.length < 8796093022208 then (spec_l3Tree.l0 k (x5 ++ [(⟨bt1261.1, 1⟩ : S90)]) (wrap64 (x6 - 1)) x1000 bt1261.2.1 bt1261.2.2) else (none))) else ((spec_l2Label.f x1000 bt1258.2.1 bt1258.2.2).bind fun bt1267 => (if x5.length < 8796093022208 then (spec_l3Tree.l0 k (x5 ++ [(⟨bt1267.1, wrap64 (((rd_T90 x5 (wrap64 ((x5.length : Int) - 1))).f1) + 1)⟩ : S90)]) (wrap64 (x6 - 1)) x1000 bt1267.2.1 bt1267.2.2) else (none)))) else (if (wrap64 (1 + bt1255.1)) > 12 then ((spec_l2Label.f x1000 bt1258.2.1 bt1258.2.2).bind fun bt1273 => (if x5.length < 8796093022208 then (spec_l3Tree.l0 k (x5 ++ [(⟨bt1273.1, 1⟩ : S90)]) (wrap64 (x6 - 1)) x1000 bt1273.2.1 bt1273.2.2) else (none))) else ((spec_l2Label.f x1000 bt1258.2.1 bt1258.2.2).bind fun bt1279 => (if x5.length < 8796093022208 then (spec_l3Tree.l0 k (x5 ++ [(⟨bt1279.1, wrap64 (1 + bt1255.1)⟩ : S90)]) (wrap64 (x6 - 1)) x1000 bt1279.2.1 bt1279.2.2) else (none))))))) else (none)) else (none)) else (some (x5, x1001, x1002))
def spec_l3Tree.f (k : Nat) (s0_0 : List Int) (s0_1 : Int) (s0_2 : Int) (a1 : Int) : Option ((List (S90)) × Int × Int) := (spec_l2Label.f s0_0 s0_1 s0_2).bind fun bt1245 => ((spec_l1Below.f s0_0 bt1245.2.1 bt1245.2.2 a1).bind fun bt1251 => (spec_l3Tree.l0 k (([(⟨bt1245.1, 0⟩ : S90)] : List (S90))) bt1251.1 s0_0 bt1251.2.1 bt1251.2.2))
set_option maxHeartbeats 8000000 in
set_option maxRecDepth 100000 in
theorem spec_l3Tree.calls (k : Nat) (g : Nat) (s0_0 : List Int) (s0_1 : Int) (s0_2 : Int) (a1 : Int) (r1 : List (S90)) (r2 : Int) (r3 : Int) (w0 w : World) (hI : IsS152 w0 w g s0_0 s0_1 s0_2) (hB : Below w0.heap.size w0 w) (h : spec_l3Tree.f k s0_0 s0_1 s0_2 a1 = some (r1, r2, r3)) :
  Calls Try.prog 134 #[.pointer (some ⟨g, 0, none⟩), .int .i64 a1] w fun e w' => ∃ v0_ : Value, e = .returned (v0_) ∧ Kd.R k90 90 w' w.heap.size (fun _ => True) v0_ r1 ∧ IsS152 w0 w' g s0_0 r2 r3 ∧ Below w0.heap.size w0 w' ∧ KeepBut w w' g none := by
 have hu90 := Try.underlying90
 have HI0 := Aside0.mk hI
 have HK := Aside0.mk (KeepBut.refl w g none)
 have HL := Aside0.mk hB.size
 clear hI
 have HW0 := Aside0.mk hB.size
 have HB := Aside0.mk hB
 clear hB
 have H : ((spec_l2Label.f s0_0 s0_1 s0_2).bind fun bt1245 => ((spec_l1Below.f s0_0 bt1245.2.1 bt1245.2.2 a1).bind fun bt1251 => (spec_l3Tree.l0 k (([(⟨bt1245.1, 0⟩ : S90)] : List (S90))) bt1251.1 s0_0 bt1251.2.1 bt1251.2.2))) = some (r1, r2, r3) := h
 clear h
 replace H := Option.bind_eq_some_iff.mp H
 obtain ⟨⟨t1245, t1246, t1247⟩, A30, H⟩ := H
 try dsimp only at H
 have A3 := Aside0.mk A30
 clear A30
 obtain ⟨y1248, hy1248⟩ : ∃ y_ : List (S90), y_ = (([(⟨t1245, 0⟩ : S90)] : List (S90))) := ⟨_, rfl⟩
 replace H : ((spec_l1Below.f s0_0 t1246 t1247 a1).bind fun bt1251 => (spec_l3Tree.l0 k y1248 bt1251.1 s0_0 bt1251.2.1 bt1251.2.2)) = some (r1, r2, r3) := by first | (rw [hy1248]; with_reducible exact H) | (have H2_ := (Option.bind_some _ _).symm.trans H; rw [hy1248]; with_reducible exact H2_) | (have H2_ := (Option.bind_some _ _).symm.trans H; with_reducible exact H2_) | with_reducible exact H | (rw [hy1248]; exact H) | exact H
 have Ny1248 := Aside0.mk hy1248
 clear hy1248
 replace H := Option.bind_eq_some_iff.mp H
 obtain ⟨⟨t1251, t1252, t1253⟩, A40, H⟩ := H
 replace H : (spec_l3Tree.l0 k y1248 t1251 s0_0 t1252 t1253) = some (r1, r2, r3) := H
 have A4 := Aside0.mk A40
 clear A40
 have H' := Aside0.mk H
 clear H
 go_enter Try.func134, Try.ntmps134
 go_wp2_with (first | ((with_reducible refine gate_callee (f := 139) rfl ?_); refine gL_ (some 10) Try.func139 #[.pointer (some ⟨g, 0, none⟩)] ?_; (with_reducible refine (spec_l2Label.calls g s0_0 s0_1 s0_2 t1245 t1246 t1247 w0 _ ?side1 ?side2 A3.out).mono ?_); (case side1 => repeat (first | (with_reducible first | exact HI0.out | apply IsS152.alloc | apply IsS152.drewN | apply IsS152.drew | apply IsS152.set_1 | apply IsS152.set_2) | exact HI0.out)); (case side2 => repeat (first | (with_reducible first | exact HB.out | apply below_alloc | apply pw_below_drewN | apply below_drew1 | refine below_set ?_ (IsS152.ge HI0.out)) | exact HB.out)); rintro e w5 ⟨rfl, hi, hb, hk⟩; refine ⟨_, rfl, ?_⟩; replace HK := Aside0.mk (KeepBut.trans (by repeat (first | (with_reducible first | exact HK.out | apply KeepBut.set_ | apply keep_drewN | apply keep_drew | apply keep_alloc) | exact HK.out)) hk (.inl rfl)); replace HB := Aside0.mk (hb); replace HI0 := Aside0.mk (hi); (try clear hb); (try clear hk); (try clear hi)) | ((with_reducible refine gate_dst (N := 12) rfl ?_); refine Kd.R_lit k90 _ 90 ?hg (N := 12) ?hd (xs := ([(⟨t1245, 0⟩ : S90)] : List (S90))) (inner := [.int .i64 t1245, .int .i64 0]) (ok := fun _ => True) (okp := fun _ => True) ?hr ?hp (fun _ hk => hk) trivial (Below.refl _ _) (Nat.le_refl _) (by simp) ?_; (case hd => rfl); (case hg => rfl); (case hr => first | (go_simp; done) | (go_simp; rfl)); (case hp => exact (Reps.c2 (show Kd.M k90 _ _ _ (⟨t1245, 0⟩ : S90) [.int .i64 t1245, .int .i64 0] from (k90_mkM _ _ _ (⟨t1245, 0⟩ : S90) )) (Reps.none _ _))); intro v1249 w6 ho7 hb hg_ hnew_; clear hg_ hnew_; (first | rw [← Ny1248.out] at ho7 | (simp only [Int.reduceToNat] at ho7; rw [← Ny1248.out] at ho7)); have HO1250 := Aside0.mk (Kd.R_lower ho7 (keep_size (w := w) (g := g) (row := none) (by repeat (first | (with_reducible first | exact HK.out | apply KeepBut.set_ | apply keep_drewN | apply keep_drew | apply keep_alloc) | exact HK.out)))); replace HK := Aside0.mk (KeepBut.trans (by repeat (first | (with_reducible first | exact HK.out | apply KeepBut.set_ | apply keep_drewN | apply keep_drew | apply keep_alloc) | exact HK.out)) (KeepBut.of_below hb g none) (.inl rfl)); replace HB := Aside0.mk (below_step (by repeat (first | (with_reducible first | exact HB.out | apply below_alloc | apply pw_below_drewN | apply below_drew1 | refine below_set ?_ (IsS152.ge HI0.out)) | exact HB.out)) hb); replace HI0 := Aside0.mk (IsS152.below (by repeat (first | (with_reducible first | exact HI0.out | apply IsS152.alloc | apply IsS152.drewN | apply IsS152.drew | apply IsS152.set_1 | apply IsS152.set_2) | exact HI0.out)) hb); clear hb ho7) | ((with_reducible refine gate_callee (f := 135) rfl ?_); refine gL_ (some 15) Try.func135 #[.pointer (some ⟨g, 0, none⟩), .int .i64 a1] ?_; (with_reducible refine (spec_l1Below.calls g s0_0 t1246 t1247 a1 t1251 t1252 t1253 w0 _ ?side1 ?side2 A4.out).mono ?_); (case side1 => repeat (first | (with_reducible first | exact HI0.out | apply IsS152.alloc | apply IsS152.drewN | apply IsS152.drew | apply IsS152.set_1 | apply IsS152.set_2) | exact HI0.out)); (case side2 => repeat (first | (with_reducible first | exact HB.out | apply below_alloc | apply pw_below_drewN | apply below_drew1 | refine below_set ?_ (IsS152.ge HI0.out)) | exact HB.out)); rintro e w8 ⟨rfl, hi, hb, hk⟩; refine ⟨_, rfl, ?_⟩; replace HO1250 := Aside0.mk (Kd.R_mono (Kd.R_keep (IsS152.apart (show IsS152 w0 _ g s0_0 t1246 t1247 from by repeat (first | (with_reducible first | exact HI0.out | apply IsS152.alloc | apply IsS152.drewN | apply IsS152.drew | apply IsS152.set_1 | apply IsS152.set_2) | exact HI0.out)) (rx_ HO1250.out) (by decide)) hk (fun _ h => h.2)) (fun _ h => h.1)); replace HK := Aside0.mk (KeepBut.trans (by repeat (first | (with_reducible first | exact HK.out | apply KeepBut.set_ | apply keep_drewN | apply keep_drew | apply keep_alloc) | exact HK.out)) hk (.inl rfl)); replace HB := Aside0.mk (hb); replace HI0 := Aside0.mk (hi); (try clear hb); (try clear hk); (try clear hi)))
 go_loopg [5, 6] k (fun kq v5 v6 w' => ∃ (x5_1 : List (S90)) (x6_1 : Int) (x1001_1 : Int) (x1002_1 : Int), v6 = .int .i64 x6_1 ∧ Aside0 (spec_l3Tree.l0 kq x5_1 x6_1 s0_0 x1001_1 x1002_1 = some (r1, r2, r3)) ∧ Aside0 (kq ≤ k) ∧ Aside0 (Kd.R k90 90 w' w.heap.size (fun _ => True) v5 x5_1) ∧ Aside0 (IsS152 w0 w' g s0_0 x1001_1 x1002_1) ∧ Aside0 (KeepBut w w' g none) ∧ Aside0 (Below w0.heap.size w0 w'))
 case atStart => exact ⟨(y1248), (t1251), (t1252), (t1253), eb_, H', ⟨Nat.le_refl _⟩, ⟨rx_ HO1250.out⟩, ⟨by repeat (first | (with_reducible first | exact HI0.out | apply IsS152.alloc | apply IsS152.drewN | apply IsS152.drew | apply IsS152.set_1 | apply IsS152.set_2) | exact HI0.out)⟩, ⟨by repeat (first | (with_reducible first | exact HK.out | apply KeepBut.set_ | apply keep_drewN | apply keep_drew | apply keep_alloc) | exact HK.out)⟩, ⟨by repeat (first | (with_reducible first | exact HB.out | apply below_alloc | apply pw_below_drewN | apply below_drew1 | refine below_set ?_ (IsS152.ge HI0.out)) | exact HB.out)⟩⟩
 case round =>
  clear H'
  try clear c1
  try clear c2
  try clear p2
  obtain ⟨x5_1, x6_1, x1001_1, x1002_1, rfl, HA, HK1, HO_5, HI0, HK, HB⟩ := hrel
  cases gk with
  | zero => exact absurd HA.out (by simp [spec_l3Tree.l0])
  | succ k1 =>
   have H := HA.out
   clear HA
   simp only [spec_l3Tree.l0] at H
   by_cases c9 : x6_1 > 0
   ·rw [if_pos c9] at H
    have c9b0 : decide (0 < x6_1) = true := decide_eq_true c9
    clear c9
    obtain ⟨ji10, hji10⟩ : ∃ j_ : Int, (wrap64 ((x5_1.length : Int) - 1)) = j_ := ⟨_, rfl⟩
    replace H : (if 0 ≤ (ji10) then (if (ji10) < (x5_1.length : Int) then ((spec_l1Below.f s0_0 x1001_1 x1002_1 (wrap64 (((rd_T90 x5_1 (ji10)).f1) + 1))).bind fun bt1255 => ((spec_l1Once.f s0_0 bt1255.2.1 bt1255.2.2 2).bind fun bt1258 => (if bt1258.1 = true then (if (wrap64 (((rd_T90 x5_1 (ji10)).f1) + 1)) > 12 then ((spec_l2Label.f s0_0 bt1258.2.1 bt1258.2.2).bind fun bt1261 => (if x5_1.length < 8796093022208 then (spec_l3Tree.l0 k1 (x5_1 ++ [(⟨bt1261.1, 1⟩ : S90)]) (wrap64 (x6_1 - 1)) s0_0 bt1261.2.1 bt1261.2.2) else (none))) else ((spec_l2Label.f s0_0 bt1258.2.1 bt1258.2.2).bind fun bt1267 => (if x5_1.length < 8796093022208 then (spec_l3Tree.l0 k1 (x5_1 ++ [(⟨bt1267.1, wrap64 (((rd_T90 x5_1 (ji10)).f1) + 1)⟩ : S90)]) (wrap64 (x6_1 - 1)) s0_0 bt1267.2.1 bt1267.2.2) else (none)))) else (if (wrap64 (1 + bt1255.1)) > 12 then ((spec_l2Label.f s0_0 bt1258.2.1 bt1258.2.2).bind fun bt1273 => (if x5_1.length < 8796093022208 then (spec_l3Tree.l0 k1 (x5_1 ++ [(⟨bt1273.1, 1⟩ : S90)]) (wrap64 (x6_1 - 1)) s0_0 bt1273.2.1 bt1273.2.2) else (none))) else ((spec_l2Label.f s0_0 bt1258.2.1 bt1258.2.2).bind fun bt1279 => (if x5_1.length < 8796093022208 then (spec_l3Tree.l0 k1 (x5_1 ++ [(⟨bt1279.1, wrap64 (1 + bt1255.1)⟩ : S90)]) (wrap64 (x6_1 - 1)) s0_0 bt1279.2.1 bt1279.2.2) else (none))))))) else (none)) else (none)) = some (r1, r2, r3) := by first | (rw [hji10] at H; exact H) | (simp only [hji10] at H ⊢; exact H)
    have hji10w : (IntKind.i64.wrap ((x5_1.length : Int) - 1)) = ji10 := (i64_w _).trans hji10
    by_cases c11 : 0 ≤ (ji10)
    ·rw [if_pos c11] at H
     have c11b0 : decide (0 ≤ (ji10)) = true := decide_eq_true c11
     clear c11
     by_cases c12 : (ji10) < (x5_1.length : Int)
     ·rw [if_pos c12] at H
      have c12b0 : decide ((ji10) < (x5_1.length : Int)) = true := decide_eq_true c12
      clear c12
      replace H := Option.bind_eq_some_iff.mp H
      obtain ⟨⟨t1255, t1256, t1257⟩, A130, H⟩ := H
      try dsimp only at H
      have A13 := Aside0.mk A130
      clear A130
      replace H := Option.bind_eq_some_iff.mp H
      obtain ⟨⟨t1258, t1259, t1260⟩, A140, H⟩ := H
      try dsimp only at H
      have A14 := Aside0.mk A140
      clear A140
      by_cases c15 : t1258 = true
      ·subst c15
       have H1 : (if (wrap64 (((rd_T90 x5_1 (ji10)).f1) + 1)) > 12 then ((spec_l2Label.f s0_0 t1259 t1260).bind fun bt1261 => (if x5_1.length < 8796093022208 then (spec_l3Tree.l0 k1 (x5_1 ++ [(⟨bt1261.1, 1⟩ : S90)]) (wrap64 (x6_1 - 1)) s0_0 bt1261.2.1 bt1261.2.2) else (none))) else ((spec_l2Label.f s0_0 t1259 t1260).bind fun bt1267 => (if x5_1.length < 8796093022208 then (spec_l3Tree.l0 k1 (x5_1 ++ [(⟨bt1267.1, wrap64 (((rd_T90 x5_1 (ji10)).f1) + 1)⟩ : S90)]) (wrap64 (x6_1 - 1)) s0_0 bt1267.2.1 bt1267.2.2) else (none)))) = some (r1, r2, r3) := by rw [if_pos rfl] at H; exact H
       clear H
       have H := H1
       clear H1
       by_cases c16 : (wrap64 (((rd_T90 x5_1 (ji10)).f1) + 1)) > 12
       ·rw [if_pos c16] at H
        have c16b0 : decide (12 < (wrap64 (((rd_T90 x5_1 (ji10)).f1) + 1))) = true := decide_eq_true c16
        clear c16
        replace H := Option.bind_eq_some_iff.mp H
        obtain ⟨⟨t1261, t1262, t1263⟩, A170, H⟩ := H
        try dsimp only at H
        have A17 := Aside0.mk A170
        clear A170
        by_cases c18 : x5_1.length < 8796093022208
        ·rw [if_pos c18] at H
         have LMc18 := Aside0.mk c18
         clear c18
         obtain ⟨y1264, hy1264⟩ : ∃ y_ : List (S90), y_ = (x5_1 ++ [(⟨t1261, 1⟩ : S90)]) := ⟨_, rfl⟩
         replace H : (spec_l3Tree.l0 k1 y1264 (wrap64 (x6_1 - 1)) s0_0 t1262 t1263) = some (r1, r2, r3) := by first | (rw [hy1264]; with_reducible exact H) | (have H2_ := (Option.bind_some _ _).symm.trans H; rw [hy1264]; with_reducible exact H2_) | (have H2_ := (Option.bind_some _ _).symm.trans H; with_reducible exact H2_) | with_reducible exact H | (rw [hy1264]; exact H) | exact H
         have Ny1264 := Aside0.mk hy1264
         clear hy1264
         have H' := Aside0.mk H
         clear H
         obtain ⟨Ao19, co19, eo19⟩ := Kd.R_slice HO_5.out
         subst eo19
         have p1254 : 0 ≤ ((ji10) : Int) := of_decide_eq_true (by first | (with_reducible assumption) | assumption)
         have q1254 : (ji10) < (x5_1.length : Int) := of_decide_eq_true (by first | (with_reducible assumption) | assumption)
         obtain ⟨ad1254, e1254, hx1254_0, hx1254_1⟩ := at_T90 (Kd.R_reads' HO_5.out).2.2 (ji10) p1254 q1254
         cases e1254
         replace p1254 := eq_true p1254
         replace q1254 := eq_true q1254
         go_wp2_with (first | ((with_reducible refine gate_callee (f := 135) rfl ?_); refine goesL_ (some 30) rfl rfl Try.func135 (by kernel_rfl) rfl #[.pointer (some ⟨g, 0, none⟩), .int .i64 (wrap64 (((rd_T90 x5_1 (ji10)).f1) + 1))] rfl (by (try simp only [List.map_toArray, List.map_cons, List.map_nil]); first | done | (simp only [hji10]; rfl) | rfl | (simp only [List.length_drop, List.length_take]; rfl)) ?_; (with_reducible refine (spec_l1Below.calls g s0_0 x1001_1 x1002_1 (wrap64 (((rd_T90 x5_1 (ji10)).f1) + 1)) t1255 t1256 t1257 w0 _ ?side1 ?side2 A13.out).mono ?_); (case side1 => repeat (first | (with_reducible first | exact HI0.out | apply IsS152.alloc | apply IsS152.drewN | apply IsS152.drew | apply IsS152.set_1 | apply IsS152.set_2) | exact HI0.out)); (case side2 => repeat (first | (with_reducible first | exact HB.out | apply below_alloc | apply pw_below_drewN | apply below_drew1 | refine below_set ?_ (IsS152.ge HI0.out)) | exact HB.out)); rintro e w20 ⟨rfl, hi, hb, hk⟩; refine ⟨_, rfl, ?_⟩; have n0_ := Aside0.mk (Kd.R_mono (Kd.R_keep (IsS152.apart (show IsS152 w0 _ g s0_0 x1001_1 x1002_1 from by repeat (first | (with_reducible first | exact HI0.out | apply IsS152.alloc | apply IsS152.drewN | apply IsS152.drew | apply IsS152.set_1 | apply IsS152.set_2) | exact HI0.out)) (by (with_reducible repeat (first | apply Kd.R_alloc | apply Kd.R_drewN | apply Kd.R_drew)); exact HO_5.out) (by decide)) hk (fun _ h => h.2)) (fun _ h => h.1)); have n1_ := Aside0.mk (KeepBut.trans (by repeat (first | (with_reducible first | exact HK.out | apply KeepBut.set_ | apply keep_drewN | apply keep_drew | apply keep_alloc) | exact HK.out)) hk (.inl rfl)); have n2_ := Aside0.mk (hb); have n3_ := Aside0.mk (hi); clear HO_5; clear HK; clear HB; clear HI0; have HO_5 := n0_; have HK := n1_; have HB := n2_; have HI0 := n3_; clear n0_ n1_ n2_ n3_; (try clear hb); (try clear hb2); (try clear hk); (try clear hi)) | ((with_reducible refine gate_callee (f := 140) rfl ?_); refine goesL_ (some 33) rfl rfl Try.func140 (by kernel_rfl) rfl #[.pointer (some ⟨g, 0, none⟩), .int .i64 2] rfl (by (try simp only [List.map_toArray, List.map_cons, List.map_nil]); first | done | rfl | (simp only [List.length_drop, List.length_take]; rfl)) ?_; (with_reducible refine (spec_l1Once.calls g s0_0 t1256 t1257 2 true t1259 t1260 w0 _ ?side1 ?side2 A14.out).mono ?_); (case side1 => repeat (first | (with_reducible first | exact HI0.out | apply IsS152.alloc | apply IsS152.drewN | apply IsS152.drew | apply IsS152.set_1 | apply IsS152.set_2) | exact HI0.out)); (case side2 => repeat (first | (with_reducible first | exact HB.out | apply below_alloc | apply pw_below_drewN | apply below_drew1 | refine below_set ?_ (IsS152.ge HI0.out)) | exact HB.out)); rintro e w21 ⟨rfl, hi, hb, hk⟩; refine ⟨_, rfl, ?_⟩; have n0_ := Aside0.mk (Kd.R_mono (Kd.R_keep (IsS152.apart (show IsS152 w0 _ g s0_0 t1256 t1257 from by repeat (first | (with_reducible first | exact HI0.out | apply IsS152.alloc | apply IsS152.drewN | apply IsS152.drew | apply IsS152.set_1 | apply IsS152.set_2) | exact HI0.out)) (by (with_reducible repeat (first | apply Kd.R_alloc | apply Kd.R_drewN | apply Kd.R_drew)); exact HO_5.out) (by decide)) hk (fun _ h => h.2)) (fun _ h => h.1)); have n1_ := Aside0.mk (KeepBut.trans (by repeat (first | (with_reducible first | exact HK.out | apply KeepBut.set_ | apply keep_drewN | apply keep_drew | apply keep_alloc) | exact HK.out)) hk (.inl rfl)); have n2_ := Aside0.mk (hb); have n3_ := Aside0.mk (hi); clear HO_5; clear HK; clear HB; clear HI0; have HO_5 := n0_; have HK := n1_; have HB := n2_; have HI0 := n3_; clear n0_ n1_ n2_ n3_; (try clear hb); (try clear hb2); (try clear hk); (try clear hi)) | ((with_reducible refine gate_callee (f := 139) rfl ?_); refine goesL_ (some 40) rfl rfl Try.func139 (by kernel_rfl) rfl #[.pointer (some ⟨g, 0, none⟩)] rfl (by (try simp only [List.map_toArray, List.map_cons, List.map_nil]); first | done | rfl | (simp only [List.length_drop, List.length_take]; rfl)) ?_; (with_reducible refine (spec_l2Label.calls g s0_0 t1259 t1260 t1261 t1262 t1263 w0 _ ?side1 ?side2 A17.out).mono ?_); (case side1 => repeat (first | (with_reducible first | exact HI0.out | apply IsS152.alloc | apply IsS152.drewN | apply IsS152.drew | apply IsS152.set_1 | apply IsS152.set_2) | exact HI0.out)); (case side2 => repeat (first | (with_reducible first | exact HB.out | apply below_alloc | apply pw_below_drewN | apply below_drew1 | refine below_set ?_ (IsS152.ge HI0.out)) | exact HB.out)); rintro e w22 ⟨rfl, hi, hb, hk⟩; refine ⟨_, rfl, ?_⟩; have n0_ := Aside0.mk (Kd.R_mono (Kd.R_keep (IsS152.apart (show IsS152 w0 _ g s0_0 t1259 t1260 from by repeat (first | (with_reducible first | exact HI0.out | apply IsS152.alloc | apply IsS152.drewN | apply IsS152.drew | apply IsS152.set_1 | apply IsS152.set_2) | exact HI0.out)) (by (with_reducible repeat (first | apply Kd.R_alloc | apply Kd.R_drewN | apply Kd.R_drew)); exact HO_5.out) (by decide)) hk (fun _ h => h.2)) (fun _ h => h.1)); have n1_ := Aside0.mk (KeepBut.trans (by repeat (first | (with_reducible first | exact HK.out | apply KeepBut.set_ | apply keep_drewN | apply keep_drew | apply keep_alloc) | exact HK.out)) hk (.inl rfl)); have n2_ := Aside0.mk (hb); have n3_ := Aside0.mk (hi); clear HO_5; clear HK; clear HB; clear HI0; have HO_5 := n0_; have HK := n1_; have HB := n2_; have HI0 := n3_; clear n0_ n1_ n2_ n3_; (try clear hb); (try clear hb2); (try clear hk); (try clear hi)) | ((with_reducible refine gate_builtin (b := .append) (xs := #[.tmp 38, .tmp 43]) rfl ?_); at_builtin; refine Kd.R_append k90 w.heap.size rfl (.tmp 38) (.tmp 43) 34 90 (.agg #[(.int .i64 0), (.int .i64 0)]) 16 rfl Try.underlying34 info90 rfl (by decide) (by omega) (.slice (some ad1254) x5_1.length co19) x5_1 (⟨t1261, 1⟩ : S90) [.int .i64 t1261, .int .i64 1] (fun _ => True) (fun _ => False) rfl rfl ?aP (fun _ hk => hk.elim) ?aF ?aO (Below.refl _ _) ?aS ?aL ?_; (case aP => exact k90_mkM _ _ _ (⟨t1261, 1⟩ : S90)); (case aF => exact (fun _ _ => trivial)); (case aO => exact (by (with_reducible repeat (first | apply Kd.R_alloc | apply Kd.R_drewN | apply Kd.R_drew)); exact HO_5.out)); (case aS => exact (keep_size (w := w) (g := g) (row := none) (by repeat (first | (with_reducible first | exact HK.out | apply KeepBut.set_ | apply keep_drewN | apply keep_drew | apply keep_alloc) | exact HK.out)))); (case aL => have := LMc18.out; omega); intro v1265 w23 ho hb hg hat; rw [← Ny1264.out] at ho; have n0_ := Aside0.mk (IsS152.grown (by repeat (first | (with_reducible first | exact HI0.out | apply IsS152.alloc | apply IsS152.drewN | apply IsS152.drew | apply IsS152.set_1 | apply IsS152.set_2) | exact HI0.out)) hg (IsS152.own_ne HI0.out HO_5.out (by decide))); have n1_ := Aside0.mk (below_weaken (by repeat (first | (with_reducible first | exact HB.out | apply below_alloc | apply pw_below_drewN | apply below_drew1 | refine below_set ?_ (IsS152.ge HI0.out)) | exact HB.out)) HL.out hb); have n2_ := Aside0.mk (KeepBut.trans (by repeat (first | (with_reducible first | exact HK.out | apply KeepBut.set_ | apply keep_drewN | apply keep_drew | apply keep_alloc) | exact HK.out)) (KeepBut.of_grown hg g) (Kd.R_base2 HO_5.out)); have n3_ := Aside0.mk (ho); clear HI0; clear HB; clear HK; clear HO_5; have HI0 := n0_; have HB := n1_; have HK := n2_; have HO1266 := n3_; clear n0_ n1_ n2_ n3_; clear ho hb hg hat))
         go_roundg k1
         case measure => have := HK1.out; omega
         case rel => exact ⟨(y1264), (wrap64 (x6_1 - 1)), (t1262), (t1263), eb_, H', ⟨by have := HK1.out; omega⟩, ⟨rx_ HO1266.out⟩, ⟨by repeat (first | (with_reducible first | exact HI0.out | apply IsS152.alloc | apply IsS152.drewN | apply IsS152.drew | apply IsS152.set_1 | apply IsS152.set_2) | exact HI0.out)⟩, ⟨by repeat (first | (with_reducible first | exact HK.out | apply KeepBut.set_ | apply keep_drewN | apply keep_drew | apply keep_alloc) | exact HK.out)⟩, ⟨by repeat (first | (with_reducible first | exact HB.out | apply below_alloc | apply pw_below_drewN | apply below_drew1 | refine below_set ?_ (IsS152.ge HI0.out)) | exact HB.out)⟩⟩
        ·rw [if_neg c18] at H
         exact absurd H (by simp)
       ·rw [if_neg c16] at H
        have c16b0 : decide (12 < (wrap64 (((rd_T90 x5_1 (ji10)).f1) + 1))) = false := decide_eq_false c16
        clear c16
        replace H := Option.bind_eq_some_iff.mp H
        obtain ⟨⟨t1267, t1268, t1269⟩, A240, H⟩ := H
        try dsimp only at H
        have A24 := Aside0.mk A240
        clear A240
        by_cases c25 : x5_1.length < 8796093022208
        ·rw [if_pos c25] at H
         have LMc25 := Aside0.mk c25
         clear c25
         obtain ⟨y1270, hy1270⟩ : ∃ y_ : List (S90), y_ = (x5_1 ++ [(⟨t1267, wrap64 (((rd_T90 x5_1 (ji10)).f1) + 1)⟩ : S90)]) := ⟨_, rfl⟩
         replace H : (spec_l3Tree.l0 k1 y1270 (wrap64 (x6_1 - 1)) s0_0 t1268 t1269) = some (r1, r2, r3) := by first | (rw [hy1270]; with_reducible exact H) | (have H2_ := (Option.bind_some _ _).symm.trans H; rw [hy1270]; with_reducible exact H2_) | (have H2_ := (Option.bind_some _ _).symm.trans H; with_reducible exact H2_) | with_reducible exact H | (rw [hy1270]; exact H) | exact H
         have Ny1270 := Aside0.mk hy1270
         clear hy1270
         have H' := Aside0.mk H
         clear H
         obtain ⟨Ao26, co26, eo26⟩ := Kd.R_slice HO_5.out
         subst eo26
         have p1254 : 0 ≤ ((ji10) : Int) := of_decide_eq_true (by first | (with_reducible assumption) | assumption)
         have q1254 : (ji10) < (x5_1.length : Int) := of_decide_eq_true (by first | (with_reducible assumption) | assumption)
         obtain ⟨ad1254, e1254, hx1254_0, hx1254_1⟩ := at_T90 (Kd.R_reads' HO_5.out).2.2 (ji10) p1254 q1254
         cases e1254
         replace p1254 := eq_true p1254
         replace q1254 := eq_true q1254
         go_wp2_with (first | ((with_reducible refine gate_callee (f := 135) rfl ?_); refine goesL_ (some 30) rfl rfl Try.func135 (by kernel_rfl) rfl #[.pointer (some ⟨g, 0, none⟩), .int .i64 (wrap64 (((rd_T90 x5_1 (ji10)).f1) + 1))] rfl (by (try simp only [List.map_toArray, List.map_cons, List.map_nil]); first | done | (simp only [hji10]; rfl) | rfl | (simp only [List.length_drop, List.length_take]; rfl)) ?_; (with_reducible refine (spec_l1Below.calls g s0_0 x1001_1 x1002_1 (wrap64 (((rd_T90 x5_1 (ji10)).f1) + 1)) t1255 t1256 t1257 w0 _ ?side1 ?side2 A13.out).mono ?_); (case side1 => repeat (first | (with_reducible first | exact HI0.out | apply IsS152.alloc | apply IsS152.drewN | apply IsS152.drew | apply IsS152.set_1 | apply IsS152.set_2) | exact HI0.out)); (case side2 => repeat (first | (with_reducible first | exact HB.out | apply below_alloc | apply pw_below_drewN | apply below_drew1 | refine below_set ?_ (IsS152.ge HI0.out)) | exact HB.out)); rintro e w27 ⟨rfl, hi, hb, hk⟩; refine ⟨_, rfl, ?_⟩; have n0_ := Aside0.mk (Kd.R_mono (Kd.R_keep (IsS152.apart (show IsS152 w0 _ g s0_0 x1001_1 x1002_1 from by repeat (first | (with_reducible first | exact HI0.out | apply IsS152.alloc | apply IsS152.drewN | apply IsS152.drew | apply IsS152.set_1 | apply IsS152.set_2) | exact HI0.out)) (by (with_reducible repeat (first | apply Kd.R_alloc | apply Kd.R_drewN | apply Kd.R_drew)); exact HO_5.out) (by decide)) hk (fun _ h => h.2)) (fun _ h => h.1)); have n1_ := Aside0.mk (KeepBut.trans (by repeat (first | (with_reducible first | exact HK.out | apply KeepBut.set_ | apply keep_drewN | apply keep_drew | apply keep_alloc) | exact HK.out)) hk (.inl rfl)); have n2_ := Aside0.mk (hb); have n3_ := Aside0.mk (hi); clear HO_5; clear HK; clear HB; clear HI0; have HO_5 := n0_; have HK := n1_; have HB := n2_; have HI0 := n3_; clear n0_ n1_ n2_ n3_; (try clear hb); (try clear hb2); (try clear hk); (try clear hi)) | ((with_reducible refine gate_callee (f := 140) rfl ?_); refine goesL_ (some 33) rfl rfl Try.func140 (by kernel_rfl) rfl #[.pointer (some ⟨g, 0, none⟩), .int .i64 2] rfl (by (try simp only [List.map_toArray, List.map_cons, List.map_nil]); first | done | rfl | (simp only [List.length_drop, List.length_take]; rfl)) ?_; (with_reducible refine (spec_l1Once.calls g s0_0 t1256 t1257 2 true t1259 t1260 w0 _ ?side1 ?side2 A14.out).mono ?_); (case side1 => repeat (first | (with_reducible first | exact HI0.out | apply IsS152.alloc | apply IsS152.drewN | apply IsS152.drew | apply IsS152.set_1 | apply IsS152.set_2) | exact HI0.out)); (case side2 => repeat (first | (with_reducible first | exact HB.out | apply below_alloc | apply pw_below_drewN | apply below_drew1 | refine below_set ?_ (IsS152.ge HI0.out)) | exact HB.out)); rintro e w28 ⟨rfl, hi, hb, hk⟩; refine ⟨_, rfl, ?_⟩; have n0_ := Aside0.mk (Kd.R_mono (Kd.R_keep (IsS152.apart (show IsS152 w0 _ g s0_0 t1256 t1257 from by repeat (first | (with_reducible first | exact HI0.out | apply IsS152.alloc | apply IsS152.drewN | apply IsS152.drew | apply IsS152.set_1 | apply IsS152.set_2) | exact HI0.out)) (by (with_reducible repeat (first | apply Kd.R_alloc | apply Kd.R_drewN | apply Kd.R_drew)); exact HO_5.out) (by decide)) hk (fun _ h => h.2)) (fun _ h => h.1)); have n1_ := Aside0.mk (KeepBut.trans (by repeat (first | (with_reducible first | exact HK.out | apply KeepBut.set_ | apply keep_drewN | apply keep_drew | apply keep_alloc) | exact HK.out)) hk (.inl rfl)); have n2_ := Aside0.mk (hb); have n3_ := Aside0.mk (hi); clear HO_5; clear HK; clear HB; clear HI0; have HO_5 := n0_; have HK := n1_; have HB := n2_; have HI0 := n3_; clear n0_ n1_ n2_ n3_; (try clear hb); (try clear hb2); (try clear hk); (try clear hi)) | ((with_reducible refine gate_callee (f := 139) rfl ?_); refine goesL_ (some 40) rfl rfl Try.func139 (by kernel_rfl) rfl #[.pointer (some ⟨g, 0, none⟩)] rfl (by (try simp only [List.map_toArray, List.map_cons, List.map_nil]); first | done | rfl | (simp only [List.length_drop, List.length_take]; rfl)) ?_; (with_reducible refine (spec_l2Label.calls g s0_0 t1259 t1260 t1267 t1268 t1269 w0 _ ?side1 ?side2 A24.out).mono ?_); (case side1 => repeat (first | (with_reducible first | exact HI0.out | apply IsS152.alloc | apply IsS152.drewN | apply IsS152.drew | apply IsS152.set_1 | apply IsS152.set_2) | exact HI0.out)); (case side2 => repeat (first | (with_reducible first | exact HB.out | apply below_alloc | apply pw_below_drewN | apply below_drew1 | refine below_set ?_ (IsS152.ge HI0.out)) | exact HB.out)); rintro e w29 ⟨rfl, hi, hb, hk⟩; refine ⟨_, rfl, ?_⟩; have n0_ := Aside0.mk (Kd.R_mono (Kd.R_keep (IsS152.apart (show IsS152 w0 _ g s0_0 t1259 t1260 from by repeat (first | (with_reducible first | exact HI0.out | apply IsS152.alloc | apply IsS152.drewN | apply IsS152.drew | apply IsS152.set_1 | apply IsS152.set_2) | exact HI0.out)) (by (with_reducible repeat (first | apply Kd.R_alloc | apply Kd.R_drewN | apply Kd.R_drew)); exact HO_5.out) (by decide)) hk (fun _ h => h.2)) (fun _ h => h.1)); have n1_ := Aside0.mk (KeepBut.trans (by repeat (first | (with_reducible first | exact HK.out | apply KeepBut.set_ | apply keep_drewN | apply keep_drew | apply keep_alloc) | exact HK.out)) hk (.inl rfl)); have n2_ := Aside0.mk (hb); have n3_ := Aside0.mk (hi); clear HO_5; clear HK; clear HB; clear HI0; have HO_5 := n0_; have HK := n1_; have HB := n2_; have HI0 := n3_; clear n0_ n1_ n2_ n3_; (try clear hb); (try clear hb2); (try clear hk); (try clear hi)) | ((with_reducible refine gate_builtin (b := .append) (xs := #[.tmp 38, .tmp 43]) rfl ?_); at_builtin; refine Kd.R_append k90 w.heap.size rfl (.tmp 38) (.tmp 43) 34 90 (.agg #[(.int .i64 0), (.int .i64 0)]) 16 rfl Try.underlying34 info90 rfl (by decide) (by omega) (.slice (some ad1254) x5_1.length co26) x5_1 (⟨t1267, wrap64 (((rd_T90 x5_1 (ji10)).f1) + 1)⟩ : S90) [.int .i64 t1267, .int .i64 (wrap64 (((rd_T90 x5_1 (ji10)).f1) + 1))] (fun _ => True) (fun _ => False) rfl rfl ?aP (fun _ hk => hk.elim) ?aF ?aO (Below.refl _ _) ?aS ?aL ?_; (case aP => exact k90_mkM _ _ _ (⟨t1267, wrap64 (((rd_T90 x5_1 (ji10)).f1) + 1)⟩ : S90)); (case aF => exact (fun _ _ => trivial)); (case aO => exact (by (with_reducible repeat (first | apply Kd.R_alloc | apply Kd.R_drewN | apply Kd.R_drew)); exact HO_5.out)); (case aS => exact (keep_size (w := w) (g := g) (row := none) (by repeat (first | (with_reducible first | exact HK.out | apply KeepBut.set_ | apply keep_drewN | apply keep_drew | apply keep_alloc) | exact HK.out)))); (case aL => have := LMc25.out; omega); intro v1271 w30 ho hb hg hat; rw [← Ny1270.out] at ho; have n0_ := Aside0.mk (IsS152.grown (by repeat (first | (with_reducible first | exact HI0.out | apply IsS152.alloc | apply IsS152.drewN | apply IsS152.drew | apply IsS152.set_1 | apply IsS152.set_2) | exact HI0.out)) hg (IsS152.own_ne HI0.out HO_5.out (by decide))); have n1_ := Aside0.mk (below_weaken (by repeat (first | (with_reducible first | exact HB.out | apply below_alloc | apply pw_below_drewN | apply below_drew1 | refine below_set ?_ (IsS152.ge HI0.out)) | exact HB.out)) HL.out hb); have n2_ := Aside0.mk (KeepBut.trans (by repeat (first | (with_reducible first | exact HK.out | apply KeepBut.set_ | apply keep_drewN | apply keep_drew | apply keep_alloc) | exact HK.out)) (KeepBut.of_grown hg g) (Kd.R_base2 HO_5.out)); have n3_ := Aside0.mk (ho); clear HI0; clear HB; clear HK; clear HO_5; have HI0 := n0_; have HB := n1_; have HK := n2_; have HO1272 := n3_; clear n0_ n1_ n2_ n3_; clear ho hb hg hat))
         go_roundg k1
         case measure => have := HK1.out; omega
         case rel => exact ⟨(y1270), (wrap64 (x6_1 - 1)), (t1268), (t1269), eb_, H', ⟨by have := HK1.out; omega⟩, ⟨rx_ HO1272.out⟩, ⟨by repeat (first | (with_reducible first | exact HI0.out | apply IsS152.alloc | apply IsS152.drewN | apply IsS152.drew | apply IsS152.set_1 | apply IsS152.set_2) | exact HI0.out)⟩, ⟨by repeat (first | (with_reducible first | exact HK.out | apply KeepBut.set_ | apply keep_drewN | apply keep_drew | apply keep_alloc) | exact HK.out)⟩, ⟨by repeat (first | (with_reducible first | exact HB.out | apply below_alloc | apply pw_below_drewN | apply below_drew1 | refine below_set ?_ (IsS152.ge HI0.out)) | exact HB.out)⟩⟩
        ·rw [if_neg c25] at H
         exact absurd H (by simp)
      ·replace c15 := Bool.eq_false_iff.mpr c15
       subst c15
       have H1 : (if (wrap64 (1 + t1255)) > 12 then ((spec_l2Label.f s0_0 t1259 t1260).bind fun bt1273 => (if x5_1.length < 8796093022208 then (spec_l3Tree.l0 k1 (x5_1 ++ [(⟨bt1273.1, 1⟩ : S90)]) (wrap64 (x6_1 - 1)) s0_0 bt1273.2.1 bt1273.2.2) else (none))) else ((spec_l2Label.f s0_0 t1259 t1260).bind fun bt1279 => (if x5_1.length < 8796093022208 then (spec_l3Tree.l0 k1 (x5_1 ++ [(⟨bt1279.1, wrap64 (1 + t1255)⟩ : S90)]) (wrap64 (x6_1 - 1)) s0_0 bt1279.2.1 bt1279.2.2) else (none)))) = some (r1, r2, r3) := by rw [if_neg (show ¬ (false = true) by decide)] at H; exact H
       clear H
       have H := H1
       clear H1
       by_cases c31 : (wrap64 (1 + t1255)) > 12
       ·rw [if_pos c31] at H
        have c31b0 : decide (12 < (wrap64 (1 + t1255))) = true := decide_eq_true c31
        clear c31
        replace H := Option.bind_eq_some_iff.mp H
        obtain ⟨⟨t1273, t1274, t1275⟩, A320, H⟩ := H
        try dsimp only at H
        have A32 := Aside0.mk A320
        clear A320
        by_cases c33 : x5_1.length < 8796093022208
        ·rw [if_pos c33] at H
         have LMc33 := Aside0.mk c33
         clear c33
         obtain ⟨y1276, hy1276⟩ : ∃ y_ : List (S90), y_ = (x5_1 ++ [(⟨t1273, 1⟩ : S90)]) := ⟨_, rfl⟩
         replace H : (spec_l3Tree.l0 k1 y1276 (wrap64 (x6_1 - 1)) s0_0 t1274 t1275) = some (r1, r2, r3) := by first | (rw [hy1276]; with_reducible exact H) | (have H2_ := (Option.bind_some _ _).symm.trans H; rw [hy1276]; with_reducible exact H2_) | (have H2_ := (Option.bind_some _ _).symm.trans H; with_reducible exact H2_) | with_reducible exact H | (rw [hy1276]; exact H) | exact H
         have Ny1276 := Aside0.mk hy1276
         clear hy1276
         have H' := Aside0.mk H
         clear H
         obtain ⟨Ao34, co34, eo34⟩ := Kd.R_slice HO_5.out
         subst eo34
         have p1254 : 0 ≤ ((ji10) : Int) := of_decide_eq_true (by first | (with_reducible assumption) | assumption)
         have q1254 : (ji10) < (x5_1.length : Int) := of_decide_eq_true (by first | (with_reducible assumption) | assumption)
         obtain ⟨ad1254, e1254, hx1254_0, hx1254_1⟩ := at_T90 (Kd.R_reads' HO_5.out).2.2 (ji10) p1254 q1254
         cases e1254
         replace p1254 := eq_true p1254
         replace q1254 := eq_true q1254
         go_wp2_with (first | ((with_reducible refine gate_callee (f := 135) rfl ?_); refine goesL_ (some 30) rfl rfl Try.func135 (by kernel_rfl) rfl #[.pointer (some ⟨g, 0, none⟩), .int .i64 (wrap64 (((rd_T90 x5_1 (ji10)).f1) + 1))] rfl (by (try simp only [List.map_toArray, List.map_cons, List.map_nil]); first | done | (simp only [hji10]; rfl) | rfl | (simp only [List.length_drop, List.length_take]; rfl)) ?_; (with_reducible refine (spec_l1Below.calls g s0_0 x1001_1 x1002_1 (wrap64 (((rd_T90 x5_1 (ji10)).f1) + 1)) t1255 t1256 t1257 w0 _ ?side1 ?side2 A13.out).mono ?_); (case side1 => repeat (first | (with_reducible first | exact HI0.out | apply IsS152.alloc | apply IsS152.drewN | apply IsS152.drew | apply IsS152.set_1 | apply IsS152.set_2) | exact HI0.out)); (case side2 => repeat (first | (with_reducible first | exact HB.out | apply below_alloc | apply pw_below_drewN | apply below_drew1 | refine below_set ?_ (IsS152.ge HI0.out)) | exact HB.out)); rintro e w35 ⟨rfl, hi, hb, hk⟩; refine ⟨_, rfl, ?_⟩; have n0_ := Aside0.mk (Kd.R_mono (Kd.R_keep (IsS152.apart (show IsS152 w0 _ g s0_0 x1001_1 x1002_1 from by repeat (first | (with_reducible first | exact HI0.out | apply IsS152.alloc | apply IsS152.drewN | apply IsS152.drew | apply IsS152.set_1 | apply IsS152.set_2) | exact HI0.out)) (by (with_reducible repeat (first | apply Kd.R_alloc | apply Kd.R_drewN | apply Kd.R_drew)); exact HO_5.out) (by decide)) hk (fun _ h => h.2)) (fun _ h => h.1)); have n1_ := Aside0.mk (KeepBut.trans (by repeat (first | (with_reducible first | exact HK.out | apply KeepBut.set_ | apply keep_drewN | apply keep_drew | apply keep_alloc) | exact HK.out)) hk (.inl rfl)); have n2_ := Aside0.mk (hb); have n3_ := Aside0.mk (hi); clear HO_5; clear HK; clear HB; clear HI0; have HO_5 := n0_; have HK := n1_; have HB := n2_; have HI0 := n3_; clear n0_ n1_ n2_ n3_; (try clear hb); (try clear hb2); (try clear hk); (try clear hi)) | ((with_reducible refine gate_callee (f := 140) rfl ?_); refine goesL_ (some 33) rfl rfl Try.func140 (by kernel_rfl) rfl #[.pointer (some ⟨g, 0, none⟩), .int .i64 2] rfl (by (try simp only [List.map_toArray, List.map_cons, List.map_nil]); first | done | rfl | (simp only [List.length_drop, List.length_take]; rfl)) ?_; (with_reducible refine (spec_l1Once.calls g s0_0 t1256 t1257 2 false t1259 t1260 w0 _ ?side1 ?side2 A14.out).mono ?_); (case side1 => repeat (first | (with_reducible first | exact HI0.out | apply IsS152.alloc | apply IsS152.drewN | apply IsS152.drew | apply IsS152.set_1 | apply IsS152.set_2) | exact HI0.out)); (case side2 => repeat (first | (with_reducible first | exact HB.out | apply below_alloc | apply pw_below_drewN | apply below_drew1 | refine below_set ?_ (IsS152.ge HI0.out)) | exact HB.out)); rintro e w36 ⟨rfl, hi, hb, hk⟩; refine ⟨_, rfl, ?_⟩; have n0_ := Aside0.mk (Kd.R_mono (Kd.R_keep (IsS152.apart (show IsS152 w0 _ g s0_0 t1256 t1257 from by repeat (first | (with_reducible first | exact HI0.out | apply IsS152.alloc | apply IsS152.drewN | apply IsS152.drew | apply IsS152.set_1 | apply IsS152.set_2) | exact HI0.out)) (by (with_reducible repeat (first | apply Kd.R_alloc | apply Kd.R_drewN | apply Kd.R_drew)); exact HO_5.out) (by decide)) hk (fun _ h => h.2)) (fun _ h => h.1)); have n1_ := Aside0.mk (KeepBut.trans (by repeat (first | (with_reducible first | exact HK.out | apply KeepBut.set_ | apply keep_drewN | apply keep_drew | apply keep_alloc) | exact HK.out)) hk (.inl rfl)); have n2_ := Aside0.mk (hb); have n3_ := Aside0.mk (hi); clear HO_5; clear HK; clear HB; clear HI0; have HO_5 := n0_; have HK := n1_; have HB := n2_; have HI0 := n3_; clear n0_ n1_ n2_ n3_; (try clear hb); (try clear hb2); (try clear hk); (try clear hi)) | ((with_reducible refine gate_callee (f := 139) rfl ?_); refine goesL_ (some 40) rfl rfl Try.func139 (by kernel_rfl) rfl #[.pointer (some ⟨g, 0, none⟩)] rfl (by (try simp only [List.map_toArray, List.map_cons, List.map_nil]); first | done | rfl | (simp only [List.length_drop, List.length_take]; rfl)) ?_; (with_reducible refine (spec_l2Label.calls g s0_0 t1259 t1260 t1273 t1274 t1275 w0 _ ?side1 ?side2 A32.out).mono ?_); (case side1 => repeat (first | (with_reducible first | exact HI0.out | apply IsS152.alloc | apply IsS152.drewN | apply IsS152.drew | apply IsS152.set_1 | apply IsS152.set_2) | exact HI0.out)); (case side2 => repeat (first | (with_reducible first | exact HB.out | apply below_alloc | apply pw_below_drewN | apply below_drew1 | refine below_set ?_ (IsS152.ge HI0.out)) | exact HB.out)); rintro e w37 ⟨rfl, hi, hb, hk⟩; refine ⟨_, rfl, ?_⟩; have n0_ := Aside0.mk (Kd.R_mono (Kd.R_keep (IsS152.apart (show IsS152 w0 _ g s0_0 t1259 t1260 from by repeat (first | (with_reducible first | exact HI0.out | apply IsS152.alloc | apply IsS152.drewN | apply IsS152.drew | apply IsS152.set_1 | apply IsS152.set_2) | exact HI0.out)) (by (with_reducible repeat (first | apply Kd.R_alloc | apply Kd.R_drewN | apply Kd.R_drew)); exact HO_5.out) (by decide)) hk (fun _ h => h.2)) (fun _ h => h.1)); have n1_ := Aside0.mk (KeepBut.trans (by repeat (first | (with_reducible first | exact HK.out | apply KeepBut.set_ | apply keep_drewN | apply keep_drew | apply keep_alloc) | exact HK.out)) hk (.inl rfl)); have n2_ := Aside0.mk (hb); have n3_ := Aside0.mk (hi); clear HO_5; clear HK; clear HB; clear HI0; have HO_5 := n0_; have HK := n1_; have HB := n2_; have HI0 := n3_; clear n0_ n1_ n2_ n3_; (try clear hb); (try clear hb2); (try clear hk); (try clear hi)) | ((with_reducible refine gate_builtin (b := .append) (xs := #[.tmp 38, .tmp 43]) rfl ?_); at_builtin; refine Kd.R_append k90 w.heap.size rfl (.tmp 38) (.tmp 43) 34 90 (.agg #[(.int .i64 0), (.int .i64 0)]) 16 rfl Try.underlying34 info90 rfl (by decide) (by omega) (.slice (some ad1254) x5_1.length co34) x5_1 (⟨t1273, 1⟩ : S90) [.int .i64 t1273, .int .i64 1] (fun _ => True) (fun _ => False) rfl rfl ?aP (fun _ hk => hk.elim) ?aF ?aO (Below.refl _ _) ?aS ?aL ?_; (case aP => exact k90_mkM _ _ _ (⟨t1273, 1⟩ : S90)); (case aF => exact (fun _ _ => trivial)); (case aO => exact (by (with_reducible repeat (first | apply Kd.R_alloc | apply Kd.R_drewN | apply Kd.R_drew)); exact HO_5.out)); (case aS => exact (keep_size (w := w) (g := g) (row := none) (by repeat (first | (with_reducible first | exact HK.out | apply KeepBut.set_ | apply keep_drewN | apply keep_drew | apply keep_alloc) | exact HK.out)))); (case aL => have := LMc33.out; omega); intro v1277 w38 ho hb hg hat; rw [← Ny1276.out] at ho; have n0_ := Aside0.mk (IsS152.grown (by repeat (first | (with_reducible first | exact HI0.out | apply IsS152.alloc | apply IsS152.drewN | apply IsS152.drew | apply IsS152.set_1 | apply IsS152.set_2) | exact HI0.out)) hg (IsS152.own_ne HI0.out HO_5.out (by decide))); have n1_ := Aside0.mk (below_weaken (by repeat (first | (with_reducible first | exact HB.out | apply below_alloc | apply pw_below_drewN | apply below_drew1 | refine below_set ?_ (IsS152.ge HI0.out)) | exact HB.out)) HL.out hb); have n2_ := Aside0.mk (KeepBut.trans (by repeat (first | (with_reducible first | exact HK.out | apply KeepBut.set_ | apply keep_drewN | apply keep_drew | apply keep_alloc) | exact HK.out)) (KeepBut.of_grown hg g) (Kd.R_base2 HO_5.out)); have n3_ := Aside0.mk (ho); clear HI0; clear HB; clear HK; clear HO_5; have HI0 := n0_; have HB := n1_; have HK := n2_; have HO1278 := n3_; clear n0_ n1_ n2_ n3_; clear ho hb hg hat))
         go_roundg k1
         case measure => have := HK1.out; omega
         case rel => exact ⟨(y1276), (wrap64 (x6_1 - 1)), (t1274), (t1275), eb_, H', ⟨by have := HK1.out; omega⟩, ⟨rx_ HO1278.out⟩, ⟨by repeat (first | (with_reducible first | exact HI0.out | apply IsS152.alloc | apply IsS152.drewN | apply IsS152.drew | apply IsS152.set_1 | apply IsS152.set_2) | exact HI0.out)⟩, ⟨by repeat (first | (with_reducible first | exact HK.out | apply KeepBut.set_ | apply keep_drewN | apply keep_drew | apply keep_alloc) | exact HK.out)⟩, ⟨by repeat (first | (with_reducible first | exact HB.out | apply below_alloc | apply pw_below_drewN | apply below_drew1 | refine below_set ?_ (IsS152.ge HI0.out)) | exact HB.out)⟩⟩
        ·rw [if_neg c33] at H
         exact absurd H (by simp)
       ·rw [if_neg c31] at H
        have c31b0 : decide (12 < (wrap64 (1 + t1255))) = false := decide_eq_false c31
        clear c31
        replace H := Option.bind_eq_some_iff.mp H
        obtain ⟨⟨t1279, t1280, t1281⟩, A390, H⟩ := H
        try dsimp only at H
        have A39 := Aside0.mk A390
        clear A390
        by_cases c40 : x5_1.length < 8796093022208
        ·rw [if_pos c40] at H
         have LMc40 := Aside0.mk c40
         clear c40
         obtain ⟨y1282, hy1282⟩ : ∃ y_ : List (S90), y_ = (x5_1 ++ [(⟨t1279, wrap64 (1 + t1255)⟩ : S90)]) := ⟨_, rfl⟩
         replace H : (spec_l3Tree.l0 k1 y1282 (wrap64 (x6_1 - 1)) s0_0 t1280 t1281) = some (r1, r2, r3) := by first | (rw [hy1282]; with_reducible exact H) | (have H2_ := (Option.bind_some _ _).symm.trans H; rw [hy1282]; with_reducible exact H2_) | (have H2_ := (Option.bind_some _ _).symm.trans H; with_reducible exact H2_) | with_reducible exact H | (rw [hy1282]; exact H) | exact H
         have Ny1282 := Aside0.mk hy1282
         clear hy1282
         have H' := Aside0.mk H
         clear H
         obtain ⟨Ao41, co41, eo41⟩ := Kd.R_slice HO_5.out
         subst eo41
         have p1254 : 0 ≤ ((ji10) : Int) := of_decide_eq_true (by first | (with_reducible assumption) | assumption)
         have q1254 : (ji10) < (x5_1.length : Int) := of_decide_eq_true (by first | (with_reducible assumption) | assumption)
         obtain ⟨ad1254, e1254, hx1254_0, hx1254_1⟩ := at_T90 (Kd.R_reads' HO_5.out).2.2 (ji10) p1254 q1254
         cases e1254
         replace p1254 := eq_true p1254
         replace q1254 := eq_true q1254
         go_wp2_with (first | ((with_reducible refine gate_callee (f := 135) rfl ?_); refine goesL_ (some 30) rfl rfl Try.func135 (by kernel_rfl) rfl #[.pointer (some ⟨g, 0, none⟩), .int .i64 (wrap64 (((rd_T90 x5_1 (ji10)).f1) + 1))] rfl (by (try simp only [List.map_toArray, List.map_cons, List.map_nil]); first | done | (simp only [hji10]; rfl) | rfl | (simp only [List.length_drop, List.length_take]; rfl)) ?_; (with_reducible refine (spec_l1Below.calls g s0_0 x1001_1 x1002_1 (wrap64 (((rd_T90 x5_1 (ji10)).f1) + 1)) t1255 t1256 t1257 w0 _ ?side1 ?side2 A13.out).mono ?_); (case side1 => repeat (first | (with_reducible first | exact HI0.out | apply IsS152.alloc | apply IsS152.drewN | apply IsS152.drew | apply IsS152.set_1 | apply IsS152.set_2) | exact HI0.out)); (case side2 => repeat (first | (with_reducible first | exact HB.out | apply below_alloc | apply pw_below_drewN | apply below_drew1 | refine below_set ?_ (IsS152.ge HI0.out)) | exact HB.out)); rintro e w42 ⟨rfl, hi, hb, hk⟩; refine ⟨_, rfl, ?_⟩; have n0_ := Aside0.mk (Kd.R_mono (Kd.R_keep (IsS152.apart (show IsS152 w0 _ g s0_0 x1001_1 x1002_1 from by repeat (first | (with_reducible first | exact HI0.out | apply IsS152.alloc | apply IsS152.drewN | apply IsS152.drew | apply IsS152.set_1 | apply IsS152.set_2) | exact HI0.out)) (by (with_reducible repeat (first | apply Kd.R_alloc | apply Kd.R_drewN | apply Kd.R_drew)); exact HO_5.out) (by decide)) hk (fun _ h => h.2)) (fun _ h => h.1)); have n1_ := Aside0.mk (KeepBut.trans (by repeat (first | (with_reducible first | exact HK.out | apply KeepBut.set_ | apply keep_drewN | apply keep_drew | apply keep_alloc) | exact HK.out)) hk (.inl rfl)); have n2_ := Aside0.mk (hb); have n3_ := Aside0.mk (hi); clear HO_5; clear HK; clear HB; clear HI0; have HO_5 := n0_; have HK := n1_; have HB := n2_; have HI0 := n3_; clear n0_ n1_ n2_ n3_; (try clear hb); (try clear hb2); (try clear hk); (try clear hi)) | ((with_reducible refine gate_callee (f := 140) rfl ?_); refine goesL_ (some 33) rfl rfl Try.func140 (by kernel_rfl) rfl #[.pointer (some ⟨g, 0, none⟩), .int .i64 2] rfl (by (try simp only [List.map_toArray, List.map_cons, List.map_nil]); first | done | rfl | (simp only [List.length_drop, List.length_take]; rfl)) ?_; (with_reducible refine (spec_l1Once.calls g s0_0 t1256 t1257 2 false t1259 t1260 w0 _ ?side1 ?side2 A14.out).mono ?_); (case side1 => repeat (first | (with_reducible first | exact HI0.out | apply IsS152.alloc | apply IsS152.drewN | apply IsS152.drew | apply IsS152.set_1 | apply IsS152.set_2) | exact HI0.out)); (case side2 => repeat (first | (with_reducible first | exact HB.out | apply below_alloc | apply pw_below_drewN | apply below_drew1 | refine below_set ?_ (IsS152.ge HI0.out)) | exact HB.out)); rintro e w43 ⟨rfl, hi, hb, hk⟩; refine ⟨_, rfl, ?_⟩; have n0_ := Aside0.mk (Kd.R_mono (Kd.R_keep (IsS152.apart (show IsS152 w0 _ g s0_0 t1256 t1257 from by repeat (first | (with_reducible first | exact HI0.out | apply IsS152.alloc | apply IsS152.drewN | apply IsS152.drew | apply IsS152.set_1 | apply IsS152.set_2) | exact HI0.out)) (by (with_reducible repeat (first | apply Kd.R_alloc | apply Kd.R_drewN | apply Kd.R_drew)); exact HO_5.out) (by decide)) hk (fun _ h => h.2)) (fun _ h => h.1)); have n1_ := Aside0.mk (KeepBut.trans (by repeat (first | (with_reducible first | exact HK.out | apply KeepBut.set_ | apply keep_drewN | apply keep_drew | apply keep_alloc) | exact HK.out)) hk (.inl rfl)); have n2_ := Aside0.mk (hb); have n3_ := Aside0.mk (hi); clear HO_5; clear HK; clear HB; clear HI0; have HO_5 := n0_; have HK := n1_; have HB := n2_; have HI0 := n3_; clear n0_ n1_ n2_ n3_; (try clear hb); (try clear hb2); (try clear hk); (try clear hi)) | ((with_reducible refine gate_callee (f := 139) rfl ?_); refine goesL_ (some 40) rfl rfl Try.func139 (by kernel_rfl) rfl #[.pointer (some ⟨g, 0, none⟩)] rfl (by (try simp only [List.map_toArray, List.map_cons, List.map_nil]); first | done | rfl | (simp only [List.length_drop, List.length_take]; rfl)) ?_; (with_reducible refine (spec_l2Label.calls g s0_0 t1259 t1260 t1279 t1280 t1281 w0 _ ?side1 ?side2 A39.out).mono ?_); (case side1 => repeat (first | (with_reducible first | exact HI0.out | apply IsS152.alloc | apply IsS152.drewN | apply IsS152.drew | apply IsS152.set_1 | apply IsS152.set_2) | exact HI0.out)); (case side2 => repeat (first | (with_reducible first | exact HB.out | apply below_alloc | apply pw_below_drewN | apply below_drew1 | refine below_set ?_ (IsS152.ge HI0.out)) | exact HB.out)); rintro e w44 ⟨rfl, hi, hb, hk⟩; refine ⟨_, rfl, ?_⟩; have n0_ := Aside0.mk (Kd.R_mono (Kd.R_keep (IsS152.apart (show IsS152 w0 _ g s0_0 t1259 t1260 from by repeat (first | (with_reducible first | exact HI0.out | apply IsS152.alloc | apply IsS152.drewN | apply IsS152.drew | apply IsS152.set_1 | apply IsS152.set_2) | exact HI0.out)) (by (with_reducible repeat (first | apply Kd.R_alloc | apply Kd.R_drewN | apply Kd.R_drew)); exact HO_5.out) (by decide)) hk (fun _ h => h.2)) (fun _ h => h.1)); have n1_ := Aside0.mk (KeepBut.trans (by repeat (first | (with_reducible first | exact HK.out | apply KeepBut.set_ | apply keep_drewN | apply keep_drew | apply keep_alloc) | exact HK.out)) hk (.inl rfl)); have n2_ := Aside0.mk (hb); have n3_ := Aside0.mk (hi); clear HO_5; clear HK; clear HB; clear HI0; have HO_5 := n0_; have HK := n1_; have HB := n2_; have HI0 := n3_; clear n0_ n1_ n2_ n3_; (try clear hb); (try clear hb2); (try clear hk); (try clear hi)) | ((with_reducible refine gate_builtin (b := .append) (xs := #[.tmp 38, .tmp 43]) rfl ?_); at_builtin; refine Kd.R_append k90 w.heap.size rfl (.tmp 38) (.tmp 43) 34 90 (.agg #[(.int .i64 0), (.int .i64 0)]) 16 rfl Try.underlying34 info90 rfl (by decide) (by omega) (.slice (some ad1254) x5_1.length co41) x5_1 (⟨t1279, wrap64 (1 + t1255)⟩ : S90) [.int .i64 t1279, .int .i64 (wrap64 (1 + t1255))] (fun _ => True) (fun _ => False) rfl rfl ?aP (fun _ hk => hk.elim) ?aF ?aO (Below.refl _ _) ?aS ?aL ?_; (case aP => exact k90_mkM _ _ _ (⟨t1279, wrap64 (1 + t1255)⟩ : S90)); (case aF => exact (fun _ _ => trivial)); (case aO => exact (by (with_reducible repeat (first | apply Kd.R_alloc | apply Kd.R_drewN | apply Kd.R_drew)); exact HO_5.out)); (case aS => exact (keep_size (w := w) (g := g) (row := none) (by repeat (first | (with_reducible first | exact HK.out | apply KeepBut.set_ | apply keep_drewN | apply keep_drew | apply keep_alloc) | exact HK.out)))); (case aL => have := LMc40.out; omega); intro v1283 w45 ho hb hg hat; rw [← Ny1282.out] at ho; have n0_ := Aside0.mk (IsS152.grown (by repeat (first | (with_reducible first | exact HI0.out | apply IsS152.alloc | apply IsS152.drewN | apply IsS152.drew | apply IsS152.set_1 | apply IsS152.set_2) | exact HI0.out)) hg (IsS152.own_ne HI0.out HO_5.out (by decide))); have n1_ := Aside0.mk (below_weaken (by repeat (first | (with_reducible first | exact HB.out | apply below_alloc | apply pw_below_drewN | apply below_drew1 | refine below_set ?_ (IsS152.ge HI0.out)) | exact HB.out)) HL.out hb); have n2_ := Aside0.mk (KeepBut.trans (by repeat (first | (with_reducible first | exact HK.out | apply KeepBut.set_ | apply keep_drewN | apply keep_drew | apply keep_alloc) | exact HK.out)) (KeepBut.of_grown hg g) (Kd.R_base2 HO_5.out)); have n3_ := Aside0.mk (ho); clear HI0; clear HB; clear HK; clear HO_5; have HI0 := n0_; have HB := n1_; have HK := n2_; have HO1284 := n3_; clear n0_ n1_ n2_ n3_; clear ho hb hg hat))
         go_roundg k1
         case measure => have := HK1.out; omega
         case rel => exact ⟨(y1282), (wrap64 (x6_1 - 1)), (t1280), (t1281), eb_, H', ⟨by have := HK1.out; omega⟩, ⟨rx_ HO1284.out⟩, ⟨by repeat (first | (with_reducible first | exact HI0.out | apply IsS152.alloc | apply IsS152.drewN | apply IsS152.drew | apply IsS152.set_1 | apply IsS152.set_2) | exact HI0.out)⟩, ⟨by repeat (first | (with_reducible first | exact HK.out | apply KeepBut.set_ | apply keep_drewN | apply keep_drew | apply keep_alloc) | exact HK.out)⟩, ⟨by repeat (first | (with_reducible first | exact HB.out | apply below_alloc | apply pw_below_drewN | apply below_drew1 | refine below_set ?_ (IsS152.ge HI0.out)) | exact HB.out)⟩⟩
        ·rw [if_neg c40] at H
         exact absurd H (by simp)
     ·rw [if_neg c12] at H
      exact absurd H (by simp)
    ·rw [if_neg c11] at H
     exact absurd H (by simp)
   ·rw [if_neg c9] at H
    have c9b0 : decide (0 < x6_1) = false := decide_eq_false c9
    clear c9
    simp only [Option.some.injEq, Prod.mk.injEq] at H
    obtain ⟨rfl, rfl, rfl⟩ := H
    go_wp2
    go_ret
    exact ⟨_, ea_, rx_ HO_5.out, by repeat (first | (with_reducible first | exact HI0.out | apply IsS152.alloc | apply IsS152.drewN | apply IsS152.drew | apply IsS152.set_1 | apply IsS152.set_2) | exact HI0.out), by repeat (first | (with_reducible first | exact HB.out | apply below_alloc | apply pw_below_drewN | apply below_drew1 | refine below_set ?_ (IsS152.ge HI0.out)) | exact HB.out), by repeat (first | (with_reducible first | exact HK.out | apply KeepBut.set_ | apply keep_drewN | apply keep_drew | apply keep_alloc) | exact HK.out)⟩
end Go.Proofs.Ytbifdckfglejkaa.X
namespace Go.Proofs.Ytbifdckfglejkaa.X
open Go.RowKit Go.Proofs.YtbifdckfglejkaaW.PrintWords Go.Proofs.YtbifdckfglejkaaW.PrintLast Go.Proofs.YtbifdckfglejkaaW.PrintMore
attribute [local go_sem] max2_int min2_int max_two min_two max_three min_three max_four min_four   -- for this text's walks alone
set_option linter.unusedVariables false
set_option linter.unusedSimpArgs false
def spec_l1PickInt.f (s0_0 : List Int) (s0_1 : Int) (s0_2 : Int) (l1 : List Int) : Option (Int × Int × Int) := (spec_l1Below.f s0_0 s0_1 s0_2 (l1.length : Int)).bind fun bt1285 => (if 0 ≤ bt1285.1 then (if bt1285.1 < (l1.length : Int) then (some (rd l1 bt1285.1, bt1285.2.1, bt1285.2.2)) else (none)) else (none))
set_option maxHeartbeats 8000000 in
set_option maxRecDepth 100000 in
theorem spec_l1PickInt.calls (g : Nat) (s0_0 : List Int) (s0_1 : Int) (s0_2 : Int) (A1 : Option Addr) (c1 : Nat) (l1 : List Int) (r1 : Int) (r2 : Int) (r3 : Int) (w0 w : World) (hI : IsS152 w0 w g s0_0 s0_1 s0_2) (hB : Below w0.heap.size w0 w) (hr1 : Kd.C (Kd.int .i64) w A1 l1.length l1) (hc1 : l1.length ≤ c1) (hf1 : ∀ ad, A1 = some ad → 0 < l1.length → ad.block ≠ g) (h : spec_l1PickInt.f s0_0 s0_1 s0_2 l1 = some (r1, r2, r3)) :
  Calls Try.prog 137 #[.pointer (some ⟨g, 0, none⟩), .slice A1 l1.length c1] w fun e w' => e = .returned (.int .i64 r1) ∧ IsS152 w0 w' g s0_0 r2 r3 ∧ Below w0.heap.size w0 w' ∧ KeepBut w w' g none := by
 have HR1 := Aside0.mk hr1
 have HC1 := Aside0.mk hc1
 clear hr1 hc1
 have HI0 := Aside0.mk hI
 have HK := Aside0.mk (KeepBut.refl w g none)
 have HL := Aside0.mk hB.size
 clear hI
 have HW0 := Aside0.mk hB.size
 have HB := Aside0.mk hB
 clear hB
 have H : ((spec_l1Below.f s0_0 s0_1 s0_2 (l1.length : Int)).bind fun bt1285 => (if 0 ≤ bt1285.1 then (if bt1285.1 < (l1.length : Int) then (some (rd l1 bt1285.1, bt1285.2.1, bt1285.2.2)) else (none)) else (none))) = some (r1, r2, r3) := h
 clear h
 replace H := Option.bind_eq_some_iff.mp H
 obtain ⟨⟨t1285, t1286, t1287⟩, A30, H⟩ := H
 try dsimp only at H
 have A3 := Aside0.mk A30
 clear A30
 by_cases c4 : 0 ≤ t1285
 ·rw [if_pos c4] at H
  have c4b0 : decide (0 ≤ t1285) = true := decide_eq_true c4
  clear c4
  by_cases c5 : t1285 < (l1.length : Int)
  ·rw [if_pos c5] at H
   have c5b0 : decide (t1285 < (l1.length : Int)) = true := decide_eq_true c5
   clear c5
   simp only [Option.some.injEq, Prod.mk.injEq] at H
   obtain ⟨rfl, rfl, rfl⟩ := H
   go_enter Try.func137, Try.ntmps137
   go_wp2_with (first | ((with_reducible refine gate_callee (f := 135) rfl ?_); refine gL_ (some 9) Try.func135 #[.pointer (some ⟨g, 0, none⟩), .int .i64 (l1.length : Int)] ?_; (with_reducible refine (spec_l1Below.calls g s0_0 s0_1 s0_2 (l1.length : Int) t1285 t1286 t1287 w0 _ ?side1 ?side2 A3.out).mono ?_); (case side1 => repeat (first | (with_reducible first | exact HI0.out | apply IsS152.alloc | apply IsS152.drewN | apply IsS152.drew | apply IsS152.set_1 | apply IsS152.set_2) | exact HI0.out)); (case side2 => repeat (first | (with_reducible first | exact HB.out | apply below_alloc | apply pw_below_drewN | apply below_drew1 | refine below_set ?_ (IsS152.ge HI0.out)) | exact HB.out)); rintro e w6 ⟨rfl, hi, hb, hk⟩; refine ⟨_, rfl, ?_⟩; replace HK := Aside0.mk (KeepBut.trans (by repeat (first | (with_reducible first | exact HK.out | apply KeepBut.set_ | apply keep_drewN | apply keep_drew | apply keep_alloc) | exact HK.out)) hk (.inl rfl)); replace HB := Aside0.mk (hb); replace HI0 := Aside0.mk (hi); (try clear hb); (try clear hk); (try clear hi); have p1288 : 0 ≤ (t1285 : Int) := od_; have q1288 : t1285 < (l1.length : Int) := od_; obtain ⟨ad1288, e1288, hx1288_0⟩ := Kd.at_int HR1.out t1285 p1288 q1288; cases e1288; replace hx1288_0 := keep_cell HK.out hx1288_0 (by first | (rw [add_block]; exact hf1 _ rfl (by omega)) | exact hf1 _ rfl (by omega) | exact hf1 ad1288 rfl (by omega)); replace p1288 := eq_true p1288; replace q1288 := eq_true q1288))
   go_ret
   exact ⟨ea_, by repeat (first | (with_reducible first | exact HI0.out | apply IsS152.alloc | apply IsS152.drewN | apply IsS152.drew | apply IsS152.set_1 | apply IsS152.set_2) | exact HI0.out), by repeat (first | (with_reducible first | exact HB.out | apply below_alloc | apply pw_below_drewN | apply below_drew1 | refine below_set ?_ (IsS152.ge HI0.out)) | exact HB.out), by repeat (first | (with_reducible first | exact HK.out | apply KeepBut.set_ | apply keep_drewN | apply keep_drew | apply keep_alloc) | exact HK.out)⟩
  ·rw [if_neg c5] at H
   exact absurd H (by simp)
 ·rw [if_neg c4] at H
  exact absurd H (by simp)
end Go.Proofs.Ytbifdckfglejkaa.X
namespace Go.Proofs.Ytbifdckfglejkaa.X
open Go.RowKit Go.Proofs.YtbifdckfglejkaaW.PrintWords Go.Proofs.YtbifdckfglejkaaW.PrintLast Go.Proofs.YtbifdckfglejkaaW.PrintMore
attribute [local go_sem] max2_int min2_int max_two min_two max_three min_three max_four min_four   -- for this text's walks alone
set_option linter.unusedVariables false
set_option linter.unusedSimpArgs false
def spec_l2Any.f (s0_0 : List Int) (s0_1 : Int) (s0_2 : Int) : Option (Int × Int × Int) := (spec_l1PickInt.f s0_0 s0_1 s0_2 (([0, 1, 2, 3, 5, 6, (-1)] : List Int))).bind fun bt1292 => (some (bt1292.1, bt1292.2.1, bt1292.2.2))
set_option maxHeartbeats 8000000 in
set_option maxRecDepth 100000 in
theorem spec_l2Any.calls (g : Nat) (s0_0 : List Int) (s0_1 : Int) (s0_2 : Int) (r1 : Int) (r2 : Int) (r3 : Int) (w0 w : World) (hI : IsS152 w0 w g s0_0 s0_1 s0_2) (hB : Below w0.heap.size w0 w) (h : spec_l2Any.f s0_0 s0_1 s0_2 = some (r1, r2, r3)) :
  Calls Try.prog 136 #[.pointer (some ⟨g, 0, none⟩)] w fun e w' => e = .returned (.int .i64 r1) ∧ IsS152 w0 w' g s0_0 r2 r3 ∧ Below w0.heap.size w0 w' ∧ KeepBut w w' g none := by
 have HI0 := Aside0.mk hI
 have HK := Aside0.mk (KeepBut.refl w g none)
 have HL := Aside0.mk hB.size
 clear hI
 have HW0 := Aside0.mk hB.size
 have HB := Aside0.mk hB
 clear hB
 have H : ((spec_l1PickInt.f s0_0 s0_1 s0_2 (([0, 1, 2, 3, 5, 6, (-1)] : List Int))).bind fun bt1292 => (some (bt1292.1, bt1292.2.1, bt1292.2.2))) = some (r1, r2, r3) := h
 clear h
 obtain ⟨y1289, hy1289⟩ : ∃ y_ : List Int, y_ = (([0, 1, 2, 3, 5, 6, (-1)] : List Int)) := ⟨_, rfl⟩
 replace H : ((spec_l1PickInt.f s0_0 s0_1 s0_2 y1289).bind fun bt1292 => (some (bt1292.1, bt1292.2.1, bt1292.2.2))) = some (r1, r2, r3) := by first | (rw [hy1289]; with_reducible exact H) | (have H2_ := (Option.bind_some _ _).symm.trans H; rw [hy1289]; with_reducible exact H2_) | (have H2_ := (Option.bind_some _ _).symm.trans H; with_reducible exact H2_) | with_reducible exact H | (rw [hy1289]; exact H) | exact H
 have Ny1289 := Aside0.mk hy1289
 clear hy1289
 replace H := Option.bind_eq_some_iff.mp H
 obtain ⟨⟨t1292, t1293, t1294⟩, A20, H⟩ := H
 replace H : (some (t1292, t1293, t1294)) = some (r1, r2, r3) := H
 have A2 := Aside0.mk A20
 clear A20
 simp only [Option.some.injEq, Prod.mk.injEq] at H
 obtain ⟨rfl, rfl, rfl⟩ := H
 go_enter Try.func136, Try.ntmps136
 go_wp2_with (first | ((with_reducible refine gate_dst (N := 4) rfl ?_); refine Kd.R_lit (Kd.int .i64) _ 3 ?hg (N := 4) ?hd (xs := ([0, 1, 2, 3, 5, 6, (-1)] : List Int)) (inner := [.int .i64 0, .int .i64 1, .int .i64 2, .int .i64 3, .int .i64 5, .int .i64 6, .int .i64 (-1)]) (ok := fun _ => True) (okp := fun _ => True) ?hr ?hp (fun _ hk => hk) trivial (Below.refl _ _) (Nat.le_refl _) (by simp) ?_; (case hd => rfl); (case hg => rfl); (case hr => first | (go_simp; done) | (go_simp; rfl)); (case hp => exact (Reps.one (show Kd.M (Kd.int .i64) _ _ _ 0 [.int .i64 0] from rfl) (Reps.one (show Kd.M (Kd.int .i64) _ _ _ 1 [.int .i64 1] from rfl) (Reps.one (show Kd.M (Kd.int .i64) _ _ _ 2 [.int .i64 2] from rfl) (Reps.one (show Kd.M (Kd.int .i64) _ _ _ 3 [.int .i64 3] from rfl) (Reps.one (show Kd.M (Kd.int .i64) _ _ _ 5 [.int .i64 5] from rfl) (Reps.one (show Kd.M (Kd.int .i64) _ _ _ 6 [.int .i64 6] from rfl) (Reps.one (show Kd.M (Kd.int .i64) _ _ _ (-1) [.int .i64 (-1)] from rfl) (Reps.none _ _))))))))); intro v1290 w3 ho4 hb hg_ hnew_; clear hg_ hnew_; (first | rw [← Ny1289.out] at ho4 | (simp only [Int.reduceToNat] at ho4; rw [← Ny1289.out] at ho4)); have HO1291 := Aside0.mk (Kd.R_lower ho4 (keep_size (w := w) (g := g) (row := none) (by repeat (first | (with_reducible first | exact HK.out | apply KeepBut.set_ | apply keep_drewN | apply keep_drew | apply keep_alloc) | exact HK.out)))); replace HK := Aside0.mk (KeepBut.trans (by repeat (first | (with_reducible first | exact HK.out | apply KeepBut.set_ | apply keep_drewN | apply keep_drew | apply keep_alloc) | exact HK.out)) (KeepBut.of_below hb g none) (.inl rfl)); replace HB := Aside0.mk (below_step (by repeat (first | (with_reducible first | exact HB.out | apply below_alloc | apply pw_below_drewN | apply below_drew1 | refine below_set ?_ (IsS152.ge HI0.out)) | exact HB.out)) hb); replace HI0 := Aside0.mk (IsS152.below (by repeat (first | (with_reducible first | exact HI0.out | apply IsS152.alloc | apply IsS152.drewN | apply IsS152.drew | apply IsS152.set_1 | apply IsS152.set_2) | exact HI0.out)) hb); clear hb ho4; obtain ⟨Ao5, co5, eo5⟩ := Kd.R_slice HO1291.out; subst eo5) | ((with_reducible refine gate_callee (f := 137) rfl ?_); refine gL_ (some 5) Try.func137 #[.pointer (some ⟨g, 0, none⟩), .slice Ao5 y1289.length co5] ?_; (with_reducible refine (spec_l1PickInt.calls g s0_0 s0_1 s0_2 _ _ y1289 t1292 t1293 t1294 w0 _ ?side1 ?side2 ?side3 ?side4 ?side5 A2.out).mono ?_); (case side1 => repeat (first | (with_reducible first | exact HI0.out | apply IsS152.alloc | apply IsS152.drewN | apply IsS152.drew | apply IsS152.set_1 | apply IsS152.set_2) | exact HI0.out)); (case side2 => repeat (first | (with_reducible first | exact HB.out | apply below_alloc | apply pw_below_drewN | apply below_drew1 | refine below_set ?_ (IsS152.ge HI0.out)) | exact HB.out)); (case side3 => exact cc_ (Kd.R_reads' HO1291.out).2.2); (case side4 => exact (Kd.R_reads' HO1291.out).2.1); (case side5 => exact far_slice (IsS152.own_ne HI0.out HO1291.out (by decide))); rintro e w6 ⟨rfl, hi, hb, hk⟩; refine ⟨_, rfl, ?_⟩; replace HO1291 := Aside0.mk (Kd.R_mono (Kd.R_keep (IsS152.apart (show IsS152 w0 _ g s0_0 s0_1 s0_2 from by repeat (first | (with_reducible first | exact HI0.out | apply IsS152.alloc | apply IsS152.drewN | apply IsS152.drew | apply IsS152.set_1 | apply IsS152.set_2) | exact HI0.out)) (rx_ HO1291.out) (by decide)) hk (fun _ h => h.2)) (fun _ h => h.1)); replace HK := Aside0.mk (KeepBut.trans (by repeat (first | (with_reducible first | exact HK.out | apply KeepBut.set_ | apply keep_drewN | apply keep_drew | apply keep_alloc) | exact HK.out)) hk (.inl rfl)); replace HB := Aside0.mk (hb); replace HI0 := Aside0.mk (hi); (try clear hb); (try clear hk); (try clear hi)))
 go_ret
 exact ⟨ea_, by repeat (first | (with_reducible first | exact HI0.out | apply IsS152.alloc | apply IsS152.drewN | apply IsS152.drew | apply IsS152.set_1 | apply IsS152.set_2) | exact HI0.out), by repeat (first | (with_reducible first | exact HB.out | apply below_alloc | apply pw_below_drewN | apply below_drew1 | refine below_set ?_ (IsS152.ge HI0.out)) | exact HB.out), by repeat (first | (with_reducible first | exact HK.out | apply KeepBut.set_ | apply keep_drewN | apply keep_drew | apply keep_alloc) | exact HK.out)⟩
end Go.Proofs.Ytbifdckfglejkaa.X
