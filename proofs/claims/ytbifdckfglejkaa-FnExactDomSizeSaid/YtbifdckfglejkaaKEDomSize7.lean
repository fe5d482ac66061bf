/- Part 7 of the proof of FnExactDomSize: what it needs. -/
import Derived.Test.YtbifdckfglejkaaKEDomSize4
import Derived.Test.YtbifdckfglejkaaKEDomSize5
import Derived.Test.YtbifdckfglejkaaKEDomSize6
namespace Go.Proofs.Ytbifdckfglejkaa.X
open Go.RowKit Go.Proofs.YtbifdckfglejkaaW.PrintWords Go.Proofs.YtbifdckfglejkaaW.PrintLast Go.Proofs.YtbifdckfglejkaaW.PrintMore
attribute [local go_sem] max2_int min2_int max_two min_two max_three min_three max_four min_four   -- for this text's walks alone
set_option linter.unusedVariables false
set_option linter.unusedSimpArgs false
attribute [local go_sem high] eqA99
mutual
def impl_Dom_walked.j0 : Nat → Bool → List (S99) → Option ((List (S90)) × List Int × Bool)
 | 0, _, _ => none
 | k + 1, x32, x224000 => if x32 = true then (some (([] : List (S90)), ([] : List Int), false)) else ((impl_Dom_visit.f k x224000 0 0 ([] : List (S90)) ([] : List Int)).bind fun bt227 => (impl_Dom_walked.l0 k bt227.1 bt227.2.1 bt227.2.2 x224000 (x224000.length : Int) 0))
def impl_Dom_walked.l0 : Nat → List (S90) → List Int → Bool → List (S99) → Int → Int → Option ((List (S90)) × List Int × Bool)
 | 0, _, _, _, _, _, _ => none
 | k + 1, x6, x7, x8, x40, x41, x42 => if x42 < x41 then (if 0 ≤ x42 then (if x42 < (x40.length : Int) then (if x8 = true then ((slices_Contains_int_int.f k x7 x42).bind fun t236 => (if t236 = true then (impl_Dom_walked.l0 k x6 x7 x8 x40 x41 (wrap64 (x42 + 1))) else ((impl_unused.f).bind fun bt237 => (if (!(((rd_T99 x40 x42).f0) == bt237.1) || (!(((rd_T99 x40 x42).f1) == bt237.2.1) || (!(((rd_T99 x40 x42).f2) == bt237.2.2.1) || (!(((rd_T99 x40 x42).f3) == bt237.2.2.2.1) || (!(((rd_T99 x40 x42).f4) == bt237.2.2.2.2.1) || (!(((rd_T99 x40 x42).f5) == bt237.2.2.2.2.2.1) || (!(((rd_T99 x40 x42).f6) == bt237.2.2.2.2.2.2)))))))) = true then (impl_Dom_walked.l0 k x6 x7 false x40 x41 (wrap64 (x42 + 1))) else (impl_Dom_walked.l0 k x6 x7 x8 x40 x41 (wrap64 (x42 + 1))))))) else (impl_Dom_walked.l0 k x6 x7 x8 x40 x41 (wrap64 (x42 + 1)))) else (none)) else (none)) else (some (x6, x7, x8))
end
def impl_Dom_walked.f (k : Nat) (l0_0 : List (S99)) : Option ((List (S90)) × List Int × Bool) := (impl_within.f (l0_0.length : Int) 1 24).bind fun t224 => (if t224 = true then (if 0 < (l0_0.length : Int) then (if ((rd_T99 l0_0 0).f2) = (-1) then (if ((rd_T99 l0_0 0).f5) = (-1) then (impl_Dom_walked.j0 k (((rd_T99 l0_0 0).f6) != (-1)) l0_0) else (impl_Dom_walked.j0 k true l0_0)) else (impl_Dom_walked.j0 k true l0_0)) else (none)) else (some (([] : List (S90)), ([] : List Int), false)))
def impl_Dom_walked.T10 : Bool × List (List Nat × List Nat) := (true, [([], []), ([0], [0]), ([1], [1]), ([1], [1]), ([2, 3, 1, 1], [1, 2, 3]), ([4, 1], [1, 4]), ([1, 5], [1, 5]), ([6, 4], [6]), ([7], [7]), ([7, 7], [7]), ([8, 9, 7], [7, 8, 9]), ([7, 10], [7, 10])])
def impl_Dom_walked.B10 : List Nat := [0, 1, 3, 3, 15, 31, 63, 127, 255, 255, 1023, 2047]
theorem impl_Dom_walked.tab10 : rtab .any (opsOf Try.f73 10) = impl_Dom_walked.T10 := by kernel_rfl
theorem impl_Dom_walked.bits10 : waitsOk impl_Dom_walked.T10.2 impl_Dom_walked.B10 = true := by kernel_rfl
set_option maxHeartbeats 8000000 in
set_option maxRecDepth 100000 in
theorem impl_Dom_walked.calls (k : Nat) (A0_0 : Option Addr) (c0_0 : Nat) (l0_0 : List (S99)) (r1 : List (S90)) (r2 : List Int) (r3 : Bool) (w : World) (hr0_0 : Kd.C k99 w A0_0 l0_0.length l0_0) (hc0_0 : l0_0.length ≤ c0_0) (h : impl_Dom_walked.f k l0_0 = some (r1, r2, r3)) :
  Calls Try.prog 73 #[.agg #[.slice A0_0 l0_0.length c0_0]] w fun e w' => ∃ v0_ v1_ : Value, e = .returned (.tuple #[v0_, v1_, .bool r3]) ∧ Kd.R k90 90 w' w.heap.size (fun _ => True) v0_ r1 ∧ Kd.R (Kd.int .i64) 3 w' w.heap.size (fun _ => True) v1_ r2 ∧ Below w.heap.size w w' := by
 have hu29 := Try.underlying29
 have hu99 := Try.underlying99
 have HR0_0 := Aside0.mk hr0_0
 have HC0_0 := Aside0.mk hc0_0
 clear hr0_0 hc0_0
 have HB := Aside0.mk (Below.refl w.heap.size w)
 have H : ((impl_within.f (l0_0.length : Int) 1 24).bind fun t224 => (if t224 = true then (if 0 < (l0_0.length : Int) then (if ((rd_T99 l0_0 0).f2) = (-1) then (if ((rd_T99 l0_0 0).f5) = (-1) then (impl_Dom_walked.j0 k (((rd_T99 l0_0 0).f6) != (-1)) l0_0) else (impl_Dom_walked.j0 k true l0_0)) else (impl_Dom_walked.j0 k true l0_0)) else (none)) else (some (([] : List (S90)), ([] : List Int), false)))) = some (r1, r2, r3) := h
 clear h
 replace H := Option.bind_eq_some_iff.mp H
 obtain ⟨t224, A20, H⟩ := H
 replace H : (if t224 = true then (if 0 < (l0_0.length : Int) then (if ((rd_T99 l0_0 0).f2) = (-1) then (if ((rd_T99 l0_0 0).f5) = (-1) then (impl_Dom_walked.j0 k (((rd_T99 l0_0 0).f6) != (-1)) l0_0) else (impl_Dom_walked.j0 k true l0_0)) else (impl_Dom_walked.j0 k true l0_0)) else (none)) else (some (([] : List (S90)), ([] : List Int), false))) = some (r1, r2, r3) := H
 have A2 := Aside0.mk A20
 clear A20
 by_cases c3 : t224 = true
 ·subst c3
  have H1 : (if 0 < (l0_0.length : Int) then (if ((rd_T99 l0_0 0).f2) = (-1) then (if ((rd_T99 l0_0 0).f5) = (-1) then (impl_Dom_walked.j0 k (((rd_T99 l0_0 0).f6) != (-1)) l0_0) else (impl_Dom_walked.j0 k true l0_0)) else (impl_Dom_walked.j0 k true l0_0)) else (none)) = some (r1, r2, r3) := by rw [if_pos rfl] at H; exact H
  clear H
  have H := H1
  clear H1
  by_cases c4 : 0 < (l0_0.length : Int)
  ·rw [if_pos c4] at H
   have c4b0 : decide (0 < (l0_0.length : Int)) = true := decide_eq_true c4
   have c4b1 : decide (0 < l0_0.length) = true := decide_eq_true (by omega)
   clear c4
   have HC5 := Aside0.mk H
   clear H
   go_enter Try.func73, Try.ntmps73
   go_upto_region 4 with (first | ((with_reducible refine gate_dst (N := 1) rfl ?_); refine box_event ?hg (N := 1) ?hd (cs := #[.slice A0_0 l0_0.length c0_0]) (t := 29) ?hr ?_; (case hd => rfl); (case hg => rfl); (case hr => first | (go_simp; done) | (go_simp; rfl)); intro gb223 hg w6 hbox hb; have n0_ := Aside0.mk (below_step (by repeat (first | (with_reducible first | exact HB.out | apply below_alloc | apply pw_below_drewN | apply below_drew1) | exact HB.out)) hb); have n1_ := Aside0.mk (hbox); have n2_ := Aside0.mk ((by rw [hg]; exact (below_size (by repeat (first | (with_reducible first | exact HB.out | apply below_alloc | apply pw_below_drewN | apply below_drew1) | exact HB.out))) : w.heap.size ≤ gb223)); have n3_ := Aside0.mk ((by rw [hg]; exact (below_size (by repeat (first | (with_reducible first | exact HB.out | apply below_alloc | apply pw_below_drewN | apply below_drew1) | exact HB.out))) : w.heap.size ≤ gb223)); clear HB; have HB := n0_; have BK223 := n1_; have GW223 := n2_; have GE223 := n3_; clear n0_ n1_ n2_ n3_; clear hb hbox hg; have hcz7_0 : w6.cell? ⟨gb223, 0, none⟩ = some (.slice A0_0 l0_0.length c0_0) := (blk_cell BK223.out 0).trans rfl; have hfz7_0 := blk_frozen BK223.out 0) | ((with_reducible refine gate_callee (f := 117) rfl ?_); refine goesL_ (some 14) rfl rfl Try.func117 (by kernel_rfl) rfl #[.int .i64 (l0_0.length : Int), .int .i64 1, .int .i64 24] rfl (by (try simp only [List.map_toArray, List.map_cons, List.map_nil]); first | done | rfl | (simp only [List.length_drop, List.length_take]; rfl)) ?_; (with_reducible refine (impl_within.calls (l0_0.length : Int) 1 24 true _ A2.out).mono ?_); rintro e w' ⟨rfl, ⟨nd, rfl⟩⟩; refine ⟨_, rfl, ?_⟩; (try (rw [drewN_self w6]; generalize hq_ : World.drewN w6 _ = w6; have n0_ : Aside0 (w6.heap[gb223]? = some (.cells #[.slice A0_0 l0_0.length c0_0] 29 (0, 0))) := ⟨by rw [← hq_]; exact (by (with_reducible repeat (first | refine blk_drewN ?_ _ | refine blk_drew ?_ | refine blk_alloc ?_ _)); exact BK223.out)⟩; have n1_ : Aside0 (Below w.heap.size w w6) := ⟨by rw [← hq_]; exact (by repeat (first | (with_reducible first | exact HB.out | apply below_alloc | apply pw_below_drewN | apply below_drew1 | refine below_set ?_ GE223.out) | exact HB.out))⟩; clear BK223 HB hq_; have BK223 := n0_; have HB := n1_; clear n0_ n1_)); have hcz7_0 : w6.cell? ⟨gb223, 0, none⟩ = some (.slice A0_0 l0_0.length c0_0) := (blk_cell BK223.out 0).trans rfl; have hfz7_0 := blk_frozen BK223.out 0; have p225 : 0 ≤ (0 : Int) := (by omega); have q225 : 0 < (l0_0.length : Int) := of_decide_eq_true (by first | (with_reducible assumption) | assumption); obtain ⟨ad225, e225, hx225_0, hx225_1, hx225_2, hx225_3, hx225_4, hx225_5, hx225_6⟩ := at_T99 HR0_0.out 0 p225 q225; cases e225; have qi225 : (0 < l0_0.length) = True := eq_true (by omega); (try rw [show ((0 : Int)).toNat = 0 from rfl] at hx225_0); (try rw [show 0 * 7 = 0 from rfl] at hx225_0); (try rw [Addr.add_zero'] at hx225_0); (try rw [show ((0 : Int)).toNat = 0 from rfl] at hx225_1); (try rw [show 0 * 7 = 0 from rfl] at hx225_1); (try rw [Addr.add_zero'] at hx225_1); (try rw [show ((0 : Int)).toNat = 0 from rfl] at hx225_2); (try rw [show 0 * 7 = 0 from rfl] at hx225_2); (try rw [Addr.add_zero'] at hx225_2); (try rw [show ((0 : Int)).toNat = 0 from rfl] at hx225_3); (try rw [show 0 * 7 = 0 from rfl] at hx225_3); (try rw [Addr.add_zero'] at hx225_3); (try rw [show ((0 : Int)).toNat = 0 from rfl] at hx225_4); (try rw [show 0 * 7 = 0 from rfl] at hx225_4); (try rw [Addr.add_zero'] at hx225_4); (try rw [show ((0 : Int)).toNat = 0 from rfl] at hx225_5); (try rw [show 0 * 7 = 0 from rfl] at hx225_5); (try rw [Addr.add_zero'] at hx225_5); (try rw [show ((0 : Int)).toNat = 0 from rfl] at hx225_6); (try rw [show 0 * 7 = 0 from rfl] at hx225_6); (try rw [Addr.add_zero'] at hx225_6); replace hx225_0 := (HB.out.cell (World.block_lt_of_cell? w _ hx225_0)).trans hx225_0; replace hx225_1 := (HB.out.cell (World.block_lt_of_cell? w _ hx225_1)).trans hx225_1; replace hx225_2 := (HB.out.cell (World.block_lt_of_cell? w _ hx225_2)).trans hx225_2; replace hx225_3 := (HB.out.cell (World.block_lt_of_cell? w _ hx225_3)).trans hx225_3; replace hx225_4 := (HB.out.cell (World.block_lt_of_cell? w _ hx225_4)).trans hx225_4; replace hx225_5 := (HB.out.cell (World.block_lt_of_cell? w _ hx225_5)).trans hx225_5; replace hx225_6 := (HB.out.cell (World.block_lt_of_cell? w _ hx225_6)).trans hx225_6; replace p225 := eq_true p225; replace q225 := eq_true q225) | ((with_reducible refine gate_dst (N := 5) rfl ?_); refine box_event ?hg (N := 5) ?hd (cs := #[.bool false, .int .i64 0, .int .i64 0, .int .i64 0, .int .i64 0, .int .i64 0, .int .i64 0]) (t := 99) ?hr ?_; (case hd => rfl); (case hg => rfl); (case hr => first | (go_simp; done) | (go_simp; rfl)); intro gb226 hg w8 hbox hb; have n0_ := Aside0.mk (blk_below (g := gb223) (o := .cells #[.slice (some ad225) l0_0.length c0_0] 29 (0, 0)) (by (with_reducible repeat (first | refine blk_drewN ?_ _ | refine blk_drew ?_ | refine blk_alloc ?_ _)); exact BK223.out) hb); have n1_ := Aside0.mk (below_step (by repeat (first | (with_reducible first | exact HB.out | apply below_alloc | apply pw_below_drewN | apply below_drew1 | refine below_set ?_ GE223.out) | exact HB.out)) hb); have n2_ := Aside0.mk (hbox); have n3_ := Aside0.mk ((by rw [hg]; exact (below_size (by repeat (first | (with_reducible first | exact HB.out | apply below_alloc | apply pw_below_drewN | apply below_drew1 | refine below_set ?_ GE223.out) | exact HB.out))) : w.heap.size ≤ gb226)); have n4_ := Aside0.mk ((by rw [hg]; exact (below_size (by repeat (first | (with_reducible first | exact HB.out | apply below_alloc | apply pw_below_drewN | apply below_drew1 | refine below_set ?_ GE223.out) | exact HB.out))) : w.heap.size ≤ gb226)); have n5_ := Aside0.mk ((by rw [hg]; exact Nat.ne_of_lt (blk_lt (g := gb223) (o := .cells #[.slice (some ad225) l0_0.length c0_0] 29 (0, 0)) (by (with_reducible repeat (first | refine blk_drewN ?_ _ | refine blk_drew ?_ | refine blk_alloc ?_ _)); exact BK223.out)) : gb223 ≠ gb226)); have n6_ := Aside0.mk ((by rw [hg]; exact Nat.ne_of_gt (blk_lt (g := gb223) (o := .cells #[.slice (some ad225) l0_0.length c0_0] 29 (0, 0)) (by (with_reducible repeat (first | refine blk_drewN ?_ _ | refine blk_drew ?_ | refine blk_alloc ?_ _)); exact BK223.out)) : gb226 ≠ gb223)); clear BK223; clear HB; have BK223 := n0_; have HB := n1_; have BK226 := n2_; have GW226 := n3_; have GE226 := n4_; have NB223_226 := n5_; have NB226_223 := n6_; clear n0_ n1_ n2_ n3_ n4_ n5_ n6_; clear hb hbox hg; have hnb9 := NB226_223.out; have hnc9 := NB223_226.out; have hcz10_0 : w8.cell? ⟨gb226, 0, none⟩ = some (.bool false) := (blk_cell BK226.out 0).trans rfl; have hcz10_1 : w8.cell? ⟨gb226, 1, none⟩ = some (.int .i64 0) := (blk_cell BK226.out 1).trans rfl; have hcz10_2 : w8.cell? ⟨gb226, 2, none⟩ = some (.int .i64 0) := (blk_cell BK226.out 2).trans rfl; have hcz10_3 : w8.cell? ⟨gb226, 3, none⟩ = some (.int .i64 0) := (blk_cell BK226.out 3).trans rfl; have hcz10_4 : w8.cell? ⟨gb226, 4, none⟩ = some (.int .i64 0) := (blk_cell BK226.out 4).trans rfl; have hcz10_5 : w8.cell? ⟨gb226, 5, none⟩ = some (.int .i64 0) := (blk_cell BK226.out 5).trans rfl; have hcz10_6 : w8.cell? ⟨gb226, 6, none⟩ = some (.int .i64 0) := (blk_cell BK226.out 6).trans rfl; have hfz10_0 := blk_frozen BK226.out 0; have hfz10_1 := blk_frozen BK226.out 1; have hfz10_2 := blk_frozen BK226.out 2; have hfz10_3 := blk_frozen BK226.out 3; have hfz10_4 := blk_frozen BK226.out 4; have hfz10_5 := blk_frozen BK226.out 5; have hfz10_6 := blk_frozen BK226.out 6))
   (try simp only [Act.put, List.setIfInBounds_toArray, List.set_cons_zero, List.set_cons_succ])
   go_cut [32] (fun v32 wc => ∃ (kq : Nat) (x32_4 : Bool), v32 = .bool x32_4 ∧ Aside0 (impl_Dom_walked.j0 kq x32_4 l0_0 = some (r1, r2, r3)) ∧ Aside0 (kq ≤ k) ∧ Aside0 (wc.heap[gb223]? = some (.cells #[(.slice (some ad225) l0_0.length c0_0)] 29 (0, 0))) ∧ Aside0 (wc.heap[gb226]? = some (.cells #[.bool ((rd_T99 l0_0 0).f0), .int .i64 ((rd_T99 l0_0 0).f1), .int .i64 ((rd_T99 l0_0 0).f2), .int .i64 ((rd_T99 l0_0 0).f3), .int .i64 ((rd_T99 l0_0 0).f4), .int .i64 ((rd_T99 l0_0 0).f5), .int .i64 ((rd_T99 l0_0 0).f6)] 99 (0, 0))) ∧ Aside0 (Below w.heap.size w wc))
   case first =>
    have H := HC5.out
    clear HC5
    by_cases c11 : ((rd_T99 l0_0 0).f2) = (-1)
    ·rw [if_pos c11] at H
     have c11b0 : (((rd_T99 l0_0 0).f2) == (-1)) = true := beq_iff_eq.mpr c11
     have c11b1 : (((rd_T99 l0_0 0).f2) != (-1)) = false := bne_eq_false_iff_eq.mpr c11
     clear c11
     (first | rw [c11b0] | (simp only [i64_w, i32_w]; rw [c11b0]) | skip)
     by_cases c12 : ((rd_T99 l0_0 0).f5) = (-1)
     ·rw [if_pos c12] at H
      have c12b0 : (((rd_T99 l0_0 0).f5) == (-1)) = true := beq_iff_eq.mpr c12
      have c12b1 : (((rd_T99 l0_0 0).f5) != (-1)) = false := bne_eq_false_iff_eq.mpr c12
      clear c12
      have H' := Aside0.mk H
      clear H
      have hnb13 := NB226_223.out
      have hnc13 := NB223_226.out
      have hcz14_0 : w8.cell? ⟨gb226, 0, none⟩ = some (.bool false) := (blk_cell BK226.out 0).trans rfl
      have hcz14_1 : w8.cell? ⟨gb226, 1, none⟩ = some (.int .i64 0) := (blk_cell BK226.out 1).trans rfl
      have hcz14_2 : w8.cell? ⟨gb226, 2, none⟩ = some (.int .i64 0) := (blk_cell BK226.out 2).trans rfl
      have hcz14_3 : w8.cell? ⟨gb226, 3, none⟩ = some (.int .i64 0) := (blk_cell BK226.out 3).trans rfl
      have hcz14_4 : w8.cell? ⟨gb226, 4, none⟩ = some (.int .i64 0) := (blk_cell BK226.out 4).trans rfl
      have hcz14_5 : w8.cell? ⟨gb226, 5, none⟩ = some (.int .i64 0) := (blk_cell BK226.out 5).trans rfl
      have hcz14_6 : w8.cell? ⟨gb226, 6, none⟩ = some (.int .i64 0) := (blk_cell BK226.out 6).trans rfl
      have hfz14_0 := blk_frozen BK226.out 0
      have hfz14_1 := blk_frozen BK226.out 1
      have hfz14_2 := blk_frozen BK226.out 2
      have hfz14_3 := blk_frozen BK226.out 3
      have hfz14_4 := blk_frozen BK226.out 4
      have hfz14_5 := blk_frozen BK226.out 5
      have hfz14_6 := blk_frozen BK226.out 6
      go_wp2
      go_meet
      case rel => exact ⟨_, ((((rd_T99 l0_0 0).f6) != (-1))), (by first | rfl | (simp; done) | (simp [*]; done)), H', ⟨by first | omega | exact Nat.le_refl _⟩, ⟨by (with_reducible repeat (first | refine blk_drewN ?_ _ | refine blk_drew ?_ | refine blk_alloc ?_ _)); refine blk_far ?_ NB223_226.out _; (with_reducible repeat (first | refine blk_drewN ?_ _ | refine blk_drew ?_ | refine blk_alloc ?_ _)); refine blk_far ?_ NB223_226.out _; (with_reducible repeat (first | refine blk_drewN ?_ _ | refine blk_drew ?_ | refine blk_alloc ?_ _)); refine blk_far ?_ NB223_226.out _; (with_reducible repeat (first | refine blk_drewN ?_ _ | refine blk_drew ?_ | refine blk_alloc ?_ _)); refine blk_far ?_ NB223_226.out _; (with_reducible repeat (first | refine blk_drewN ?_ _ | refine blk_drew ?_ | refine blk_alloc ?_ _)); refine blk_far ?_ NB223_226.out _; (with_reducible repeat (first | refine blk_drewN ?_ _ | refine blk_drew ?_ | refine blk_alloc ?_ _)); refine blk_far ?_ NB223_226.out _; (with_reducible repeat (first | refine blk_drewN ?_ _ | refine blk_drew ?_ | refine blk_alloc ?_ _)); refine blk_far ?_ NB223_226.out _; (with_reducible repeat (first | refine blk_drewN ?_ _ | refine blk_drew ?_ | refine blk_alloc ?_ _)); exact BK223.out⟩, ⟨by (with_reducible repeat (first | refine blk_drewN ?_ _ | refine blk_drew ?_ | refine blk_alloc ?_ _)); refine blk_put (cs := #[.bool ((rd_T99 l0_0 0).f0), .int .i64 ((rd_T99 l0_0 0).f1), .int .i64 ((rd_T99 l0_0 0).f2), .int .i64 ((rd_T99 l0_0 0).f3), .int .i64 ((rd_T99 l0_0 0).f4), .int .i64 ((rd_T99 l0_0 0).f5), .int .i64 0]) ?_ 6 _ rfl; (with_reducible repeat (first | refine blk_drewN ?_ _ | refine blk_drew ?_ | refine blk_alloc ?_ _)); refine blk_put (cs := #[.bool ((rd_T99 l0_0 0).f0), .int .i64 ((rd_T99 l0_0 0).f1), .int .i64 ((rd_T99 l0_0 0).f2), .int .i64 ((rd_T99 l0_0 0).f3), .int .i64 ((rd_T99 l0_0 0).f4), .int .i64 0, .int .i64 0]) ?_ 5 _ rfl; (with_reducible repeat (first | refine blk_drewN ?_ _ | refine blk_drew ?_ | refine blk_alloc ?_ _)); refine blk_put (cs := #[.bool ((rd_T99 l0_0 0).f0), .int .i64 ((rd_T99 l0_0 0).f1), .int .i64 ((rd_T99 l0_0 0).f2), .int .i64 ((rd_T99 l0_0 0).f3), .int .i64 0, .int .i64 0, .int .i64 0]) ?_ 4 _ rfl; (with_reducible repeat (first | refine blk_drewN ?_ _ | refine blk_drew ?_ | refine blk_alloc ?_ _)); refine blk_put (cs := #[.bool ((rd_T99 l0_0 0).f0), .int .i64 ((rd_T99 l0_0 0).f1), .int .i64 ((rd_T99 l0_0 0).f2), .int .i64 0, .int .i64 0, .int .i64 0, .int .i64 0]) ?_ 3 _ rfl; (with_reducible repeat (first | refine blk_drewN ?_ _ | refine blk_drew ?_ | refine blk_alloc ?_ _)); refine blk_put (cs := #[.bool ((rd_T99 l0_0 0).f0), .int .i64 ((rd_T99 l0_0 0).f1), .int .i64 0, .int .i64 0, .int .i64 0, .int .i64 0, .int .i64 0]) ?_ 2 _ rfl; (with_reducible repeat (first | refine blk_drewN ?_ _ | refine blk_drew ?_ | refine blk_alloc ?_ _)); refine blk_put (cs := #[.bool ((rd_T99 l0_0 0).f0), .int .i64 0, .int .i64 0, .int .i64 0, .int .i64 0, .int .i64 0, .int .i64 0]) ?_ 1 _ rfl; (with_reducible repeat (first | refine blk_drewN ?_ _ | refine blk_drew ?_ | refine blk_alloc ?_ _)); refine blk_put (cs := #[.bool false, .int .i64 0, .int .i64 0, .int .i64 0, .int .i64 0, .int .i64 0, .int .i64 0]) ?_ 0 _ rfl; (with_reducible repeat (first | refine blk_drewN ?_ _ | refine blk_drew ?_ | refine blk_alloc ?_ _)); exact BK226.out⟩, ⟨by repeat (first | (with_reducible first | exact HB.out | apply below_alloc | apply pw_below_drewN | apply below_drew1 | refine below_set ?_ GE223.out | refine below_set ?_ GE226.out) | exact HB.out)⟩⟩
     ·rw [if_neg c12] at H
      have c12b0 : (((rd_T99 l0_0 0).f5) == (-1)) = false := beq_eq_false_iff_ne.mpr c12
      have c12b1 : (((rd_T99 l0_0 0).f5) != (-1)) = true := bne_iff_ne.mpr c12
      have H' := Aside0.mk H
      clear H
      have hnb15 := NB226_223.out
      have hnc15 := NB223_226.out
      have hcz16_0 : w8.cell? ⟨gb226, 0, none⟩ = some (.bool false) := (blk_cell BK226.out 0).trans rfl
      have hcz16_1 : w8.cell? ⟨gb226, 1, none⟩ = some (.int .i64 0) := (blk_cell BK226.out 1).trans rfl
      have hcz16_2 : w8.cell? ⟨gb226, 2, none⟩ = some (.int .i64 0) := (blk_cell BK226.out 2).trans rfl
      have hcz16_3 : w8.cell? ⟨gb226, 3, none⟩ = some (.int .i64 0) := (blk_cell BK226.out 3).trans rfl
      have hcz16_4 : w8.cell? ⟨gb226, 4, none⟩ = some (.int .i64 0) := (blk_cell BK226.out 4).trans rfl
      have hcz16_5 : w8.cell? ⟨gb226, 5, none⟩ = some (.int .i64 0) := (blk_cell BK226.out 5).trans rfl
      have hcz16_6 : w8.cell? ⟨gb226, 6, none⟩ = some (.int .i64 0) := (blk_cell BK226.out 6).trans rfl
      have hfz16_0 := blk_frozen BK226.out 0
      have hfz16_1 := blk_frozen BK226.out 1
      have hfz16_2 := blk_frozen BK226.out 2
      have hfz16_3 := blk_frozen BK226.out 3
      have hfz16_4 := blk_frozen BK226.out 4
      have hfz16_5 := blk_frozen BK226.out 5
      have hfz16_6 := blk_frozen BK226.out 6
      go_wp2
      go_meet
      case rel => exact ⟨_, (true), (by first | rfl | (simp; done) | (simp [*]; done)), H', ⟨by first | omega | exact Nat.le_refl _⟩, ⟨by (with_reducible repeat (first | refine blk_drewN ?_ _ | refine blk_drew ?_ | refine blk_alloc ?_ _)); refine blk_far ?_ NB223_226.out _; (with_reducible repeat (first | refine blk_drewN ?_ _ | refine blk_drew ?_ | refine blk_alloc ?_ _)); refine blk_far ?_ NB223_226.out _; (with_reducible repeat (first | refine blk_drewN ?_ _ | refine blk_drew ?_ | refine blk_alloc ?_ _)); refine blk_far ?_ NB223_226.out _; (with_reducible repeat (first | refine blk_drewN ?_ _ | refine blk_drew ?_ | refine blk_alloc ?_ _)); refine blk_far ?_ NB223_226.out _; (with_reducible repeat (first | refine blk_drewN ?_ _ | refine blk_drew ?_ | refine blk_alloc ?_ _)); refine blk_far ?_ NB223_226.out _; (with_reducible repeat (first | refine blk_drewN ?_ _ | refine blk_drew ?_ | refine blk_alloc ?_ _)); refine blk_far ?_ NB223_226.out _; (with_reducible repeat (first | refine blk_drewN ?_ _ | refine blk_drew ?_ | refine blk_alloc ?_ _)); refine blk_far ?_ NB223_226.out _; (with_reducible repeat (first | refine blk_drewN ?_ _ | refine blk_drew ?_ | refine blk_alloc ?_ _)); exact BK223.out⟩, ⟨by (with_reducible repeat (first | refine blk_drewN ?_ _ | refine blk_drew ?_ | refine blk_alloc ?_ _)); refine blk_put (cs := #[.bool ((rd_T99 l0_0 0).f0), .int .i64 ((rd_T99 l0_0 0).f1), .int .i64 ((rd_T99 l0_0 0).f2), .int .i64 ((rd_T99 l0_0 0).f3), .int .i64 ((rd_T99 l0_0 0).f4), .int .i64 ((rd_T99 l0_0 0).f5), .int .i64 0]) ?_ 6 _ rfl; (with_reducible repeat (first | refine blk_drewN ?_ _ | refine blk_drew ?_ | refine blk_alloc ?_ _)); refine blk_put (cs := #[.bool ((rd_T99 l0_0 0).f0), .int .i64 ((rd_T99 l0_0 0).f1), .int .i64 ((rd_T99 l0_0 0).f2), .int .i64 ((rd_T99 l0_0 0).f3), .int .i64 ((rd_T99 l0_0 0).f4), .int .i64 0, .int .i64 0]) ?_ 5 _ rfl; (with_reducible repeat (first | refine blk_drewN ?_ _ | refine blk_drew ?_ | refine blk_alloc ?_ _)); refine blk_put (cs := #[.bool ((rd_T99 l0_0 0).f0), .int .i64 ((rd_T99 l0_0 0).f1), .int .i64 ((rd_T99 l0_0 0).f2), .int .i64 ((rd_T99 l0_0 0).f3), .int .i64 0, .int .i64 0, .int .i64 0]) ?_ 4 _ rfl; (with_reducible repeat (first | refine blk_drewN ?_ _ | refine blk_drew ?_ | refine blk_alloc ?_ _)); refine blk_put (cs := #[.bool ((rd_T99 l0_0 0).f0), .int .i64 ((rd_T99 l0_0 0).f1), .int .i64 ((rd_T99 l0_0 0).f2), .int .i64 0, .int .i64 0, .int .i64 0, .int .i64 0]) ?_ 3 _ rfl; (with_reducible repeat (first | refine blk_drewN ?_ _ | refine blk_drew ?_ | refine blk_alloc ?_ _)); refine blk_put (cs := #[.bool ((rd_T99 l0_0 0).f0), .int .i64 ((rd_T99 l0_0 0).f1), .int .i64 0, .int .i64 0, .int .i64 0, .int .i64 0, .int .i64 0]) ?_ 2 _ rfl; (with_reducible repeat (first | refine blk_drewN ?_ _ | refine blk_drew ?_ | refine blk_alloc ?_ _)); refine blk_put (cs := #[.bool ((rd_T99 l0_0 0).f0), .int .i64 0, .int .i64 0, .int .i64 0, .int .i64 0, .int .i64 0, .int .i64 0]) ?_ 1 _ rfl; (with_reducible repeat (first | refine blk_drewN ?_ _ | refine blk_drew ?_ | refine blk_alloc ?_ _)); refine blk_put (cs := #[.bool false, .int .i64 0, .int .i64 0, .int .i64 0, .int .i64 0, .int .i64 0, .int .i64 0]) ?_ 0 _ rfl; (with_reducible repeat (first | refine blk_drewN ?_ _ | refine blk_drew ?_ | refine blk_alloc ?_ _)); exact BK226.out⟩, ⟨by repeat (first | (with_reducible first | exact HB.out | apply below_alloc | apply pw_below_drewN | apply below_drew1 | refine below_set ?_ GE223.out | refine below_set ?_ GE226.out) | exact HB.out)⟩⟩
    ·rw [if_neg c11] at H
     have c11b0 : (((rd_T99 l0_0 0).f2) == (-1)) = false := beq_eq_false_iff_ne.mpr c11
     have c11b1 : (((rd_T99 l0_0 0).f2) != (-1)) = true := bne_iff_ne.mpr c11
     (first | rw [c11b0] | (simp only [i64_w, i32_w]; rw [c11b0]) | skip)
     have H' := Aside0.mk H
     clear H
     have hnb17 := NB226_223.out
     have hnc17 := NB223_226.out
     have hcz18_0 : w8.cell? ⟨gb226, 0, none⟩ = some (.bool false) := (blk_cell BK226.out 0).trans rfl
     have hcz18_1 : w8.cell? ⟨gb226, 1, none⟩ = some (.int .i64 0) := (blk_cell BK226.out 1).trans rfl
     have hcz18_2 : w8.cell? ⟨gb226, 2, none⟩ = some (.int .i64 0) := (blk_cell BK226.out 2).trans rfl
     have hcz18_3 : w8.cell? ⟨gb226, 3, none⟩ = some (.int .i64 0) := (blk_cell BK226.out 3).trans rfl
     have hcz18_4 : w8.cell? ⟨gb226, 4, none⟩ = some (.int .i64 0) := (blk_cell BK226.out 4).trans rfl
     have hcz18_5 : w8.cell? ⟨gb226, 5, none⟩ = some (.int .i64 0) := (blk_cell BK226.out 5).trans rfl
     have hcz18_6 : w8.cell? ⟨gb226, 6, none⟩ = some (.int .i64 0) := (blk_cell BK226.out 6).trans rfl
     have hfz18_0 := blk_frozen BK226.out 0
     have hfz18_1 := blk_frozen BK226.out 1
     have hfz18_2 := blk_frozen BK226.out 2
     have hfz18_3 := blk_frozen BK226.out 3
     have hfz18_4 := blk_frozen BK226.out 4
     have hfz18_5 := blk_frozen BK226.out 5
     have hfz18_6 := blk_frozen BK226.out 6
     go_wp2
     go_meet
     case rel => exact ⟨_, (true), (by first | rfl | (simp; done) | (simp [*]; done)), H', ⟨by first | omega | exact Nat.le_refl _⟩, ⟨by (with_reducible repeat (first | refine blk_drewN ?_ _ | refine blk_drew ?_ | refine blk_alloc ?_ _)); refine blk_far ?_ NB223_226.out _; (with_reducible repeat (first | refine blk_drewN ?_ _ | refine blk_drew ?_ | refine blk_alloc ?_ _)); refine blk_far ?_ NB223_226.out _; (with_reducible repeat (first | refine blk_drewN ?_ _ | refine blk_drew ?_ | refine blk_alloc ?_ _)); refine blk_far ?_ NB223_226.out _; (with_reducible repeat (first | refine blk_drewN ?_ _ | refine blk_drew ?_ | refine blk_alloc ?_ _)); refine blk_far ?_ NB223_226.out _; (with_reducible repeat (first | refine blk_drewN ?_ _ | refine blk_drew ?_ | refine blk_alloc ?_ _)); refine blk_far ?_ NB223_226.out _; (with_reducible repeat (first | refine blk_drewN ?_ _ | refine blk_drew ?_ | refine blk_alloc ?_ _)); refine blk_far ?_ NB223_226.out _; (with_reducible repeat (first | refine blk_drewN ?_ _ | refine blk_drew ?_ | refine blk_alloc ?_ _)); refine blk_far ?_ NB223_226.out _; (with_reducible repeat (first | refine blk_drewN ?_ _ | refine blk_drew ?_ | refine blk_alloc ?_ _)); exact BK223.out⟩, ⟨by (with_reducible repeat (first | refine blk_drewN ?_ _ | refine blk_drew ?_ | refine blk_alloc ?_ _)); refine blk_put (cs := #[.bool ((rd_T99 l0_0 0).f0), .int .i64 ((rd_T99 l0_0 0).f1), .int .i64 ((rd_T99 l0_0 0).f2), .int .i64 ((rd_T99 l0_0 0).f3), .int .i64 ((rd_T99 l0_0 0).f4), .int .i64 ((rd_T99 l0_0 0).f5), .int .i64 0]) ?_ 6 _ rfl; (with_reducible repeat (first | refine blk_drewN ?_ _ | refine blk_drew ?_ | refine blk_alloc ?_ _)); refine blk_put (cs := #[.bool ((rd_T99 l0_0 0).f0), .int .i64 ((rd_T99 l0_0 0).f1), .int .i64 ((rd_T99 l0_0 0).f2), .int .i64 ((rd_T99 l0_0 0).f3), .int .i64 ((rd_T99 l0_0 0).f4), .int .i64 0, .int .i64 0]) ?_ 5 _ rfl; (with_reducible repeat (first | refine blk_drewN ?_ _ | refine blk_drew ?_ | refine blk_alloc ?_ _)); refine blk_put (cs := #[.bool ((rd_T99 l0_0 0).f0), .int .i64 ((rd_T99 l0_0 0).f1), .int .i64 ((rd_T99 l0_0 0).f2), .int .i64 ((rd_T99 l0_0 0).f3), .int .i64 0, .int .i64 0, .int .i64 0]) ?_ 4 _ rfl; (with_reducible repeat (first | refine blk_drewN ?_ _ | refine blk_drew ?_ | refine blk_alloc ?_ _)); refine blk_put (cs := #[.bool ((rd_T99 l0_0 0).f0), .int .i64 ((rd_T99 l0_0 0).f1), .int .i64 ((rd_T99 l0_0 0).f2), .int .i64 0, .int .i64 0, .int .i64 0, .int .i64 0]) ?_ 3 _ rfl; (with_reducible repeat (first | refine blk_drewN ?_ _ | refine blk_drew ?_ | refine blk_alloc ?_ _)); refine blk_put (cs := #[.bool ((rd_T99 l0_0 0).f0), .int .i64 ((rd_T99 l0_0 0).f1), .int .i64 0, .int .i64 0, .int .i64 0, .int .i64 0, .int .i64 0]) ?_ 2 _ rfl; (with_reducible repeat (first | refine blk_drewN ?_ _ | refine blk_drew ?_ | refine blk_alloc ?_ _)); refine blk_put (cs := #[.bool ((rd_T99 l0_0 0).f0), .int .i64 0, .int .i64 0, .int .i64 0, .int .i64 0, .int .i64 0, .int .i64 0]) ?_ 1 _ rfl; (with_reducible repeat (first | refine blk_drewN ?_ _ | refine blk_drew ?_ | refine blk_alloc ?_ _)); refine blk_put (cs := #[.bool false, .int .i64 0, .int .i64 0, .int .i64 0, .int .i64 0, .int .i64 0, .int .i64 0]) ?_ 0 _ rfl; (with_reducible repeat (first | refine blk_drewN ?_ _ | refine blk_drew ?_ | refine blk_alloc ?_ _)); exact BK226.out⟩, ⟨by repeat (first | (with_reducible first | exact HB.out | apply below_alloc | apply pw_below_drewN | apply below_drew1 | refine below_set ?_ GE223.out | refine below_set ?_ GE226.out) | exact HB.out)⟩⟩
   case rest =>
    clear HC5
    try clear c1
    try clear p2
    try clear q2
    try clear hx2
    try clear qi2
    try clear c3
    try clear c4
    try clear c4b0
    try clear c4b1
    try clear c7
    try clear c9
    try clear c11
    try clear c11b0
    try clear c11b1
    try clear c12
    try clear c12b0
    try clear c12b1
    try clear c13
    try clear c15
    try clear c17
    try clear hcz10_0
    try clear hcz10_1
    try clear hcz10_2
    try clear hcz10_3
    try clear hcz10_4
    try clear hcz10_5
    try clear hcz10_6
    try clear hcz14_0
    try clear hcz14_1
    try clear hcz14_2
    try clear hcz14_3
    try clear hcz14_4
    try clear hcz14_5
    try clear hcz14_6
    try clear hcz16_0
    try clear hcz16_1
    try clear hcz16_2
    try clear hcz16_3
    try clear hcz16_4
    try clear hcz16_5
    try clear hcz16_6
    try clear hcz18_0
    try clear hcz18_1
    try clear hcz18_2
    try clear hcz18_3
    try clear hcz18_4
    try clear hcz18_5
    try clear hcz18_6
    try clear hcz7_0
    try clear hfz10_0
    try clear hfz10_1
    try clear hfz10_2
    try clear hfz10_3
    try clear hfz10_4
    try clear hfz10_5
    try clear hfz10_6
    try clear hfz14_0
    try clear hfz14_1
    try clear hfz14_2
    try clear hfz14_3
    try clear hfz14_4
    try clear hfz14_5
    try clear hfz14_6
    try clear hfz16_0
    try clear hfz16_1
    try clear hfz16_2
    try clear hfz16_3
    try clear hfz16_4
    try clear hfz16_5
    try clear hfz16_6
    try clear hfz18_0
    try clear hfz18_1
    try clear hfz18_2
    try clear hfz18_3
    try clear hfz18_4
    try clear hfz18_5
    try clear hfz18_6
    try clear hfz7_0
    try clear hx225_0
    try clear hx225_1
    try clear hx225_2
    try clear hx225_3
    try clear hx225_4
    try clear hx225_5
    try clear hx225_6
    try clear p225
    try clear q225
    obtain ⟨kq, x32_4, rfl, HA, HJ4, BK223, BK226, HB⟩ := hcut
    cases kq with
    | zero => exact absurd HA.out (by simp [impl_Dom_walked.j0])
    | succ kj4 =>
     have H := HA.out
     clear HA
     simp only [impl_Dom_walked.j0] at H
     by_cases c19 : x32_4 = true
     ·subst c19
      have H1 : (some (([] : List (S90)), ([] : List Int), false)) = some (r1, r2, r3) := by rw [if_pos rfl] at H; exact H
      clear H
      have H := H1
      clear H1
      simp only [Option.some.injEq, Prod.mk.injEq] at H
      obtain ⟨rfl, rfl, rfl⟩ := H
      go_wp2
      go_ret3
      exact ⟨_, _, by first | rfl | (simp [errW_none, errW_some] <;> rfl) | (simp [*, errW_none, errW_some] <;> rfl), by first | exact Kd.R_nil _ _ _ _ _ | exact Kd.N_nil _ _ _ _ _ | exact Kd.V_nil _ _ _ _ _ | exact Kd.Q_nil _ _ _ _ _ | exact Kd.S_nil _ _ _ _ _, by first | exact Kd.R_nil _ _ _ _ _ | exact Kd.N_nil _ _ _ _ _ | exact Kd.V_nil _ _ _ _ _ | exact Kd.Q_nil _ _ _ _ _ | exact Kd.S_nil _ _ _ _ _, by repeat (first | (with_reducible first | exact HB.out | apply below_alloc | apply pw_below_drewN | apply below_drew1 | refine below_set ?_ GE223.out | refine below_set ?_ GE226.out) | exact HB.out)⟩
     ·replace c19 := Bool.eq_false_iff.mpr c19
      subst c19
      have H1 : ((impl_Dom_visit.f kj4 l0_0 0 0 ([] : List (S90)) ([] : List Int)).bind fun bt227 => (impl_Dom_walked.l0 kj4 bt227.1 bt227.2.1 bt227.2.2 l0_0 (l0_0.length : Int) 0)) = some (r1, r2, r3) := by rw [if_neg (show ¬ (false = true) by decide)] at H; exact H
      clear H
      have H := H1
      clear H1
      replace H := Option.bind_eq_some_iff.mp H
      obtain ⟨⟨t227, t230, t233⟩, A200, H⟩ := H
      replace H : (impl_Dom_walked.l0 kj4 t227 t230 t233 l0_0 (l0_0.length : Int) 0) = some (r1, r2, r3) := H
      have A20 := Aside0.mk A200
      clear A200
      have H' := Aside0.mk H
      clear H
      have hnb21 := NB223_226.out
      have hnc21 := NB226_223.out
      have hcz22_0 : wc.cell? ⟨gb223, 0, none⟩ = some (.slice (some ad225) l0_0.length c0_0) := (blk_cell BK223.out 0).trans rfl
      have hfz22_0 := blk_frozen BK223.out 0
      go_wp2_with (first | ((with_reducible refine gate_callee (f := 118) rfl ?_); refine goesL_ (some 35) rfl rfl Try.func118 (by kernel_rfl) rfl #[.agg #[.slice (some ad225) l0_0.length c0_0], .int .i64 0, .int .i64 0, .slice none 0 0, .slice none 0 0] rfl (by (try simp only [List.map_toArray, List.map_cons, List.map_nil]); first | done | rfl | (simp only [List.length_drop, List.length_take]; rfl)) ?_; (refine (impl_Dom_visit.calls kj4 _ _ l0_0 0 0 (fun k_ => some k_ = (.slice none 0 0 : Value).ownBlock) (.slice none 0 0) ([] : List (S90)) (fun k_ => some k_ = (.slice none 0 0 : Value).ownBlock) (.slice none 0 0) ([] : List Int) t227 t230 t233 w _ ?side1 ?side2 ?side3 ?side4 ?side5 A20.out).mono ?_); (case side1 => repeat (first | (with_reducible first | exact HB.out | apply below_alloc | apply pw_below_drewN | apply below_drew1 | refine below_set ?_ GE223.out | refine below_set ?_ GE226.out) | exact HB.out)); (case side2 => exact Kd.C_kept_came k99_heap HR0_0.out (by repeat (first | (with_reducible first | exact HB.out | apply below_alloc | apply pw_below_drewN | apply below_drew1 | refine below_set ?_ GE223.out | refine below_set ?_ GE226.out) | exact HB.out)) (fun k_ hs_ => Or.elim hs_ (fun e_ => (fun e_ => by simp [Value.ownBlock] at e_) e_) (fun e_ => (fun e_ => by simp [Value.ownBlock] at e_) e_))); (case side3 => exact HC0_0.out); (case side4 => exact Kd.R_nil _ _ _ _ _); (case side5 => exact Kd.R_nil _ _ _ _ _); rintro e w23 ⟨v228, v231, rfl, ho0, ho1, hb, hkp⟩; refine ⟨_, rfl, ?_⟩; have n0_ := Aside0.mk (blk_kept (by (with_reducible repeat (first | refine blk_drewN ?_ _ | refine blk_drew ?_ | refine blk_alloc ?_ _)); exact BK223.out) hkp (fun hs_ => Or.elim hs_ (fun e_ => (fun e_ => by simp [Value.ownBlock] at e_) e_) (fun e_ => (fun e_ => by simp [Value.ownBlock] at e_) e_))); have n1_ := Aside0.mk (blk_kept (by (with_reducible repeat (first | refine blk_drewN ?_ _ | refine blk_drew ?_ | refine blk_alloc ?_ _)); exact BK226.out) hkp (fun hs_ => Or.elim hs_ (fun e_ => (fun e_ => by simp [Value.ownBlock] at e_) e_) (fun e_ => (fun e_ => by simp [Value.ownBlock] at e_) e_))); have n2_ := Aside0.mk (Kd.R_mono (ok' := fun k_ => True) ho0 (fun k_ hk_ => trivial)); have n3_ := Aside0.mk (Kd.R_mono (ok' := fun k_ => True) ho1 (fun k_ hk_ => trivial)); have n4_ := Aside0.mk (hb); clear BK223; clear BK226; clear HB; have BK223 := n0_; have BK226 := n1_; have HO229 := n2_; have HO232 := n3_; have HB := n4_; clear n0_ n1_ n2_ n3_ n4_; (try clear hb); (try clear hkp); (try clear ho0); (try clear ho1); have hcz24_0 : w23.cell? ⟨gb223, 0, none⟩ = some (.slice (some ad225) l0_0.length c0_0) := (blk_cell BK223.out 0).trans rfl; have hfz24_0 := blk_frozen BK223.out 0))
      go_loopg [8, 42] kj4 (fun kq v8 v42 w' => ∃ (x8_2 : Bool) (x42_2 : Int), v8 = .bool x8_2 ∧ v42 = .int .i64 x42_2 ∧ Aside0 (impl_Dom_walked.l0 kq t227 t230 x8_2 l0_0 (l0_0.length : Int) x42_2 = some (r1, r2, r3)) ∧ Aside0 (kq ≤ kj4) ∧ Aside0 (Kd.R k90 90 w' w.heap.size (fun _ => True) v228 t227) ∧ Aside0 (Kd.R (Kd.int .i64) 3 w' w.heap.size (fun _ => True) v231 t230) ∧ Aside0 (w'.heap[gb223]? = some (.cells #[(.slice (some ad225) l0_0.length c0_0)] 29 (0, 0))) ∧ Aside0 (w'.heap[gb226]? = some (.cells #[.bool ((rd_T99 l0_0 0).f0), .int .i64 ((rd_T99 l0_0 0).f1), .int .i64 ((rd_T99 l0_0 0).f2), .int .i64 ((rd_T99 l0_0 0).f3), .int .i64 ((rd_T99 l0_0 0).f4), .int .i64 ((rd_T99 l0_0 0).f5), .int .i64 ((rd_T99 l0_0 0).f6)] 99 (0, 0))) ∧ Aside0 (Below w.heap.size w w'))
      case atStart => exact ⟨(t233), (0), (by first | rfl | (simp; done) | (simp [*]; done)), (by first | rfl | (simp; done) | (simp [*]; done)), H', ⟨Nat.le_refl _⟩, ⟨by (with_reducible repeat (first | apply Kd.R_alloc | apply Kd.R_drewN | apply Kd.R_drew)); exact HO229.out⟩, ⟨by (with_reducible repeat (first | apply Kd.R_alloc | apply Kd.R_drewN | apply Kd.R_drew)); exact HO232.out⟩, ⟨by (with_reducible repeat (first | refine blk_drewN ?_ _ | refine blk_drew ?_ | refine blk_alloc ?_ _)); exact BK223.out⟩, ⟨by (with_reducible repeat (first | refine blk_drewN ?_ _ | refine blk_drew ?_ | refine blk_alloc ?_ _)); exact BK226.out⟩, ⟨by repeat (first | (with_reducible first | exact HB.out | apply below_alloc | apply pw_below_drewN | apply below_drew1 | refine below_set ?_ GE223.out | refine below_set ?_ GE226.out) | exact HB.out)⟩⟩
      case round =>
       clear H'
       try clear c1
       try clear c2
       try clear p2
       try clear q2
       try clear hx2
       try clear qi2
       try clear c3
       try clear c4
       try clear c4b0
       try clear c4b1
       try clear c7
       try clear c9
       try clear c11
       try clear c11b0
       try clear c11b1
       try clear c12
       try clear c12b0
       try clear c12b1
       try clear c13
       try clear c15
       try clear c17
       try clear c19
       try clear c21
       try clear p22
       try clear q22
       try clear hx22
       try clear qi22
       try clear hcz10_0
       try clear hcz10_1
       try clear hcz10_2
       try clear hcz10_3
       try clear hcz10_4
       try clear hcz10_5
       try clear hcz10_6
       try clear hcz14_0
       try clear hcz14_1
       try clear hcz14_2
       try clear hcz14_3
       try clear hcz14_4
       try clear hcz14_5
       try clear hcz14_6
       try clear hcz16_0
       try clear hcz16_1
       try clear hcz16_2
       try clear hcz16_3
       try clear hcz16_4
       try clear hcz16_5
       try clear hcz16_6
       try clear hcz18_0
       try clear hcz18_1
       try clear hcz18_2
       try clear hcz18_3
       try clear hcz18_4
       try clear hcz18_5
       try clear hcz18_6
       try clear hcz22_0
       try clear hcz24_0
       try clear hcz7_0
       try clear hfz10_0
       try clear hfz10_1
       try clear hfz10_2
       try clear hfz10_3
       try clear hfz10_4
       try clear hfz10_5
       try clear hfz10_6
       try clear hfz14_0
       try clear hfz14_1
       try clear hfz14_2
       try clear hfz14_3
       try clear hfz14_4
       try clear hfz14_5
       try clear hfz14_6
       try clear hfz16_0
       try clear hfz16_1
       try clear hfz16_2
       try clear hfz16_3
       try clear hfz16_4
       try clear hfz16_5
       try clear hfz16_6
       try clear hfz18_0
       try clear hfz18_1
       try clear hfz18_2
       try clear hfz18_3
       try clear hfz18_4
       try clear hfz18_5
       try clear hfz18_6
       try clear hfz22_0
       try clear hfz24_0
       try clear hfz7_0
       try clear hx225_0
       try clear hx225_1
       try clear hx225_2
       try clear hx225_3
       try clear hx225_4
       try clear hx225_5
       try clear hx225_6
       try clear p2
       try clear p225
       try clear q2
       try clear q225
       obtain ⟨x8_2, x42_2, rfl, rfl, HA, HK2, HO_6, HO_7, BK223, BK226, HB⟩ := hrel
       cases gk with
       | zero => exact absurd HA.out (by simp [impl_Dom_walked.l0])
       | succ k2 =>
        have H := HA.out
        clear HA
        simp only [impl_Dom_walked.l0] at H
        by_cases c25 : x42_2 < (l0_0.length : Int)
        ·rw [if_pos c25] at H
         have c25b0 : decide (x42_2 < (l0_0.length : Int)) = true := decide_eq_true c25
         clear c25
         by_cases c26 : 0 ≤ x42_2
         ·rw [if_pos c26] at H
          have c26b0 : decide (0 ≤ x42_2) = true := decide_eq_true c26
          clear c26
          by_cases c27 : x42_2 < (l0_0.length : Int)
          ·rw [if_pos c27] at H
           have c27b0 : decide (x42_2 < (l0_0.length : Int)) = true := decide_eq_true c27
           clear c27
           by_cases c28 : x8_2 = true
           ·subst c28
            have H1 : ((slices_Contains_int_int.f k2 t230 x42_2).bind fun t236 => (if t236 = true then (impl_Dom_walked.l0 k2 t227 t230 true l0_0 (l0_0.length : Int) (wrap64 (x42_2 + 1))) else ((impl_unused.f).bind fun bt237 => (if (!(((rd_T99 l0_0 x42_2).f0) == bt237.1) || (!(((rd_T99 l0_0 x42_2).f1) == bt237.2.1) || (!(((rd_T99 l0_0 x42_2).f2) == bt237.2.2.1) || (!(((rd_T99 l0_0 x42_2).f3) == bt237.2.2.2.1) || (!(((rd_T99 l0_0 x42_2).f4) == bt237.2.2.2.2.1) || (!(((rd_T99 l0_0 x42_2).f5) == bt237.2.2.2.2.2.1) || (!(((rd_T99 l0_0 x42_2).f6) == bt237.2.2.2.2.2.2)))))))) = true then (impl_Dom_walked.l0 k2 t227 t230 false l0_0 (l0_0.length : Int) (wrap64 (x42_2 + 1))) else (impl_Dom_walked.l0 k2 t227 t230 true l0_0 (l0_0.length : Int) (wrap64 (x42_2 + 1))))))) = some (r1, r2, r3) := by rw [if_pos rfl] at H; exact H
            clear H
            have H := H1
            clear H1
            replace H := Option.bind_eq_some_iff.mp H
            obtain ⟨t236, A290, H⟩ := H
            replace H : (if t236 = true then (impl_Dom_walked.l0 k2 t227 t230 true l0_0 (l0_0.length : Int) (wrap64 (x42_2 + 1))) else ((impl_unused.f).bind fun bt237 => (if (!(((rd_T99 l0_0 x42_2).f0) == bt237.1) || (!(((rd_T99 l0_0 x42_2).f1) == bt237.2.1) || (!(((rd_T99 l0_0 x42_2).f2) == bt237.2.2.1) || (!(((rd_T99 l0_0 x42_2).f3) == bt237.2.2.2.1) || (!(((rd_T99 l0_0 x42_2).f4) == bt237.2.2.2.2.1) || (!(((rd_T99 l0_0 x42_2).f5) == bt237.2.2.2.2.2.1) || (!(((rd_T99 l0_0 x42_2).f6) == bt237.2.2.2.2.2.2)))))))) = true then (impl_Dom_walked.l0 k2 t227 t230 false l0_0 (l0_0.length : Int) (wrap64 (x42_2 + 1))) else (impl_Dom_walked.l0 k2 t227 t230 true l0_0 (l0_0.length : Int) (wrap64 (x42_2 + 1)))))) = some (r1, r2, r3) := H
            have A29 := Aside0.mk A290
            clear A290
            by_cases c30 : t236 = true
            ·subst c30
             have H1 : (impl_Dom_walked.l0 k2 t227 t230 true l0_0 (l0_0.length : Int) (wrap64 (x42_2 + 1))) = some (r1, r2, r3) := by rw [if_pos rfl] at H; exact H
             clear H
             have H := H1
             clear H1
             have H' := Aside0.mk H
             clear H
             have p234 : 0 ≤ (x42_2 : Int) := of_decide_eq_true (by first | (with_reducible assumption) | assumption)
             have q234 : x42_2 < (l0_0.length : Int) := of_decide_eq_true (by first | (with_reducible assumption) | assumption)
             obtain ⟨ad234, e234, hx234_0, hx234_1, hx234_2, hx234_3, hx234_4, hx234_5, hx234_6⟩ := at_T99 HR0_0.out x42_2 p234 q234
             obtain rfl : ad225 = ad234 := (by injection e234)
             replace hx234_0 := (HB.out.cell (World.block_lt_of_cell? w _ hx234_0)).trans hx234_0
             replace hx234_1 := (HB.out.cell (World.block_lt_of_cell? w _ hx234_1)).trans hx234_1
             replace hx234_2 := (HB.out.cell (World.block_lt_of_cell? w _ hx234_2)).trans hx234_2
             replace hx234_3 := (HB.out.cell (World.block_lt_of_cell? w _ hx234_3)).trans hx234_3
             replace hx234_4 := (HB.out.cell (World.block_lt_of_cell? w _ hx234_4)).trans hx234_4
             replace hx234_5 := (HB.out.cell (World.block_lt_of_cell? w _ hx234_5)).trans hx234_5
             replace hx234_6 := (HB.out.cell (World.block_lt_of_cell? w _ hx234_6)).trans hx234_6
             replace p234 := eq_true p234
             replace q234 := eq_true q234
             try go_wp2_with (first | ((with_reducible refine gate_dst (N := 10) rfl ?_); refine box_event ?hg (N := 10) ?hd (cs := #[.bool false, .int .i64 0, .int .i64 0, .int .i64 0, .int .i64 0, .int .i64 0, .int .i64 0]) (t := 99) ?hr ?_; (case hd => rfl); (case hg => rfl); (case hr => first | (go_simp; done) | (go_simp; rfl)); intro gb235 hg w31 hbox hb; have n0_ := Aside0.mk (Kd.R_below (by (with_reducible repeat (first | apply Kd.R_alloc | apply Kd.R_drewN | apply Kd.R_drew)); exact HO_6.out) hb); have n1_ := Aside0.mk (Kd.R_below (by (with_reducible repeat (first | apply Kd.R_alloc | apply Kd.R_drewN | apply Kd.R_drew)); exact HO_7.out) hb); have n2_ := Aside0.mk (blk_below (g := gb223) (o := .cells #[.slice (some ad225) l0_0.length c0_0] 29 (0, 0)) (by (with_reducible repeat (first | refine blk_drewN ?_ _ | refine blk_drew ?_ | refine blk_alloc ?_ _)); exact BK223.out) hb); have n3_ := Aside0.mk (blk_below (g := gb226) (o := .cells #[.bool ((rd_T99 l0_0 0).f0), .int .i64 ((rd_T99 l0_0 0).f1), .int .i64 ((rd_T99 l0_0 0).f2), .int .i64 ((rd_T99 l0_0 0).f3), .int .i64 ((rd_T99 l0_0 0).f4), .int .i64 ((rd_T99 l0_0 0).f5), .int .i64 ((rd_T99 l0_0 0).f6)] 99 (0, 0)) (by (with_reducible repeat (first | refine blk_drewN ?_ _ | refine blk_drew ?_ | refine blk_alloc ?_ _)); exact BK226.out) hb); have n4_ := Aside0.mk (below_step (by repeat (first | (with_reducible first | exact HB.out | apply below_alloc | apply pw_below_drewN | apply below_drew1 | refine below_set ?_ GE223.out | refine below_set ?_ GE226.out) | exact HB.out)) hb); have n5_ := Aside0.mk (hbox); have n6_ := Aside0.mk ((by rw [hg]; exact (below_size (by repeat (first | (with_reducible first | exact HB.out | apply below_alloc | apply pw_below_drewN | apply below_drew1 | refine below_set ?_ GE223.out | refine below_set ?_ GE226.out) | exact HB.out))) : w.heap.size ≤ gb235)); have n7_ := Aside0.mk ((by rw [hg]; exact (below_size (by repeat (first | (with_reducible first | exact HB.out | apply below_alloc | apply pw_below_drewN | apply below_drew1 | refine below_set ?_ GE223.out | refine below_set ?_ GE226.out) | exact HB.out))) : w.heap.size ≤ gb235)); have n8_ := Aside0.mk ((by rw [hg]; exact Nat.ne_of_lt (blk_lt (g := gb223) (o := .cells #[.slice (some ad225) l0_0.length c0_0] 29 (0, 0)) (by (with_reducible repeat (first | refine blk_drewN ?_ _ | refine blk_drew ?_ | refine blk_alloc ?_ _)); exact BK223.out)) : gb223 ≠ gb235)); have n9_ := Aside0.mk ((by rw [hg]; exact Nat.ne_of_gt (blk_lt (g := gb223) (o := .cells #[.slice (some ad225) l0_0.length c0_0] 29 (0, 0)) (by (with_reducible repeat (first | refine blk_drewN ?_ _ | refine blk_drew ?_ | refine blk_alloc ?_ _)); exact BK223.out)) : gb235 ≠ gb223)); have n10_ := Aside0.mk ((by rw [hg]; exact Nat.ne_of_lt (blk_lt (g := gb226) (o := .cells #[.bool ((rd_T99 l0_0 0).f0), .int .i64 ((rd_T99 l0_0 0).f1), .int .i64 ((rd_T99 l0_0 0).f2), .int .i64 ((rd_T99 l0_0 0).f3), .int .i64 ((rd_T99 l0_0 0).f4), .int .i64 ((rd_T99 l0_0 0).f5), .int .i64 ((rd_T99 l0_0 0).f6)] 99 (0, 0)) (by (with_reducible repeat (first | refine blk_drewN ?_ _ | refine blk_drew ?_ | refine blk_alloc ?_ _)); exact BK226.out)) : gb226 ≠ gb235)); have n11_ := Aside0.mk ((by rw [hg]; exact Nat.ne_of_gt (blk_lt (g := gb226) (o := .cells #[.bool ((rd_T99 l0_0 0).f0), .int .i64 ((rd_T99 l0_0 0).f1), .int .i64 ((rd_T99 l0_0 0).f2), .int .i64 ((rd_T99 l0_0 0).f3), .int .i64 ((rd_T99 l0_0 0).f4), .int .i64 ((rd_T99 l0_0 0).f5), .int .i64 ((rd_T99 l0_0 0).f6)] 99 (0, 0)) (by (with_reducible repeat (first | refine blk_drewN ?_ _ | refine blk_drew ?_ | refine blk_alloc ?_ _)); exact BK226.out)) : gb235 ≠ gb226)); clear HO_6; clear HO_7; clear BK223; clear BK226; clear HB; have HO_6 := n0_; have HO_7 := n1_; have BK223 := n2_; have BK226 := n3_; have HB := n4_; have BK235 := n5_; have GW235 := n6_; have GE235 := n7_; have NB223_235 := n8_; have NB235_223 := n9_; have NB226_235 := n10_; have NB235_226 := n11_; clear n0_ n1_ n2_ n3_ n4_ n5_ n6_ n7_ n8_ n9_ n10_ n11_; clear hb hbox hg; have hnb32 := NB235_223.out; have hnc32 := NB223_235.out; have hnb33 := NB235_226.out; have hnc33 := NB226_235.out; have hcz34_0 : w31.cell? ⟨gb235, 0, none⟩ = some (.bool false) := (blk_cell BK235.out 0).trans rfl; have hcz34_1 : w31.cell? ⟨gb235, 1, none⟩ = some (.int .i64 0) := (blk_cell BK235.out 1).trans rfl; have hcz34_2 : w31.cell? ⟨gb235, 2, none⟩ = some (.int .i64 0) := (blk_cell BK235.out 2).trans rfl; have hcz34_3 : w31.cell? ⟨gb235, 3, none⟩ = some (.int .i64 0) := (blk_cell BK235.out 3).trans rfl; have hcz34_4 : w31.cell? ⟨gb235, 4, none⟩ = some (.int .i64 0) := (blk_cell BK235.out 4).trans rfl; have hcz34_5 : w31.cell? ⟨gb235, 5, none⟩ = some (.int .i64 0) := (blk_cell BK235.out 5).trans rfl; have hcz34_6 : w31.cell? ⟨gb235, 6, none⟩ = some (.int .i64 0) := (blk_cell BK235.out 6).trans rfl; have hfz34_0 := blk_frozen BK235.out 0; have hfz34_1 := blk_frozen BK235.out 1; have hfz34_2 := blk_frozen BK235.out 2; have hfz34_3 := blk_frozen BK235.out 3; have hfz34_4 := blk_frozen BK235.out 4; have hfz34_5 := blk_frozen BK235.out 5; have hfz34_6 := blk_frozen BK235.out 6))
             have n0_ : Aside0 (Kd.R k90 90 (((((((w31.setCell ⟨gb235, 0, none⟩ (.bool ((rd_T99 l0_0 x42_2).f0))).setCell ⟨gb235, 1, none⟩ (.int .i64 ((rd_T99 l0_0 x42_2).f1))).setCell ⟨gb235, 2, none⟩ (.int .i64 ((rd_T99 l0_0 x42_2).f2))).setCell ⟨gb235, 3, none⟩ (.int .i64 ((rd_T99 l0_0 x42_2).f3))).setCell ⟨gb235, 4, none⟩ (.int .i64 ((rd_T99 l0_0 x42_2).f4))).setCell ⟨gb235, 5, none⟩ (.int .i64 ((rd_T99 l0_0 x42_2).f5))).setCell ⟨gb235, 6, none⟩ (.int .i64 ((rd_T99 l0_0 x42_2).f6))) w.heap.size (fun _ => True) v228 t227) := ⟨by (with_reducible repeat (first | apply Kd.R_alloc | apply Kd.R_drewN | apply Kd.R_drew)); exact Kd.R_mono (Kd.R_far (p := ⟨gb235, 6, none⟩) (Kd.R_far (p := ⟨gb235, 5, none⟩) (Kd.R_far (p := ⟨gb235, 4, none⟩) (Kd.R_far (p := ⟨gb235, 3, none⟩) (Kd.R_far (p := ⟨gb235, 2, none⟩) (Kd.R_far (p := ⟨gb235, 1, none⟩) (Kd.R_far (p := ⟨gb235, 0, none⟩) (Kd.R_types HO_6.out BK235.out (by decide)) (fun _ hk => hk.2) (.bool ((rd_T99 l0_0 x42_2).f0))) (fun _ hk => hk.2) (.int .i64 ((rd_T99 l0_0 x42_2).f1))) (fun _ hk => hk.2) (.int .i64 ((rd_T99 l0_0 x42_2).f2))) (fun _ hk => hk.2) (.int .i64 ((rd_T99 l0_0 x42_2).f3))) (fun _ hk => hk.2) (.int .i64 ((rd_T99 l0_0 x42_2).f4))) (fun _ hk => hk.2) (.int .i64 ((rd_T99 l0_0 x42_2).f5))) (fun _ hk => hk.2) (.int .i64 ((rd_T99 l0_0 x42_2).f6))) (fun _ hk => trivial)⟩
             have n1_ : Aside0 (Kd.R (Kd.int .i64) 3 (((((((w31.setCell ⟨gb235, 0, none⟩ (.bool ((rd_T99 l0_0 x42_2).f0))).setCell ⟨gb235, 1, none⟩ (.int .i64 ((rd_T99 l0_0 x42_2).f1))).setCell ⟨gb235, 2, none⟩ (.int .i64 ((rd_T99 l0_0 x42_2).f2))).setCell ⟨gb235, 3, none⟩ (.int .i64 ((rd_T99 l0_0 x42_2).f3))).setCell ⟨gb235, 4, none⟩ (.int .i64 ((rd_T99 l0_0 x42_2).f4))).setCell ⟨gb235, 5, none⟩ (.int .i64 ((rd_T99 l0_0 x42_2).f5))).setCell ⟨gb235, 6, none⟩ (.int .i64 ((rd_T99 l0_0 x42_2).f6))) w.heap.size (fun _ => True) v231 t230) := ⟨by (with_reducible repeat (first | apply Kd.R_alloc | apply Kd.R_drewN | apply Kd.R_drew)); exact Kd.R_mono (Kd.R_far (p := ⟨gb235, 6, none⟩) (Kd.R_far (p := ⟨gb235, 5, none⟩) (Kd.R_far (p := ⟨gb235, 4, none⟩) (Kd.R_far (p := ⟨gb235, 3, none⟩) (Kd.R_far (p := ⟨gb235, 2, none⟩) (Kd.R_far (p := ⟨gb235, 1, none⟩) (Kd.R_far (p := ⟨gb235, 0, none⟩) (Kd.R_types HO_7.out BK235.out (by decide)) (fun _ hk => hk.2) (.bool ((rd_T99 l0_0 x42_2).f0))) (fun _ hk => hk.2) (.int .i64 ((rd_T99 l0_0 x42_2).f1))) (fun _ hk => hk.2) (.int .i64 ((rd_T99 l0_0 x42_2).f2))) (fun _ hk => hk.2) (.int .i64 ((rd_T99 l0_0 x42_2).f3))) (fun _ hk => hk.2) (.int .i64 ((rd_T99 l0_0 x42_2).f4))) (fun _ hk => hk.2) (.int .i64 ((rd_T99 l0_0 x42_2).f5))) (fun _ hk => hk.2) (.int .i64 ((rd_T99 l0_0 x42_2).f6))) (fun _ hk => trivial)⟩
             have n2_ : Aside0 ((((((((w31.setCell ⟨gb235, 0, none⟩ (.bool ((rd_T99 l0_0 x42_2).f0))).setCell ⟨gb235, 1, none⟩ (.int .i64 ((rd_T99 l0_0 x42_2).f1))).setCell ⟨gb235, 2, none⟩ (.int .i64 ((rd_T99 l0_0 x42_2).f2))).setCell ⟨gb235, 3, none⟩ (.int .i64 ((rd_T99 l0_0 x42_2).f3))).setCell ⟨gb235, 4, none⟩ (.int .i64 ((rd_T99 l0_0 x42_2).f4))).setCell ⟨gb235, 5, none⟩ (.int .i64 ((rd_T99 l0_0 x42_2).f5))).setCell ⟨gb235, 6, none⟩ (.int .i64 ((rd_T99 l0_0 x42_2).f6))).heap[gb223]? = some (.cells #[.slice (some ad225) l0_0.length c0_0] 29 (0, 0))) := ⟨by (with_reducible repeat (first | refine blk_drewN ?_ _ | refine blk_drew ?_ | refine blk_alloc ?_ _)); refine blk_far ?_ NB223_235.out _; (with_reducible repeat (first | refine blk_drewN ?_ _ | refine blk_drew ?_ | refine blk_alloc ?_ _)); refine blk_far ?_ NB223_235.out _; (with_reducible repeat (first | refine blk_drewN ?_ _ | refine blk_drew ?_ | refine blk_alloc ?_ _)); refine blk_far ?_ NB223_235.out _; (with_reducible repeat (first | refine blk_drewN ?_ _ | refine blk_drew ?_ | refine blk_alloc ?_ _)); refine blk_far ?_ NB223_235.out _; (with_reducible repeat (first | refine blk_drewN ?_ _ | refine blk_drew ?_ | refine blk_alloc ?_ _)); refine blk_far ?_ NB223_235.out _; (with_reducible repeat (first | refine blk_drewN ?_ _ | refine blk_drew ?_ | refine blk_alloc ?_ _)); refine blk_far ?_ NB223_235.out _; (with_reducible repeat (first | refine blk_drewN ?_ _ | refine blk_drew ?_ | refine blk_alloc ?_ _)); refine blk_far ?_ NB223_235.out _; (with_reducible repeat (first | refine blk_drewN ?_ _ | refine blk_drew ?_ | refine blk_alloc ?_ _)); exact BK223.out⟩
             have n3_ : Aside0 ((((((((w31.setCell ⟨gb235, 0, none⟩ (.bool ((rd_T99 l0_0 x42_2).f0))).setCell ⟨gb235, 1, none⟩ (.int .i64 ((rd_T99 l0_0 x42_2).f1))).setCell ⟨gb235, 2, none⟩ (.int .i64 ((rd_T99 l0_0 x42_2).f2))).setCell ⟨gb235, 3, none⟩ (.int .i64 ((rd_T99 l0_0 x42_2).f3))).setCell ⟨gb235, 4, none⟩ (.int .i64 ((rd_T99 l0_0 x42_2).f4))).setCell ⟨gb235, 5, none⟩ (.int .i64 ((rd_T99 l0_0 x42_2).f5))).setCell ⟨gb235, 6, none⟩ (.int .i64 ((rd_T99 l0_0 x42_2).f6))).heap[gb226]? = some (.cells #[.bool ((rd_T99 l0_0 0).f0), .int .i64 ((rd_T99 l0_0 0).f1), .int .i64 ((rd_T99 l0_0 0).f2), .int .i64 ((rd_T99 l0_0 0).f3), .int .i64 ((rd_T99 l0_0 0).f4), .int .i64 ((rd_T99 l0_0 0).f5), .int .i64 ((rd_T99 l0_0 0).f6)] 99 (0, 0))) := ⟨by (with_reducible repeat (first | refine blk_drewN ?_ _ | refine blk_drew ?_ | refine blk_alloc ?_ _)); refine blk_far ?_ NB226_235.out _; (with_reducible repeat (first | refine blk_drewN ?_ _ | refine blk_drew ?_ | refine blk_alloc ?_ _)); refine blk_far ?_ NB226_235.out _; (with_reducible repeat (first | refine blk_drewN ?_ _ | refine blk_drew ?_ | refine blk_alloc ?_ _)); refine blk_far ?_ NB226_235.out _; (with_reducible repeat (first | refine blk_drewN ?_ _ | refine blk_drew ?_ | refine blk_alloc ?_ _)); refine blk_far ?_ NB226_235.out _; (with_reducible repeat (first | refine blk_drewN ?_ _ | refine blk_drew ?_ | refine blk_alloc ?_ _)); refine blk_far ?_ NB226_235.out _; (with_reducible repeat (first | refine blk_drewN ?_ _ | refine blk_drew ?_ | refine blk_alloc ?_ _)); refine blk_far ?_ NB226_235.out _; (with_reducible repeat (first | refine blk_drewN ?_ _ | refine blk_drew ?_ | refine blk_alloc ?_ _)); refine blk_far ?_ NB226_235.out _; (with_reducible repeat (first | refine blk_drewN ?_ _ | refine blk_drew ?_ | refine blk_alloc ?_ _)); exact BK226.out⟩
             have n4_ : Aside0 ((((((((w31.setCell ⟨gb235, 0, none⟩ (.bool ((rd_T99 l0_0 x42_2).f0))).setCell ⟨gb235, 1, none⟩ (.int .i64 ((rd_T99 l0_0 x42_2).f1))).setCell ⟨gb235, 2, none⟩ (.int .i64 ((rd_T99 l0_0 x42_2).f2))).setCell ⟨gb235, 3, none⟩ (.int .i64 ((rd_T99 l0_0 x42_2).f3))).setCell ⟨gb235, 4, none⟩ (.int .i64 ((rd_T99 l0_0 x42_2).f4))).setCell ⟨gb235, 5, none⟩ (.int .i64 ((rd_T99 l0_0 x42_2).f5))).setCell ⟨gb235, 6, none⟩ (.int .i64 ((rd_T99 l0_0 x42_2).f6))).heap[gb235]? = some (.cells #[.bool ((rd_T99 l0_0 x42_2).f0), .int .i64 ((rd_T99 l0_0 x42_2).f1), .int .i64 ((rd_T99 l0_0 x42_2).f2), .int .i64 ((rd_T99 l0_0 x42_2).f3), .int .i64 ((rd_T99 l0_0 x42_2).f4), .int .i64 ((rd_T99 l0_0 x42_2).f5), .int .i64 ((rd_T99 l0_0 x42_2).f6)] 99 (0, 0))) := ⟨by (with_reducible repeat (first | refine blk_drewN ?_ _ | refine blk_drew ?_ | refine blk_alloc ?_ _)); refine blk_put (cs := #[.bool ((rd_T99 l0_0 x42_2).f0), .int .i64 ((rd_T99 l0_0 x42_2).f1), .int .i64 ((rd_T99 l0_0 x42_2).f2), .int .i64 ((rd_T99 l0_0 x42_2).f3), .int .i64 ((rd_T99 l0_0 x42_2).f4), .int .i64 ((rd_T99 l0_0 x42_2).f5), .int .i64 0]) ?_ 6 _ rfl; (with_reducible repeat (first | refine blk_drewN ?_ _ | refine blk_drew ?_ | refine blk_alloc ?_ _)); refine blk_put (cs := #[.bool ((rd_T99 l0_0 x42_2).f0), .int .i64 ((rd_T99 l0_0 x42_2).f1), .int .i64 ((rd_T99 l0_0 x42_2).f2), .int .i64 ((rd_T99 l0_0 x42_2).f3), .int .i64 ((rd_T99 l0_0 x42_2).f4), .int .i64 0, .int .i64 0]) ?_ 5 _ rfl; (with_reducible repeat (first | refine blk_drewN ?_ _ | refine blk_drew ?_ | refine blk_alloc ?_ _)); refine blk_put (cs := #[.bool ((rd_T99 l0_0 x42_2).f0), .int .i64 ((rd_T99 l0_0 x42_2).f1), .int .i64 ((rd_T99 l0_0 x42_2).f2), .int .i64 ((rd_T99 l0_0 x42_2).f3), .int .i64 0, .int .i64 0, .int .i64 0]) ?_ 4 _ rfl; (with_reducible repeat (first | refine blk_drewN ?_ _ | refine blk_drew ?_ | refine blk_alloc ?_ _)); refine blk_put (cs := #[.bool ((rd_T99 l0_0 x42_2).f0), .int .i64 ((rd_T99 l0_0 x42_2).f1), .int .i64 ((rd_T99 l0_0 x42_2).f2), .int .i64 0, .int .i64 0, .int .i64 0, .int .i64 0]) ?_ 3 _ rfl; (with_reducible repeat (first | refine blk_drewN ?_ _ | refine blk_drew ?_ | refine blk_alloc ?_ _)); refine blk_put (cs := #[.bool ((rd_T99 l0_0 x42_2).f0), .int .i64 ((rd_T99 l0_0 x42_2).f1), .int .i64 0, .int .i64 0, .int .i64 0, .int .i64 0, .int .i64 0]) ?_ 2 _ rfl; (with_reducible repeat (first | refine blk_drewN ?_ _ | refine blk_drew ?_ | refine blk_alloc ?_ _)); refine blk_put (cs := #[.bool ((rd_T99 l0_0 x42_2).f0), .int .i64 0, .int .i64 0, .int .i64 0, .int .i64 0, .int .i64 0, .int .i64 0]) ?_ 1 _ rfl; (with_reducible repeat (first | refine blk_drewN ?_ _ | refine blk_drew ?_ | refine blk_alloc ?_ _)); refine blk_put (cs := #[.bool false, .int .i64 0, .int .i64 0, .int .i64 0, .int .i64 0, .int .i64 0, .int .i64 0]) ?_ 0 _ rfl; (with_reducible repeat (first | refine blk_drewN ?_ _ | refine blk_drew ?_ | refine blk_alloc ?_ _)); exact BK235.out⟩
             have n5_ : Aside0 (Below w.heap.size w (((((((w31.setCell ⟨gb235, 0, none⟩ (.bool ((rd_T99 l0_0 x42_2).f0))).setCell ⟨gb235, 1, none⟩ (.int .i64 ((rd_T99 l0_0 x42_2).f1))).setCell ⟨gb235, 2, none⟩ (.int .i64 ((rd_T99 l0_0 x42_2).f2))).setCell ⟨gb235, 3, none⟩ (.int .i64 ((rd_T99 l0_0 x42_2).f3))).setCell ⟨gb235, 4, none⟩ (.int .i64 ((rd_T99 l0_0 x42_2).f4))).setCell ⟨gb235, 5, none⟩ (.int .i64 ((rd_T99 l0_0 x42_2).f5))).setCell ⟨gb235, 6, none⟩ (.int .i64 ((rd_T99 l0_0 x42_2).f6)))) := ⟨by repeat (first | (with_reducible first | exact HB.out | apply below_alloc | apply pw_below_drewN | apply below_drew1 | refine below_set ?_ GE223.out | refine below_set ?_ GE226.out | refine below_set ?_ GE235.out) | exact HB.out)⟩
             (try clear HO_6)
             (try clear HO_7)
             (try clear BK223)
             (try clear BK226)
             (try clear BK235)
             (try clear HB)
             generalize (((((((w31.setCell ⟨gb235, 0, none⟩ (.bool ((rd_T99 l0_0 x42_2).f0))).setCell ⟨gb235, 1, none⟩ (.int .i64 ((rd_T99 l0_0 x42_2).f1))).setCell ⟨gb235, 2, none⟩ (.int .i64 ((rd_T99 l0_0 x42_2).f2))).setCell ⟨gb235, 3, none⟩ (.int .i64 ((rd_T99 l0_0 x42_2).f3))).setCell ⟨gb235, 4, none⟩ (.int .i64 ((rd_T99 l0_0 x42_2).f4))).setCell ⟨gb235, 5, none⟩ (.int .i64 ((rd_T99 l0_0 x42_2).f5))).setCell ⟨gb235, 6, none⟩ (.int .i64 ((rd_T99 l0_0 x42_2).f6))) = w35 at n0_ n1_ n2_ n3_ n4_ n5_ ⊢
             have HO_6 := n0_
             have HO_7 := n1_
             have BK223 := n2_
             have BK226 := n3_
             have BK235 := n4_
             have HB := n5_
             clear n0_ n1_ n2_ n3_ n4_ n5_
             have n0_ := Aside0.mk (Kd.R_drew HO_6.out)
             have n1_ := Aside0.mk (Kd.R_drew HO_7.out)
             have n2_ := Aside0.mk (blk_drew BK223.out)
             have n3_ := Aside0.mk (blk_drew BK226.out)
             have n4_ := Aside0.mk (blk_drew BK235.out)
             have n5_ := Aside0.mk (below_drew1 HB.out)
             clear HO_6
             clear HO_7
             clear BK223
             clear BK226
             clear BK235
             clear HB
             have HO_6 := n0_
             have HO_7 := n1_
             have BK223 := n2_
             have BK226 := n3_
             have BK235 := n4_
             have HB := n5_
             clear n0_ n1_ n2_ n3_ n4_ n5_
             obtain ⟨Ao37, co37, eo37⟩ := Kd.R_slice HO_7.out
             (first | subst eo37 | (injection eo37 with f1_ f2_ f3_; have f4_ := f1_.symm; have f5_ := f3_.symm; clear f1_ f2_ f3_; subst f4_; subst f5_))
             refine start_ (n := 12) (S := fun w' => True) (ds := []) (ba_ 12 0) (by kernel_rfl) rfl rfl trivial (fun hHeld => ?_); refine with_tabW impl_Dom_walked.tab10 impl_Dom_walked.bits10 (fun HT_ HW_ => ?_)
             generalize w35.drew = w36 at HO_6 HO_7 BK223 BK226 BK235 HB hHeld ⊢
             refine pu_ 0 (some 47) (ba_ 12 1) rfl rfl (any_of HT_.out (by kernel_rfl)) ?_
             refine pu_ 1 (some 48) (ba_ 12 3) rfl rfl (any_of HT_.out (by kernel_rfl)) ?_
             refine pu_ 2 (some 49) (ba_ 12 7) rfl rfl (any_of HT_.out (by kernel_rfl)) ?_
             refine pu_ 3 (some 50) (ba_ 12 15) rfl rfl (any_of HT_.out (by kernel_rfl)) ?_
             refine one_ (i := 4) (N := some 51) (ba_ 12 31) rfl rfl (one_of HT_.out (by kernel_rfl)) (by decide) (fun K hK => ?_)
             refine goes_ Try.func119 (by kernel_rfl) rfl #[.slice Ao37 t230.length co37, .int .i64 x42_2] (by rfl) rfl rfl (by (try simp only [List.map_toArray, List.map_cons, List.map_nil]); first | done | rfl | (simp only [List.length_drop, List.length_take]; rfl)) ?_
             with_reducible refine (slices_Contains_int_int.calls k2 _ _ t230 x42_2 true _ ?side1 ?side2 A29.out).mono ?_
             (case side1 => repeat (first | exact (Kd.R_reads' HO_7.out).2.2 | (with_reducible refine Kd.C_alloc ?_ _) | (with_reducible refine Kd.C_drewN ?_ _) | (with_reducible refine Kd.C_drew ?_)))
             (case side2 => exact (Kd.R_reads' HO_7.out).2.1)
             rintro e w' ⟨rfl, ⟨nd, rfl⟩⟩
             refine ⟨_, rfl, ?_⟩
             refine hK.out _ _ trivial (fun hHeld => ?_)
             clear hK K
             refine norm_ (a' := ?_) ?_ ?_
             rotate_left
             ·show Act.put _ (some 51) _ = _
              simp only [Act.put, List.setIfInBounds_toArray, List.set_cons_zero, List.set_cons_succ, i64_w, i32_w]
              rfl
             refine pu_ 5 (some 52) (ba_ 12 63) rfl rfl (any_of HT_.out (by kernel_rfl)) ?_
             refine pu_ 6 (some 53) (ba_ 12 127) rfl rfl (any_of HT_.out (by kernel_rfl)) ?_
             refine pu_ 7 (some 54) (ba_ 12 255) rfl rfl (any_of HT_.out (by kernel_rfl)) ?_
             refine pn_ 8 (some 55) (ba_ 12 511) rfl rfl (any_of HT_.out (by kernel_rfl)) ?_
             refine pn_ 9 (some 56) (ba_ 12 1023) rfl rfl (any_of HT_.out (by kernel_rfl)) ?_
             refine pn_ 10 (some 57) (ba_ 12 2047) rfl rfl (any_of HT_.out (by kernel_rfl)) ?_
             refine pu_ 11 (some 58) (ba_ 12 4095) rfl rfl (any_of HT_.out (by kernel_rfl)) ?_
             refine done_ (done_of HT_.out (by kernel_rfl)) ?_
             try go_wp2
             go_roundg k2
             case measure => have := HJ4.out; have := HK2.out; omega
             case rel => exact ⟨(true), (wrap64 (x42_2 + 1)), (by first | rfl | (simp; done) | (simp [*]; done)), (by first | rfl | (simp; done) | (simp [*]; done)), H', ⟨by have := HJ4.out; have := HK2.out; omega⟩, ⟨by (with_reducible repeat (first | apply Kd.R_alloc | apply Kd.R_drewN | apply Kd.R_drew)); exact HO_6.out⟩, ⟨by (with_reducible repeat (first | apply Kd.R_alloc | apply Kd.R_drewN | apply Kd.R_drew)); exact HO_7.out⟩, ⟨by (with_reducible repeat (first | refine blk_drewN ?_ _ | refine blk_drew ?_ | refine blk_alloc ?_ _)); exact BK223.out⟩, ⟨by (with_reducible repeat (first | refine blk_drewN ?_ _ | refine blk_drew ?_ | refine blk_alloc ?_ _)); exact BK226.out⟩, ⟨by repeat (first | (with_reducible first | exact HB.out | apply below_alloc | apply pw_below_drewN | apply below_drew1 | refine below_set ?_ GE223.out | refine below_set ?_ GE226.out | refine below_set ?_ GE235.out) | exact HB.out)⟩⟩
            ·replace c30 := Bool.eq_false_iff.mpr c30
             subst c30
             have H1 : ((impl_unused.f).bind fun bt237 => (if (!(((rd_T99 l0_0 x42_2).f0) == bt237.1) || (!(((rd_T99 l0_0 x42_2).f1) == bt237.2.1) || (!(((rd_T99 l0_0 x42_2).f2) == bt237.2.2.1) || (!(((rd_T99 l0_0 x42_2).f3) == bt237.2.2.2.1) || (!(((rd_T99 l0_0 x42_2).f4) == bt237.2.2.2.2.1) || (!(((rd_T99 l0_0 x42_2).f5) == bt237.2.2.2.2.2.1) || (!(((rd_T99 l0_0 x42_2).f6) == bt237.2.2.2.2.2.2)))))))) = true then (impl_Dom_walked.l0 k2 t227 t230 false l0_0 (l0_0.length : Int) (wrap64 (x42_2 + 1))) else (impl_Dom_walked.l0 k2 t227 t230 true l0_0 (l0_0.length : Int) (wrap64 (x42_2 + 1))))) = some (r1, r2, r3) := by rw [if_neg (show ¬ (false = true) by decide)] at H; exact H
             clear H
             have H := H1
             clear H1
             replace H := Option.bind_eq_some_iff.mp H
             obtain ⟨⟨t237, t238, t239, t240, t241, t242, t243⟩, A380, H⟩ := H
             replace H : (if (!(((rd_T99 l0_0 x42_2).f0) == t237) || (!(((rd_T99 l0_0 x42_2).f1) == t238) || (!(((rd_T99 l0_0 x42_2).f2) == t239) || (!(((rd_T99 l0_0 x42_2).f3) == t240) || (!(((rd_T99 l0_0 x42_2).f4) == t241) || (!(((rd_T99 l0_0 x42_2).f5) == t242) || (!(((rd_T99 l0_0 x42_2).f6) == t243)))))))) = true then (impl_Dom_walked.l0 k2 t227 t230 false l0_0 (l0_0.length : Int) (wrap64 (x42_2 + 1))) else (impl_Dom_walked.l0 k2 t227 t230 true l0_0 (l0_0.length : Int) (wrap64 (x42_2 + 1)))) = some (r1, r2, r3) := H
             have A38 := Aside0.mk A380
             clear A380
             by_cases c39 : (!(((rd_T99 l0_0 x42_2).f0) == t237) || (!(((rd_T99 l0_0 x42_2).f1) == t238) || (!(((rd_T99 l0_0 x42_2).f2) == t239) || (!(((rd_T99 l0_0 x42_2).f3) == t240) || (!(((rd_T99 l0_0 x42_2).f4) == t241) || (!(((rd_T99 l0_0 x42_2).f5) == t242) || (!(((rd_T99 l0_0 x42_2).f6) == t243)))))))) = true
             ·rw [if_pos c39] at H
              have c39b0 : (!(((rd_T99 l0_0 x42_2).f0) == t237) || (!(((rd_T99 l0_0 x42_2).f1) == t238) || (!(((rd_T99 l0_0 x42_2).f2) == t239) || (!(((rd_T99 l0_0 x42_2).f3) == t240) || (!(((rd_T99 l0_0 x42_2).f4) == t241) || (!(((rd_T99 l0_0 x42_2).f5) == t242) || (!(((rd_T99 l0_0 x42_2).f6) == t243)))))))) = true := c39
              clear c39
              have H' := Aside0.mk H
              clear H
              have p234 : 0 ≤ (x42_2 : Int) := of_decide_eq_true (by first | (with_reducible assumption) | assumption)
              have q234 : x42_2 < (l0_0.length : Int) := of_decide_eq_true (by first | (with_reducible assumption) | assumption)
              obtain ⟨ad234, e234, hx234_0, hx234_1, hx234_2, hx234_3, hx234_4, hx234_5, hx234_6⟩ := at_T99 HR0_0.out x42_2 p234 q234
              obtain rfl : ad225 = ad234 := (by injection e234)
              replace hx234_0 := (HB.out.cell (World.block_lt_of_cell? w _ hx234_0)).trans hx234_0
              replace hx234_1 := (HB.out.cell (World.block_lt_of_cell? w _ hx234_1)).trans hx234_1
              replace hx234_2 := (HB.out.cell (World.block_lt_of_cell? w _ hx234_2)).trans hx234_2
              replace hx234_3 := (HB.out.cell (World.block_lt_of_cell? w _ hx234_3)).trans hx234_3
              replace hx234_4 := (HB.out.cell (World.block_lt_of_cell? w _ hx234_4)).trans hx234_4
              replace hx234_5 := (HB.out.cell (World.block_lt_of_cell? w _ hx234_5)).trans hx234_5
              replace hx234_6 := (HB.out.cell (World.block_lt_of_cell? w _ hx234_6)).trans hx234_6
              replace p234 := eq_true p234
              replace q234 := eq_true q234
              try go_wp2_with (first | ((with_reducible refine gate_dst (N := 10) rfl ?_); refine box_event ?hg (N := 10) ?hd (cs := #[.bool false, .int .i64 0, .int .i64 0, .int .i64 0, .int .i64 0, .int .i64 0, .int .i64 0]) (t := 99) ?hr ?_; (case hd => rfl); (case hg => rfl); (case hr => first | (go_simp; done) | (go_simp; rfl)); intro gb235 hg w40 hbox hb; have n0_ := Aside0.mk (Kd.R_below (by (with_reducible repeat (first | apply Kd.R_alloc | apply Kd.R_drewN | apply Kd.R_drew)); exact HO_6.out) hb); have n1_ := Aside0.mk (Kd.R_below (by (with_reducible repeat (first | apply Kd.R_alloc | apply Kd.R_drewN | apply Kd.R_drew)); exact HO_7.out) hb); have n2_ := Aside0.mk (blk_below (g := gb223) (o := .cells #[.slice (some ad225) l0_0.length c0_0] 29 (0, 0)) (by (with_reducible repeat (first | refine blk_drewN ?_ _ | refine blk_drew ?_ | refine blk_alloc ?_ _)); exact BK223.out) hb); have n3_ := Aside0.mk (blk_below (g := gb226) (o := .cells #[.bool ((rd_T99 l0_0 0).f0), .int .i64 ((rd_T99 l0_0 0).f1), .int .i64 ((rd_T99 l0_0 0).f2), .int .i64 ((rd_T99 l0_0 0).f3), .int .i64 ((rd_T99 l0_0 0).f4), .int .i64 ((rd_T99 l0_0 0).f5), .int .i64 ((rd_T99 l0_0 0).f6)] 99 (0, 0)) (by (with_reducible repeat (first | refine blk_drewN ?_ _ | refine blk_drew ?_ | refine blk_alloc ?_ _)); exact BK226.out) hb); have n4_ := Aside0.mk (below_step (by repeat (first | (with_reducible first | exact HB.out | apply below_alloc | apply pw_below_drewN | apply below_drew1 | refine below_set ?_ GE223.out | refine below_set ?_ GE226.out) | exact HB.out)) hb); have n5_ := Aside0.mk (hbox); have n6_ := Aside0.mk ((by rw [hg]; exact (below_size (by repeat (first | (with_reducible first | exact HB.out | apply below_alloc | apply pw_below_drewN | apply below_drew1 | refine below_set ?_ GE223.out | refine below_set ?_ GE226.out) | exact HB.out))) : w.heap.size ≤ gb235)); have n7_ := Aside0.mk ((by rw [hg]; exact (below_size (by repeat (first | (with_reducible first | exact HB.out | apply below_alloc | apply pw_below_drewN | apply below_drew1 | refine below_set ?_ GE223.out | refine below_set ?_ GE226.out) | exact HB.out))) : w.heap.size ≤ gb235)); have n8_ := Aside0.mk ((by rw [hg]; exact Nat.ne_of_lt (blk_lt (g := gb223) (o := .cells #[.slice (some ad225) l0_0.length c0_0] 29 (0, 0)) (by (with_reducible repeat (first | refine blk_drewN ?_ _ | refine blk_drew ?_ | refine blk_alloc ?_ _)); exact BK223.out)) : gb223 ≠ gb235)); have n9_ := Aside0.mk ((by rw [hg]; exact Nat.ne_of_gt (blk_lt (g := gb223) (o := .cells #[.slice (some ad225) l0_0.length c0_0] 29 (0, 0)) (by (with_reducible repeat (first | refine blk_drewN ?_ _ | refine blk_drew ?_ | refine blk_alloc ?_ _)); exact BK223.out)) : gb235 ≠ gb223)); have n10_ := Aside0.mk ((by rw [hg]; exact Nat.ne_of_lt (blk_lt (g := gb226) (o := .cells #[.bool ((rd_T99 l0_0 0).f0), .int .i64 ((rd_T99 l0_0 0).f1), .int .i64 ((rd_T99 l0_0 0).f2), .int .i64 ((rd_T99 l0_0 0).f3), .int .i64 ((rd_T99 l0_0 0).f4), .int .i64 ((rd_T99 l0_0 0).f5), .int .i64 ((rd_T99 l0_0 0).f6)] 99 (0, 0)) (by (with_reducible repeat (first | refine blk_drewN ?_ _ | refine blk_drew ?_ | refine blk_alloc ?_ _)); exact BK226.out)) : gb226 ≠ gb235)); have n11_ := Aside0.mk ((by rw [hg]; exact Nat.ne_of_gt (blk_lt (g := gb226) (o := .cells #[.bool ((rd_T99 l0_0 0).f0), .int .i64 ((rd_T99 l0_0 0).f1), .int .i64 ((rd_T99 l0_0 0).f2), .int .i64 ((rd_T99 l0_0 0).f3), .int .i64 ((rd_T99 l0_0 0).f4), .int .i64 ((rd_T99 l0_0 0).f5), .int .i64 ((rd_T99 l0_0 0).f6)] 99 (0, 0)) (by (with_reducible repeat (first | refine blk_drewN ?_ _ | refine blk_drew ?_ | refine blk_alloc ?_ _)); exact BK226.out)) : gb235 ≠ gb226)); clear HO_6; clear HO_7; clear BK223; clear BK226; clear HB; have HO_6 := n0_; have HO_7 := n1_; have BK223 := n2_; have BK226 := n3_; have HB := n4_; have BK235 := n5_; have GW235 := n6_; have GE235 := n7_; have NB223_235 := n8_; have NB235_223 := n9_; have NB226_235 := n10_; have NB235_226 := n11_; clear n0_ n1_ n2_ n3_ n4_ n5_ n6_ n7_ n8_ n9_ n10_ n11_; clear hb hbox hg; have hnb41 := NB235_223.out; have hnc41 := NB223_235.out; have hnb42 := NB235_226.out; have hnc42 := NB226_235.out; have hcz43_0 : w40.cell? ⟨gb235, 0, none⟩ = some (.bool false) := (blk_cell BK235.out 0).trans rfl; have hcz43_1 : w40.cell? ⟨gb235, 1, none⟩ = some (.int .i64 0) := (blk_cell BK235.out 1).trans rfl; have hcz43_2 : w40.cell? ⟨gb235, 2, none⟩ = some (.int .i64 0) := (blk_cell BK235.out 2).trans rfl; have hcz43_3 : w40.cell? ⟨gb235, 3, none⟩ = some (.int .i64 0) := (blk_cell BK235.out 3).trans rfl; have hcz43_4 : w40.cell? ⟨gb235, 4, none⟩ = some (.int .i64 0) := (blk_cell BK235.out 4).trans rfl; have hcz43_5 : w40.cell? ⟨gb235, 5, none⟩ = some (.int .i64 0) := (blk_cell BK235.out 5).trans rfl; have hcz43_6 : w40.cell? ⟨gb235, 6, none⟩ = some (.int .i64 0) := (blk_cell BK235.out 6).trans rfl; have hfz43_0 := blk_frozen BK235.out 0; have hfz43_1 := blk_frozen BK235.out 1; have hfz43_2 := blk_frozen BK235.out 2; have hfz43_3 := blk_frozen BK235.out 3; have hfz43_4 := blk_frozen BK235.out 4; have hfz43_5 := blk_frozen BK235.out 5; have hfz43_6 := blk_frozen BK235.out 6))
              have n0_ : Aside0 (Kd.R k90 90 (((((((w40.setCell ⟨gb235, 0, none⟩ (.bool ((rd_T99 l0_0 x42_2).f0))).setCell ⟨gb235, 1, none⟩ (.int .i64 ((rd_T99 l0_0 x42_2).f1))).setCell ⟨gb235, 2, none⟩ (.int .i64 ((rd_T99 l0_0 x42_2).f2))).setCell ⟨gb235, 3, none⟩ (.int .i64 ((rd_T99 l0_0 x42_2).f3))).setCell ⟨gb235, 4, none⟩ (.int .i64 ((rd_T99 l0_0 x42_2).f4))).setCell ⟨gb235, 5, none⟩ (.int .i64 ((rd_T99 l0_0 x42_2).f5))).setCell ⟨gb235, 6, none⟩ (.int .i64 ((rd_T99 l0_0 x42_2).f6))) w.heap.size (fun _ => True) v228 t227) := ⟨by (with_reducible repeat (first | apply Kd.R_alloc | apply Kd.R_drewN | apply Kd.R_drew)); exact Kd.R_mono (Kd.R_far (p := ⟨gb235, 6, none⟩) (Kd.R_far (p := ⟨gb235, 5, none⟩) (Kd.R_far (p := ⟨gb235, 4, none⟩) (Kd.R_far (p := ⟨gb235, 3, none⟩) (Kd.R_far (p := ⟨gb235, 2, none⟩) (Kd.R_far (p := ⟨gb235, 1, none⟩) (Kd.R_far (p := ⟨gb235, 0, none⟩) (Kd.R_types HO_6.out BK235.out (by decide)) (fun _ hk => hk.2) (.bool ((rd_T99 l0_0 x42_2).f0))) (fun _ hk => hk.2) (.int .i64 ((rd_T99 l0_0 x42_2).f1))) (fun _ hk => hk.2) (.int .i64 ((rd_T99 l0_0 x42_2).f2))) (fun _ hk => hk.2) (.int .i64 ((rd_T99 l0_0 x42_2).f3))) (fun _ hk => hk.2) (.int .i64 ((rd_T99 l0_0 x42_2).f4))) (fun _ hk => hk.2) (.int .i64 ((rd_T99 l0_0 x42_2).f5))) (fun _ hk => hk.2) (.int .i64 ((rd_T99 l0_0 x42_2).f6))) (fun _ hk => trivial)⟩
              have n1_ : Aside0 (Kd.R (Kd.int .i64) 3 (((((((w40.setCell ⟨gb235, 0, none⟩ (.bool ((rd_T99 l0_0 x42_2).f0))).setCell ⟨gb235, 1, none⟩ (.int .i64 ((rd_T99 l0_0 x42_2).f1))).setCell ⟨gb235, 2, none⟩ (.int .i64 ((rd_T99 l0_0 x42_2).f2))).setCell ⟨gb235, 3, none⟩ (.int .i64 ((rd_T99 l0_0 x42_2).f3))).setCell ⟨gb235, 4, none⟩ (.int .i64 ((rd_T99 l0_0 x42_2).f4))).setCell ⟨gb235, 5, none⟩ (.int .i64 ((rd_T99 l0_0 x42_2).f5))).setCell ⟨gb235, 6, none⟩ (.int .i64 ((rd_T99 l0_0 x42_2).f6))) w.heap.size (fun _ => True) v231 t230) := ⟨by (with_reducible repeat (first | apply Kd.R_alloc | apply Kd.R_drewN | apply Kd.R_drew)); exact Kd.R_mono (Kd.R_far (p := ⟨gb235, 6, none⟩) (Kd.R_far (p := ⟨gb235, 5, none⟩) (Kd.R_far (p := ⟨gb235, 4, none⟩) (Kd.R_far (p := ⟨gb235, 3, none⟩) (Kd.R_far (p := ⟨gb235, 2, none⟩) (Kd.R_far (p := ⟨gb235, 1, none⟩) (Kd.R_far (p := ⟨gb235, 0, none⟩) (Kd.R_types HO_7.out BK235.out (by decide)) (fun _ hk => hk.2) (.bool ((rd_T99 l0_0 x42_2).f0))) (fun _ hk => hk.2) (.int .i64 ((rd_T99 l0_0 x42_2).f1))) (fun _ hk => hk.2) (.int .i64 ((rd_T99 l0_0 x42_2).f2))) (fun _ hk => hk.2) (.int .i64 ((rd_T99 l0_0 x42_2).f3))) (fun _ hk => hk.2) (.int .i64 ((rd_T99 l0_0 x42_2).f4))) (fun _ hk => hk.2) (.int .i64 ((rd_T99 l0_0 x42_2).f5))) (fun _ hk => hk.2) (.int .i64 ((rd_T99 l0_0 x42_2).f6))) (fun _ hk => trivial)⟩
              have n2_ : Aside0 ((((((((w40.setCell ⟨gb235, 0, none⟩ (.bool ((rd_T99 l0_0 x42_2).f0))).setCell ⟨gb235, 1, none⟩ (.int .i64 ((rd_T99 l0_0 x42_2).f1))).setCell ⟨gb235, 2, none⟩ (.int .i64 ((rd_T99 l0_0 x42_2).f2))).setCell ⟨gb235, 3, none⟩ (.int .i64 ((rd_T99 l0_0 x42_2).f3))).setCell ⟨gb235, 4, none⟩ (.int .i64 ((rd_T99 l0_0 x42_2).f4))).setCell ⟨gb235, 5, none⟩ (.int .i64 ((rd_T99 l0_0 x42_2).f5))).setCell ⟨gb235, 6, none⟩ (.int .i64 ((rd_T99 l0_0 x42_2).f6))).heap[gb223]? = some (.cells #[.slice (some ad225) l0_0.length c0_0] 29 (0, 0))) := ⟨by (with_reducible repeat (first | refine blk_drewN ?_ _ | refine blk_drew ?_ | refine blk_alloc ?_ _)); refine blk_far ?_ NB223_235.out _; (with_reducible repeat (first | refine blk_drewN ?_ _ | refine blk_drew ?_ | refine blk_alloc ?_ _)); refine blk_far ?_ NB223_235.out _; (with_reducible repeat (first | refine blk_drewN ?_ _ | refine blk_drew ?_ | refine blk_alloc ?_ _)); refine blk_far ?_ NB223_235.out _; (with_reducible repeat (first | refine blk_drewN ?_ _ | refine blk_drew ?_ | refine blk_alloc ?_ _)); refine blk_far ?_ NB223_235.out _; (with_reducible repeat (first | refine blk_drewN ?_ _ | refine blk_drew ?_ | refine blk_alloc ?_ _)); refine blk_far ?_ NB223_235.out _; (with_reducible repeat (first | refine blk_drewN ?_ _ | refine blk_drew ?_ | refine blk_alloc ?_ _)); refine blk_far ?_ NB223_235.out _; (with_reducible repeat (first | refine blk_drewN ?_ _ | refine blk_drew ?_ | refine blk_alloc ?_ _)); refine blk_far ?_ NB223_235.out _; (with_reducible repeat (first | refine blk_drewN ?_ _ | refine blk_drew ?_ | refine blk_alloc ?_ _)); exact BK223.out⟩
              have n3_ : Aside0 ((((((((w40.setCell ⟨gb235, 0, none⟩ (.bool ((rd_T99 l0_0 x42_2).f0))).setCell ⟨gb235, 1, none⟩ (.int .i64 ((rd_T99 l0_0 x42_2).f1))).setCell ⟨gb235, 2, none⟩ (.int .i64 ((rd_T99 l0_0 x42_2).f2))).setCell ⟨gb235, 3, none⟩ (.int .i64 ((rd_T99 l0_0 x42_2).f3))).setCell ⟨gb235, 4, none⟩ (.int .i64 ((rd_T99 l0_0 x42_2).f4))).setCell ⟨gb235, 5, none⟩ (.int .i64 ((rd_T99 l0_0 x42_2).f5))).setCell ⟨gb235, 6, none⟩ (.int .i64 ((rd_T99 l0_0 x42_2).f6))).heap[gb226]? = some (.cells #[.bool ((rd_T99 l0_0 0).f0), .int .i64 ((rd_T99 l0_0 0).f1), .int .i64 ((rd_T99 l0_0 0).f2), .int .i64 ((rd_T99 l0_0 0).f3), .int .i64 ((rd_T99 l0_0 0).f4), .int .i64 ((rd_T99 l0_0 0).f5), .int .i64 ((rd_T99 l0_0 0).f6)] 99 (0, 0))) := ⟨by (with_reducible repeat (first | refine blk_drewN ?_ _ | refine blk_drew ?_ | refine blk_alloc ?_ _)); refine blk_far ?_ NB226_235.out _; (with_reducible repeat (first | refine blk_drewN ?_ _ | refine blk_drew ?_ | refine blk_alloc ?_ _)); refine blk_far ?_ NB226_235.out _; (with_reducible repeat (first | refine blk_drewN ?_ _ | refine blk_drew ?_ | refine blk_alloc ?_ _)); refine blk_far ?_ NB226_235.out _; (with_reducible repeat (first | refine blk_drewN ?_ _ | refine blk_drew ?_ | refine blk_alloc ?_ _)); refine blk_far ?_ NB226_235.out _; (with_reducible repeat (first | refine blk_drewN ?_ _ | refine blk_drew ?_ | refine blk_alloc ?_ _)); refine blk_far ?_ NB226_235.out _; (with_reducible repeat (first | refine blk_drewN ?_ _ | refine blk_drew ?_ | refine blk_alloc ?_ _)); refine blk_far ?_ NB226_235.out _; (with_reducible repeat (first | refine blk_drewN ?_ _ | refine blk_drew ?_ | refine blk_alloc ?_ _)); refine blk_far ?_ NB226_235.out _; (with_reducible repeat (first | refine blk_drewN ?_ _ | refine blk_drew ?_ | refine blk_alloc ?_ _)); exact BK226.out⟩
              have n4_ : Aside0 ((((((((w40.setCell ⟨gb235, 0, none⟩ (.bool ((rd_T99 l0_0 x42_2).f0))).setCell ⟨gb235, 1, none⟩ (.int .i64 ((rd_T99 l0_0 x42_2).f1))).setCell ⟨gb235, 2, none⟩ (.int .i64 ((rd_T99 l0_0 x42_2).f2))).setCell ⟨gb235, 3, none⟩ (.int .i64 ((rd_T99 l0_0 x42_2).f3))).setCell ⟨gb235, 4, none⟩ (.int .i64 ((rd_T99 l0_0 x42_2).f4))).setCell ⟨gb235, 5, none⟩ (.int .i64 ((rd_T99 l0_0 x42_2).f5))).setCell ⟨gb235, 6, none⟩ (.int .i64 ((rd_T99 l0_0 x42_2).f6))).heap[gb235]? = some (.cells #[.bool ((rd_T99 l0_0 x42_2).f0), .int .i64 ((rd_T99 l0_0 x42_2).f1), .int .i64 ((rd_T99 l0_0 x42_2).f2), .int .i64 ((rd_T99 l0_0 x42_2).f3), .int .i64 ((rd_T99 l0_0 x42_2).f4), .int .i64 ((rd_T99 l0_0 x42_2).f5), .int .i64 ((rd_T99 l0_0 x42_2).f6)] 99 (0, 0))) := ⟨by (with_reducible repeat (first | refine blk_drewN ?_ _ | refine blk_drew ?_ | refine blk_alloc ?_ _)); refine blk_put (cs := #[.bool ((rd_T99 l0_0 x42_2).f0), .int .i64 ((rd_T99 l0_0 x42_2).f1), .int .i64 ((rd_T99 l0_0 x42_2).f2), .int .i64 ((rd_T99 l0_0 x42_2).f3), .int .i64 ((rd_T99 l0_0 x42_2).f4), .int .i64 ((rd_T99 l0_0 x42_2).f5), .int .i64 0]) ?_ 6 _ rfl; (with_reducible repeat (first | refine blk_drewN ?_ _ | refine blk_drew ?_ | refine blk_alloc ?_ _)); refine blk_put (cs := #[.bool ((rd_T99 l0_0 x42_2).f0), .int .i64 ((rd_T99 l0_0 x42_2).f1), .int .i64 ((rd_T99 l0_0 x42_2).f2), .int .i64 ((rd_T99 l0_0 x42_2).f3), .int .i64 ((rd_T99 l0_0 x42_2).f4), .int .i64 0, .int .i64 0]) ?_ 5 _ rfl; (with_reducible repeat (first | refine blk_drewN ?_ _ | refine blk_drew ?_ | refine blk_alloc ?_ _)); refine blk_put (cs := #[.bool ((rd_T99 l0_0 x42_2).f0), .int .i64 ((rd_T99 l0_0 x42_2).f1), .int .i64 ((rd_T99 l0_0 x42_2).f2), .int .i64 ((rd_T99 l0_0 x42_2).f3), .int .i64 0, .int .i64 0, .int .i64 0]) ?_ 4 _ rfl; (with_reducible repeat (first | refine blk_drewN ?_ _ | refine blk_drew ?_ | refine blk_alloc ?_ _)); refine blk_put (cs := #[.bool ((rd_T99 l0_0 x42_2).f0), .int .i64 ((rd_T99 l0_0 x42_2).f1), .int .i64 ((rd_T99 l0_0 x42_2).f2), .int .i64 0, .int .i64 0, .int .i64 0, .int .i64 0]) ?_ 3 _ rfl; (with_reducible repeat (first | refine blk_drewN ?_ _ | refine blk_drew ?_ | refine blk_alloc ?_ _)); refine blk_put (cs := #[.bool ((rd_T99 l0_0 x42_2).f0), .int .i64 ((rd_T99 l0_0 x42_2).f1), .int .i64 0, .int .i64 0, .int .i64 0, .int .i64 0, .int .i64 0]) ?_ 2 _ rfl; (with_reducible repeat (first | refine blk_drewN ?_ _ | refine blk_drew ?_ | refine blk_alloc ?_ _)); refine blk_put (cs := #[.bool ((rd_T99 l0_0 x42_2).f0), .int .i64 0, .int .i64 0, .int .i64 0, .int .i64 0, .int .i64 0, .int .i64 0]) ?_ 1 _ rfl; (with_reducible repeat (first | refine blk_drewN ?_ _ | refine blk_drew ?_ | refine blk_alloc ?_ _)); refine blk_put (cs := #[.bool false, .int .i64 0, .int .i64 0, .int .i64 0, .int .i64 0, .int .i64 0, .int .i64 0]) ?_ 0 _ rfl; (with_reducible repeat (first | refine blk_drewN ?_ _ | refine blk_drew ?_ | refine blk_alloc ?_ _)); exact BK235.out⟩
              have n5_ : Aside0 (Below w.heap.size w (((((((w40.setCell ⟨gb235, 0, none⟩ (.bool ((rd_T99 l0_0 x42_2).f0))).setCell ⟨gb235, 1, none⟩ (.int .i64 ((rd_T99 l0_0 x42_2).f1))).setCell ⟨gb235, 2, none⟩ (.int .i64 ((rd_T99 l0_0 x42_2).f2))).setCell ⟨gb235, 3, none⟩ (.int .i64 ((rd_T99 l0_0 x42_2).f3))).setCell ⟨gb235, 4, none⟩ (.int .i64 ((rd_T99 l0_0 x42_2).f4))).setCell ⟨gb235, 5, none⟩ (.int .i64 ((rd_T99 l0_0 x42_2).f5))).setCell ⟨gb235, 6, none⟩ (.int .i64 ((rd_T99 l0_0 x42_2).f6)))) := ⟨by repeat (first | (with_reducible first | exact HB.out | apply below_alloc | apply pw_below_drewN | apply below_drew1 | refine below_set ?_ GE223.out | refine below_set ?_ GE226.out | refine below_set ?_ GE235.out) | exact HB.out)⟩
              (try clear HO_6)
              (try clear HO_7)
              (try clear BK223)
              (try clear BK226)
              (try clear BK235)
              (try clear HB)
              generalize (((((((w40.setCell ⟨gb235, 0, none⟩ (.bool ((rd_T99 l0_0 x42_2).f0))).setCell ⟨gb235, 1, none⟩ (.int .i64 ((rd_T99 l0_0 x42_2).f1))).setCell ⟨gb235, 2, none⟩ (.int .i64 ((rd_T99 l0_0 x42_2).f2))).setCell ⟨gb235, 3, none⟩ (.int .i64 ((rd_T99 l0_0 x42_2).f3))).setCell ⟨gb235, 4, none⟩ (.int .i64 ((rd_T99 l0_0 x42_2).f4))).setCell ⟨gb235, 5, none⟩ (.int .i64 ((rd_T99 l0_0 x42_2).f5))).setCell ⟨gb235, 6, none⟩ (.int .i64 ((rd_T99 l0_0 x42_2).f6))) = w44 at n0_ n1_ n2_ n3_ n4_ n5_ ⊢
              have HO_6 := n0_
              have HO_7 := n1_
              have BK223 := n2_
              have BK226 := n3_
              have BK235 := n4_
              have HB := n5_
              clear n0_ n1_ n2_ n3_ n4_ n5_
              have n0_ := Aside0.mk (Kd.R_drew HO_6.out)
              have n1_ := Aside0.mk (Kd.R_drew HO_7.out)
              have n2_ := Aside0.mk (blk_drew BK223.out)
              have n3_ := Aside0.mk (blk_drew BK226.out)
              have n4_ := Aside0.mk (blk_drew BK235.out)
              have n5_ := Aside0.mk (below_drew1 HB.out)
              clear HO_6
              clear HO_7
              clear BK223
              clear BK226
              clear BK235
              clear HB
              have HO_6 := n0_
              have HO_7 := n1_
              have BK223 := n2_
              have BK226 := n3_
              have BK235 := n4_
              have HB := n5_
              clear n0_ n1_ n2_ n3_ n4_ n5_
              obtain ⟨Ao46, co46, eo46⟩ := Kd.R_slice HO_7.out
              (first | subst eo46 | (injection eo46 with f1_ f2_ f3_; have f4_ := f1_.symm; have f5_ := f3_.symm; clear f1_ f2_ f3_; subst f4_; subst f5_))
              refine start_ (n := 12) (S := fun w' => w'.cell? ⟨gb235, 0, none⟩ = some (.bool ((rd_T99 l0_0 x42_2).f0)) ∧ w'.cell? ⟨gb235, 1, none⟩ = some (.int .i64 ((rd_T99 l0_0 x42_2).f1)) ∧ w'.cell? ⟨gb235, 2, none⟩ = some (.int .i64 ((rd_T99 l0_0 x42_2).f2)) ∧ w'.cell? ⟨gb235, 3, none⟩ = some (.int .i64 ((rd_T99 l0_0 x42_2).f3)) ∧ w'.cell? ⟨gb235, 4, none⟩ = some (.int .i64 ((rd_T99 l0_0 x42_2).f4)) ∧ w'.cell? ⟨gb235, 5, none⟩ = some (.int .i64 ((rd_T99 l0_0 x42_2).f5)) ∧ w'.cell? ⟨gb235, 6, none⟩ = some (.int .i64 ((rd_T99 l0_0 x42_2).f6))) (ds := []) (ba_ 12 0) (by kernel_rfl) rfl rfl ⟨(blk_cell BK235.out 0).trans rfl, (blk_cell BK235.out 1).trans rfl, (blk_cell BK235.out 2).trans rfl, (blk_cell BK235.out 3).trans rfl, (blk_cell BK235.out 4).trans rfl, (blk_cell BK235.out 5).trans rfl, (blk_cell BK235.out 6).trans rfl⟩ (fun hHeld => ?_); refine with_tabW impl_Dom_walked.tab10 impl_Dom_walked.bits10 (fun HT_ HW_ => ?_)
              generalize w44.drew = w45 at HO_6 HO_7 BK223 BK226 BK235 HB hHeld ⊢
              refine pu_ 0 (some 47) (ba_ 12 1) rfl rfl (any_of HT_.out (by kernel_rfl)) ?_
              refine pu_ 1 (some 48) (ba_ 12 3) rfl rfl (any_of HT_.out (by kernel_rfl)) ?_
              refine pu_ 2 (some 49) (ba_ 12 7) rfl rfl (any_of HT_.out (by kernel_rfl)) ?_
              refine pu_ 3 (some 50) (ba_ 12 15) rfl rfl (any_of HT_.out (by kernel_rfl)) ?_
              refine one_ (i := 4) (N := some 51) (ba_ 12 31) rfl rfl (one_of HT_.out (by kernel_rfl)) (by decide) (fun K hK => ?_)
              refine goes_ Try.func119 (by kernel_rfl) rfl #[.slice Ao46 t230.length co46, .int .i64 x42_2] (by rfl) rfl rfl (by (try simp only [List.map_toArray, List.map_cons, List.map_nil]); first | done | rfl | (simp only [List.length_drop, List.length_take]; rfl)) ?_
              with_reducible refine (slices_Contains_int_int.calls k2 _ _ t230 x42_2 false _ ?side1 ?side2 A29.out).mono ?_
              (case side1 => repeat (first | exact (Kd.R_reads' HO_7.out).2.2 | (with_reducible refine Kd.C_alloc ?_ _) | (with_reducible refine Kd.C_drewN ?_ _) | (with_reducible refine Kd.C_drew ?_)))
              (case side2 => exact (Kd.R_reads' HO_7.out).2.1)
              rintro e w' ⟨rfl, ⟨nd, rfl⟩⟩
              refine ⟨_, rfl, ?_⟩
              refine hK.out _ _ ⟨(blk_cell BK235.out 0).trans rfl, (blk_cell BK235.out 1).trans rfl, (blk_cell BK235.out 2).trans rfl, (blk_cell BK235.out 3).trans rfl, (blk_cell BK235.out 4).trans rfl, (blk_cell BK235.out 5).trans rfl, (blk_cell BK235.out 6).trans rfl⟩ (fun hHeld => ?_)
              clear hK K
              refine norm_ (a' := ?_) ?_ ?_
              rotate_left
              ·show Act.put _ (some 51) _ = _
               simp only [Act.put, List.setIfInBounds_toArray, List.set_cons_zero, List.set_cons_succ, i64_w, i32_w]
               rfl
              refine pu_ 5 (some 52) (ba_ 12 63) rfl rfl (any_of HT_.out (by kernel_rfl)) ?_
              refine pu_ 6 (some 53) (ba_ 12 127) rfl rfl (any_of HT_.out (by kernel_rfl)) ?_
              refine pu_ 7 (some 54) (ba_ 12 255) rfl rfl (any_of HT_.out (by kernel_rfl)) ?_
              refine ta_ 8 (some 55) (ba_ 12 511) rfl rfl (take_ofW HT_.out HW_.out (by kernel_rfl)) hHeld (by rintro w' ⟨s0, s1, s2, s3, s4, s5, s6⟩; go_simp; with_reducible rfl) ?_
              refine one_ (i := 9) (N := some 56) (ba_ 12 1023) rfl rfl (one_of HT_.out (by kernel_rfl)) (by decide) (fun K hK => ?_)
              refine goes_ Try.func120 (by kernel_rfl) rfl #[] (by rfl) rfl rfl (by (try simp only [List.map_toArray, List.map_cons, List.map_nil]); first | done | rfl | (simp only [List.length_drop, List.length_take]; rfl)) ?_
              with_reducible refine (impl_unused.calls  t237 t238 t239 t240 t241 t242 t243 _ A38.out).mono ?_
              rintro e w47 ⟨rfl, hb⟩
              refine ⟨_, rfl, ?_⟩
              have n0_ := Aside0.mk (Kd.R_below (by (with_reducible repeat (first | apply Kd.R_alloc | apply Kd.R_drewN | apply Kd.R_drew)); exact HO_6.out) hb)
              have n1_ := Aside0.mk (Kd.R_below (by (with_reducible repeat (first | apply Kd.R_alloc | apply Kd.R_drewN | apply Kd.R_drew)); exact HO_7.out) hb)
              have n2_ := Aside0.mk (blk_below (g := gb223) (o := .cells #[.slice (some ad225) l0_0.length c0_0] 29 (0, 0)) (by (with_reducible repeat (first | refine blk_drewN ?_ _ | refine blk_drew ?_ | refine blk_alloc ?_ _)); exact BK223.out) hb)
              have n3_ := Aside0.mk (blk_below (g := gb226) (o := .cells #[.bool ((rd_T99 l0_0 0).f0), .int .i64 ((rd_T99 l0_0 0).f1), .int .i64 ((rd_T99 l0_0 0).f2), .int .i64 ((rd_T99 l0_0 0).f3), .int .i64 ((rd_T99 l0_0 0).f4), .int .i64 ((rd_T99 l0_0 0).f5), .int .i64 ((rd_T99 l0_0 0).f6)] 99 (0, 0)) (by (with_reducible repeat (first | refine blk_drewN ?_ _ | refine blk_drew ?_ | refine blk_alloc ?_ _)); exact BK226.out) hb)
              have n4_ := Aside0.mk (blk_below (g := gb235) (o := .cells #[.bool ((rd_T99 l0_0 x42_2).f0), .int .i64 ((rd_T99 l0_0 x42_2).f1), .int .i64 ((rd_T99 l0_0 x42_2).f2), .int .i64 ((rd_T99 l0_0 x42_2).f3), .int .i64 ((rd_T99 l0_0 x42_2).f4), .int .i64 ((rd_T99 l0_0 x42_2).f5), .int .i64 ((rd_T99 l0_0 x42_2).f6)] 99 (0, 0)) (by (with_reducible repeat (first | refine blk_drewN ?_ _ | refine blk_drew ?_ | refine blk_alloc ?_ _)); exact BK235.out) hb)
              have n5_ := Aside0.mk (below_step (by repeat (first | (with_reducible first | exact HB.out | apply below_alloc | apply pw_below_drewN | apply below_drew1 | refine below_set ?_ GE223.out | refine below_set ?_ GE226.out | refine below_set ?_ GE235.out) | exact HB.out)) hb)
              clear HO_6
              clear HO_7
              clear BK223
              clear BK226
              clear BK235
              clear HB
              have HO_6 := n0_
              have HO_7 := n1_
              have BK223 := n2_
              have BK226 := n3_
              have BK235 := n4_
              have HB := n5_
              clear n0_ n1_ n2_ n3_ n4_ n5_
              (try clear hb)
              (try clear hb2)
              (try clear hk)
              (try clear hi)
              refine hK.out _ _ ⟨(blk_cell BK235.out 0).trans rfl, (blk_cell BK235.out 1).trans rfl, (blk_cell BK235.out 2).trans rfl, (blk_cell BK235.out 3).trans rfl, (blk_cell BK235.out 4).trans rfl, (blk_cell BK235.out 5).trans rfl, (blk_cell BK235.out 6).trans rfl⟩ (fun hHeld => ?_)
              clear hK K
              refine norm_ (a' := ?_) ?_ ?_
              rotate_left
              ·show Act.put _ (some 56) _ = _
               simp only [Act.put, List.setIfInBounds_toArray, List.set_cons_zero, List.set_cons_succ, i64_w, i32_w]
               rfl
              refine pu_ 10 (some 57) (ba_ 12 2047) rfl rfl (any_of HT_.out (by kernel_rfl)) ?_
              refine pu_ 11 (some 58) (ba_ 12 4095) rfl rfl (any_of HT_.out (by kernel_rfl)) ?_
              refine done_ (done_of HT_.out (by kernel_rfl)) ?_
              try go_wp2
              go_roundg k2
              case measure => have := HJ4.out; have := HK2.out; omega
              case rel => exact ⟨(false), (wrap64 (x42_2 + 1)), (by first | rfl | (simp; done) | (simp [*]; done)), (by first | rfl | (simp; done) | (simp [*]; done)), H', ⟨by have := HJ4.out; have := HK2.out; omega⟩, ⟨by (with_reducible repeat (first | apply Kd.R_alloc | apply Kd.R_drewN | apply Kd.R_drew)); exact HO_6.out⟩, ⟨by (with_reducible repeat (first | apply Kd.R_alloc | apply Kd.R_drewN | apply Kd.R_drew)); exact HO_7.out⟩, ⟨by (with_reducible repeat (first | refine blk_drewN ?_ _ | refine blk_drew ?_ | refine blk_alloc ?_ _)); exact BK223.out⟩, ⟨by (with_reducible repeat (first | refine blk_drewN ?_ _ | refine blk_drew ?_ | refine blk_alloc ?_ _)); exact BK226.out⟩, ⟨by repeat (first | (with_reducible first | exact HB.out | apply below_alloc | apply pw_below_drewN | apply below_drew1 | refine below_set ?_ GE223.out | refine below_set ?_ GE226.out | refine below_set ?_ GE235.out) | exact HB.out)⟩⟩
             ·rw [if_neg c39] at H
              have c39b0 : (!(((rd_T99 l0_0 x42_2).f0) == t237) || (!(((rd_T99 l0_0 x42_2).f1) == t238) || (!(((rd_T99 l0_0 x42_2).f2) == t239) || (!(((rd_T99 l0_0 x42_2).f3) == t240) || (!(((rd_T99 l0_0 x42_2).f4) == t241) || (!(((rd_T99 l0_0 x42_2).f5) == t242) || (!(((rd_T99 l0_0 x42_2).f6) == t243)))))))) = false := by simpa using c39
              clear c39
              have H' := Aside0.mk H
              clear H
              have p234 : 0 ≤ (x42_2 : Int) := of_decide_eq_true (by first | (with_reducible assumption) | assumption)
              have q234 : x42_2 < (l0_0.length : Int) := of_decide_eq_true (by first | (with_reducible assumption) | assumption)
              obtain ⟨ad234, e234, hx234_0, hx234_1, hx234_2, hx234_3, hx234_4, hx234_5, hx234_6⟩ := at_T99 HR0_0.out x42_2 p234 q234
              obtain rfl : ad225 = ad234 := (by injection e234)
              replace hx234_0 := (HB.out.cell (World.block_lt_of_cell? w _ hx234_0)).trans hx234_0
              replace hx234_1 := (HB.out.cell (World.block_lt_of_cell? w _ hx234_1)).trans hx234_1
              replace hx234_2 := (HB.out.cell (World.block_lt_of_cell? w _ hx234_2)).trans hx234_2
              replace hx234_3 := (HB.out.cell (World.block_lt_of_cell? w _ hx234_3)).trans hx234_3
              replace hx234_4 := (HB.out.cell (World.block_lt_of_cell? w _ hx234_4)).trans hx234_4
              replace hx234_5 := (HB.out.cell (World.block_lt_of_cell? w _ hx234_5)).trans hx234_5
              replace hx234_6 := (HB.out.cell (World.block_lt_of_cell? w _ hx234_6)).trans hx234_6
              replace p234 := eq_true p234
              replace q234 := eq_true q234
              try go_wp2_with (first | ((with_reducible refine gate_dst (N := 10) rfl ?_); refine box_event ?hg (N := 10) ?hd (cs := #[.bool false, .int .i64 0, .int .i64 0, .int .i64 0, .int .i64 0, .int .i64 0, .int .i64 0]) (t := 99) ?hr ?_; (case hd => rfl); (case hg => rfl); (case hr => first | (go_simp; done) | (go_simp; rfl)); intro gb235 hg w48 hbox hb; have n0_ := Aside0.mk (Kd.R_below (by (with_reducible repeat (first | apply Kd.R_alloc | apply Kd.R_drewN | apply Kd.R_drew)); exact HO_6.out) hb); have n1_ := Aside0.mk (Kd.R_below (by (with_reducible repeat (first | apply Kd.R_alloc | apply Kd.R_drewN | apply Kd.R_drew)); exact HO_7.out) hb); have n2_ := Aside0.mk (blk_below (g := gb223) (o := .cells #[.slice (some ad225) l0_0.length c0_0] 29 (0, 0)) (by (with_reducible repeat (first | refine blk_drewN ?_ _ | refine blk_drew ?_ | refine blk_alloc ?_ _)); exact BK223.out) hb); have n3_ := Aside0.mk (blk_below (g := gb226) (o := .cells #[.bool ((rd_T99 l0_0 0).f0), .int .i64 ((rd_T99 l0_0 0).f1), .int .i64 ((rd_T99 l0_0 0).f2), .int .i64 ((rd_T99 l0_0 0).f3), .int .i64 ((rd_T99 l0_0 0).f4), .int .i64 ((rd_T99 l0_0 0).f5), .int .i64 ((rd_T99 l0_0 0).f6)] 99 (0, 0)) (by (with_reducible repeat (first | refine blk_drewN ?_ _ | refine blk_drew ?_ | refine blk_alloc ?_ _)); exact BK226.out) hb); have n4_ := Aside0.mk (below_step (by repeat (first | (with_reducible first | exact HB.out | apply below_alloc | apply pw_below_drewN | apply below_drew1 | refine below_set ?_ GE223.out | refine below_set ?_ GE226.out) | exact HB.out)) hb); have n5_ := Aside0.mk (hbox); have n6_ := Aside0.mk ((by rw [hg]; exact (below_size (by repeat (first | (with_reducible first | exact HB.out | apply below_alloc | apply pw_below_drewN | apply below_drew1 | refine below_set ?_ GE223.out | refine below_set ?_ GE226.out) | exact HB.out))) : w.heap.size ≤ gb235)); have n7_ := Aside0.mk ((by rw [hg]; exact (below_size (by repeat (first | (with_reducible first | exact HB.out | apply below_alloc | apply pw_below_drewN | apply below_drew1 | refine below_set ?_ GE223.out | refine below_set ?_ GE226.out) | exact HB.out))) : w.heap.size ≤ gb235)); have n8_ := Aside0.mk ((by rw [hg]; exact Nat.ne_of_lt (blk_lt (g := gb223) (o := .cells #[.slice (some ad225) l0_0.length c0_0] 29 (0, 0)) (by (with_reducible repeat (first | refine blk_drewN ?_ _ | refine blk_drew ?_ | refine blk_alloc ?_ _)); exact BK223.out)) : gb223 ≠ gb235)); have n9_ := Aside0.mk ((by rw [hg]; exact Nat.ne_of_gt (blk_lt (g := gb223) (o := .cells #[.slice (some ad225) l0_0.length c0_0] 29 (0, 0)) (by (with_reducible repeat (first | refine blk_drewN ?_ _ | refine blk_drew ?_ | refine blk_alloc ?_ _)); exact BK223.out)) : gb235 ≠ gb223)); have n10_ := Aside0.mk ((by rw [hg]; exact Nat.ne_of_lt (blk_lt (g := gb226) (o := .cells #[.bool ((rd_T99 l0_0 0).f0), .int .i64 ((rd_T99 l0_0 0).f1), .int .i64 ((rd_T99 l0_0 0).f2), .int .i64 ((rd_T99 l0_0 0).f3), .int .i64 ((rd_T99 l0_0 0).f4), .int .i64 ((rd_T99 l0_0 0).f5), .int .i64 ((rd_T99 l0_0 0).f6)] 99 (0, 0)) (by (with_reducible repeat (first | refine blk_drewN ?_ _ | refine blk_drew ?_ | refine blk_alloc ?_ _)); exact BK226.out)) : gb226 ≠ gb235)); have n11_ := Aside0.mk ((by rw [hg]; exact Nat.ne_of_gt (blk_lt (g := gb226) (o := .cells #[.bool ((rd_T99 l0_0 0).f0), .int .i64 ((rd_T99 l0_0 0).f1), .int .i64 ((rd_T99 l0_0 0).f2), .int .i64 ((rd_T99 l0_0 0).f3), .int .i64 ((rd_T99 l0_0 0).f4), .int .i64 ((rd_T99 l0_0 0).f5), .int .i64 ((rd_T99 l0_0 0).f6)] 99 (0, 0)) (by (with_reducible repeat (first | refine blk_drewN ?_ _ | refine blk_drew ?_ | refine blk_alloc ?_ _)); exact BK226.out)) : gb235 ≠ gb226)); clear HO_6; clear HO_7; clear BK223; clear BK226; clear HB; have HO_6 := n0_; have HO_7 := n1_; have BK223 := n2_; have BK226 := n3_; have HB := n4_; have BK235 := n5_; have GW235 := n6_; have GE235 := n7_; have NB223_235 := n8_; have NB235_223 := n9_; have NB226_235 := n10_; have NB235_226 := n11_; clear n0_ n1_ n2_ n3_ n4_ n5_ n6_ n7_ n8_ n9_ n10_ n11_; clear hb hbox hg; have hnb49 := NB235_223.out; have hnc49 := NB223_235.out; have hnb50 := NB235_226.out; have hnc50 := NB226_235.out; have hcz51_0 : w48.cell? ⟨gb235, 0, none⟩ = some (.bool false) := (blk_cell BK235.out 0).trans rfl; have hcz51_1 : w48.cell? ⟨gb235, 1, none⟩ = some (.int .i64 0) := (blk_cell BK235.out 1).trans rfl; have hcz51_2 : w48.cell? ⟨gb235, 2, none⟩ = some (.int .i64 0) := (blk_cell BK235.out 2).trans rfl; have hcz51_3 : w48.cell? ⟨gb235, 3, none⟩ = some (.int .i64 0) := (blk_cell BK235.out 3).trans rfl; have hcz51_4 : w48.cell? ⟨gb235, 4, none⟩ = some (.int .i64 0) := (blk_cell BK235.out 4).trans rfl; have hcz51_5 : w48.cell? ⟨gb235, 5, none⟩ = some (.int .i64 0) := (blk_cell BK235.out 5).trans rfl; have hcz51_6 : w48.cell? ⟨gb235, 6, none⟩ = some (.int .i64 0) := (blk_cell BK235.out 6).trans rfl; have hfz51_0 := blk_frozen BK235.out 0; have hfz51_1 := blk_frozen BK235.out 1; have hfz51_2 := blk_frozen BK235.out 2; have hfz51_3 := blk_frozen BK235.out 3; have hfz51_4 := blk_frozen BK235.out 4; have hfz51_5 := blk_frozen BK235.out 5; have hfz51_6 := blk_frozen BK235.out 6))
              have n0_ : Aside0 (Kd.R k90 90 (((((((w48.setCell ⟨gb235, 0, none⟩ (.bool ((rd_T99 l0_0 x42_2).f0))).setCell ⟨gb235, 1, none⟩ (.int .i64 ((rd_T99 l0_0 x42_2).f1))).setCell ⟨gb235, 2, none⟩ (.int .i64 ((rd_T99 l0_0 x42_2).f2))).setCell ⟨gb235, 3, none⟩ (.int .i64 ((rd_T99 l0_0 x42_2).f3))).setCell ⟨gb235, 4, none⟩ (.int .i64 ((rd_T99 l0_0 x42_2).f4))).setCell ⟨gb235, 5, none⟩ (.int .i64 ((rd_T99 l0_0 x42_2).f5))).setCell ⟨gb235, 6, none⟩ (.int .i64 ((rd_T99 l0_0 x42_2).f6))) w.heap.size (fun _ => True) v228 t227) := ⟨by (with_reducible repeat (first | apply Kd.R_alloc | apply Kd.R_drewN | apply Kd.R_drew)); exact Kd.R_mono (Kd.R_far (p := ⟨gb235, 6, none⟩) (Kd.R_far (p := ⟨gb235, 5, none⟩) (Kd.R_far (p := ⟨gb235, 4, none⟩) (Kd.R_far (p := ⟨gb235, 3, none⟩) (Kd.R_far (p := ⟨gb235, 2, none⟩) (Kd.R_far (p := ⟨gb235, 1, none⟩) (Kd.R_far (p := ⟨gb235, 0, none⟩) (Kd.R_types HO_6.out BK235.out (by decide)) (fun _ hk => hk.2) (.bool ((rd_T99 l0_0 x42_2).f0))) (fun _ hk => hk.2) (.int .i64 ((rd_T99 l0_0 x42_2).f1))) (fun _ hk => hk.2) (.int .i64 ((rd_T99 l0_0 x42_2).f2))) (fun _ hk => hk.2) (.int .i64 ((rd_T99 l0_0 x42_2).f3))) (fun _ hk => hk.2) (.int .i64 ((rd_T99 l0_0 x42_2).f4))) (fun _ hk => hk.2) (.int .i64 ((rd_T99 l0_0 x42_2).f5))) (fun _ hk => hk.2) (.int .i64 ((rd_T99 l0_0 x42_2).f6))) (fun _ hk => trivial)⟩
              have n1_ : Aside0 (Kd.R (Kd.int .i64) 3 (((((((w48.setCell ⟨gb235, 0, none⟩ (.bool ((rd_T99 l0_0 x42_2).f0))).setCell ⟨gb235, 1, none⟩ (.int .i64 ((rd_T99 l0_0 x42_2).f1))).setCell ⟨gb235, 2, none⟩ (.int .i64 ((rd_T99 l0_0 x42_2).f2))).setCell ⟨gb235, 3, none⟩ (.int .i64 ((rd_T99 l0_0 x42_2).f3))).setCell ⟨gb235, 4, none⟩ (.int .i64 ((rd_T99 l0_0 x42_2).f4))).setCell ⟨gb235, 5, none⟩ (.int .i64 ((rd_T99 l0_0 x42_2).f5))).setCell ⟨gb235, 6, none⟩ (.int .i64 ((rd_T99 l0_0 x42_2).f6))) w.heap.size (fun _ => True) v231 t230) := ⟨by (with_reducible repeat (first | apply Kd.R_alloc | apply Kd.R_drewN | apply Kd.R_drew)); exact Kd.R_mono (Kd.R_far (p := ⟨gb235, 6, none⟩) (Kd.R_far (p := ⟨gb235, 5, none⟩) (Kd.R_far (p := ⟨gb235, 4, none⟩) (Kd.R_far (p := ⟨gb235, 3, none⟩) (Kd.R_far (p := ⟨gb235, 2, none⟩) (Kd.R_far (p := ⟨gb235, 1, none⟩) (Kd.R_far (p := ⟨gb235, 0, none⟩) (Kd.R_types HO_7.out BK235.out (by decide)) (fun _ hk => hk.2) (.bool ((rd_T99 l0_0 x42_2).f0))) (fun _ hk => hk.2) (.int .i64 ((rd_T99 l0_0 x42_2).f1))) (fun _ hk => hk.2) (.int .i64 ((rd_T99 l0_0 x42_2).f2))) (fun _ hk => hk.2) (.int .i64 ((rd_T99 l0_0 x42_2).f3))) (fun _ hk => hk.2) (.int .i64 ((rd_T99 l0_0 x42_2).f4))) (fun _ hk => hk.2) (.int .i64 ((rd_T99 l0_0 x42_2).f5))) (fun _ hk => hk.2) (.int .i64 ((rd_T99 l0_0 x42_2).f6))) (fun _ hk => trivial)⟩
              have n2_ : Aside0 ((((((((w48.setCell ⟨gb235, 0, none⟩ (.bool ((rd_T99 l0_0 x42_2).f0))).setCell ⟨gb235, 1, none⟩ (.int .i64 ((rd_T99 l0_0 x42_2).f1))).setCell ⟨gb235, 2, none⟩ (.int .i64 ((rd_T99 l0_0 x42_2).f2))).setCell ⟨gb235, 3, none⟩ (.int .i64 ((rd_T99 l0_0 x42_2).f3))).setCell ⟨gb235, 4, none⟩ (.int .i64 ((rd_T99 l0_0 x42_2).f4))).setCell ⟨gb235, 5, none⟩ (.int .i64 ((rd_T99 l0_0 x42_2).f5))).setCell ⟨gb235, 6, none⟩ (.int .i64 ((rd_T99 l0_0 x42_2).f6))).heap[gb223]? = some (.cells #[.slice (some ad225) l0_0.length c0_0] 29 (0, 0))) := ⟨by (with_reducible repeat (first | refine blk_drewN ?_ _ | refine blk_drew ?_ | refine blk_alloc ?_ _)); refine blk_far ?_ NB223_235.out _; (with_reducible repeat (first | refine blk_drewN ?_ _ | refine blk_drew ?_ | refine blk_alloc ?_ _)); refine blk_far ?_ NB223_235.out _; (with_reducible repeat (first | refine blk_drewN ?_ _ | refine blk_drew ?_ | refine blk_alloc ?_ _)); refine blk_far ?_ NB223_235.out _; (with_reducible repeat (first | refine blk_drewN ?_ _ | refine blk_drew ?_ | refine blk_alloc ?_ _)); refine blk_far ?_ NB223_235.out _; (with_reducible repeat (first | refine blk_drewN ?_ _ | refine blk_drew ?_ | refine blk_alloc ?_ _)); refine blk_far ?_ NB223_235.out _; (with_reducible repeat (first | refine blk_drewN ?_ _ | refine blk_drew ?_ | refine blk_alloc ?_ _)); refine blk_far ?_ NB223_235.out _; (with_reducible repeat (first | refine blk_drewN ?_ _ | refine blk_drew ?_ | refine blk_alloc ?_ _)); refine blk_far ?_ NB223_235.out _; (with_reducible repeat (first | refine blk_drewN ?_ _ | refine blk_drew ?_ | refine blk_alloc ?_ _)); exact BK223.out⟩
              have n3_ : Aside0 ((((((((w48.setCell ⟨gb235, 0, none⟩ (.bool ((rd_T99 l0_0 x42_2).f0))).setCell ⟨gb235, 1, none⟩ (.int .i64 ((rd_T99 l0_0 x42_2).f1))).setCell ⟨gb235, 2, none⟩ (.int .i64 ((rd_T99 l0_0 x42_2).f2))).setCell ⟨gb235, 3, none⟩ (.int .i64 ((rd_T99 l0_0 x42_2).f3))).setCell ⟨gb235, 4, none⟩ (.int .i64 ((rd_T99 l0_0 x42_2).f4))).setCell ⟨gb235, 5, none⟩ (.int .i64 ((rd_T99 l0_0 x42_2).f5))).setCell ⟨gb235, 6, none⟩ (.int .i64 ((rd_T99 l0_0 x42_2).f6))).heap[gb226]? = some (.cells #[.bool ((rd_T99 l0_0 0).f0), .int .i64 ((rd_T99 l0_0 0).f1), .int .i64 ((rd_T99 l0_0 0).f2), .int .i64 ((rd_T99 l0_0 0).f3), .int .i64 ((rd_T99 l0_0 0).f4), .int .i64 ((rd_T99 l0_0 0).f5), .int .i64 ((rd_T99 l0_0 0).f6)] 99 (0, 0))) := ⟨by (with_reducible repeat (first | refine blk_drewN ?_ _ | refine blk_drew ?_ | refine blk_alloc ?_ _)); refine blk_far ?_ NB226_235.out _; (with_reducible repeat (first | refine blk_drewN ?_ _ | refine blk_drew ?_ | refine blk_alloc ?_ _)); refine blk_far ?_ NB226_235.out _; (with_reducible repeat (first | refine blk_drewN ?_ _ | refine blk_drew ?_ | refine blk_alloc ?_ _)); refine blk_far ?_ NB226_235.out _; (with_reducible repeat (first | refine blk_drewN ?_ _ | refine blk_drew ?_ | refine blk_alloc ?_ _)); refine blk_far ?_ NB226_235.out _; (with_reducible repeat (first | refine blk_drewN ?_ _ | refine blk_drew ?_ | refine blk_alloc ?_ _)); refine blk_far ?_ NB226_235.out _; (with_reducible repeat (first | refine blk_drewN ?_ _ | refine blk_drew ?_ | refine blk_alloc ?_ _)); refine blk_far ?_ NB226_235.out _; (with_reducible repeat (first | refine blk_drewN ?_ _ | refine blk_drew ?_ | refine blk_alloc ?_ _)); refine blk_far ?_ NB226_235.out _; (with_reducible repeat (first | refine blk_drewN ?_ _ | refine blk_drew ?_ | refine blk_alloc ?_ _)); exact BK226.out⟩
              have n4_ : Aside0 ((((((((w48.setCell ⟨gb235, 0, none⟩ (.bool ((rd_T99 l0_0 x42_2).f0))).setCell ⟨gb235, 1, none⟩ (.int .i64 ((rd_T99 l0_0 x42_2).f1))).setCell ⟨gb235, 2, none⟩ (.int .i64 ((rd_T99 l0_0 x42_2).f2))).setCell ⟨gb235, 3, none⟩ (.int .i64 ((rd_T99 l0_0 x42_2).f3))).setCell ⟨gb235, 4, none⟩ (.int .i64 ((rd_T99 l0_0 x42_2).f4))).setCell ⟨gb235, 5, none⟩ (.int .i64 ((rd_T99 l0_0 x42_2).f5))).setCell ⟨gb235, 6, none⟩ (.int .i64 ((rd_T99 l0_0 x42_2).f6))).heap[gb235]? = some (.cells #[.bool ((rd_T99 l0_0 x42_2).f0), .int .i64 ((rd_T99 l0_0 x42_2).f1), .int .i64 ((rd_T99 l0_0 x42_2).f2), .int .i64 ((rd_T99 l0_0 x42_2).f3), .int .i64 ((rd_T99 l0_0 x42_2).f4), .int .i64 ((rd_T99 l0_0 x42_2).f5), .int .i64 ((rd_T99 l0_0 x42_2).f6)] 99 (0, 0))) := ⟨by (with_reducible repeat (first | refine blk_drewN ?_ _ | refine blk_drew ?_ | refine blk_alloc ?_ _)); refine blk_put (cs := #[.bool ((rd_T99 l0_0 x42_2).f0), .int .i64 ((rd_T99 l0_0 x42_2).f1), .int .i64 ((rd_T99 l0_0 x42_2).f2), .int .i64 ((rd_T99 l0_0 x42_2).f3), .int .i64 ((rd_T99 l0_0 x42_2).f4), .int .i64 ((rd_T99 l0_0 x42_2).f5), .int .i64 0]) ?_ 6 _ rfl; (with_reducible repeat (first | refine blk_drewN ?_ _ | refine blk_drew ?_ | refine blk_alloc ?_ _)); refine blk_put (cs := #[.bool ((rd_T99 l0_0 x42_2).f0), .int .i64 ((rd_T99 l0_0 x42_2).f1), .int .i64 ((rd_T99 l0_0 x42_2).f2), .int .i64 ((rd_T99 l0_0 x42_2).f3), .int .i64 ((rd_T99 l0_0 x42_2).f4), .int .i64 0, .int .i64 0]) ?_ 5 _ rfl; (with_reducible repeat (first | refine blk_drewN ?_ _ | refine blk_drew ?_ | refine blk_alloc ?_ _)); refine blk_put (cs := #[.bool ((rd_T99 l0_0 x42_2).f0), .int .i64 ((rd_T99 l0_0 x42_2).f1), .int .i64 ((rd_T99 l0_0 x42_2).f2), .int .i64 ((rd_T99 l0_0 x42_2).f3), .int .i64 0, .int .i64 0, .int .i64 0]) ?_ 4 _ rfl; (with_reducible repeat (first | refine blk_drewN ?_ _ | refine blk_drew ?_ | refine blk_alloc ?_ _)); refine blk_put (cs := #[.bool ((rd_T99 l0_0 x42_2).f0), .int .i64 ((rd_T99 l0_0 x42_2).f1), .int .i64 ((rd_T99 l0_0 x42_2).f2), .int .i64 0, .int .i64 0, .int .i64 0, .int .i64 0]) ?_ 3 _ rfl; (with_reducible repeat (first | refine blk_drewN ?_ _ | refine blk_drew ?_ | refine blk_alloc ?_ _)); refine blk_put (cs := #[.bool ((rd_T99 l0_0 x42_2).f0), .int .i64 ((rd_T99 l0_0 x42_2).f1), .int .i64 0, .int .i64 0, .int .i64 0, .int .i64 0, .int .i64 0]) ?_ 2 _ rfl; (with_reducible repeat (first | refine blk_drewN ?_ _ | refine blk_drew ?_ | refine blk_alloc ?_ _)); refine blk_put (cs := #[.bool ((rd_T99 l0_0 x42_2).f0), .int .i64 0, .int .i64 0, .int .i64 0, .int .i64 0, .int .i64 0, .int .i64 0]) ?_ 1 _ rfl; (with_reducible repeat (first | refine blk_drewN ?_ _ | refine blk_drew ?_ | refine blk_alloc ?_ _)); refine blk_put (cs := #[.bool false, .int .i64 0, .int .i64 0, .int .i64 0, .int .i64 0, .int .i64 0, .int .i64 0]) ?_ 0 _ rfl; (with_reducible repeat (first | refine blk_drewN ?_ _ | refine blk_drew ?_ | refine blk_alloc ?_ _)); exact BK235.out⟩
              have n5_ : Aside0 (Below w.heap.size w (((((((w48.setCell ⟨gb235, 0, none⟩ (.bool ((rd_T99 l0_0 x42_2).f0))).setCell ⟨gb235, 1, none⟩ (.int .i64 ((rd_T99 l0_0 x42_2).f1))).setCell ⟨gb235, 2, none⟩ (.int .i64 ((rd_T99 l0_0 x42_2).f2))).setCell ⟨gb235, 3, none⟩ (.int .i64 ((rd_T99 l0_0 x42_2).f3))).setCell ⟨gb235, 4, none⟩ (.int .i64 ((rd_T99 l0_0 x42_2).f4))).setCell ⟨gb235, 5, none⟩ (.int .i64 ((rd_T99 l0_0 x42_2).f5))).setCell ⟨gb235, 6, none⟩ (.int .i64 ((rd_T99 l0_0 x42_2).f6)))) := ⟨by repeat (first | (with_reducible first | exact HB.out | apply below_alloc | apply pw_below_drewN | apply below_drew1 | refine below_set ?_ GE223.out | refine below_set ?_ GE226.out | refine below_set ?_ GE235.out) | exact HB.out)⟩
              (try clear HO_6)
              (try clear HO_7)
              (try clear BK223)
              (try clear BK226)
              (try clear BK235)
              (try clear HB)
              generalize (((((((w48.setCell ⟨gb235, 0, none⟩ (.bool ((rd_T99 l0_0 x42_2).f0))).setCell ⟨gb235, 1, none⟩ (.int .i64 ((rd_T99 l0_0 x42_2).f1))).setCell ⟨gb235, 2, none⟩ (.int .i64 ((rd_T99 l0_0 x42_2).f2))).setCell ⟨gb235, 3, none⟩ (.int .i64 ((rd_T99 l0_0 x42_2).f3))).setCell ⟨gb235, 4, none⟩ (.int .i64 ((rd_T99 l0_0 x42_2).f4))).setCell ⟨gb235, 5, none⟩ (.int .i64 ((rd_T99 l0_0 x42_2).f5))).setCell ⟨gb235, 6, none⟩ (.int .i64 ((rd_T99 l0_0 x42_2).f6))) = w52 at n0_ n1_ n2_ n3_ n4_ n5_ ⊢
              have HO_6 := n0_
              have HO_7 := n1_
              have BK223 := n2_
              have BK226 := n3_
              have BK235 := n4_
              have HB := n5_
              clear n0_ n1_ n2_ n3_ n4_ n5_
              have n0_ := Aside0.mk (Kd.R_drew HO_6.out)
              have n1_ := Aside0.mk (Kd.R_drew HO_7.out)
              have n2_ := Aside0.mk (blk_drew BK223.out)
              have n3_ := Aside0.mk (blk_drew BK226.out)
              have n4_ := Aside0.mk (blk_drew BK235.out)
              have n5_ := Aside0.mk (below_drew1 HB.out)
              clear HO_6
              clear HO_7
              clear BK223
              clear BK226
              clear BK235
              clear HB
              have HO_6 := n0_
              have HO_7 := n1_
              have BK223 := n2_
              have BK226 := n3_
              have BK235 := n4_
              have HB := n5_
              clear n0_ n1_ n2_ n3_ n4_ n5_
              obtain ⟨Ao54, co54, eo54⟩ := Kd.R_slice HO_7.out
              (first | subst eo54 | (injection eo54 with f1_ f2_ f3_; have f4_ := f1_.symm; have f5_ := f3_.symm; clear f1_ f2_ f3_; subst f4_; subst f5_))
              refine start_ (n := 12) (S := fun w' => w'.cell? ⟨gb235, 0, none⟩ = some (.bool ((rd_T99 l0_0 x42_2).f0)) ∧ w'.cell? ⟨gb235, 1, none⟩ = some (.int .i64 ((rd_T99 l0_0 x42_2).f1)) ∧ w'.cell? ⟨gb235, 2, none⟩ = some (.int .i64 ((rd_T99 l0_0 x42_2).f2)) ∧ w'.cell? ⟨gb235, 3, none⟩ = some (.int .i64 ((rd_T99 l0_0 x42_2).f3)) ∧ w'.cell? ⟨gb235, 4, none⟩ = some (.int .i64 ((rd_T99 l0_0 x42_2).f4)) ∧ w'.cell? ⟨gb235, 5, none⟩ = some (.int .i64 ((rd_T99 l0_0 x42_2).f5)) ∧ w'.cell? ⟨gb235, 6, none⟩ = some (.int .i64 ((rd_T99 l0_0 x42_2).f6))) (ds := []) (ba_ 12 0) (by kernel_rfl) rfl rfl ⟨(blk_cell BK235.out 0).trans rfl, (blk_cell BK235.out 1).trans rfl, (blk_cell BK235.out 2).trans rfl, (blk_cell BK235.out 3).trans rfl, (blk_cell BK235.out 4).trans rfl, (blk_cell BK235.out 5).trans rfl, (blk_cell BK235.out 6).trans rfl⟩ (fun hHeld => ?_); refine with_tabW impl_Dom_walked.tab10 impl_Dom_walked.bits10 (fun HT_ HW_ => ?_)
              generalize w52.drew = w53 at HO_6 HO_7 BK223 BK226 BK235 HB hHeld ⊢
              refine pu_ 0 (some 47) (ba_ 12 1) rfl rfl (any_of HT_.out (by kernel_rfl)) ?_
              refine pu_ 1 (some 48) (ba_ 12 3) rfl rfl (any_of HT_.out (by kernel_rfl)) ?_
              refine pu_ 2 (some 49) (ba_ 12 7) rfl rfl (any_of HT_.out (by kernel_rfl)) ?_
              refine pu_ 3 (some 50) (ba_ 12 15) rfl rfl (any_of HT_.out (by kernel_rfl)) ?_
              refine one_ (i := 4) (N := some 51) (ba_ 12 31) rfl rfl (one_of HT_.out (by kernel_rfl)) (by decide) (fun K hK => ?_)
              refine goes_ Try.func119 (by kernel_rfl) rfl #[.slice Ao54 t230.length co54, .int .i64 x42_2] (by rfl) rfl rfl (by (try simp only [List.map_toArray, List.map_cons, List.map_nil]); first | done | rfl | (simp only [List.length_drop, List.length_take]; rfl)) ?_
              with_reducible refine (slices_Contains_int_int.calls k2 _ _ t230 x42_2 false _ ?side1 ?side2 A29.out).mono ?_
              (case side1 => repeat (first | exact (Kd.R_reads' HO_7.out).2.2 | (with_reducible refine Kd.C_alloc ?_ _) | (with_reducible refine Kd.C_drewN ?_ _) | (with_reducible refine Kd.C_drew ?_)))
              (case side2 => exact (Kd.R_reads' HO_7.out).2.1)
              rintro e w' ⟨rfl, ⟨nd, rfl⟩⟩
              refine ⟨_, rfl, ?_⟩
              refine hK.out _ _ ⟨(blk_cell BK235.out 0).trans rfl, (blk_cell BK235.out 1).trans rfl, (blk_cell BK235.out 2).trans rfl, (blk_cell BK235.out 3).trans rfl, (blk_cell BK235.out 4).trans rfl, (blk_cell BK235.out 5).trans rfl, (blk_cell BK235.out 6).trans rfl⟩ (fun hHeld => ?_)
              clear hK K
              refine norm_ (a' := ?_) ?_ ?_
              rotate_left
              ·show Act.put _ (some 51) _ = _
               simp only [Act.put, List.setIfInBounds_toArray, List.set_cons_zero, List.set_cons_succ, i64_w, i32_w]
               rfl
              refine pu_ 5 (some 52) (ba_ 12 63) rfl rfl (any_of HT_.out (by kernel_rfl)) ?_
              refine pu_ 6 (some 53) (ba_ 12 127) rfl rfl (any_of HT_.out (by kernel_rfl)) ?_
              refine pu_ 7 (some 54) (ba_ 12 255) rfl rfl (any_of HT_.out (by kernel_rfl)) ?_
              refine ta_ 8 (some 55) (ba_ 12 511) rfl rfl (take_ofW HT_.out HW_.out (by kernel_rfl)) hHeld (by rintro w' ⟨s0, s1, s2, s3, s4, s5, s6⟩; go_simp; with_reducible rfl) ?_
              refine one_ (i := 9) (N := some 56) (ba_ 12 1023) rfl rfl (one_of HT_.out (by kernel_rfl)) (by decide) (fun K hK => ?_)
              refine goes_ Try.func120 (by kernel_rfl) rfl #[] (by rfl) rfl rfl (by (try simp only [List.map_toArray, List.map_cons, List.map_nil]); first | done | rfl | (simp only [List.length_drop, List.length_take]; rfl)) ?_
              with_reducible refine (impl_unused.calls  t237 t238 t239 t240 t241 t242 t243 _ A38.out).mono ?_
              rintro e w55 ⟨rfl, hb⟩
              refine ⟨_, rfl, ?_⟩
              have n0_ := Aside0.mk (Kd.R_below (by (with_reducible repeat (first | apply Kd.R_alloc | apply Kd.R_drewN | apply Kd.R_drew)); exact HO_6.out) hb)
              have n1_ := Aside0.mk (Kd.R_below (by (with_reducible repeat (first | apply Kd.R_alloc | apply Kd.R_drewN | apply Kd.R_drew)); exact HO_7.out) hb)
              have n2_ := Aside0.mk (blk_below (g := gb223) (o := .cells #[.slice (some ad225) l0_0.length c0_0] 29 (0, 0)) (by (with_reducible repeat (first | refine blk_drewN ?_ _ | refine blk_drew ?_ | refine blk_alloc ?_ _)); exact BK223.out) hb)
              have n3_ := Aside0.mk (blk_below (g := gb226) (o := .cells #[.bool ((rd_T99 l0_0 0).f0), .int .i64 ((rd_T99 l0_0 0).f1), .int .i64 ((rd_T99 l0_0 0).f2), .int .i64 ((rd_T99 l0_0 0).f3), .int .i64 ((rd_T99 l0_0 0).f4), .int .i64 ((rd_T99 l0_0 0).f5), .int .i64 ((rd_T99 l0_0 0).f6)] 99 (0, 0)) (by (with_reducible repeat (first | refine blk_drewN ?_ _ | refine blk_drew ?_ | refine blk_alloc ?_ _)); exact BK226.out) hb)
              have n4_ := Aside0.mk (blk_below (g := gb235) (o := .cells #[.bool ((rd_T99 l0_0 x42_2).f0), .int .i64 ((rd_T99 l0_0 x42_2).f1), .int .i64 ((rd_T99 l0_0 x42_2).f2), .int .i64 ((rd_T99 l0_0 x42_2).f3), .int .i64 ((rd_T99 l0_0 x42_2).f4), .int .i64 ((rd_T99 l0_0 x42_2).f5), .int .i64 ((rd_T99 l0_0 x42_2).f6)] 99 (0, 0)) (by (with_reducible repeat (first | refine blk_drewN ?_ _ | refine blk_drew ?_ | refine blk_alloc ?_ _)); exact BK235.out) hb)
              have n5_ := Aside0.mk (below_step (by repeat (first | (with_reducible first | exact HB.out | apply below_alloc | apply pw_below_drewN | apply below_drew1 | refine below_set ?_ GE223.out | refine below_set ?_ GE226.out | refine below_set ?_ GE235.out) | exact HB.out)) hb)
              clear HO_6
              clear HO_7
              clear BK223
              clear BK226
              clear BK235
              clear HB
              have HO_6 := n0_
              have HO_7 := n1_
              have BK223 := n2_
              have BK226 := n3_
              have BK235 := n4_
              have HB := n5_
              clear n0_ n1_ n2_ n3_ n4_ n5_
              (try clear hb)
              (try clear hb2)
              (try clear hk)
              (try clear hi)
              refine hK.out _ _ ⟨(blk_cell BK235.out 0).trans rfl, (blk_cell BK235.out 1).trans rfl, (blk_cell BK235.out 2).trans rfl, (blk_cell BK235.out 3).trans rfl, (blk_cell BK235.out 4).trans rfl, (blk_cell BK235.out 5).trans rfl, (blk_cell BK235.out 6).trans rfl⟩ (fun hHeld => ?_)
              clear hK K
              refine norm_ (a' := ?_) ?_ ?_
              rotate_left
              ·show Act.put _ (some 56) _ = _
               simp only [Act.put, List.setIfInBounds_toArray, List.set_cons_zero, List.set_cons_succ, i64_w, i32_w]
               rfl
              refine pu_ 10 (some 57) (ba_ 12 2047) rfl rfl (any_of HT_.out (by kernel_rfl)) ?_
              refine pu_ 11 (some 58) (ba_ 12 4095) rfl rfl (any_of HT_.out (by kernel_rfl)) ?_
              refine done_ (done_of HT_.out (by kernel_rfl)) ?_
              try go_wp2
              go_roundg k2
              case measure => have := HJ4.out; have := HK2.out; omega
              case rel => exact ⟨(true), (wrap64 (x42_2 + 1)), (by first | rfl | (simp; done) | (simp [*]; done)), (by first | rfl | (simp; done) | (simp [*]; done)), H', ⟨by have := HJ4.out; have := HK2.out; omega⟩, ⟨by (with_reducible repeat (first | apply Kd.R_alloc | apply Kd.R_drewN | apply Kd.R_drew)); exact HO_6.out⟩, ⟨by (with_reducible repeat (first | apply Kd.R_alloc | apply Kd.R_drewN | apply Kd.R_drew)); exact HO_7.out⟩, ⟨by (with_reducible repeat (first | refine blk_drewN ?_ _ | refine blk_drew ?_ | refine blk_alloc ?_ _)); exact BK223.out⟩, ⟨by (with_reducible repeat (first | refine blk_drewN ?_ _ | refine blk_drew ?_ | refine blk_alloc ?_ _)); exact BK226.out⟩, ⟨by repeat (first | (with_reducible first | exact HB.out | apply below_alloc | apply pw_below_drewN | apply below_drew1 | refine below_set ?_ GE223.out | refine below_set ?_ GE226.out | refine below_set ?_ GE235.out) | exact HB.out)⟩⟩
           ·replace c28 := Bool.eq_false_iff.mpr c28
            subst c28
            have H1 : (impl_Dom_walked.l0 k2 t227 t230 false l0_0 (l0_0.length : Int) (wrap64 (x42_2 + 1))) = some (r1, r2, r3) := by rw [if_neg (show ¬ (false = true) by decide)] at H; exact H
            clear H
            have H := H1
            clear H1
            have H' := Aside0.mk H
            clear H
            have p234 : 0 ≤ (x42_2 : Int) := of_decide_eq_true (by first | (with_reducible assumption) | assumption)
            have q234 : x42_2 < (l0_0.length : Int) := of_decide_eq_true (by first | (with_reducible assumption) | assumption)
            obtain ⟨ad234, e234, hx234_0, hx234_1, hx234_2, hx234_3, hx234_4, hx234_5, hx234_6⟩ := at_T99 HR0_0.out x42_2 p234 q234
            obtain rfl : ad225 = ad234 := (by injection e234)
            replace hx234_0 := (HB.out.cell (World.block_lt_of_cell? w _ hx234_0)).trans hx234_0
            replace hx234_1 := (HB.out.cell (World.block_lt_of_cell? w _ hx234_1)).trans hx234_1
            replace hx234_2 := (HB.out.cell (World.block_lt_of_cell? w _ hx234_2)).trans hx234_2
            replace hx234_3 := (HB.out.cell (World.block_lt_of_cell? w _ hx234_3)).trans hx234_3
            replace hx234_4 := (HB.out.cell (World.block_lt_of_cell? w _ hx234_4)).trans hx234_4
            replace hx234_5 := (HB.out.cell (World.block_lt_of_cell? w _ hx234_5)).trans hx234_5
            replace hx234_6 := (HB.out.cell (World.block_lt_of_cell? w _ hx234_6)).trans hx234_6
            replace p234 := eq_true p234
            replace q234 := eq_true q234
            try go_wp2_with (first | ((with_reducible refine gate_dst (N := 10) rfl ?_); refine box_event ?hg (N := 10) ?hd (cs := #[.bool false, .int .i64 0, .int .i64 0, .int .i64 0, .int .i64 0, .int .i64 0, .int .i64 0]) (t := 99) ?hr ?_; (case hd => rfl); (case hg => rfl); (case hr => first | (go_simp; done) | (go_simp; rfl)); intro gb235 hg w56 hbox hb; have n0_ := Aside0.mk (Kd.R_below (by (with_reducible repeat (first | apply Kd.R_alloc | apply Kd.R_drewN | apply Kd.R_drew)); exact HO_6.out) hb); have n1_ := Aside0.mk (Kd.R_below (by (with_reducible repeat (first | apply Kd.R_alloc | apply Kd.R_drewN | apply Kd.R_drew)); exact HO_7.out) hb); have n2_ := Aside0.mk (blk_below (g := gb223) (o := .cells #[.slice (some ad225) l0_0.length c0_0] 29 (0, 0)) (by (with_reducible repeat (first | refine blk_drewN ?_ _ | refine blk_drew ?_ | refine blk_alloc ?_ _)); exact BK223.out) hb); have n3_ := Aside0.mk (blk_below (g := gb226) (o := .cells #[.bool ((rd_T99 l0_0 0).f0), .int .i64 ((rd_T99 l0_0 0).f1), .int .i64 ((rd_T99 l0_0 0).f2), .int .i64 ((rd_T99 l0_0 0).f3), .int .i64 ((rd_T99 l0_0 0).f4), .int .i64 ((rd_T99 l0_0 0).f5), .int .i64 ((rd_T99 l0_0 0).f6)] 99 (0, 0)) (by (with_reducible repeat (first | refine blk_drewN ?_ _ | refine blk_drew ?_ | refine blk_alloc ?_ _)); exact BK226.out) hb); have n4_ := Aside0.mk (below_step (by repeat (first | (with_reducible first | exact HB.out | apply below_alloc | apply pw_below_drewN | apply below_drew1 | refine below_set ?_ GE223.out | refine below_set ?_ GE226.out) | exact HB.out)) hb); have n5_ := Aside0.mk (hbox); have n6_ := Aside0.mk ((by rw [hg]; exact (below_size (by repeat (first | (with_reducible first | exact HB.out | apply below_alloc | apply pw_below_drewN | apply below_drew1 | refine below_set ?_ GE223.out | refine below_set ?_ GE226.out) | exact HB.out))) : w.heap.size ≤ gb235)); have n7_ := Aside0.mk ((by rw [hg]; exact (below_size (by repeat (first | (with_reducible first | exact HB.out | apply below_alloc | apply pw_below_drewN | apply below_drew1 | refine below_set ?_ GE223.out | refine below_set ?_ GE226.out) | exact HB.out))) : w.heap.size ≤ gb235)); have n8_ := Aside0.mk ((by rw [hg]; exact Nat.ne_of_lt (blk_lt (g := gb223) (o := .cells #[.slice (some ad225) l0_0.length c0_0] 29 (0, 0)) (by (with_reducible repeat (first | refine blk_drewN ?_ _ | refine blk_drew ?_ | refine blk_alloc ?_ _)); exact BK223.out)) : gb223 ≠ gb235)); have n9_ := Aside0.mk ((by rw [hg]; exact Nat.ne_of_gt (blk_lt (g := gb223) (o := .cells #[.slice (some ad225) l0_0.length c0_0] 29 (0, 0)) (by (with_reducible repeat (first | refine blk_drewN ?_ _ | refine blk_drew ?_ | refine blk_alloc ?_ _)); exact BK223.out)) : gb235 ≠ gb223)); have n10_ := Aside0.mk ((by rw [hg]; exact Nat.ne_of_lt (blk_lt (g := gb226) (o := .cells #[.bool ((rd_T99 l0_0 0).f0), .int .i64 ((rd_T99 l0_0 0).f1), .int .i64 ((rd_T99 l0_0 0).f2), .int .i64 ((rd_T99 l0_0 0).f3), .int .i64 ((rd_T99 l0_0 0).f4), .int .i64 ((rd_T99 l0_0 0).f5), .int .i64 ((rd_T99 l0_0 0).f6)] 99 (0, 0)) (by (with_reducible repeat (first | refine blk_drewN ?_ _ | refine blk_drew ?_ | refine blk_alloc ?_ _)); exact BK226.out)) : gb226 ≠ gb235)); have n11_ := Aside0.mk ((by rw [hg]; exact Nat.ne_of_gt (blk_lt (g := gb226) (o := .cells #[.bool ((rd_T99 l0_0 0).f0), .int .i64 ((rd_T99 l0_0 0).f1), .int .i64 ((rd_T99 l0_0 0).f2), .int .i64 ((rd_T99 l0_0 0).f3), .int .i64 ((rd_T99 l0_0 0).f4), .int .i64 ((rd_T99 l0_0 0).f5), .int .i64 ((rd_T99 l0_0 0).f6)] 99 (0, 0)) (by (with_reducible repeat (first | refine blk_drewN ?_ _ | refine blk_drew ?_ | refine blk_alloc ?_ _)); exact BK226.out)) : gb235 ≠ gb226)); clear HO_6; clear HO_7; clear BK223; clear BK226; clear HB; have HO_6 := n0_; have HO_7 := n1_; have BK223 := n2_; have BK226 := n3_; have HB := n4_; have BK235 := n5_; have GW235 := n6_; have GE235 := n7_; have NB223_235 := n8_; have NB235_223 := n9_; have NB226_235 := n10_; have NB235_226 := n11_; clear n0_ n1_ n2_ n3_ n4_ n5_ n6_ n7_ n8_ n9_ n10_ n11_; clear hb hbox hg; have hnb57 := NB235_223.out; have hnc57 := NB223_235.out; have hnb58 := NB235_226.out; have hnc58 := NB226_235.out; have hcz59_0 : w56.cell? ⟨gb235, 0, none⟩ = some (.bool false) := (blk_cell BK235.out 0).trans rfl; have hcz59_1 : w56.cell? ⟨gb235, 1, none⟩ = some (.int .i64 0) := (blk_cell BK235.out 1).trans rfl; have hcz59_2 : w56.cell? ⟨gb235, 2, none⟩ = some (.int .i64 0) := (blk_cell BK235.out 2).trans rfl; have hcz59_3 : w56.cell? ⟨gb235, 3, none⟩ = some (.int .i64 0) := (blk_cell BK235.out 3).trans rfl; have hcz59_4 : w56.cell? ⟨gb235, 4, none⟩ = some (.int .i64 0) := (blk_cell BK235.out 4).trans rfl; have hcz59_5 : w56.cell? ⟨gb235, 5, none⟩ = some (.int .i64 0) := (blk_cell BK235.out 5).trans rfl; have hcz59_6 : w56.cell? ⟨gb235, 6, none⟩ = some (.int .i64 0) := (blk_cell BK235.out 6).trans rfl; have hfz59_0 := blk_frozen BK235.out 0; have hfz59_1 := blk_frozen BK235.out 1; have hfz59_2 := blk_frozen BK235.out 2; have hfz59_3 := blk_frozen BK235.out 3; have hfz59_4 := blk_frozen BK235.out 4; have hfz59_5 := blk_frozen BK235.out 5; have hfz59_6 := blk_frozen BK235.out 6))
            have n0_ : Aside0 (Kd.R k90 90 (((((((w56.setCell ⟨gb235, 0, none⟩ (.bool ((rd_T99 l0_0 x42_2).f0))).setCell ⟨gb235, 1, none⟩ (.int .i64 ((rd_T99 l0_0 x42_2).f1))).setCell ⟨gb235, 2, none⟩ (.int .i64 ((rd_T99 l0_0 x42_2).f2))).setCell ⟨gb235, 3, none⟩ (.int .i64 ((rd_T99 l0_0 x42_2).f3))).setCell ⟨gb235, 4, none⟩ (.int .i64 ((rd_T99 l0_0 x42_2).f4))).setCell ⟨gb235, 5, none⟩ (.int .i64 ((rd_T99 l0_0 x42_2).f5))).setCell ⟨gb235, 6, none⟩ (.int .i64 ((rd_T99 l0_0 x42_2).f6))) w.heap.size (fun _ => True) v228 t227) := ⟨by (with_reducible repeat (first | apply Kd.R_alloc | apply Kd.R_drewN | apply Kd.R_drew)); exact Kd.R_mono (Kd.R_far (p := ⟨gb235, 6, none⟩) (Kd.R_far (p := ⟨gb235, 5, none⟩) (Kd.R_far (p := ⟨gb235, 4, none⟩) (Kd.R_far (p := ⟨gb235, 3, none⟩) (Kd.R_far (p := ⟨gb235, 2, none⟩) (Kd.R_far (p := ⟨gb235, 1, none⟩) (Kd.R_far (p := ⟨gb235, 0, none⟩) (Kd.R_types HO_6.out BK235.out (by decide)) (fun _ hk => hk.2) (.bool ((rd_T99 l0_0 x42_2).f0))) (fun _ hk => hk.2) (.int .i64 ((rd_T99 l0_0 x42_2).f1))) (fun _ hk => hk.2) (.int .i64 ((rd_T99 l0_0 x42_2).f2))) (fun _ hk => hk.2) (.int .i64 ((rd_T99 l0_0 x42_2).f3))) (fun _ hk => hk.2) (.int .i64 ((rd_T99 l0_0 x42_2).f4))) (fun _ hk => hk.2) (.int .i64 ((rd_T99 l0_0 x42_2).f5))) (fun _ hk => hk.2) (.int .i64 ((rd_T99 l0_0 x42_2).f6))) (fun _ hk => trivial)⟩
            have n1_ : Aside0 (Kd.R (Kd.int .i64) 3 (((((((w56.setCell ⟨gb235, 0, none⟩ (.bool ((rd_T99 l0_0 x42_2).f0))).setCell ⟨gb235, 1, none⟩ (.int .i64 ((rd_T99 l0_0 x42_2).f1))).setCell ⟨gb235, 2, none⟩ (.int .i64 ((rd_T99 l0_0 x42_2).f2))).setCell ⟨gb235, 3, none⟩ (.int .i64 ((rd_T99 l0_0 x42_2).f3))).setCell ⟨gb235, 4, none⟩ (.int .i64 ((rd_T99 l0_0 x42_2).f4))).setCell ⟨gb235, 5, none⟩ (.int .i64 ((rd_T99 l0_0 x42_2).f5))).setCell ⟨gb235, 6, none⟩ (.int .i64 ((rd_T99 l0_0 x42_2).f6))) w.heap.size (fun _ => True) v231 t230) := ⟨by (with_reducible repeat (first | apply Kd.R_alloc | apply Kd.R_drewN | apply Kd.R_drew)); exact Kd.R_mono (Kd.R_far (p := ⟨gb235, 6, none⟩) (Kd.R_far (p := ⟨gb235, 5, none⟩) (Kd.R_far (p := ⟨gb235, 4, none⟩) (Kd.R_far (p := ⟨gb235, 3, none⟩) (Kd.R_far (p := ⟨gb235, 2, none⟩) (Kd.R_far (p := ⟨gb235, 1, none⟩) (Kd.R_far (p := ⟨gb235, 0, none⟩) (Kd.R_types HO_7.out BK235.out (by decide)) (fun _ hk => hk.2) (.bool ((rd_T99 l0_0 x42_2).f0))) (fun _ hk => hk.2) (.int .i64 ((rd_T99 l0_0 x42_2).f1))) (fun _ hk => hk.2) (.int .i64 ((rd_T99 l0_0 x42_2).f2))) (fun _ hk => hk.2) (.int .i64 ((rd_T99 l0_0 x42_2).f3))) (fun _ hk => hk.2) (.int .i64 ((rd_T99 l0_0 x42_2).f4))) (fun _ hk => hk.2) (.int .i64 ((rd_T99 l0_0 x42_2).f5))) (fun _ hk => hk.2) (.int .i64 ((rd_T99 l0_0 x42_2).f6))) (fun _ hk => trivial)⟩
            have n2_ : Aside0 ((((((((w56.setCell ⟨gb235, 0, none⟩ (.bool ((rd_T99 l0_0 x42_2).f0))).setCell ⟨gb235, 1, none⟩ (.int .i64 ((rd_T99 l0_0 x42_2).f1))).setCell ⟨gb235, 2, none⟩ (.int .i64 ((rd_T99 l0_0 x42_2).f2))).setCell ⟨gb235, 3, none⟩ (.int .i64 ((rd_T99 l0_0 x42_2).f3))).setCell ⟨gb235, 4, none⟩ (.int .i64 ((rd_T99 l0_0 x42_2).f4))).setCell ⟨gb235, 5, none⟩ (.int .i64 ((rd_T99 l0_0 x42_2).f5))).setCell ⟨gb235, 6, none⟩ (.int .i64 ((rd_T99 l0_0 x42_2).f6))).heap[gb223]? = some (.cells #[.slice (some ad225) l0_0.length c0_0] 29 (0, 0))) := ⟨by (with_reducible repeat (first | refine blk_drewN ?_ _ | refine blk_drew ?_ | refine blk_alloc ?_ _)); refine blk_far ?_ NB223_235.out _; (with_reducible repeat (first | refine blk_drewN ?_ _ | refine blk_drew ?_ | refine blk_alloc ?_ _)); refine blk_far ?_ NB223_235.out _; (with_reducible repeat (first | refine blk_drewN ?_ _ | refine blk_drew ?_ | refine blk_alloc ?_ _)); refine blk_far ?_ NB223_235.out _; (with_reducible repeat (first | refine blk_drewN ?_ _ | refine blk_drew ?_ | refine blk_alloc ?_ _)); refine blk_far ?_ NB223_235.out _; (with_reducible repeat (first | refine blk_drewN ?_ _ | refine blk_drew ?_ | refine blk_alloc ?_ _)); refine blk_far ?_ NB223_235.out _; (with_reducible repeat (first | refine blk_drewN ?_ _ | refine blk_drew ?_ | refine blk_alloc ?_ _)); refine blk_far ?_ NB223_235.out _; (with_reducible repeat (first | refine blk_drewN ?_ _ | refine blk_drew ?_ | refine blk_alloc ?_ _)); refine blk_far ?_ NB223_235.out _; (with_reducible repeat (first | refine blk_drewN ?_ _ | refine blk_drew ?_ | refine blk_alloc ?_ _)); exact BK223.out⟩
            have n3_ : Aside0 ((((((((w56.setCell ⟨gb235, 0, none⟩ (.bool ((rd_T99 l0_0 x42_2).f0))).setCell ⟨gb235, 1, none⟩ (.int .i64 ((rd_T99 l0_0 x42_2).f1))).setCell ⟨gb235, 2, none⟩ (.int .i64 ((rd_T99 l0_0 x42_2).f2))).setCell ⟨gb235, 3, none⟩ (.int .i64 ((rd_T99 l0_0 x42_2).f3))).setCell ⟨gb235, 4, none⟩ (.int .i64 ((rd_T99 l0_0 x42_2).f4))).setCell ⟨gb235, 5, none⟩ (.int .i64 ((rd_T99 l0_0 x42_2).f5))).setCell ⟨gb235, 6, none⟩ (.int .i64 ((rd_T99 l0_0 x42_2).f6))).heap[gb226]? = some (.cells #[.bool ((rd_T99 l0_0 0).f0), .int .i64 ((rd_T99 l0_0 0).f1), .int .i64 ((rd_T99 l0_0 0).f2), .int .i64 ((rd_T99 l0_0 0).f3), .int .i64 ((rd_T99 l0_0 0).f4), .int .i64 ((rd_T99 l0_0 0).f5), .int .i64 ((rd_T99 l0_0 0).f6)] 99 (0, 0))) := ⟨by (with_reducible repeat (first | refine blk_drewN ?_ _ | refine blk_drew ?_ | refine blk_alloc ?_ _)); refine blk_far ?_ NB226_235.out _; (with_reducible repeat (first | refine blk_drewN ?_ _ | refine blk_drew ?_ | refine blk_alloc ?_ _)); refine blk_far ?_ NB226_235.out _; (with_reducible repeat (first | refine blk_drewN ?_ _ | refine blk_drew ?_ | refine blk_alloc ?_ _)); refine blk_far ?_ NB226_235.out _; (with_reducible repeat (first | refine blk_drewN ?_ _ | refine blk_drew ?_ | refine blk_alloc ?_ _)); refine blk_far ?_ NB226_235.out _; (with_reducible repeat (first | refine blk_drewN ?_ _ | refine blk_drew ?_ | refine blk_alloc ?_ _)); refine blk_far ?_ NB226_235.out _; (with_reducible repeat (first | refine blk_drewN ?_ _ | refine blk_drew ?_ | refine blk_alloc ?_ _)); refine blk_far ?_ NB226_235.out _; (with_reducible repeat (first | refine blk_drewN ?_ _ | refine blk_drew ?_ | refine blk_alloc ?_ _)); refine blk_far ?_ NB226_235.out _; (with_reducible repeat (first | refine blk_drewN ?_ _ | refine blk_drew ?_ | refine blk_alloc ?_ _)); exact BK226.out⟩
            have n4_ : Aside0 ((((((((w56.setCell ⟨gb235, 0, none⟩ (.bool ((rd_T99 l0_0 x42_2).f0))).setCell ⟨gb235, 1, none⟩ (.int .i64 ((rd_T99 l0_0 x42_2).f1))).setCell ⟨gb235, 2, none⟩ (.int .i64 ((rd_T99 l0_0 x42_2).f2))).setCell ⟨gb235, 3, none⟩ (.int .i64 ((rd_T99 l0_0 x42_2).f3))).setCell ⟨gb235, 4, none⟩ (.int .i64 ((rd_T99 l0_0 x42_2).f4))).setCell ⟨gb235, 5, none⟩ (.int .i64 ((rd_T99 l0_0 x42_2).f5))).setCell ⟨gb235, 6, none⟩ (.int .i64 ((rd_T99 l0_0 x42_2).f6))).heap[gb235]? = some (.cells #[.bool ((rd_T99 l0_0 x42_2).f0), .int .i64 ((rd_T99 l0_0 x42_2).f1), .int .i64 ((rd_T99 l0_0 x42_2).f2), .int .i64 ((rd_T99 l0_0 x42_2).f3), .int .i64 ((rd_T99 l0_0 x42_2).f4), .int .i64 ((rd_T99 l0_0 x42_2).f5), .int .i64 ((rd_T99 l0_0 x42_2).f6)] 99 (0, 0))) := ⟨by (with_reducible repeat (first | refine blk_drewN ?_ _ | refine blk_drew ?_ | refine blk_alloc ?_ _)); refine blk_put (cs := #[.bool ((rd_T99 l0_0 x42_2).f0), .int .i64 ((rd_T99 l0_0 x42_2).f1), .int .i64 ((rd_T99 l0_0 x42_2).f2), .int .i64 ((rd_T99 l0_0 x42_2).f3), .int .i64 ((rd_T99 l0_0 x42_2).f4), .int .i64 ((rd_T99 l0_0 x42_2).f5), .int .i64 0]) ?_ 6 _ rfl; (with_reducible repeat (first | refine blk_drewN ?_ _ | refine blk_drew ?_ | refine blk_alloc ?_ _)); refine blk_put (cs := #[.bool ((rd_T99 l0_0 x42_2).f0), .int .i64 ((rd_T99 l0_0 x42_2).f1), .int .i64 ((rd_T99 l0_0 x42_2).f2), .int .i64 ((rd_T99 l0_0 x42_2).f3), .int .i64 ((rd_T99 l0_0 x42_2).f4), .int .i64 0, .int .i64 0]) ?_ 5 _ rfl; (with_reducible repeat (first | refine blk_drewN ?_ _ | refine blk_drew ?_ | refine blk_alloc ?_ _)); refine blk_put (cs := #[.bool ((rd_T99 l0_0 x42_2).f0), .int .i64 ((rd_T99 l0_0 x42_2).f1), .int .i64 ((rd_T99 l0_0 x42_2).f2), .int .i64 ((rd_T99 l0_0 x42_2).f3), .int .i64 0, .int .i64 0, .int .i64 0]) ?_ 4 _ rfl; (with_reducible repeat (first | refine blk_drewN ?_ _ | refine blk_drew ?_ | refine blk_alloc ?_ _)); refine blk_put (cs := #[.bool ((rd_T99 l0_0 x42_2).f0), .int .i64 ((rd_T99 l0_0 x42_2).f1), .int .i64 ((rd_T99 l0_0 x42_2).f2), .int .i64 0, .int .i64 0, .int .i64 0, .int .i64 0]) ?_ 3 _ rfl; (with_reducible repeat (first | refine blk_drewN ?_ _ | refine blk_drew ?_ | refine blk_alloc ?_ _)); refine blk_put (cs := #[.bool ((rd_T99 l0_0 x42_2).f0), .int .i64 ((rd_T99 l0_0 x42_2).f1), .int .i64 0, .int .i64 0, .int .i64 0, .int .i64 0, .int .i64 0]) ?_ 2 _ rfl; (with_reducible repeat (first | refine blk_drewN ?_ _ | refine blk_drew ?_ | refine blk_alloc ?_ _)); refine blk_put (cs := #[.bool ((rd_T99 l0_0 x42_2).f0), .int .i64 0, .int .i64 0, .int .i64 0, .int .i64 0, .int .i64 0, .int .i64 0]) ?_ 1 _ rfl; (with_reducible repeat (first | refine blk_drewN ?_ _ | refine blk_drew ?_ | refine blk_alloc ?_ _)); refine blk_put (cs := #[.bool false, .int .i64 0, .int .i64 0, .int .i64 0, .int .i64 0, .int .i64 0, .int .i64 0]) ?_ 0 _ rfl; (with_reducible repeat (first | refine blk_drewN ?_ _ | refine blk_drew ?_ | refine blk_alloc ?_ _)); exact BK235.out⟩
            have n5_ : Aside0 (Below w.heap.size w (((((((w56.setCell ⟨gb235, 0, none⟩ (.bool ((rd_T99 l0_0 x42_2).f0))).setCell ⟨gb235, 1, none⟩ (.int .i64 ((rd_T99 l0_0 x42_2).f1))).setCell ⟨gb235, 2, none⟩ (.int .i64 ((rd_T99 l0_0 x42_2).f2))).setCell ⟨gb235, 3, none⟩ (.int .i64 ((rd_T99 l0_0 x42_2).f3))).setCell ⟨gb235, 4, none⟩ (.int .i64 ((rd_T99 l0_0 x42_2).f4))).setCell ⟨gb235, 5, none⟩ (.int .i64 ((rd_T99 l0_0 x42_2).f5))).setCell ⟨gb235, 6, none⟩ (.int .i64 ((rd_T99 l0_0 x42_2).f6)))) := ⟨by repeat (first | (with_reducible first | exact HB.out | apply below_alloc | apply pw_below_drewN | apply below_drew1 | refine below_set ?_ GE223.out | refine below_set ?_ GE226.out | refine below_set ?_ GE235.out) | exact HB.out)⟩
            (try clear HO_6)
            (try clear HO_7)
            (try clear BK223)
            (try clear BK226)
            (try clear BK235)
            (try clear HB)
            generalize (((((((w56.setCell ⟨gb235, 0, none⟩ (.bool ((rd_T99 l0_0 x42_2).f0))).setCell ⟨gb235, 1, none⟩ (.int .i64 ((rd_T99 l0_0 x42_2).f1))).setCell ⟨gb235, 2, none⟩ (.int .i64 ((rd_T99 l0_0 x42_2).f2))).setCell ⟨gb235, 3, none⟩ (.int .i64 ((rd_T99 l0_0 x42_2).f3))).setCell ⟨gb235, 4, none⟩ (.int .i64 ((rd_T99 l0_0 x42_2).f4))).setCell ⟨gb235, 5, none⟩ (.int .i64 ((rd_T99 l0_0 x42_2).f5))).setCell ⟨gb235, 6, none⟩ (.int .i64 ((rd_T99 l0_0 x42_2).f6))) = w60 at n0_ n1_ n2_ n3_ n4_ n5_ ⊢
            have HO_6 := n0_
            have HO_7 := n1_
            have BK223 := n2_
            have BK226 := n3_
            have BK235 := n4_
            have HB := n5_
            clear n0_ n1_ n2_ n3_ n4_ n5_
            have n0_ := Aside0.mk (Kd.R_drew HO_6.out)
            have n1_ := Aside0.mk (Kd.R_drew HO_7.out)
            have n2_ := Aside0.mk (blk_drew BK223.out)
            have n3_ := Aside0.mk (blk_drew BK226.out)
            have n4_ := Aside0.mk (blk_drew BK235.out)
            have n5_ := Aside0.mk (below_drew1 HB.out)
            clear HO_6
            clear HO_7
            clear BK223
            clear BK226
            clear BK235
            clear HB
            have HO_6 := n0_
            have HO_7 := n1_
            have BK223 := n2_
            have BK226 := n3_
            have BK235 := n4_
            have HB := n5_
            clear n0_ n1_ n2_ n3_ n4_ n5_
            refine start_ (n := 12) (S := fun w' => True) (ds := []) (ba_ 12 0) (by kernel_rfl) rfl rfl trivial (fun hHeld => ?_); refine with_tabW impl_Dom_walked.tab10 impl_Dom_walked.bits10 (fun HT_ HW_ => ?_)
            generalize w60.drew = w61 at HO_6 HO_7 BK223 BK226 BK235 HB hHeld ⊢
            refine pu_ 0 (some 47) (ba_ 12 1) rfl rfl (any_of HT_.out (by kernel_rfl)) ?_
            refine pu_ 1 (some 48) (ba_ 12 3) rfl rfl (any_of HT_.out (by kernel_rfl)) ?_
            refine pn_ 2 (some 49) (ba_ 12 7) rfl rfl (any_of HT_.out (by kernel_rfl)) ?_
            refine pn_ 3 (some 50) (ba_ 12 15) rfl rfl (any_of HT_.out (by kernel_rfl)) ?_
            refine pn_ 4 (some 51) (ba_ 12 31) rfl rfl (any_of HT_.out (by kernel_rfl)) ?_
            refine pn_ 5 (some 52) (ba_ 12 63) rfl rfl (any_of HT_.out (by kernel_rfl)) ?_
            refine pu_ 6 (some 53) (ba_ 12 127) rfl rfl (any_of HT_.out (by kernel_rfl)) ?_
            refine pu_ 7 (some 54) (ba_ 12 255) rfl rfl (any_of HT_.out (by kernel_rfl)) ?_
            refine pn_ 8 (some 55) (ba_ 12 511) rfl rfl (any_of HT_.out (by kernel_rfl)) ?_
            refine pn_ 9 (some 56) (ba_ 12 1023) rfl rfl (any_of HT_.out (by kernel_rfl)) ?_
            refine pn_ 10 (some 57) (ba_ 12 2047) rfl rfl (any_of HT_.out (by kernel_rfl)) ?_
            refine pu_ 11 (some 58) (ba_ 12 4095) rfl rfl (any_of HT_.out (by kernel_rfl)) ?_
            refine done_ (done_of HT_.out (by kernel_rfl)) ?_
            try go_wp2
            go_roundg k2
            case measure => have := HJ4.out; have := HK2.out; omega
            case rel => exact ⟨(false), (wrap64 (x42_2 + 1)), (by first | rfl | (simp; done) | (simp [*]; done)), (by first | rfl | (simp; done) | (simp [*]; done)), H', ⟨by have := HJ4.out; have := HK2.out; omega⟩, ⟨by (with_reducible repeat (first | apply Kd.R_alloc | apply Kd.R_drewN | apply Kd.R_drew)); exact HO_6.out⟩, ⟨by (with_reducible repeat (first | apply Kd.R_alloc | apply Kd.R_drewN | apply Kd.R_drew)); exact HO_7.out⟩, ⟨by (with_reducible repeat (first | refine blk_drewN ?_ _ | refine blk_drew ?_ | refine blk_alloc ?_ _)); exact BK223.out⟩, ⟨by (with_reducible repeat (first | refine blk_drewN ?_ _ | refine blk_drew ?_ | refine blk_alloc ?_ _)); exact BK226.out⟩, ⟨by repeat (first | (with_reducible first | exact HB.out | apply below_alloc | apply pw_below_drewN | apply below_drew1 | refine below_set ?_ GE223.out | refine below_set ?_ GE226.out | refine below_set ?_ GE235.out) | exact HB.out)⟩⟩
          ·rw [if_neg c27] at H
           exact absurd H (by simp)
         ·rw [if_neg c26] at H
          exact absurd H (by simp)
        ·rw [if_neg c25] at H
         have c25b0 : decide (x42_2 < (l0_0.length : Int)) = false := decide_eq_false c25
         clear c25
         simp only [Option.some.injEq, Prod.mk.injEq] at H
         obtain ⟨rfl, rfl, rfl⟩ := H
         go_wp2
         go_ret3
         exact ⟨_, _, by first | rfl | (simp [errW_none, errW_some] <;> rfl) | (simp [*, errW_none, errW_some] <;> rfl), by (with_reducible repeat (first | apply Kd.R_alloc | apply Kd.R_drewN | apply Kd.R_drew)); exact HO_6.out, by (with_reducible repeat (first | apply Kd.R_alloc | apply Kd.R_drewN | apply Kd.R_drew)); exact HO_7.out, by repeat (first | (with_reducible first | exact HB.out | apply below_alloc | apply pw_below_drewN | apply below_drew1 | refine below_set ?_ GE223.out | refine below_set ?_ GE226.out) | exact HB.out)⟩
  ·rw [if_neg c4] at H
   exact absurd H (by simp)
 ·replace c3 := Bool.eq_false_iff.mpr c3
  subst c3
  have H1 : (some (([] : List (S90)), ([] : List Int), false)) = some (r1, r2, r3) := by rw [if_neg (show ¬ (false = true) by decide)] at H; exact H
  clear H
  have H := H1
  clear H1
  simp only [Option.some.injEq, Prod.mk.injEq] at H
  obtain ⟨rfl, rfl, rfl⟩ := H
  go_enter Try.func73, Try.ntmps73
  go_wp2_with (first | ((with_reducible refine gate_dst (N := 1) rfl ?_); refine box_event ?hg (N := 1) ?hd (cs := #[.slice A0_0 l0_0.length c0_0]) (t := 29) ?hr ?_; (case hd => rfl); (case hg => rfl); (case hr => first | (go_simp; done) | (go_simp; rfl)); intro gb223 hg w62 hbox hb; have n0_ := Aside0.mk (below_step (by repeat (first | (with_reducible first | exact HB.out | apply below_alloc | apply pw_below_drewN | apply below_drew1) | exact HB.out)) hb); have n1_ := Aside0.mk (hbox); have n2_ := Aside0.mk ((by rw [hg]; exact (below_size (by repeat (first | (with_reducible first | exact HB.out | apply below_alloc | apply pw_below_drewN | apply below_drew1) | exact HB.out))) : w.heap.size ≤ gb223)); have n3_ := Aside0.mk ((by rw [hg]; exact (below_size (by repeat (first | (with_reducible first | exact HB.out | apply below_alloc | apply pw_below_drewN | apply below_drew1) | exact HB.out))) : w.heap.size ≤ gb223)); clear HB; have HB := n0_; have BK223 := n1_; have GW223 := n2_; have GE223 := n3_; clear n0_ n1_ n2_ n3_; clear hb hbox hg; have hcz63_0 : w62.cell? ⟨gb223, 0, none⟩ = some (.slice A0_0 l0_0.length c0_0) := (blk_cell BK223.out 0).trans rfl; have hfz63_0 := blk_frozen BK223.out 0) | ((with_reducible refine gate_callee (f := 117) rfl ?_); refine goesL_ (some 14) rfl rfl Try.func117 (by kernel_rfl) rfl #[.int .i64 (l0_0.length : Int), .int .i64 1, .int .i64 24] rfl (by (try simp only [List.map_toArray, List.map_cons, List.map_nil]); first | done | rfl | (simp only [List.length_drop, List.length_take]; rfl)) ?_; (with_reducible refine (impl_within.calls (l0_0.length : Int) 1 24 false _ A2.out).mono ?_); rintro e w' ⟨rfl, ⟨nd, rfl⟩⟩; refine ⟨_, rfl, ?_⟩))
  go_ret3
  exact ⟨_, _, by first | rfl | (simp [errW_none, errW_some] <;> rfl) | (simp [*, errW_none, errW_some] <;> rfl), by first | exact Kd.R_nil _ _ _ _ _ | exact Kd.N_nil _ _ _ _ _ | exact Kd.V_nil _ _ _ _ _ | exact Kd.Q_nil _ _ _ _ _ | exact Kd.S_nil _ _ _ _ _, by first | exact Kd.R_nil _ _ _ _ _ | exact Kd.N_nil _ _ _ _ _ | exact Kd.V_nil _ _ _ _ _ | exact Kd.Q_nil _ _ _ _ _ | exact Kd.S_nil _ _ _ _ _, by repeat (first | (with_reducible first | exact HB.out | apply below_alloc | apply pw_below_drewN | apply below_drew1 | refine below_set ?_ GE223.out) | exact HB.out)⟩
end Go.Proofs.Ytbifdckfglejkaa.X
namespace Go.Proofs.Ytbifdckfglejkaa.X
open Go.RowKit Go.Proofs.YtbifdckfglejkaaW.PrintWords Go.Proofs.YtbifdckfglejkaaW.PrintLast Go.Proofs.YtbifdckfglejkaaW.PrintMore
attribute [local go_sem] max2_int min2_int max_two min_two max_three min_three max_four min_four   -- for this text's walks alone
set_option linter.unusedVariables false
set_option linter.unusedSimpArgs false
def impl_DomTree.f (k : Nat) (l0_0 : List (S99)) : Option ((List (S90))) := (impl_Dom_walked.f k l0_0).bind fun bt297 => (if bt297.2.2 = true then (some bt297.1) else (some (([] : List (S90)))))
set_option maxHeartbeats 8000000 in
set_option maxRecDepth 100000 in
theorem impl_DomTree.calls (k : Nat) (A0_0 : Option Addr) (c0_0 : Nat) (l0_0 : List (S99)) (r : List (S90)) (w : World) (hr0_0 : Kd.C k99 w A0_0 l0_0.length l0_0) (hc0_0 : l0_0.length ≤ c0_0) (h : impl_DomTree.f k l0_0 = some r) :
  Calls Try.prog 22 #[.agg #[.slice A0_0 l0_0.length c0_0]] w fun e w' => ∃ v0_ : Value, e = .returned (v0_) ∧ Kd.R k90 90 w' w.heap.size (fun _ => True) v0_ r ∧ Below w.heap.size w w' := by
 have hu29 := Try.underlying29
 have HR0_0 := Aside0.mk hr0_0
 have HC0_0 := Aside0.mk hc0_0
 clear hr0_0 hc0_0
 have HB := Aside0.mk (Below.refl w.heap.size w)
 have H : ((impl_Dom_walked.f k l0_0).bind fun bt297 => (if bt297.2.2 = true then (some bt297.1) else (some (([] : List (S90)))))) = some r := h
 clear h
 replace H := Option.bind_eq_some_iff.mp H
 obtain ⟨⟨t297, t300, t303⟩, A20, H⟩ := H
 replace H : (if t303 = true then (some t297) else (some (([] : List (S90))))) = some r := H
 have A2 := Aside0.mk A20
 clear A20
 by_cases c3 : t303 = true
 ·subst c3
  have H1 : (some t297) = some r := by rw [if_pos rfl] at H; exact H
  clear H
  have H := H1
  clear H1
  obtain rfl := Option.some.inj H
  go_enter Try.func22, Try.ntmps22
  go_wp2_with (first | ((with_reducible refine gate_dst (N := 1) rfl ?_); refine box_event ?hg (N := 1) ?hd (cs := #[.slice A0_0 l0_0.length c0_0]) (t := 29) ?hr ?_; (case hd => rfl); (case hg => rfl); (case hr => first | (go_simp; done) | (go_simp; rfl)); intro gb296 hg w4 hbox hb; have n0_ := Aside0.mk (below_step (by repeat (first | (with_reducible first | exact HB.out | apply below_alloc | apply pw_below_drewN | apply below_drew1) | exact HB.out)) hb); have n1_ := Aside0.mk (hbox); have n2_ := Aside0.mk ((by rw [hg]; exact (below_size (by repeat (first | (with_reducible first | exact HB.out | apply below_alloc | apply pw_below_drewN | apply below_drew1) | exact HB.out))) : w.heap.size ≤ gb296)); have n3_ := Aside0.mk ((by rw [hg]; exact (below_size (by repeat (first | (with_reducible first | exact HB.out | apply below_alloc | apply pw_below_drewN | apply below_drew1) | exact HB.out))) : w.heap.size ≤ gb296)); clear HB; have HB := n0_; have BK296 := n1_; have GW296 := n2_; have GE296 := n3_; clear n0_ n1_ n2_ n3_; clear hb hbox hg; have hcz5_0 : w4.cell? ⟨gb296, 0, none⟩ = some (.slice A0_0 l0_0.length c0_0) := (blk_cell BK296.out 0).trans rfl; have hfz5_0 := blk_frozen BK296.out 0) | ((with_reducible refine gate_callee (f := 73) rfl ?_); refine goesL_ (some 8) rfl rfl Try.func73 (by kernel_rfl) rfl #[.agg #[.slice A0_0 l0_0.length c0_0]] rfl (by (try simp only [List.map_toArray, List.map_cons, List.map_nil]); first | done | rfl | (simp only [List.length_drop, List.length_take]; rfl)) ?_; (with_reducible refine (impl_Dom_walked.calls k _ _ l0_0 t297 t300 true _ ?side1 ?side2 A2.out).mono ?_); (case side1 => repeat (first | exact (Kd.C_below HR0_0.out HB.out) | (with_reducible refine Kd.C_alloc ?_ _) | (with_reducible refine Kd.C_drewN ?_ _) | (with_reducible refine Kd.C_drew ?_))); (case side2 => exact HC0_0.out); rintro e w6 ⟨v298, v301, rfl, ho0, ho1, hb⟩; refine ⟨_, rfl, ?_⟩; have n0_ := Aside0.mk (Kd.R_lower ho0 (below_size (by repeat (first | (with_reducible first | exact HB.out | apply below_alloc | apply pw_below_drewN | apply below_drew1 | refine below_set ?_ GE296.out) | exact HB.out)))); have n1_ := Aside0.mk (Kd.R_lower ho1 (below_size (by repeat (first | (with_reducible first | exact HB.out | apply below_alloc | apply pw_below_drewN | apply below_drew1 | refine below_set ?_ GE296.out) | exact HB.out)))); have n2_ := Aside0.mk (blk_below (g := gb296) (o := .cells #[.slice A0_0 l0_0.length c0_0] 29 (0, 0)) (by (with_reducible repeat (first | refine blk_drewN ?_ _ | refine blk_drew ?_ | refine blk_alloc ?_ _)); exact BK296.out) hb); have n3_ := Aside0.mk (below_step (by repeat (first | (with_reducible first | exact HB.out | apply below_alloc | apply pw_below_drewN | apply below_drew1 | refine below_set ?_ GE296.out) | exact HB.out)) hb); clear BK296; clear HB; have HO299 := n0_; have HO302 := n1_; have BK296 := n2_; have HB := n3_; clear n0_ n1_ n2_ n3_; (try clear hb); (try clear hb2); (try clear hk); (try clear hi); (try clear ho0); (try clear ho1)))
  go_ret
  exact ⟨_, by first | rfl | (simp [errW_none, errW_some] <;> rfl) | (simp [*, errW_none, errW_some] <;> rfl), by (with_reducible repeat (first | apply Kd.R_alloc | apply Kd.R_drewN | apply Kd.R_drew)); exact HO299.out, by repeat (first | (with_reducible first | exact HB.out | apply below_alloc | apply pw_below_drewN | apply below_drew1 | refine below_set ?_ GE296.out) | exact HB.out)⟩
 ·replace c3 := Bool.eq_false_iff.mpr c3
  subst c3
  have H1 : (some (([] : List (S90)))) = some r := by rw [if_neg (show ¬ (false = true) by decide)] at H; exact H
  clear H
  have H := H1
  clear H1
  obtain ⟨y304, hy304⟩ : ∃ y_ : List (S90), y_ = (([] : List (S90))) := ⟨_, rfl⟩
  replace H : (some y304) = some r := by first | (rw [hy304]; with_reducible exact H) | (have H2_ := (Option.bind_some _ _).symm.trans H; rw [hy304]; with_reducible exact H2_) | (have H2_ := (Option.bind_some _ _).symm.trans H; with_reducible exact H2_) | with_reducible exact H | (rw [hy304]; exact H) | exact H
  have Ny304 := Aside0.mk hy304
  clear hy304
  obtain rfl := Option.some.inj H
  go_enter Try.func22, Try.ntmps22
  go_wp2_with (first | ((with_reducible refine gate_dst (N := 1) rfl ?_); refine box_event ?hg (N := 1) ?hd (cs := #[.slice A0_0 l0_0.length c0_0]) (t := 29) ?hr ?_; (case hd => rfl); (case hg => rfl); (case hr => first | (go_simp; done) | (go_simp; rfl)); intro gb296 hg w7 hbox hb; have n0_ := Aside0.mk (below_step (by repeat (first | (with_reducible first | exact HB.out | apply below_alloc | apply pw_below_drewN | apply below_drew1) | exact HB.out)) hb); have n1_ := Aside0.mk (hbox); have n2_ := Aside0.mk ((by rw [hg]; exact (below_size (by repeat (first | (with_reducible first | exact HB.out | apply below_alloc | apply pw_below_drewN | apply below_drew1) | exact HB.out))) : w.heap.size ≤ gb296)); have n3_ := Aside0.mk ((by rw [hg]; exact (below_size (by repeat (first | (with_reducible first | exact HB.out | apply below_alloc | apply pw_below_drewN | apply below_drew1) | exact HB.out))) : w.heap.size ≤ gb296)); clear HB; have HB := n0_; have BK296 := n1_; have GW296 := n2_; have GE296 := n3_; clear n0_ n1_ n2_ n3_; clear hb hbox hg; have hcz8_0 : w7.cell? ⟨gb296, 0, none⟩ = some (.slice A0_0 l0_0.length c0_0) := (blk_cell BK296.out 0).trans rfl; have hfz8_0 := blk_frozen BK296.out 0) | ((with_reducible refine gate_callee (f := 73) rfl ?_); refine goesL_ (some 8) rfl rfl Try.func73 (by kernel_rfl) rfl #[.agg #[.slice A0_0 l0_0.length c0_0]] rfl (by (try simp only [List.map_toArray, List.map_cons, List.map_nil]); first | done | rfl | (simp only [List.length_drop, List.length_take]; rfl)) ?_; (with_reducible refine (impl_Dom_walked.calls k _ _ l0_0 t297 t300 false _ ?side1 ?side2 A2.out).mono ?_); (case side1 => repeat (first | exact (Kd.C_below HR0_0.out HB.out) | (with_reducible refine Kd.C_alloc ?_ _) | (with_reducible refine Kd.C_drewN ?_ _) | (with_reducible refine Kd.C_drew ?_))); (case side2 => exact HC0_0.out); rintro e w9 ⟨v298, v301, rfl, ho0, ho1, hb⟩; refine ⟨_, rfl, ?_⟩; have n0_ := Aside0.mk (Kd.R_lower ho0 (below_size (by repeat (first | (with_reducible first | exact HB.out | apply below_alloc | apply pw_below_drewN | apply below_drew1 | refine below_set ?_ GE296.out) | exact HB.out)))); have n1_ := Aside0.mk (Kd.R_lower ho1 (below_size (by repeat (first | (with_reducible first | exact HB.out | apply below_alloc | apply pw_below_drewN | apply below_drew1 | refine below_set ?_ GE296.out) | exact HB.out)))); have n2_ := Aside0.mk (blk_below (g := gb296) (o := .cells #[.slice A0_0 l0_0.length c0_0] 29 (0, 0)) (by (with_reducible repeat (first | refine blk_drewN ?_ _ | refine blk_drew ?_ | refine blk_alloc ?_ _)); exact BK296.out) hb); have n3_ := Aside0.mk (below_step (by repeat (first | (with_reducible first | exact HB.out | apply below_alloc | apply pw_below_drewN | apply below_drew1 | refine below_set ?_ GE296.out) | exact HB.out)) hb); clear BK296; clear HB; have HO299 := n0_; have HO302 := n1_; have BK296 := n2_; have HB := n3_; clear n0_ n1_ n2_ n3_; (try clear hb); (try clear hb2); (try clear hk); (try clear hi); (try clear ho0); (try clear ho1)) | ((with_reducible refine gate_dst (N := 14) rfl ?_); refine Kd.R_lit k90 _ 90 ?hg (N := 14) ?hd (xs := ([] : List (S90))) (inner := []) (ok := fun _ => True) (okp := fun _ => True) ?hr ?hp (fun _ hk => hk) trivial (Below.refl _ _) (Nat.le_refl _) (by simp) ?_; (case hd => rfl); (case hg => rfl); (case hr => first | (go_simp; done) | (go_simp; rfl)); (case hp => exact (Reps.none _ _)); intro v305 w10 ho11 hb hg_ hnew_; clear hg_ hnew_; (first | rw [← Ny304.out] at ho11 | (simp only [Int.reduceToNat] at ho11; rw [← Ny304.out] at ho11)); have n0_ := Aside0.mk (Kd.R_elder' (by (with_reducible repeat (first | apply Kd.R_alloc | apply Kd.R_drewN | apply Kd.R_drew)); exact HO299.out) (Kd.R_base ho11) hb); have n1_ := Aside0.mk (Kd.R_below (by (with_reducible repeat (first | apply Kd.R_alloc | apply Kd.R_drewN | apply Kd.R_drew)); exact HO302.out) hb); have n2_ := Aside0.mk (Kd.R_lower (Kd.R_new' ho11 (Kd.R_lt (by (with_reducible repeat (first | apply Kd.R_alloc | apply Kd.R_drewN | apply Kd.R_drew)); exact HO299.out))) (below_size (by repeat (first | (with_reducible first | exact HB.out | apply below_alloc | apply pw_below_drewN | apply below_drew1 | refine below_set ?_ GE296.out) | exact HB.out)))); have n3_ := Aside0.mk (blk_below (g := gb296) (o := .cells #[.slice A0_0 l0_0.length c0_0] 29 (0, 0)) (by (with_reducible repeat (first | refine blk_drewN ?_ _ | refine blk_drew ?_ | refine blk_alloc ?_ _)); exact BK296.out) hb); have n4_ := Aside0.mk (below_step (by repeat (first | (with_reducible first | exact HB.out | apply below_alloc | apply pw_below_drewN | apply below_drew1 | refine below_set ?_ GE296.out) | exact HB.out)) hb); clear HO299; clear HO302; clear BK296; clear HB; have HO299 := n0_; have HO302 := n1_; have HO306 := n2_; have BK296 := n3_; have HB := n4_; clear n0_ n1_ n2_ n3_ n4_; clear hb ho11))
  go_ret
  exact ⟨_, by first | rfl | (simp [errW_none, errW_some] <;> rfl) | (simp [*, errW_none, errW_some] <;> rfl), by (with_reducible repeat (first | apply Kd.R_alloc | apply Kd.R_drewN | apply Kd.R_drew)); exact Kd.R_mono HO306.out (fun _ hk => trivial), by repeat (first | (with_reducible first | exact HB.out | apply below_alloc | apply pw_below_drewN | apply below_drew1 | refine below_set ?_ GE296.out) | exact HB.out)⟩
end Go.Proofs.Ytbifdckfglejkaa.X
namespace Go.Proofs.Ytbifdckfglejkaa.X
open Go.RowKit Go.Proofs.YtbifdckfglejkaaW.PrintWords Go.Proofs.YtbifdckfglejkaaW.PrintLast Go.Proofs.YtbifdckfglejkaaW.PrintMore
attribute [local go_sem] max2_int min2_int max_two min_two max_three min_three max_four min_four   -- for this text's walks alone
set_option linter.unusedVariables false
set_option linter.unusedSimpArgs false
def impl_DomSize.f (k : Nat) (l0_0 : List (S99)) : Option (Int) := (impl_DomTree.f k l0_0).bind fun t308 => (some (t308.length : Int))
set_option maxHeartbeats 8000000 in
set_option maxRecDepth 100000 in
theorem impl_DomSize.calls (k : Nat) (A0_0 : Option Addr) (c0_0 : Nat) (l0_0 : List (S99)) (r : Int) (w : World) (hr0_0 : Kd.C k99 w A0_0 l0_0.length l0_0) (hc0_0 : l0_0.length ≤ c0_0) (h : impl_DomSize.f k l0_0 = some r) :
  Calls Try.prog 20 #[.agg #[.slice A0_0 l0_0.length c0_0]] w fun e w' => e = .returned (.int .i64 r) ∧ Below w.heap.size w w' := by
 have hu29 := Try.underlying29
 have HR0_0 := Aside0.mk hr0_0
 have HC0_0 := Aside0.mk hc0_0
 clear hr0_0 hc0_0
 have HB := Aside0.mk (Below.refl w.heap.size w)
 have H : ((impl_DomTree.f k l0_0).bind fun t308 => (some (t308.length : Int))) = some r := h
 clear h
 replace H := Option.bind_eq_some_iff.mp H
 obtain ⟨t308, A20, H⟩ := H
 replace H : (some (t308.length : Int)) = some r := H
 have A2 := Aside0.mk A20
 clear A20
 obtain rfl := Option.some.inj H
 go_enter Try.func20, Try.ntmps20
 go_wp2_with (first | ((with_reducible refine gate_dst (N := 1) rfl ?_); refine box_event ?hg (N := 1) ?hd (cs := #[.slice A0_0 l0_0.length c0_0]) (t := 29) ?hr ?_; (case hd => rfl); (case hg => rfl); (case hr => first | (go_simp; done) | (go_simp; rfl)); intro gb307 hg w3 hbox hb; have n0_ := Aside0.mk (below_step (by repeat (first | (with_reducible first | exact HB.out | apply below_alloc | apply pw_below_drewN | apply below_drew1) | exact HB.out)) hb); have n1_ := Aside0.mk (hbox); have n2_ := Aside0.mk ((by rw [hg]; exact (below_size (by repeat (first | (with_reducible first | exact HB.out | apply below_alloc | apply pw_below_drewN | apply below_drew1) | exact HB.out))) : w.heap.size ≤ gb307)); have n3_ := Aside0.mk ((by rw [hg]; exact (below_size (by repeat (first | (with_reducible first | exact HB.out | apply below_alloc | apply pw_below_drewN | apply below_drew1) | exact HB.out))) : w.heap.size ≤ gb307)); clear HB; have HB := n0_; have BK307 := n1_; have GW307 := n2_; have GE307 := n3_; clear n0_ n1_ n2_ n3_; clear hb hbox hg; have hcz4_0 : w3.cell? ⟨gb307, 0, none⟩ = some (.slice A0_0 l0_0.length c0_0) := (blk_cell BK307.out 0).trans rfl; have hfz4_0 := blk_frozen BK307.out 0) | ((with_reducible refine gate_callee (f := 22) rfl ?_); refine goesL_ (some 4) rfl rfl Try.func22 (by kernel_rfl) rfl #[.agg #[.slice A0_0 l0_0.length c0_0]] rfl (by (try simp only [List.map_toArray, List.map_cons, List.map_nil]); first | done | rfl | (simp only [List.length_drop, List.length_take]; rfl)) ?_; (with_reducible refine (impl_DomTree.calls k _ _ l0_0 t308 _ ?side1 ?side2 A2.out).mono ?_); (case side1 => repeat (first | exact (Kd.C_below HR0_0.out HB.out) | (with_reducible refine Kd.C_alloc ?_ _) | (with_reducible refine Kd.C_drewN ?_ _) | (with_reducible refine Kd.C_drew ?_))); (case side2 => exact HC0_0.out); rintro e w5 ⟨v309, rfl, ho0, hb⟩; refine ⟨_, rfl, ?_⟩; have n0_ := Aside0.mk (Kd.R_lower ho0 (below_size (by repeat (first | (with_reducible first | exact HB.out | apply below_alloc | apply pw_below_drewN | apply below_drew1 | refine below_set ?_ GE307.out) | exact HB.out)))); have n1_ := Aside0.mk (blk_below (g := gb307) (o := .cells #[.slice A0_0 l0_0.length c0_0] 29 (0, 0)) (by (with_reducible repeat (first | refine blk_drewN ?_ _ | refine blk_drew ?_ | refine blk_alloc ?_ _)); exact BK307.out) hb); have n2_ := Aside0.mk (below_step (by repeat (first | (with_reducible first | exact HB.out | apply below_alloc | apply pw_below_drewN | apply below_drew1 | refine below_set ?_ GE307.out) | exact HB.out)) hb); clear BK307; clear HB; have HO310 := n0_; have BK307 := n1_; have HB := n2_; clear n0_ n1_ n2_; (try clear hb); (try clear hb2); (try clear hk); (try clear hi); (try clear ho0); obtain ⟨Ao6, co6, eo6⟩ := Kd.R_slice HO310.out; subst eo6))
 go_ret
 exact ⟨by first | rfl | (simp [errW_none, errW_some] <;> rfl) | (simp [*, errW_none, errW_some] <;> rfl), by repeat (first | (with_reducible first | exact HB.out | apply below_alloc | apply pw_below_drewN | apply below_drew1 | refine below_set ?_ GE307.out) | exact HB.out)⟩
end Go.Proofs.Ytbifdckfglejkaa.X
namespace Go.Proofs.Ytbifdckfglejkaa.X
open Go.RowKit Go.Proofs.YtbifdckfglejkaaW.PrintWords Go.Proofs.YtbifdckfglejkaaW.PrintLast Go.Proofs.YtbifdckfglejkaaW.PrintMore
attribute [local go_sem] max2_int min2_int max_two min_two max_three min_three max_four min_four   -- for this text's walks alone
set_option linter.unusedVariables false
set_option linter.unusedSimpArgs false
def laws_FnExactDomSize.f (k : Nat) (l0_0 : List (S143)) : Option (Bool) := (laws_szDom.f l0_0 1048576).bind fun t312 => (if t312 < 0 then (some true) else ((laws_toDom.f k l0_0).bind fun t313 => ((spec_DomSize.f k t313).bind fun t316 => ((laws_toDom.f k l0_0).bind fun t317 => ((impl_DomSize.f k t317).bind fun t321 => (if t321 = t316 then ((laws_toDom.f k l0_0).bind fun t322 => ((laws_eqDom.f k t317 t322).bind fun t325 => (if t325 = true then (some true) else (some false)))) else (some false)))))))
set_option maxHeartbeats 8000000 in
set_option maxRecDepth 100000 in
theorem laws_FnExactDomSize.calls (k : Nat) (A0_0 : Option Addr) (c0_0 : Nat) (l0_0 : List (S143)) (w : World) (hr0_0 : Kd.C k143 w A0_0 l0_0.length l0_0) (hc0_0 : l0_0.length ≤ c0_0) (h : laws_FnExactDomSize.f k l0_0 = some true) :
  Calls Try.prog 4 #[.agg #[.slice A0_0 l0_0.length c0_0]] w fun e w' => e = .returned (.bool true) ∧ Below w.heap.size w w' := by
 have hu24 := Try.underlying24
 have hu29 := Try.underlying29
 have HR0_0 := Aside0.mk hr0_0
 have HC0_0 := Aside0.mk hc0_0
 clear hr0_0 hc0_0
 have HB := Aside0.mk (Below.refl w.heap.size w)
 have H : ((laws_szDom.f l0_0 1048576).bind fun t312 => (if t312 < 0 then (some true) else ((laws_toDom.f k l0_0).bind fun t313 => ((spec_DomSize.f k t313).bind fun t316 => ((laws_toDom.f k l0_0).bind fun t317 => ((impl_DomSize.f k t317).bind fun t321 => (if t321 = t316 then ((laws_toDom.f k l0_0).bind fun t322 => ((laws_eqDom.f k t317 t322).bind fun t325 => (if t325 = true then (some true) else (some false)))) else (some false)))))))) = some true := h
 clear h
 replace H := Option.bind_eq_some_iff.mp H
 obtain ⟨t312, A20, H⟩ := H
 try dsimp only at H
 have A2 := Aside0.mk A20
 clear A20
 by_cases c3 : t312 < 0
 ·rw [if_pos c3] at H
  have c3b0 : decide (t312 < 0) = true := decide_eq_true c3
  clear c3
  clear H
  go_enter Try.func4, Try.ntmps4
  go_wp2_with (first | ((with_reducible refine gate_dst (N := 1) rfl ?_); refine box_event ?hg (N := 1) ?hd (cs := #[.slice A0_0 l0_0.length c0_0]) (t := 24) ?hr ?_; (case hd => rfl); (case hg => rfl); (case hr => first | (go_simp; done) | (go_simp; rfl)); intro gb311 hg w4 hbox hb; have n0_ := Aside0.mk (below_step (by repeat (first | (with_reducible first | exact HB.out | apply below_alloc | apply pw_below_drewN | apply below_drew1) | exact HB.out)) hb); have n1_ := Aside0.mk (hbox); have n2_ := Aside0.mk ((by rw [hg]; exact (below_size (by repeat (first | (with_reducible first | exact HB.out | apply below_alloc | apply pw_below_drewN | apply below_drew1) | exact HB.out))) : w.heap.size ≤ gb311)); have n3_ := Aside0.mk ((by rw [hg]; exact (below_size (by repeat (first | (with_reducible first | exact HB.out | apply below_alloc | apply pw_below_drewN | apply below_drew1) | exact HB.out))) : w.heap.size ≤ gb311)); clear HB; have HB := n0_; have BK311 := n1_; have GW311 := n2_; have GE311 := n3_; clear n0_ n1_ n2_ n3_; clear hb hbox hg; have hcz5_0 : w4.cell? ⟨gb311, 0, none⟩ = some (.slice A0_0 l0_0.length c0_0) := (blk_cell BK311.out 0).trans rfl; have hfz5_0 := blk_frozen BK311.out 0) | ((with_reducible refine gate_callee (f := 14) rfl ?_); refine goesL_ (some 9) rfl rfl Try.func14 (by kernel_rfl) rfl #[.agg #[.slice A0_0 l0_0.length c0_0], .int .i64 1048576] rfl (by (try simp only [List.map_toArray, List.map_cons, List.map_nil]); first | done | rfl | (simp only [List.length_drop, List.length_take]; rfl)) ?_; (with_reducible refine (laws_szDom.calls _ _ l0_0 1048576 t312 _ ?side1 ?side2 A2.out).mono ?_); (case side1 => repeat (first | exact (Kd.C_below HR0_0.out HB.out) | (with_reducible refine Kd.C_alloc ?_ _) | (with_reducible refine Kd.C_drewN ?_ _) | (with_reducible refine Kd.C_drew ?_))); (case side2 => exact HC0_0.out); rintro e w6 ⟨rfl, hb⟩; refine ⟨_, rfl, ?_⟩; have n0_ := Aside0.mk (blk_below (g := gb311) (o := .cells #[.slice A0_0 l0_0.length c0_0] 24 (0, 0)) (by (with_reducible repeat (first | refine blk_drewN ?_ _ | refine blk_drew ?_ | refine blk_alloc ?_ _)); exact BK311.out) hb); have n1_ := Aside0.mk (below_step (by repeat (first | (with_reducible first | exact HB.out | apply below_alloc | apply pw_below_drewN | apply below_drew1 | refine below_set ?_ GE311.out) | exact HB.out)) hb); clear BK311; clear HB; have BK311 := n0_; have HB := n1_; clear n0_ n1_; (try clear hb); (try clear hb2); (try clear hk); (try clear hi)))
  go_ret
  exact ⟨by first | rfl | (simp [errW_none, errW_some] <;> rfl) | (simp [*, errW_none, errW_some] <;> rfl), by repeat (first | (with_reducible first | exact HB.out | apply below_alloc | apply pw_below_drewN | apply below_drew1 | refine below_set ?_ GE311.out) | exact HB.out)⟩
 ·rw [if_neg c3] at H
  have c3b0 : decide (t312 < 0) = false := decide_eq_false c3
  clear c3
  replace H := Option.bind_eq_some_iff.mp H
  obtain ⟨t313, A70, H⟩ := H
  try dsimp only at H
  have A7 := Aside0.mk A70
  clear A70
  replace H := Option.bind_eq_some_iff.mp H
  obtain ⟨t316, A80, H⟩ := H
  try dsimp only at H
  have A8 := Aside0.mk A80
  clear A80
  replace H := Option.bind_eq_some_iff.mp H
  obtain ⟨t317, A90, H⟩ := H
  try dsimp only at H
  have A9 := Aside0.mk A90
  clear A90
  replace H := Option.bind_eq_some_iff.mp H
  obtain ⟨t321, A100, H⟩ := H
  try dsimp only at H
  have A10 := Aside0.mk A100
  clear A100
  by_cases c11 : t321 = t316
  ·rw [if_pos c11] at H
   have c11b0 : (t321 == t316) = true := beq_iff_eq.mpr c11
   have c11b1 : (t321 != t316) = false := bne_eq_false_iff_eq.mpr c11
   clear c11
   replace H := Option.bind_eq_some_iff.mp H
   obtain ⟨t322, A120, H⟩ := H
   replace H : ((laws_eqDom.f k t317 t322).bind fun t325 => (if t325 = true then (some true) else (some false))) = some true := H
   have A12 := Aside0.mk A120
   clear A120
   replace H := Option.bind_eq_some_iff.mp H
   obtain ⟨t325, A130, H⟩ := H
   replace H : (if t325 = true then (some true) else (some false)) = some true := H
   have A13 := Aside0.mk A130
   clear A130
   by_cases c14 : t325 = true
   ·subst c14
    have H1 : (some true) = some true := rfl
    clear H
    have H := H1
    clear H1
    clear H
    go_enter Try.func4, Try.ntmps4
    try go_wp2_with (first | ((with_reducible refine gate_dst (N := 1) rfl ?_); refine box_event ?hg (N := 1) ?hd (cs := #[.slice A0_0 l0_0.length c0_0]) (t := 24) ?hr ?_; (case hd => rfl); (case hg => rfl); (case hr => first | (go_simp; done) | (go_simp; rfl)); intro gb311 hg w15 hbox hb; have n0_ := Aside0.mk (below_step (by repeat (first | (with_reducible first | exact HB.out | apply below_alloc | apply pw_below_drewN | apply below_drew1) | exact HB.out)) hb); have n1_ := Aside0.mk (hbox); have n2_ := Aside0.mk ((by rw [hg]; exact (below_size (by repeat (first | (with_reducible first | exact HB.out | apply below_alloc | apply pw_below_drewN | apply below_drew1) | exact HB.out))) : w.heap.size ≤ gb311)); have n3_ := Aside0.mk ((by rw [hg]; exact (below_size (by repeat (first | (with_reducible first | exact HB.out | apply below_alloc | apply pw_below_drewN | apply below_drew1) | exact HB.out))) : w.heap.size ≤ gb311)); clear HB; have HB := n0_; have BK311 := n1_; have GW311 := n2_; have GE311 := n3_; clear n0_ n1_ n2_ n3_; clear hb hbox hg; have hcz16_0 : w15.cell? ⟨gb311, 0, none⟩ = some (.slice A0_0 l0_0.length c0_0) := (blk_cell BK311.out 0).trans rfl; have hfz16_0 := blk_frozen BK311.out 0) | ((with_reducible refine gate_callee (f := 14) rfl ?_); refine goesL_ (some 9) rfl rfl Try.func14 (by kernel_rfl) rfl #[.agg #[.slice A0_0 l0_0.length c0_0], .int .i64 1048576] rfl (by (try simp only [List.map_toArray, List.map_cons, List.map_nil]); first | done | rfl | (simp only [List.length_drop, List.length_take]; rfl)) ?_; (with_reducible refine (laws_szDom.calls _ _ l0_0 1048576 t312 _ ?side1 ?side2 A2.out).mono ?_); (case side1 => repeat (first | exact (Kd.C_below HR0_0.out HB.out) | (with_reducible refine Kd.C_alloc ?_ _) | (with_reducible refine Kd.C_drewN ?_ _) | (with_reducible refine Kd.C_drew ?_))); (case side2 => exact HC0_0.out); rintro e w17 ⟨rfl, hb⟩; refine ⟨_, rfl, ?_⟩; have n0_ := Aside0.mk (blk_below (g := gb311) (o := .cells #[.slice A0_0 l0_0.length c0_0] 24 (0, 0)) (by (with_reducible repeat (first | refine blk_drewN ?_ _ | refine blk_drew ?_ | refine blk_alloc ?_ _)); exact BK311.out) hb); have n1_ := Aside0.mk (below_step (by repeat (first | (with_reducible first | exact HB.out | apply below_alloc | apply pw_below_drewN | apply below_drew1 | refine below_set ?_ GE311.out) | exact HB.out)) hb); clear BK311; clear HB; have BK311 := n0_; have HB := n1_; clear n0_ n1_; (try clear hb); (try clear hb2); (try clear hk); (try clear hi); have hcz18_0 : w17.cell? ⟨gb311, 0, none⟩ = some (.slice A0_0 l0_0.length c0_0) := (blk_cell BK311.out 0).trans rfl; have hfz18_0 := blk_frozen BK311.out 0) | ((with_reducible refine gate_callee (f := 16) rfl ?_); refine goesL_ (some 13) rfl rfl Try.func16 (by kernel_rfl) rfl #[.agg #[.slice A0_0 l0_0.length c0_0]] rfl (by (try simp only [List.map_toArray, List.map_cons, List.map_nil]); first | done | rfl | (simp only [List.length_drop, List.length_take]; rfl)) ?_; (with_reducible refine (laws_toDom.calls k _ _ l0_0 t313 _ ?side1 ?side2 A7.out).mono ?_); (case side1 => repeat (first | exact (Kd.C_below HR0_0.out HB.out) | (with_reducible refine Kd.C_alloc ?_ _) | (with_reducible refine Kd.C_drewN ?_ _) | (with_reducible refine Kd.C_drew ?_))); (case side2 => exact HC0_0.out); rintro e w19 ⟨v314, rfl, ho0, hb⟩; refine ⟨_, rfl, ?_⟩; have n0_ := Aside0.mk (Kd.R_lower ho0 (below_size (by repeat (first | (with_reducible first | exact HB.out | apply below_alloc | apply pw_below_drewN | apply below_drew1 | refine below_set ?_ GE311.out) | exact HB.out)))); have n1_ := Aside0.mk (blk_below (g := gb311) (o := .cells #[.slice A0_0 l0_0.length c0_0] 24 (0, 0)) (by (with_reducible repeat (first | refine blk_drewN ?_ _ | refine blk_drew ?_ | refine blk_alloc ?_ _)); exact BK311.out) hb); have n2_ := Aside0.mk (below_step (by repeat (first | (with_reducible first | exact HB.out | apply below_alloc | apply pw_below_drewN | apply below_drew1 | refine below_set ?_ GE311.out) | exact HB.out)) hb); clear BK311; clear HB; have HO315 := n0_; have BK311 := n1_; have HB := n2_; clear n0_ n1_ n2_; (try clear hb); (try clear hb2); (try clear hk); (try clear hi); (try clear ho0); obtain ⟨Ao20, co20, eo20⟩ := Kd.R_slice HO315.out; subst eo20) | ((with_reducible refine gate_callee (f := 19) rfl ?_); refine goesL_ (some 14) rfl rfl Try.func19 (by kernel_rfl) rfl #[.agg #[.slice Ao20 t313.length co20]] rfl (by (try simp only [List.map_toArray, List.map_cons, List.map_nil]); first | done | rfl | (simp only [List.length_drop, List.length_take]; rfl)) ?_; (with_reducible refine (spec_DomSize.calls k _ _ t313 t316 _ ?side1 ?side2 A8.out).mono ?_); (case side1 => repeat (first | exact (Kd.R_reads' HO315.out).2.2 | (with_reducible refine Kd.C_alloc ?_ _) | (with_reducible refine Kd.C_drewN ?_ _) | (with_reducible refine Kd.C_drew ?_))); (case side2 => exact (Kd.R_reads' HO315.out).2.1); rintro e w21 ⟨rfl, hb⟩; refine ⟨_, rfl, ?_⟩; have n0_ := Aside0.mk (Kd.R_below (by (with_reducible repeat (first | apply Kd.R_alloc | apply Kd.R_drewN | apply Kd.R_drew)); exact HO315.out) hb); have n1_ := Aside0.mk (blk_below (g := gb311) (o := .cells #[.slice A0_0 l0_0.length c0_0] 24 (0, 0)) (by (with_reducible repeat (first | refine blk_drewN ?_ _ | refine blk_drew ?_ | refine blk_alloc ?_ _)); exact BK311.out) hb); have n2_ := Aside0.mk (below_step (by repeat (first | (with_reducible first | exact HB.out | apply below_alloc | apply pw_below_drewN | apply below_drew1 | refine below_set ?_ GE311.out) | exact HB.out)) hb); clear HO315; clear BK311; clear HB; have HO315 := n0_; have BK311 := n1_; have HB := n2_; clear n0_ n1_ n2_; (try clear hb); (try clear hb2); (try clear hk); (try clear hi); have hcz22_0 : w21.cell? ⟨gb311, 0, none⟩ = some (.slice A0_0 l0_0.length c0_0) := (blk_cell BK311.out 0).trans rfl; have hfz22_0 := blk_frozen BK311.out 0) | ((with_reducible refine gate_callee (f := 16) rfl ?_); refine goesL_ (some 16) rfl rfl Try.func16 (by kernel_rfl) rfl #[.agg #[.slice A0_0 l0_0.length c0_0]] rfl (by (try simp only [List.map_toArray, List.map_cons, List.map_nil]); first | done | rfl | (simp only [List.length_drop, List.length_take]; rfl)) ?_; (with_reducible refine (laws_toDom.calls k _ _ l0_0 t317 _ ?side1 ?side2 A9.out).mono ?_); (case side1 => repeat (first | exact (Kd.C_below HR0_0.out HB.out) | (with_reducible refine Kd.C_alloc ?_ _) | (with_reducible refine Kd.C_drewN ?_ _) | (with_reducible refine Kd.C_drew ?_))); (case side2 => exact HC0_0.out); rintro e w23 ⟨v318, rfl, ho0, hb⟩; refine ⟨_, rfl, ?_⟩; have n0_ := Aside0.mk (Kd.R_elder' (by (with_reducible repeat (first | apply Kd.R_alloc | apply Kd.R_drewN | apply Kd.R_drew)); exact HO315.out) (Kd.R_base ho0) hb); have n1_ := Aside0.mk (Kd.R_lower (Kd.R_new' ho0 (Kd.R_lt (by (with_reducible repeat (first | apply Kd.R_alloc | apply Kd.R_drewN | apply Kd.R_drew)); exact HO315.out))) (below_size (by repeat (first | (with_reducible first | exact HB.out | apply below_alloc | apply pw_below_drewN | apply below_drew1 | refine below_set ?_ GE311.out) | exact HB.out)))); have n2_ := Aside0.mk (blk_below (g := gb311) (o := .cells #[.slice A0_0 l0_0.length c0_0] 24 (0, 0)) (by (with_reducible repeat (first | refine blk_drewN ?_ _ | refine blk_drew ?_ | refine blk_alloc ?_ _)); exact BK311.out) hb); have n3_ := Aside0.mk (below_step (by repeat (first | (with_reducible first | exact HB.out | apply below_alloc | apply pw_below_drewN | apply below_drew1 | refine below_set ?_ GE311.out) | exact HB.out)) hb); clear HO315; clear BK311; clear HB; have HO315 := n0_; have HO319 := n1_; have BK311 := n2_; have HB := n3_; clear n0_ n1_ n2_ n3_; (try clear hb); (try clear hb2); (try clear hk); (try clear hi); (try clear ho0)) | ((with_reducible refine gate_dst (N := 5) rfl ?_); refine box_event ?hg (N := 5) ?hd (cs := #[.slice none 0 0]) (t := 29) ?hr ?_; (case hd => rfl); (case hg => rfl); (case hr => first | (go_simp; done) | (go_simp; rfl)); intro gb320 hg w24 hbox hb; have n0_ := Aside0.mk (Kd.R_below (by (with_reducible repeat (first | apply Kd.R_alloc | apply Kd.R_drewN | apply Kd.R_drew)); exact HO315.out) hb); have n1_ := Aside0.mk (Kd.R_below (by (with_reducible repeat (first | apply Kd.R_alloc | apply Kd.R_drewN | apply Kd.R_drew)); exact HO319.out) hb); have n2_ := Aside0.mk (blk_below (g := gb311) (o := .cells #[.slice A0_0 l0_0.length c0_0] 24 (0, 0)) (by (with_reducible repeat (first | refine blk_drewN ?_ _ | refine blk_drew ?_ | refine blk_alloc ?_ _)); exact BK311.out) hb); have n3_ := Aside0.mk (below_step (by repeat (first | (with_reducible first | exact HB.out | apply below_alloc | apply pw_below_drewN | apply below_drew1 | refine below_set ?_ GE311.out) | exact HB.out)) hb); have n4_ := Aside0.mk (hbox); have n5_ := Aside0.mk ((by rw [hg]; exact (below_size (by repeat (first | (with_reducible first | exact HB.out | apply below_alloc | apply pw_below_drewN | apply below_drew1 | refine below_set ?_ GE311.out) | exact HB.out))) : w.heap.size ≤ gb320)); have n6_ := Aside0.mk ((by rw [hg]; exact (below_size (by repeat (first | (with_reducible first | exact HB.out | apply below_alloc | apply pw_below_drewN | apply below_drew1 | refine below_set ?_ GE311.out) | exact HB.out))) : w.heap.size ≤ gb320)); have n7_ := Aside0.mk ((by rw [hg]; exact Nat.ne_of_lt (blk_lt (g := gb311) (o := .cells #[.slice A0_0 l0_0.length c0_0] 24 (0, 0)) (by (with_reducible repeat (first | refine blk_drewN ?_ _ | refine blk_drew ?_ | refine blk_alloc ?_ _)); exact BK311.out)) : gb311 ≠ gb320)); have n8_ := Aside0.mk ((by rw [hg]; exact Nat.ne_of_gt (blk_lt (g := gb311) (o := .cells #[.slice A0_0 l0_0.length c0_0] 24 (0, 0)) (by (with_reducible repeat (first | refine blk_drewN ?_ _ | refine blk_drew ?_ | refine blk_alloc ?_ _)); exact BK311.out)) : gb320 ≠ gb311)); clear HO315; clear HO319; clear BK311; clear HB; have HO315 := n0_; have HO319 := n1_; have BK311 := n2_; have HB := n3_; have BK320 := n4_; have GW320 := n5_; have GE320 := n6_; have NB311_320 := n7_; have NB320_311 := n8_; clear n0_ n1_ n2_ n3_ n4_ n5_ n6_ n7_ n8_; clear hb hbox hg; obtain ⟨Ao25, co25, eo25⟩ := Kd.R_slice HO319.out; subst eo25; have hnb26 := NB320_311.out; have hnc26 := NB311_320.out; have hcz27_0 : w24.cell? ⟨gb320, 0, none⟩ = some (.slice none 0 0) := (blk_cell BK320.out 0).trans rfl; have hfz27_0 := blk_frozen BK320.out 0) | ((with_reducible refine gate_callee (f := 20) rfl ?_); refine goesL_ (some 18) rfl rfl Try.func20 (by kernel_rfl) rfl #[.agg #[.slice Ao25 t317.length co25]] rfl (by (try simp only [List.map_toArray, List.map_cons, List.map_nil]); first | done | rfl | (simp only [List.length_drop, List.length_take]; rfl)) ?_; (with_reducible refine (impl_DomSize.calls k _ _ t317 t321 _ ?side1 ?side2 A10.out).mono ?_); (case side1 => refine (Kd.R_reads' (e := 99) (base := w.heap.size) (ok := fun k_ => (True ∧ some k_ ≠ (.slice Ao20 t313.length co20 : Value).ownBlock)) (n := t317.length) (c := co25) ?_).2.2; exact (by (with_reducible repeat (first | apply Kd.R_alloc | apply Kd.R_drewN | apply Kd.R_drew)); exact (Kd.R_mono (Kd.R_far (p := ⟨gb320, 0, none⟩) (Kd.R_types HO319.out BK320.out (by decide)) (fun _ hk => hk.2) (.slice Ao25 t317.length co25)) (fun _ h_ => h_.1)))); (case side2 => exact (Kd.R_reads' HO319.out).2.1); rintro e w28 ⟨rfl, hb⟩; refine ⟨_, rfl, ?_⟩; have n0_ := Aside0.mk (Kd.R_below (by (with_reducible repeat (first | apply Kd.R_alloc | apply Kd.R_drewN | apply Kd.R_drew)); exact (Kd.R_mono (Kd.R_far (p := ⟨gb320, 0, none⟩) (Kd.R_types HO315.out BK320.out (by decide)) (fun _ hk => hk.2) (.slice Ao25 t317.length co25)) (fun _ h_ => h_.1))) hb); have n1_ := Aside0.mk (Kd.R_below (by (with_reducible repeat (first | apply Kd.R_alloc | apply Kd.R_drewN | apply Kd.R_drew)); exact (Kd.R_mono (Kd.R_far (p := ⟨gb320, 0, none⟩) (Kd.R_types HO319.out BK320.out (by decide)) (fun _ hk => hk.2) (.slice Ao25 t317.length co25)) (fun _ h_ => h_.1))) hb); have n2_ := Aside0.mk (blk_below (g := gb311) (o := .cells #[.slice A0_0 l0_0.length c0_0] 24 (0, 0)) (by (with_reducible repeat (first | refine blk_drewN ?_ _ | refine blk_drew ?_ | refine blk_alloc ?_ _)); refine blk_far ?_ NB311_320.out _; (with_reducible repeat (first | refine blk_drewN ?_ _ | refine blk_drew ?_ | refine blk_alloc ?_ _)); exact BK311.out) hb); have n3_ := Aside0.mk (blk_below (g := gb320) (o := .cells #[.slice Ao25 t317.length co25] 29 (0, 0)) (by (with_reducible repeat (first | refine blk_drewN ?_ _ | refine blk_drew ?_ | refine blk_alloc ?_ _)); refine blk_put (cs := #[.slice none 0 0]) ?_ 0 _ rfl; (with_reducible repeat (first | refine blk_drewN ?_ _ | refine blk_drew ?_ | refine blk_alloc ?_ _)); exact BK320.out) hb); have n4_ := Aside0.mk (below_step (by repeat (first | (with_reducible first | exact HB.out | apply below_alloc | apply pw_below_drewN | apply below_drew1 | refine below_set ?_ GE311.out | refine below_set ?_ GE320.out) | exact HB.out)) hb); clear HO315; clear HO319; clear BK311; clear BK320; clear HB; have HO315 := n0_; have HO319 := n1_; have BK311 := n2_; have BK320 := n3_; have HB := n4_; clear n0_ n1_ n2_ n3_ n4_; (try clear hb); (try clear hb2); (try clear hk); (try clear hi)))
    have n0_ := Aside0.mk (Kd.R_drew HO315.out)
    have n1_ := Aside0.mk (Kd.R_drew HO319.out)
    have n2_ := Aside0.mk (blk_drew BK311.out)
    have n3_ := Aside0.mk (blk_drew BK320.out)
    have n4_ := Aside0.mk (below_drew1 HB.out)
    clear HO315
    clear HO319
    clear BK311
    clear BK320
    clear HB
    have HO315 := n0_
    have HO319 := n1_
    have BK311 := n2_
    have BK320 := n3_
    have HB := n4_
    clear n0_ n1_ n2_ n3_ n4_
    refine start_ (n := 5) (S := fun w' => w'.cell? ⟨gb320, 0, none⟩ = some (.slice Ao25 t317.length co25) ∧ w'.cell? ⟨gb311, 0, none⟩ = some (.slice A0_0 l0_0.length c0_0)) (ds := []) #[false, false, false, false, false] (by kernel_rfl) rfl rfl ⟨(blk_cell BK320.out 0).trans rfl, (blk_cell BK311.out 0).trans rfl⟩ (fun hHeld => ?_)
    generalize w28.drew = w29 at HO315 HO319 BK311 BK320 HB hHeld ⊢
    refine ta_ 0 (some 22) #[true, false, false, false, false] rfl rfl (by kernel_rfl) hHeld (by rintro w' ⟨s0, s1⟩; go_simp; with_reducible rfl) ?_
    refine ta_ 1 (some 23) #[true, true, false, false, false] rfl rfl (by kernel_rfl) hHeld (by rintro w' ⟨s0, s1⟩; go_simp; with_reducible rfl) ?_
    refine one_ (i := 2) (N := some 24) #[true, true, true, false, false] rfl rfl (by kernel_rfl) (by decide) (fun K hK => ?_)
    refine goes_ Try.func16 (by kernel_rfl) rfl #[.agg #[.slice A0_0 l0_0.length c0_0]] (by rfl) rfl rfl (by (try simp only [List.map_toArray, List.map_cons, List.map_nil]); first | done | rfl | (simp only [List.length_drop, List.length_take]; rfl)) ?_
    with_reducible refine (laws_toDom.calls k _ _ l0_0 t322 _ ?side1 ?side2 A12.out).mono ?_
    (case side1 => repeat (first | exact (Kd.C_below HR0_0.out HB.out) | (with_reducible refine Kd.C_alloc ?_ _) | (with_reducible refine Kd.C_drewN ?_ _) | (with_reducible refine Kd.C_drew ?_)))
    (case side2 => exact HC0_0.out)
    rintro e w30 ⟨v323, rfl, ho0, hb⟩
    refine ⟨_, rfl, ?_⟩
    have n0_ := Aside0.mk (Kd.R_elder' (by (with_reducible repeat (first | apply Kd.R_alloc | apply Kd.R_drewN | apply Kd.R_drew)); exact HO315.out) (Kd.R_base ho0) hb)
    have n1_ := Aside0.mk (Kd.R_elder' (by (with_reducible repeat (first | apply Kd.R_alloc | apply Kd.R_drewN | apply Kd.R_drew)); exact HO319.out) (Kd.R_base ho0) hb)
    have n2_ := Aside0.mk (Kd.R_lower (Kd.R_new' (Kd.R_new' ho0 (Kd.R_lt (by (with_reducible repeat (first | apply Kd.R_alloc | apply Kd.R_drewN | apply Kd.R_drew)); exact HO315.out))) (Kd.R_lt (by (with_reducible repeat (first | apply Kd.R_alloc | apply Kd.R_drewN | apply Kd.R_drew)); exact HO319.out))) (below_size (by repeat (first | (with_reducible first | exact HB.out | apply below_alloc | apply pw_below_drewN | apply below_drew1 | refine below_set ?_ GE311.out | refine below_set ?_ GE320.out) | exact HB.out))))
    have n3_ := Aside0.mk (blk_below (g := gb311) (o := .cells #[.slice A0_0 l0_0.length c0_0] 24 (0, 0)) (by (with_reducible repeat (first | refine blk_drewN ?_ _ | refine blk_drew ?_ | refine blk_alloc ?_ _)); exact BK311.out) hb)
    have n4_ := Aside0.mk (blk_below (g := gb320) (o := .cells #[.slice Ao25 t317.length co25] 29 (0, 0)) (by (with_reducible repeat (first | refine blk_drewN ?_ _ | refine blk_drew ?_ | refine blk_alloc ?_ _)); exact BK320.out) hb)
    have n5_ := Aside0.mk (below_step (by repeat (first | (with_reducible first | exact HB.out | apply below_alloc | apply pw_below_drewN | apply below_drew1 | refine below_set ?_ GE311.out | refine below_set ?_ GE320.out) | exact HB.out)) hb)
    clear HO315
    clear HO319
    clear BK311
    clear BK320
    clear HB
    have HO315 := n0_
    have HO319 := n1_
    have HO324 := n2_
    have BK311 := n3_
    have BK320 := n4_
    have HB := n5_
    clear n0_ n1_ n2_ n3_ n4_ n5_
    (try clear hb)
    (try clear hb2)
    (try clear hk)
    (try clear hi)
    (try clear ho0)
    obtain ⟨Ao31, co31, eo31⟩ := Kd.R_slice HO324.out
    (first | subst eo31 | (injection eo31 with f1_ f2_ f3_; have f4_ := f1_.symm; have f5_ := f3_.symm; clear f1_ f2_ f3_; subst f4_; subst f5_))
    refine hK.out _ _ ⟨(blk_cell BK320.out 0).trans rfl, (blk_cell BK311.out 0).trans rfl⟩ (fun hHeld => ?_)
    clear hK K
    refine norm_ (a' := ?_) ?_ ?_
    rotate_left
    ·show Act.put _ (some 24) _ = _
     simp only [Act.put, List.setIfInBounds_toArray, List.set_cons_zero, List.set_cons_succ, i64_w, i32_w]
     rfl
    refine one_ (i := 3) (N := some 25) #[true, true, true, true, false] rfl rfl (by kernel_rfl) (by decide) (fun K hK => ?_)
    refine goes_ Try.func18 (by kernel_rfl) rfl #[.agg #[.slice Ao25 t317.length co25], .agg #[.slice Ao31 t322.length co31]] (by rfl) rfl rfl (by (try simp only [List.map_toArray, List.map_cons, List.map_nil]); first | done | rfl | (simp only [List.length_drop, List.length_take]; rfl)) ?_
    with_reducible refine (laws_eqDom.calls k _ _ t317 _ _ t322 true _ ?side1 ?side2 ?side3 ?side4 A13.out).mono ?_
    (case side1 => repeat (first | exact (Kd.R_reads' HO319.out).2.2 | (with_reducible refine Kd.C_alloc ?_ _) | (with_reducible refine Kd.C_drewN ?_ _) | (with_reducible refine Kd.C_drew ?_)))
    (case side2 => exact (Kd.R_reads' HO319.out).2.1)
    (case side3 => repeat (first | exact (Kd.R_reads' HO324.out).2.2 | (with_reducible refine Kd.C_alloc ?_ _) | (with_reducible refine Kd.C_drewN ?_ _) | (with_reducible refine Kd.C_drew ?_)))
    (case side4 => exact (Kd.R_reads' HO324.out).2.1)
    rintro e w32 ⟨rfl, hb⟩
    refine ⟨_, rfl, ?_⟩
    have n0_ := Aside0.mk (Kd.R_below (by (with_reducible repeat (first | apply Kd.R_alloc | apply Kd.R_drewN | apply Kd.R_drew)); exact HO315.out) hb)
    have n1_ := Aside0.mk (Kd.R_below (by (with_reducible repeat (first | apply Kd.R_alloc | apply Kd.R_drewN | apply Kd.R_drew)); exact HO319.out) hb)
    have n2_ := Aside0.mk (Kd.R_below (by (with_reducible repeat (first | apply Kd.R_alloc | apply Kd.R_drewN | apply Kd.R_drew)); exact HO324.out) hb)
    have n3_ := Aside0.mk (blk_below (g := gb311) (o := .cells #[.slice A0_0 l0_0.length c0_0] 24 (0, 0)) (by (with_reducible repeat (first | refine blk_drewN ?_ _ | refine blk_drew ?_ | refine blk_alloc ?_ _)); exact BK311.out) hb)
    have n4_ := Aside0.mk (blk_below (g := gb320) (o := .cells #[.slice Ao25 t317.length co25] 29 (0, 0)) (by (with_reducible repeat (first | refine blk_drewN ?_ _ | refine blk_drew ?_ | refine blk_alloc ?_ _)); exact BK320.out) hb)
    have n5_ := Aside0.mk (below_step (by repeat (first | (with_reducible first | exact HB.out | apply below_alloc | apply pw_below_drewN | apply below_drew1 | refine below_set ?_ GE311.out | refine below_set ?_ GE320.out) | exact HB.out)) hb)
    clear HO315
    clear HO319
    clear HO324
    clear BK311
    clear BK320
    clear HB
    have HO315 := n0_
    have HO319 := n1_
    have HO324 := n2_
    have BK311 := n3_
    have BK320 := n4_
    have HB := n5_
    clear n0_ n1_ n2_ n3_ n4_ n5_
    (try clear hb)
    (try clear hb2)
    (try clear hk)
    (try clear hi)
    refine hK.out _ _ ⟨(blk_cell BK320.out 0).trans rfl, (blk_cell BK311.out 0).trans rfl⟩ (fun hHeld => ?_)
    clear hK K
    refine norm_ (a' := ?_) ?_ ?_
    rotate_left
    ·show Act.put _ (some 25) _ = _
     simp only [Act.put, List.setIfInBounds_toArray, List.set_cons_zero, List.set_cons_succ, i64_w, i32_w]
     rfl
    refine pu_ 4 (some 26) #[true, true, true, true, true] rfl rfl (by kernel_rfl) ?_
    refine done_ (by kernel_rfl) ?_
    try go_wp2
    go_ret
    exact ⟨by first | rfl | (simp [errW_none, errW_some] <;> rfl) | (simp [*, errW_none, errW_some] <;> rfl), by repeat (first | (with_reducible first | exact HB.out | apply below_alloc | apply pw_below_drewN | apply below_drew1 | refine below_set ?_ GE311.out | refine below_set ?_ GE320.out) | exact HB.out)⟩
   ·replace c14 := Bool.eq_false_iff.mpr c14
    subst c14
    have H1 : (some false) = some true := by rw [if_neg (show ¬ (false = true) by decide)] at H; exact H
    clear H
    have H := H1
    clear H1
    exact absurd H (by simp)
  ·rw [if_neg c11] at H
   have c11b0 : (t321 == t316) = false := beq_eq_false_iff_ne.mpr c11
   have c11b1 : (t321 != t316) = true := bne_iff_ne.mpr c11
   exact absurd H (by simp)
end Go.Proofs.Ytbifdckfglejkaa.X
namespace Go.Proofs.Ytbifdckfglejkaa.X
open Go.RowKit Go.Proofs.YtbifdckfglejkaaW.PrintWords Go.Proofs.YtbifdckfglejkaaW.PrintLast Go.Proofs.YtbifdckfglejkaaW.PrintMore
attribute [local go_sem] max2_int min2_int max_two min_two max_three min_three max_four min_four   -- for this text's walks alone
set_option linter.unusedVariables false
set_option linter.unusedSimpArgs false
end Go.Proofs.Ytbifdckfglejkaa.X
namespace Go.Proofs.Ytbifdckfglejkaa.X
open Go.RowKit Go.Proofs.YtbifdckfglejkaaW.PrintWords Go.Proofs.YtbifdckfglejkaaW.PrintLast Go.Proofs.YtbifdckfglejkaaW.PrintMore
attribute [local go_sem] max2_int min2_int max_two min_two max_three min_three max_four min_four   -- for this text's walks alone
set_option linter.unusedVariables false
set_option linter.unusedSimpArgs false
end Go.Proofs.Ytbifdckfglejkaa.X
namespace Go.Proofs.Ytbifdckfglejkaa.X
open Go.RowKit Go.Proofs.YtbifdckfglejkaaW.PrintWords Go.Proofs.YtbifdckfglejkaaW.PrintLast Go.Proofs.YtbifdckfglejkaaW.PrintMore
attribute [local go_sem] max2_int min2_int max_two min_two max_three min_three max_four min_four   -- for this text's walks alone
set_option linter.unusedVariables false
set_option linter.unusedSimpArgs false
end Go.Proofs.Ytbifdckfglejkaa.X
namespace Go.Proofs.Ytbifdckfglejkaa.X
open Go.RowKit Go.Proofs.YtbifdckfglejkaaW.PrintWords Go.Proofs.YtbifdckfglejkaaW.PrintLast Go.Proofs.YtbifdckfglejkaaW.PrintMore
attribute [local go_sem] max2_int min2_int max_two min_two max_three min_three max_four min_four   -- for this text's walks alone
set_option linter.unusedVariables false
set_option linter.unusedSimpArgs false
end Go.Proofs.Ytbifdckfglejkaa.X
namespace Go.Proofs.Ytbifdckfglejkaa.X
open Go.RowKit Go.Proofs.YtbifdckfglejkaaW.PrintWords Go.Proofs.YtbifdckfglejkaaW.PrintLast Go.Proofs.YtbifdckfglejkaaW.PrintMore
attribute [local go_sem] max2_int min2_int max_two min_two max_three min_three max_four min_four   -- for this text's walks alone
set_option linter.unusedVariables false
set_option linter.unusedSimpArgs false
end Go.Proofs.Ytbifdckfglejkaa.X
namespace Go.Proofs.Ytbifdckfglejkaa.X
open Go.RowKit Go.Proofs.YtbifdckfglejkaaW.PrintWords Go.Proofs.YtbifdckfglejkaaW.PrintLast Go.Proofs.YtbifdckfglejkaaW.PrintMore
attribute [local go_sem] max2_int min2_int max_two min_two max_three min_three max_four min_four   -- for this text's walks alone
set_option linter.unusedVariables false
set_option linter.unusedSimpArgs false
end Go.Proofs.Ytbifdckfglejkaa.X
namespace Go.Proofs.Ytbifdckfglejkaa.X
open Go.RowKit Go.Proofs.YtbifdckfglejkaaW.PrintWords Go.Proofs.YtbifdckfglejkaaW.PrintLast Go.Proofs.YtbifdckfglejkaaW.PrintMore
attribute [local go_sem] max2_int min2_int max_two min_two max_three min_three max_four min_four   -- for this text's walks alone
set_option linter.unusedVariables false
set_option linter.unusedSimpArgs false
end Go.Proofs.Ytbifdckfglejkaa.X
namespace Go.Proofs.Ytbifdckfglejkaa.X
open Go.RowKit Go.Proofs.YtbifdckfglejkaaW.PrintWords Go.Proofs.YtbifdckfglejkaaW.PrintLast Go.Proofs.YtbifdckfglejkaaW.PrintMore
attribute [local go_sem] max2_int min2_int max_two min_two max_three min_three max_four min_four   -- for this text's walks alone
set_option linter.unusedVariables false
set_option linter.unusedSimpArgs false
end Go.Proofs.Ytbifdckfglejkaa.X
