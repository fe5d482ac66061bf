/- Part 6 of the proof of FnExactLeastCost: what it needs. -/
import Derived.Test.YtbifdckfglejkaaKELeastCost3
import Derived.Test.YtbifdckfglejkaaKELeastCost5
namespace Go.Proofs.Ytbifdckfglejkaa.X
open Go.RowKit Go.Proofs.YtbifdckfglejkaaW.PrintWords Go.Proofs.YtbifdckfglejkaaW.PrintLast Go.Proofs.YtbifdckfglejkaaW.PrintMore
attribute [local go_sem] max2_int min2_int max_two min_two max_three min_three max_four min_four   -- for this text's walks alone
set_option linter.unusedVariables false
set_option linter.unusedSimpArgs false
mutual
def impl_CostOk.j0 : Nat → Bool → List Int → List Int → List Int → Option (Bool)
 | 0, _, _, _, _ => none
 | k + 1, x19, x580000, x580001, x580002 => if x19 = true then (some false) else (impl_CostOk.l0 k 0 x580000 x580001 x580002)
def impl_CostOk.l0 : Nat → Int → List Int → List Int → List Int → Option (Bool)
 | 0, _, _, _, _ => none
 | k + 1, x20, x580000, x580001, x580002 => if x20 < 6 then (if 0 ≤ (wrap64 ((wrap64 (x20 * 6)) + x20)) then (if (wrap64 ((wrap64 (x20 * 6)) + x20)) < (x580002.length : Int) then (if (rd x580002 (wrap64 ((wrap64 (x20 * 6)) + x20))) = 0 then (impl_CostOk.l0 k (wrap64 (x20 + 1)) x580000 x580001 x580002) else (some false)) else (none)) else (none)) else (some true)
end
def impl_CostOk.f (k : Nat) (l0_0 : List Int) (l0_1 : List Int) (l0_2 : List Int) : Option (Bool) := (impl_pricesOk.f l0_0 6).bind fun t580 => (if t580 = true then ((impl_pricesOk.f l0_1 6).bind fun t581 => (if t581 = true then ((impl_pricesOk.f l0_2 36).bind fun t582 => (impl_CostOk.j0 k (!t582) l0_0 l0_1 l0_2)) else (impl_CostOk.j0 k true l0_0 l0_1 l0_2))) else (impl_CostOk.j0 k true l0_0 l0_1 l0_2))
set_option maxHeartbeats 8000000 in
set_option maxRecDepth 100000 in
theorem impl_CostOk.calls (k : Nat) (A0_0 : Option Addr) (c0_0 : Nat) (l0_0 : List Int) (A0_1 : Option Addr) (c0_1 : Nat) (l0_1 : List Int) (A0_2 : Option Addr) (c0_2 : Nat) (l0_2 : List Int) (r : Bool) (w : World) (hr0_0 : Kd.C (Kd.int .i64) w A0_0 l0_0.length l0_0) (hc0_0 : l0_0.length ≤ c0_0) (hr0_1 : Kd.C (Kd.int .i64) w A0_1 l0_1.length l0_1) (hc0_1 : l0_1.length ≤ c0_1) (hr0_2 : Kd.C (Kd.int .i64) w A0_2 l0_2.length l0_2) (hc0_2 : l0_2.length ≤ c0_2) (h : impl_CostOk.f k l0_0 l0_1 l0_2 = some r) :
  Calls Try.prog 90 #[.agg #[.slice A0_0 l0_0.length c0_0, .slice A0_1 l0_1.length c0_1, .slice A0_2 l0_2.length c0_2]] w fun e w' => e = .returned (.bool r) ∧ Below w.heap.size w w' := by
 have hu53 := Try.underlying53
 have HR0_0 := Aside0.mk hr0_0
 have HC0_0 := Aside0.mk hc0_0
 clear hr0_0 hc0_0
 have HR0_1 := Aside0.mk hr0_1
 have HC0_1 := Aside0.mk hc0_1
 clear hr0_1 hc0_1
 have HR0_2 := Aside0.mk hr0_2
 have HC0_2 := Aside0.mk hc0_2
 clear hr0_2 hc0_2
 have HB := Aside0.mk (Below.refl w.heap.size w)
 have H : ((impl_pricesOk.f l0_0 6).bind fun t580 => (if t580 = true then ((impl_pricesOk.f l0_1 6).bind fun t581 => (if t581 = true then ((impl_pricesOk.f l0_2 36).bind fun t582 => (impl_CostOk.j0 k (!t582) l0_0 l0_1 l0_2)) else (impl_CostOk.j0 k true l0_0 l0_1 l0_2))) else (impl_CostOk.j0 k true l0_0 l0_1 l0_2))) = some r := h
 clear h
 have HC2 := Aside0.mk H
 clear H
 go_enter Try.func90, Try.ntmps90
 go_upto_region 1 with (first | ((with_reducible refine gate_dst (N := 1) rfl ?_); refine box_event ?hg (N := 1) ?hd (cs := #[.slice A0_0 l0_0.length c0_0, .slice A0_1 l0_1.length c0_1, .slice A0_2 l0_2.length c0_2]) (t := 53) ?hr ?_; (case hd => rfl); (case hg => rfl); (case hr => first | (go_simp; done) | (go_simp; rfl)); intro gb579 hg w3 hbox hb; have n0_ := Aside0.mk (below_step (by repeat (first | (with_reducible first | exact HB.out | apply below_alloc | apply pw_below_drewN | apply below_drew1) | exact HB.out)) hb); have n1_ := Aside0.mk (hbox); have n2_ := Aside0.mk ((by rw [hg]; exact (below_size (by repeat (first | (with_reducible first | exact HB.out | apply below_alloc | apply pw_below_drewN | apply below_drew1) | exact HB.out))) : w.heap.size ≤ gb579)); have n3_ := Aside0.mk ((by rw [hg]; exact (below_size (by repeat (first | (with_reducible first | exact HB.out | apply below_alloc | apply pw_below_drewN | apply below_drew1) | exact HB.out))) : w.heap.size ≤ gb579)); clear HB; have HB := n0_; have BK579 := n1_; have GW579 := n2_; have GE579 := n3_; clear n0_ n1_ n2_ n3_; clear hb hbox hg))
 (try simp only [Act.put, List.setIfInBounds_toArray, List.set_cons_zero, List.set_cons_succ])
 go_cut [19] (fun v19 wc => ∃ (kq : Nat) (x19_1 : Bool), v19 = .bool x19_1 ∧ Aside0 (impl_CostOk.j0 kq x19_1 l0_0 l0_1 l0_2 = some r) ∧ Aside0 (kq ≤ k) ∧ Aside0 (wc.heap[gb579]? = some (.cells #[(.slice A0_0 l0_0.length c0_0), (.slice A0_1 l0_1.length c0_1), (.slice A0_2 l0_2.length c0_2)] 53 (0, 0))) ∧ Aside0 (Below w.heap.size w wc))
 case first =>
  have H := HC2.out
  clear HC2
  replace H := Option.bind_eq_some_iff.mp H
  obtain ⟨t580, A40, H⟩ := H
  replace H : (if t580 = true then ((impl_pricesOk.f l0_1 6).bind fun t581 => (if t581 = true then ((impl_pricesOk.f l0_2 36).bind fun t582 => (impl_CostOk.j0 k (!t582) l0_0 l0_1 l0_2)) else (impl_CostOk.j0 k true l0_0 l0_1 l0_2))) else (impl_CostOk.j0 k true l0_0 l0_1 l0_2)) = some r := H
  have A4 := Aside0.mk A40
  clear A40
  by_cases c5 : t580 = true
  ·subst c5
   have H1 : ((impl_pricesOk.f l0_1 6).bind fun t581 => (if t581 = true then ((impl_pricesOk.f l0_2 36).bind fun t582 => (impl_CostOk.j0 k (!t582) l0_0 l0_1 l0_2)) else (impl_CostOk.j0 k true l0_0 l0_1 l0_2))) = some r := by rw [if_pos rfl] at H; exact H
   clear H
   have H := H1
   clear H1
   replace H := Option.bind_eq_some_iff.mp H
   obtain ⟨t581, A60, H⟩ := H
   replace H : (if t581 = true then ((impl_pricesOk.f l0_2 36).bind fun t582 => (impl_CostOk.j0 k (!t582) l0_0 l0_1 l0_2)) else (impl_CostOk.j0 k true l0_0 l0_1 l0_2)) = some r := H
   have A6 := Aside0.mk A60
   clear A60
   by_cases c7 : t581 = true
   ·subst c7
    have H1 : ((impl_pricesOk.f l0_2 36).bind fun t582 => (impl_CostOk.j0 k (!t582) l0_0 l0_1 l0_2)) = some r := by rw [if_pos rfl] at H; exact H
    clear H
    have H := H1
    clear H1
    replace H := Option.bind_eq_some_iff.mp H
    obtain ⟨t582, A80, H⟩ := H
    replace H : (impl_CostOk.j0 k (!t582) l0_0 l0_1 l0_2) = some r := H
    have A8 := Aside0.mk A80
    clear A80
    have H' := Aside0.mk H
    clear H
    have hcz9_0 : w3.cell? ⟨gb579, 0, none⟩ = some (.slice A0_0 l0_0.length c0_0) := (blk_cell BK579.out 0).trans rfl
    have hcz9_1 : w3.cell? ⟨gb579, 1, none⟩ = some (.slice A0_1 l0_1.length c0_1) := (blk_cell BK579.out 1).trans rfl
    have hcz9_2 : w3.cell? ⟨gb579, 2, none⟩ = some (.slice A0_2 l0_2.length c0_2) := (blk_cell BK579.out 2).trans rfl
    have hfz9_0 := blk_frozen BK579.out 0
    have hfz9_1 := blk_frozen BK579.out 1
    have hfz9_2 := blk_frozen BK579.out 2
    go_wp2_with (first | ((with_reducible refine gate_callee (f := 126) rfl ?_); refine goesL_ (some 6) rfl rfl Try.func126 (by kernel_rfl) rfl #[.slice A0_0 l0_0.length c0_0, .int .i64 6] rfl (by (try simp only [List.map_toArray, List.map_cons, List.map_nil]); first | done | rfl | (simp only [List.length_drop, List.length_take]; rfl)) ?_; (with_reducible refine (impl_pricesOk.calls _ _ l0_0 6 true _ ?side1 ?side2 A4.out).mono ?_); (case side1 => repeat (first | exact (Kd.C_below HR0_0.out HB.out) | (with_reducible refine Kd.C_alloc ?_ _) | (with_reducible refine Kd.C_drewN ?_ _) | (with_reducible refine Kd.C_drew ?_))); (case side2 => exact HC0_0.out); rintro e w10 ⟨rfl, hb⟩; refine ⟨_, rfl, ?_⟩; have n0_ := Aside0.mk (blk_below (g := gb579) (o := .cells #[.slice A0_0 l0_0.length c0_0, .slice A0_1 l0_1.length c0_1, .slice A0_2 l0_2.length c0_2] 53 (0, 0)) (by (with_reducible repeat (first | refine blk_drewN ?_ _ | refine blk_drew ?_ | refine blk_alloc ?_ _)); exact BK579.out) hb); have n1_ := Aside0.mk (below_step (by repeat (first | (with_reducible first | exact HB.out | apply below_alloc | apply pw_below_drewN | apply below_drew1 | refine below_set ?_ GE579.out) | exact HB.out)) hb); clear BK579; clear HB; have BK579 := n0_; have HB := n1_; clear n0_ n1_; (try clear hb); (try clear hb2); (try clear hk); (try clear hi); have hcz11_0 : w10.cell? ⟨gb579, 0, none⟩ = some (.slice A0_0 l0_0.length c0_0) := (blk_cell BK579.out 0).trans rfl; have hcz11_1 : w10.cell? ⟨gb579, 1, none⟩ = some (.slice A0_1 l0_1.length c0_1) := (blk_cell BK579.out 1).trans rfl; have hcz11_2 : w10.cell? ⟨gb579, 2, none⟩ = some (.slice A0_2 l0_2.length c0_2) := (blk_cell BK579.out 2).trans rfl; have hfz11_0 := blk_frozen BK579.out 0; have hfz11_1 := blk_frozen BK579.out 1; have hfz11_2 := blk_frozen BK579.out 2) | (go_at_call 126; (with_reducible refine (impl_pricesOk.calls _ _ l0_1 6 true _ ?side1 ?side2 A6.out).mono ?_); (case side1 => repeat (first | exact (Kd.C_below HR0_1.out HB.out) | (with_reducible refine Kd.C_alloc ?_ _) | (with_reducible refine Kd.C_drewN ?_ _) | (with_reducible refine Kd.C_drew ?_))); (case side2 => exact HC0_1.out); rintro e w12 ⟨rfl, hb⟩; have n0_ := Aside0.mk (blk_below (g := gb579) (o := .cells #[.slice A0_0 l0_0.length c0_0, .slice A0_1 l0_1.length c0_1, .slice A0_2 l0_2.length c0_2] 53 (0, 0)) (by (with_reducible repeat (first | refine blk_drewN ?_ _ | refine blk_drew ?_ | refine blk_alloc ?_ _)); exact BK579.out) hb); have n1_ := Aside0.mk (below_step (by repeat (first | (with_reducible first | exact HB.out | apply below_alloc | apply pw_below_drewN | apply below_drew1 | refine below_set ?_ GE579.out) | exact HB.out)) hb); clear BK579; clear HB; have BK579 := n0_; have HB := n1_; clear n0_ n1_; (try clear hb); (try clear hb2); (try clear hk); (try clear hi); have hcz13_0 : w12.cell? ⟨gb579, 0, none⟩ = some (.slice A0_0 l0_0.length c0_0) := (blk_cell BK579.out 0).trans rfl; have hcz13_1 : w12.cell? ⟨gb579, 1, none⟩ = some (.slice A0_1 l0_1.length c0_1) := (blk_cell BK579.out 1).trans rfl; have hcz13_2 : w12.cell? ⟨gb579, 2, none⟩ = some (.slice A0_2 l0_2.length c0_2) := (blk_cell BK579.out 2).trans rfl; have hfz13_0 := blk_frozen BK579.out 0; have hfz13_1 := blk_frozen BK579.out 1; have hfz13_2 := blk_frozen BK579.out 2) | (go_at_call 126; (with_reducible refine (impl_pricesOk.calls _ _ l0_2 36 t582 _ ?side1 ?side2 A8.out).mono ?_); (case side1 => repeat (first | exact (Kd.C_below HR0_2.out HB.out) | (with_reducible refine Kd.C_alloc ?_ _) | (with_reducible refine Kd.C_drewN ?_ _) | (with_reducible refine Kd.C_drew ?_))); (case side2 => exact HC0_2.out); rintro e w14 ⟨rfl, hb⟩; have n0_ := Aside0.mk (blk_below (g := gb579) (o := .cells #[.slice A0_0 l0_0.length c0_0, .slice A0_1 l0_1.length c0_1, .slice A0_2 l0_2.length c0_2] 53 (0, 0)) (by (with_reducible repeat (first | refine blk_drewN ?_ _ | refine blk_drew ?_ | refine blk_alloc ?_ _)); exact BK579.out) hb); have n1_ := Aside0.mk (below_step (by repeat (first | (with_reducible first | exact HB.out | apply below_alloc | apply pw_below_drewN | apply below_drew1 | refine below_set ?_ GE579.out) | exact HB.out)) hb); clear BK579; clear HB; have BK579 := n0_; have HB := n1_; clear n0_ n1_; (try clear hb); (try clear hb2); (try clear hk); (try clear hi)))
    go_meet
    case rel => exact ⟨_, (!t582), (by first | rfl | (simp; done) | (simp [*]; done)), H', ⟨by first | omega | exact Nat.le_refl _⟩, ⟨by (with_reducible repeat (first | refine blk_drewN ?_ _ | refine blk_drew ?_ | refine blk_alloc ?_ _)); exact BK579.out⟩, ⟨by repeat (first | (with_reducible first | exact HB.out | apply below_alloc | apply pw_below_drewN | apply below_drew1 | refine below_set ?_ GE579.out) | exact HB.out)⟩⟩
   ·replace c7 := Bool.eq_false_iff.mpr c7
    subst c7
    have H1 : (impl_CostOk.j0 k true l0_0 l0_1 l0_2) = some r := by rw [if_neg (show ¬ (false = true) by decide)] at H; exact H
    clear H
    have H := H1
    clear H1
    have H' := Aside0.mk H
    clear H
    have hcz15_0 : w3.cell? ⟨gb579, 0, none⟩ = some (.slice A0_0 l0_0.length c0_0) := (blk_cell BK579.out 0).trans rfl
    have hcz15_1 : w3.cell? ⟨gb579, 1, none⟩ = some (.slice A0_1 l0_1.length c0_1) := (blk_cell BK579.out 1).trans rfl
    have hcz15_2 : w3.cell? ⟨gb579, 2, none⟩ = some (.slice A0_2 l0_2.length c0_2) := (blk_cell BK579.out 2).trans rfl
    have hfz15_0 := blk_frozen BK579.out 0
    have hfz15_1 := blk_frozen BK579.out 1
    have hfz15_2 := blk_frozen BK579.out 2
    go_wp2_with (first | ((with_reducible refine gate_callee (f := 126) rfl ?_); refine goesL_ (some 6) rfl rfl Try.func126 (by kernel_rfl) rfl #[.slice A0_0 l0_0.length c0_0, .int .i64 6] rfl (by (try simp only [List.map_toArray, List.map_cons, List.map_nil]); first | done | rfl | (simp only [List.length_drop, List.length_take]; rfl)) ?_; (with_reducible refine (impl_pricesOk.calls _ _ l0_0 6 true _ ?side1 ?side2 A4.out).mono ?_); (case side1 => repeat (first | exact (Kd.C_below HR0_0.out HB.out) | (with_reducible refine Kd.C_alloc ?_ _) | (with_reducible refine Kd.C_drewN ?_ _) | (with_reducible refine Kd.C_drew ?_))); (case side2 => exact HC0_0.out); rintro e w16 ⟨rfl, hb⟩; refine ⟨_, rfl, ?_⟩; have n0_ := Aside0.mk (blk_below (g := gb579) (o := .cells #[.slice A0_0 l0_0.length c0_0, .slice A0_1 l0_1.length c0_1, .slice A0_2 l0_2.length c0_2] 53 (0, 0)) (by (with_reducible repeat (first | refine blk_drewN ?_ _ | refine blk_drew ?_ | refine blk_alloc ?_ _)); exact BK579.out) hb); have n1_ := Aside0.mk (below_step (by repeat (first | (with_reducible first | exact HB.out | apply below_alloc | apply pw_below_drewN | apply below_drew1 | refine below_set ?_ GE579.out) | exact HB.out)) hb); clear BK579; clear HB; have BK579 := n0_; have HB := n1_; clear n0_ n1_; (try clear hb); (try clear hb2); (try clear hk); (try clear hi); have hcz17_0 : w16.cell? ⟨gb579, 0, none⟩ = some (.slice A0_0 l0_0.length c0_0) := (blk_cell BK579.out 0).trans rfl; have hcz17_1 : w16.cell? ⟨gb579, 1, none⟩ = some (.slice A0_1 l0_1.length c0_1) := (blk_cell BK579.out 1).trans rfl; have hcz17_2 : w16.cell? ⟨gb579, 2, none⟩ = some (.slice A0_2 l0_2.length c0_2) := (blk_cell BK579.out 2).trans rfl; have hfz17_0 := blk_frozen BK579.out 0; have hfz17_1 := blk_frozen BK579.out 1; have hfz17_2 := blk_frozen BK579.out 2) | (go_at_call 126; (with_reducible refine (impl_pricesOk.calls _ _ l0_1 6 false _ ?side1 ?side2 A6.out).mono ?_); (case side1 => repeat (first | exact (Kd.C_below HR0_1.out HB.out) | (with_reducible refine Kd.C_alloc ?_ _) | (with_reducible refine Kd.C_drewN ?_ _) | (with_reducible refine Kd.C_drew ?_))); (case side2 => exact HC0_1.out); rintro e w18 ⟨rfl, hb⟩; have n0_ := Aside0.mk (blk_below (g := gb579) (o := .cells #[.slice A0_0 l0_0.length c0_0, .slice A0_1 l0_1.length c0_1, .slice A0_2 l0_2.length c0_2] 53 (0, 0)) (by (with_reducible repeat (first | refine blk_drewN ?_ _ | refine blk_drew ?_ | refine blk_alloc ?_ _)); exact BK579.out) hb); have n1_ := Aside0.mk (below_step (by repeat (first | (with_reducible first | exact HB.out | apply below_alloc | apply pw_below_drewN | apply below_drew1 | refine below_set ?_ GE579.out) | exact HB.out)) hb); clear BK579; clear HB; have BK579 := n0_; have HB := n1_; clear n0_ n1_; (try clear hb); (try clear hb2); (try clear hk); (try clear hi)))
    go_meet
    case rel => exact ⟨_, (true), (by first | rfl | (simp; done) | (simp [*]; done)), H', ⟨by first | omega | exact Nat.le_refl _⟩, ⟨by (with_reducible repeat (first | refine blk_drewN ?_ _ | refine blk_drew ?_ | refine blk_alloc ?_ _)); exact BK579.out⟩, ⟨by repeat (first | (with_reducible first | exact HB.out | apply below_alloc | apply pw_below_drewN | apply below_drew1 | refine below_set ?_ GE579.out) | exact HB.out)⟩⟩
  ·replace c5 := Bool.eq_false_iff.mpr c5
   subst c5
   have H1 : (impl_CostOk.j0 k true l0_0 l0_1 l0_2) = some r := by rw [if_neg (show ¬ (false = true) by decide)] at H; exact H
   clear H
   have H := H1
   clear H1
   have H' := Aside0.mk H
   clear H
   have hcz19_0 : w3.cell? ⟨gb579, 0, none⟩ = some (.slice A0_0 l0_0.length c0_0) := (blk_cell BK579.out 0).trans rfl
   have hcz19_1 : w3.cell? ⟨gb579, 1, none⟩ = some (.slice A0_1 l0_1.length c0_1) := (blk_cell BK579.out 1).trans rfl
   have hcz19_2 : w3.cell? ⟨gb579, 2, none⟩ = some (.slice A0_2 l0_2.length c0_2) := (blk_cell BK579.out 2).trans rfl
   have hfz19_0 := blk_frozen BK579.out 0
   have hfz19_1 := blk_frozen BK579.out 1
   have hfz19_2 := blk_frozen BK579.out 2
   go_wp2_with (first | ((with_reducible refine gate_callee (f := 126) rfl ?_); refine goesL_ (some 6) rfl rfl Try.func126 (by kernel_rfl) rfl #[.slice A0_0 l0_0.length c0_0, .int .i64 6] rfl (by (try simp only [List.map_toArray, List.map_cons, List.map_nil]); first | done | rfl | (simp only [List.length_drop, List.length_take]; rfl)) ?_; (with_reducible refine (impl_pricesOk.calls _ _ l0_0 6 false _ ?side1 ?side2 A4.out).mono ?_); (case side1 => repeat (first | exact (Kd.C_below HR0_0.out HB.out) | (with_reducible refine Kd.C_alloc ?_ _) | (with_reducible refine Kd.C_drewN ?_ _) | (with_reducible refine Kd.C_drew ?_))); (case side2 => exact HC0_0.out); rintro e w20 ⟨rfl, hb⟩; refine ⟨_, rfl, ?_⟩; have n0_ := Aside0.mk (blk_below (g := gb579) (o := .cells #[.slice A0_0 l0_0.length c0_0, .slice A0_1 l0_1.length c0_1, .slice A0_2 l0_2.length c0_2] 53 (0, 0)) (by (with_reducible repeat (first | refine blk_drewN ?_ _ | refine blk_drew ?_ | refine blk_alloc ?_ _)); exact BK579.out) hb); have n1_ := Aside0.mk (below_step (by repeat (first | (with_reducible first | exact HB.out | apply below_alloc | apply pw_below_drewN | apply below_drew1 | refine below_set ?_ GE579.out) | exact HB.out)) hb); clear BK579; clear HB; have BK579 := n0_; have HB := n1_; clear n0_ n1_; (try clear hb); (try clear hb2); (try clear hk); (try clear hi)))
   go_meet
   case rel => exact ⟨_, (true), (by first | rfl | (simp; done) | (simp [*]; done)), H', ⟨by first | omega | exact Nat.le_refl _⟩, ⟨by (with_reducible repeat (first | refine blk_drewN ?_ _ | refine blk_drew ?_ | refine blk_alloc ?_ _)); exact BK579.out⟩, ⟨by repeat (first | (with_reducible first | exact HB.out | apply below_alloc | apply pw_below_drewN | apply below_drew1 | refine below_set ?_ GE579.out) | exact HB.out)⟩⟩
 case rest =>
  clear HC2
  try clear c1
  try clear p2
  try clear c5
  try clear c7
  try clear c9
  try clear c12
  try clear hcz11_0
  try clear hcz11_1
  try clear hcz11_2
  try clear hcz13_0
  try clear hcz13_1
  try clear hcz13_2
  try clear hcz15_0
  try clear hcz15_1
  try clear hcz15_2
  try clear hcz17_0
  try clear hcz17_1
  try clear hcz17_2
  try clear hcz19_0
  try clear hcz19_1
  try clear hcz19_2
  try clear hcz9_0
  try clear hcz9_1
  try clear hcz9_2
  try clear hfz11_0
  try clear hfz11_1
  try clear hfz11_2
  try clear hfz13_0
  try clear hfz13_1
  try clear hfz13_2
  try clear hfz15_0
  try clear hfz15_1
  try clear hfz15_2
  try clear hfz17_0
  try clear hfz17_1
  try clear hfz17_2
  try clear hfz19_0
  try clear hfz19_1
  try clear hfz19_2
  try clear hfz9_0
  try clear hfz9_1
  try clear hfz9_2
  obtain ⟨kq, x19_1, rfl, HA, HJ1, BK579, HB⟩ := hcut
  cases kq with
  | zero => exact absurd HA.out (by simp [impl_CostOk.j0])
  | succ kj1 =>
   have H := HA.out
   clear HA
   simp only [impl_CostOk.j0] at H
   by_cases c21 : x19_1 = true
   ·subst c21
    have H1 : (some false) = some r := by rw [if_pos rfl] at H; exact H
    clear H
    have H := H1
    clear H1
    obtain rfl := Option.some.inj H
    go_wp2
    go_ret
    exact ⟨by first | rfl | (simp [errW_none, errW_some] <;> rfl) | (simp [*, errW_none, errW_some] <;> rfl), by repeat (first | (with_reducible first | exact HB.out | apply below_alloc | apply pw_below_drewN | apply below_drew1 | refine below_set ?_ GE579.out) | exact HB.out)⟩
   ·replace c21 := Bool.eq_false_iff.mpr c21
    subst c21
    have H1 : (impl_CostOk.l0 kj1 0 l0_0 l0_1 l0_2) = some r := by rw [if_neg (show ¬ (false = true) by decide)] at H; exact H
    clear H
    have H := H1
    clear H1
    have H' := Aside0.mk H
    clear H
    go_wp2
    go_loopg [20] kj1 (fun kq v20 w' => ∃ (x20_2 : Int), v20 = .int .i64 x20_2 ∧ Aside0 (impl_CostOk.l0 kq x20_2 l0_0 l0_1 l0_2 = some r) ∧ Aside0 (kq ≤ kj1) ∧ Aside0 (w'.heap[gb579]? = some (.cells #[(.slice A0_0 l0_0.length c0_0), (.slice A0_1 l0_1.length c0_1), (.slice A0_2 l0_2.length c0_2)] 53 (0, 0))) ∧ Aside0 (Below w.heap.size w w'))
    case atStart => exact ⟨(0), (by first | rfl | (simp; done) | (simp [*]; done)), H', ⟨Nat.le_refl _⟩, ⟨by (with_reducible repeat (first | refine blk_drewN ?_ _ | refine blk_drew ?_ | refine blk_alloc ?_ _)); exact BK579.out⟩, ⟨by repeat (first | (with_reducible first | exact HB.out | apply below_alloc | apply pw_below_drewN | apply below_drew1 | refine below_set ?_ GE579.out) | exact HB.out)⟩⟩
    case round =>
     clear H'
     try clear c1
     try clear c2
     try clear p2
     try clear c5
     try clear c7
     try clear c9
     try clear c12
     try clear c21
     try clear hcz11_0
     try clear hcz11_1
     try clear hcz11_2
     try clear hcz13_0
     try clear hcz13_1
     try clear hcz13_2
     try clear hcz15_0
     try clear hcz15_1
     try clear hcz15_2
     try clear hcz17_0
     try clear hcz17_1
     try clear hcz17_2
     try clear hcz19_0
     try clear hcz19_1
     try clear hcz19_2
     try clear hcz9_0
     try clear hcz9_1
     try clear hcz9_2
     try clear hfz11_0
     try clear hfz11_1
     try clear hfz11_2
     try clear hfz13_0
     try clear hfz13_1
     try clear hfz13_2
     try clear hfz15_0
     try clear hfz15_1
     try clear hfz15_2
     try clear hfz17_0
     try clear hfz17_1
     try clear hfz17_2
     try clear hfz19_0
     try clear hfz19_1
     try clear hfz19_2
     try clear hfz9_0
     try clear hfz9_1
     try clear hfz9_2
     try clear p2
     obtain ⟨x20_2, rfl, HA, HK2, BK579, HB⟩ := hrel
     cases gk with
     | zero => exact absurd HA.out (by simp [impl_CostOk.l0])
     | succ k2 =>
      have H := HA.out
      clear HA
      simp only [impl_CostOk.l0] at H
      by_cases c22 : x20_2 < 6
      ·rw [if_pos c22] at H
       have c22b0 : decide (x20_2 < 6) = true := decide_eq_true c22
       clear c22
       obtain ⟨ji23, hji23⟩ : ∃ j_ : Int, (wrap64 ((wrap64 (x20_2 * 6)) + x20_2)) = j_ := ⟨_, rfl⟩
       replace H : (if 0 ≤ (ji23) then (if (ji23) < (l0_2.length : Int) then (if (rd l0_2 (ji23)) = 0 then (impl_CostOk.l0 k2 (wrap64 (x20_2 + 1)) l0_0 l0_1 l0_2) else (some false)) else (none)) else (none)) = some r := by first | (rw [hji23] at H; exact H) | (simp only [hji23] at H ⊢; exact H)
       have hji23w : (IntKind.i64.wrap ((wrap64 (x20_2 * 6)) + x20_2)) = ji23 := (i64_w _).trans hji23
       by_cases c24 : 0 ≤ (ji23)
       ·rw [if_pos c24] at H
        have c24b0 : decide (0 ≤ (ji23)) = true := decide_eq_true c24
        clear c24
        by_cases c25 : (ji23) < (l0_2.length : Int)
        ·rw [if_pos c25] at H
         have c25b0 : decide ((ji23) < (l0_2.length : Int)) = true := decide_eq_true c25
         clear c25
         by_cases c26 : (rd l0_2 (ji23)) = 0
         ·rw [if_pos c26] at H
          have c26b0 : ((rd l0_2 (ji23)) == 0) = true := beq_iff_eq.mpr c26
          have c26b1 : ((rd l0_2 (ji23)) != 0) = false := bne_eq_false_iff_eq.mpr c26
          clear c26
          have H' := Aside0.mk H
          clear H
          have hcz27_0 : wr.cell? ⟨gb579, 0, none⟩ = some (.slice A0_0 l0_0.length c0_0) := (blk_cell BK579.out 0).trans rfl
          have hcz27_1 : wr.cell? ⟨gb579, 1, none⟩ = some (.slice A0_1 l0_1.length c0_1) := (blk_cell BK579.out 1).trans rfl
          have hcz27_2 : wr.cell? ⟨gb579, 2, none⟩ = some (.slice A0_2 l0_2.length c0_2) := (blk_cell BK579.out 2).trans rfl
          have hfz27_0 := blk_frozen BK579.out 0
          have hfz27_1 := blk_frozen BK579.out 1
          have hfz27_2 := blk_frozen BK579.out 2
          have p583 : 0 ≤ ((ji23) : Int) := of_decide_eq_true (by first | (with_reducible assumption) | assumption)
          have q583 : (ji23) < (l0_2.length : Int) := of_decide_eq_true (by first | (with_reducible assumption) | assumption)
          obtain ⟨ad583, e583, hx583_0⟩ := Kd.at_int HR0_2.out (ji23) p583 q583
          cases e583
          replace hx583_0 := (HB.out.cell (World.block_lt_of_cell? w _ hx583_0)).trans hx583_0
          replace p583 := eq_true p583
          replace q583 := eq_true q583
          go_wp2
          go_roundg k2
          case measure => have := HJ1.out; have := HK2.out; omega
          case rel => exact ⟨(wrap64 (x20_2 + 1)), (by first | rfl | (simp; done) | (simp [*]; done)), H', ⟨by have := HJ1.out; have := HK2.out; omega⟩, ⟨by (with_reducible repeat (first | refine blk_drewN ?_ _ | refine blk_drew ?_ | refine blk_alloc ?_ _)); exact BK579.out⟩, ⟨by repeat (first | (with_reducible first | exact HB.out | apply below_alloc | apply pw_below_drewN | apply below_drew1 | refine below_set ?_ GE579.out) | exact HB.out)⟩⟩
         ·rw [if_neg c26] at H
          have c26b0 : ((rd l0_2 (ji23)) == 0) = false := beq_eq_false_iff_ne.mpr c26
          have c26b1 : ((rd l0_2 (ji23)) != 0) = true := bne_iff_ne.mpr c26
          obtain rfl := Option.some.inj H
          have hcz28_0 : wr.cell? ⟨gb579, 0, none⟩ = some (.slice A0_0 l0_0.length c0_0) := (blk_cell BK579.out 0).trans rfl
          have hcz28_1 : wr.cell? ⟨gb579, 1, none⟩ = some (.slice A0_1 l0_1.length c0_1) := (blk_cell BK579.out 1).trans rfl
          have hcz28_2 : wr.cell? ⟨gb579, 2, none⟩ = some (.slice A0_2 l0_2.length c0_2) := (blk_cell BK579.out 2).trans rfl
          have hfz28_0 := blk_frozen BK579.out 0
          have hfz28_1 := blk_frozen BK579.out 1
          have hfz28_2 := blk_frozen BK579.out 2
          have p583 : 0 ≤ ((ji23) : Int) := of_decide_eq_true (by first | (with_reducible assumption) | assumption)
          have q583 : (ji23) < (l0_2.length : Int) := of_decide_eq_true (by first | (with_reducible assumption) | assumption)
          obtain ⟨ad583, e583, hx583_0⟩ := Kd.at_int HR0_2.out (ji23) p583 q583
          cases e583
          replace hx583_0 := (HB.out.cell (World.block_lt_of_cell? w _ hx583_0)).trans hx583_0
          replace p583 := eq_true p583
          replace q583 := eq_true q583
          go_wp2
          go_ret
          exact ⟨by first | rfl | (simp [errW_none, errW_some] <;> rfl) | (simp only [← hji23]; first | rfl | (simp [errW_none, errW_some] <;> rfl)) | (simp [*, errW_none, errW_some] <;> rfl), by repeat (first | (with_reducible first | exact HB.out | apply below_alloc | apply pw_below_drewN | apply below_drew1 | refine below_set ?_ GE579.out) | exact HB.out)⟩
        ·rw [if_neg c25] at H
         exact absurd H (by simp)
       ·rw [if_neg c24] at H
        exact absurd H (by simp)
      ·rw [if_neg c22] at H
       have c22b0 : decide (x20_2 < 6) = false := decide_eq_false c22
       clear c22
       obtain rfl := Option.some.inj H
       go_wp2
       go_ret
       exact ⟨by first | rfl | (simp [errW_none, errW_some] <;> rfl) | (simp [*, errW_none, errW_some] <;> rfl), by repeat (first | (with_reducible first | exact HB.out | apply below_alloc | apply pw_below_drewN | apply below_drew1 | refine below_set ?_ GE579.out) | exact HB.out)⟩
end Go.Proofs.Ytbifdckfglejkaa.X
namespace Go.Proofs.Ytbifdckfglejkaa.X
open Go.RowKit Go.Proofs.YtbifdckfglejkaaW.PrintWords Go.Proofs.YtbifdckfglejkaaW.PrintLast Go.Proofs.YtbifdckfglejkaaW.PrintMore
attribute [local go_sem] max2_int min2_int max_two min_two max_three min_three max_four min_four   -- for this text's walks alone
set_option linter.unusedVariables false
set_option linter.unusedSimpArgs false
def impl_RelCost.f (k : Nat) (l0_0 : List Int) (l0_1 : List Int) (l0_2 : List Int) (a1 : Int) (a2 : Int) : Option (Int) := (impl_CostOk.f k l0_0 l0_1 l0_2).bind fun t585 => (if t585 = true then ((impl_LabelOk.f a1).bind fun t586 => (if t586 = true then ((impl_LabelOk.f a2).bind fun t587 => (if t587 = true then (if 0 ≤ (wrap64 ((wrap64 (a1 * 6)) + a2)) then (if (wrap64 ((wrap64 (a1 * 6)) + a2)) < (l0_2.length : Int) then (some (rd l0_2 (wrap64 ((wrap64 (a1 * 6)) + a2)))) else (none)) else (none)) else (some 0))) else (some 0))) else (some 0))
set_option maxHeartbeats 8000000 in
set_option maxRecDepth 100000 in
theorem impl_RelCost.calls (k : Nat) (A0_0 : Option Addr) (c0_0 : Nat) (l0_0 : List Int) (A0_1 : Option Addr) (c0_1 : Nat) (l0_1 : List Int) (A0_2 : Option Addr) (c0_2 : Nat) (l0_2 : List Int) (a1 : Int) (a2 : Int) (r : Int) (w : World) (hr0_0 : Kd.C (Kd.int .i64) w A0_0 l0_0.length l0_0) (hc0_0 : l0_0.length ≤ c0_0) (hr0_1 : Kd.C (Kd.int .i64) w A0_1 l0_1.length l0_1) (hc0_1 : l0_1.length ≤ c0_1) (hr0_2 : Kd.C (Kd.int .i64) w A0_2 l0_2.length l0_2) (hc0_2 : l0_2.length ≤ c0_2) (h : impl_RelCost.f k l0_0 l0_1 l0_2 a1 a2 = some r) :
  Calls Try.prog 94 #[.agg #[.slice A0_0 l0_0.length c0_0, .slice A0_1 l0_1.length c0_1, .slice A0_2 l0_2.length c0_2], .int .i64 a1, .int .i64 a2] w fun e w' => e = .returned (.int .i64 r) ∧ Below w.heap.size w w' := by
 have hu53 := Try.underlying53
 have HR0_0 := Aside0.mk hr0_0
 have HC0_0 := Aside0.mk hc0_0
 clear hr0_0 hc0_0
 have HR0_1 := Aside0.mk hr0_1
 have HC0_1 := Aside0.mk hc0_1
 clear hr0_1 hc0_1
 have HR0_2 := Aside0.mk hr0_2
 have HC0_2 := Aside0.mk hc0_2
 clear hr0_2 hc0_2
 have HB := Aside0.mk (Below.refl w.heap.size w)
 have H : ((impl_CostOk.f k l0_0 l0_1 l0_2).bind fun t585 => (if t585 = true then ((impl_LabelOk.f a1).bind fun t586 => (if t586 = true then ((impl_LabelOk.f a2).bind fun t587 => (if t587 = true then (if 0 ≤ (wrap64 ((wrap64 (a1 * 6)) + a2)) then (if (wrap64 ((wrap64 (a1 * 6)) + a2)) < (l0_2.length : Int) then (some (rd l0_2 (wrap64 ((wrap64 (a1 * 6)) + a2)))) else (none)) else (none)) else (some 0))) else (some 0))) else (some 0))) = some r := h
 clear h
 replace H := Option.bind_eq_some_iff.mp H
 obtain ⟨t585, A40, H⟩ := H
 replace H : (if t585 = true then ((impl_LabelOk.f a1).bind fun t586 => (if t586 = true then ((impl_LabelOk.f a2).bind fun t587 => (if t587 = true then (if 0 ≤ (wrap64 ((wrap64 (a1 * 6)) + a2)) then (if (wrap64 ((wrap64 (a1 * 6)) + a2)) < (l0_2.length : Int) then (some (rd l0_2 (wrap64 ((wrap64 (a1 * 6)) + a2)))) else (none)) else (none)) else (some 0))) else (some 0))) else (some 0)) = some r := H
 have A4 := Aside0.mk A40
 clear A40
 by_cases c5 : t585 = true
 ·subst c5
  have H1 : ((impl_LabelOk.f a1).bind fun t586 => (if t586 = true then ((impl_LabelOk.f a2).bind fun t587 => (if t587 = true then (if 0 ≤ (wrap64 ((wrap64 (a1 * 6)) + a2)) then (if (wrap64 ((wrap64 (a1 * 6)) + a2)) < (l0_2.length : Int) then (some (rd l0_2 (wrap64 ((wrap64 (a1 * 6)) + a2)))) else (none)) else (none)) else (some 0))) else (some 0))) = some r := by rw [if_pos rfl] at H; exact H
  clear H
  have H := H1
  clear H1
  replace H := Option.bind_eq_some_iff.mp H
  obtain ⟨t586, A60, H⟩ := H
  replace H : (if t586 = true then ((impl_LabelOk.f a2).bind fun t587 => (if t587 = true then (if 0 ≤ (wrap64 ((wrap64 (a1 * 6)) + a2)) then (if (wrap64 ((wrap64 (a1 * 6)) + a2)) < (l0_2.length : Int) then (some (rd l0_2 (wrap64 ((wrap64 (a1 * 6)) + a2)))) else (none)) else (none)) else (some 0))) else (some 0)) = some r := H
  have A6 := Aside0.mk A60
  clear A60
  by_cases c7 : t586 = true
  ·subst c7
   have H1 : ((impl_LabelOk.f a2).bind fun t587 => (if t587 = true then (if 0 ≤ (wrap64 ((wrap64 (a1 * 6)) + a2)) then (if (wrap64 ((wrap64 (a1 * 6)) + a2)) < (l0_2.length : Int) then (some (rd l0_2 (wrap64 ((wrap64 (a1 * 6)) + a2)))) else (none)) else (none)) else (some 0))) = some r := by rw [if_pos rfl] at H; exact H
   clear H
   have H := H1
   clear H1
   replace H := Option.bind_eq_some_iff.mp H
   obtain ⟨t587, A80, H⟩ := H
   replace H : (if t587 = true then (if 0 ≤ (wrap64 ((wrap64 (a1 * 6)) + a2)) then (if (wrap64 ((wrap64 (a1 * 6)) + a2)) < (l0_2.length : Int) then (some (rd l0_2 (wrap64 ((wrap64 (a1 * 6)) + a2)))) else (none)) else (none)) else (some 0)) = some r := H
   have A8 := Aside0.mk A80
   clear A80
   by_cases c9 : t587 = true
   ·subst c9
    have H1 : (if 0 ≤ (wrap64 ((wrap64 (a1 * 6)) + a2)) then (if (wrap64 ((wrap64 (a1 * 6)) + a2)) < (l0_2.length : Int) then (some (rd l0_2 (wrap64 ((wrap64 (a1 * 6)) + a2)))) else (none)) else (none)) = some r := by rw [if_pos rfl] at H; exact H
    clear H
    have H := H1
    clear H1
    obtain ⟨ji10, hji10⟩ : ∃ j_ : Int, (wrap64 ((wrap64 (a1 * 6)) + a2)) = j_ := ⟨_, rfl⟩
    replace H : (if 0 ≤ (ji10) then (if (ji10) < (l0_2.length : Int) then (some (rd l0_2 (ji10))) else (none)) else (none)) = some r := by first | (rw [hji10] at H; exact H) | (simp only [hji10] at H ⊢; exact H)
    (try rw [hji10] at A4)
    (try rw [hji10] at A6)
    (try rw [hji10] at A8)
    have hji10w : (IntKind.i64.wrap ((wrap64 (a1 * 6)) + a2)) = ji10 := (i64_w _).trans hji10
    by_cases c11 : 0 ≤ (ji10)
    ·rw [if_pos c11] at H
     have c11b0 : decide (0 ≤ (ji10)) = true := decide_eq_true c11
     clear c11
     by_cases c12 : (ji10) < (l0_2.length : Int)
     ·rw [if_pos c12] at H
      have c12b0 : decide ((ji10) < (l0_2.length : Int)) = true := decide_eq_true c12
      clear c12
      obtain rfl := Option.some.inj H
      go_enter Try.func94, Try.ntmps94
      go_wp2_with (first | ((with_reducible refine gate_dst (N := 3) rfl ?_); refine box_event ?hg (N := 3) ?hd (cs := #[.slice A0_0 l0_0.length c0_0, .slice A0_1 l0_1.length c0_1, .slice A0_2 l0_2.length c0_2]) (t := 53) ?hr ?_; (case hd => rfl); (case hg => rfl); (case hr => first | (go_simp; done) | (go_simp; rfl)); intro gb584 hg w13 hbox hb; have n0_ := Aside0.mk (below_step (by repeat (first | (with_reducible first | exact HB.out | apply below_alloc | apply pw_below_drewN | apply below_drew1) | exact HB.out)) hb); have n1_ := Aside0.mk (hbox); have n2_ := Aside0.mk ((by rw [hg]; exact (below_size (by repeat (first | (with_reducible first | exact HB.out | apply below_alloc | apply pw_below_drewN | apply below_drew1) | exact HB.out))) : w.heap.size ≤ gb584)); have n3_ := Aside0.mk ((by rw [hg]; exact (below_size (by repeat (first | (with_reducible first | exact HB.out | apply below_alloc | apply pw_below_drewN | apply below_drew1) | exact HB.out))) : w.heap.size ≤ gb584)); clear HB; have HB := n0_; have BK584 := n1_; have GW584 := n2_; have GE584 := n3_; clear n0_ n1_ n2_ n3_; clear hb hbox hg; have hcz14_0 : w13.cell? ⟨gb584, 0, none⟩ = some (.slice A0_0 l0_0.length c0_0) := (blk_cell BK584.out 0).trans rfl; have hcz14_1 : w13.cell? ⟨gb584, 1, none⟩ = some (.slice A0_1 l0_1.length c0_1) := (blk_cell BK584.out 1).trans rfl; have hcz14_2 : w13.cell? ⟨gb584, 2, none⟩ = some (.slice A0_2 l0_2.length c0_2) := (blk_cell BK584.out 2).trans rfl; have hfz14_0 := blk_frozen BK584.out 0; have hfz14_1 := blk_frozen BK584.out 1; have hfz14_2 := blk_frozen BK584.out 2) | ((with_reducible refine gate_callee (f := 90) rfl ?_); refine goesL_ (some 8) rfl rfl Try.func90 (by kernel_rfl) rfl #[.agg #[.slice A0_0 l0_0.length c0_0, .slice A0_1 l0_1.length c0_1, .slice A0_2 l0_2.length c0_2]] rfl (by (try simp only [List.map_toArray, List.map_cons, List.map_nil]); first | done | rfl | (simp only [List.length_drop, List.length_take]; rfl)) ?_; (with_reducible refine (impl_CostOk.calls k _ _ l0_0 _ _ l0_1 _ _ l0_2 true _ ?side1 ?side2 ?side3 ?side4 ?side5 ?side6 A4.out).mono ?_); (case side1 => repeat (first | exact (Kd.C_below HR0_0.out HB.out) | (with_reducible refine Kd.C_alloc ?_ _) | (with_reducible refine Kd.C_drewN ?_ _) | (with_reducible refine Kd.C_drew ?_))); (case side2 => exact HC0_0.out); (case side3 => repeat (first | exact (Kd.C_below HR0_1.out HB.out) | (with_reducible refine Kd.C_alloc ?_ _) | (with_reducible refine Kd.C_drewN ?_ _) | (with_reducible refine Kd.C_drew ?_))); (case side4 => exact HC0_1.out); (case side5 => repeat (first | exact (Kd.C_below HR0_2.out HB.out) | (with_reducible refine Kd.C_alloc ?_ _) | (with_reducible refine Kd.C_drewN ?_ _) | (with_reducible refine Kd.C_drew ?_))); (case side6 => exact HC0_2.out); rintro e w15 ⟨rfl, hb⟩; refine ⟨_, rfl, ?_⟩; have n0_ := Aside0.mk (blk_below (g := gb584) (o := .cells #[.slice A0_0 l0_0.length c0_0, .slice A0_1 l0_1.length c0_1, .slice A0_2 l0_2.length c0_2] 53 (0, 0)) (by (with_reducible repeat (first | refine blk_drewN ?_ _ | refine blk_drew ?_ | refine blk_alloc ?_ _)); exact BK584.out) hb); have n1_ := Aside0.mk (below_step (by repeat (first | (with_reducible first | exact HB.out | apply below_alloc | apply pw_below_drewN | apply below_drew1 | refine below_set ?_ GE584.out) | exact HB.out)) hb); clear BK584; clear HB; have BK584 := n0_; have HB := n1_; clear n0_ n1_; (try clear hb); (try clear hb2); (try clear hk); (try clear hi)) | (go_at_call 128; (with_reducible refine (impl_LabelOk.calls a1 true _ A6.out).mono ?_); rintro e w' ⟨rfl, ⟨nd, rfl⟩⟩) | (go_at_call 128; (with_reducible refine (impl_LabelOk.calls a2 true _ A8.out).mono ?_); rintro e w' ⟨rfl, ⟨nd, rfl⟩⟩; have hcz16_0 : w15.cell? ⟨gb584, 0, none⟩ = some (.slice A0_0 l0_0.length c0_0) := (blk_cell BK584.out 0).trans rfl; have hcz16_1 : w15.cell? ⟨gb584, 1, none⟩ = some (.slice A0_1 l0_1.length c0_1) := (blk_cell BK584.out 1).trans rfl; have hcz16_2 : w15.cell? ⟨gb584, 2, none⟩ = some (.slice A0_2 l0_2.length c0_2) := (blk_cell BK584.out 2).trans rfl; have hfz16_0 := blk_frozen BK584.out 0; have hfz16_1 := blk_frozen BK584.out 1; have hfz16_2 := blk_frozen BK584.out 2; have p588 : 0 ≤ ((ji10) : Int) := of_decide_eq_true (by first | (with_reducible assumption) | assumption); have q588 : (ji10) < (l0_2.length : Int) := of_decide_eq_true (by first | (with_reducible assumption) | assumption); obtain ⟨ad588, e588, hx588_0⟩ := Kd.at_int HR0_2.out (ji10) p588 q588; cases e588; replace hx588_0 := (HB.out.cell (World.block_lt_of_cell? w _ hx588_0)).trans hx588_0; replace p588 := eq_true p588; replace q588 := eq_true q588))
      go_ret
      exact ⟨by first | rfl | (simp [errW_none, errW_some] <;> rfl) | (simp only [← hji10]; first | rfl | (simp [errW_none, errW_some] <;> rfl)) | (simp [*, errW_none, errW_some] <;> rfl), by repeat (first | (with_reducible first | exact HB.out | apply below_alloc | apply pw_below_drewN | apply below_drew1 | refine below_set ?_ GE584.out) | exact HB.out)⟩
     ·rw [if_neg c12] at H
      exact absurd H (by simp)
    ·rw [if_neg c11] at H
     exact absurd H (by simp)
   ·replace c9 := Bool.eq_false_iff.mpr c9
    subst c9
    have H1 : (some 0) = some r := by rw [if_neg (show ¬ (false = true) by decide)] at H; exact H
    clear H
    have H := H1
    clear H1
    obtain rfl := Option.some.inj H
    go_enter Try.func94, Try.ntmps94
    go_wp2_with (first | ((with_reducible refine gate_dst (N := 3) rfl ?_); refine box_event ?hg (N := 3) ?hd (cs := #[.slice A0_0 l0_0.length c0_0, .slice A0_1 l0_1.length c0_1, .slice A0_2 l0_2.length c0_2]) (t := 53) ?hr ?_; (case hd => rfl); (case hg => rfl); (case hr => first | (go_simp; done) | (go_simp; rfl)); intro gb584 hg w17 hbox hb; have n0_ := Aside0.mk (below_step (by repeat (first | (with_reducible first | exact HB.out | apply below_alloc | apply pw_below_drewN | apply below_drew1) | exact HB.out)) hb); have n1_ := Aside0.mk (hbox); have n2_ := Aside0.mk ((by rw [hg]; exact (below_size (by repeat (first | (with_reducible first | exact HB.out | apply below_alloc | apply pw_below_drewN | apply below_drew1) | exact HB.out))) : w.heap.size ≤ gb584)); have n3_ := Aside0.mk ((by rw [hg]; exact (below_size (by repeat (first | (with_reducible first | exact HB.out | apply below_alloc | apply pw_below_drewN | apply below_drew1) | exact HB.out))) : w.heap.size ≤ gb584)); clear HB; have HB := n0_; have BK584 := n1_; have GW584 := n2_; have GE584 := n3_; clear n0_ n1_ n2_ n3_; clear hb hbox hg; have hcz18_0 : w17.cell? ⟨gb584, 0, none⟩ = some (.slice A0_0 l0_0.length c0_0) := (blk_cell BK584.out 0).trans rfl; have hcz18_1 : w17.cell? ⟨gb584, 1, none⟩ = some (.slice A0_1 l0_1.length c0_1) := (blk_cell BK584.out 1).trans rfl; have hcz18_2 : w17.cell? ⟨gb584, 2, none⟩ = some (.slice A0_2 l0_2.length c0_2) := (blk_cell BK584.out 2).trans rfl; have hfz18_0 := blk_frozen BK584.out 0; have hfz18_1 := blk_frozen BK584.out 1; have hfz18_2 := blk_frozen BK584.out 2) | ((with_reducible refine gate_callee (f := 90) rfl ?_); refine goesL_ (some 8) rfl rfl Try.func90 (by kernel_rfl) rfl #[.agg #[.slice A0_0 l0_0.length c0_0, .slice A0_1 l0_1.length c0_1, .slice A0_2 l0_2.length c0_2]] rfl (by (try simp only [List.map_toArray, List.map_cons, List.map_nil]); first | done | rfl | (simp only [List.length_drop, List.length_take]; rfl)) ?_; (with_reducible refine (impl_CostOk.calls k _ _ l0_0 _ _ l0_1 _ _ l0_2 true _ ?side1 ?side2 ?side3 ?side4 ?side5 ?side6 A4.out).mono ?_); (case side1 => repeat (first | exact (Kd.C_below HR0_0.out HB.out) | (with_reducible refine Kd.C_alloc ?_ _) | (with_reducible refine Kd.C_drewN ?_ _) | (with_reducible refine Kd.C_drew ?_))); (case side2 => exact HC0_0.out); (case side3 => repeat (first | exact (Kd.C_below HR0_1.out HB.out) | (with_reducible refine Kd.C_alloc ?_ _) | (with_reducible refine Kd.C_drewN ?_ _) | (with_reducible refine Kd.C_drew ?_))); (case side4 => exact HC0_1.out); (case side5 => repeat (first | exact (Kd.C_below HR0_2.out HB.out) | (with_reducible refine Kd.C_alloc ?_ _) | (with_reducible refine Kd.C_drewN ?_ _) | (with_reducible refine Kd.C_drew ?_))); (case side6 => exact HC0_2.out); rintro e w19 ⟨rfl, hb⟩; refine ⟨_, rfl, ?_⟩; have n0_ := Aside0.mk (blk_below (g := gb584) (o := .cells #[.slice A0_0 l0_0.length c0_0, .slice A0_1 l0_1.length c0_1, .slice A0_2 l0_2.length c0_2] 53 (0, 0)) (by (with_reducible repeat (first | refine blk_drewN ?_ _ | refine blk_drew ?_ | refine blk_alloc ?_ _)); exact BK584.out) hb); have n1_ := Aside0.mk (below_step (by repeat (first | (with_reducible first | exact HB.out | apply below_alloc | apply pw_below_drewN | apply below_drew1 | refine below_set ?_ GE584.out) | exact HB.out)) hb); clear BK584; clear HB; have BK584 := n0_; have HB := n1_; clear n0_ n1_; (try clear hb); (try clear hb2); (try clear hk); (try clear hi)) | (go_at_call 128; (with_reducible refine (impl_LabelOk.calls a1 true _ A6.out).mono ?_); rintro e w' ⟨rfl, ⟨nd, rfl⟩⟩) | (go_at_call 128; (with_reducible refine (impl_LabelOk.calls a2 false _ A8.out).mono ?_); rintro e w' ⟨rfl, ⟨nd, rfl⟩⟩))
    go_ret
    exact ⟨by first | rfl | (simp [errW_none, errW_some] <;> rfl) | (simp [*, errW_none, errW_some] <;> rfl), by repeat (first | (with_reducible first | exact HB.out | apply below_alloc | apply pw_below_drewN | apply below_drew1 | refine below_set ?_ GE584.out) | exact HB.out)⟩
  ·replace c7 := Bool.eq_false_iff.mpr c7
   subst c7
   have H1 : (some 0) = some r := by rw [if_neg (show ¬ (false = true) by decide)] at H; exact H
   clear H
   have H := H1
   clear H1
   obtain rfl := Option.some.inj H
   go_enter Try.func94, Try.ntmps94
   go_wp2_with (first | ((with_reducible refine gate_dst (N := 3) rfl ?_); refine box_event ?hg (N := 3) ?hd (cs := #[.slice A0_0 l0_0.length c0_0, .slice A0_1 l0_1.length c0_1, .slice A0_2 l0_2.length c0_2]) (t := 53) ?hr ?_; (case hd => rfl); (case hg => rfl); (case hr => first | (go_simp; done) | (go_simp; rfl)); intro gb584 hg w20 hbox hb; have n0_ := Aside0.mk (below_step (by repeat (first | (with_reducible first | exact HB.out | apply below_alloc | apply pw_below_drewN | apply below_drew1) | exact HB.out)) hb); have n1_ := Aside0.mk (hbox); have n2_ := Aside0.mk ((by rw [hg]; exact (below_size (by repeat (first | (with_reducible first | exact HB.out | apply below_alloc | apply pw_below_drewN | apply below_drew1) | exact HB.out))) : w.heap.size ≤ gb584)); have n3_ := Aside0.mk ((by rw [hg]; exact (below_size (by repeat (first | (with_reducible first | exact HB.out | apply below_alloc | apply pw_below_drewN | apply below_drew1) | exact HB.out))) : w.heap.size ≤ gb584)); clear HB; have HB := n0_; have BK584 := n1_; have GW584 := n2_; have GE584 := n3_; clear n0_ n1_ n2_ n3_; clear hb hbox hg; have hcz21_0 : w20.cell? ⟨gb584, 0, none⟩ = some (.slice A0_0 l0_0.length c0_0) := (blk_cell BK584.out 0).trans rfl; have hcz21_1 : w20.cell? ⟨gb584, 1, none⟩ = some (.slice A0_1 l0_1.length c0_1) := (blk_cell BK584.out 1).trans rfl; have hcz21_2 : w20.cell? ⟨gb584, 2, none⟩ = some (.slice A0_2 l0_2.length c0_2) := (blk_cell BK584.out 2).trans rfl; have hfz21_0 := blk_frozen BK584.out 0; have hfz21_1 := blk_frozen BK584.out 1; have hfz21_2 := blk_frozen BK584.out 2) | ((with_reducible refine gate_callee (f := 90) rfl ?_); refine goesL_ (some 8) rfl rfl Try.func90 (by kernel_rfl) rfl #[.agg #[.slice A0_0 l0_0.length c0_0, .slice A0_1 l0_1.length c0_1, .slice A0_2 l0_2.length c0_2]] rfl (by (try simp only [List.map_toArray, List.map_cons, List.map_nil]); first | done | rfl | (simp only [List.length_drop, List.length_take]; rfl)) ?_; (with_reducible refine (impl_CostOk.calls k _ _ l0_0 _ _ l0_1 _ _ l0_2 true _ ?side1 ?side2 ?side3 ?side4 ?side5 ?side6 A4.out).mono ?_); (case side1 => repeat (first | exact (Kd.C_below HR0_0.out HB.out) | (with_reducible refine Kd.C_alloc ?_ _) | (with_reducible refine Kd.C_drewN ?_ _) | (with_reducible refine Kd.C_drew ?_))); (case side2 => exact HC0_0.out); (case side3 => repeat (first | exact (Kd.C_below HR0_1.out HB.out) | (with_reducible refine Kd.C_alloc ?_ _) | (with_reducible refine Kd.C_drewN ?_ _) | (with_reducible refine Kd.C_drew ?_))); (case side4 => exact HC0_1.out); (case side5 => repeat (first | exact (Kd.C_below HR0_2.out HB.out) | (with_reducible refine Kd.C_alloc ?_ _) | (with_reducible refine Kd.C_drewN ?_ _) | (with_reducible refine Kd.C_drew ?_))); (case side6 => exact HC0_2.out); rintro e w22 ⟨rfl, hb⟩; refine ⟨_, rfl, ?_⟩; have n0_ := Aside0.mk (blk_below (g := gb584) (o := .cells #[.slice A0_0 l0_0.length c0_0, .slice A0_1 l0_1.length c0_1, .slice A0_2 l0_2.length c0_2] 53 (0, 0)) (by (with_reducible repeat (first | refine blk_drewN ?_ _ | refine blk_drew ?_ | refine blk_alloc ?_ _)); exact BK584.out) hb); have n1_ := Aside0.mk (below_step (by repeat (first | (with_reducible first | exact HB.out | apply below_alloc | apply pw_below_drewN | apply below_drew1 | refine below_set ?_ GE584.out) | exact HB.out)) hb); clear BK584; clear HB; have BK584 := n0_; have HB := n1_; clear n0_ n1_; (try clear hb); (try clear hb2); (try clear hk); (try clear hi)) | (go_at_call 128; (with_reducible refine (impl_LabelOk.calls a1 false _ A6.out).mono ?_); rintro e w' ⟨rfl, ⟨nd, rfl⟩⟩))
   go_ret
   exact ⟨by first | rfl | (simp [errW_none, errW_some] <;> rfl) | (simp [*, errW_none, errW_some] <;> rfl), by repeat (first | (with_reducible first | exact HB.out | apply below_alloc | apply pw_below_drewN | apply below_drew1 | refine below_set ?_ GE584.out) | exact HB.out)⟩
 ·replace c5 := Bool.eq_false_iff.mpr c5
  subst c5
  have H1 : (some 0) = some r := by rw [if_neg (show ¬ (false = true) by decide)] at H; exact H
  clear H
  have H := H1
  clear H1
  obtain rfl := Option.some.inj H
  go_enter Try.func94, Try.ntmps94
  go_wp2_with (first | ((with_reducible refine gate_dst (N := 3) rfl ?_); refine box_event ?hg (N := 3) ?hd (cs := #[.slice A0_0 l0_0.length c0_0, .slice A0_1 l0_1.length c0_1, .slice A0_2 l0_2.length c0_2]) (t := 53) ?hr ?_; (case hd => rfl); (case hg => rfl); (case hr => first | (go_simp; done) | (go_simp; rfl)); intro gb584 hg w23 hbox hb; have n0_ := Aside0.mk (below_step (by repeat (first | (with_reducible first | exact HB.out | apply below_alloc | apply pw_below_drewN | apply below_drew1) | exact HB.out)) hb); have n1_ := Aside0.mk (hbox); have n2_ := Aside0.mk ((by rw [hg]; exact (below_size (by repeat (first | (with_reducible first | exact HB.out | apply below_alloc | apply pw_below_drewN | apply below_drew1) | exact HB.out))) : w.heap.size ≤ gb584)); have n3_ := Aside0.mk ((by rw [hg]; exact (below_size (by repeat (first | (with_reducible first | exact HB.out | apply below_alloc | apply pw_below_drewN | apply below_drew1) | exact HB.out))) : w.heap.size ≤ gb584)); clear HB; have HB := n0_; have BK584 := n1_; have GW584 := n2_; have GE584 := n3_; clear n0_ n1_ n2_ n3_; clear hb hbox hg; have hcz24_0 : w23.cell? ⟨gb584, 0, none⟩ = some (.slice A0_0 l0_0.length c0_0) := (blk_cell BK584.out 0).trans rfl; have hcz24_1 : w23.cell? ⟨gb584, 1, none⟩ = some (.slice A0_1 l0_1.length c0_1) := (blk_cell BK584.out 1).trans rfl; have hcz24_2 : w23.cell? ⟨gb584, 2, none⟩ = some (.slice A0_2 l0_2.length c0_2) := (blk_cell BK584.out 2).trans rfl; have hfz24_0 := blk_frozen BK584.out 0; have hfz24_1 := blk_frozen BK584.out 1; have hfz24_2 := blk_frozen BK584.out 2) | ((with_reducible refine gate_callee (f := 90) rfl ?_); refine goesL_ (some 8) rfl rfl Try.func90 (by kernel_rfl) rfl #[.agg #[.slice A0_0 l0_0.length c0_0, .slice A0_1 l0_1.length c0_1, .slice A0_2 l0_2.length c0_2]] rfl (by (try simp only [List.map_toArray, List.map_cons, List.map_nil]); first | done | rfl | (simp only [List.length_drop, List.length_take]; rfl)) ?_; (with_reducible refine (impl_CostOk.calls k _ _ l0_0 _ _ l0_1 _ _ l0_2 false _ ?side1 ?side2 ?side3 ?side4 ?side5 ?side6 A4.out).mono ?_); (case side1 => repeat (first | exact (Kd.C_below HR0_0.out HB.out) | (with_reducible refine Kd.C_alloc ?_ _) | (with_reducible refine Kd.C_drewN ?_ _) | (with_reducible refine Kd.C_drew ?_))); (case side2 => exact HC0_0.out); (case side3 => repeat (first | exact (Kd.C_below HR0_1.out HB.out) | (with_reducible refine Kd.C_alloc ?_ _) | (with_reducible refine Kd.C_drewN ?_ _) | (with_reducible refine Kd.C_drew ?_))); (case side4 => exact HC0_1.out); (case side5 => repeat (first | exact (Kd.C_below HR0_2.out HB.out) | (with_reducible refine Kd.C_alloc ?_ _) | (with_reducible refine Kd.C_drewN ?_ _) | (with_reducible refine Kd.C_drew ?_))); (case side6 => exact HC0_2.out); rintro e w25 ⟨rfl, hb⟩; refine ⟨_, rfl, ?_⟩; have n0_ := Aside0.mk (blk_below (g := gb584) (o := .cells #[.slice A0_0 l0_0.length c0_0, .slice A0_1 l0_1.length c0_1, .slice A0_2 l0_2.length c0_2] 53 (0, 0)) (by (with_reducible repeat (first | refine blk_drewN ?_ _ | refine blk_drew ?_ | refine blk_alloc ?_ _)); exact BK584.out) hb); have n1_ := Aside0.mk (below_step (by repeat (first | (with_reducible first | exact HB.out | apply below_alloc | apply pw_below_drewN | apply below_drew1 | refine below_set ?_ GE584.out) | exact HB.out)) hb); clear BK584; clear HB; have BK584 := n0_; have HB := n1_; clear n0_ n1_; (try clear hb); (try clear hb2); (try clear hk); (try clear hi)))
  go_ret
  exact ⟨by first | rfl | (simp [errW_none, errW_some] <;> rfl) | (simp [*, errW_none, errW_some] <;> rfl), by repeat (first | (with_reducible first | exact HB.out | apply below_alloc | apply pw_below_drewN | apply below_drew1 | refine below_set ?_ GE584.out) | exact HB.out)⟩
end Go.Proofs.Ytbifdckfglejkaa.X
namespace Go.Proofs.Ytbifdckfglejkaa.X
open Go.RowKit Go.Proofs.YtbifdckfglejkaaW.PrintWords Go.Proofs.YtbifdckfglejkaaW.PrintLast Go.Proofs.YtbifdckfglejkaaW.PrintMore
set_option linter.unusedVariables false
set_option linter.unusedSimpArgs false
abbrev MNd := S90
abbrev MPr := S122
theorem mapLitA (i : Int) (b : Nat) (x : MPr) (W : World) (hcell : W.cell? ⟨b, 0, none⟩ = some (.int .i64 i)) :
  Calls Try.prog 92 (#[encPair x] ++ #[.pointer (some ⟨b, 0, none⟩)]) W fun e w' => e = .returned (.bool (x.f0 == i)) ∧ Below W.heap.size W w' := by
 unfold encPair
 have hb : b < W.heap.size := World.block_lt_of_cell? W _ hcell
 have hc2 : ∀ o, (W.alloc o).cell? ⟨b, 0, none⟩ = some (.int .i64 i) := fun o => (((Below.refl W.heap.size W).alloc (Nat.le_refl _) o).cell (p := ⟨b, 0, none⟩) hb).trans hcell
 clear hb hcell
 go_enter Try.func92, Try.ntmps92
 go_wp2
 go_ret
 exact ⟨rfl, (Below.refl _ _).alloc (Nat.le_refl _) _⟩
theorem mapLitB (i : Int) (b : Nat) (x : MPr) (W : World) (hcell : W.cell? ⟨b, 0, none⟩ = some (.int .i64 i)) :
  Calls Try.prog 93 (#[encPair x] ++ #[.pointer (some ⟨b, 0, none⟩)]) W fun e w' => e = .returned (.bool (x.f1 == i)) ∧ Below W.heap.size W w' := by
 unfold encPair
 have hb : b < W.heap.size := World.block_lt_of_cell? W _ hcell
 have hc2 : ∀ o, (W.alloc o).cell? ⟨b, 0, none⟩ = some (.int .i64 i) := fun o => (((Below.refl W.heap.size W).alloc (Nat.le_refl _) o).cell (p := ⟨b, 0, none⟩) hb).trans hcell
 clear hb hcell
 go_enter Try.func93, Try.ntmps93
 go_wp2
 go_ret
 exact ⟨rfl, (Below.refl _ _).alloc (Nat.le_refl _) _⟩
theorem box3 {W w1 : World} {x y z : Value} {ty : TypeId} (hb : Below (W.alloc (Obj.cells #[x, y, z] ty)).heap.size (W.alloc (Obj.cells #[x, y, z] ty)) w1) :
  w1.cell? ⟨W.heap.size, 0, none⟩ = some x ∧ w1.cell? ⟨W.heap.size, 1, none⟩ = some y ∧ w1.cell? ⟨W.heap.size, 2, none⟩ = some z :=
 ⟨(hb.cell (p := ⟨W.heap.size, 0, none⟩) (by simp)).trans (by rw [World.cell?_alloc_new]; rfl), (hb.cell (p := ⟨W.heap.size, 1, none⟩) (by simp)).trans (by rw [World.cell?_alloc_new]; rfl), (hb.cell (p := ⟨W.heap.size, 2, none⟩) (by simp)).trans (by rw [World.cell?_alloc_new]; rfl)⟩
theorem newCell2 (w : World) (o : Obj) (cs : Array Value) (ty : TypeId) (j : Nat) : ((w.alloc o).alloc (Obj.cells cs ty)).cell? ⟨w.heap.size + 1, j, none⟩ = cs[j]? := by
 have e : (w.alloc o).heap.size = w.heap.size + 1 := by simp
 rw [← e, World.cell?_alloc_new]
def mcDel (d : List Int) (m : List MPr) : List MNd → Nat → Int → Option Int
 | [], _, n => some n
 | x :: xs, i, n => if (m.any fun p => p.f0 == (i : Int)) = true then mcDel d m xs (i + 1) n else if 0 ≤ x.f0 ∧ x.f0 < (d.length : Int) then mcDel d m xs (i + 1) (wrap64 (n + rd d x.f0)) else none
def mcIns (d : List Int) (m : List MPr) : List MNd → Nat → Int → Option Int
 | [], _, n => some n
 | x :: xs, i, n => if (m.any fun p => p.f1 == (i : Int)) = true then mcIns d m xs (i + 1) n else if 0 ≤ x.f0 ∧ x.f0 < (d.length : Int) then mcIns d m xs (i + 1) (wrap64 (n + rd d x.f0)) else none
def mcRel (k : Nat) (a b : List MNd) (d i r : List Int) : List MPr → Int → Option Int
 | [], n => some n
 | p :: ps, n => if (0 ≤ p.f0 ∧ p.f0 < (a.length : Int)) ∧ 0 ≤ p.f1 ∧ p.f1 < (b.length : Int) then (impl_RelCost.f k d i r (rd_T90 a p.f0).f0 (rd_T90 b p.f1).f0).bind fun t => mcRel k a b d i r ps (wrap64 (n + t)) else none
def impl_MapCost.f (k : Nat) (l0 l1 : List MNd) (d i r : List Int) (l3 : List MPr) : Option Int :=
 (impl_MapOk.f k l0 l1 l3).bind fun t => if t = true then (impl_CostOk.f k d i r).bind fun u => if u = true then (mcDel d l3 l0 0 0).bind fun x => (mcIns i l3 l1 0 x).bind fun y => mcRel k l0 l1 d i r l3 y else some (-1) else some (-1)
set_option maxHeartbeats 4000000 in
set_option maxRecDepth 100000 in
theorem impl_MapCost.calls (k : Nat) (A0 : Option Addr) (c0 : Nat) (l0 : List MNd) (A1 : Option Addr) (c1 : Nat) (l1 : List MNd) (A2 : Option Addr) (c2 : Nat) (d : List Int) (A3 : Option Addr) (c3 : Nat) (i : List Int) (A4 : Option Addr) (c4 : Nat) (r : List Int) (A5 : Option Addr) (c5 : Nat) (l3 : List MPr) (res : Int) (w : World)
  (hr0 : Kd.C k90 w A0 l0.length l0) (hc0 : l0.length ≤ c0) (hr1 : Kd.C k90 w A1 l1.length l1) (hc1 : l1.length ≤ c1) (hr2 : Kd.C (Kd.int .i64) w A2 d.length d) (hc2 : d.length ≤ c2) (hr3 : Kd.C (Kd.int .i64) w A3 i.length i) (hc3 : i.length ≤ c3) (hr4 : Kd.C (Kd.int .i64) w A4 r.length r) (hc4 : r.length ≤ c4)
  (hr5 : Kd.C k122 w A5 l3.length l3) (hc5 : l3.length ≤ c5) (h : impl_MapCost.f k l0 l1 d i r l3 = some res) :
  Calls Try.prog 38 #[.slice A0 l0.length c0, .slice A1 l1.length c1, .agg #[.slice A2 d.length c2, .slice A3 i.length c3, .slice A4 r.length c4], .slice A5 l3.length c5] w fun e w' => e = .returned (.int .i64 res) ∧ Below w.heap.size w w' := by
 have HM : Aside0 (∀ (t : Bool) W, impl_MapOk.f k l0 l1 l3 = some t → Below w.heap.size w W → Calls Try.prog 89 #[.slice A0 l0.length c0, .slice A1 l1.length c1, .slice A5 l3.length c5] W fun e w' => e = .returned (.bool t) ∧ Below W.heap.size W w') :=
  ⟨fun t W ht hb => impl_MapOk.calls k A0 c0 l0 A1 c1 l1 A5 c5 l3 t W (Kd.C_below hr0 hb) hc0 (Kd.C_below hr1 hb) hc1 (Kd.C_below hr5 hb) hc5 ht⟩
 have HC : Aside0 (∀ (t : Bool) W, impl_CostOk.f k d i r = some t → Below w.heap.size w W → Calls Try.prog 90 #[.agg #[.slice A2 d.length c2, .slice A3 i.length c3, .slice A4 r.length c4]] W fun e w' => e = .returned (.bool t) ∧ Below W.heap.size W w') :=
  ⟨fun t W ht hb => impl_CostOk.calls k A2 c2 d A3 c3 i A4 c4 r t W (Kd.C_below hr2 hb) hc2 (Kd.C_below hr3 hb) hc3 (Kd.C_below hr4 hb) hc4 ht⟩
 have HE : Aside0 (∀ (x y t : Int) W, impl_RelCost.f k d i r x y = some t → Below w.heap.size w W → Calls Try.prog 94 #[.agg #[.slice A2 d.length c2, .slice A3 i.length c3, .slice A4 r.length c4], .int .i64 x, .int .i64 y] W fun e w' => e = .returned (.int .i64 t) ∧ Below W.heap.size W w') :=
  ⟨fun x y t W ht hb => impl_RelCost.calls k A2 c2 d A3 c3 i A4 c4 r x y t W (Kd.C_below hr2 hb) hc2 (Kd.C_below hr3 hb) hc3 (Kd.C_below hr4 hb) hc4 ht⟩
 have HXA : Aside0 (∀ (wr : World) (b : Nat) (kk : Nat), Below w.heap.size w wr → wr.cell? ⟨b, 0, none⟩ = some (.int .i64 kk) → Calls Try.prog 91 #[.slice A5 l3.length c5, .func (.func 92) #[] #[.pointer (some ⟨b, 0, none⟩)]] wr fun e w' => e = .returned (.bool (l3.any fun p => p.f0 == (kk : Int))) ∧ Below wr.heap.size wr w') :=
  ⟨fun wr b kk hb hcl => containsFunc_pair 92 #[.pointer (some ⟨b, 0, none⟩)] (fun p => p.f0 == (kk : Int)) (fun args w => enters_ Try.func92 (by kernel_rfl) rfl args w) A5 c5 l3 _
   (fun W hW x => mapLitA kk b x W ((hW.cell (p := ⟨b, 0, none⟩) (World.block_lt_of_cell? wr _ hcl)).trans hcl)) (Kd.C_below hr5 hb) hc5⟩
 have HXB : Aside0 (∀ (wr : World) (b : Nat) (kk : Nat), Below w.heap.size w wr → wr.cell? ⟨b, 0, none⟩ = some (.int .i64 kk) → Calls Try.prog 91 #[.slice A5 l3.length c5, .func (.func 93) #[] #[.pointer (some ⟨b, 0, none⟩)]] wr fun e w' => e = .returned (.bool (l3.any fun p => p.f1 == (kk : Int))) ∧ Below wr.heap.size wr w') :=
  ⟨fun wr b kk hb hcl => containsFunc_pair 93 #[.pointer (some ⟨b, 0, none⟩)] (fun p => p.f1 == (kk : Int)) (fun args w => enters_ Try.func93 (by kernel_rfl) rfl args w) A5 c5 l3 _
   (fun W hW x => mapLitB kk b x W ((hW.cell (p := ⟨b, 0, none⟩) (World.block_lt_of_cell? wr _ hcl)).trans hcl)) (Kd.C_below hr5 hb) hc5⟩
 have HR0 := Aside0.mk hr0
 have HR1 := Aside0.mk hr1
 have HR2 := Aside0.mk hr2
 have HR3 := Aside0.mk hr3
 have HR5 := Aside0.mk hr5
 have hm0 := hr0.2.1
 have hm1 := hr1.2.1
 have hm5 := hr5.2.1
 clear hr0 hc0 hr1 hc1 hr2 hc2 hr3 hc3 hr4 hc4 hr5 hc5
 have hu := Try.underlying122
 have hun := Try.underlying90
 have huc := Try.underlying53
 unfold impl_MapCost.f at h
 obtain ⟨t, ht, h⟩ := Option.bind_eq_some_iff.mp h
 have HT := Aside0.mk ht
 clear ht
 cases t with
 | false =>
  rw [if_neg (by decide)] at h
  obtain rfl := Option.some.inj h
  clear h
  go_enter Try.func38, Try.ntmps38
  go_wp2_with (go_at_call 89; refine (HM.out false _ HT.out ((Below.refl _ _).alloc (Nat.le_refl _) _)).mono ?_; rintro e w' ⟨rfl, hb⟩; have HB := Aside0.mk hb; clear hb)
  go_ret
  exact ⟨rfl, ((Below.refl _ _).alloc (Nat.le_refl _) _).trans (HB.out.mono (by simp))⟩
 | true =>
  rw [if_pos rfl] at h
  obtain ⟨u, hu2, h⟩ := Option.bind_eq_some_iff.mp h
  have HU := Aside0.mk hu2
  clear hu2
  cases u with
  | false =>
   rw [if_neg (by decide)] at h
   obtain rfl := Option.some.inj h
   clear h
   go_enter Try.func38, Try.ntmps38
   go_wp2_with (first | (go_at_call 89; refine (HM.out true _ HT.out ((Below.refl _ _).alloc (Nat.le_refl _) _)).mono ?_; rintro e w' ⟨rfl, hb⟩; have hx0 := (box3 hb).1; have hx1 := (box3 hb).2.1; have hx2 := (box3 hb).2.2; have HB := Aside0.mk hb; clear hb) | (go_at_call 90; refine (HC.out false _ HU.out (((Below.refl _ _).alloc (Nat.le_refl _) _).trans (HB.out.mono (by simp)))).mono ?_; rintro e w' ⟨rfl, hb⟩; have HB2 := Aside0.mk (HB.out.trans (hb.mono HB.out.size)); clear hb))
   go_ret
   exact ⟨rfl, ((Below.refl _ _).alloc (Nat.le_refl _) _).trans (HB2.out.mono (by simp))⟩
  | true =>
   rw [if_pos rfl] at h
   obtain ⟨x, hx, h⟩ := Option.bind_eq_some_iff.mp h
   obtain ⟨y, hy, h⟩ := Option.bind_eq_some_iff.mp h
   have H1 := Aside0.mk hx
   have H2 := Aside0.mk hy
   have H3 := Aside0.mk h
   clear hx hy h
   go_enter Try.func38, Try.ntmps38
   go_wp2_with (first | (go_at_call 89; refine (HM.out true _ HT.out ((Below.refl _ _).alloc (Nat.le_refl _) _)).mono ?_; rintro e w' ⟨rfl, hb⟩; have hx0 := (box3 hb).1; have hx1 := (box3 hb).2.1; have hx2 := (box3 hb).2.2; have HB := Aside0.mk hb; clear hb) | (go_at_call 90; refine (HC.out true _ HU.out (((Below.refl _ _).alloc (Nat.le_refl _) _).trans (HB.out.mono (by simp)))).mono ?_; rintro e w' ⟨rfl, hb⟩; have HB2 := Aside0.mk (HB.out.trans (hb.mono HB.out.size)); clear hb hx0 hx1 hx2))
   go_loopg [9, 28] l0.length (fun gg s9 s28 wr => ∃ (kk : Nat) (n : Int), kk ≤ l0.length ∧ l0.length - kk ≤ gg ∧ s9 = .int .i64 n ∧ s28 = .int .i64 kk ∧ Aside0 (mcDel d l3 (l0.drop kk) kk n = some x) ∧ Aside0 (Below (w.alloc (Obj.cells #[.slice A2 d.length c2, .slice A3 i.length c3, .slice A4 r.length c4] 53)).heap.size (w.alloc (Obj.cells #[.slice A2 d.length c2, .slice A3 i.length c3, .slice A4 r.length c4] 53)) wr))
   case atStart => exact ⟨0, 0, Nat.zero_le _, by omega, rfl, rfl, H1, HB2⟩
   case round =>
    clear HB HB2 H1
    obtain ⟨kk, n, hkk, hg, rfl, rfl, H1, HB⟩ := hrel
    by_cases hlt : kk < l0.length
    ·have hltz : (kk : Int) < (l0.length : Int) := by omega
     have HW := Aside0.mk (((Below.refl w.heap.size w).alloc (Nat.le_refl _) (Obj.cells #[.slice A2 d.length c2, .slice A3 i.length c3, .slice A4 r.length c4] 53)).trans (HB.out.mono (by simp)))
     obtain ⟨ad, e, hx, hx1⟩ := at_T90 (Kd.C_below HR0.out HW.out) kk (by omega) (by omega)
     cases e
     rw [Int.toNat_natCast] at hx hx1
     have hs : mcDel d l3 (l0.drop kk) kk n = if (l3.any fun p => p.f0 == (kk : Int)) = true then mcDel d l3 (l0.drop (kk + 1)) (kk + 1) n else if 0 ≤ (rd_T90 l0 kk).f0 ∧ (rd_T90 l0 kk).f0 < (d.length : Int) then mcDel d l3 (l0.drop (kk + 1)) (kk + 1) (wrap64 (n + rd d (rd_T90 l0 kk).f0)) else none := by
      rw [List.drop_eq_getElem_cons hlt, show rd_T90 l0 (kk : Int) = l0[kk] from by simp [rd_T90, List.getD_eq_getElem?_getD, List.getElem?_eq_getElem hlt]]
      rfl
     have h1 := H1.out
     rw [hs] at h1
     clear hs H1
     cases hq : (l3.any fun p => p.f0 == (kk : Int)) with
     | true =>
      rw [if_pos hq] at h1
      have H1 := Aside0.mk h1
      have HQ := Aside0.mk hq
      clear h1 hq
      go_wp2_with (go_at_call 91; refine (HXA.out _ _ kk (below_alloc (below_alloc HW.out _) _) (by simp)).mono ?_; rintro e w' ⟨rfl, hb⟩; rw [HQ.out]; have HBB := Aside0.mk (HB.out.trans ((((Below.refl _ _).alloc (Nat.le_refl _) _).alloc (by simp) _).trans (hb.mono (by simp; omega)) |>.mono HB.out.size)); clear hb)
      go_roundg (l0.length - (kk + 1))
      case measure => omega
      case rel => exact ⟨kk + 1, n, by omega, by omega, rfl, by go_num, H1, HBB⟩
     | false =>
      rw [if_neg (by rw [hq]; decide)] at h1
      have HQ := Aside0.mk hq
      clear hq
      by_cases hlab : 0 ≤ (rd_T90 l0 kk).f0 ∧ (rd_T90 l0 kk).f0 < (d.length : Int)
      case neg => rw [if_neg hlab] at h1; cases h1
      rw [if_pos hlab] at h1
      obtain ⟨hl0, hl1⟩ := hlab
      have H1 := Aside0.mk h1
      clear h1
      obtain ⟨ad2, e2, hy2⟩ := Kd.at_int HR2.out _ hl0 hl1
      cases e2
      have HY := Aside0.mk hy2
      clear hy2
      go_wp2_with (go_at_call 91; refine (HXA.out _ _ kk (below_alloc (below_alloc HW.out _) _) (by simp)).mono ?_; rintro e w' ⟨rfl, hb⟩; rw [HQ.out]; have hx2 := (hb.cell (p := ⟨wr.heap.size + 1, 0, none⟩) (by simp)).trans (newCell2 wr _ _ _ 0); have HBB := Aside0.mk (HB.out.trans ((((Below.refl _ _).alloc (Nat.le_refl _) _).alloc (by simp) _).trans (hb.mono (by simp; omega)) |>.mono HB.out.size)); have hx3 := (box3 HBB.out).1; have hx4 := pw_cell_below (((Below.refl w.heap.size w).alloc (Nat.le_refl _) _).trans (HBB.out.mono (by simp))) HY.out; clear hb)
      go_roundg (l0.length - (kk + 1))
      case measure => omega
      case rel => exact ⟨kk + 1, _, by omega, by omega, rfl, by go_num, H1, HBB⟩
    ·have hltz : ¬ (kk : Int) < (l0.length : Int) := by omega
     obtain rfl : kk = l0.length := by omega
     have hend := H1.out
     rw [List.drop_length] at hend
     obtain rfl := Option.some.inj hend
     clear hend H1
     go_wp2
     go_loopg [9, 48] l1.length (fun gg s9 s48 wr => ∃ (kk : Nat) (n : Int), kk ≤ l1.length ∧ l1.length - kk ≤ gg ∧ s9 = .int .i64 n ∧ s48 = .int .i64 kk ∧ Aside0 (mcIns i l3 (l1.drop kk) kk n = some y) ∧ Aside0 (Below (w.alloc (Obj.cells #[.slice A2 d.length c2, .slice A3 i.length c3, .slice A4 r.length c4] 53)).heap.size (w.alloc (Obj.cells #[.slice A2 d.length c2, .slice A3 i.length c3, .slice A4 r.length c4] 53)) wr))
     case atStart => exact ⟨0, _, Nat.zero_le _, by omega, rfl, rfl, H2, HB⟩
     case round =>
      clear HB H2
      obtain ⟨kk, n, hkk, hg, rfl, rfl, H2, HB⟩ := hrel
      by_cases hlt : kk < l1.length
      ·have hltz : (kk : Int) < (l1.length : Int) := by omega
       have HW := Aside0.mk (((Below.refl w.heap.size w).alloc (Nat.le_refl _) (Obj.cells #[.slice A2 d.length c2, .slice A3 i.length c3, .slice A4 r.length c4] 53)).trans (HB.out.mono (by simp)))
       obtain ⟨ad, e, hx, hx1⟩ := at_T90 (Kd.C_below HR1.out HW.out) kk (by omega) (by omega)
       cases e
       rw [Int.toNat_natCast] at hx hx1
       have hs : mcIns i l3 (l1.drop kk) kk n = if (l3.any fun p => p.f1 == (kk : Int)) = true then mcIns i l3 (l1.drop (kk + 1)) (kk + 1) n else if 0 ≤ (rd_T90 l1 kk).f0 ∧ (rd_T90 l1 kk).f0 < (i.length : Int) then mcIns i l3 (l1.drop (kk + 1)) (kk + 1) (wrap64 (n + rd i (rd_T90 l1 kk).f0)) else none := by
        rw [List.drop_eq_getElem_cons hlt, show rd_T90 l1 (kk : Int) = l1[kk] from by simp [rd_T90, List.getD_eq_getElem?_getD, List.getElem?_eq_getElem hlt]]
        rfl
       have h1 := H2.out
       rw [hs] at h1
       clear hs H2
       cases hq : (l3.any fun p => p.f1 == (kk : Int)) with
       | true =>
        rw [if_pos hq] at h1
        have H2 := Aside0.mk h1
        have HQ := Aside0.mk hq
        clear h1 hq
        go_wp2_with (go_at_call 91; refine (HXB.out _ _ kk (below_alloc (below_alloc HW.out _) _) (by simp)).mono ?_; rintro e w' ⟨rfl, hb⟩; rw [HQ.out]; have HBB := Aside0.mk (HB.out.trans ((((Below.refl _ _).alloc (Nat.le_refl _) _).alloc (by simp) _).trans (hb.mono (by simp; omega)) |>.mono HB.out.size)); clear hb)
        go_roundg (l1.length - (kk + 1))
        case measure => omega
        case rel => exact ⟨kk + 1, n, by omega, by omega, rfl, by go_num, H2, HBB⟩
       | false =>
        rw [if_neg (by rw [hq]; decide)] at h1
        have HQ := Aside0.mk hq
        clear hq
        by_cases hlab : 0 ≤ (rd_T90 l1 kk).f0 ∧ (rd_T90 l1 kk).f0 < (i.length : Int)
        case neg => rw [if_neg hlab] at h1; cases h1
        rw [if_pos hlab] at h1
        obtain ⟨hl0, hl1⟩ := hlab
        have H2 := Aside0.mk h1
        clear h1
        obtain ⟨ad2, e2, hy2⟩ := Kd.at_int HR3.out _ hl0 hl1
        cases e2
        have HY := Aside0.mk hy2
        clear hy2
        go_wp2_with (go_at_call 91; refine (HXB.out _ _ kk (below_alloc (below_alloc HW.out _) _) (by simp)).mono ?_; rintro e w' ⟨rfl, hb⟩; rw [HQ.out]; have hx2 := (hb.cell (p := ⟨wr.heap.size + 1, 0, none⟩) (by simp)).trans (newCell2 wr _ _ _ 0); have HBB := Aside0.mk (HB.out.trans ((((Below.refl _ _).alloc (Nat.le_refl _) _).alloc (by simp) _).trans (hb.mono (by simp; omega)) |>.mono HB.out.size)); have hx3 := (box3 HBB.out).2.1; have hx4 := pw_cell_below (((Below.refl w.heap.size w).alloc (Nat.le_refl _) _).trans (HBB.out.mono (by simp))) HY.out; clear hb)
        go_roundg (l1.length - (kk + 1))
        case measure => omega
        case rel => exact ⟨kk + 1, _, by omega, by omega, rfl, by go_num, H2, HBB⟩
      ·have hltz : ¬ (kk : Int) < (l1.length : Int) := by omega
       obtain rfl : kk = l1.length := by omega
       have hend := H2.out
       rw [List.drop_length] at hend
       obtain rfl := Option.some.inj hend
       clear hend H2
       go_wp2
       go_loopg [9, 68] l3.length (fun gg s9 s68 wr => ∃ (kk : Nat) (n : Int), kk ≤ l3.length ∧ l3.length - kk ≤ gg ∧ s9 = .int .i64 n ∧ s68 = .int .i64 kk ∧ Aside0 (mcRel k l0 l1 d i r (l3.drop kk) n = some res) ∧ Aside0 (Below (w.alloc (Obj.cells #[.slice A2 d.length c2, .slice A3 i.length c3, .slice A4 r.length c4] 53)).heap.size (w.alloc (Obj.cells #[.slice A2 d.length c2, .slice A3 i.length c3, .slice A4 r.length c4] 53)) wr))
       case atStart => exact ⟨0, _, Nat.zero_le _, by omega, rfl, rfl, H3, HB⟩
       case round =>
        clear H3 HB
        obtain ⟨kk, n, hkk, hg, rfl, rfl, H3, HB⟩ := hrel
        by_cases hlt : kk < l3.length
        ·have hltz : (kk : Int) < (l3.length : Int) := by omega
         have HW := Aside0.mk (((Below.refl w.heap.size w).alloc (Nat.le_refl _) (Obj.cells #[.slice A2 d.length c2, .slice A3 i.length c3, .slice A4 r.length c4] 53)).trans (HB.out.mono (by simp)))
         obtain ⟨ad, e, hx, hx1⟩ := at_T122 (Kd.C_below HR5.out HW.out) kk (by omega) (by omega)
         cases e
         rw [Int.toNat_natCast] at hx hx1
         have hs : mcRel k l0 l1 d i r (l3.drop kk) n = if (0 ≤ (rd_T122 l3 kk).f0 ∧ (rd_T122 l3 kk).f0 < (l0.length : Int)) ∧ 0 ≤ (rd_T122 l3 kk).f1 ∧ (rd_T122 l3 kk).f1 < (l1.length : Int) then (impl_RelCost.f k d i r (rd_T90 l0 (rd_T122 l3 kk).f0).f0 (rd_T90 l1 (rd_T122 l3 kk).f1).f0).bind fun t => mcRel k l0 l1 d i r (l3.drop (kk + 1)) (wrap64 (n + t)) else none := by
          rw [List.drop_eq_getElem_cons hlt, show rd_T122 l3 (kk : Int) = l3[kk] from by simp [rd_T122, List.getD_eq_getElem?_getD, List.getElem?_eq_getElem hlt]]
          rfl
         have h1 := H3.out
         rw [hs] at h1
         clear hs H3
         by_cases hlab : (0 ≤ (rd_T122 l3 kk).f0 ∧ (rd_T122 l3 kk).f0 < (l0.length : Int)) ∧ 0 ≤ (rd_T122 l3 kk).f1 ∧ (rd_T122 l3 kk).f1 < (l1.length : Int)
         case neg => rw [if_neg hlab] at h1; cases h1
         rw [if_pos hlab] at h1
         obtain ⟨⟨ha0, ha1⟩, hb0, hb1⟩ := hlab
         obtain ⟨t, ht, h1⟩ := Option.bind_eq_some_iff.mp h1
         have H3 := Aside0.mk h1
         have HT2 := Aside0.mk ht
         clear h1 ht
         obtain ⟨ada, ea, hya, hya1⟩ := at_T90 HR0.out (rd_T122 l3 kk).f0 ha0 ha1
         cases ea
         obtain ⟨adb, eb, hyb, hyb1⟩ := at_T90 HR1.out (rd_T122 l3 kk).f1 hb0 hb1
         cases eb
         have hcl : Below w.heap.size w (wr.alloc (Obj.cells #[.int .i64 (rd_T122 l3 kk).f0, .int .i64 (rd_T122 l3 kk).f1] 122)) := below_alloc HW.out _
         replace hya := pw_cell_below hcl hya
         replace hyb := pw_cell_below hcl hyb
         have HBB := HB.out.alloc HB.out.size (Obj.cells #[.int .i64 (rd_T122 l3 kk).f0, .int .i64 (rd_T122 l3 kk).f1] 122)
         have hz0 := (box3 HBB).1
         have hz1 := (box3 HBB).2.1
         have hz2 := (box3 HBB).2.2
         have HCL := Aside0.mk hcl
         have HBB := Aside0.mk HBB
         clear hcl hya1 hyb1
         go_upto_region 19 with (fail)
         refine start_ (n := 17) (S := fun w' => w'.cell? ⟨w.heap.size, 0, none⟩ = some (.slice A2 d.length c2) ∧ w'.cell? ⟨w.heap.size, 1, none⟩ = some (.slice A3 i.length c3) ∧ w'.cell? ⟨w.heap.size, 2, none⟩ = some (.slice A4 r.length c4) ∧ w'.cell? ⟨wr.heap.size, 0, none⟩ = some (.int .i64 (rd_T122 l3 kk).f0) ∧ w'.cell? ⟨wr.heap.size, 1, none⟩ = some (.int .i64 (rd_T122 l3 kk).f1) ∧ w'.cell? (ada.add (((rd_T122 l3 kk).f0).toNat * 2)) = some (.int .i64 (rd_T90 l0 (rd_T122 l3 kk).f0).f0) ∧ w'.cell? (adb.add (((rd_T122 l3 kk).f1).toNat * 2)) = some (.int .i64 (rd_T90 l1 (rd_T122 l3 kk).f1).f0)) (ds := []) (ba_ 17 0) (by kernel_rfl) rfl rfl ⟨hz0, hz1, hz2, by rw [World.cell?_drew, World.cell?_alloc_new]; rfl, by rw [World.cell?_drew, World.cell?_alloc_new]; rfl, hya, hyb⟩ (fun hHeld => ?_)
         refine pu_ 0 (some 72) (ba_ 17 1) rfl rfl (by kernel_rfl) ?_
         refine pu_ 2 (some 74) (ba_ 17 5) rfl rfl (by kernel_rfl) ?_
         refine pu_ 3 (some 75) (ba_ 17 13) rfl rfl (by kernel_rfl) ?_
         refine pu_ 8 (some 80) (ba_ 17 269) rfl rfl (by kernel_rfl) ?_
         refine pu_ 9 (some 81) (ba_ 17 781) rfl rfl (by kernel_rfl) ?_
         refine ta_ 1 (some 73) (ba_ 17 783) rfl rfl (by kernel_rfl) hHeld (by rintro w' ⟨s0, s1, s2, s3, s4, s5, s6⟩; go_simp; with_reducible rfl) ?_
         refine ta_ 4 (some 76) (ba_ 17 799) rfl rfl (by kernel_rfl) hHeld (by rintro w' ⟨s0, s1, s2, s3, s4, s5, s6⟩; go_simp; with_reducible rfl) ?_
         refine pu_ 5 (some 77) (ba_ 17 831) rfl rfl (by kernel_rfl) ?_
         refine pu_ 6 (some 78) (ba_ 17 895) rfl rfl (by kernel_rfl) ?_
         refine ta_ 7 (some 79) (ba_ 17 1023) rfl rfl (by kernel_rfl) hHeld (by rintro w' ⟨s0, s1, s2, s3, s4, s5, s6⟩; go_simp; with_reducible rfl) ?_
         refine ta_ 10 (some 82) (ba_ 17 2047) rfl rfl (by kernel_rfl) hHeld (by rintro w' ⟨s0, s1, s2, s3, s4, s5, s6⟩; go_simp; with_reducible rfl) ?_
         refine pu_ 11 (some 83) (ba_ 17 4095) rfl rfl (by kernel_rfl) ?_
         refine pu_ 12 (some 84) (ba_ 17 8191) rfl rfl (by kernel_rfl) ?_
         refine ta_ 13 (some 85) (ba_ 17 16383) rfl rfl (by kernel_rfl) hHeld (by rintro w' ⟨s0, s1, s2, s3, s4, s5, s6⟩; go_simp; with_reducible rfl) ?_
         refine one_ (i := 14) (N := some 86) (ba_ 17 32767) rfl rfl (by kernel_rfl) (by decide) (fun K hK => ?_)
         refine goes_ Try.func94 (by kernel_rfl) rfl #[.agg #[.slice A2 d.length c2, .slice A3 i.length c3, .slice A4 r.length c4], .int .i64 (rd_T90 l0 (rd_T122 l3 kk).f0).f0, .int .i64 (rd_T90 l1 (rd_T122 l3 kk).f1).f0] (by rfl) rfl rfl (by (try simp only [List.map_toArray, List.map_cons, List.map_nil]); first | done | rfl) ?_
         refine (HE.out _ _ t _ HT2.out ?hh).mono ?_
         case hh => exact below_drew HCL.out
         rintro e w21 ⟨rfl, hb⟩
         refine ⟨_, rfl, ?_⟩
         have HB3 := Aside0.mk ((below_drew HBB.out).trans (hb.mono (by simp; have := HB.out.size; simp at this; omega)))
         refine hK.out _ _ ⟨pw_cell_below hb hHeld.1, pw_cell_below hb hHeld.2.1, pw_cell_below hb hHeld.2.2.1, pw_cell_below hb hHeld.2.2.2.1, pw_cell_below hb hHeld.2.2.2.2.1, pw_cell_below hb hHeld.2.2.2.2.2.1, pw_cell_below hb hHeld.2.2.2.2.2.2⟩ (fun hHeld => ?_)
         clear hb
         clear hK K
         refine norm_ (a' := ?_) ?_ ?_
         rotate_left
         ·show Act.put _ (some 86) _ = _
          simp only [Act.put, List.setIfInBounds_toArray, List.set_cons_zero, List.set_cons_succ, i64_w, i32_w]
          rfl
         refine pu_ 15 (some 87) (ba_ 17 65535) rfl rfl (by kernel_rfl) ?_
         refine pu_ 16 (some 9) (ba_ 17 131071) rfl rfl (by kernel_rfl) ?_
         refine done_ (by kernel_rfl) ?_
         try go_wp2
         go_roundg (l3.length - (kk + 1))
         case measure => omega
         case rel => exact ⟨kk + 1, _, by omega, by omega, rfl, by go_num, H3, HB3⟩
        ·have hltz : ¬ (kk : Int) < (l3.length : Int) := by omega
         obtain rfl : kk = l3.length := by omega
         have hend := H3.out
         rw [List.drop_length] at hend
         obtain rfl := Option.some.inj hend
         clear hend H3
         go_wp2
         go_ret
         exact ⟨rfl, ((Below.refl _ _).alloc (Nat.le_refl _) _).trans (HB.out.mono (by simp))⟩
end Go.Proofs.Ytbifdckfglejkaa.X
