/- Part 6 of the proof of FnExactDomSize: what it needs. -/
import Derived.Test.YtbifdckfglejkaaKEDomSize4
import Derived.Test.YtbifdckfglejkaaKEDomSize5
namespace Go.Proofs.Ytbifdckfglejkaa.X
open Go.RowKit Go.Proofs.YtbifdckfglejkaaW.PrintWords Go.Proofs.YtbifdckfglejkaaW.PrintLast Go.Proofs.YtbifdckfglejkaaW.PrintMore
attribute [local go_sem] max2_int min2_int max_two min_two max_three min_three max_four min_four   -- for this text's walks alone
set_option linter.unusedVariables false
set_option linter.unusedSimpArgs false
mutual
def impl_Dom_visit.j0 : Nat → Int → Int → List (S90) → List Int → Bool → List (S99) → Bool → Int → Int → Int → Int → Int → Int → Option ((List (S90)) × List Int × Bool)
 | 0, _, _, _, _, _, _, _, _, _, _, _, _, _ => none
 | k + 1, x1, x2, x3, x4, x34, x201000, x203000, x203001, x203002, x203003, x203004, x203005, x203006 => if x34 = true then (some (x3, x4, false)) else (if x3.length < 8796093022208 then (if x4.length < 17592186044416 then (impl_Dom_visit.l0 k x1 x2 (x3 ++ [(⟨x203001, x2⟩ : S90)]) (x4 ++ [x1]) (-1) x203003 x201000 x203000 x203001 x203002 x203003 x203004 x203005 x203006) else (none)) else (none))
def impl_Dom_visit.l0 : Nat → Int → Int → List (S90) → List Int → Int → Int → List (S99) → Bool → Int → Int → Int → Int → Int → Int → Option ((List (S90)) × List Int × Bool)
 | 0, _, _, _, _, _, _, _, _, _, _, _, _, _, _ => none
 | k + 1, x1, x2, x3, x4, x14, x15, x201000, x203000, x203001, x203002, x203003, x203004, x203005, x203006 => if x15 = (-1) then (some (x3, x4, (x203004 == x14))) else ((impl_within.f x15 0 (wrap64 ((x201000.length : Int) - 1))).bind fun t210 => (if t210 = true then ((slices_Contains_int_int.f k x4 x15).bind fun t211 => (if t211 = true then (impl_Dom_visit.j2 k x1 x2 x3 x4 x15 true x201000 x203000 x203001 x203002 x203003 x203004 x203005 x203006) else (if 0 ≤ x15 then (if x15 < (x201000.length : Int) then (if ((rd_T99 x201000 x15).f2) = x1 then (impl_Dom_visit.j2 k x1 x2 x3 x4 x15 (((rd_T99 x201000 x15).f5) != x14) x201000 x203000 x203001 x203002 x203003 x203004 x203005 x203006) else (impl_Dom_visit.j2 k x1 x2 x3 x4 x15 true x201000 x203000 x203001 x203002 x203003 x203004 x203005 x203006)) else (none)) else (none)))) else (impl_Dom_visit.j2 k x1 x2 x3 x4 x15 true x201000 x203000 x203001 x203002 x203003 x203004 x203005 x203006)))
def impl_Dom_visit.j2 : Nat → Int → Int → List (S90) → List Int → Int → Bool → List (S99) → Bool → Int → Int → Int → Int → Int → Int → Option ((List (S90)) × List Int × Bool)
 | 0, _, _, _, _, _, _, _, _, _, _, _, _, _, _ => none
 | k + 1, x1, x2, x3, x4, x15, x89, x201000, x203000, x203001, x203002, x203003, x203004, x203005, x203006 => if x89 = true then (some (x3, x4, false)) else ((impl_Dom_visit.f k x201000 x15 (wrap64 (x2 + 1)) x3 x4).bind fun bt214 => (if bt214.2.2 = true then (if 0 ≤ x15 then (if x15 < (x201000.length : Int) then (impl_Dom_visit.l0 k x1 x2 bt214.1 bt214.2.1 x15 ((rd_T99 x201000 x15).f6) x201000 x203000 x203001 x203002 x203003 x203004 x203005 x203006) else (none)) else (none)) else (some (bt214.1, bt214.2.1, false))))
def impl_Dom_visit.f : Nat → List (S99) → Int → Int → List (S90) → List Int → Option ((List (S90)) × List Int × Bool)
 | 0, _, _, _, _, _ => none
 | k + 1, l0_0, a1, a2, l3, l4 => if 0 ≤ a1 then (if a1 < (l0_0.length : Int) then (if ((rd_T99 l0_0 a1).f0 = true) then ((impl_LabelOk.f ((rd_T99 l0_0 a1).f1)).bind fun t203 => (if t203 = true then (impl_Dom_visit.j0 k a1 a2 l3 l4 (decide (a2 > 12)) l0_0 ((rd_T99 l0_0 a1).f0) ((rd_T99 l0_0 a1).f1) ((rd_T99 l0_0 a1).f2) ((rd_T99 l0_0 a1).f3) ((rd_T99 l0_0 a1).f4) ((rd_T99 l0_0 a1).f5) ((rd_T99 l0_0 a1).f6)) else (impl_Dom_visit.j0 k a1 a2 l3 l4 true l0_0 ((rd_T99 l0_0 a1).f0) ((rd_T99 l0_0 a1).f1) ((rd_T99 l0_0 a1).f2) ((rd_T99 l0_0 a1).f3) ((rd_T99 l0_0 a1).f4) ((rd_T99 l0_0 a1).f5) ((rd_T99 l0_0 a1).f6)))) else (impl_Dom_visit.j0 k a1 a2 l3 l4 true l0_0 ((rd_T99 l0_0 a1).f0) ((rd_T99 l0_0 a1).f1) ((rd_T99 l0_0 a1).f2) ((rd_T99 l0_0 a1).f3) ((rd_T99 l0_0 a1).f4) ((rd_T99 l0_0 a1).f5) ((rd_T99 l0_0 a1).f6))) else (none)) else (none)
end
set_option maxHeartbeats 8000000 in
set_option maxRecDepth 100000 in
theorem impl_Dom_visit.calls (k : Nat) : ∀ (A0_0 : Option Addr) (c0_0 : Nat) (l0_0 : List (S99)) (a1 : Int) (a2 : Int) (P3_ : Nat → Prop) (u9000_ : Value) (l3 : List (S90)) (P4_ : Nat → Prop) (u9001_ : Value) (l4 : List Int) (r1 : List (S90)) (r2 : List Int) (r3 : Bool) (w0 w : World) (hB : Below w0.heap.size w0 w) (hr0_0 : ∀ W_, Kept w W_ (fun k_ => P3_ k_ ∨ P4_ k_) → Kd.C k99 W_ A0_0 l0_0.length l0_0) (hc0_0 : l0_0.length ≤ c0_0) (ho3 : Kd.R k90 90 w w0.heap.size P3_ u9000_ l3) (ho4 : Kd.R (Kd.int .i64) 3 w w0.heap.size P4_ u9001_ l4) (h : impl_Dom_visit.f k l0_0 a1 a2 l3 l4 = some (r1, r2, r3)),
  Calls Try.prog 118 #[.agg #[.slice A0_0 l0_0.length c0_0], .int .i64 a1, .int .i64 a2, u9000_, u9001_] w fun e w' => ∃ v0_ v1_ : Value, e = .returned (.tuple #[v0_, v1_, .bool r3]) ∧ Kd.R k90 90 w' w0.heap.size (fun k_ => ((P3_ k_ ∨ P4_ k_) ∨ w.heap.size ≤ k_)) v0_ r1 ∧ Kd.R (Kd.int .i64) 3 w' w0.heap.size (fun k_ => ((P3_ k_ ∨ P4_ k_) ∨ w.heap.size ≤ k_)) v1_ r2 ∧ Below w0.heap.size w0 w' ∧ Kept w w' (fun k_ => P3_ k_ ∨ P4_ k_) := by
 induction k using Nat.strongRecOn with
 | _ k ih =>
 intro A0_0 c0_0 l0_0 a1 a2 P3_ u9000_ l3 P4_ u9001_ l4 r1 r2 r3 w0 w hB hr0_0 hc0_0 ho3 ho4 h
 cases k with
 | zero => exact absurd h (by simp [impl_Dom_visit.f])
 | succ k =>
 simp only [impl_Dom_visit.f] at h
 have hu29 := Try.underlying29
 have hu99 := Try.underlying99
 have hu90 := Try.underlying90
 have HR0_0 := Aside0.mk hr0_0
 have HC0_0 := Aside0.mk hc0_0
 clear hr0_0 hc0_0
 have HO3 := Aside0.mk (show Kd.R k90 90 w w0.heap.size (fun k_ => ((P3_ k_ ∨ P4_ k_) ∨ w.heap.size ≤ k_)) u9000_ l3 from Kd.R_mono ho3 (fun k_ hk => (.inl (.inl hk))))
 have HO4 := Aside0.mk (show Kd.R (Kd.int .i64) 3 w w0.heap.size (fun k_ => ((P3_ k_ ∨ P4_ k_) ∨ w.heap.size ≤ k_)) u9001_ l4 from Kd.R_mono ho4 (fun k_ hk => (.inl (.inr hk))))
 have HK := Aside0.mk (Kept.refl w (fun k_ => P3_ k_ ∨ P4_ k_))
 have HW0 := Aside0.mk hB.size
 have HB := Aside0.mk hB
 clear hB
 have H : (if 0 ≤ a1 then (if a1 < (l0_0.length : Int) then (if ((rd_T99 l0_0 a1).f0 = true) then ((impl_LabelOk.f ((rd_T99 l0_0 a1).f1)).bind fun t203 => (if t203 = true then (impl_Dom_visit.j0 k a1 a2 l3 l4 (decide (a2 > 12)) l0_0 ((rd_T99 l0_0 a1).f0) ((rd_T99 l0_0 a1).f1) ((rd_T99 l0_0 a1).f2) ((rd_T99 l0_0 a1).f3) ((rd_T99 l0_0 a1).f4) ((rd_T99 l0_0 a1).f5) ((rd_T99 l0_0 a1).f6)) else (impl_Dom_visit.j0 k a1 a2 l3 l4 true l0_0 ((rd_T99 l0_0 a1).f0) ((rd_T99 l0_0 a1).f1) ((rd_T99 l0_0 a1).f2) ((rd_T99 l0_0 a1).f3) ((rd_T99 l0_0 a1).f4) ((rd_T99 l0_0 a1).f5) ((rd_T99 l0_0 a1).f6)))) else (impl_Dom_visit.j0 k a1 a2 l3 l4 true l0_0 ((rd_T99 l0_0 a1).f0) ((rd_T99 l0_0 a1).f1) ((rd_T99 l0_0 a1).f2) ((rd_T99 l0_0 a1).f3) ((rd_T99 l0_0 a1).f4) ((rd_T99 l0_0 a1).f5) ((rd_T99 l0_0 a1).f6))) else (none)) else (none)) = some (r1, r2, r3) := h
 clear h
 by_cases c6 : 0 ≤ a1
 ·rw [if_pos c6] at H
  have c6b0 : decide (0 ≤ a1) = true := decide_eq_true c6
  clear c6
  by_cases c7 : a1 < (l0_0.length : Int)
  ·rw [if_pos c7] at H
   have c7b0 : decide (a1 < (l0_0.length : Int)) = true := decide_eq_true c7
   clear c7
   have HC8 := Aside0.mk H
   clear H
   go_enter Try.func118, Try.ntmps118
   go_upto_region 2 with (first | ((with_reducible refine gate_dst (N := 5) rfl ?_); refine box_event ?hg (N := 5) ?hd (cs := #[.slice A0_0 l0_0.length c0_0]) (t := 29) ?hr ?_; (case hd => rfl); (case hg => rfl); (case hr => first | (go_simp; done) | (go_simp; rfl)); intro gb200 hg w9 hbox hb; have n0_ := Aside0.mk (Kd.R_below (by (with_reducible repeat (first | apply Kd.R_alloc | apply Kd.R_drewN | apply Kd.R_drew)); exact HO3.out) hb); have n1_ := Aside0.mk (Kd.R_below (by (with_reducible repeat (first | apply Kd.R_alloc | apply Kd.R_drewN | apply Kd.R_drew)); exact HO4.out) hb); have n2_ := Aside0.mk (Kept.below (S := (fun k_ => P3_ k_ ∨ P4_ k_)) (by repeat (first | (with_reducible first | exact HK.out | apply Kept.alloc | apply Kept.drewN | apply Kept.drew) | exact HK.out)) hb); have n3_ := Aside0.mk (below_step (by repeat (first | (with_reducible first | exact HB.out | apply below_alloc | apply pw_below_drewN | apply below_drew1) | exact HB.out)) hb); have n4_ := Aside0.mk (hbox); have n5_ := Aside0.mk ((by rw [hg]; exact (by first | exact HK.out.1 | exact (show Kept w _ (fun k_ => P3_ k_ ∨ P4_ k_) from by repeat (first | (with_reducible first | exact HK.out | apply Kept.alloc | apply Kept.drewN | apply Kept.drew) | exact HK.out)).1) : w.heap.size ≤ gb200)); have n6_ := Aside0.mk ((by rw [hg]; exact (below_size (by repeat (first | (with_reducible first | exact HB.out | apply below_alloc | apply pw_below_drewN | apply below_drew1) | exact HB.out))) : w0.heap.size ≤ gb200)); clear HO3; clear HO4; clear HK; clear HB; have HO3 := n0_; have HO4 := n1_; have HK := n2_; have HB := n3_; have BK200 := n4_; have GW200 := n5_; have GE200 := n6_; clear n0_ n1_ n2_ n3_ n4_ n5_ n6_; clear hb hbox hg; have hcz10_0 : w9.cell? ⟨gb200, 0, none⟩ = some (.slice A0_0 l0_0.length c0_0) := (blk_cell BK200.out 0).trans rfl; have hfz10_0 := blk_frozen BK200.out 0; have p201 : 0 ≤ (a1 : Int) := of_decide_eq_true (by first | (with_reducible assumption) | assumption); have q201 : a1 < (l0_0.length : Int) := of_decide_eq_true (by first | (with_reducible assumption) | assumption); obtain ⟨ad201, e201, hx201_0, hx201_1, hx201_2, hx201_3, hx201_4, hx201_5, hx201_6⟩ := at_T99 (Kd.C_kept_now HR0_0.out HK.out) a1 p201 q201; cases e201; replace p201 := eq_true p201; replace q201 := eq_true q201) | ((with_reducible refine gate_dst (N := 13) rfl ?_); refine box_event ?hg (N := 13) ?hd (cs := #[.bool false, .int .i64 0, .int .i64 0, .int .i64 0, .int .i64 0, .int .i64 0, .int .i64 0]) (t := 99) ?hr ?_; (case hd => rfl); (case hg => rfl); (case hr => first | (go_simp; done) | (go_simp; rfl)); intro gb202 hg w11 hbox hb; have n0_ := Aside0.mk (Kd.R_below (by (with_reducible repeat (first | apply Kd.R_alloc | apply Kd.R_drewN | apply Kd.R_drew)); exact HO3.out) hb); have n1_ := Aside0.mk (Kd.R_below (by (with_reducible repeat (first | apply Kd.R_alloc | apply Kd.R_drewN | apply Kd.R_drew)); exact HO4.out) hb); have n2_ := Aside0.mk (blk_below (g := gb200) (o := .cells #[.slice (some ad201) l0_0.length c0_0] 29 (0, 0)) (by (with_reducible repeat (first | refine blk_drewN ?_ _ | refine blk_drew ?_ | refine blk_alloc ?_ _)); exact BK200.out) hb); have n3_ := Aside0.mk (Kept.below (S := (fun k_ => P3_ k_ ∨ P4_ k_)) (by repeat (first | (with_reducible first | exact HK.out | apply Kept.alloc | apply Kept.drewN | apply Kept.drew | refine Kept.setCell ?_ (.inr GW200.out) _) | exact HK.out)) hb); have n4_ := Aside0.mk (below_step (by repeat (first | (with_reducible first | exact HB.out | apply below_alloc | apply pw_below_drewN | apply below_drew1 | refine below_set ?_ GE200.out) | exact HB.out)) hb); have n5_ := Aside0.mk (hbox); have n6_ := Aside0.mk ((by rw [hg]; exact (by first | exact HK.out.1 | exact (show Kept w _ (fun k_ => P3_ k_ ∨ P4_ k_) from by repeat (first | (with_reducible first | exact HK.out | apply Kept.alloc | apply Kept.drewN | apply Kept.drew | refine Kept.setCell ?_ (.inr GW200.out) _) | exact HK.out)).1) : w.heap.size ≤ gb202)); have n7_ := Aside0.mk ((by rw [hg]; exact (below_size (by repeat (first | (with_reducible first | exact HB.out | apply below_alloc | apply pw_below_drewN | apply below_drew1 | refine below_set ?_ GE200.out) | exact HB.out))) : w0.heap.size ≤ gb202)); have n8_ := Aside0.mk ((by rw [hg]; exact Nat.ne_of_lt (blk_lt (g := gb200) (o := .cells #[.slice (some ad201) l0_0.length c0_0] 29 (0, 0)) (by (with_reducible repeat (first | refine blk_drewN ?_ _ | refine blk_drew ?_ | refine blk_alloc ?_ _)); exact BK200.out)) : gb200 ≠ gb202)); have n9_ := Aside0.mk ((by rw [hg]; exact Nat.ne_of_gt (blk_lt (g := gb200) (o := .cells #[.slice (some ad201) l0_0.length c0_0] 29 (0, 0)) (by (with_reducible repeat (first | refine blk_drewN ?_ _ | refine blk_drew ?_ | refine blk_alloc ?_ _)); exact BK200.out)) : gb202 ≠ gb200)); clear HO3; clear HO4; clear BK200; clear HK; clear HB; have HO3 := n0_; have HO4 := n1_; have BK200 := n2_; have HK := n3_; have HB := n4_; have BK202 := n5_; have GW202 := n6_; have GE202 := n7_; have NB200_202 := n8_; have NB202_200 := n9_; clear n0_ n1_ n2_ n3_ n4_ n5_ n6_ n7_ n8_ n9_; clear hb hbox hg; have hnb12 := NB202_200.out; have hnc12 := NB200_202.out; have hcz13_0 : w11.cell? ⟨gb202, 0, none⟩ = some (.bool false) := (blk_cell BK202.out 0).trans rfl; have hcz13_1 : w11.cell? ⟨gb202, 1, none⟩ = some (.int .i64 0) := (blk_cell BK202.out 1).trans rfl; have hcz13_2 : w11.cell? ⟨gb202, 2, none⟩ = some (.int .i64 0) := (blk_cell BK202.out 2).trans rfl; have hcz13_3 : w11.cell? ⟨gb202, 3, none⟩ = some (.int .i64 0) := (blk_cell BK202.out 3).trans rfl; have hcz13_4 : w11.cell? ⟨gb202, 4, none⟩ = some (.int .i64 0) := (blk_cell BK202.out 4).trans rfl; have hcz13_5 : w11.cell? ⟨gb202, 5, none⟩ = some (.int .i64 0) := (blk_cell BK202.out 5).trans rfl; have hcz13_6 : w11.cell? ⟨gb202, 6, none⟩ = some (.int .i64 0) := (blk_cell BK202.out 6).trans rfl; have hfz13_0 := blk_frozen BK202.out 0; have hfz13_1 := blk_frozen BK202.out 1; have hfz13_2 := blk_frozen BK202.out 2; have hfz13_3 := blk_frozen BK202.out 3; have hfz13_4 := blk_frozen BK202.out 4; have hfz13_5 := blk_frozen BK202.out 5; have hfz13_6 := blk_frozen BK202.out 6))
   repeat (go_quiet (first | ((with_reducible refine gate_dst (N := 5) rfl ?_); refine box_event ?hg (N := 5) ?hd (cs := #[.slice A0_0 l0_0.length c0_0]) (t := 29) ?hr ?_; (case hd => rfl); (case hg => rfl); (case hr => first | (go_simp; done) | (go_simp; rfl)); intro gb200 hg w9 hbox hb; have n0_ := Aside0.mk (Kd.R_below (by (with_reducible repeat (first | apply Kd.R_alloc | apply Kd.R_drewN | apply Kd.R_drew)); exact HO3.out) hb); have n1_ := Aside0.mk (Kd.R_below (by (with_reducible repeat (first | apply Kd.R_alloc | apply Kd.R_drewN | apply Kd.R_drew)); exact HO4.out) hb); have n2_ := Aside0.mk (Kept.below (S := (fun k_ => P3_ k_ ∨ P4_ k_)) (by repeat (first | (with_reducible first | exact HK.out | apply Kept.alloc | apply Kept.drewN | apply Kept.drew) | exact HK.out)) hb); have n3_ := Aside0.mk (below_step (by repeat (first | (with_reducible first | exact HB.out | apply below_alloc | apply pw_below_drewN | apply below_drew1) | exact HB.out)) hb); have n4_ := Aside0.mk (hbox); have n5_ := Aside0.mk ((by rw [hg]; exact (by first | exact HK.out.1 | exact (show Kept w _ (fun k_ => P3_ k_ ∨ P4_ k_) from by repeat (first | (with_reducible first | exact HK.out | apply Kept.alloc | apply Kept.drewN | apply Kept.drew) | exact HK.out)).1) : w.heap.size ≤ gb200)); have n6_ := Aside0.mk ((by rw [hg]; exact (below_size (by repeat (first | (with_reducible first | exact HB.out | apply below_alloc | apply pw_below_drewN | apply below_drew1) | exact HB.out))) : w0.heap.size ≤ gb200)); clear HO3; clear HO4; clear HK; clear HB; have HO3 := n0_; have HO4 := n1_; have HK := n2_; have HB := n3_; have BK200 := n4_; have GW200 := n5_; have GE200 := n6_; clear n0_ n1_ n2_ n3_ n4_ n5_ n6_; clear hb hbox hg; have hcz10_0 : w9.cell? ⟨gb200, 0, none⟩ = some (.slice A0_0 l0_0.length c0_0) := (blk_cell BK200.out 0).trans rfl; have hfz10_0 := blk_frozen BK200.out 0; have p201 : 0 ≤ (a1 : Int) := of_decide_eq_true (by first | (with_reducible assumption) | assumption); have q201 : a1 < (l0_0.length : Int) := of_decide_eq_true (by first | (with_reducible assumption) | assumption); obtain ⟨ad201, e201, hx201_0, hx201_1, hx201_2, hx201_3, hx201_4, hx201_5, hx201_6⟩ := at_T99 (Kd.C_kept_now HR0_0.out HK.out) a1 p201 q201; cases e201; replace p201 := eq_true p201; replace q201 := eq_true q201) | ((with_reducible refine gate_dst (N := 13) rfl ?_); refine box_event ?hg (N := 13) ?hd (cs := #[.bool false, .int .i64 0, .int .i64 0, .int .i64 0, .int .i64 0, .int .i64 0, .int .i64 0]) (t := 99) ?hr ?_; (case hd => rfl); (case hg => rfl); (case hr => first | (go_simp; done) | (go_simp; rfl)); intro gb202 hg w11 hbox hb; have n0_ := Aside0.mk (Kd.R_below (by (with_reducible repeat (first | apply Kd.R_alloc | apply Kd.R_drewN | apply Kd.R_drew)); exact HO3.out) hb); have n1_ := Aside0.mk (Kd.R_below (by (with_reducible repeat (first | apply Kd.R_alloc | apply Kd.R_drewN | apply Kd.R_drew)); exact HO4.out) hb); have n2_ := Aside0.mk (blk_below (g := gb200) (o := .cells #[.slice (some ad201) l0_0.length c0_0] 29 (0, 0)) (by (with_reducible repeat (first | refine blk_drewN ?_ _ | refine blk_drew ?_ | refine blk_alloc ?_ _)); exact BK200.out) hb); have n3_ := Aside0.mk (Kept.below (S := (fun k_ => P3_ k_ ∨ P4_ k_)) (by repeat (first | (with_reducible first | exact HK.out | apply Kept.alloc | apply Kept.drewN | apply Kept.drew | refine Kept.setCell ?_ (.inr GW200.out) _) | exact HK.out)) hb); have n4_ := Aside0.mk (below_step (by repeat (first | (with_reducible first | exact HB.out | apply below_alloc | apply pw_below_drewN | apply below_drew1 | refine below_set ?_ GE200.out) | exact HB.out)) hb); have n5_ := Aside0.mk (hbox); have n6_ := Aside0.mk ((by rw [hg]; exact (by first | exact HK.out.1 | exact (show Kept w _ (fun k_ => P3_ k_ ∨ P4_ k_) from by repeat (first | (with_reducible first | exact HK.out | apply Kept.alloc | apply Kept.drewN | apply Kept.drew | refine Kept.setCell ?_ (.inr GW200.out) _) | exact HK.out)).1) : w.heap.size ≤ gb202)); have n7_ := Aside0.mk ((by rw [hg]; exact (below_size (by repeat (first | (with_reducible first | exact HB.out | apply below_alloc | apply pw_below_drewN | apply below_drew1 | refine below_set ?_ GE200.out) | exact HB.out))) : w0.heap.size ≤ gb202)); have n8_ := Aside0.mk ((by rw [hg]; exact Nat.ne_of_lt (blk_lt (g := gb200) (o := .cells #[.slice (some ad201) l0_0.length c0_0] 29 (0, 0)) (by (with_reducible repeat (first | refine blk_drewN ?_ _ | refine blk_drew ?_ | refine blk_alloc ?_ _)); exact BK200.out)) : gb200 ≠ gb202)); have n9_ := Aside0.mk ((by rw [hg]; exact Nat.ne_of_gt (blk_lt (g := gb200) (o := .cells #[.slice (some ad201) l0_0.length c0_0] 29 (0, 0)) (by (with_reducible repeat (first | refine blk_drewN ?_ _ | refine blk_drew ?_ | refine blk_alloc ?_ _)); exact BK200.out)) : gb202 ≠ gb200)); clear HO3; clear HO4; clear BK200; clear HK; clear HB; have HO3 := n0_; have HO4 := n1_; have BK200 := n2_; have HK := n3_; have HB := n4_; have BK202 := n5_; have GW202 := n6_; have GE202 := n7_; have NB200_202 := n8_; have NB202_200 := n9_; clear n0_ n1_ n2_ n3_ n4_ n5_ n6_ n7_ n8_ n9_; clear hb hbox hg; have hnb12 := NB202_200.out; have hnc12 := NB200_202.out; have hcz13_0 : w11.cell? ⟨gb202, 0, none⟩ = some (.bool false) := (blk_cell BK202.out 0).trans rfl; have hcz13_1 : w11.cell? ⟨gb202, 1, none⟩ = some (.int .i64 0) := (blk_cell BK202.out 1).trans rfl; have hcz13_2 : w11.cell? ⟨gb202, 2, none⟩ = some (.int .i64 0) := (blk_cell BK202.out 2).trans rfl; have hcz13_3 : w11.cell? ⟨gb202, 3, none⟩ = some (.int .i64 0) := (blk_cell BK202.out 3).trans rfl; have hcz13_4 : w11.cell? ⟨gb202, 4, none⟩ = some (.int .i64 0) := (blk_cell BK202.out 4).trans rfl; have hcz13_5 : w11.cell? ⟨gb202, 5, none⟩ = some (.int .i64 0) := (blk_cell BK202.out 5).trans rfl; have hcz13_6 : w11.cell? ⟨gb202, 6, none⟩ = some (.int .i64 0) := (blk_cell BK202.out 6).trans rfl; have hfz13_0 := blk_frozen BK202.out 0; have hfz13_1 := blk_frozen BK202.out 1; have hfz13_2 := blk_frozen BK202.out 2; have hfz13_3 := blk_frozen BK202.out 3; have hfz13_4 := blk_frozen BK202.out 4; have hfz13_5 := blk_frozen BK202.out 5; have hfz13_6 := blk_frozen BK202.out 6)); go_upto_region 2 with (first | ((with_reducible refine gate_dst (N := 5) rfl ?_); refine box_event ?hg (N := 5) ?hd (cs := #[.slice A0_0 l0_0.length c0_0]) (t := 29) ?hr ?_; (case hd => rfl); (case hg => rfl); (case hr => first | (go_simp; done) | (go_simp; rfl)); intro gb200 hg w9 hbox hb; have n0_ := Aside0.mk (Kd.R_below (by (with_reducible repeat (first | apply Kd.R_alloc | apply Kd.R_drewN | apply Kd.R_drew)); exact HO3.out) hb); have n1_ := Aside0.mk (Kd.R_below (by (with_reducible repeat (first | apply Kd.R_alloc | apply Kd.R_drewN | apply Kd.R_drew)); exact HO4.out) hb); have n2_ := Aside0.mk (Kept.below (S := (fun k_ => P3_ k_ ∨ P4_ k_)) (by repeat (first | (with_reducible first | exact HK.out | apply Kept.alloc | apply Kept.drewN | apply Kept.drew) | exact HK.out)) hb); have n3_ := Aside0.mk (below_step (by repeat (first | (with_reducible first | exact HB.out | apply below_alloc | apply pw_below_drewN | apply below_drew1) | exact HB.out)) hb); have n4_ := Aside0.mk (hbox); have n5_ := Aside0.mk ((by rw [hg]; exact (by first | exact HK.out.1 | exact (show Kept w _ (fun k_ => P3_ k_ ∨ P4_ k_) from by repeat (first | (with_reducible first | exact HK.out | apply Kept.alloc | apply Kept.drewN | apply Kept.drew) | exact HK.out)).1) : w.heap.size ≤ gb200)); have n6_ := Aside0.mk ((by rw [hg]; exact (below_size (by repeat (first | (with_reducible first | exact HB.out | apply below_alloc | apply pw_below_drewN | apply below_drew1) | exact HB.out))) : w0.heap.size ≤ gb200)); clear HO3; clear HO4; clear HK; clear HB; have HO3 := n0_; have HO4 := n1_; have HK := n2_; have HB := n3_; have BK200 := n4_; have GW200 := n5_; have GE200 := n6_; clear n0_ n1_ n2_ n3_ n4_ n5_ n6_; clear hb hbox hg; have hcz10_0 : w9.cell? ⟨gb200, 0, none⟩ = some (.slice A0_0 l0_0.length c0_0) := (blk_cell BK200.out 0).trans rfl; have hfz10_0 := blk_frozen BK200.out 0; have p201 : 0 ≤ (a1 : Int) := of_decide_eq_true (by first | (with_reducible assumption) | assumption); have q201 : a1 < (l0_0.length : Int) := of_decide_eq_true (by first | (with_reducible assumption) | assumption); obtain ⟨ad201, e201, hx201_0, hx201_1, hx201_2, hx201_3, hx201_4, hx201_5, hx201_6⟩ := at_T99 (Kd.C_kept_now HR0_0.out HK.out) a1 p201 q201; cases e201; replace p201 := eq_true p201; replace q201 := eq_true q201) | ((with_reducible refine gate_dst (N := 13) rfl ?_); refine box_event ?hg (N := 13) ?hd (cs := #[.bool false, .int .i64 0, .int .i64 0, .int .i64 0, .int .i64 0, .int .i64 0, .int .i64 0]) (t := 99) ?hr ?_; (case hd => rfl); (case hg => rfl); (case hr => first | (go_simp; done) | (go_simp; rfl)); intro gb202 hg w11 hbox hb; have n0_ := Aside0.mk (Kd.R_below (by (with_reducible repeat (first | apply Kd.R_alloc | apply Kd.R_drewN | apply Kd.R_drew)); exact HO3.out) hb); have n1_ := Aside0.mk (Kd.R_below (by (with_reducible repeat (first | apply Kd.R_alloc | apply Kd.R_drewN | apply Kd.R_drew)); exact HO4.out) hb); have n2_ := Aside0.mk (blk_below (g := gb200) (o := .cells #[.slice (some ad201) l0_0.length c0_0] 29 (0, 0)) (by (with_reducible repeat (first | refine blk_drewN ?_ _ | refine blk_drew ?_ | refine blk_alloc ?_ _)); exact BK200.out) hb); have n3_ := Aside0.mk (Kept.below (S := (fun k_ => P3_ k_ ∨ P4_ k_)) (by repeat (first | (with_reducible first | exact HK.out | apply Kept.alloc | apply Kept.drewN | apply Kept.drew | refine Kept.setCell ?_ (.inr GW200.out) _) | exact HK.out)) hb); have n4_ := Aside0.mk (below_step (by repeat (first | (with_reducible first | exact HB.out | apply below_alloc | apply pw_below_drewN | apply below_drew1 | refine below_set ?_ GE200.out) | exact HB.out)) hb); have n5_ := Aside0.mk (hbox); have n6_ := Aside0.mk ((by rw [hg]; exact (by first | exact HK.out.1 | exact (show Kept w _ (fun k_ => P3_ k_ ∨ P4_ k_) from by repeat (first | (with_reducible first | exact HK.out | apply Kept.alloc | apply Kept.drewN | apply Kept.drew | refine Kept.setCell ?_ (.inr GW200.out) _) | exact HK.out)).1) : w.heap.size ≤ gb202)); have n7_ := Aside0.mk ((by rw [hg]; exact (below_size (by repeat (first | (with_reducible first | exact HB.out | apply below_alloc | apply pw_below_drewN | apply below_drew1 | refine below_set ?_ GE200.out) | exact HB.out))) : w0.heap.size ≤ gb202)); have n8_ := Aside0.mk ((by rw [hg]; exact Nat.ne_of_lt (blk_lt (g := gb200) (o := .cells #[.slice (some ad201) l0_0.length c0_0] 29 (0, 0)) (by (with_reducible repeat (first | refine blk_drewN ?_ _ | refine blk_drew ?_ | refine blk_alloc ?_ _)); exact BK200.out)) : gb200 ≠ gb202)); have n9_ := Aside0.mk ((by rw [hg]; exact Nat.ne_of_gt (blk_lt (g := gb200) (o := .cells #[.slice (some ad201) l0_0.length c0_0] 29 (0, 0)) (by (with_reducible repeat (first | refine blk_drewN ?_ _ | refine blk_drew ?_ | refine blk_alloc ?_ _)); exact BK200.out)) : gb202 ≠ gb200)); clear HO3; clear HO4; clear BK200; clear HK; clear HB; have HO3 := n0_; have HO4 := n1_; have BK200 := n2_; have HK := n3_; have HB := n4_; have BK202 := n5_; have GW202 := n6_; have GE202 := n7_; have NB200_202 := n8_; have NB202_200 := n9_; clear n0_ n1_ n2_ n3_ n4_ n5_ n6_ n7_ n8_ n9_; clear hb hbox hg; have hnb12 := NB202_200.out; have hnc12 := NB200_202.out; have hcz13_0 : w11.cell? ⟨gb202, 0, none⟩ = some (.bool false) := (blk_cell BK202.out 0).trans rfl; have hcz13_1 : w11.cell? ⟨gb202, 1, none⟩ = some (.int .i64 0) := (blk_cell BK202.out 1).trans rfl; have hcz13_2 : w11.cell? ⟨gb202, 2, none⟩ = some (.int .i64 0) := (blk_cell BK202.out 2).trans rfl; have hcz13_3 : w11.cell? ⟨gb202, 3, none⟩ = some (.int .i64 0) := (blk_cell BK202.out 3).trans rfl; have hcz13_4 : w11.cell? ⟨gb202, 4, none⟩ = some (.int .i64 0) := (blk_cell BK202.out 4).trans rfl; have hcz13_5 : w11.cell? ⟨gb202, 5, none⟩ = some (.int .i64 0) := (blk_cell BK202.out 5).trans rfl; have hcz13_6 : w11.cell? ⟨gb202, 6, none⟩ = some (.int .i64 0) := (blk_cell BK202.out 6).trans rfl; have hfz13_0 := blk_frozen BK202.out 0; have hfz13_1 := blk_frozen BK202.out 1; have hfz13_2 := blk_frozen BK202.out 2; have hfz13_3 := blk_frozen BK202.out 3; have hfz13_4 := blk_frozen BK202.out 4; have hfz13_5 := blk_frozen BK202.out 5; have hfz13_6 := blk_frozen BK202.out 6)))
   (try simp only [Act.put, List.setIfInBounds_toArray, List.set_cons_zero, List.set_cons_succ])
   go_cut [34] (fun v34 wc => ∃ (kq : Nat) (x34_7 : Bool), v34 = .bool x34_7 ∧ Aside0 (impl_Dom_visit.j0 kq a1 a2 l3 l4 x34_7 l0_0 ((rd_T99 l0_0 a1).f0) ((rd_T99 l0_0 a1).f1) ((rd_T99 l0_0 a1).f2) ((rd_T99 l0_0 a1).f3) ((rd_T99 l0_0 a1).f4) ((rd_T99 l0_0 a1).f5) ((rd_T99 l0_0 a1).f6) = some (r1, r2, r3)) ∧ Aside0 (kq ≤ k) ∧ Aside0 (Kd.R k90 90 wc w0.heap.size (fun k_ => ((P3_ k_ ∨ P4_ k_) ∨ w.heap.size ≤ k_)) u9000_ l3) ∧ Aside0 (Kd.R (Kd.int .i64) 3 wc w0.heap.size (fun k_ => ((P3_ k_ ∨ P4_ k_) ∨ w.heap.size ≤ k_)) u9001_ l4) ∧ Aside0 (wc.heap[gb200]? = some (.cells #[(.slice (some ad201) l0_0.length c0_0)] 29 (0, 0))) ∧ Aside0 (wc.heap[gb202]? = some (.cells #[.bool ((rd_T99 l0_0 a1).f0), .int .i64 ((rd_T99 l0_0 a1).f1), .int .i64 ((rd_T99 l0_0 a1).f2), .int .i64 ((rd_T99 l0_0 a1).f3), .int .i64 ((rd_T99 l0_0 a1).f4), .int .i64 ((rd_T99 l0_0 a1).f5), .int .i64 ((rd_T99 l0_0 a1).f6)] 99 (0, 0))) ∧ Aside0 (Kept w wc (fun k_ => P3_ k_ ∨ P4_ k_)) ∧ Aside0 (Below w0.heap.size w0 wc))
   case first =>
    have H := HC8.out
    clear HC8
    obtain ⟨bq14, hbq14⟩ : ∃ b_ : Bool, b_ = ((rd_T99 l0_0 a1).f0) := ⟨_, rfl⟩
    replace H : (if (bq14 = true) then ((impl_LabelOk.f ((rd_T99 l0_0 a1).f1)).bind fun t203 => (if t203 = true then (impl_Dom_visit.j0 k a1 a2 l3 l4 (decide (a2 > 12)) l0_0 bq14 ((rd_T99 l0_0 a1).f1) ((rd_T99 l0_0 a1).f2) ((rd_T99 l0_0 a1).f3) ((rd_T99 l0_0 a1).f4) ((rd_T99 l0_0 a1).f5) ((rd_T99 l0_0 a1).f6)) else (impl_Dom_visit.j0 k a1 a2 l3 l4 true l0_0 bq14 ((rd_T99 l0_0 a1).f1) ((rd_T99 l0_0 a1).f2) ((rd_T99 l0_0 a1).f3) ((rd_T99 l0_0 a1).f4) ((rd_T99 l0_0 a1).f5) ((rd_T99 l0_0 a1).f6)))) else (impl_Dom_visit.j0 k a1 a2 l3 l4 true l0_0 bq14 ((rd_T99 l0_0 a1).f1) ((rd_T99 l0_0 a1).f2) ((rd_T99 l0_0 a1).f3) ((rd_T99 l0_0 a1).f4) ((rd_T99 l0_0 a1).f5) ((rd_T99 l0_0 a1).f6))) = some (r1, r2, r3) := by rw [← hbq14] at H; exact H
    have Nbq14 := Aside0.mk hbq14
    clear hbq14
    (try rw [← Nbq14.out])
    by_cases c15 : (bq14 = true)
    ·subst c15
     have H1 : ((impl_LabelOk.f ((rd_T99 l0_0 a1).f1)).bind fun t203 => (if t203 = true then (impl_Dom_visit.j0 k a1 a2 l3 l4 (decide (a2 > 12)) l0_0 true ((rd_T99 l0_0 a1).f1) ((rd_T99 l0_0 a1).f2) ((rd_T99 l0_0 a1).f3) ((rd_T99 l0_0 a1).f4) ((rd_T99 l0_0 a1).f5) ((rd_T99 l0_0 a1).f6)) else (impl_Dom_visit.j0 k a1 a2 l3 l4 true l0_0 true ((rd_T99 l0_0 a1).f1) ((rd_T99 l0_0 a1).f2) ((rd_T99 l0_0 a1).f3) ((rd_T99 l0_0 a1).f4) ((rd_T99 l0_0 a1).f5) ((rd_T99 l0_0 a1).f6)))) = some (r1, r2, r3) := by rw [if_pos rfl] at H; exact H
     clear H
     have H := H1
     clear H1
     replace H := Option.bind_eq_some_iff.mp H
     obtain ⟨t203, A160, H⟩ := H
     replace H : (if t203 = true then (impl_Dom_visit.j0 k a1 a2 l3 l4 (decide (a2 > 12)) l0_0 true ((rd_T99 l0_0 a1).f1) ((rd_T99 l0_0 a1).f2) ((rd_T99 l0_0 a1).f3) ((rd_T99 l0_0 a1).f4) ((rd_T99 l0_0 a1).f5) ((rd_T99 l0_0 a1).f6)) else (impl_Dom_visit.j0 k a1 a2 l3 l4 true l0_0 true ((rd_T99 l0_0 a1).f1) ((rd_T99 l0_0 a1).f2) ((rd_T99 l0_0 a1).f3) ((rd_T99 l0_0 a1).f4) ((rd_T99 l0_0 a1).f5) ((rd_T99 l0_0 a1).f6))) = some (r1, r2, r3) := H
     have A16 := Aside0.mk A160
     clear A160
     by_cases c17 : t203 = true
     ·subst c17
      have H1 : (impl_Dom_visit.j0 k a1 a2 l3 l4 (decide (a2 > 12)) l0_0 true ((rd_T99 l0_0 a1).f1) ((rd_T99 l0_0 a1).f2) ((rd_T99 l0_0 a1).f3) ((rd_T99 l0_0 a1).f4) ((rd_T99 l0_0 a1).f5) ((rd_T99 l0_0 a1).f6)) = some (r1, r2, r3) := by rw [if_pos rfl] at H; exact H
      clear H
      have H := H1
      clear H1
      have H' := Aside0.mk H
      clear H
      have hnb18 := NB202_200.out
      have hnc18 := NB200_202.out
      have hcz19_0 : w11.cell? ⟨gb202, 0, none⟩ = some (.bool false) := (blk_cell BK202.out 0).trans rfl
      have hcz19_1 : w11.cell? ⟨gb202, 1, none⟩ = some (.int .i64 0) := (blk_cell BK202.out 1).trans rfl
      have hcz19_2 : w11.cell? ⟨gb202, 2, none⟩ = some (.int .i64 0) := (blk_cell BK202.out 2).trans rfl
      have hcz19_3 : w11.cell? ⟨gb202, 3, none⟩ = some (.int .i64 0) := (blk_cell BK202.out 3).trans rfl
      have hcz19_4 : w11.cell? ⟨gb202, 4, none⟩ = some (.int .i64 0) := (blk_cell BK202.out 4).trans rfl
      have hcz19_5 : w11.cell? ⟨gb202, 5, none⟩ = some (.int .i64 0) := (blk_cell BK202.out 5).trans rfl
      have hcz19_6 : w11.cell? ⟨gb202, 6, none⟩ = some (.int .i64 0) := (blk_cell BK202.out 6).trans rfl
      have hfz19_0 := blk_frozen BK202.out 0
      have hfz19_1 := blk_frozen BK202.out 1
      have hfz19_2 := blk_frozen BK202.out 2
      have hfz19_3 := blk_frozen BK202.out 3
      have hfz19_4 := blk_frozen BK202.out 4
      have hfz19_5 := blk_frozen BK202.out 5
      have hfz19_6 := blk_frozen BK202.out 6
      go_wp2_with (first | (go_at_call 128; (with_reducible refine (impl_LabelOk.calls ((rd_T99 l0_0 a1).f1) true _ A16.out).mono ?_); rintro e w' ⟨rfl, ⟨nd, rfl⟩⟩; (try first | exact ⟨rfl, _, World.drewN_drewN _ _ _⟩ | exact ⟨rfl, _, Eq.trans (World.drewN_drewN _ _ _) (congrArg (World.drewN _) (Nat.add_assoc _ _ _))⟩)))
      repeat (go_quiet (first | (go_at_call 128; (with_reducible refine (impl_LabelOk.calls ((rd_T99 l0_0 a1).f1) true _ A16.out).mono ?_); rintro e w' ⟨rfl, ⟨nd, rfl⟩⟩; (try first | exact ⟨rfl, _, World.drewN_drewN _ _ _⟩ | exact ⟨rfl, _, Eq.trans (World.drewN_drewN _ _ _) (congrArg (World.drewN _) (Nat.add_assoc _ _ _))⟩))); try go_wp2_with (first | (go_at_call 128; (with_reducible refine (impl_LabelOk.calls ((rd_T99 l0_0 a1).f1) true _ A16.out).mono ?_); rintro e w' ⟨rfl, ⟨nd, rfl⟩⟩; (try first | exact ⟨rfl, _, World.drewN_drewN _ _ _⟩ | exact ⟨rfl, _, Eq.trans (World.drewN_drewN _ _ _) (congrArg (World.drewN _) (Nat.add_assoc _ _ _))⟩))))
      go_meet
      case rel =>
       (try rw [← Nbq14.out])
       exact ⟨_, (decide (a2 > 12)), (by first | rfl | (simp; done) | (simp [*]; done)), H', ⟨by first | omega | exact Nat.le_refl _⟩, ⟨by (with_reducible repeat (first | apply Kd.R_alloc | apply Kd.R_drewN | apply Kd.R_drew)); exact Kd.R_mono (Kd.R_far (p := ⟨gb202, 6, none⟩) (Kd.R_far (p := ⟨gb202, 5, none⟩) (Kd.R_far (p := ⟨gb202, 4, none⟩) (Kd.R_far (p := ⟨gb202, 3, none⟩) (Kd.R_far (p := ⟨gb202, 2, none⟩) (Kd.R_far (p := ⟨gb202, 1, none⟩) (Kd.R_far (p := ⟨gb202, 0, none⟩) (Kd.R_types HO3.out BK202.out (by decide)) (fun _ hk => hk.2) (.bool (true))) (fun _ hk => hk.2) (.int .i64 ((rd_T99 l0_0 a1).f1))) (fun _ hk => hk.2) (.int .i64 ((rd_T99 l0_0 a1).f2))) (fun _ hk => hk.2) (.int .i64 ((rd_T99 l0_0 a1).f3))) (fun _ hk => hk.2) (.int .i64 ((rd_T99 l0_0 a1).f4))) (fun _ hk => hk.2) (.int .i64 ((rd_T99 l0_0 a1).f5))) (fun _ hk => hk.2) (.int .i64 ((rd_T99 l0_0 a1).f6))) (fun _ hk => hk.1)⟩, ⟨by (with_reducible repeat (first | apply Kd.R_alloc | apply Kd.R_drewN | apply Kd.R_drew)); exact Kd.R_mono (Kd.R_far (p := ⟨gb202, 6, none⟩) (Kd.R_far (p := ⟨gb202, 5, none⟩) (Kd.R_far (p := ⟨gb202, 4, none⟩) (Kd.R_far (p := ⟨gb202, 3, none⟩) (Kd.R_far (p := ⟨gb202, 2, none⟩) (Kd.R_far (p := ⟨gb202, 1, none⟩) (Kd.R_far (p := ⟨gb202, 0, none⟩) (Kd.R_types HO4.out BK202.out (by decide)) (fun _ hk => hk.2) (.bool (true))) (fun _ hk => hk.2) (.int .i64 ((rd_T99 l0_0 a1).f1))) (fun _ hk => hk.2) (.int .i64 ((rd_T99 l0_0 a1).f2))) (fun _ hk => hk.2) (.int .i64 ((rd_T99 l0_0 a1).f3))) (fun _ hk => hk.2) (.int .i64 ((rd_T99 l0_0 a1).f4))) (fun _ hk => hk.2) (.int .i64 ((rd_T99 l0_0 a1).f5))) (fun _ hk => hk.2) (.int .i64 ((rd_T99 l0_0 a1).f6))) (fun _ hk => hk.1)⟩, ⟨by (with_reducible repeat (first | refine blk_drewN ?_ _ | refine blk_drew ?_ | refine blk_alloc ?_ _)); refine blk_far ?_ NB200_202.out _; (with_reducible repeat (first | refine blk_drewN ?_ _ | refine blk_drew ?_ | refine blk_alloc ?_ _)); refine blk_far ?_ NB200_202.out _; (with_reducible repeat (first | refine blk_drewN ?_ _ | refine blk_drew ?_ | refine blk_alloc ?_ _)); refine blk_far ?_ NB200_202.out _; (with_reducible repeat (first | refine blk_drewN ?_ _ | refine blk_drew ?_ | refine blk_alloc ?_ _)); refine blk_far ?_ NB200_202.out _; (with_reducible repeat (first | refine blk_drewN ?_ _ | refine blk_drew ?_ | refine blk_alloc ?_ _)); refine blk_far ?_ NB200_202.out _; (with_reducible repeat (first | refine blk_drewN ?_ _ | refine blk_drew ?_ | refine blk_alloc ?_ _)); refine blk_far ?_ NB200_202.out _; (with_reducible repeat (first | refine blk_drewN ?_ _ | refine blk_drew ?_ | refine blk_alloc ?_ _)); refine blk_far ?_ NB200_202.out _; (with_reducible repeat (first | refine blk_drewN ?_ _ | refine blk_drew ?_ | refine blk_alloc ?_ _)); exact BK200.out⟩, ⟨by (with_reducible repeat (first | refine blk_drewN ?_ _ | refine blk_drew ?_ | refine blk_alloc ?_ _)); refine blk_put (cs := #[.bool (true), .int .i64 ((rd_T99 l0_0 a1).f1), .int .i64 ((rd_T99 l0_0 a1).f2), .int .i64 ((rd_T99 l0_0 a1).f3), .int .i64 ((rd_T99 l0_0 a1).f4), .int .i64 ((rd_T99 l0_0 a1).f5), .int .i64 0]) ?_ 6 _ rfl; (with_reducible repeat (first | refine blk_drewN ?_ _ | refine blk_drew ?_ | refine blk_alloc ?_ _)); refine blk_put (cs := #[.bool (true), .int .i64 ((rd_T99 l0_0 a1).f1), .int .i64 ((rd_T99 l0_0 a1).f2), .int .i64 ((rd_T99 l0_0 a1).f3), .int .i64 ((rd_T99 l0_0 a1).f4), .int .i64 0, .int .i64 0]) ?_ 5 _ rfl; (with_reducible repeat (first | refine blk_drewN ?_ _ | refine blk_drew ?_ | refine blk_alloc ?_ _)); refine blk_put (cs := #[.bool (true), .int .i64 ((rd_T99 l0_0 a1).f1), .int .i64 ((rd_T99 l0_0 a1).f2), .int .i64 ((rd_T99 l0_0 a1).f3), .int .i64 0, .int .i64 0, .int .i64 0]) ?_ 4 _ rfl; (with_reducible repeat (first | refine blk_drewN ?_ _ | refine blk_drew ?_ | refine blk_alloc ?_ _)); refine blk_put (cs := #[.bool (true), .int .i64 ((rd_T99 l0_0 a1).f1), .int .i64 ((rd_T99 l0_0 a1).f2), .int .i64 0, .int .i64 0, .int .i64 0, .int .i64 0]) ?_ 3 _ rfl; (with_reducible repeat (first | refine blk_drewN ?_ _ | refine blk_drew ?_ | refine blk_alloc ?_ _)); refine blk_put (cs := #[.bool (true), .int .i64 ((rd_T99 l0_0 a1).f1), .int .i64 0, .int .i64 0, .int .i64 0, .int .i64 0, .int .i64 0]) ?_ 2 _ rfl; (with_reducible repeat (first | refine blk_drewN ?_ _ | refine blk_drew ?_ | refine blk_alloc ?_ _)); refine blk_put (cs := #[.bool (true), .int .i64 0, .int .i64 0, .int .i64 0, .int .i64 0, .int .i64 0, .int .i64 0]) ?_ 1 _ rfl; (with_reducible repeat (first | refine blk_drewN ?_ _ | refine blk_drew ?_ | refine blk_alloc ?_ _)); refine blk_put (cs := #[.bool false, .int .i64 0, .int .i64 0, .int .i64 0, .int .i64 0, .int .i64 0, .int .i64 0]) ?_ 0 _ rfl; (with_reducible repeat (first | refine blk_drewN ?_ _ | refine blk_drew ?_ | refine blk_alloc ?_ _)); exact BK202.out⟩, ⟨by repeat (first | (with_reducible first | exact HK.out | apply Kept.alloc | apply Kept.drewN | apply Kept.drew | refine Kept.setCell ?_ (.inr GW200.out) _ | refine Kept.setCell ?_ (.inr GW202.out) _) | exact HK.out)⟩, ⟨by repeat (first | (with_reducible first | exact HB.out | apply below_alloc | apply pw_below_drewN | apply below_drew1 | refine below_set ?_ GE200.out | refine below_set ?_ GE202.out) | exact HB.out)⟩⟩
     ·replace c17 := Bool.eq_false_iff.mpr c17
      subst c17
      have H1 : (impl_Dom_visit.j0 k a1 a2 l3 l4 true l0_0 true ((rd_T99 l0_0 a1).f1) ((rd_T99 l0_0 a1).f2) ((rd_T99 l0_0 a1).f3) ((rd_T99 l0_0 a1).f4) ((rd_T99 l0_0 a1).f5) ((rd_T99 l0_0 a1).f6)) = some (r1, r2, r3) := by rw [if_neg (show ¬ (false = true) by decide)] at H; exact H
      clear H
      have H := H1
      clear H1
      have H' := Aside0.mk H
      clear H
      have hnb20 := NB202_200.out
      have hnc20 := NB200_202.out
      have hcz21_0 : w11.cell? ⟨gb202, 0, none⟩ = some (.bool false) := (blk_cell BK202.out 0).trans rfl
      have hcz21_1 : w11.cell? ⟨gb202, 1, none⟩ = some (.int .i64 0) := (blk_cell BK202.out 1).trans rfl
      have hcz21_2 : w11.cell? ⟨gb202, 2, none⟩ = some (.int .i64 0) := (blk_cell BK202.out 2).trans rfl
      have hcz21_3 : w11.cell? ⟨gb202, 3, none⟩ = some (.int .i64 0) := (blk_cell BK202.out 3).trans rfl
      have hcz21_4 : w11.cell? ⟨gb202, 4, none⟩ = some (.int .i64 0) := (blk_cell BK202.out 4).trans rfl
      have hcz21_5 : w11.cell? ⟨gb202, 5, none⟩ = some (.int .i64 0) := (blk_cell BK202.out 5).trans rfl
      have hcz21_6 : w11.cell? ⟨gb202, 6, none⟩ = some (.int .i64 0) := (blk_cell BK202.out 6).trans rfl
      have hfz21_0 := blk_frozen BK202.out 0
      have hfz21_1 := blk_frozen BK202.out 1
      have hfz21_2 := blk_frozen BK202.out 2
      have hfz21_3 := blk_frozen BK202.out 3
      have hfz21_4 := blk_frozen BK202.out 4
      have hfz21_5 := blk_frozen BK202.out 5
      have hfz21_6 := blk_frozen BK202.out 6
      go_wp2_with (first | (go_at_call 128; (with_reducible refine (impl_LabelOk.calls ((rd_T99 l0_0 a1).f1) false _ A16.out).mono ?_); rintro e w' ⟨rfl, ⟨nd, rfl⟩⟩; (try first | exact ⟨rfl, _, World.drewN_drewN _ _ _⟩ | exact ⟨rfl, _, Eq.trans (World.drewN_drewN _ _ _) (congrArg (World.drewN _) (Nat.add_assoc _ _ _))⟩)))
      repeat (go_quiet (first | (go_at_call 128; (with_reducible refine (impl_LabelOk.calls ((rd_T99 l0_0 a1).f1) false _ A16.out).mono ?_); rintro e w' ⟨rfl, ⟨nd, rfl⟩⟩; (try first | exact ⟨rfl, _, World.drewN_drewN _ _ _⟩ | exact ⟨rfl, _, Eq.trans (World.drewN_drewN _ _ _) (congrArg (World.drewN _) (Nat.add_assoc _ _ _))⟩))); try go_wp2_with (first | (go_at_call 128; (with_reducible refine (impl_LabelOk.calls ((rd_T99 l0_0 a1).f1) false _ A16.out).mono ?_); rintro e w' ⟨rfl, ⟨nd, rfl⟩⟩; (try first | exact ⟨rfl, _, World.drewN_drewN _ _ _⟩ | exact ⟨rfl, _, Eq.trans (World.drewN_drewN _ _ _) (congrArg (World.drewN _) (Nat.add_assoc _ _ _))⟩))))
      go_meet
      case rel =>
       (try rw [← Nbq14.out])
       exact ⟨_, (true), (by first | rfl | (simp; done) | (simp [*]; done)), H', ⟨by first | omega | exact Nat.le_refl _⟩, ⟨by (with_reducible repeat (first | apply Kd.R_alloc | apply Kd.R_drewN | apply Kd.R_drew)); exact Kd.R_mono (Kd.R_far (p := ⟨gb202, 6, none⟩) (Kd.R_far (p := ⟨gb202, 5, none⟩) (Kd.R_far (p := ⟨gb202, 4, none⟩) (Kd.R_far (p := ⟨gb202, 3, none⟩) (Kd.R_far (p := ⟨gb202, 2, none⟩) (Kd.R_far (p := ⟨gb202, 1, none⟩) (Kd.R_far (p := ⟨gb202, 0, none⟩) (Kd.R_types HO3.out BK202.out (by decide)) (fun _ hk => hk.2) (.bool (true))) (fun _ hk => hk.2) (.int .i64 ((rd_T99 l0_0 a1).f1))) (fun _ hk => hk.2) (.int .i64 ((rd_T99 l0_0 a1).f2))) (fun _ hk => hk.2) (.int .i64 ((rd_T99 l0_0 a1).f3))) (fun _ hk => hk.2) (.int .i64 ((rd_T99 l0_0 a1).f4))) (fun _ hk => hk.2) (.int .i64 ((rd_T99 l0_0 a1).f5))) (fun _ hk => hk.2) (.int .i64 ((rd_T99 l0_0 a1).f6))) (fun _ hk => hk.1)⟩, ⟨by (with_reducible repeat (first | apply Kd.R_alloc | apply Kd.R_drewN | apply Kd.R_drew)); exact Kd.R_mono (Kd.R_far (p := ⟨gb202, 6, none⟩) (Kd.R_far (p := ⟨gb202, 5, none⟩) (Kd.R_far (p := ⟨gb202, 4, none⟩) (Kd.R_far (p := ⟨gb202, 3, none⟩) (Kd.R_far (p := ⟨gb202, 2, none⟩) (Kd.R_far (p := ⟨gb202, 1, none⟩) (Kd.R_far (p := ⟨gb202, 0, none⟩) (Kd.R_types HO4.out BK202.out (by decide)) (fun _ hk => hk.2) (.bool (true))) (fun _ hk => hk.2) (.int .i64 ((rd_T99 l0_0 a1).f1))) (fun _ hk => hk.2) (.int .i64 ((rd_T99 l0_0 a1).f2))) (fun _ hk => hk.2) (.int .i64 ((rd_T99 l0_0 a1).f3))) (fun _ hk => hk.2) (.int .i64 ((rd_T99 l0_0 a1).f4))) (fun _ hk => hk.2) (.int .i64 ((rd_T99 l0_0 a1).f5))) (fun _ hk => hk.2) (.int .i64 ((rd_T99 l0_0 a1).f6))) (fun _ hk => hk.1)⟩, ⟨by (with_reducible repeat (first | refine blk_drewN ?_ _ | refine blk_drew ?_ | refine blk_alloc ?_ _)); refine blk_far ?_ NB200_202.out _; (with_reducible repeat (first | refine blk_drewN ?_ _ | refine blk_drew ?_ | refine blk_alloc ?_ _)); refine blk_far ?_ NB200_202.out _; (with_reducible repeat (first | refine blk_drewN ?_ _ | refine blk_drew ?_ | refine blk_alloc ?_ _)); refine blk_far ?_ NB200_202.out _; (with_reducible repeat (first | refine blk_drewN ?_ _ | refine blk_drew ?_ | refine blk_alloc ?_ _)); refine blk_far ?_ NB200_202.out _; (with_reducible repeat (first | refine blk_drewN ?_ _ | refine blk_drew ?_ | refine blk_alloc ?_ _)); refine blk_far ?_ NB200_202.out _; (with_reducible repeat (first | refine blk_drewN ?_ _ | refine blk_drew ?_ | refine blk_alloc ?_ _)); refine blk_far ?_ NB200_202.out _; (with_reducible repeat (first | refine blk_drewN ?_ _ | refine blk_drew ?_ | refine blk_alloc ?_ _)); refine blk_far ?_ NB200_202.out _; (with_reducible repeat (first | refine blk_drewN ?_ _ | refine blk_drew ?_ | refine blk_alloc ?_ _)); exact BK200.out⟩, ⟨by (with_reducible repeat (first | refine blk_drewN ?_ _ | refine blk_drew ?_ | refine blk_alloc ?_ _)); refine blk_put (cs := #[.bool (true), .int .i64 ((rd_T99 l0_0 a1).f1), .int .i64 ((rd_T99 l0_0 a1).f2), .int .i64 ((rd_T99 l0_0 a1).f3), .int .i64 ((rd_T99 l0_0 a1).f4), .int .i64 ((rd_T99 l0_0 a1).f5), .int .i64 0]) ?_ 6 _ rfl; (with_reducible repeat (first | refine blk_drewN ?_ _ | refine blk_drew ?_ | refine blk_alloc ?_ _)); refine blk_put (cs := #[.bool (true), .int .i64 ((rd_T99 l0_0 a1).f1), .int .i64 ((rd_T99 l0_0 a1).f2), .int .i64 ((rd_T99 l0_0 a1).f3), .int .i64 ((rd_T99 l0_0 a1).f4), .int .i64 0, .int .i64 0]) ?_ 5 _ rfl; (with_reducible repeat (first | refine blk_drewN ?_ _ | refine blk_drew ?_ | refine blk_alloc ?_ _)); refine blk_put (cs := #[.bool (true), .int .i64 ((rd_T99 l0_0 a1).f1), .int .i64 ((rd_T99 l0_0 a1).f2), .int .i64 ((rd_T99 l0_0 a1).f3), .int .i64 0, .int .i64 0, .int .i64 0]) ?_ 4 _ rfl; (with_reducible repeat (first | refine blk_drewN ?_ _ | refine blk_drew ?_ | refine blk_alloc ?_ _)); refine blk_put (cs := #[.bool (true), .int .i64 ((rd_T99 l0_0 a1).f1), .int .i64 ((rd_T99 l0_0 a1).f2), .int .i64 0, .int .i64 0, .int .i64 0, .int .i64 0]) ?_ 3 _ rfl; (with_reducible repeat (first | refine blk_drewN ?_ _ | refine blk_drew ?_ | refine blk_alloc ?_ _)); refine blk_put (cs := #[.bool (true), .int .i64 ((rd_T99 l0_0 a1).f1), .int .i64 0, .int .i64 0, .int .i64 0, .int .i64 0, .int .i64 0]) ?_ 2 _ rfl; (with_reducible repeat (first | refine blk_drewN ?_ _ | refine blk_drew ?_ | refine blk_alloc ?_ _)); refine blk_put (cs := #[.bool (true), .int .i64 0, .int .i64 0, .int .i64 0, .int .i64 0, .int .i64 0, .int .i64 0]) ?_ 1 _ rfl; (with_reducible repeat (first | refine blk_drewN ?_ _ | refine blk_drew ?_ | refine blk_alloc ?_ _)); refine blk_put (cs := #[.bool false, .int .i64 0, .int .i64 0, .int .i64 0, .int .i64 0, .int .i64 0, .int .i64 0]) ?_ 0 _ rfl; (with_reducible repeat (first | refine blk_drewN ?_ _ | refine blk_drew ?_ | refine blk_alloc ?_ _)); exact BK202.out⟩, ⟨by repeat (first | (with_reducible first | exact HK.out | apply Kept.alloc | apply Kept.drewN | apply Kept.drew | refine Kept.setCell ?_ (.inr GW200.out) _ | refine Kept.setCell ?_ (.inr GW202.out) _) | exact HK.out)⟩, ⟨by repeat (first | (with_reducible first | exact HB.out | apply below_alloc | apply pw_below_drewN | apply below_drew1 | refine below_set ?_ GE200.out | refine below_set ?_ GE202.out) | exact HB.out)⟩⟩
    ·replace c15 := Bool.eq_false_iff.mpr c15
     subst c15
     have H1 : (impl_Dom_visit.j0 k a1 a2 l3 l4 true l0_0 false ((rd_T99 l0_0 a1).f1) ((rd_T99 l0_0 a1).f2) ((rd_T99 l0_0 a1).f3) ((rd_T99 l0_0 a1).f4) ((rd_T99 l0_0 a1).f5) ((rd_T99 l0_0 a1).f6)) = some (r1, r2, r3) := by rw [if_neg (show ¬ (false = true) by decide)] at H; exact H
     clear H
     have H := H1
     clear H1
     have H' := Aside0.mk H
     clear H
     have hnb22 := NB202_200.out
     have hnc22 := NB200_202.out
     have hcz23_0 : w11.cell? ⟨gb202, 0, none⟩ = some (.bool false) := (blk_cell BK202.out 0).trans rfl
     have hcz23_1 : w11.cell? ⟨gb202, 1, none⟩ = some (.int .i64 0) := (blk_cell BK202.out 1).trans rfl
     have hcz23_2 : w11.cell? ⟨gb202, 2, none⟩ = some (.int .i64 0) := (blk_cell BK202.out 2).trans rfl
     have hcz23_3 : w11.cell? ⟨gb202, 3, none⟩ = some (.int .i64 0) := (blk_cell BK202.out 3).trans rfl
     have hcz23_4 : w11.cell? ⟨gb202, 4, none⟩ = some (.int .i64 0) := (blk_cell BK202.out 4).trans rfl
     have hcz23_5 : w11.cell? ⟨gb202, 5, none⟩ = some (.int .i64 0) := (blk_cell BK202.out 5).trans rfl
     have hcz23_6 : w11.cell? ⟨gb202, 6, none⟩ = some (.int .i64 0) := (blk_cell BK202.out 6).trans rfl
     have hfz23_0 := blk_frozen BK202.out 0
     have hfz23_1 := blk_frozen BK202.out 1
     have hfz23_2 := blk_frozen BK202.out 2
     have hfz23_3 := blk_frozen BK202.out 3
     have hfz23_4 := blk_frozen BK202.out 4
     have hfz23_5 := blk_frozen BK202.out 5
     have hfz23_6 := blk_frozen BK202.out 6
     go_wp2
     repeat (go_quiet (fail); try go_wp2)
     go_meet
     case rel =>
      (try rw [← Nbq14.out])
      exact ⟨_, (true), (by first | rfl | (simp; done) | (simp [*]; done)), H', ⟨by first | omega | exact Nat.le_refl _⟩, ⟨by (with_reducible repeat (first | apply Kd.R_alloc | apply Kd.R_drewN | apply Kd.R_drew)); exact Kd.R_mono (Kd.R_far (p := ⟨gb202, 6, none⟩) (Kd.R_far (p := ⟨gb202, 5, none⟩) (Kd.R_far (p := ⟨gb202, 4, none⟩) (Kd.R_far (p := ⟨gb202, 3, none⟩) (Kd.R_far (p := ⟨gb202, 2, none⟩) (Kd.R_far (p := ⟨gb202, 1, none⟩) (Kd.R_far (p := ⟨gb202, 0, none⟩) (Kd.R_types HO3.out BK202.out (by decide)) (fun _ hk => hk.2) (.bool (false))) (fun _ hk => hk.2) (.int .i64 ((rd_T99 l0_0 a1).f1))) (fun _ hk => hk.2) (.int .i64 ((rd_T99 l0_0 a1).f2))) (fun _ hk => hk.2) (.int .i64 ((rd_T99 l0_0 a1).f3))) (fun _ hk => hk.2) (.int .i64 ((rd_T99 l0_0 a1).f4))) (fun _ hk => hk.2) (.int .i64 ((rd_T99 l0_0 a1).f5))) (fun _ hk => hk.2) (.int .i64 ((rd_T99 l0_0 a1).f6))) (fun _ hk => hk.1)⟩, ⟨by (with_reducible repeat (first | apply Kd.R_alloc | apply Kd.R_drewN | apply Kd.R_drew)); exact Kd.R_mono (Kd.R_far (p := ⟨gb202, 6, none⟩) (Kd.R_far (p := ⟨gb202, 5, none⟩) (Kd.R_far (p := ⟨gb202, 4, none⟩) (Kd.R_far (p := ⟨gb202, 3, none⟩) (Kd.R_far (p := ⟨gb202, 2, none⟩) (Kd.R_far (p := ⟨gb202, 1, none⟩) (Kd.R_far (p := ⟨gb202, 0, none⟩) (Kd.R_types HO4.out BK202.out (by decide)) (fun _ hk => hk.2) (.bool (false))) (fun _ hk => hk.2) (.int .i64 ((rd_T99 l0_0 a1).f1))) (fun _ hk => hk.2) (.int .i64 ((rd_T99 l0_0 a1).f2))) (fun _ hk => hk.2) (.int .i64 ((rd_T99 l0_0 a1).f3))) (fun _ hk => hk.2) (.int .i64 ((rd_T99 l0_0 a1).f4))) (fun _ hk => hk.2) (.int .i64 ((rd_T99 l0_0 a1).f5))) (fun _ hk => hk.2) (.int .i64 ((rd_T99 l0_0 a1).f6))) (fun _ hk => hk.1)⟩, ⟨by (with_reducible repeat (first | refine blk_drewN ?_ _ | refine blk_drew ?_ | refine blk_alloc ?_ _)); refine blk_far ?_ NB200_202.out _; (with_reducible repeat (first | refine blk_drewN ?_ _ | refine blk_drew ?_ | refine blk_alloc ?_ _)); refine blk_far ?_ NB200_202.out _; (with_reducible repeat (first | refine blk_drewN ?_ _ | refine blk_drew ?_ | refine blk_alloc ?_ _)); refine blk_far ?_ NB200_202.out _; (with_reducible repeat (first | refine blk_drewN ?_ _ | refine blk_drew ?_ | refine blk_alloc ?_ _)); refine blk_far ?_ NB200_202.out _; (with_reducible repeat (first | refine blk_drewN ?_ _ | refine blk_drew ?_ | refine blk_alloc ?_ _)); refine blk_far ?_ NB200_202.out _; (with_reducible repeat (first | refine blk_drewN ?_ _ | refine blk_drew ?_ | refine blk_alloc ?_ _)); refine blk_far ?_ NB200_202.out _; (with_reducible repeat (first | refine blk_drewN ?_ _ | refine blk_drew ?_ | refine blk_alloc ?_ _)); refine blk_far ?_ NB200_202.out _; (with_reducible repeat (first | refine blk_drewN ?_ _ | refine blk_drew ?_ | refine blk_alloc ?_ _)); exact BK200.out⟩, ⟨by (with_reducible repeat (first | refine blk_drewN ?_ _ | refine blk_drew ?_ | refine blk_alloc ?_ _)); refine blk_put (cs := #[.bool (false), .int .i64 ((rd_T99 l0_0 a1).f1), .int .i64 ((rd_T99 l0_0 a1).f2), .int .i64 ((rd_T99 l0_0 a1).f3), .int .i64 ((rd_T99 l0_0 a1).f4), .int .i64 ((rd_T99 l0_0 a1).f5), .int .i64 0]) ?_ 6 _ rfl; (with_reducible repeat (first | refine blk_drewN ?_ _ | refine blk_drew ?_ | refine blk_alloc ?_ _)); refine blk_put (cs := #[.bool (false), .int .i64 ((rd_T99 l0_0 a1).f1), .int .i64 ((rd_T99 l0_0 a1).f2), .int .i64 ((rd_T99 l0_0 a1).f3), .int .i64 ((rd_T99 l0_0 a1).f4), .int .i64 0, .int .i64 0]) ?_ 5 _ rfl; (with_reducible repeat (first | refine blk_drewN ?_ _ | refine blk_drew ?_ | refine blk_alloc ?_ _)); refine blk_put (cs := #[.bool (false), .int .i64 ((rd_T99 l0_0 a1).f1), .int .i64 ((rd_T99 l0_0 a1).f2), .int .i64 ((rd_T99 l0_0 a1).f3), .int .i64 0, .int .i64 0, .int .i64 0]) ?_ 4 _ rfl; (with_reducible repeat (first | refine blk_drewN ?_ _ | refine blk_drew ?_ | refine blk_alloc ?_ _)); refine blk_put (cs := #[.bool (false), .int .i64 ((rd_T99 l0_0 a1).f1), .int .i64 ((rd_T99 l0_0 a1).f2), .int .i64 0, .int .i64 0, .int .i64 0, .int .i64 0]) ?_ 3 _ rfl; (with_reducible repeat (first | refine blk_drewN ?_ _ | refine blk_drew ?_ | refine blk_alloc ?_ _)); refine blk_put (cs := #[.bool (false), .int .i64 ((rd_T99 l0_0 a1).f1), .int .i64 0, .int .i64 0, .int .i64 0, .int .i64 0, .int .i64 0]) ?_ 2 _ rfl; (with_reducible repeat (first | refine blk_drewN ?_ _ | refine blk_drew ?_ | refine blk_alloc ?_ _)); refine blk_put (cs := #[.bool (false), .int .i64 0, .int .i64 0, .int .i64 0, .int .i64 0, .int .i64 0, .int .i64 0]) ?_ 1 _ rfl; (with_reducible repeat (first | refine blk_drewN ?_ _ | refine blk_drew ?_ | refine blk_alloc ?_ _)); refine blk_put (cs := #[.bool false, .int .i64 0, .int .i64 0, .int .i64 0, .int .i64 0, .int .i64 0, .int .i64 0]) ?_ 0 _ rfl; (with_reducible repeat (first | refine blk_drewN ?_ _ | refine blk_drew ?_ | refine blk_alloc ?_ _)); exact BK202.out⟩, ⟨by repeat (first | (with_reducible first | exact HK.out | apply Kept.alloc | apply Kept.drewN | apply Kept.drew | refine Kept.setCell ?_ (.inr GW200.out) _ | refine Kept.setCell ?_ (.inr GW202.out) _) | exact HK.out)⟩, ⟨by repeat (first | (with_reducible first | exact HB.out | apply below_alloc | apply pw_below_drewN | apply below_drew1 | refine below_set ?_ GE200.out | refine below_set ?_ GE202.out) | exact HB.out)⟩⟩
   case rest =>
    clear HC8
    try clear c1
    try clear q1
    try clear c2
    try clear p2
    try clear q2
    try clear hx2
    try clear c6
    try clear c6b0
    try clear c7
    try clear c7b0
    try clear c11
    try clear c12
    try clear q14
    try clear c15
    try clear c17
    try clear c18
    try clear c20
    try clear p20
    try clear q20
    try clear hx20
    try clear c22
    try clear hcz10_0
    try clear hcz13_0
    try clear hcz13_1
    try clear hcz13_2
    try clear hcz13_3
    try clear hcz13_4
    try clear hcz13_5
    try clear hcz13_6
    try clear hcz19_0
    try clear hcz19_1
    try clear hcz19_2
    try clear hcz19_3
    try clear hcz19_4
    try clear hcz19_5
    try clear hcz19_6
    try clear hcz21_0
    try clear hcz21_1
    try clear hcz21_2
    try clear hcz21_3
    try clear hcz21_4
    try clear hcz21_5
    try clear hcz21_6
    try clear hcz23_0
    try clear hcz23_1
    try clear hcz23_2
    try clear hcz23_3
    try clear hcz23_4
    try clear hcz23_5
    try clear hcz23_6
    try clear hfz10_0
    try clear hfz13_0
    try clear hfz13_1
    try clear hfz13_2
    try clear hfz13_3
    try clear hfz13_4
    try clear hfz13_5
    try clear hfz13_6
    try clear hfz19_0
    try clear hfz19_1
    try clear hfz19_2
    try clear hfz19_3
    try clear hfz19_4
    try clear hfz19_5
    try clear hfz19_6
    try clear hfz21_0
    try clear hfz21_1
    try clear hfz21_2
    try clear hfz21_3
    try clear hfz21_4
    try clear hfz21_5
    try clear hfz21_6
    try clear hfz23_0
    try clear hfz23_1
    try clear hfz23_2
    try clear hfz23_3
    try clear hfz23_4
    try clear hfz23_5
    try clear hfz23_6
    try clear hx201_0
    try clear hx201_1
    try clear hx201_2
    try clear hx201_3
    try clear hx201_4
    try clear hx201_5
    try clear hx201_6
    try clear p201
    try clear q201
    obtain ⟨kq, x34_7, rfl, HA, HJ7, HO_3, HO_4, BK200, BK202, HK, HB⟩ := hcut
    cases kq with
    | zero => exact absurd HA.out (by simp [impl_Dom_visit.j0])
    | succ kj7 =>
     have H := HA.out
     clear HA
     simp only [impl_Dom_visit.j0] at H
     by_cases c24 : x34_7 = true
     ·subst c24
      have H1 : (some (l3, l4, false)) = some (r1, r2, r3) := by rw [if_pos rfl] at H; exact H
      clear H
      have H := H1
      clear H1
      simp only [Option.some.injEq, Prod.mk.injEq] at H
      obtain ⟨rfl, rfl, rfl⟩ := H
      go_wp2
      repeat (go_quiet (fail); try go_wp2)
      go_ret3
      exact ⟨_, _, by first | rfl | (simp [errW_none, errW_some] <;> rfl) | (simp [*, errW_none, errW_some] <;> rfl), by (with_reducible repeat (first | apply Kd.R_alloc | apply Kd.R_drewN | apply Kd.R_drew)); exact HO_3.out, by (with_reducible repeat (first | apply Kd.R_alloc | apply Kd.R_drewN | apply Kd.R_drew)); exact HO_4.out, by repeat (first | (with_reducible first | exact HB.out | apply below_alloc | apply pw_below_drewN | apply below_drew1 | refine below_set ?_ GE200.out | refine below_set ?_ GE202.out) | exact HB.out), by repeat (first | (with_reducible first | exact HK.out | apply Kept.alloc | apply Kept.drewN | apply Kept.drew | refine Kept.setCell ?_ (.inr GW200.out) _ | refine Kept.setCell ?_ (.inr GW202.out) _) | exact HK.out)⟩
     ·replace c24 := Bool.eq_false_iff.mpr c24
      subst c24
      have H1 : (if l3.length < 8796093022208 then (if l4.length < 17592186044416 then (impl_Dom_visit.l0 kj7 a1 a2 (l3 ++ [(⟨((rd_T99 l0_0 a1).f1), a2⟩ : S90)]) (l4 ++ [a1]) (-1) ((rd_T99 l0_0 a1).f3) l0_0 ((rd_T99 l0_0 a1).f0) ((rd_T99 l0_0 a1).f1) ((rd_T99 l0_0 a1).f2) ((rd_T99 l0_0 a1).f3) ((rd_T99 l0_0 a1).f4) ((rd_T99 l0_0 a1).f5) ((rd_T99 l0_0 a1).f6)) else (none)) else (none)) = some (r1, r2, r3) := by rw [if_neg (show ¬ (false = true) by decide)] at H; exact H
      clear H
      have H := H1
      clear H1
      by_cases c25 : l3.length < 8796093022208
      ·rw [if_pos c25] at H
       have LMc25 := Aside0.mk c25
       clear c25
       obtain ⟨y204, hy204⟩ : ∃ y_ : List (S90), y_ = (l3 ++ [(⟨((rd_T99 l0_0 a1).f1), a2⟩ : S90)]) := ⟨_, rfl⟩
       replace H : (if l4.length < 17592186044416 then (impl_Dom_visit.l0 kj7 a1 a2 y204 (l4 ++ [a1]) (-1) ((rd_T99 l0_0 a1).f3) l0_0 ((rd_T99 l0_0 a1).f0) ((rd_T99 l0_0 a1).f1) ((rd_T99 l0_0 a1).f2) ((rd_T99 l0_0 a1).f3) ((rd_T99 l0_0 a1).f4) ((rd_T99 l0_0 a1).f5) ((rd_T99 l0_0 a1).f6)) else (none)) = some (r1, r2, r3) := by first | (rw [hy204]; with_reducible exact H) | (have H2_ := (Option.bind_some _ _).symm.trans H; rw [hy204]; with_reducible exact H2_) | (have H2_ := (Option.bind_some _ _).symm.trans H; with_reducible exact H2_) | with_reducible exact H | (rw [hy204]; exact H) | exact H
       have Ny204 := Aside0.mk hy204
       clear hy204
       by_cases c26 : l4.length < 17592186044416
       ·rw [if_pos c26] at H
        have LMc26 := Aside0.mk c26
        clear c26
        obtain ⟨y207, hy207⟩ : ∃ y_ : List Int, y_ = (l4 ++ [a1]) := ⟨_, rfl⟩
        replace H : (impl_Dom_visit.l0 kj7 a1 a2 y204 y207 (-1) ((rd_T99 l0_0 a1).f3) l0_0 ((rd_T99 l0_0 a1).f0) ((rd_T99 l0_0 a1).f1) ((rd_T99 l0_0 a1).f2) ((rd_T99 l0_0 a1).f3) ((rd_T99 l0_0 a1).f4) ((rd_T99 l0_0 a1).f5) ((rd_T99 l0_0 a1).f6)) = some (r1, r2, r3) := by first | (rw [hy207]; with_reducible exact H) | (have H2_ := (Option.bind_some _ _).symm.trans H; rw [hy207]; with_reducible exact H2_) | (have H2_ := (Option.bind_some _ _).symm.trans H; with_reducible exact H2_) | with_reducible exact H | (rw [hy207]; exact H) | exact H
        have Ny207 := Aside0.mk hy207
        clear hy207
        have H' := Aside0.mk H
        clear H
        have hnb27 := NB202_200.out
        have hnc27 := NB200_202.out
        have hcz28_0 : wc.cell? ⟨gb202, 0, none⟩ = some (.bool ((rd_T99 l0_0 a1).f0)) := (blk_cell BK202.out 0).trans rfl
        have hcz28_1 : wc.cell? ⟨gb202, 1, none⟩ = some (.int .i64 ((rd_T99 l0_0 a1).f1)) := (blk_cell BK202.out 1).trans rfl
        have hcz28_2 : wc.cell? ⟨gb202, 2, none⟩ = some (.int .i64 ((rd_T99 l0_0 a1).f2)) := (blk_cell BK202.out 2).trans rfl
        have hcz28_3 : wc.cell? ⟨gb202, 3, none⟩ = some (.int .i64 ((rd_T99 l0_0 a1).f3)) := (blk_cell BK202.out 3).trans rfl
        have hcz28_4 : wc.cell? ⟨gb202, 4, none⟩ = some (.int .i64 ((rd_T99 l0_0 a1).f4)) := (blk_cell BK202.out 4).trans rfl
        have hcz28_5 : wc.cell? ⟨gb202, 5, none⟩ = some (.int .i64 ((rd_T99 l0_0 a1).f5)) := (blk_cell BK202.out 5).trans rfl
        have hcz28_6 : wc.cell? ⟨gb202, 6, none⟩ = some (.int .i64 ((rd_T99 l0_0 a1).f6)) := (blk_cell BK202.out 6).trans rfl
        have hfz28_0 := blk_frozen BK202.out 0
        have hfz28_1 := blk_frozen BK202.out 1
        have hfz28_2 := blk_frozen BK202.out 2
        have hfz28_3 := blk_frozen BK202.out 3
        have hfz28_4 := blk_frozen BK202.out 4
        have hfz28_5 := blk_frozen BK202.out 5
        have hfz28_6 := blk_frozen BK202.out 6
        go_wp2_with (first | ((with_reducible refine gate_builtin (b := .append) (xs := #[.tmp 37, .tmp 42]) rfl ?_); at_builtin; refine Kd.R_append k90 (w0 := w0) w0.heap.size rfl (.tmp 37) (.tmp 42) 34 90 (.agg #[(.int .i64 0), (.int .i64 0)]) 16 rfl Try.underlying34 info90 rfl (by decide) (by omega) u9000_ l3 (⟨((rd_T99 l0_0 a1).f1), a2⟩ : S90) [.int .i64 ((rd_T99 l0_0 a1).f1), .int .i64 a2] (fun k_ => ((P3_ k_ ∨ P4_ k_) ∨ w.heap.size ≤ k_)) (fun _ => False) rfl rfl ?aP (fun _ hk => hk.elim) ?aF ?aO ?aB ?aS ?aL ?_; (case aP => exact k90_mkM _ _ _ (⟨((rd_T99 l0_0 a1).f1), a2⟩ : S90)); (case aB => exact (by repeat (first | (with_reducible first | exact HB.out | apply below_alloc | apply pw_below_drewN | apply below_drew1 | refine below_set ?_ GE200.out | refine below_set ?_ GE202.out) | exact HB.out))); (case aF => exact (fun k_ hk => (.inr (Nat.le_trans (by first | exact HK.out.1 | exact (show Kept w _ (fun k_ => P3_ k_ ∨ P4_ k_) from by repeat (first | (with_reducible first | exact HK.out | apply Kept.alloc | apply Kept.drewN | apply Kept.drew | refine Kept.setCell ?_ (.inr GW200.out) _ | refine Kept.setCell ?_ (.inr GW202.out) _) | exact HK.out)).1) hk)))); (case aO => exact (by (with_reducible repeat (first | apply Kd.R_alloc | apply Kd.R_drewN | apply Kd.R_drew)); exact HO_3.out)); (case aS => exact (below_size (by repeat (first | (with_reducible first | exact HB.out | apply below_alloc | apply pw_below_drewN | apply below_drew1 | refine below_set ?_ GE200.out | refine below_set ?_ GE202.out) | exact HB.out)))); (case aL => have := LMc25.out; omega); intro v205 w29 ho hb hg hat; rw [← Ny204.out] at ho; have n0_ := Aside0.mk (Kd.R_over' (by (with_reducible repeat (first | apply Kd.R_alloc | apply Kd.R_drewN | apply Kd.R_drew)); exact HO_4.out) (Kd.R_typed (by (with_reducible repeat (first | apply Kd.R_alloc | apply Kd.R_drewN | apply Kd.R_drew)); exact HO_3.out)) (by decide) hg); have n1_ := Aside0.mk (blk_grown (g := gb200) (o := .cells #[.slice (some ad201) l0_0.length c0_0] 29 (0, 0)) (by (with_reducible repeat (first | refine blk_drewN ?_ _ | refine blk_drew ?_ | refine blk_alloc ?_ _)); exact BK200.out) hg (Kd.R_ne HO_3.out BK200.out (by decide))); have n2_ := Aside0.mk (blk_grown (g := gb202) (o := .cells #[.bool ((rd_T99 l0_0 a1).f0), .int .i64 ((rd_T99 l0_0 a1).f1), .int .i64 ((rd_T99 l0_0 a1).f2), .int .i64 ((rd_T99 l0_0 a1).f3), .int .i64 ((rd_T99 l0_0 a1).f4), .int .i64 ((rd_T99 l0_0 a1).f5), .int .i64 ((rd_T99 l0_0 a1).f6)] 99 (0, 0)) (by (with_reducible repeat (first | refine blk_drewN ?_ _ | refine blk_drew ?_ | refine blk_alloc ?_ _)); exact BK202.out) hg (Kd.R_ne HO_3.out BK202.out (by decide))); have n3_ := Aside0.mk (hb); have n4_ := Aside0.mk (Kept.of_grown (S := (fun k_ => P3_ k_ ∨ P4_ k_)) hg (by repeat (first | (with_reducible first | exact HK.out | apply Kept.alloc | apply Kept.drewN | apply Kept.drew | refine Kept.setCell ?_ (.inr GW200.out) _ | refine Kept.setCell ?_ (.inr GW202.out) _) | exact HK.out)) (fun k_ e_ => (HO_3.out.1 k_ e_))); have n5_ := Aside0.mk (ho); clear HO_4; clear BK200; clear BK202; clear HB; clear HK; clear HO_3; have HO_4 := n0_; have BK200 := n1_; have BK202 := n2_; have HB := n3_; have HK := n4_; have HO206 := n5_; clear n0_ n1_ n2_ n3_ n4_ n5_; clear ho hb hg hat) | ((with_reducible refine gate_builtin (b := .append) (xs := #[.tmp 44, .tmp 46]) rfl ?_); at_builtin; refine Kd.R_append (Kd.int .i64) (w0 := w0) w0.heap.size rfl (.tmp 44) (.tmp 46) 39 3 (.int .i64 0) 8 rfl Try.underlying39 info3 rfl (by decide) (by omega) u9001_ l4 a1 [.int .i64 a1] (fun k_ => ((P3_ k_ ∨ P4_ k_) ∨ w.heap.size ≤ k_)) (fun _ => False) rfl rfl ?aP (fun _ hk => hk.elim) ?aF ?aO ?aB ?aS ?aL ?_; (case aP => exact rfl); (case aB => exact (by repeat (first | (with_reducible first | exact HB.out | apply below_alloc | apply pw_below_drewN | apply below_drew1 | refine below_set ?_ GE200.out | refine below_set ?_ GE202.out) | exact HB.out))); (case aF => exact (fun k_ hk => (.inr (Nat.le_trans (by first | exact HK.out.1 | exact (show Kept w _ (fun k_ => P3_ k_ ∨ P4_ k_) from by repeat (first | (with_reducible first | exact HK.out | apply Kept.alloc | apply Kept.drewN | apply Kept.drew | refine Kept.setCell ?_ (.inr GW200.out) _ | refine Kept.setCell ?_ (.inr GW202.out) _) | exact HK.out)).1) hk)))); (case aO => exact (by (with_reducible repeat (first | apply Kd.R_alloc | apply Kd.R_drewN | apply Kd.R_drew)); exact HO_4.out)); (case aS => exact (below_size (by repeat (first | (with_reducible first | exact HB.out | apply below_alloc | apply pw_below_drewN | apply below_drew1 | refine below_set ?_ GE200.out | refine below_set ?_ GE202.out) | exact HB.out)))); (case aL => have := LMc26.out; omega); intro v208 w30 ho hb hg hat; rw [← Ny207.out] at ho; have n0_ := Aside0.mk (blk_grown (g := gb200) (o := .cells #[.slice (some ad201) l0_0.length c0_0] 29 (0, 0)) (by (with_reducible repeat (first | refine blk_drewN ?_ _ | refine blk_drew ?_ | refine blk_alloc ?_ _)); exact BK200.out) hg (Kd.R_ne HO_4.out BK200.out (by decide))); have n1_ := Aside0.mk (blk_grown (g := gb202) (o := .cells #[.bool ((rd_T99 l0_0 a1).f0), .int .i64 ((rd_T99 l0_0 a1).f1), .int .i64 ((rd_T99 l0_0 a1).f2), .int .i64 ((rd_T99 l0_0 a1).f3), .int .i64 ((rd_T99 l0_0 a1).f4), .int .i64 ((rd_T99 l0_0 a1).f5), .int .i64 ((rd_T99 l0_0 a1).f6)] 99 (0, 0)) (by (with_reducible repeat (first | refine blk_drewN ?_ _ | refine blk_drew ?_ | refine blk_alloc ?_ _)); exact BK202.out) hg (Kd.R_ne HO_4.out BK202.out (by decide))); have n2_ := Aside0.mk (Kd.R_over' (by (with_reducible repeat (first | apply Kd.R_alloc | apply Kd.R_drewN | apply Kd.R_drew)); exact HO206.out) (Kd.R_typed (by (with_reducible repeat (first | apply Kd.R_alloc | apply Kd.R_drewN | apply Kd.R_drew)); exact HO_4.out)) (by decide) hg); have n3_ := Aside0.mk (hb); have n4_ := Aside0.mk (Kept.of_grown (S := (fun k_ => P3_ k_ ∨ P4_ k_)) hg (by repeat (first | (with_reducible first | exact HK.out | apply Kept.alloc | apply Kept.drewN | apply Kept.drew | refine Kept.setCell ?_ (.inr GW200.out) _ | refine Kept.setCell ?_ (.inr GW202.out) _) | exact HK.out)) (fun k_ e_ => (HO_4.out.1 k_ e_))); have n5_ := Aside0.mk (ho); clear BK200; clear BK202; clear HO206; clear HB; clear HK; clear HO_4; have BK200 := n0_; have BK202 := n1_; have HO206 := n2_; have HB := n3_; have HK := n4_; have HO209 := n5_; clear n0_ n1_ n2_ n3_ n4_ n5_; clear ho hb hg hat; have hcz31_0 : w30.cell? ⟨gb202, 0, none⟩ = some (.bool ((rd_T99 l0_0 a1).f0)) := (blk_cell BK202.out 0).trans rfl; have hcz31_1 : w30.cell? ⟨gb202, 1, none⟩ = some (.int .i64 ((rd_T99 l0_0 a1).f1)) := (blk_cell BK202.out 1).trans rfl; have hcz31_2 : w30.cell? ⟨gb202, 2, none⟩ = some (.int .i64 ((rd_T99 l0_0 a1).f2)) := (blk_cell BK202.out 2).trans rfl; have hcz31_3 : w30.cell? ⟨gb202, 3, none⟩ = some (.int .i64 ((rd_T99 l0_0 a1).f3)) := (blk_cell BK202.out 3).trans rfl; have hcz31_4 : w30.cell? ⟨gb202, 4, none⟩ = some (.int .i64 ((rd_T99 l0_0 a1).f4)) := (blk_cell BK202.out 4).trans rfl; have hcz31_5 : w30.cell? ⟨gb202, 5, none⟩ = some (.int .i64 ((rd_T99 l0_0 a1).f5)) := (blk_cell BK202.out 5).trans rfl; have hcz31_6 : w30.cell? ⟨gb202, 6, none⟩ = some (.int .i64 ((rd_T99 l0_0 a1).f6)) := (blk_cell BK202.out 6).trans rfl; have hfz31_0 := blk_frozen BK202.out 0; have hfz31_1 := blk_frozen BK202.out 1; have hfz31_2 := blk_frozen BK202.out 2; have hfz31_3 := blk_frozen BK202.out 3; have hfz31_4 := blk_frozen BK202.out 4; have hfz31_5 := blk_frozen BK202.out 5; have hfz31_6 := blk_frozen BK202.out 6))
        repeat (go_quiet (first | ((with_reducible refine gate_builtin (b := .append) (xs := #[.tmp 37, .tmp 42]) rfl ?_); at_builtin; refine Kd.R_append k90 (w0 := w0) w0.heap.size rfl (.tmp 37) (.tmp 42) 34 90 (.agg #[(.int .i64 0), (.int .i64 0)]) 16 rfl Try.underlying34 info90 rfl (by decide) (by omega) u9000_ l3 (⟨((rd_T99 l0_0 a1).f1), a2⟩ : S90) [.int .i64 ((rd_T99 l0_0 a1).f1), .int .i64 a2] (fun k_ => ((P3_ k_ ∨ P4_ k_) ∨ w.heap.size ≤ k_)) (fun _ => False) rfl rfl ?aP (fun _ hk => hk.elim) ?aF ?aO ?aB ?aS ?aL ?_; (case aP => exact k90_mkM _ _ _ (⟨((rd_T99 l0_0 a1).f1), a2⟩ : S90)); (case aB => exact (by repeat (first | (with_reducible first | exact HB.out | apply below_alloc | apply pw_below_drewN | apply below_drew1 | refine below_set ?_ GE200.out | refine below_set ?_ GE202.out) | exact HB.out))); (case aF => exact (fun k_ hk => (.inr (Nat.le_trans (by first | exact HK.out.1 | exact (show Kept w _ (fun k_ => P3_ k_ ∨ P4_ k_) from by repeat (first | (with_reducible first | exact HK.out | apply Kept.alloc | apply Kept.drewN | apply Kept.drew | refine Kept.setCell ?_ (.inr GW200.out) _ | refine Kept.setCell ?_ (.inr GW202.out) _) | exact HK.out)).1) hk)))); (case aO => exact (by (with_reducible repeat (first | apply Kd.R_alloc | apply Kd.R_drewN | apply Kd.R_drew)); exact HO_3.out)); (case aS => exact (below_size (by repeat (first | (with_reducible first | exact HB.out | apply below_alloc | apply pw_below_drewN | apply below_drew1 | refine below_set ?_ GE200.out | refine below_set ?_ GE202.out) | exact HB.out)))); (case aL => have := LMc25.out; omega); intro v205 w29 ho hb hg hat; rw [← Ny204.out] at ho; have n0_ := Aside0.mk (Kd.R_over' (by (with_reducible repeat (first | apply Kd.R_alloc | apply Kd.R_drewN | apply Kd.R_drew)); exact HO_4.out) (Kd.R_typed (by (with_reducible repeat (first | apply Kd.R_alloc | apply Kd.R_drewN | apply Kd.R_drew)); exact HO_3.out)) (by decide) hg); have n1_ := Aside0.mk (blk_grown (g := gb200) (o := .cells #[.slice (some ad201) l0_0.length c0_0] 29 (0, 0)) (by (with_reducible repeat (first | refine blk_drewN ?_ _ | refine blk_drew ?_ | refine blk_alloc ?_ _)); exact BK200.out) hg (Kd.R_ne HO_3.out BK200.out (by decide))); have n2_ := Aside0.mk (blk_grown (g := gb202) (o := .cells #[.bool ((rd_T99 l0_0 a1).f0), .int .i64 ((rd_T99 l0_0 a1).f1), .int .i64 ((rd_T99 l0_0 a1).f2), .int .i64 ((rd_T99 l0_0 a1).f3), .int .i64 ((rd_T99 l0_0 a1).f4), .int .i64 ((rd_T99 l0_0 a1).f5), .int .i64 ((rd_T99 l0_0 a1).f6)] 99 (0, 0)) (by (with_reducible repeat (first | refine blk_drewN ?_ _ | refine blk_drew ?_ | refine blk_alloc ?_ _)); exact BK202.out) hg (Kd.R_ne HO_3.out BK202.out (by decide))); have n3_ := Aside0.mk (hb); have n4_ := Aside0.mk (Kept.of_grown (S := (fun k_ => P3_ k_ ∨ P4_ k_)) hg (by repeat (first | (with_reducible first | exact HK.out | apply Kept.alloc | apply Kept.drewN | apply Kept.drew | refine Kept.setCell ?_ (.inr GW200.out) _ | refine Kept.setCell ?_ (.inr GW202.out) _) | exact HK.out)) (fun k_ e_ => (HO_3.out.1 k_ e_))); have n5_ := Aside0.mk (ho); clear HO_4; clear BK200; clear BK202; clear HB; clear HK; clear HO_3; have HO_4 := n0_; have BK200 := n1_; have BK202 := n2_; have HB := n3_; have HK := n4_; have HO206 := n5_; clear n0_ n1_ n2_ n3_ n4_ n5_; clear ho hb hg hat) | ((with_reducible refine gate_builtin (b := .append) (xs := #[.tmp 44, .tmp 46]) rfl ?_); at_builtin; refine Kd.R_append (Kd.int .i64) (w0 := w0) w0.heap.size rfl (.tmp 44) (.tmp 46) 39 3 (.int .i64 0) 8 rfl Try.underlying39 info3 rfl (by decide) (by omega) u9001_ l4 a1 [.int .i64 a1] (fun k_ => ((P3_ k_ ∨ P4_ k_) ∨ w.heap.size ≤ k_)) (fun _ => False) rfl rfl ?aP (fun _ hk => hk.elim) ?aF ?aO ?aB ?aS ?aL ?_; (case aP => exact rfl); (case aB => exact (by repeat (first | (with_reducible first | exact HB.out | apply below_alloc | apply pw_below_drewN | apply below_drew1 | refine below_set ?_ GE200.out | refine below_set ?_ GE202.out) | exact HB.out))); (case aF => exact (fun k_ hk => (.inr (Nat.le_trans (by first | exact HK.out.1 | exact (show Kept w _ (fun k_ => P3_ k_ ∨ P4_ k_) from by repeat (first | (with_reducible first | exact HK.out | apply Kept.alloc | apply Kept.drewN | apply Kept.drew | refine Kept.setCell ?_ (.inr GW200.out) _ | refine Kept.setCell ?_ (.inr GW202.out) _) | exact HK.out)).1) hk)))); (case aO => exact (by (with_reducible repeat (first | apply Kd.R_alloc | apply Kd.R_drewN | apply Kd.R_drew)); exact HO_4.out)); (case aS => exact (below_size (by repeat (first | (with_reducible first | exact HB.out | apply below_alloc | apply pw_below_drewN | apply below_drew1 | refine below_set ?_ GE200.out | refine below_set ?_ GE202.out) | exact HB.out)))); (case aL => have := LMc26.out; omega); intro v208 w30 ho hb hg hat; rw [← Ny207.out] at ho; have n0_ := Aside0.mk (blk_grown (g := gb200) (o := .cells #[.slice (some ad201) l0_0.length c0_0] 29 (0, 0)) (by (with_reducible repeat (first | refine blk_drewN ?_ _ | refine blk_drew ?_ | refine blk_alloc ?_ _)); exact BK200.out) hg (Kd.R_ne HO_4.out BK200.out (by decide))); have n1_ := Aside0.mk (blk_grown (g := gb202) (o := .cells #[.bool ((rd_T99 l0_0 a1).f0), .int .i64 ((rd_T99 l0_0 a1).f1), .int .i64 ((rd_T99 l0_0 a1).f2), .int .i64 ((rd_T99 l0_0 a1).f3), .int .i64 ((rd_T99 l0_0 a1).f4), .int .i64 ((rd_T99 l0_0 a1).f5), .int .i64 ((rd_T99 l0_0 a1).f6)] 99 (0, 0)) (by (with_reducible repeat (first | refine blk_drewN ?_ _ | refine blk_drew ?_ | refine blk_alloc ?_ _)); exact BK202.out) hg (Kd.R_ne HO_4.out BK202.out (by decide))); have n2_ := Aside0.mk (Kd.R_over' (by (with_reducible repeat (first | apply Kd.R_alloc | apply Kd.R_drewN | apply Kd.R_drew)); exact HO206.out) (Kd.R_typed (by (with_reducible repeat (first | apply Kd.R_alloc | apply Kd.R_drewN | apply Kd.R_drew)); exact HO_4.out)) (by decide) hg); have n3_ := Aside0.mk (hb); have n4_ := Aside0.mk (Kept.of_grown (S := (fun k_ => P3_ k_ ∨ P4_ k_)) hg (by repeat (first | (with_reducible first | exact HK.out | apply Kept.alloc | apply Kept.drewN | apply Kept.drew | refine Kept.setCell ?_ (.inr GW200.out) _ | refine Kept.setCell ?_ (.inr GW202.out) _) | exact HK.out)) (fun k_ e_ => (HO_4.out.1 k_ e_))); have n5_ := Aside0.mk (ho); clear BK200; clear BK202; clear HO206; clear HB; clear HK; clear HO_4; have BK200 := n0_; have BK202 := n1_; have HO206 := n2_; have HB := n3_; have HK := n4_; have HO209 := n5_; clear n0_ n1_ n2_ n3_ n4_ n5_; clear ho hb hg hat; have hcz31_0 : w30.cell? ⟨gb202, 0, none⟩ = some (.bool ((rd_T99 l0_0 a1).f0)) := (blk_cell BK202.out 0).trans rfl; have hcz31_1 : w30.cell? ⟨gb202, 1, none⟩ = some (.int .i64 ((rd_T99 l0_0 a1).f1)) := (blk_cell BK202.out 1).trans rfl; have hcz31_2 : w30.cell? ⟨gb202, 2, none⟩ = some (.int .i64 ((rd_T99 l0_0 a1).f2)) := (blk_cell BK202.out 2).trans rfl; have hcz31_3 : w30.cell? ⟨gb202, 3, none⟩ = some (.int .i64 ((rd_T99 l0_0 a1).f3)) := (blk_cell BK202.out 3).trans rfl; have hcz31_4 : w30.cell? ⟨gb202, 4, none⟩ = some (.int .i64 ((rd_T99 l0_0 a1).f4)) := (blk_cell BK202.out 4).trans rfl; have hcz31_5 : w30.cell? ⟨gb202, 5, none⟩ = some (.int .i64 ((rd_T99 l0_0 a1).f5)) := (blk_cell BK202.out 5).trans rfl; have hcz31_6 : w30.cell? ⟨gb202, 6, none⟩ = some (.int .i64 ((rd_T99 l0_0 a1).f6)) := (blk_cell BK202.out 6).trans rfl; have hfz31_0 := blk_frozen BK202.out 0; have hfz31_1 := blk_frozen BK202.out 1; have hfz31_2 := blk_frozen BK202.out 2; have hfz31_3 := blk_frozen BK202.out 3; have hfz31_4 := blk_frozen BK202.out 4; have hfz31_5 := blk_frozen BK202.out 5; have hfz31_6 := blk_frozen BK202.out 6)); try go_wp2_with (first | ((with_reducible refine gate_builtin (b := .append) (xs := #[.tmp 37, .tmp 42]) rfl ?_); at_builtin; refine Kd.R_append k90 (w0 := w0) w0.heap.size rfl (.tmp 37) (.tmp 42) 34 90 (.agg #[(.int .i64 0), (.int .i64 0)]) 16 rfl Try.underlying34 info90 rfl (by decide) (by omega) u9000_ l3 (⟨((rd_T99 l0_0 a1).f1), a2⟩ : S90) [.int .i64 ((rd_T99 l0_0 a1).f1), .int .i64 a2] (fun k_ => ((P3_ k_ ∨ P4_ k_) ∨ w.heap.size ≤ k_)) (fun _ => False) rfl rfl ?aP (fun _ hk => hk.elim) ?aF ?aO ?aB ?aS ?aL ?_; (case aP => exact k90_mkM _ _ _ (⟨((rd_T99 l0_0 a1).f1), a2⟩ : S90)); (case aB => exact (by repeat (first | (with_reducible first | exact HB.out | apply below_alloc | apply pw_below_drewN | apply below_drew1 | refine below_set ?_ GE200.out | refine below_set ?_ GE202.out) | exact HB.out))); (case aF => exact (fun k_ hk => (.inr (Nat.le_trans (by first | exact HK.out.1 | exact (show Kept w _ (fun k_ => P3_ k_ ∨ P4_ k_) from by repeat (first | (with_reducible first | exact HK.out | apply Kept.alloc | apply Kept.drewN | apply Kept.drew | refine Kept.setCell ?_ (.inr GW200.out) _ | refine Kept.setCell ?_ (.inr GW202.out) _) | exact HK.out)).1) hk)))); (case aO => exact (by (with_reducible repeat (first | apply Kd.R_alloc | apply Kd.R_drewN | apply Kd.R_drew)); exact HO_3.out)); (case aS => exact (below_size (by repeat (first | (with_reducible first | exact HB.out | apply below_alloc | apply pw_below_drewN | apply below_drew1 | refine below_set ?_ GE200.out | refine below_set ?_ GE202.out) | exact HB.out)))); (case aL => have := LMc25.out; omega); intro v205 w29 ho hb hg hat; rw [← Ny204.out] at ho; have n0_ := Aside0.mk (Kd.R_over' (by (with_reducible repeat (first | apply Kd.R_alloc | apply Kd.R_drewN | apply Kd.R_drew)); exact HO_4.out) (Kd.R_typed (by (with_reducible repeat (first | apply Kd.R_alloc | apply Kd.R_drewN | apply Kd.R_drew)); exact HO_3.out)) (by decide) hg); have n1_ := Aside0.mk (blk_grown (g := gb200) (o := .cells #[.slice (some ad201) l0_0.length c0_0] 29 (0, 0)) (by (with_reducible repeat (first | refine blk_drewN ?_ _ | refine blk_drew ?_ | refine blk_alloc ?_ _)); exact BK200.out) hg (Kd.R_ne HO_3.out BK200.out (by decide))); have n2_ := Aside0.mk (blk_grown (g := gb202) (o := .cells #[.bool ((rd_T99 l0_0 a1).f0), .int .i64 ((rd_T99 l0_0 a1).f1), .int .i64 ((rd_T99 l0_0 a1).f2), .int .i64 ((rd_T99 l0_0 a1).f3), .int .i64 ((rd_T99 l0_0 a1).f4), .int .i64 ((rd_T99 l0_0 a1).f5), .int .i64 ((rd_T99 l0_0 a1).f6)] 99 (0, 0)) (by (with_reducible repeat (first | refine blk_drewN ?_ _ | refine blk_drew ?_ | refine blk_alloc ?_ _)); exact BK202.out) hg (Kd.R_ne HO_3.out BK202.out (by decide))); have n3_ := Aside0.mk (hb); have n4_ := Aside0.mk (Kept.of_grown (S := (fun k_ => P3_ k_ ∨ P4_ k_)) hg (by repeat (first | (with_reducible first | exact HK.out | apply Kept.alloc | apply Kept.drewN | apply Kept.drew | refine Kept.setCell ?_ (.inr GW200.out) _ | refine Kept.setCell ?_ (.inr GW202.out) _) | exact HK.out)) (fun k_ e_ => (HO_3.out.1 k_ e_))); have n5_ := Aside0.mk (ho); clear HO_4; clear BK200; clear BK202; clear HB; clear HK; clear HO_3; have HO_4 := n0_; have BK200 := n1_; have BK202 := n2_; have HB := n3_; have HK := n4_; have HO206 := n5_; clear n0_ n1_ n2_ n3_ n4_ n5_; clear ho hb hg hat) | ((with_reducible refine gate_builtin (b := .append) (xs := #[.tmp 44, .tmp 46]) rfl ?_); at_builtin; refine Kd.R_append (Kd.int .i64) (w0 := w0) w0.heap.size rfl (.tmp 44) (.tmp 46) 39 3 (.int .i64 0) 8 rfl Try.underlying39 info3 rfl (by decide) (by omega) u9001_ l4 a1 [.int .i64 a1] (fun k_ => ((P3_ k_ ∨ P4_ k_) ∨ w.heap.size ≤ k_)) (fun _ => False) rfl rfl ?aP (fun _ hk => hk.elim) ?aF ?aO ?aB ?aS ?aL ?_; (case aP => exact rfl); (case aB => exact (by repeat (first | (with_reducible first | exact HB.out | apply below_alloc | apply pw_below_drewN | apply below_drew1 | refine below_set ?_ GE200.out | refine below_set ?_ GE202.out) | exact HB.out))); (case aF => exact (fun k_ hk => (.inr (Nat.le_trans (by first | exact HK.out.1 | exact (show Kept w _ (fun k_ => P3_ k_ ∨ P4_ k_) from by repeat (first | (with_reducible first | exact HK.out | apply Kept.alloc | apply Kept.drewN | apply Kept.drew | refine Kept.setCell ?_ (.inr GW200.out) _ | refine Kept.setCell ?_ (.inr GW202.out) _) | exact HK.out)).1) hk)))); (case aO => exact (by (with_reducible repeat (first | apply Kd.R_alloc | apply Kd.R_drewN | apply Kd.R_drew)); exact HO_4.out)); (case aS => exact (below_size (by repeat (first | (with_reducible first | exact HB.out | apply below_alloc | apply pw_below_drewN | apply below_drew1 | refine below_set ?_ GE200.out | refine below_set ?_ GE202.out) | exact HB.out)))); (case aL => have := LMc26.out; omega); intro v208 w30 ho hb hg hat; rw [← Ny207.out] at ho; have n0_ := Aside0.mk (blk_grown (g := gb200) (o := .cells #[.slice (some ad201) l0_0.length c0_0] 29 (0, 0)) (by (with_reducible repeat (first | refine blk_drewN ?_ _ | refine blk_drew ?_ | refine blk_alloc ?_ _)); exact BK200.out) hg (Kd.R_ne HO_4.out BK200.out (by decide))); have n1_ := Aside0.mk (blk_grown (g := gb202) (o := .cells #[.bool ((rd_T99 l0_0 a1).f0), .int .i64 ((rd_T99 l0_0 a1).f1), .int .i64 ((rd_T99 l0_0 a1).f2), .int .i64 ((rd_T99 l0_0 a1).f3), .int .i64 ((rd_T99 l0_0 a1).f4), .int .i64 ((rd_T99 l0_0 a1).f5), .int .i64 ((rd_T99 l0_0 a1).f6)] 99 (0, 0)) (by (with_reducible repeat (first | refine blk_drewN ?_ _ | refine blk_drew ?_ | refine blk_alloc ?_ _)); exact BK202.out) hg (Kd.R_ne HO_4.out BK202.out (by decide))); have n2_ := Aside0.mk (Kd.R_over' (by (with_reducible repeat (first | apply Kd.R_alloc | apply Kd.R_drewN | apply Kd.R_drew)); exact HO206.out) (Kd.R_typed (by (with_reducible repeat (first | apply Kd.R_alloc | apply Kd.R_drewN | apply Kd.R_drew)); exact HO_4.out)) (by decide) hg); have n3_ := Aside0.mk (hb); have n4_ := Aside0.mk (Kept.of_grown (S := (fun k_ => P3_ k_ ∨ P4_ k_)) hg (by repeat (first | (with_reducible first | exact HK.out | apply Kept.alloc | apply Kept.drewN | apply Kept.drew | refine Kept.setCell ?_ (.inr GW200.out) _ | refine Kept.setCell ?_ (.inr GW202.out) _) | exact HK.out)) (fun k_ e_ => (HO_4.out.1 k_ e_))); have n5_ := Aside0.mk (ho); clear BK200; clear BK202; clear HO206; clear HB; clear HK; clear HO_4; have BK200 := n0_; have BK202 := n1_; have HO206 := n2_; have HB := n3_; have HK := n4_; have HO209 := n5_; clear n0_ n1_ n2_ n3_ n4_ n5_; clear ho hb hg hat; have hcz31_0 : w30.cell? ⟨gb202, 0, none⟩ = some (.bool ((rd_T99 l0_0 a1).f0)) := (blk_cell BK202.out 0).trans rfl; have hcz31_1 : w30.cell? ⟨gb202, 1, none⟩ = some (.int .i64 ((rd_T99 l0_0 a1).f1)) := (blk_cell BK202.out 1).trans rfl; have hcz31_2 : w30.cell? ⟨gb202, 2, none⟩ = some (.int .i64 ((rd_T99 l0_0 a1).f2)) := (blk_cell BK202.out 2).trans rfl; have hcz31_3 : w30.cell? ⟨gb202, 3, none⟩ = some (.int .i64 ((rd_T99 l0_0 a1).f3)) := (blk_cell BK202.out 3).trans rfl; have hcz31_4 : w30.cell? ⟨gb202, 4, none⟩ = some (.int .i64 ((rd_T99 l0_0 a1).f4)) := (blk_cell BK202.out 4).trans rfl; have hcz31_5 : w30.cell? ⟨gb202, 5, none⟩ = some (.int .i64 ((rd_T99 l0_0 a1).f5)) := (blk_cell BK202.out 5).trans rfl; have hcz31_6 : w30.cell? ⟨gb202, 6, none⟩ = some (.int .i64 ((rd_T99 l0_0 a1).f6)) := (blk_cell BK202.out 6).trans rfl; have hfz31_0 := blk_frozen BK202.out 0; have hfz31_1 := blk_frozen BK202.out 1; have hfz31_2 := blk_frozen BK202.out 2; have hfz31_3 := blk_frozen BK202.out 3; have hfz31_4 := blk_frozen BK202.out 4; have hfz31_5 := blk_frozen BK202.out 5; have hfz31_6 := blk_frozen BK202.out 6)))
        go_loopg [3, 4, 14, 15] kj7 (fun kq v3 v4 v14 v15 w' => ∃ (x3_2 : List (S90)) (x4_2 : List Int) (x14_2 : Int) (x15_2 : Int), v14 = .int .i64 x14_2 ∧ v15 = .int .i64 x15_2 ∧ Aside0 (impl_Dom_visit.l0 kq a1 a2 x3_2 x4_2 x14_2 x15_2 l0_0 ((rd_T99 l0_0 a1).f0) ((rd_T99 l0_0 a1).f1) ((rd_T99 l0_0 a1).f2) ((rd_T99 l0_0 a1).f3) ((rd_T99 l0_0 a1).f4) ((rd_T99 l0_0 a1).f5) ((rd_T99 l0_0 a1).f6) = some (r1, r2, r3)) ∧ Aside0 (kq ≤ kj7) ∧ Aside0 (Kd.R k90 90 w' w0.heap.size (fun k_ => ((P3_ k_ ∨ P4_ k_) ∨ w.heap.size ≤ k_)) v3 x3_2) ∧ Aside0 (Kd.R (Kd.int .i64) 3 w' w0.heap.size (fun k_ => ((P3_ k_ ∨ P4_ k_) ∨ w.heap.size ≤ k_)) v4 x4_2) ∧ Aside0 (w'.heap[gb200]? = some (.cells #[(.slice (some ad201) l0_0.length c0_0)] 29 (0, 0))) ∧ Aside0 (w'.heap[gb202]? = some (.cells #[.bool ((rd_T99 l0_0 a1).f0), .int .i64 ((rd_T99 l0_0 a1).f1), .int .i64 ((rd_T99 l0_0 a1).f2), .int .i64 ((rd_T99 l0_0 a1).f3), .int .i64 ((rd_T99 l0_0 a1).f4), .int .i64 ((rd_T99 l0_0 a1).f5), .int .i64 ((rd_T99 l0_0 a1).f6)] 99 (0, 0))) ∧ Aside0 (Kept w w' (fun k_ => P3_ k_ ∨ P4_ k_)) ∧ Aside0 (Below w0.heap.size w0 w'))
        case atStart => exact ⟨(y204), (y207), ((-1)), (((rd_T99 l0_0 a1).f3)), (by first | rfl | (simp; done) | (simp [*]; done)), (by first | rfl | (simp; done) | (simp [*]; done)), H', ⟨Nat.le_refl _⟩, ⟨by (with_reducible repeat (first | apply Kd.R_alloc | apply Kd.R_drewN | apply Kd.R_drew)); exact HO206.out⟩, ⟨by (with_reducible repeat (first | apply Kd.R_alloc | apply Kd.R_drewN | apply Kd.R_drew)); exact HO209.out⟩, ⟨by (with_reducible repeat (first | refine blk_drewN ?_ _ | refine blk_drew ?_ | refine blk_alloc ?_ _)); exact BK200.out⟩, ⟨by (with_reducible repeat (first | refine blk_drewN ?_ _ | refine blk_drew ?_ | refine blk_alloc ?_ _)); exact BK202.out⟩, ⟨by repeat (first | (with_reducible first | exact HK.out | apply Kept.alloc | apply Kept.drewN | apply Kept.drew | refine Kept.setCell ?_ (.inr GW200.out) _ | refine Kept.setCell ?_ (.inr GW202.out) _) | exact HK.out)⟩, ⟨by repeat (first | (with_reducible first | exact HB.out | apply below_alloc | apply pw_below_drewN | apply below_drew1 | refine below_set ?_ GE200.out | refine below_set ?_ GE202.out) | exact HB.out)⟩⟩
        case round =>
         clear H'
         try clear c1
         try clear q1
         try clear c2
         try clear p2
         try clear q2
         try clear hx2
         try clear c6
         try clear c6b0
         try clear c7
         try clear c7b0
         try clear c11
         try clear c12
         try clear q14
         try clear c15
         try clear c17
         try clear c18
         try clear c20
         try clear p20
         try clear q20
         try clear hx20
         try clear c22
         try clear c24
         try clear c25
         try clear c26
         try clear c27
         try clear hcz10_0
         try clear hcz13_0
         try clear hcz13_1
         try clear hcz13_2
         try clear hcz13_3
         try clear hcz13_4
         try clear hcz13_5
         try clear hcz13_6
         try clear hcz19_0
         try clear hcz19_1
         try clear hcz19_2
         try clear hcz19_3
         try clear hcz19_4
         try clear hcz19_5
         try clear hcz19_6
         try clear hcz21_0
         try clear hcz21_1
         try clear hcz21_2
         try clear hcz21_3
         try clear hcz21_4
         try clear hcz21_5
         try clear hcz21_6
         try clear hcz23_0
         try clear hcz23_1
         try clear hcz23_2
         try clear hcz23_3
         try clear hcz23_4
         try clear hcz23_5
         try clear hcz23_6
         try clear hcz28_0
         try clear hcz28_1
         try clear hcz28_2
         try clear hcz28_3
         try clear hcz28_4
         try clear hcz28_5
         try clear hcz28_6
         try clear hcz31_0
         try clear hcz31_1
         try clear hcz31_2
         try clear hcz31_3
         try clear hcz31_4
         try clear hcz31_5
         try clear hcz31_6
         try clear hfz10_0
         try clear hfz13_0
         try clear hfz13_1
         try clear hfz13_2
         try clear hfz13_3
         try clear hfz13_4
         try clear hfz13_5
         try clear hfz13_6
         try clear hfz19_0
         try clear hfz19_1
         try clear hfz19_2
         try clear hfz19_3
         try clear hfz19_4
         try clear hfz19_5
         try clear hfz19_6
         try clear hfz21_0
         try clear hfz21_1
         try clear hfz21_2
         try clear hfz21_3
         try clear hfz21_4
         try clear hfz21_5
         try clear hfz21_6
         try clear hfz23_0
         try clear hfz23_1
         try clear hfz23_2
         try clear hfz23_3
         try clear hfz23_4
         try clear hfz23_5
         try clear hfz23_6
         try clear hfz28_0
         try clear hfz28_1
         try clear hfz28_2
         try clear hfz28_3
         try clear hfz28_4
         try clear hfz28_5
         try clear hfz28_6
         try clear hfz31_0
         try clear hfz31_1
         try clear hfz31_2
         try clear hfz31_3
         try clear hfz31_4
         try clear hfz31_5
         try clear hfz31_6
         try clear hx201_0
         try clear hx201_1
         try clear hx201_2
         try clear hx201_3
         try clear hx201_4
         try clear hx201_5
         try clear hx201_6
         try clear p2
         try clear p20
         try clear p201
         try clear q1
         try clear q14
         try clear q2
         try clear q20
         try clear q201
         obtain ⟨x3_2, x4_2, x14_2, x15_2, rfl, rfl, HA, HK2, HO_3, HO_4, BK200, BK202, HK, HB⟩ := hrel
         cases gk with
         | zero => exact absurd HA.out (by simp [impl_Dom_visit.l0])
         | succ k2 =>
          have H := HA.out
          clear HA
          simp only [impl_Dom_visit.l0] at H
          by_cases c32 : x15_2 = (-1)
          ·rw [if_pos c32] at H
           have c32b0 : (x15_2 == (-1)) = true := beq_iff_eq.mpr c32
           have c32b1 : (x15_2 != (-1)) = false := bne_eq_false_iff_eq.mpr c32
           clear c32
           simp only [Option.some.injEq, Prod.mk.injEq] at H
           obtain ⟨rfl, rfl, rfl⟩ := H
           have hnb33 := NB202_200.out
           have hnc33 := NB200_202.out
           have hcz34_0 : wr.cell? ⟨gb202, 0, none⟩ = some (.bool ((rd_T99 l0_0 a1).f0)) := (blk_cell BK202.out 0).trans rfl
           have hcz34_1 : wr.cell? ⟨gb202, 1, none⟩ = some (.int .i64 ((rd_T99 l0_0 a1).f1)) := (blk_cell BK202.out 1).trans rfl
           have hcz34_2 : wr.cell? ⟨gb202, 2, none⟩ = some (.int .i64 ((rd_T99 l0_0 a1).f2)) := (blk_cell BK202.out 2).trans rfl
           have hcz34_3 : wr.cell? ⟨gb202, 3, none⟩ = some (.int .i64 ((rd_T99 l0_0 a1).f3)) := (blk_cell BK202.out 3).trans rfl
           have hcz34_4 : wr.cell? ⟨gb202, 4, none⟩ = some (.int .i64 ((rd_T99 l0_0 a1).f4)) := (blk_cell BK202.out 4).trans rfl
           have hcz34_5 : wr.cell? ⟨gb202, 5, none⟩ = some (.int .i64 ((rd_T99 l0_0 a1).f5)) := (blk_cell BK202.out 5).trans rfl
           have hcz34_6 : wr.cell? ⟨gb202, 6, none⟩ = some (.int .i64 ((rd_T99 l0_0 a1).f6)) := (blk_cell BK202.out 6).trans rfl
           have hfz34_0 := blk_frozen BK202.out 0
           have hfz34_1 := blk_frozen BK202.out 1
           have hfz34_2 := blk_frozen BK202.out 2
           have hfz34_3 := blk_frozen BK202.out 3
           have hfz34_4 := blk_frozen BK202.out 4
           have hfz34_5 := blk_frozen BK202.out 5
           have hfz34_6 := blk_frozen BK202.out 6
           go_wp2
           repeat (go_quiet (fail); try go_wp2)
           go_ret3
           exact ⟨_, _, by first | rfl | (simp [errW_none, errW_some] <;> rfl) | (simp [*, errW_none, errW_some] <;> rfl), by (with_reducible repeat (first | apply Kd.R_alloc | apply Kd.R_drewN | apply Kd.R_drew)); exact HO_3.out, by (with_reducible repeat (first | apply Kd.R_alloc | apply Kd.R_drewN | apply Kd.R_drew)); exact HO_4.out, by repeat (first | (with_reducible first | exact HB.out | apply below_alloc | apply pw_below_drewN | apply below_drew1 | refine below_set ?_ GE200.out | refine below_set ?_ GE202.out) | exact HB.out), by repeat (first | (with_reducible first | exact HK.out | apply Kept.alloc | apply Kept.drewN | apply Kept.drew | refine Kept.setCell ?_ (.inr GW200.out) _ | refine Kept.setCell ?_ (.inr GW202.out) _) | exact HK.out)⟩
          ·rw [if_neg c32] at H
           have c32b0 : (x15_2 == (-1)) = false := beq_eq_false_iff_ne.mpr c32
           have c32b1 : (x15_2 != (-1)) = true := bne_iff_ne.mpr c32
           have HC35 := Aside0.mk H
           clear H
           go_upto_region 9 with (fail)
           repeat (go_quiet (fail); go_upto_region 9 with (fail))
           go_cut [89] (fun v89 wc => ∃ (kq : Nat) (x89_34 : Bool), v89 = .bool x89_34 ∧ Aside0 (impl_Dom_visit.j2 kq a1 a2 x3_2 x4_2 x15_2 x89_34 l0_0 ((rd_T99 l0_0 a1).f0) ((rd_T99 l0_0 a1).f1) ((rd_T99 l0_0 a1).f2) ((rd_T99 l0_0 a1).f3) ((rd_T99 l0_0 a1).f4) ((rd_T99 l0_0 a1).f5) ((rd_T99 l0_0 a1).f6) = some (r1, r2, r3)) ∧ Aside0 (kq ≤ k2) ∧ Aside0 (Kd.R k90 90 wc w0.heap.size (fun k_ => ((P3_ k_ ∨ P4_ k_) ∨ w.heap.size ≤ k_)) u3 x3_2) ∧ Aside0 (Kd.R (Kd.int .i64) 3 wc w0.heap.size (fun k_ => ((P3_ k_ ∨ P4_ k_) ∨ w.heap.size ≤ k_)) u4 x4_2) ∧ Aside0 (wc.heap[gb200]? = some (.cells #[(.slice (some ad201) l0_0.length c0_0)] 29 (0, 0))) ∧ Aside0 (wc.heap[gb202]? = some (.cells #[.bool ((rd_T99 l0_0 a1).f0), .int .i64 ((rd_T99 l0_0 a1).f1), .int .i64 ((rd_T99 l0_0 a1).f2), .int .i64 ((rd_T99 l0_0 a1).f3), .int .i64 ((rd_T99 l0_0 a1).f4), .int .i64 ((rd_T99 l0_0 a1).f5), .int .i64 ((rd_T99 l0_0 a1).f6)] 99 (0, 0))) ∧ Aside0 (Kept w wc (fun k_ => P3_ k_ ∨ P4_ k_)) ∧ Aside0 (Below w0.heap.size w0 wc))
           case first =>
            have H := HC35.out
            clear HC35
            replace H := Option.bind_eq_some_iff.mp H
            obtain ⟨t210, A360, H⟩ := H
            replace H : (if t210 = true then ((slices_Contains_int_int.f k2 x4_2 x15_2).bind fun t211 => (if t211 = true then (impl_Dom_visit.j2 k2 a1 a2 x3_2 x4_2 x15_2 true l0_0 ((rd_T99 l0_0 a1).f0) ((rd_T99 l0_0 a1).f1) ((rd_T99 l0_0 a1).f2) ((rd_T99 l0_0 a1).f3) ((rd_T99 l0_0 a1).f4) ((rd_T99 l0_0 a1).f5) ((rd_T99 l0_0 a1).f6)) else (if 0 ≤ x15_2 then (if x15_2 < (l0_0.length : Int) then (if ((rd_T99 l0_0 x15_2).f2) = a1 then (impl_Dom_visit.j2 k2 a1 a2 x3_2 x4_2 x15_2 (((rd_T99 l0_0 x15_2).f5) != x14_2) l0_0 ((rd_T99 l0_0 a1).f0) ((rd_T99 l0_0 a1).f1) ((rd_T99 l0_0 a1).f2) ((rd_T99 l0_0 a1).f3) ((rd_T99 l0_0 a1).f4) ((rd_T99 l0_0 a1).f5) ((rd_T99 l0_0 a1).f6)) else (impl_Dom_visit.j2 k2 a1 a2 x3_2 x4_2 x15_2 true l0_0 ((rd_T99 l0_0 a1).f0) ((rd_T99 l0_0 a1).f1) ((rd_T99 l0_0 a1).f2) ((rd_T99 l0_0 a1).f3) ((rd_T99 l0_0 a1).f4) ((rd_T99 l0_0 a1).f5) ((rd_T99 l0_0 a1).f6))) else (none)) else (none)))) else (impl_Dom_visit.j2 k2 a1 a2 x3_2 x4_2 x15_2 true l0_0 ((rd_T99 l0_0 a1).f0) ((rd_T99 l0_0 a1).f1) ((rd_T99 l0_0 a1).f2) ((rd_T99 l0_0 a1).f3) ((rd_T99 l0_0 a1).f4) ((rd_T99 l0_0 a1).f5) ((rd_T99 l0_0 a1).f6))) = some (r1, r2, r3) := H
            have A36 := Aside0.mk A360
            clear A360
            by_cases c37 : t210 = true
            ·subst c37
             have H1 : ((slices_Contains_int_int.f k2 x4_2 x15_2).bind fun t211 => (if t211 = true then (impl_Dom_visit.j2 k2 a1 a2 x3_2 x4_2 x15_2 true l0_0 ((rd_T99 l0_0 a1).f0) ((rd_T99 l0_0 a1).f1) ((rd_T99 l0_0 a1).f2) ((rd_T99 l0_0 a1).f3) ((rd_T99 l0_0 a1).f4) ((rd_T99 l0_0 a1).f5) ((rd_T99 l0_0 a1).f6)) else (if 0 ≤ x15_2 then (if x15_2 < (l0_0.length : Int) then (if ((rd_T99 l0_0 x15_2).f2) = a1 then (impl_Dom_visit.j2 k2 a1 a2 x3_2 x4_2 x15_2 (((rd_T99 l0_0 x15_2).f5) != x14_2) l0_0 ((rd_T99 l0_0 a1).f0) ((rd_T99 l0_0 a1).f1) ((rd_T99 l0_0 a1).f2) ((rd_T99 l0_0 a1).f3) ((rd_T99 l0_0 a1).f4) ((rd_T99 l0_0 a1).f5) ((rd_T99 l0_0 a1).f6)) else (impl_Dom_visit.j2 k2 a1 a2 x3_2 x4_2 x15_2 true l0_0 ((rd_T99 l0_0 a1).f0) ((rd_T99 l0_0 a1).f1) ((rd_T99 l0_0 a1).f2) ((rd_T99 l0_0 a1).f3) ((rd_T99 l0_0 a1).f4) ((rd_T99 l0_0 a1).f5) ((rd_T99 l0_0 a1).f6))) else (none)) else (none)))) = some (r1, r2, r3) := by rw [if_pos rfl] at H; exact H
             clear H
             have H := H1
             clear H1
             replace H := Option.bind_eq_some_iff.mp H
             obtain ⟨t211, A380, H⟩ := H
             replace H : (if t211 = true then (impl_Dom_visit.j2 k2 a1 a2 x3_2 x4_2 x15_2 true l0_0 ((rd_T99 l0_0 a1).f0) ((rd_T99 l0_0 a1).f1) ((rd_T99 l0_0 a1).f2) ((rd_T99 l0_0 a1).f3) ((rd_T99 l0_0 a1).f4) ((rd_T99 l0_0 a1).f5) ((rd_T99 l0_0 a1).f6)) else (if 0 ≤ x15_2 then (if x15_2 < (l0_0.length : Int) then (if ((rd_T99 l0_0 x15_2).f2) = a1 then (impl_Dom_visit.j2 k2 a1 a2 x3_2 x4_2 x15_2 (((rd_T99 l0_0 x15_2).f5) != x14_2) l0_0 ((rd_T99 l0_0 a1).f0) ((rd_T99 l0_0 a1).f1) ((rd_T99 l0_0 a1).f2) ((rd_T99 l0_0 a1).f3) ((rd_T99 l0_0 a1).f4) ((rd_T99 l0_0 a1).f5) ((rd_T99 l0_0 a1).f6)) else (impl_Dom_visit.j2 k2 a1 a2 x3_2 x4_2 x15_2 true l0_0 ((rd_T99 l0_0 a1).f0) ((rd_T99 l0_0 a1).f1) ((rd_T99 l0_0 a1).f2) ((rd_T99 l0_0 a1).f3) ((rd_T99 l0_0 a1).f4) ((rd_T99 l0_0 a1).f5) ((rd_T99 l0_0 a1).f6))) else (none)) else (none))) = some (r1, r2, r3) := H
             have A38 := Aside0.mk A380
             clear A380
             by_cases c39 : t211 = true
             ·subst c39
              have H1 : (impl_Dom_visit.j2 k2 a1 a2 x3_2 x4_2 x15_2 true l0_0 ((rd_T99 l0_0 a1).f0) ((rd_T99 l0_0 a1).f1) ((rd_T99 l0_0 a1).f2) ((rd_T99 l0_0 a1).f3) ((rd_T99 l0_0 a1).f4) ((rd_T99 l0_0 a1).f5) ((rd_T99 l0_0 a1).f6)) = some (r1, r2, r3) := by rw [if_pos rfl] at H; exact H
              clear H
              have H := H1
              clear H1
              have H' := Aside0.mk H
              clear H
              have hnb40 := NB200_202.out
              have hnc40 := NB202_200.out
              have hcz41_0 : wr.cell? ⟨gb200, 0, none⟩ = some (.slice (some ad201) l0_0.length c0_0) := (blk_cell BK200.out 0).trans rfl
              have hfz41_0 := blk_frozen BK200.out 0
              go_wp2_with (first | (go_at_call 117; (with_reducible refine (impl_within.calls x15_2 0 (wrap64 ((l0_0.length : Int) - 1)) true _ A36.out).mono ?_); rintro e w' ⟨rfl, ⟨nd, rfl⟩⟩; (try first | exact ⟨rfl, _, World.drewN_drewN _ _ _⟩ | exact ⟨rfl, _, Eq.trans (World.drewN_drewN _ _ _) (congrArg (World.drewN _) (Nat.add_assoc _ _ _))⟩); obtain ⟨Ao42, co42, eo42⟩ := Kd.R_slice HO_4.out; subst eo42) | (go_at_call 119; (with_reducible refine (slices_Contains_int_int.calls k2 _ _ x4_2 x15_2 true _ ?side1 ?side2 A38.out).mono ?_); (case side1 => repeat (first | exact (Kd.R_reads' HO_4.out).2.2 | (with_reducible refine Kd.C_alloc ?_ _) | (with_reducible refine Kd.C_drewN ?_ _) | (with_reducible refine Kd.C_drew ?_))); (case side2 => exact (Kd.R_reads' HO_4.out).2.1); rintro e w' ⟨rfl, ⟨nd, rfl⟩⟩; (try first | exact ⟨rfl, _, World.drewN_drewN _ _ _⟩ | exact ⟨rfl, _, Eq.trans (World.drewN_drewN _ _ _) (congrArg (World.drewN _) (Nat.add_assoc _ _ _))⟩)))
              repeat (go_quiet (first | (go_at_call 117; (with_reducible refine (impl_within.calls x15_2 0 (wrap64 ((l0_0.length : Int) - 1)) true _ A36.out).mono ?_); rintro e w' ⟨rfl, ⟨nd, rfl⟩⟩; (try first | exact ⟨rfl, _, World.drewN_drewN _ _ _⟩ | exact ⟨rfl, _, Eq.trans (World.drewN_drewN _ _ _) (congrArg (World.drewN _) (Nat.add_assoc _ _ _))⟩); obtain ⟨Ao42, co42, eo42⟩ := Kd.R_slice HO_4.out; subst eo42) | (go_at_call 119; (with_reducible refine (slices_Contains_int_int.calls k2 _ _ x4_2 x15_2 true _ ?side1 ?side2 A38.out).mono ?_); (case side1 => repeat (first | exact (Kd.R_reads' HO_4.out).2.2 | (with_reducible refine Kd.C_alloc ?_ _) | (with_reducible refine Kd.C_drewN ?_ _) | (with_reducible refine Kd.C_drew ?_))); (case side2 => exact (Kd.R_reads' HO_4.out).2.1); rintro e w' ⟨rfl, ⟨nd, rfl⟩⟩; (try first | exact ⟨rfl, _, World.drewN_drewN _ _ _⟩ | exact ⟨rfl, _, Eq.trans (World.drewN_drewN _ _ _) (congrArg (World.drewN _) (Nat.add_assoc _ _ _))⟩))); try go_wp2_with (first | (go_at_call 117; (with_reducible refine (impl_within.calls x15_2 0 (wrap64 ((l0_0.length : Int) - 1)) true _ A36.out).mono ?_); rintro e w' ⟨rfl, ⟨nd, rfl⟩⟩; (try first | exact ⟨rfl, _, World.drewN_drewN _ _ _⟩ | exact ⟨rfl, _, Eq.trans (World.drewN_drewN _ _ _) (congrArg (World.drewN _) (Nat.add_assoc _ _ _))⟩); obtain ⟨Ao42, co42, eo42⟩ := Kd.R_slice HO_4.out; subst eo42) | (go_at_call 119; (with_reducible refine (slices_Contains_int_int.calls k2 _ _ x4_2 x15_2 true _ ?side1 ?side2 A38.out).mono ?_); (case side1 => repeat (first | exact (Kd.R_reads' HO_4.out).2.2 | (with_reducible refine Kd.C_alloc ?_ _) | (with_reducible refine Kd.C_drewN ?_ _) | (with_reducible refine Kd.C_drew ?_))); (case side2 => exact (Kd.R_reads' HO_4.out).2.1); rintro e w' ⟨rfl, ⟨nd, rfl⟩⟩; (try first | exact ⟨rfl, _, World.drewN_drewN _ _ _⟩ | exact ⟨rfl, _, Eq.trans (World.drewN_drewN _ _ _) (congrArg (World.drewN _) (Nat.add_assoc _ _ _))⟩))))
              go_meet
              case rel => exact ⟨_, (true), (by first | rfl | (simp; done) | (simp [*]; done)), H', ⟨by have := HJ7.out; have := HK2.out; first | omega | exact Nat.le_refl _⟩, ⟨by (with_reducible repeat (first | apply Kd.R_alloc | apply Kd.R_drewN | apply Kd.R_drew)); exact HO_3.out⟩, ⟨by (with_reducible repeat (first | apply Kd.R_alloc | apply Kd.R_drewN | apply Kd.R_drew)); exact HO_4.out⟩, ⟨by (with_reducible repeat (first | refine blk_drewN ?_ _ | refine blk_drew ?_ | refine blk_alloc ?_ _)); exact BK200.out⟩, ⟨by (with_reducible repeat (first | refine blk_drewN ?_ _ | refine blk_drew ?_ | refine blk_alloc ?_ _)); exact BK202.out⟩, ⟨by repeat (first | (with_reducible first | exact HK.out | apply Kept.alloc | apply Kept.drewN | apply Kept.drew | refine Kept.setCell ?_ (.inr GW200.out) _ | refine Kept.setCell ?_ (.inr GW202.out) _) | exact HK.out)⟩, ⟨by repeat (first | (with_reducible first | exact HB.out | apply below_alloc | apply pw_below_drewN | apply below_drew1 | refine below_set ?_ GE200.out | refine below_set ?_ GE202.out) | exact HB.out)⟩⟩
             ·replace c39 := Bool.eq_false_iff.mpr c39
              subst c39
              have H1 : (if 0 ≤ x15_2 then (if x15_2 < (l0_0.length : Int) then (if ((rd_T99 l0_0 x15_2).f2) = a1 then (impl_Dom_visit.j2 k2 a1 a2 x3_2 x4_2 x15_2 (((rd_T99 l0_0 x15_2).f5) != x14_2) l0_0 ((rd_T99 l0_0 a1).f0) ((rd_T99 l0_0 a1).f1) ((rd_T99 l0_0 a1).f2) ((rd_T99 l0_0 a1).f3) ((rd_T99 l0_0 a1).f4) ((rd_T99 l0_0 a1).f5) ((rd_T99 l0_0 a1).f6)) else (impl_Dom_visit.j2 k2 a1 a2 x3_2 x4_2 x15_2 true l0_0 ((rd_T99 l0_0 a1).f0) ((rd_T99 l0_0 a1).f1) ((rd_T99 l0_0 a1).f2) ((rd_T99 l0_0 a1).f3) ((rd_T99 l0_0 a1).f4) ((rd_T99 l0_0 a1).f5) ((rd_T99 l0_0 a1).f6))) else (none)) else (none)) = some (r1, r2, r3) := by rw [if_neg (show ¬ (false = true) by decide)] at H; exact H
              clear H
              have H := H1
              clear H1
              by_cases c43 : 0 ≤ x15_2
              ·rw [if_pos c43] at H
               have c43b0 : decide (0 ≤ x15_2) = true := decide_eq_true c43
               clear c43
               (first | rw [c43b0] | (simp only [i64_w, i32_w]; rw [c43b0]) | skip)
               by_cases c44 : x15_2 < (l0_0.length : Int)
               ·rw [if_pos c44] at H
                have c44b0 : decide (x15_2 < (l0_0.length : Int)) = true := decide_eq_true c44
                clear c44
                by_cases c45 : ((rd_T99 l0_0 x15_2).f2) = a1
                ·rw [if_pos c45] at H
                 have c45b0 : (((rd_T99 l0_0 x15_2).f2) == a1) = true := beq_iff_eq.mpr c45
                 have c45b1 : (((rd_T99 l0_0 x15_2).f2) != a1) = false := bne_eq_false_iff_eq.mpr c45
                 clear c45
                 have H' := Aside0.mk H
                 clear H
                 have hnb46 := NB200_202.out
                 have hnc46 := NB202_200.out
                 have hcz47_0 : wr.cell? ⟨gb200, 0, none⟩ = some (.slice (some ad201) l0_0.length c0_0) := (blk_cell BK200.out 0).trans rfl
                 have hfz47_0 := blk_frozen BK200.out 0
                 go_wp2_with (first | (go_at_call 117; (with_reducible refine (impl_within.calls x15_2 0 (wrap64 ((l0_0.length : Int) - 1)) true _ A36.out).mono ?_); rintro e w' ⟨rfl, ⟨nd, rfl⟩⟩; (try first | exact ⟨rfl, _, World.drewN_drewN _ _ _⟩ | exact ⟨rfl, _, Eq.trans (World.drewN_drewN _ _ _) (congrArg (World.drewN _) (Nat.add_assoc _ _ _))⟩); obtain ⟨Ao48, co48, eo48⟩ := Kd.R_slice HO_4.out; subst eo48) | (go_at_call 119; (with_reducible refine (slices_Contains_int_int.calls k2 _ _ x4_2 x15_2 false _ ?side1 ?side2 A38.out).mono ?_); (case side1 => repeat (first | exact (Kd.R_reads' HO_4.out).2.2 | (with_reducible refine Kd.C_alloc ?_ _) | (with_reducible refine Kd.C_drewN ?_ _) | (with_reducible refine Kd.C_drew ?_))); (case side2 => exact (Kd.R_reads' HO_4.out).2.1); rintro e w' ⟨rfl, ⟨nd, rfl⟩⟩; (try first | exact ⟨rfl, _, World.drewN_drewN _ _ _⟩ | exact ⟨rfl, _, Eq.trans (World.drewN_drewN _ _ _) (congrArg (World.drewN _) (Nat.add_assoc _ _ _))⟩); have p212 : 0 ≤ (x15_2 : Int) := of_decide_eq_true (by first | (with_reducible assumption) | assumption); have q212 : x15_2 < (l0_0.length : Int) := of_decide_eq_true (by first | (with_reducible assumption) | assumption); obtain ⟨ad212, e212, hx212_0, hx212_1, hx212_2, hx212_3, hx212_4, hx212_5, hx212_6⟩ := at_T99 (Kd.C_kept_now HR0_0.out HK.out) x15_2 p212 q212; obtain rfl : ad201 = ad212 := (by injection e212); replace p212 := eq_true p212; replace q212 := eq_true q212; have p213 : 0 ≤ (x15_2 : Int) := of_decide_eq_true (by first | (with_reducible assumption) | assumption); have q213 : x15_2 < (l0_0.length : Int) := of_decide_eq_true (by first | (with_reducible assumption) | assumption); obtain ⟨ad213, e213, hx213_0, hx213_1, hx213_2, hx213_3, hx213_4, hx213_5, hx213_6⟩ := at_T99 (Kd.C_kept_now HR0_0.out HK.out) x15_2 p213 q213; obtain rfl : ad201 = ad213 := (by injection e213); replace p213 := eq_true p213; replace q213 := eq_true q213))
                 repeat (go_quiet (first | (go_at_call 117; (with_reducible refine (impl_within.calls x15_2 0 (wrap64 ((l0_0.length : Int) - 1)) true _ A36.out).mono ?_); rintro e w' ⟨rfl, ⟨nd, rfl⟩⟩; (try first | exact ⟨rfl, _, World.drewN_drewN _ _ _⟩ | exact ⟨rfl, _, Eq.trans (World.drewN_drewN _ _ _) (congrArg (World.drewN _) (Nat.add_assoc _ _ _))⟩); obtain ⟨Ao48, co48, eo48⟩ := Kd.R_slice HO_4.out; subst eo48) | (go_at_call 119; (with_reducible refine (slices_Contains_int_int.calls k2 _ _ x4_2 x15_2 false _ ?side1 ?side2 A38.out).mono ?_); (case side1 => repeat (first | exact (Kd.R_reads' HO_4.out).2.2 | (with_reducible refine Kd.C_alloc ?_ _) | (with_reducible refine Kd.C_drewN ?_ _) | (with_reducible refine Kd.C_drew ?_))); (case side2 => exact (Kd.R_reads' HO_4.out).2.1); rintro e w' ⟨rfl, ⟨nd, rfl⟩⟩; (try first | exact ⟨rfl, _, World.drewN_drewN _ _ _⟩ | exact ⟨rfl, _, Eq.trans (World.drewN_drewN _ _ _) (congrArg (World.drewN _) (Nat.add_assoc _ _ _))⟩); have p212 : 0 ≤ (x15_2 : Int) := of_decide_eq_true (by first | (with_reducible assumption) | assumption); have q212 : x15_2 < (l0_0.length : Int) := of_decide_eq_true (by first | (with_reducible assumption) | assumption); obtain ⟨ad212, e212, hx212_0, hx212_1, hx212_2, hx212_3, hx212_4, hx212_5, hx212_6⟩ := at_T99 (Kd.C_kept_now HR0_0.out HK.out) x15_2 p212 q212; obtain rfl : ad201 = ad212 := (by injection e212); replace p212 := eq_true p212; replace q212 := eq_true q212; have p213 : 0 ≤ (x15_2 : Int) := of_decide_eq_true (by first | (with_reducible assumption) | assumption); have q213 : x15_2 < (l0_0.length : Int) := of_decide_eq_true (by first | (with_reducible assumption) | assumption); obtain ⟨ad213, e213, hx213_0, hx213_1, hx213_2, hx213_3, hx213_4, hx213_5, hx213_6⟩ := at_T99 (Kd.C_kept_now HR0_0.out HK.out) x15_2 p213 q213; obtain rfl : ad201 = ad213 := (by injection e213); replace p213 := eq_true p213; replace q213 := eq_true q213)); try go_wp2_with (first | (go_at_call 117; (with_reducible refine (impl_within.calls x15_2 0 (wrap64 ((l0_0.length : Int) - 1)) true _ A36.out).mono ?_); rintro e w' ⟨rfl, ⟨nd, rfl⟩⟩; (try first | exact ⟨rfl, _, World.drewN_drewN _ _ _⟩ | exact ⟨rfl, _, Eq.trans (World.drewN_drewN _ _ _) (congrArg (World.drewN _) (Nat.add_assoc _ _ _))⟩); obtain ⟨Ao48, co48, eo48⟩ := Kd.R_slice HO_4.out; subst eo48) | (go_at_call 119; (with_reducible refine (slices_Contains_int_int.calls k2 _ _ x4_2 x15_2 false _ ?side1 ?side2 A38.out).mono ?_); (case side1 => repeat (first | exact (Kd.R_reads' HO_4.out).2.2 | (with_reducible refine Kd.C_alloc ?_ _) | (with_reducible refine Kd.C_drewN ?_ _) | (with_reducible refine Kd.C_drew ?_))); (case side2 => exact (Kd.R_reads' HO_4.out).2.1); rintro e w' ⟨rfl, ⟨nd, rfl⟩⟩; (try first | exact ⟨rfl, _, World.drewN_drewN _ _ _⟩ | exact ⟨rfl, _, Eq.trans (World.drewN_drewN _ _ _) (congrArg (World.drewN _) (Nat.add_assoc _ _ _))⟩); have p212 : 0 ≤ (x15_2 : Int) := of_decide_eq_true (by first | (with_reducible assumption) | assumption); have q212 : x15_2 < (l0_0.length : Int) := of_decide_eq_true (by first | (with_reducible assumption) | assumption); obtain ⟨ad212, e212, hx212_0, hx212_1, hx212_2, hx212_3, hx212_4, hx212_5, hx212_6⟩ := at_T99 (Kd.C_kept_now HR0_0.out HK.out) x15_2 p212 q212; obtain rfl : ad201 = ad212 := (by injection e212); replace p212 := eq_true p212; replace q212 := eq_true q212; have p213 : 0 ≤ (x15_2 : Int) := of_decide_eq_true (by first | (with_reducible assumption) | assumption); have q213 : x15_2 < (l0_0.length : Int) := of_decide_eq_true (by first | (with_reducible assumption) | assumption); obtain ⟨ad213, e213, hx213_0, hx213_1, hx213_2, hx213_3, hx213_4, hx213_5, hx213_6⟩ := at_T99 (Kd.C_kept_now HR0_0.out HK.out) x15_2 p213 q213; obtain rfl : ad201 = ad213 := (by injection e213); replace p213 := eq_true p213; replace q213 := eq_true q213)))
                 go_meet
                 case rel => exact ⟨_, ((((rd_T99 l0_0 x15_2).f5) != x14_2)), (by first | rfl | (simp; done) | (simp [*]; done)), H', ⟨by have := HJ7.out; have := HK2.out; first | omega | exact Nat.le_refl _⟩, ⟨by (with_reducible repeat (first | apply Kd.R_alloc | apply Kd.R_drewN | apply Kd.R_drew)); exact HO_3.out⟩, ⟨by (with_reducible repeat (first | apply Kd.R_alloc | apply Kd.R_drewN | apply Kd.R_drew)); exact HO_4.out⟩, ⟨by (with_reducible repeat (first | refine blk_drewN ?_ _ | refine blk_drew ?_ | refine blk_alloc ?_ _)); exact BK200.out⟩, ⟨by (with_reducible repeat (first | refine blk_drewN ?_ _ | refine blk_drew ?_ | refine blk_alloc ?_ _)); exact BK202.out⟩, ⟨by repeat (first | (with_reducible first | exact HK.out | apply Kept.alloc | apply Kept.drewN | apply Kept.drew | refine Kept.setCell ?_ (.inr GW200.out) _ | refine Kept.setCell ?_ (.inr GW202.out) _) | exact HK.out)⟩, ⟨by repeat (first | (with_reducible first | exact HB.out | apply below_alloc | apply pw_below_drewN | apply below_drew1 | refine below_set ?_ GE200.out | refine below_set ?_ GE202.out) | exact HB.out)⟩⟩
                ·rw [if_neg c45] at H
                 have c45b0 : (((rd_T99 l0_0 x15_2).f2) == a1) = false := beq_eq_false_iff_ne.mpr c45
                 have c45b1 : (((rd_T99 l0_0 x15_2).f2) != a1) = true := bne_iff_ne.mpr c45
                 have H' := Aside0.mk H
                 clear H
                 have hnb49 := NB200_202.out
                 have hnc49 := NB202_200.out
                 have hcz50_0 : wr.cell? ⟨gb200, 0, none⟩ = some (.slice (some ad201) l0_0.length c0_0) := (blk_cell BK200.out 0).trans rfl
                 have hfz50_0 := blk_frozen BK200.out 0
                 go_wp2_with (first | (go_at_call 117; (with_reducible refine (impl_within.calls x15_2 0 (wrap64 ((l0_0.length : Int) - 1)) true _ A36.out).mono ?_); rintro e w' ⟨rfl, ⟨nd, rfl⟩⟩; (try first | exact ⟨rfl, _, World.drewN_drewN _ _ _⟩ | exact ⟨rfl, _, Eq.trans (World.drewN_drewN _ _ _) (congrArg (World.drewN _) (Nat.add_assoc _ _ _))⟩); obtain ⟨Ao51, co51, eo51⟩ := Kd.R_slice HO_4.out; subst eo51) | (go_at_call 119; (with_reducible refine (slices_Contains_int_int.calls k2 _ _ x4_2 x15_2 false _ ?side1 ?side2 A38.out).mono ?_); (case side1 => repeat (first | exact (Kd.R_reads' HO_4.out).2.2 | (with_reducible refine Kd.C_alloc ?_ _) | (with_reducible refine Kd.C_drewN ?_ _) | (with_reducible refine Kd.C_drew ?_))); (case side2 => exact (Kd.R_reads' HO_4.out).2.1); rintro e w' ⟨rfl, ⟨nd, rfl⟩⟩; (try first | exact ⟨rfl, _, World.drewN_drewN _ _ _⟩ | exact ⟨rfl, _, Eq.trans (World.drewN_drewN _ _ _) (congrArg (World.drewN _) (Nat.add_assoc _ _ _))⟩); have p212 : 0 ≤ (x15_2 : Int) := of_decide_eq_true (by first | (with_reducible assumption) | assumption); have q212 : x15_2 < (l0_0.length : Int) := of_decide_eq_true (by first | (with_reducible assumption) | assumption); obtain ⟨ad212, e212, hx212_0, hx212_1, hx212_2, hx212_3, hx212_4, hx212_5, hx212_6⟩ := at_T99 (Kd.C_kept_now HR0_0.out HK.out) x15_2 p212 q212; obtain rfl : ad201 = ad212 := (by injection e212); replace p212 := eq_true p212; replace q212 := eq_true q212))
                 repeat (go_quiet (first | (go_at_call 117; (with_reducible refine (impl_within.calls x15_2 0 (wrap64 ((l0_0.length : Int) - 1)) true _ A36.out).mono ?_); rintro e w' ⟨rfl, ⟨nd, rfl⟩⟩; (try first | exact ⟨rfl, _, World.drewN_drewN _ _ _⟩ | exact ⟨rfl, _, Eq.trans (World.drewN_drewN _ _ _) (congrArg (World.drewN _) (Nat.add_assoc _ _ _))⟩); obtain ⟨Ao51, co51, eo51⟩ := Kd.R_slice HO_4.out; subst eo51) | (go_at_call 119; (with_reducible refine (slices_Contains_int_int.calls k2 _ _ x4_2 x15_2 false _ ?side1 ?side2 A38.out).mono ?_); (case side1 => repeat (first | exact (Kd.R_reads' HO_4.out).2.2 | (with_reducible refine Kd.C_alloc ?_ _) | (with_reducible refine Kd.C_drewN ?_ _) | (with_reducible refine Kd.C_drew ?_))); (case side2 => exact (Kd.R_reads' HO_4.out).2.1); rintro e w' ⟨rfl, ⟨nd, rfl⟩⟩; (try first | exact ⟨rfl, _, World.drewN_drewN _ _ _⟩ | exact ⟨rfl, _, Eq.trans (World.drewN_drewN _ _ _) (congrArg (World.drewN _) (Nat.add_assoc _ _ _))⟩); have p212 : 0 ≤ (x15_2 : Int) := of_decide_eq_true (by first | (with_reducible assumption) | assumption); have q212 : x15_2 < (l0_0.length : Int) := of_decide_eq_true (by first | (with_reducible assumption) | assumption); obtain ⟨ad212, e212, hx212_0, hx212_1, hx212_2, hx212_3, hx212_4, hx212_5, hx212_6⟩ := at_T99 (Kd.C_kept_now HR0_0.out HK.out) x15_2 p212 q212; obtain rfl : ad201 = ad212 := (by injection e212); replace p212 := eq_true p212; replace q212 := eq_true q212)); try go_wp2_with (first | (go_at_call 117; (with_reducible refine (impl_within.calls x15_2 0 (wrap64 ((l0_0.length : Int) - 1)) true _ A36.out).mono ?_); rintro e w' ⟨rfl, ⟨nd, rfl⟩⟩; (try first | exact ⟨rfl, _, World.drewN_drewN _ _ _⟩ | exact ⟨rfl, _, Eq.trans (World.drewN_drewN _ _ _) (congrArg (World.drewN _) (Nat.add_assoc _ _ _))⟩); obtain ⟨Ao51, co51, eo51⟩ := Kd.R_slice HO_4.out; subst eo51) | (go_at_call 119; (with_reducible refine (slices_Contains_int_int.calls k2 _ _ x4_2 x15_2 false _ ?side1 ?side2 A38.out).mono ?_); (case side1 => repeat (first | exact (Kd.R_reads' HO_4.out).2.2 | (with_reducible refine Kd.C_alloc ?_ _) | (with_reducible refine Kd.C_drewN ?_ _) | (with_reducible refine Kd.C_drew ?_))); (case side2 => exact (Kd.R_reads' HO_4.out).2.1); rintro e w' ⟨rfl, ⟨nd, rfl⟩⟩; (try first | exact ⟨rfl, _, World.drewN_drewN _ _ _⟩ | exact ⟨rfl, _, Eq.trans (World.drewN_drewN _ _ _) (congrArg (World.drewN _) (Nat.add_assoc _ _ _))⟩); have p212 : 0 ≤ (x15_2 : Int) := of_decide_eq_true (by first | (with_reducible assumption) | assumption); have q212 : x15_2 < (l0_0.length : Int) := of_decide_eq_true (by first | (with_reducible assumption) | assumption); obtain ⟨ad212, e212, hx212_0, hx212_1, hx212_2, hx212_3, hx212_4, hx212_5, hx212_6⟩ := at_T99 (Kd.C_kept_now HR0_0.out HK.out) x15_2 p212 q212; obtain rfl : ad201 = ad212 := (by injection e212); replace p212 := eq_true p212; replace q212 := eq_true q212)))
                 go_meet
                 case rel => exact ⟨_, (true), (by first | rfl | (simp; done) | (simp [*]; done)), H', ⟨by have := HJ7.out; have := HK2.out; first | omega | exact Nat.le_refl _⟩, ⟨by (with_reducible repeat (first | apply Kd.R_alloc | apply Kd.R_drewN | apply Kd.R_drew)); exact HO_3.out⟩, ⟨by (with_reducible repeat (first | apply Kd.R_alloc | apply Kd.R_drewN | apply Kd.R_drew)); exact HO_4.out⟩, ⟨by (with_reducible repeat (first | refine blk_drewN ?_ _ | refine blk_drew ?_ | refine blk_alloc ?_ _)); exact BK200.out⟩, ⟨by (with_reducible repeat (first | refine blk_drewN ?_ _ | refine blk_drew ?_ | refine blk_alloc ?_ _)); exact BK202.out⟩, ⟨by repeat (first | (with_reducible first | exact HK.out | apply Kept.alloc | apply Kept.drewN | apply Kept.drew | refine Kept.setCell ?_ (.inr GW200.out) _ | refine Kept.setCell ?_ (.inr GW202.out) _) | exact HK.out)⟩, ⟨by repeat (first | (with_reducible first | exact HB.out | apply below_alloc | apply pw_below_drewN | apply below_drew1 | refine below_set ?_ GE200.out | refine below_set ?_ GE202.out) | exact HB.out)⟩⟩
               ·rw [if_neg c44] at H
                exact absurd H (by simp)
              ·rw [if_neg c43] at H
               exact absurd H (by simp)
            ·replace c37 := Bool.eq_false_iff.mpr c37
             subst c37
             have H1 : (impl_Dom_visit.j2 k2 a1 a2 x3_2 x4_2 x15_2 true l0_0 ((rd_T99 l0_0 a1).f0) ((rd_T99 l0_0 a1).f1) ((rd_T99 l0_0 a1).f2) ((rd_T99 l0_0 a1).f3) ((rd_T99 l0_0 a1).f4) ((rd_T99 l0_0 a1).f5) ((rd_T99 l0_0 a1).f6)) = some (r1, r2, r3) := by rw [if_neg (show ¬ (false = true) by decide)] at H; exact H
             clear H
             have H := H1
             clear H1
             have H' := Aside0.mk H
             clear H
             have hnb52 := NB200_202.out
             have hnc52 := NB202_200.out
             have hcz53_0 : wr.cell? ⟨gb200, 0, none⟩ = some (.slice (some ad201) l0_0.length c0_0) := (blk_cell BK200.out 0).trans rfl
             have hfz53_0 := blk_frozen BK200.out 0
             go_wp2_with (first | (go_at_call 117; (with_reducible refine (impl_within.calls x15_2 0 (wrap64 ((l0_0.length : Int) - 1)) false _ A36.out).mono ?_); rintro e w' ⟨rfl, ⟨nd, rfl⟩⟩; (try first | exact ⟨rfl, _, World.drewN_drewN _ _ _⟩ | exact ⟨rfl, _, Eq.trans (World.drewN_drewN _ _ _) (congrArg (World.drewN _) (Nat.add_assoc _ _ _))⟩)))
             repeat (go_quiet (first | (go_at_call 117; (with_reducible refine (impl_within.calls x15_2 0 (wrap64 ((l0_0.length : Int) - 1)) false _ A36.out).mono ?_); rintro e w' ⟨rfl, ⟨nd, rfl⟩⟩; (try first | exact ⟨rfl, _, World.drewN_drewN _ _ _⟩ | exact ⟨rfl, _, Eq.trans (World.drewN_drewN _ _ _) (congrArg (World.drewN _) (Nat.add_assoc _ _ _))⟩))); try go_wp2_with (first | (go_at_call 117; (with_reducible refine (impl_within.calls x15_2 0 (wrap64 ((l0_0.length : Int) - 1)) false _ A36.out).mono ?_); rintro e w' ⟨rfl, ⟨nd, rfl⟩⟩; (try first | exact ⟨rfl, _, World.drewN_drewN _ _ _⟩ | exact ⟨rfl, _, Eq.trans (World.drewN_drewN _ _ _) (congrArg (World.drewN _) (Nat.add_assoc _ _ _))⟩))))
             go_meet
             case rel => exact ⟨_, (true), (by first | rfl | (simp; done) | (simp [*]; done)), H', ⟨by have := HJ7.out; have := HK2.out; first | omega | exact Nat.le_refl _⟩, ⟨by (with_reducible repeat (first | apply Kd.R_alloc | apply Kd.R_drewN | apply Kd.R_drew)); exact HO_3.out⟩, ⟨by (with_reducible repeat (first | apply Kd.R_alloc | apply Kd.R_drewN | apply Kd.R_drew)); exact HO_4.out⟩, ⟨by (with_reducible repeat (first | refine blk_drewN ?_ _ | refine blk_drew ?_ | refine blk_alloc ?_ _)); exact BK200.out⟩, ⟨by (with_reducible repeat (first | refine blk_drewN ?_ _ | refine blk_drew ?_ | refine blk_alloc ?_ _)); exact BK202.out⟩, ⟨by repeat (first | (with_reducible first | exact HK.out | apply Kept.alloc | apply Kept.drewN | apply Kept.drew | refine Kept.setCell ?_ (.inr GW200.out) _ | refine Kept.setCell ?_ (.inr GW202.out) _) | exact HK.out)⟩, ⟨by repeat (first | (with_reducible first | exact HB.out | apply below_alloc | apply pw_below_drewN | apply below_drew1 | refine below_set ?_ GE200.out | refine below_set ?_ GE202.out) | exact HB.out)⟩⟩
           case rest =>
            clear HC35
            try clear c1
            try clear q1
            try clear c2
            try clear p2
            try clear q2
            try clear hx2
            try clear c3
            try clear c4
            try clear c5
            try clear c6
            try clear c6b0
            try clear p6
            try clear c7
            try clear c7b0
            try clear c11
            try clear c12
            try clear q14
            try clear c15
            try clear c17
            try clear c18
            try clear c20
            try clear p20
            try clear q20
            try clear hx20
            try clear p21
            try clear q21
            try clear hx21
            try clear c22
            try clear c24
            try clear c25
            try clear c26
            try clear c27
            try clear c32
            try clear c32b0
            try clear c32b1
            try clear c33
            try clear c37
            try clear c39
            try clear c40
            try clear c43
            try clear c43b0
            try clear c44
            try clear c44b0
            try clear c45
            try clear c45b0
            try clear c45b1
            try clear c46
            try clear c49
            try clear c52
            try clear hcz10_0
            try clear hcz13_0
            try clear hcz13_1
            try clear hcz13_2
            try clear hcz13_3
            try clear hcz13_4
            try clear hcz13_5
            try clear hcz13_6
            try clear hcz19_0
            try clear hcz19_1
            try clear hcz19_2
            try clear hcz19_3
            try clear hcz19_4
            try clear hcz19_5
            try clear hcz19_6
            try clear hcz21_0
            try clear hcz21_1
            try clear hcz21_2
            try clear hcz21_3
            try clear hcz21_4
            try clear hcz21_5
            try clear hcz21_6
            try clear hcz23_0
            try clear hcz23_1
            try clear hcz23_2
            try clear hcz23_3
            try clear hcz23_4
            try clear hcz23_5
            try clear hcz23_6
            try clear hcz28_0
            try clear hcz28_1
            try clear hcz28_2
            try clear hcz28_3
            try clear hcz28_4
            try clear hcz28_5
            try clear hcz28_6
            try clear hcz31_0
            try clear hcz31_1
            try clear hcz31_2
            try clear hcz31_3
            try clear hcz31_4
            try clear hcz31_5
            try clear hcz31_6
            try clear hcz34_0
            try clear hcz34_1
            try clear hcz34_2
            try clear hcz34_3
            try clear hcz34_4
            try clear hcz34_5
            try clear hcz34_6
            try clear hcz41_0
            try clear hcz47_0
            try clear hcz50_0
            try clear hcz53_0
            try clear hfz10_0
            try clear hfz13_0
            try clear hfz13_1
            try clear hfz13_2
            try clear hfz13_3
            try clear hfz13_4
            try clear hfz13_5
            try clear hfz13_6
            try clear hfz19_0
            try clear hfz19_1
            try clear hfz19_2
            try clear hfz19_3
            try clear hfz19_4
            try clear hfz19_5
            try clear hfz19_6
            try clear hfz21_0
            try clear hfz21_1
            try clear hfz21_2
            try clear hfz21_3
            try clear hfz21_4
            try clear hfz21_5
            try clear hfz21_6
            try clear hfz23_0
            try clear hfz23_1
            try clear hfz23_2
            try clear hfz23_3
            try clear hfz23_4
            try clear hfz23_5
            try clear hfz23_6
            try clear hfz28_0
            try clear hfz28_1
            try clear hfz28_2
            try clear hfz28_3
            try clear hfz28_4
            try clear hfz28_5
            try clear hfz28_6
            try clear hfz31_0
            try clear hfz31_1
            try clear hfz31_2
            try clear hfz31_3
            try clear hfz31_4
            try clear hfz31_5
            try clear hfz31_6
            try clear hfz34_0
            try clear hfz34_1
            try clear hfz34_2
            try clear hfz34_3
            try clear hfz34_4
            try clear hfz34_5
            try clear hfz34_6
            try clear hfz41_0
            try clear hfz47_0
            try clear hfz50_0
            try clear hfz53_0
            try clear hx201_0
            try clear hx201_1
            try clear hx201_2
            try clear hx201_3
            try clear hx201_4
            try clear hx201_5
            try clear hx201_6
            try clear hx212_0
            try clear hx212_1
            try clear hx212_2
            try clear hx212_3
            try clear hx212_4
            try clear hx212_5
            try clear hx212_6
            try clear hx213_0
            try clear hx213_1
            try clear hx213_2
            try clear hx213_3
            try clear hx213_4
            try clear hx213_5
            try clear hx213_6
            try clear p2
            try clear p20
            try clear p201
            try clear p212
            try clear p213
            try clear q1
            try clear q14
            try clear q2
            try clear q20
            try clear q201
            try clear q212
            try clear q213
            obtain ⟨kq, x89_34, rfl, HA, HJ34, HO_3, HO_4, BK200, BK202, HK, HB⟩ := hcut
            cases kq with
            | zero => exact absurd HA.out (by simp [impl_Dom_visit.j2])
            | succ kj34 =>
             have H := HA.out
             clear HA
             simp only [impl_Dom_visit.j2] at H
             by_cases c54 : x89_34 = true
             ·subst c54
              have H1 : (some (x3_2, x4_2, false)) = some (r1, r2, r3) := by rw [if_pos rfl] at H; exact H
              clear H
              have H := H1
              clear H1
              simp only [Option.some.injEq, Prod.mk.injEq] at H
              obtain ⟨rfl, rfl, rfl⟩ := H
              go_wp2
              repeat (go_quiet (fail); try go_wp2)
              go_ret3
              exact ⟨_, _, by first | rfl | (simp [errW_none, errW_some] <;> rfl) | (simp [*, errW_none, errW_some] <;> rfl), by (with_reducible repeat (first | apply Kd.R_alloc | apply Kd.R_drewN | apply Kd.R_drew)); exact HO_3.out, by (with_reducible repeat (first | apply Kd.R_alloc | apply Kd.R_drewN | apply Kd.R_drew)); exact HO_4.out, by repeat (first | (with_reducible first | exact HB.out | apply below_alloc | apply pw_below_drewN | apply below_drew1 | refine below_set ?_ GE200.out | refine below_set ?_ GE202.out) | exact HB.out), by repeat (first | (with_reducible first | exact HK.out | apply Kept.alloc | apply Kept.drewN | apply Kept.drew | refine Kept.setCell ?_ (.inr GW200.out) _ | refine Kept.setCell ?_ (.inr GW202.out) _) | exact HK.out)⟩
             ·replace c54 := Bool.eq_false_iff.mpr c54
              subst c54
              have H1 : ((impl_Dom_visit.f kj34 l0_0 x15_2 (wrap64 (a2 + 1)) x3_2 x4_2).bind fun bt214 => (if bt214.2.2 = true then (if 0 ≤ x15_2 then (if x15_2 < (l0_0.length : Int) then (impl_Dom_visit.l0 kj34 a1 a2 bt214.1 bt214.2.1 x15_2 ((rd_T99 l0_0 x15_2).f6) l0_0 ((rd_T99 l0_0 a1).f0) ((rd_T99 l0_0 a1).f1) ((rd_T99 l0_0 a1).f2) ((rd_T99 l0_0 a1).f3) ((rd_T99 l0_0 a1).f4) ((rd_T99 l0_0 a1).f5) ((rd_T99 l0_0 a1).f6)) else (none)) else (none)) else (some (bt214.1, bt214.2.1, false)))) = some (r1, r2, r3) := by rw [if_neg (show ¬ (false = true) by decide)] at H; exact H
              clear H
              have H := H1
              clear H1
              replace H := Option.bind_eq_some_iff.mp H
              obtain ⟨⟨t214, t217, t220⟩, A550, H⟩ := H
              replace H : (if t220 = true then (if 0 ≤ x15_2 then (if x15_2 < (l0_0.length : Int) then (impl_Dom_visit.l0 kj34 a1 a2 t214 t217 x15_2 ((rd_T99 l0_0 x15_2).f6) l0_0 ((rd_T99 l0_0 a1).f0) ((rd_T99 l0_0 a1).f1) ((rd_T99 l0_0 a1).f2) ((rd_T99 l0_0 a1).f3) ((rd_T99 l0_0 a1).f4) ((rd_T99 l0_0 a1).f5) ((rd_T99 l0_0 a1).f6)) else (none)) else (none)) else (some (t214, t217, false))) = some (r1, r2, r3) := H
              have A55 := Aside0.mk A550
              clear A550
              by_cases c56 : t220 = true
              ·subst c56
               have H1 : (if 0 ≤ x15_2 then (if x15_2 < (l0_0.length : Int) then (impl_Dom_visit.l0 kj34 a1 a2 t214 t217 x15_2 ((rd_T99 l0_0 x15_2).f6) l0_0 ((rd_T99 l0_0 a1).f0) ((rd_T99 l0_0 a1).f1) ((rd_T99 l0_0 a1).f2) ((rd_T99 l0_0 a1).f3) ((rd_T99 l0_0 a1).f4) ((rd_T99 l0_0 a1).f5) ((rd_T99 l0_0 a1).f6)) else (none)) else (none)) = some (r1, r2, r3) := by rw [if_pos rfl] at H; exact H
               clear H
               have H := H1
               clear H1
               by_cases c57 : 0 ≤ x15_2
               ·rw [if_pos c57] at H
                have c57b0 : decide (0 ≤ x15_2) = true := decide_eq_true c57
                clear c57
                by_cases c58 : x15_2 < (l0_0.length : Int)
                ·rw [if_pos c58] at H
                 have c58b0 : decide (x15_2 < (l0_0.length : Int)) = true := decide_eq_true c58
                 clear c58
                 have H' := Aside0.mk H
                 clear H
                 have hnb59 := NB200_202.out
                 have hnc59 := NB202_200.out
                 have hcz60_0 : wc.cell? ⟨gb200, 0, none⟩ = some (.slice (some ad201) l0_0.length c0_0) := (blk_cell BK200.out 0).trans rfl
                 have hfz60_0 := blk_frozen BK200.out 0
                 obtain ⟨Ao61, co61, eo61⟩ := Kd.R_slice HO_3.out
                 subst eo61
                 obtain ⟨Ao62, co62, eo62⟩ := Kd.R_slice HO_4.out
                 subst eo62
                 go_wp2_with (first | (go_at_call 118; (with_reducible refine (ih kj34 (by have := HJ7.out; have := HK2.out; have := HJ34.out; omega) _ _ l0_0 x15_2 (wrap64 (a2 + 1)) (fun k_ => some k_ = (.slice Ao61 x3_2.length co61 : Value).ownBlock) (.slice Ao61 x3_2.length co61) x3_2 (fun k_ => some k_ = (.slice Ao62 x4_2.length co62 : Value).ownBlock) (.slice Ao62 x4_2.length co62) x4_2 t214 t217 true w0 _ ?side1 ?side2 ?side3 ?side4 ?side5 A55.out).mono ?_); (case side1 => repeat (first | (with_reducible first | exact HB.out | apply below_alloc | apply pw_below_drewN | apply below_drew1 | refine below_set ?_ GE200.out | refine below_set ?_ GE202.out) | exact HB.out)); (case side2 => exact Kd.C_kept_call HR0_0.out (by repeat (first | (with_reducible first | exact HK.out | apply Kept.alloc | apply Kept.drewN | apply Kept.drew | refine Kept.setCell ?_ (.inr GW200.out) _ | refine Kept.setCell ?_ (.inr GW202.out) _) | exact HK.out)) (fun k_ hs_ => Or.elim hs_ (fun e_ => (fun e_ => (HO_3.out.1 k_ e_.symm)) e_) (fun e_ => (fun e_ => (HO_4.out.1 k_ e_.symm)) e_))); (case side3 => exact HC0_0.out); (case side4 => exact Kd.R_tight rfl HO_3.out); (case side5 => exact Kd.R_tight rfl HO_4.out); rintro e w63 ⟨v215, v218, rfl, ho0, ho1, hb, hkp⟩; have n0_ := Aside0.mk (blk_kept (by (with_reducible repeat (first | refine blk_drewN ?_ _ | refine blk_drew ?_ | refine blk_alloc ?_ _)); exact BK200.out) hkp (fun hs_ => Or.elim hs_ (fun e_ => (fun e_ => (Kd.R_ne HO_3.out BK200.out (by decide)) e_) e_) (fun e_ => (fun e_ => (Kd.R_ne HO_4.out BK200.out (by decide)) e_) e_))); have n1_ := Aside0.mk (blk_kept (by (with_reducible repeat (first | refine blk_drewN ?_ _ | refine blk_drew ?_ | refine blk_alloc ?_ _)); exact BK202.out) hkp (fun hs_ => Or.elim hs_ (fun e_ => (fun e_ => (Kd.R_ne HO_3.out BK202.out (by decide)) e_) e_) (fun e_ => (fun e_ => (Kd.R_ne HO_4.out BK202.out (by decide)) e_) e_))); have n2_ := Aside0.mk (Kd.R_mono (ok' := fun k_ => ((P3_ k_ ∨ P4_ k_) ∨ w.heap.size ≤ k_)) ho0 (fun k_ hk_ => Or.elim hk_ (fun hs_ => Or.elim hs_ (fun hs_ => (HO_3.out.1 k_ (hs_).symm)) (fun hs_ => (HO_4.out.1 k_ (hs_).symm))) (fun hn_ => (.inr (Nat.le_trans (by first | exact HK.out.1 | exact (show Kept w _ (fun k_ => P3_ k_ ∨ P4_ k_) from by repeat (first | (with_reducible first | exact HK.out | apply Kept.alloc | apply Kept.drewN | apply Kept.drew | refine Kept.setCell ?_ (.inr GW200.out) _ | refine Kept.setCell ?_ (.inr GW202.out) _) | exact HK.out)).1) hn_))))); have n3_ := Aside0.mk (Kd.R_mono (ok' := fun k_ => ((P3_ k_ ∨ P4_ k_) ∨ w.heap.size ≤ k_)) ho1 (fun k_ hk_ => Or.elim hk_ (fun hs_ => Or.elim hs_ (fun hs_ => (HO_3.out.1 k_ (hs_).symm)) (fun hs_ => (HO_4.out.1 k_ (hs_).symm))) (fun hn_ => (.inr (Nat.le_trans (by first | exact HK.out.1 | exact (show Kept w _ (fun k_ => P3_ k_ ∨ P4_ k_) from by repeat (first | (with_reducible first | exact HK.out | apply Kept.alloc | apply Kept.drewN | apply Kept.drew | refine Kept.setCell ?_ (.inr GW200.out) _ | refine Kept.setCell ?_ (.inr GW202.out) _) | exact HK.out)).1) hn_))))); have n4_ := Aside0.mk (Kept.then_ (S := (fun k_ => P3_ k_ ∨ P4_ k_)) (by repeat (first | (with_reducible first | exact HK.out | apply Kept.alloc | apply Kept.drewN | apply Kept.drew | refine Kept.setCell ?_ (.inr GW200.out) _ | refine Kept.setCell ?_ (.inr GW202.out) _) | exact HK.out)) hkp (fun k_ hs_ => Or.elim hs_ (fun e_ => (fun e_ => (HO_3.out.1 k_ e_.symm)) e_) (fun e_ => (fun e_ => (HO_4.out.1 k_ e_.symm)) e_))); have n5_ := Aside0.mk (hb); clear BK200; clear BK202; clear HK; clear HB; clear HO_3; clear HO_4; have BK200 := n0_; have BK202 := n1_; have HO216 := n2_; have HO219 := n3_; have HK := n4_; have HB := n5_; clear n0_ n1_ n2_ n3_ n4_ n5_; (try clear hb); (try clear hkp); (try clear ho0); (try clear ho1); have hcz64_0 : w63.cell? ⟨gb200, 0, none⟩ = some (.slice (some ad201) l0_0.length c0_0) := (blk_cell BK200.out 0).trans rfl; have hfz64_0 := blk_frozen BK200.out 0; have p221 : 0 ≤ (x15_2 : Int) := of_decide_eq_true (by first | (with_reducible assumption) | assumption); have q221 : x15_2 < (l0_0.length : Int) := of_decide_eq_true (by first | (with_reducible assumption) | assumption); obtain ⟨ad221, e221, hx221_0, hx221_1, hx221_2, hx221_3, hx221_4, hx221_5, hx221_6⟩ := at_T99 (Kd.C_kept_now HR0_0.out HK.out) x15_2 p221 q221; obtain rfl : ad201 = ad221 := (by injection e221); replace p221 := eq_true p221; replace q221 := eq_true q221))
                 repeat (go_quiet (first | (go_at_call 118; (with_reducible refine (ih kj34 (by have := HJ7.out; have := HK2.out; have := HJ34.out; omega) _ _ l0_0 x15_2 (wrap64 (a2 + 1)) (fun k_ => some k_ = (.slice Ao61 x3_2.length co61 : Value).ownBlock) (.slice Ao61 x3_2.length co61) x3_2 (fun k_ => some k_ = (.slice Ao62 x4_2.length co62 : Value).ownBlock) (.slice Ao62 x4_2.length co62) x4_2 t214 t217 true w0 _ ?side1 ?side2 ?side3 ?side4 ?side5 A55.out).mono ?_); (case side1 => repeat (first | (with_reducible first | exact HB.out | apply below_alloc | apply pw_below_drewN | apply below_drew1 | refine below_set ?_ GE200.out | refine below_set ?_ GE202.out) | exact HB.out)); (case side2 => exact Kd.C_kept_call HR0_0.out (by repeat (first | (with_reducible first | exact HK.out | apply Kept.alloc | apply Kept.drewN | apply Kept.drew | refine Kept.setCell ?_ (.inr GW200.out) _ | refine Kept.setCell ?_ (.inr GW202.out) _) | exact HK.out)) (fun k_ hs_ => Or.elim hs_ (fun e_ => (fun e_ => (HO_3.out.1 k_ e_.symm)) e_) (fun e_ => (fun e_ => (HO_4.out.1 k_ e_.symm)) e_))); (case side3 => exact HC0_0.out); (case side4 => exact Kd.R_tight rfl HO_3.out); (case side5 => exact Kd.R_tight rfl HO_4.out); rintro e w63 ⟨v215, v218, rfl, ho0, ho1, hb, hkp⟩; have n0_ := Aside0.mk (blk_kept (by (with_reducible repeat (first | refine blk_drewN ?_ _ | refine blk_drew ?_ | refine blk_alloc ?_ _)); exact BK200.out) hkp (fun hs_ => Or.elim hs_ (fun e_ => (fun e_ => (Kd.R_ne HO_3.out BK200.out (by decide)) e_) e_) (fun e_ => (fun e_ => (Kd.R_ne HO_4.out BK200.out (by decide)) e_) e_))); have n1_ := Aside0.mk (blk_kept (by (with_reducible repeat (first | refine blk_drewN ?_ _ | refine blk_drew ?_ | refine blk_alloc ?_ _)); exact BK202.out) hkp (fun hs_ => Or.elim hs_ (fun e_ => (fun e_ => (Kd.R_ne HO_3.out BK202.out (by decide)) e_) e_) (fun e_ => (fun e_ => (Kd.R_ne HO_4.out BK202.out (by decide)) e_) e_))); have n2_ := Aside0.mk (Kd.R_mono (ok' := fun k_ => ((P3_ k_ ∨ P4_ k_) ∨ w.heap.size ≤ k_)) ho0 (fun k_ hk_ => Or.elim hk_ (fun hs_ => Or.elim hs_ (fun hs_ => (HO_3.out.1 k_ (hs_).symm)) (fun hs_ => (HO_4.out.1 k_ (hs_).symm))) (fun hn_ => (.inr (Nat.le_trans (by first | exact HK.out.1 | exact (show Kept w _ (fun k_ => P3_ k_ ∨ P4_ k_) from by repeat (first | (with_reducible first | exact HK.out | apply Kept.alloc | apply Kept.drewN | apply Kept.drew | refine Kept.setCell ?_ (.inr GW200.out) _ | refine Kept.setCell ?_ (.inr GW202.out) _) | exact HK.out)).1) hn_))))); have n3_ := Aside0.mk (Kd.R_mono (ok' := fun k_ => ((P3_ k_ ∨ P4_ k_) ∨ w.heap.size ≤ k_)) ho1 (fun k_ hk_ => Or.elim hk_ (fun hs_ => Or.elim hs_ (fun hs_ => (HO_3.out.1 k_ (hs_).symm)) (fun hs_ => (HO_4.out.1 k_ (hs_).symm))) (fun hn_ => (.inr (Nat.le_trans (by first | exact HK.out.1 | exact (show Kept w _ (fun k_ => P3_ k_ ∨ P4_ k_) from by repeat (first | (with_reducible first | exact HK.out | apply Kept.alloc | apply Kept.drewN | apply Kept.drew | refine Kept.setCell ?_ (.inr GW200.out) _ | refine Kept.setCell ?_ (.inr GW202.out) _) | exact HK.out)).1) hn_))))); have n4_ := Aside0.mk (Kept.then_ (S := (fun k_ => P3_ k_ ∨ P4_ k_)) (by repeat (first | (with_reducible first | exact HK.out | apply Kept.alloc | apply Kept.drewN | apply Kept.drew | refine Kept.setCell ?_ (.inr GW200.out) _ | refine Kept.setCell ?_ (.inr GW202.out) _) | exact HK.out)) hkp (fun k_ hs_ => Or.elim hs_ (fun e_ => (fun e_ => (HO_3.out.1 k_ e_.symm)) e_) (fun e_ => (fun e_ => (HO_4.out.1 k_ e_.symm)) e_))); have n5_ := Aside0.mk (hb); clear BK200; clear BK202; clear HK; clear HB; clear HO_3; clear HO_4; have BK200 := n0_; have BK202 := n1_; have HO216 := n2_; have HO219 := n3_; have HK := n4_; have HB := n5_; clear n0_ n1_ n2_ n3_ n4_ n5_; (try clear hb); (try clear hkp); (try clear ho0); (try clear ho1); have hcz64_0 : w63.cell? ⟨gb200, 0, none⟩ = some (.slice (some ad201) l0_0.length c0_0) := (blk_cell BK200.out 0).trans rfl; have hfz64_0 := blk_frozen BK200.out 0; have p221 : 0 ≤ (x15_2 : Int) := of_decide_eq_true (by first | (with_reducible assumption) | assumption); have q221 : x15_2 < (l0_0.length : Int) := of_decide_eq_true (by first | (with_reducible assumption) | assumption); obtain ⟨ad221, e221, hx221_0, hx221_1, hx221_2, hx221_3, hx221_4, hx221_5, hx221_6⟩ := at_T99 (Kd.C_kept_now HR0_0.out HK.out) x15_2 p221 q221; obtain rfl : ad201 = ad221 := (by injection e221); replace p221 := eq_true p221; replace q221 := eq_true q221)); try go_wp2_with (first | (go_at_call 118; (with_reducible refine (ih kj34 (by have := HJ7.out; have := HK2.out; have := HJ34.out; omega) _ _ l0_0 x15_2 (wrap64 (a2 + 1)) (fun k_ => some k_ = (.slice Ao61 x3_2.length co61 : Value).ownBlock) (.slice Ao61 x3_2.length co61) x3_2 (fun k_ => some k_ = (.slice Ao62 x4_2.length co62 : Value).ownBlock) (.slice Ao62 x4_2.length co62) x4_2 t214 t217 true w0 _ ?side1 ?side2 ?side3 ?side4 ?side5 A55.out).mono ?_); (case side1 => repeat (first | (with_reducible first | exact HB.out | apply below_alloc | apply pw_below_drewN | apply below_drew1 | refine below_set ?_ GE200.out | refine below_set ?_ GE202.out) | exact HB.out)); (case side2 => exact Kd.C_kept_call HR0_0.out (by repeat (first | (with_reducible first | exact HK.out | apply Kept.alloc | apply Kept.drewN | apply Kept.drew | refine Kept.setCell ?_ (.inr GW200.out) _ | refine Kept.setCell ?_ (.inr GW202.out) _) | exact HK.out)) (fun k_ hs_ => Or.elim hs_ (fun e_ => (fun e_ => (HO_3.out.1 k_ e_.symm)) e_) (fun e_ => (fun e_ => (HO_4.out.1 k_ e_.symm)) e_))); (case side3 => exact HC0_0.out); (case side4 => exact Kd.R_tight rfl HO_3.out); (case side5 => exact Kd.R_tight rfl HO_4.out); rintro e w63 ⟨v215, v218, rfl, ho0, ho1, hb, hkp⟩; have n0_ := Aside0.mk (blk_kept (by (with_reducible repeat (first | refine blk_drewN ?_ _ | refine blk_drew ?_ | refine blk_alloc ?_ _)); exact BK200.out) hkp (fun hs_ => Or.elim hs_ (fun e_ => (fun e_ => (Kd.R_ne HO_3.out BK200.out (by decide)) e_) e_) (fun e_ => (fun e_ => (Kd.R_ne HO_4.out BK200.out (by decide)) e_) e_))); have n1_ := Aside0.mk (blk_kept (by (with_reducible repeat (first | refine blk_drewN ?_ _ | refine blk_drew ?_ | refine blk_alloc ?_ _)); exact BK202.out) hkp (fun hs_ => Or.elim hs_ (fun e_ => (fun e_ => (Kd.R_ne HO_3.out BK202.out (by decide)) e_) e_) (fun e_ => (fun e_ => (Kd.R_ne HO_4.out BK202.out (by decide)) e_) e_))); have n2_ := Aside0.mk (Kd.R_mono (ok' := fun k_ => ((P3_ k_ ∨ P4_ k_) ∨ w.heap.size ≤ k_)) ho0 (fun k_ hk_ => Or.elim hk_ (fun hs_ => Or.elim hs_ (fun hs_ => (HO_3.out.1 k_ (hs_).symm)) (fun hs_ => (HO_4.out.1 k_ (hs_).symm))) (fun hn_ => (.inr (Nat.le_trans (by first | exact HK.out.1 | exact (show Kept w _ (fun k_ => P3_ k_ ∨ P4_ k_) from by repeat (first | (with_reducible first | exact HK.out | apply Kept.alloc | apply Kept.drewN | apply Kept.drew | refine Kept.setCell ?_ (.inr GW200.out) _ | refine Kept.setCell ?_ (.inr GW202.out) _) | exact HK.out)).1) hn_))))); have n3_ := Aside0.mk (Kd.R_mono (ok' := fun k_ => ((P3_ k_ ∨ P4_ k_) ∨ w.heap.size ≤ k_)) ho1 (fun k_ hk_ => Or.elim hk_ (fun hs_ => Or.elim hs_ (fun hs_ => (HO_3.out.1 k_ (hs_).symm)) (fun hs_ => (HO_4.out.1 k_ (hs_).symm))) (fun hn_ => (.inr (Nat.le_trans (by first | exact HK.out.1 | exact (show Kept w _ (fun k_ => P3_ k_ ∨ P4_ k_) from by repeat (first | (with_reducible first | exact HK.out | apply Kept.alloc | apply Kept.drewN | apply Kept.drew | refine Kept.setCell ?_ (.inr GW200.out) _ | refine Kept.setCell ?_ (.inr GW202.out) _) | exact HK.out)).1) hn_))))); have n4_ := Aside0.mk (Kept.then_ (S := (fun k_ => P3_ k_ ∨ P4_ k_)) (by repeat (first | (with_reducible first | exact HK.out | apply Kept.alloc | apply Kept.drewN | apply Kept.drew | refine Kept.setCell ?_ (.inr GW200.out) _ | refine Kept.setCell ?_ (.inr GW202.out) _) | exact HK.out)) hkp (fun k_ hs_ => Or.elim hs_ (fun e_ => (fun e_ => (HO_3.out.1 k_ e_.symm)) e_) (fun e_ => (fun e_ => (HO_4.out.1 k_ e_.symm)) e_))); have n5_ := Aside0.mk (hb); clear BK200; clear BK202; clear HK; clear HB; clear HO_3; clear HO_4; have BK200 := n0_; have BK202 := n1_; have HO216 := n2_; have HO219 := n3_; have HK := n4_; have HB := n5_; clear n0_ n1_ n2_ n3_ n4_ n5_; (try clear hb); (try clear hkp); (try clear ho0); (try clear ho1); have hcz64_0 : w63.cell? ⟨gb200, 0, none⟩ = some (.slice (some ad201) l0_0.length c0_0) := (blk_cell BK200.out 0).trans rfl; have hfz64_0 := blk_frozen BK200.out 0; have p221 : 0 ≤ (x15_2 : Int) := of_decide_eq_true (by first | (with_reducible assumption) | assumption); have q221 : x15_2 < (l0_0.length : Int) := of_decide_eq_true (by first | (with_reducible assumption) | assumption); obtain ⟨ad221, e221, hx221_0, hx221_1, hx221_2, hx221_3, hx221_4, hx221_5, hx221_6⟩ := at_T99 (Kd.C_kept_now HR0_0.out HK.out) x15_2 p221 q221; obtain rfl : ad201 = ad221 := (by injection e221); replace p221 := eq_true p221; replace q221 := eq_true q221)))
                 go_roundg kj34
                 case measure => have := HJ7.out; have := HK2.out; have := HJ34.out; omega
                 case rel => exact ⟨(t214), (t217), (x15_2), ((rd_T99 l0_0 x15_2).f6), (by first | rfl | (simp; done) | (simp [*]; done)), (by first | rfl | (simp; done) | (simp [*]; done)), H', ⟨by have := HJ7.out; have := HK2.out; have := HJ34.out; omega⟩, ⟨by (with_reducible repeat (first | apply Kd.R_alloc | apply Kd.R_drewN | apply Kd.R_drew)); exact HO216.out⟩, ⟨by (with_reducible repeat (first | apply Kd.R_alloc | apply Kd.R_drewN | apply Kd.R_drew)); exact HO219.out⟩, ⟨by (with_reducible repeat (first | refine blk_drewN ?_ _ | refine blk_drew ?_ | refine blk_alloc ?_ _)); exact BK200.out⟩, ⟨by (with_reducible repeat (first | refine blk_drewN ?_ _ | refine blk_drew ?_ | refine blk_alloc ?_ _)); exact BK202.out⟩, ⟨by repeat (first | (with_reducible first | exact HK.out | apply Kept.alloc | apply Kept.drewN | apply Kept.drew | refine Kept.setCell ?_ (.inr GW200.out) _ | refine Kept.setCell ?_ (.inr GW202.out) _) | exact HK.out)⟩, ⟨by repeat (first | (with_reducible first | exact HB.out | apply below_alloc | apply pw_below_drewN | apply below_drew1 | refine below_set ?_ GE200.out | refine below_set ?_ GE202.out) | exact HB.out)⟩⟩
                ·rw [if_neg c58] at H
                 exact absurd H (by simp)
               ·rw [if_neg c57] at H
                exact absurd H (by simp)
              ·replace c56 := Bool.eq_false_iff.mpr c56
               subst c56
               have H1 : (some (t214, t217, false)) = some (r1, r2, r3) := by rw [if_neg (show ¬ (false = true) by decide)] at H; exact H
               clear H
               have H := H1
               clear H1
               simp only [Option.some.injEq, Prod.mk.injEq] at H
               obtain ⟨rfl, rfl, rfl⟩ := H
               have hnb65 := NB200_202.out
               have hnc65 := NB202_200.out
               have hcz66_0 : wc.cell? ⟨gb200, 0, none⟩ = some (.slice (some ad201) l0_0.length c0_0) := (blk_cell BK200.out 0).trans rfl
               have hfz66_0 := blk_frozen BK200.out 0
               obtain ⟨Ao67, co67, eo67⟩ := Kd.R_slice HO_3.out
               subst eo67
               obtain ⟨Ao68, co68, eo68⟩ := Kd.R_slice HO_4.out
               subst eo68
               go_wp2_with (first | (go_at_call 118; (with_reducible refine (ih kj34 (by have := HJ7.out; have := HK2.out; have := HJ34.out; omega) _ _ l0_0 x15_2 (wrap64 (a2 + 1)) (fun k_ => some k_ = (.slice Ao67 x3_2.length co67 : Value).ownBlock) (.slice Ao67 x3_2.length co67) x3_2 (fun k_ => some k_ = (.slice Ao68 x4_2.length co68 : Value).ownBlock) (.slice Ao68 x4_2.length co68) x4_2 t214 t217 false w0 _ ?side1 ?side2 ?side3 ?side4 ?side5 A55.out).mono ?_); (case side1 => repeat (first | (with_reducible first | exact HB.out | apply below_alloc | apply pw_below_drewN | apply below_drew1 | refine below_set ?_ GE200.out | refine below_set ?_ GE202.out) | exact HB.out)); (case side2 => exact Kd.C_kept_call HR0_0.out (by repeat (first | (with_reducible first | exact HK.out | apply Kept.alloc | apply Kept.drewN | apply Kept.drew | refine Kept.setCell ?_ (.inr GW200.out) _ | refine Kept.setCell ?_ (.inr GW202.out) _) | exact HK.out)) (fun k_ hs_ => Or.elim hs_ (fun e_ => (fun e_ => (HO_3.out.1 k_ e_.symm)) e_) (fun e_ => (fun e_ => (HO_4.out.1 k_ e_.symm)) e_))); (case side3 => exact HC0_0.out); (case side4 => exact Kd.R_tight rfl HO_3.out); (case side5 => exact Kd.R_tight rfl HO_4.out); rintro e w69 ⟨v215, v218, rfl, ho0, ho1, hb, hkp⟩; have n0_ := Aside0.mk (blk_kept (by (with_reducible repeat (first | refine blk_drewN ?_ _ | refine blk_drew ?_ | refine blk_alloc ?_ _)); exact BK200.out) hkp (fun hs_ => Or.elim hs_ (fun e_ => (fun e_ => (Kd.R_ne HO_3.out BK200.out (by decide)) e_) e_) (fun e_ => (fun e_ => (Kd.R_ne HO_4.out BK200.out (by decide)) e_) e_))); have n1_ := Aside0.mk (blk_kept (by (with_reducible repeat (first | refine blk_drewN ?_ _ | refine blk_drew ?_ | refine blk_alloc ?_ _)); exact BK202.out) hkp (fun hs_ => Or.elim hs_ (fun e_ => (fun e_ => (Kd.R_ne HO_3.out BK202.out (by decide)) e_) e_) (fun e_ => (fun e_ => (Kd.R_ne HO_4.out BK202.out (by decide)) e_) e_))); have n2_ := Aside0.mk (Kd.R_mono (ok' := fun k_ => ((P3_ k_ ∨ P4_ k_) ∨ w.heap.size ≤ k_)) ho0 (fun k_ hk_ => Or.elim hk_ (fun hs_ => Or.elim hs_ (fun hs_ => (HO_3.out.1 k_ (hs_).symm)) (fun hs_ => (HO_4.out.1 k_ (hs_).symm))) (fun hn_ => (.inr (Nat.le_trans (by first | exact HK.out.1 | exact (show Kept w _ (fun k_ => P3_ k_ ∨ P4_ k_) from by repeat (first | (with_reducible first | exact HK.out | apply Kept.alloc | apply Kept.drewN | apply Kept.drew | refine Kept.setCell ?_ (.inr GW200.out) _ | refine Kept.setCell ?_ (.inr GW202.out) _) | exact HK.out)).1) hn_))))); have n3_ := Aside0.mk (Kd.R_mono (ok' := fun k_ => ((P3_ k_ ∨ P4_ k_) ∨ w.heap.size ≤ k_)) ho1 (fun k_ hk_ => Or.elim hk_ (fun hs_ => Or.elim hs_ (fun hs_ => (HO_3.out.1 k_ (hs_).symm)) (fun hs_ => (HO_4.out.1 k_ (hs_).symm))) (fun hn_ => (.inr (Nat.le_trans (by first | exact HK.out.1 | exact (show Kept w _ (fun k_ => P3_ k_ ∨ P4_ k_) from by repeat (first | (with_reducible first | exact HK.out | apply Kept.alloc | apply Kept.drewN | apply Kept.drew | refine Kept.setCell ?_ (.inr GW200.out) _ | refine Kept.setCell ?_ (.inr GW202.out) _) | exact HK.out)).1) hn_))))); have n4_ := Aside0.mk (Kept.then_ (S := (fun k_ => P3_ k_ ∨ P4_ k_)) (by repeat (first | (with_reducible first | exact HK.out | apply Kept.alloc | apply Kept.drewN | apply Kept.drew | refine Kept.setCell ?_ (.inr GW200.out) _ | refine Kept.setCell ?_ (.inr GW202.out) _) | exact HK.out)) hkp (fun k_ hs_ => Or.elim hs_ (fun e_ => (fun e_ => (HO_3.out.1 k_ e_.symm)) e_) (fun e_ => (fun e_ => (HO_4.out.1 k_ e_.symm)) e_))); have n5_ := Aside0.mk (hb); clear BK200; clear BK202; clear HK; clear HB; clear HO_3; clear HO_4; have BK200 := n0_; have BK202 := n1_; have HO216 := n2_; have HO219 := n3_; have HK := n4_; have HB := n5_; clear n0_ n1_ n2_ n3_ n4_ n5_; (try clear hb); (try clear hkp); (try clear ho0); (try clear ho1)))
               repeat (go_quiet (first | (go_at_call 118; (with_reducible refine (ih kj34 (by have := HJ7.out; have := HK2.out; have := HJ34.out; omega) _ _ l0_0 x15_2 (wrap64 (a2 + 1)) (fun k_ => some k_ = (.slice Ao67 x3_2.length co67 : Value).ownBlock) (.slice Ao67 x3_2.length co67) x3_2 (fun k_ => some k_ = (.slice Ao68 x4_2.length co68 : Value).ownBlock) (.slice Ao68 x4_2.length co68) x4_2 t214 t217 false w0 _ ?side1 ?side2 ?side3 ?side4 ?side5 A55.out).mono ?_); (case side1 => repeat (first | (with_reducible first | exact HB.out | apply below_alloc | apply pw_below_drewN | apply below_drew1 | refine below_set ?_ GE200.out | refine below_set ?_ GE202.out) | exact HB.out)); (case side2 => exact Kd.C_kept_call HR0_0.out (by repeat (first | (with_reducible first | exact HK.out | apply Kept.alloc | apply Kept.drewN | apply Kept.drew | refine Kept.setCell ?_ (.inr GW200.out) _ | refine Kept.setCell ?_ (.inr GW202.out) _) | exact HK.out)) (fun k_ hs_ => Or.elim hs_ (fun e_ => (fun e_ => (HO_3.out.1 k_ e_.symm)) e_) (fun e_ => (fun e_ => (HO_4.out.1 k_ e_.symm)) e_))); (case side3 => exact HC0_0.out); (case side4 => exact Kd.R_tight rfl HO_3.out); (case side5 => exact Kd.R_tight rfl HO_4.out); rintro e w69 ⟨v215, v218, rfl, ho0, ho1, hb, hkp⟩; have n0_ := Aside0.mk (blk_kept (by (with_reducible repeat (first | refine blk_drewN ?_ _ | refine blk_drew ?_ | refine blk_alloc ?_ _)); exact BK200.out) hkp (fun hs_ => Or.elim hs_ (fun e_ => (fun e_ => (Kd.R_ne HO_3.out BK200.out (by decide)) e_) e_) (fun e_ => (fun e_ => (Kd.R_ne HO_4.out BK200.out (by decide)) e_) e_))); have n1_ := Aside0.mk (blk_kept (by (with_reducible repeat (first | refine blk_drewN ?_ _ | refine blk_drew ?_ | refine blk_alloc ?_ _)); exact BK202.out) hkp (fun hs_ => Or.elim hs_ (fun e_ => (fun e_ => (Kd.R_ne HO_3.out BK202.out (by decide)) e_) e_) (fun e_ => (fun e_ => (Kd.R_ne HO_4.out BK202.out (by decide)) e_) e_))); have n2_ := Aside0.mk (Kd.R_mono (ok' := fun k_ => ((P3_ k_ ∨ P4_ k_) ∨ w.heap.size ≤ k_)) ho0 (fun k_ hk_ => Or.elim hk_ (fun hs_ => Or.elim hs_ (fun hs_ => (HO_3.out.1 k_ (hs_).symm)) (fun hs_ => (HO_4.out.1 k_ (hs_).symm))) (fun hn_ => (.inr (Nat.le_trans (by first | exact HK.out.1 | exact (show Kept w _ (fun k_ => P3_ k_ ∨ P4_ k_) from by repeat (first | (with_reducible first | exact HK.out | apply Kept.alloc | apply Kept.drewN | apply Kept.drew | refine Kept.setCell ?_ (.inr GW200.out) _ | refine Kept.setCell ?_ (.inr GW202.out) _) | exact HK.out)).1) hn_))))); have n3_ := Aside0.mk (Kd.R_mono (ok' := fun k_ => ((P3_ k_ ∨ P4_ k_) ∨ w.heap.size ≤ k_)) ho1 (fun k_ hk_ => Or.elim hk_ (fun hs_ => Or.elim hs_ (fun hs_ => (HO_3.out.1 k_ (hs_).symm)) (fun hs_ => (HO_4.out.1 k_ (hs_).symm))) (fun hn_ => (.inr (Nat.le_trans (by first | exact HK.out.1 | exact (show Kept w _ (fun k_ => P3_ k_ ∨ P4_ k_) from by repeat (first | (with_reducible first | exact HK.out | apply Kept.alloc | apply Kept.drewN | apply Kept.drew | refine Kept.setCell ?_ (.inr GW200.out) _ | refine Kept.setCell ?_ (.inr GW202.out) _) | exact HK.out)).1) hn_))))); have n4_ := Aside0.mk (Kept.then_ (S := (fun k_ => P3_ k_ ∨ P4_ k_)) (by repeat (first | (with_reducible first | exact HK.out | apply Kept.alloc | apply Kept.drewN | apply Kept.drew | refine Kept.setCell ?_ (.inr GW200.out) _ | refine Kept.setCell ?_ (.inr GW202.out) _) | exact HK.out)) hkp (fun k_ hs_ => Or.elim hs_ (fun e_ => (fun e_ => (HO_3.out.1 k_ e_.symm)) e_) (fun e_ => (fun e_ => (HO_4.out.1 k_ e_.symm)) e_))); have n5_ := Aside0.mk (hb); clear BK200; clear BK202; clear HK; clear HB; clear HO_3; clear HO_4; have BK200 := n0_; have BK202 := n1_; have HO216 := n2_; have HO219 := n3_; have HK := n4_; have HB := n5_; clear n0_ n1_ n2_ n3_ n4_ n5_; (try clear hb); (try clear hkp); (try clear ho0); (try clear ho1))); try go_wp2_with (first | (go_at_call 118; (with_reducible refine (ih kj34 (by have := HJ7.out; have := HK2.out; have := HJ34.out; omega) _ _ l0_0 x15_2 (wrap64 (a2 + 1)) (fun k_ => some k_ = (.slice Ao67 x3_2.length co67 : Value).ownBlock) (.slice Ao67 x3_2.length co67) x3_2 (fun k_ => some k_ = (.slice Ao68 x4_2.length co68 : Value).ownBlock) (.slice Ao68 x4_2.length co68) x4_2 t214 t217 false w0 _ ?side1 ?side2 ?side3 ?side4 ?side5 A55.out).mono ?_); (case side1 => repeat (first | (with_reducible first | exact HB.out | apply below_alloc | apply pw_below_drewN | apply below_drew1 | refine below_set ?_ GE200.out | refine below_set ?_ GE202.out) | exact HB.out)); (case side2 => exact Kd.C_kept_call HR0_0.out (by repeat (first | (with_reducible first | exact HK.out | apply Kept.alloc | apply Kept.drewN | apply Kept.drew | refine Kept.setCell ?_ (.inr GW200.out) _ | refine Kept.setCell ?_ (.inr GW202.out) _) | exact HK.out)) (fun k_ hs_ => Or.elim hs_ (fun e_ => (fun e_ => (HO_3.out.1 k_ e_.symm)) e_) (fun e_ => (fun e_ => (HO_4.out.1 k_ e_.symm)) e_))); (case side3 => exact HC0_0.out); (case side4 => exact Kd.R_tight rfl HO_3.out); (case side5 => exact Kd.R_tight rfl HO_4.out); rintro e w69 ⟨v215, v218, rfl, ho0, ho1, hb, hkp⟩; have n0_ := Aside0.mk (blk_kept (by (with_reducible repeat (first | refine blk_drewN ?_ _ | refine blk_drew ?_ | refine blk_alloc ?_ _)); exact BK200.out) hkp (fun hs_ => Or.elim hs_ (fun e_ => (fun e_ => (Kd.R_ne HO_3.out BK200.out (by decide)) e_) e_) (fun e_ => (fun e_ => (Kd.R_ne HO_4.out BK200.out (by decide)) e_) e_))); have n1_ := Aside0.mk (blk_kept (by (with_reducible repeat (first | refine blk_drewN ?_ _ | refine blk_drew ?_ | refine blk_alloc ?_ _)); exact BK202.out) hkp (fun hs_ => Or.elim hs_ (fun e_ => (fun e_ => (Kd.R_ne HO_3.out BK202.out (by decide)) e_) e_) (fun e_ => (fun e_ => (Kd.R_ne HO_4.out BK202.out (by decide)) e_) e_))); have n2_ := Aside0.mk (Kd.R_mono (ok' := fun k_ => ((P3_ k_ ∨ P4_ k_) ∨ w.heap.size ≤ k_)) ho0 (fun k_ hk_ => Or.elim hk_ (fun hs_ => Or.elim hs_ (fun hs_ => (HO_3.out.1 k_ (hs_).symm)) (fun hs_ => (HO_4.out.1 k_ (hs_).symm))) (fun hn_ => (.inr (Nat.le_trans (by first | exact HK.out.1 | exact (show Kept w _ (fun k_ => P3_ k_ ∨ P4_ k_) from by repeat (first | (with_reducible first | exact HK.out | apply Kept.alloc | apply Kept.drewN | apply Kept.drew | refine Kept.setCell ?_ (.inr GW200.out) _ | refine Kept.setCell ?_ (.inr GW202.out) _) | exact HK.out)).1) hn_))))); have n3_ := Aside0.mk (Kd.R_mono (ok' := fun k_ => ((P3_ k_ ∨ P4_ k_) ∨ w.heap.size ≤ k_)) ho1 (fun k_ hk_ => Or.elim hk_ (fun hs_ => Or.elim hs_ (fun hs_ => (HO_3.out.1 k_ (hs_).symm)) (fun hs_ => (HO_4.out.1 k_ (hs_).symm))) (fun hn_ => (.inr (Nat.le_trans (by first | exact HK.out.1 | exact (show Kept w _ (fun k_ => P3_ k_ ∨ P4_ k_) from by repeat (first | (with_reducible first | exact HK.out | apply Kept.alloc | apply Kept.drewN | apply Kept.drew | refine Kept.setCell ?_ (.inr GW200.out) _ | refine Kept.setCell ?_ (.inr GW202.out) _) | exact HK.out)).1) hn_))))); have n4_ := Aside0.mk (Kept.then_ (S := (fun k_ => P3_ k_ ∨ P4_ k_)) (by repeat (first | (with_reducible first | exact HK.out | apply Kept.alloc | apply Kept.drewN | apply Kept.drew | refine Kept.setCell ?_ (.inr GW200.out) _ | refine Kept.setCell ?_ (.inr GW202.out) _) | exact HK.out)) hkp (fun k_ hs_ => Or.elim hs_ (fun e_ => (fun e_ => (HO_3.out.1 k_ e_.symm)) e_) (fun e_ => (fun e_ => (HO_4.out.1 k_ e_.symm)) e_))); have n5_ := Aside0.mk (hb); clear BK200; clear BK202; clear HK; clear HB; clear HO_3; clear HO_4; have BK200 := n0_; have BK202 := n1_; have HO216 := n2_; have HO219 := n3_; have HK := n4_; have HB := n5_; clear n0_ n1_ n2_ n3_ n4_ n5_; (try clear hb); (try clear hkp); (try clear ho0); (try clear ho1))))
               go_ret3
               exact ⟨_, _, by first | rfl | (simp [errW_none, errW_some] <;> rfl) | (simp [*, errW_none, errW_some] <;> rfl), by (with_reducible repeat (first | apply Kd.R_alloc | apply Kd.R_drewN | apply Kd.R_drew)); exact HO216.out, by (with_reducible repeat (first | apply Kd.R_alloc | apply Kd.R_drewN | apply Kd.R_drew)); exact HO219.out, by repeat (first | (with_reducible first | exact HB.out | apply below_alloc | apply pw_below_drewN | apply below_drew1 | refine below_set ?_ GE200.out | refine below_set ?_ GE202.out) | exact HB.out), by repeat (first | (with_reducible first | exact HK.out | apply Kept.alloc | apply Kept.drewN | apply Kept.drew | refine Kept.setCell ?_ (.inr GW200.out) _ | refine Kept.setCell ?_ (.inr GW202.out) _) | exact HK.out)⟩
       ·rw [if_neg c26] at H
        exact absurd H (by simp)
      ·rw [if_neg c25] at H
       exact absurd H (by simp)
  ·rw [if_neg c7] at H
   exact absurd H (by simp)
 ·rw [if_neg c6] at H
  exact absurd H (by simp)
end Go.Proofs.Ytbifdckfglejkaa.X
namespace Go.Proofs.Ytbifdckfglejkaa.X
open Go.RowKit Go.Proofs.YtbifdckfglejkaaW.PrintWords Go.Proofs.YtbifdckfglejkaaW.PrintLast Go.Proofs.YtbifdckfglejkaaW.PrintMore
attribute [local go_sem] max2_int min2_int max_two min_two max_three min_three max_four min_four   -- for this text's walks alone
set_option linter.unusedVariables false
set_option linter.unusedSimpArgs false
def impl_unused.f  : Option (Bool × Int × Int × Int × Int × Int × Int) := some (false, 0, (-1), (-1), (-1), (-1), (-1))
set_option maxHeartbeats 8000000 in
set_option maxRecDepth 100000 in
theorem impl_unused.calls  (r1 : Bool) (r2 : Int) (r3 : Int) (r4 : Int) (r5 : Int) (r6 : Int) (r7 : Int) (w : World) (h : impl_unused.f  = some (r1, r2, r3, r4, r5, r6, r7)) :
  Calls Try.prog 120 #[] w fun e w' => e = .returned (.agg #[.bool r1, .int .i64 r2, .int .i64 r3, .int .i64 r4, .int .i64 r5, .int .i64 r6, .int .i64 r7]) ∧ Below w.heap.size w w' := by
 have hu99 := Try.underlying99
 have HB := Aside0.mk (Below.refl w.heap.size w)
 have H : (some (false, 0, (-1), (-1), (-1), (-1), (-1))) = some (r1, r2, r3, r4, r5, r6, r7) := h
 clear h
 simp only [Option.some.injEq, Prod.mk.injEq] at H
 obtain ⟨rfl, rfl, rfl, rfl, rfl, rfl, rfl⟩ := H
 go_enter Try.func120, Try.ntmps120
 go_wp2_with (first | ((with_reducible refine gate_dst (N := 0) rfl ?_); refine box_event ?hg (N := 0) ?hd (cs := #[.bool false, .int .i64 0, .int .i64 0, .int .i64 0, .int .i64 0, .int .i64 0, .int .i64 0]) (t := 99) ?hr ?_; (case hd => rfl); (case hg => rfl); (case hr => first | (go_simp; done) | (go_simp; rfl)); intro gb222 hg w1 hbox hb; have n0_ := Aside0.mk (below_step (by repeat (first | (with_reducible first | exact HB.out | apply below_alloc | apply pw_below_drewN | apply below_drew1) | exact HB.out)) hb); have n1_ := Aside0.mk (hbox); have n2_ := Aside0.mk ((by rw [hg]; exact (below_size (by repeat (first | (with_reducible first | exact HB.out | apply below_alloc | apply pw_below_drewN | apply below_drew1) | exact HB.out))) : w.heap.size ≤ gb222)); have n3_ := Aside0.mk ((by rw [hg]; exact (below_size (by repeat (first | (with_reducible first | exact HB.out | apply below_alloc | apply pw_below_drewN | apply below_drew1) | exact HB.out))) : w.heap.size ≤ gb222)); clear HB; have HB := n0_; have BK222 := n1_; have GW222 := n2_; have GE222 := n3_; clear n0_ n1_ n2_ n3_; clear hb hbox hg; have hcz2_0 : w1.cell? ⟨gb222, 0, none⟩ = some (.bool false) := (blk_cell BK222.out 0).trans rfl; have hcz2_1 : w1.cell? ⟨gb222, 1, none⟩ = some (.int .i64 0) := (blk_cell BK222.out 1).trans rfl; have hcz2_2 : w1.cell? ⟨gb222, 2, none⟩ = some (.int .i64 0) := (blk_cell BK222.out 2).trans rfl; have hcz2_3 : w1.cell? ⟨gb222, 3, none⟩ = some (.int .i64 0) := (blk_cell BK222.out 3).trans rfl; have hcz2_4 : w1.cell? ⟨gb222, 4, none⟩ = some (.int .i64 0) := (blk_cell BK222.out 4).trans rfl; have hcz2_5 : w1.cell? ⟨gb222, 5, none⟩ = some (.int .i64 0) := (blk_cell BK222.out 5).trans rfl; have hcz2_6 : w1.cell? ⟨gb222, 6, none⟩ = some (.int .i64 0) := (blk_cell BK222.out 6).trans rfl; have hfz2_0 := blk_frozen BK222.out 0; have hfz2_1 := blk_frozen BK222.out 1; have hfz2_2 := blk_frozen BK222.out 2; have hfz2_3 := blk_frozen BK222.out 3; have hfz2_4 := blk_frozen BK222.out 4; have hfz2_5 := blk_frozen BK222.out 5; have hfz2_6 := blk_frozen BK222.out 6))
 refine bodyPost_ret (results_cell_row rfl _ _ gb222 99 #[.bool false, .int .i64 0, .int .i64 (-1), .int .i64 (-1), .int .i64 (-1), .int .i64 (-1), .int .i64 (-1)] (0, 0) _ rfl (by (with_reducible repeat (first | refine blk_drewN ?_ _ | refine blk_drew ?_ | refine blk_alloc ?_ _)); refine blk_put (cs := #[.bool false, .int .i64 0, .int .i64 (-1), .int .i64 (-1), .int .i64 (-1), .int .i64 (-1), .int .i64 0]) ?_ 6 _ rfl; (with_reducible repeat (first | refine blk_drewN ?_ _ | refine blk_drew ?_ | refine blk_alloc ?_ _)); refine blk_put (cs := #[.bool false, .int .i64 0, .int .i64 (-1), .int .i64 (-1), .int .i64 (-1), .int .i64 0, .int .i64 0]) ?_ 5 _ rfl; (with_reducible repeat (first | refine blk_drewN ?_ _ | refine blk_drew ?_ | refine blk_alloc ?_ _)); refine blk_put (cs := #[.bool false, .int .i64 0, .int .i64 (-1), .int .i64 (-1), .int .i64 0, .int .i64 0, .int .i64 0]) ?_ 4 _ rfl; (with_reducible repeat (first | refine blk_drewN ?_ _ | refine blk_drew ?_ | refine blk_alloc ?_ _)); refine blk_put (cs := #[.bool false, .int .i64 0, .int .i64 (-1), .int .i64 0, .int .i64 0, .int .i64 0, .int .i64 0]) ?_ 3 _ rfl; (with_reducible repeat (first | refine blk_drewN ?_ _ | refine blk_drew ?_ | refine blk_alloc ?_ _)); refine blk_put (cs := #[.bool false, .int .i64 0, .int .i64 0, .int .i64 0, .int .i64 0, .int .i64 0, .int .i64 0]) ?_ 2 _ rfl; (with_reducible repeat (first | refine blk_drewN ?_ _ | refine blk_drew ?_ | refine blk_alloc ?_ _)); refine blk_put (cs := #[.bool false, .int .i64 0, .int .i64 0, .int .i64 0, .int .i64 0, .int .i64 0, .int .i64 0]) ?_ 1 _ rfl; (with_reducible repeat (first | refine blk_drewN ?_ _ | refine blk_drew ?_ | refine blk_alloc ?_ _)); refine blk_put (cs := #[.bool false, .int .i64 0, .int .i64 0, .int .i64 0, .int .i64 0, .int .i64 0, .int .i64 0]) ?_ 0 _ rfl; (with_reducible repeat (first | refine blk_drewN ?_ _ | refine blk_drew ?_ | refine blk_alloc ?_ _)); exact BK222.out) Try.underlying99 rfl (by kernel_rfl)) rfl ?_
 exact ⟨by first | rfl | (simp [errW_none, errW_some] <;> rfl) | (simp [*, errW_none, errW_some] <;> rfl), by repeat (first | (with_reducible first | exact HB.out | apply below_alloc | apply pw_below_drewN | apply below_drew1 | refine below_set ?_ GE222.out) | exact HB.out)⟩
end Go.Proofs.Ytbifdckfglejkaa.X
