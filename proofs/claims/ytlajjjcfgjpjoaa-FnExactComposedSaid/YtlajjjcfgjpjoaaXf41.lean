-- PRINTED by print.py (a twelfth state) out of the translation. Not trusted: Lean checks it.
import Derived.Test.YtlajjjcfgjpjoaaX0
namespace Go.Proofs.Ytlajjjcfgjpjoaa.X
open Go.RowKit Go.Proofs.YtlajjjcfgjpjoaaW.PrintWords Go.Proofs.YtlajjjcfgjpjoaaW.PrintLast Go.Proofs.YtlajjjcfgjpjoaaW.PrintMore
attribute [local go_sem] max2_int min2_int max_two min_two max_three min_three max_four min_four   -- for this text's walks alone
set_option linter.unusedVariables false
set_option linter.unusedSimpArgs false

/-! ### impl_Composed: function 41 -/
mutual
def impl_Composed.l0 : Nat → List (S85) → List (S85) → List (S85) → Int → Int → Option ((List (S85)))
  | 0, _, _, _, _, _ => none
  | k + 1, x1, x5, x11, x12, x13 => if x13 < x12 then (if 0 ≤ x13 then (if x13 < (x11.length : Int) then (impl_Composed.l1 k x1 x5 x11 x12 x13 x1 (x1.length : Int) 0 ((rd_T85 x11 x13).f0) ((rd_T85 x11 x13).f1)) else (none)) else (none)) else (some x5)
def impl_Composed.l1 : Nat → List (S85) → List (S85) → List (S85) → Int → Int → List (S85) → Int → Int → Int → Int → Option ((List (S85)))
  | 0, _, _, _, _, _, _, _, _, _, _ => none
  | k + 1, x1, x5, x11, x12, x13, x17, x18, x19, x724000, x724001 => if x19 < x18 then (if 0 ≤ x19 then (if x19 < (x17.length : Int) then (if x724001 = ((rd_T85 x17 x19).f0) then (if x5.length < 8796093022208 then (impl_Composed.l1 k x1 (x5 ++ [(⟨x724000, (rd_T85 x17 x19).f1⟩ : S85)]) x11 x12 x13 x17 x18 (wrap64 (x19 + 1)) x724000 x724001) else (none)) else (impl_Composed.l1 k x1 x5 x11 x12 x13 x17 x18 (wrap64 (x19 + 1)) x724000 x724001)) else (none)) else (none)) else (impl_Composed.l0 k x1 x5 x11 x12 (wrap64 (x13 + 1)))
end
def impl_Composed.f (k : Nat) (l0 : List (S85)) (l1 : List (S85)) : Option ((List (S85))) := impl_Composed.l0 k l1 (([] : List (S85))) l0 (l0.length : Int) 0
theorem impl_Composed.mono_l : ∀ k, (∀ y0 y1 y2 y3 y4, LeO (impl_Composed.l0 k y0 y1 y2 y3 y4) (impl_Composed.l0 (k + 1) y0 y1 y2 y3 y4)) ∧ (∀ y0 y1 y2 y3 y4 y5 y6 y7 y8 y9, LeO (impl_Composed.l1 k y0 y1 y2 y3 y4 y5 y6 y7 y8 y9) (impl_Composed.l1 (k + 1) y0 y1 y2 y3 y4 y5 y6 y7 y8 y9))
  | 0 => ⟨fun _ _ _ _ _ r h => by simp [impl_Composed.l0] at h, fun _ _ _ _ _ _ _ _ _ _ r h => by simp [impl_Composed.l1] at h⟩
  | k + 1 => by
    obtain ⟨ih0, ih1⟩ := impl_Composed.mono_l k
    refine ⟨?_, ?_⟩
    · intro y0 y1 y2 y3 y4
      unfold impl_Composed.l0
      repeat' first
      | (with_reducible exact ih0 _ _ _ _ _)
      | (with_reducible exact ih1 _ _ _ _ _ _ _ _ _ _)
      | (with_reducible exact LeO.refl _)
      | (with_reducible exact LeO.none _)
      | (with_reducible refine LeO.ite ?_ ?_)
      | (with_reducible refine LeO.bind ?_ (fun _ => ?_))
      | exact ih0 _ _ _ _ _
      | exact ih1 _ _ _ _ _ _ _ _ _ _
      | exact LeO.none _
      | refine LeO.ite ?_ ?_
      | refine LeO.bind ?_ (fun _ => ?_)
    · intro y0 y1 y2 y3 y4 y5 y6 y7 y8 y9
      unfold impl_Composed.l1
      repeat' first
      | (with_reducible exact ih0 _ _ _ _ _)
      | (with_reducible exact ih1 _ _ _ _ _ _ _ _ _ _)
      | (with_reducible exact LeO.refl _)
      | (with_reducible exact LeO.none _)
      | (with_reducible refine LeO.ite ?_ ?_)
      | (with_reducible refine LeO.bind ?_ (fun _ => ?_))
      | exact ih0 _ _ _ _ _
      | exact ih1 _ _ _ _ _ _ _ _ _ _
      | exact LeO.none _
      | refine LeO.ite ?_ ?_
      | refine LeO.bind ?_ (fun _ => ?_)
theorem impl_Composed.mono : ∀ a0 a1 k, LeO (impl_Composed.f k a0 a1) (impl_Composed.f (k + 1) a0 a1) := by
  intro a0 a1 k
  obtain ⟨ih0, ih1⟩ := impl_Composed.mono_l k
  unfold impl_Composed.f
  repeat' first
      | (with_reducible exact ih0 _ _ _ _ _)
      | (with_reducible exact ih1 _ _ _ _ _ _ _ _ _ _)
      | (with_reducible exact LeO.refl _)
      | (with_reducible exact LeO.none _)
      | (with_reducible refine LeO.ite ?_ ?_)
      | (with_reducible refine LeO.bind ?_ (fun _ => ?_))
      | exact ih0 _ _ _ _ _
      | exact ih1 _ _ _ _ _ _ _ _ _ _
      | exact LeO.none _
      | refine LeO.ite ?_ ?_
      | refine LeO.bind ?_ (fun _ => ?_)
set_option maxHeartbeats 8000000 in
set_option maxRecDepth 100000 in
theorem impl_Composed.calls (k : Nat) (A0 : Option Addr) (c0 : Nat) (l0 : List (S85)) (A1 : Option Addr) (c1 : Nat) (l1 : List (S85)) (r : List (S85)) (w : World) (hr0 : Kd.C k85 w A0 l0.length l0) (hc0 : l0.length ≤ c0) (hr1 : Kd.C k85 w A1 l1.length l1) (hc1 : l1.length ≤ c1) (h : impl_Composed.f k l0 l1 = some r) :
    Calls Try.prog 41 #[.slice A0 l0.length c0, .slice A1 l1.length c1] w fun e w' => ∃ v0_ : Value, e = .returned (v0_) ∧ Kd.R k85 85 w' w.heap.size (fun _ => True) v0_ r ∧ Below w.heap.size w w' := by
  have hu85 := Try.underlying85
  have HR0 := Aside0.mk hr0
  have HC0 := Aside0.mk hc0
  clear hr0 hc0
  have HR1 := Aside0.mk hr1
  have HC1 := Aside0.mk hc1
  clear hr1 hc1
  have HB := Aside0.mk (Below.refl w.heap.size w)
  have H : (impl_Composed.l0 k l1 (([] : List (S85))) l0 (l0.length : Int) 0) = some r := h
  clear h
  obtain ⟨y719, hy719⟩ : ∃ y_ : List (S85), y_ = (([] : List (S85))) := ⟨_, rfl⟩
  replace H : (impl_Composed.l0 k l1 y719 l0 (l0.length : Int) 0) = some r := by first | (rw [hy719]; with_reducible exact H) | (have H2_ := (Option.bind_some _ _).symm.trans H; rw [hy719]; with_reducible exact H2_) | (have H2_ := (Option.bind_some _ _).symm.trans H; with_reducible exact H2_) | with_reducible exact H | (rw [hy719]; exact H) | exact H
  have Ny719 := Aside0.mk hy719
  clear hy719
  have H' := Aside0.mk H
  clear H
  go_enter Try.func41, Try.ntmps41
  go_wp2_with (first | ((with_reducible refine gate_dst (N := 10) rfl ?_); refine Kd.R_lit k85 _ 85 ?hg (N := 10) ?hd (xs := ([] : List (S85))) (inner := []) (ok := fun _ => True) (okp := fun _ => True) ?hr ?hp (fun _ hk => hk) trivial (Below.refl _ _) (Nat.le_refl _) (by simp) ?_; (case hd => rfl); (case hg => rfl); (case hr => first | (go_simp; done) | (go_simp; rfl)); (case hp => exact (Reps.none _ _)); intro v720 w3 ho4 hb hg_ hnew_; clear hg_ hnew_; (first | rw [← Ny719.out] at ho4 | (simp only [Int.reduceToNat] at ho4; rw [← Ny719.out] at ho4)); have n0_ := Aside0.mk (Kd.R_lower ho4 (below_size (by repeat (first | (with_reducible first | exact HB.out | apply below_alloc | apply pw_below_drewN | apply below_drew1) | exact HB.out)))); have n1_ := Aside0.mk (below_step (by repeat (first | (with_reducible first | exact HB.out | apply below_alloc | apply pw_below_drewN | apply below_drew1) | exact HB.out)) hb); clear HB; have HO721 := n0_; have HB := n1_; clear n0_ n1_; clear hb ho4))
  go_loopg [5, 13] k (fun kq v5 v13 w' => ∃ (x5_1 : List (S85)) (x13_1 : Int), v13 = .int .i64 x13_1 ∧ Aside0 (impl_Composed.l0 kq l1 x5_1 l0 (l0.length : Int) x13_1 = some r) ∧ Aside0 (kq ≤ k) ∧ Aside0 (Kd.R k85 85 w' w.heap.size (fun _ => True) v5 x5_1) ∧ Aside0 (Below w.heap.size w w'))
  case atStart => exact ⟨(y719), (0), (by first | rfl | (simp; done) | (simp [*]; done)), H', ⟨Nat.le_refl _⟩, ⟨by (with_reducible repeat (first | apply Kd.R_alloc | apply Kd.R_drewN | apply Kd.R_drew)); exact HO721.out⟩, ⟨by repeat (first | (with_reducible first | exact HB.out | apply below_alloc | apply pw_below_drewN | apply below_drew1) | exact HB.out)⟩⟩
  case round =>
    clear H'
    try clear c1
    try clear p2
    try clear c4
    obtain ⟨x5_1, x13_1, rfl, HA, HK1, HO_5, HB⟩ := hrel
    cases gk with
    | zero => exact absurd HA.out (by simp [impl_Composed.l0])
    | succ k1 =>
      have H := HA.out
      clear HA
      simp only [impl_Composed.l0] at H
      by_cases c5 : x13_1 < (l0.length : Int)
      · rw [if_pos c5] at H
        have c5b0 : decide (x13_1 < (l0.length : Int)) = true := decide_eq_true c5
        clear c5
        by_cases c6 : 0 ≤ x13_1
        · rw [if_pos c6] at H
          have c6b0 : decide (0 ≤ x13_1) = true := decide_eq_true c6
          clear c6
          by_cases c7 : x13_1 < (l0.length : Int)
          · rw [if_pos c7] at H
            have c7b0 : decide (x13_1 < (l0.length : Int)) = true := decide_eq_true c7
            clear c7
            have H' := Aside0.mk H
            clear H
            have p722 : 0 ≤ (x13_1 : Int) := of_decide_eq_true (by first | (with_reducible assumption) | assumption)
            have q722 : x13_1 < (l0.length : Int) := of_decide_eq_true (by first | (with_reducible assumption) | assumption)
            obtain ⟨ad722, e722, hx722_0, hx722_1⟩ := at_T85 HR0.out x13_1 p722 q722
            cases e722
            replace hx722_0 := (HB.out.cell (World.block_lt_of_cell? w _ hx722_0)).trans hx722_0
            replace hx722_1 := (HB.out.cell (World.block_lt_of_cell? w _ hx722_1)).trans hx722_1
            replace p722 := eq_true p722
            replace q722 := eq_true q722
            go_wp2_with (first | ((with_reducible refine gate_dst (N := 7) rfl ?_); refine box_event ?hg (N := 7) ?hd (cs := #[.int .i64 0, .int .i64 0]) (t := 85) ?hr ?_; (case hd => rfl); (case hg => rfl); (case hr => first | (go_simp; done) | (go_simp; rfl)); intro gb723 hg w8 hbox hb; have n0_ := Aside0.mk (Kd.R_below (Kd.R_elderB (by (with_reducible repeat (first | apply Kd.R_alloc | apply Kd.R_drewN | apply Kd.R_drew)); exact HO_5.out) gb723 (Nat.le_of_eq hg.symm)) hb); have n1_ := Aside0.mk (below_step (by repeat (first | (with_reducible first | exact HB.out | apply below_alloc | apply pw_below_drewN | apply below_drew1) | exact HB.out)) hb); have n2_ := Aside0.mk (hbox); have n3_ := Aside0.mk ((by rw [hg]; exact (below_size (by repeat (first | (with_reducible first | exact HB.out | apply below_alloc | apply pw_below_drewN | apply below_drew1) | exact HB.out))) : w.heap.size ≤ gb723)); have n4_ := Aside0.mk ((by rw [hg]; exact (below_size (by repeat (first | (with_reducible first | exact HB.out | apply below_alloc | apply pw_below_drewN | apply below_drew1) | exact HB.out))) : w.heap.size ≤ gb723)); clear HO_5; clear HB; have HO_5 := n0_; have HB := n1_; have BK723 := n2_; have GW723 := n3_; have GE723 := n4_; clear n0_ n1_ n2_ n3_ n4_; clear hb hbox hg; have hcz9_0 : w8.cell? ⟨gb723, 0, none⟩ = some (.int .i64 0) := (blk_cell BK723.out 0).trans rfl; have hcz9_1 : w8.cell? ⟨gb723, 1, none⟩ = some (.int .i64 0) := (blk_cell BK723.out 1).trans rfl; have hfz9_0 := blk_frozen BK723.out 0; have hfz9_1 := blk_frozen BK723.out 1))
            go_loopg [5, 19] k1 (fun kq v5 v19 w' => ∃ (x5_2 : List (S85)) (x19_2 : Int), v19 = .int .i64 x19_2 ∧ Aside0 (impl_Composed.l1 kq l1 x5_2 l0 (l0.length : Int) x13_1 l1 (l1.length : Int) x19_2 ((rd_T85 l0 x13_1).f0) ((rd_T85 l0 x13_1).f1) = some r) ∧ Aside0 (kq ≤ k1) ∧ Aside0 (Kd.R k85 85 w' w.heap.size (fun k_ => k_ ≠ gb723) v5 x5_2) ∧ Aside0 (w'.heap[gb723]? = some (.cells #[.int .i64 ((rd_T85 l0 x13_1).f0), .int .i64 ((rd_T85 l0 x13_1).f1)] 85 (0, 0))) ∧ Aside0 (Below w.heap.size w w'))
            case atStart => exact ⟨(x5_1), (0), (by first | rfl | (simp; done) | (simp [*]; done)), H', ⟨Nat.le_refl _⟩, ⟨by (with_reducible repeat (first | apply Kd.R_alloc | apply Kd.R_drewN | apply Kd.R_drew)); exact Kd.R_mono (Kd.R_far (p := ⟨gb723, 1, none⟩) (Kd.R_far (p := ⟨gb723, 0, none⟩) (Kd.R_mono HO_5.out (fun k_ hk => (⟨hk, hk.2⟩ : _ ∧ k_ ≠ gb723))) (fun _ hk => hk.2) (.int .i64 ((rd_T85 l0 x13_1).f0))) (fun _ hk => hk.2) (.int .i64 ((rd_T85 l0 x13_1).f1))) (fun _ hk => hk.1.2)⟩, ⟨by (with_reducible repeat (first | refine blk_drewN ?_ _ | refine blk_drew ?_ | refine blk_alloc ?_ _)); refine blk_put (cs := #[.int .i64 ((rd_T85 l0 x13_1).f0), .int .i64 0]) ?_ 1 _ rfl; (with_reducible repeat (first | refine blk_drewN ?_ _ | refine blk_drew ?_ | refine blk_alloc ?_ _)); refine blk_put (cs := #[.int .i64 0, .int .i64 0]) ?_ 0 _ rfl; (with_reducible repeat (first | refine blk_drewN ?_ _ | refine blk_drew ?_ | refine blk_alloc ?_ _)); exact BK723.out⟩, ⟨by repeat (first | (with_reducible first | exact HB.out | apply below_alloc | apply pw_below_drewN | apply below_drew1 | refine below_set ?_ GE723.out) | exact HB.out)⟩⟩
            case round =>
              clear H'
              try clear c1
              try clear p2
              try clear c4
              try clear c5
              try clear c5b0
              try clear c6
              try clear c6b0
              try clear c7
              try clear c7b0
              try clear p7
              try clear q7
              try clear hx7
              try clear hcz9_0
              try clear hcz9_1
              try clear hfz9_0
              try clear hfz9_1
              try clear hx722_0
              try clear hx722_1
              try clear p2
              try clear p722
              try clear q722
              obtain ⟨x5_2, x19_2, rfl, HA, HK2, HO_5, BK723, HB⟩ := hrel
              cases gk with
              | zero => exact absurd HA.out (by simp [impl_Composed.l1])
              | succ k2 =>
                have H := HA.out
                clear HA
                simp only [impl_Composed.l1] at H
                by_cases c10 : x19_2 < (l1.length : Int)
                · rw [if_pos c10] at H
                  have c10b0 : decide (x19_2 < (l1.length : Int)) = true := decide_eq_true c10
                  clear c10
                  by_cases c11 : 0 ≤ x19_2
                  · rw [if_pos c11] at H
                    have c11b0 : decide (0 ≤ x19_2) = true := decide_eq_true c11
                    clear c11
                    by_cases c12 : x19_2 < (l1.length : Int)
                    · rw [if_pos c12] at H
                      have c12b0 : decide (x19_2 < (l1.length : Int)) = true := decide_eq_true c12
                      clear c12
                      by_cases c13 : ((rd_T85 l0 x13_1).f1) = ((rd_T85 l1 x19_2).f0)
                      · rw [if_pos c13] at H
                        have c13b0 : (((rd_T85 l0 x13_1).f1) == ((rd_T85 l1 x19_2).f0)) = true := beq_iff_eq.mpr c13
                        have c13b1 : (((rd_T85 l0 x13_1).f1) != ((rd_T85 l1 x19_2).f0)) = false := bne_eq_false_iff_eq.mpr c13
                        clear c13
                        by_cases c14 : x5_2.length < 8796093022208
                        · rw [if_pos c14] at H
                          have LMc14 := Aside0.mk c14
                          clear c14
                          obtain ⟨y726, hy726⟩ : ∃ y_ : List (S85), y_ = (x5_2 ++ [(⟨((rd_T85 l0 x13_1).f0), (rd_T85 l1 x19_2).f1⟩ : S85)]) := ⟨_, rfl⟩
                          replace H : (impl_Composed.l1 k2 l1 y726 l0 (l0.length : Int) x13_1 l1 (l1.length : Int) (wrap64 (x19_2 + 1)) ((rd_T85 l0 x13_1).f0) ((rd_T85 l0 x13_1).f1)) = some r := by first | (rw [hy726]; with_reducible exact H) | (have H2_ := (Option.bind_some _ _).symm.trans H; rw [hy726]; with_reducible exact H2_) | (have H2_ := (Option.bind_some _ _).symm.trans H; with_reducible exact H2_) | with_reducible exact H | (rw [hy726]; exact H) | exact H
                          have Ny726 := Aside0.mk hy726
                          clear hy726
                          have H' := Aside0.mk H
                          clear H
                          have p724 : 0 ≤ (x19_2 : Int) := of_decide_eq_true (by first | (with_reducible assumption) | assumption)
                          have q724 : x19_2 < (l1.length : Int) := of_decide_eq_true (by first | (with_reducible assumption) | assumption)
                          obtain ⟨ad724, e724, hx724_0, hx724_1⟩ := at_T85 HR1.out x19_2 p724 q724
                          cases e724
                          replace hx724_0 := (HB.out.cell (World.block_lt_of_cell? w _ hx724_0)).trans hx724_0
                          replace hx724_1 := (HB.out.cell (World.block_lt_of_cell? w _ hx724_1)).trans hx724_1
                          replace p724 := eq_true p724
                          replace q724 := eq_true q724
                          go_wp2_with (first | ((with_reducible refine gate_dst (N := 9) rfl ?_); refine box_event ?hg (N := 9) ?hd (cs := #[.int .i64 0, .int .i64 0]) (t := 85) ?hr ?_; (case hd => rfl); (case hg => rfl); (case hr => first | (go_simp; done) | (go_simp; rfl)); intro gb725 hg w15 hbox hb; have n0_ := Aside0.mk (Kd.R_below (Kd.R_elderB (by (with_reducible repeat (first | apply Kd.R_alloc | apply Kd.R_drewN | apply Kd.R_drew)); exact HO_5.out) gb725 (Nat.le_of_eq hg.symm)) hb); have n1_ := Aside0.mk (blk_below (g := gb723) (o := .cells #[.int .i64 ((rd_T85 l0 x13_1).f0), .int .i64 ((rd_T85 l0 x13_1).f1)] 85 (0, 0)) (by (with_reducible repeat (first | refine blk_drewN ?_ _ | refine blk_drew ?_ | refine blk_alloc ?_ _)); exact BK723.out) hb); have n2_ := Aside0.mk (below_step (by repeat (first | (with_reducible first | exact HB.out | apply below_alloc | apply pw_below_drewN | apply below_drew1 | refine below_set ?_ GE723.out) | exact HB.out)) hb); have n3_ := Aside0.mk (hbox); have n4_ := Aside0.mk ((by rw [hg]; exact (below_size (by repeat (first | (with_reducible first | exact HB.out | apply below_alloc | apply pw_below_drewN | apply below_drew1 | refine below_set ?_ GE723.out) | exact HB.out))) : w.heap.size ≤ gb725)); have n5_ := Aside0.mk ((by rw [hg]; exact (below_size (by repeat (first | (with_reducible first | exact HB.out | apply below_alloc | apply pw_below_drewN | apply below_drew1 | refine below_set ?_ GE723.out) | exact HB.out))) : w.heap.size ≤ gb725)); have n6_ := Aside0.mk ((by rw [hg]; exact Nat.ne_of_lt (blk_lt (g := gb723) (o := .cells #[.int .i64 ((rd_T85 l0 x13_1).f0), .int .i64 ((rd_T85 l0 x13_1).f1)] 85 (0, 0)) (by (with_reducible repeat (first | refine blk_drewN ?_ _ | refine blk_drew ?_ | refine blk_alloc ?_ _)); exact BK723.out)) : gb723 ≠ gb725)); have n7_ := Aside0.mk ((by rw [hg]; exact Nat.ne_of_gt (blk_lt (g := gb723) (o := .cells #[.int .i64 ((rd_T85 l0 x13_1).f0), .int .i64 ((rd_T85 l0 x13_1).f1)] 85 (0, 0)) (by (with_reducible repeat (first | refine blk_drewN ?_ _ | refine blk_drew ?_ | refine blk_alloc ?_ _)); exact BK723.out)) : gb725 ≠ gb723)); clear HO_5; clear BK723; clear HB; have HO_5 := n0_; have BK723 := n1_; have HB := n2_; have BK725 := n3_; have GW725 := n4_; have GE725 := n5_; have NB723_725 := n6_; have NB725_723 := n7_; clear n0_ n1_ n2_ n3_ n4_ n5_ n6_ n7_; clear hb hbox hg; have hnb16 := NB725_723.out; have hnc16 := NB723_725.out; have hcz17_0 : w15.cell? ⟨gb725, 0, none⟩ = some (.int .i64 0) := (blk_cell BK725.out 0).trans rfl; have hcz17_1 : w15.cell? ⟨gb725, 1, none⟩ = some (.int .i64 0) := (blk_cell BK725.out 1).trans rfl; have hfz17_0 := blk_frozen BK725.out 0; have hfz17_1 := blk_frozen BK725.out 1; have hcz18_0 : w15.cell? ⟨gb723, 0, none⟩ = some (.int .i64 ((rd_T85 l0 x13_1).f0)) := (blk_cell BK723.out 0).trans rfl; have hcz18_1 : w15.cell? ⟨gb723, 1, none⟩ = some (.int .i64 ((rd_T85 l0 x13_1).f1)) := (blk_cell BK723.out 1).trans rfl; have hfz18_0 := blk_frozen BK723.out 0; have hfz18_1 := blk_frozen BK723.out 1) | ((with_reducible refine gate_builtin (b := .append) (xs := #[.tmp 28, .tmp 34]) rfl ?_); at_builtin; refine Kd.R_append k85 (w0 := w) w.heap.size rfl (.tmp 28) (.tmp 34) 27 85 (.agg #[(.int .i64 0), (.int .i64 0)]) 16 rfl Try.underlying27 info85 rfl (by decide) (by omega) u5 x5_2 (⟨((rd_T85 l0 x13_1).f0), (rd_T85 l1 x19_2).f1⟩ : S85) [.int .i64 ((rd_T85 l0 x13_1).f0), .int .i64 ((rd_T85 l1 x19_2).f1)] (fun k_ => k_ ≠ gb723 ∧ k_ ≠ gb725) (fun _ => False) rfl (by first | (go_simp; done) | (go_simp; rfl)) ?aP (fun _ hk => hk.elim) ?aF ?aO ?aB ?aS ?aL ?_; (case aP => exact k85_mkM _ _ _ (⟨((rd_T85 l0 x13_1).f0), (rd_T85 l1 x19_2).f1⟩ : S85)); (case aB => exact (by repeat (first | (with_reducible first | exact HB.out | apply below_alloc | apply pw_below_drewN | apply below_drew1 | refine below_set ?_ GE723.out | refine below_set ?_ GE725.out) | exact HB.out))); (case aF => exact (fun k_ hk => ⟨Kd.freshB (g := gb723) (o := .cells #[.int .i64 ((rd_T85 l0 x13_1).f0), .int .i64 ((rd_T85 l0 x13_1).f1)] 85 (0, 0)) (by (with_reducible repeat (first | refine blk_drewN ?_ _ | refine blk_drew ?_ | refine blk_alloc ?_ _)); refine blk_far ?_ NB723_725.out _; (with_reducible repeat (first | refine blk_drewN ?_ _ | refine blk_drew ?_ | refine blk_alloc ?_ _)); refine blk_far ?_ NB723_725.out _; (with_reducible repeat (first | refine blk_drewN ?_ _ | refine blk_drew ?_ | refine blk_alloc ?_ _)); exact BK723.out) k_ hk, Kd.freshB (g := gb725) (o := .cells #[.int .i64 ((rd_T85 l1 x19_2).f0), .int .i64 ((rd_T85 l1 x19_2).f1)] 85 (0, 0)) (by (with_reducible repeat (first | refine blk_drewN ?_ _ | refine blk_drew ?_ | refine blk_alloc ?_ _)); refine blk_put (cs := #[.int .i64 ((rd_T85 l1 x19_2).f0), .int .i64 0]) ?_ 1 _ rfl; (with_reducible repeat (first | refine blk_drewN ?_ _ | refine blk_drew ?_ | refine blk_alloc ?_ _)); refine blk_put (cs := #[.int .i64 0, .int .i64 0]) ?_ 0 _ rfl; (with_reducible repeat (first | refine blk_drewN ?_ _ | refine blk_drew ?_ | refine blk_alloc ?_ _)); exact BK725.out) k_ hk⟩)); (case aO => exact (by (with_reducible repeat (first | apply Kd.R_alloc | apply Kd.R_drewN | apply Kd.R_drew)); exact Kd.R_mono (Kd.R_far (p := ⟨gb725, 1, none⟩) (Kd.R_far (p := ⟨gb725, 0, none⟩) (Kd.R_mono HO_5.out (fun k_ hk => (⟨hk, hk.2⟩ : _ ∧ k_ ≠ gb725))) (fun _ hk => hk.2) (.int .i64 ((rd_T85 l1 x19_2).f0))) (fun _ hk => hk.2) (.int .i64 ((rd_T85 l1 x19_2).f1))) (fun _ hk => ⟨hk.1.1, hk.1.2⟩))); (case aS => exact (below_size (by repeat (first | (with_reducible first | exact HB.out | apply below_alloc | apply pw_below_drewN | apply below_drew1 | refine below_set ?_ GE723.out | refine below_set ?_ GE725.out) | exact HB.out)))); (case aL => have := LMc14.out; omega); intro v727 w19 ho hb hg hat; rw [← Ny726.out] at ho; have n0_ := Aside0.mk (blk_grown (g := gb723) (o := .cells #[.int .i64 ((rd_T85 l0 x13_1).f0), .int .i64 ((rd_T85 l0 x13_1).f1)] 85 (0, 0)) (by (with_reducible repeat (first | refine blk_drewN ?_ _ | refine blk_drew ?_ | refine blk_alloc ?_ _)); refine blk_far ?_ NB723_725.out _; (with_reducible repeat (first | refine blk_drewN ?_ _ | refine blk_drew ?_ | refine blk_alloc ?_ _)); refine blk_far ?_ NB723_725.out _; (with_reducible repeat (first | refine blk_drewN ?_ _ | refine blk_drew ?_ | refine blk_alloc ?_ _)); exact BK723.out) hg (Kd.R_away HO_5.out (fun _ hk => hk.1))); have n1_ := Aside0.mk (blk_grown (g := gb725) (o := .cells #[.int .i64 ((rd_T85 l1 x19_2).f0), .int .i64 ((rd_T85 l1 x19_2).f1)] 85 (0, 0)) (by (with_reducible repeat (first | refine blk_drewN ?_ _ | refine blk_drew ?_ | refine blk_alloc ?_ _)); refine blk_put (cs := #[.int .i64 ((rd_T85 l1 x19_2).f0), .int .i64 0]) ?_ 1 _ rfl; (with_reducible repeat (first | refine blk_drewN ?_ _ | refine blk_drew ?_ | refine blk_alloc ?_ _)); refine blk_put (cs := #[.int .i64 0, .int .i64 0]) ?_ 0 _ rfl; (with_reducible repeat (first | refine blk_drewN ?_ _ | refine blk_drew ?_ | refine blk_alloc ?_ _)); exact BK725.out) hg (Kd.R_away HO_5.out (fun _ hk => hk.2))); have n2_ := Aside0.mk (hb); have n3_ := Aside0.mk (ho); clear BK723; clear BK725; clear HB; clear HO_5; have BK723 := n0_; have BK725 := n1_; have HB := n2_; have HO728 := n3_; clear n0_ n1_ n2_ n3_; clear ho hb hg hat))
                          go_roundg k2
                          case measure => have := HK1.out; have := HK2.out; omega
                          case rel => exact ⟨(y726), (wrap64 (x19_2 + 1)), (by first | rfl | (simp; done) | (simp [*]; done)), H', ⟨by have := HK1.out; have := HK2.out; omega⟩, ⟨by (with_reducible repeat (first | apply Kd.R_alloc | apply Kd.R_drewN | apply Kd.R_drew)); exact Kd.R_mono HO728.out (fun _ hk => hk.1)⟩, ⟨by (with_reducible repeat (first | refine blk_drewN ?_ _ | refine blk_drew ?_ | refine blk_alloc ?_ _)); exact BK723.out⟩, ⟨by repeat (first | (with_reducible first | exact HB.out | apply below_alloc | apply pw_below_drewN | apply below_drew1 | refine below_set ?_ GE723.out | refine below_set ?_ GE725.out) | exact HB.out)⟩⟩
                        · rw [if_neg c14] at H
                          exact absurd H (by simp)
                      · rw [if_neg c13] at H
                        have c13b0 : (((rd_T85 l0 x13_1).f1) == ((rd_T85 l1 x19_2).f0)) = false := beq_eq_false_iff_ne.mpr c13
                        have c13b1 : (((rd_T85 l0 x13_1).f1) != ((rd_T85 l1 x19_2).f0)) = true := bne_iff_ne.mpr c13
                        have H' := Aside0.mk H
                        clear H
                        have p724 : 0 ≤ (x19_2 : Int) := of_decide_eq_true (by first | (with_reducible assumption) | assumption)
                        have q724 : x19_2 < (l1.length : Int) := of_decide_eq_true (by first | (with_reducible assumption) | assumption)
                        obtain ⟨ad724, e724, hx724_0, hx724_1⟩ := at_T85 HR1.out x19_2 p724 q724
                        cases e724
                        replace hx724_0 := (HB.out.cell (World.block_lt_of_cell? w _ hx724_0)).trans hx724_0
                        replace hx724_1 := (HB.out.cell (World.block_lt_of_cell? w _ hx724_1)).trans hx724_1
                        replace p724 := eq_true p724
                        replace q724 := eq_true q724
                        go_wp2_with (first | ((with_reducible refine gate_dst (N := 9) rfl ?_); refine box_event ?hg (N := 9) ?hd (cs := #[.int .i64 0, .int .i64 0]) (t := 85) ?hr ?_; (case hd => rfl); (case hg => rfl); (case hr => first | (go_simp; done) | (go_simp; rfl)); intro gb725 hg w20 hbox hb; have n0_ := Aside0.mk (Kd.R_below (Kd.R_elderB (by (with_reducible repeat (first | apply Kd.R_alloc | apply Kd.R_drewN | apply Kd.R_drew)); exact HO_5.out) gb725 (Nat.le_of_eq hg.symm)) hb); have n1_ := Aside0.mk (blk_below (g := gb723) (o := .cells #[.int .i64 ((rd_T85 l0 x13_1).f0), .int .i64 ((rd_T85 l0 x13_1).f1)] 85 (0, 0)) (by (with_reducible repeat (first | refine blk_drewN ?_ _ | refine blk_drew ?_ | refine blk_alloc ?_ _)); exact BK723.out) hb); have n2_ := Aside0.mk (below_step (by repeat (first | (with_reducible first | exact HB.out | apply below_alloc | apply pw_below_drewN | apply below_drew1 | refine below_set ?_ GE723.out) | exact HB.out)) hb); have n3_ := Aside0.mk (hbox); have n4_ := Aside0.mk ((by rw [hg]; exact (below_size (by repeat (first | (with_reducible first | exact HB.out | apply below_alloc | apply pw_below_drewN | apply below_drew1 | refine below_set ?_ GE723.out) | exact HB.out))) : w.heap.size ≤ gb725)); have n5_ := Aside0.mk ((by rw [hg]; exact (below_size (by repeat (first | (with_reducible first | exact HB.out | apply below_alloc | apply pw_below_drewN | apply below_drew1 | refine below_set ?_ GE723.out) | exact HB.out))) : w.heap.size ≤ gb725)); have n6_ := Aside0.mk ((by rw [hg]; exact Nat.ne_of_lt (blk_lt (g := gb723) (o := .cells #[.int .i64 ((rd_T85 l0 x13_1).f0), .int .i64 ((rd_T85 l0 x13_1).f1)] 85 (0, 0)) (by (with_reducible repeat (first | refine blk_drewN ?_ _ | refine blk_drew ?_ | refine blk_alloc ?_ _)); exact BK723.out)) : gb723 ≠ gb725)); have n7_ := Aside0.mk ((by rw [hg]; exact Nat.ne_of_gt (blk_lt (g := gb723) (o := .cells #[.int .i64 ((rd_T85 l0 x13_1).f0), .int .i64 ((rd_T85 l0 x13_1).f1)] 85 (0, 0)) (by (with_reducible repeat (first | refine blk_drewN ?_ _ | refine blk_drew ?_ | refine blk_alloc ?_ _)); exact BK723.out)) : gb725 ≠ gb723)); clear HO_5; clear BK723; clear HB; have HO_5 := n0_; have BK723 := n1_; have HB := n2_; have BK725 := n3_; have GW725 := n4_; have GE725 := n5_; have NB723_725 := n6_; have NB725_723 := n7_; clear n0_ n1_ n2_ n3_ n4_ n5_ n6_ n7_; clear hb hbox hg; have hnb21 := NB725_723.out; have hnc21 := NB723_725.out; have hcz22_0 : w20.cell? ⟨gb725, 0, none⟩ = some (.int .i64 0) := (blk_cell BK725.out 0).trans rfl; have hcz22_1 : w20.cell? ⟨gb725, 1, none⟩ = some (.int .i64 0) := (blk_cell BK725.out 1).trans rfl; have hfz22_0 := blk_frozen BK725.out 0; have hfz22_1 := blk_frozen BK725.out 1; have hcz23_0 : w20.cell? ⟨gb723, 0, none⟩ = some (.int .i64 ((rd_T85 l0 x13_1).f0)) := (blk_cell BK723.out 0).trans rfl; have hcz23_1 : w20.cell? ⟨gb723, 1, none⟩ = some (.int .i64 ((rd_T85 l0 x13_1).f1)) := (blk_cell BK723.out 1).trans rfl; have hfz23_0 := blk_frozen BK723.out 0; have hfz23_1 := blk_frozen BK723.out 1))
                        go_roundg k2
                        case measure => have := HK1.out; have := HK2.out; omega
                        case rel => exact ⟨(x5_2), (wrap64 (x19_2 + 1)), (by first | rfl | (simp; done) | (simp [*]; done)), H', ⟨by have := HK1.out; have := HK2.out; omega⟩, ⟨by (with_reducible repeat (first | apply Kd.R_alloc | apply Kd.R_drewN | apply Kd.R_drew)); exact Kd.R_mono (Kd.R_far (p := ⟨gb725, 1, none⟩) (Kd.R_far (p := ⟨gb725, 0, none⟩) (Kd.R_mono HO_5.out (fun k_ hk => (⟨hk, hk.2⟩ : _ ∧ k_ ≠ gb725))) (fun _ hk => hk.2) (.int .i64 ((rd_T85 l1 x19_2).f0))) (fun _ hk => hk.2) (.int .i64 ((rd_T85 l1 x19_2).f1))) (fun _ hk => hk.1.1)⟩, ⟨by (with_reducible repeat (first | refine blk_drewN ?_ _ | refine blk_drew ?_ | refine blk_alloc ?_ _)); refine blk_far ?_ NB723_725.out _; (with_reducible repeat (first | refine blk_drewN ?_ _ | refine blk_drew ?_ | refine blk_alloc ?_ _)); refine blk_far ?_ NB723_725.out _; (with_reducible repeat (first | refine blk_drewN ?_ _ | refine blk_drew ?_ | refine blk_alloc ?_ _)); exact BK723.out⟩, ⟨by repeat (first | (with_reducible first | exact HB.out | apply below_alloc | apply pw_below_drewN | apply below_drew1 | refine below_set ?_ GE723.out | refine below_set ?_ GE725.out) | exact HB.out)⟩⟩
                    · rw [if_neg c12] at H
                      exact absurd H (by simp)
                  · rw [if_neg c11] at H
                    exact absurd H (by simp)
                · rw [if_neg c10] at H
                  have c10b0 : decide (x19_2 < (l1.length : Int)) = false := decide_eq_false c10
                  clear c10
                  have H' := Aside0.mk H
                  clear H
                  go_wp2
                  go_roundg k2
                  case measure => have := HK1.out; have := HK2.out; omega
                  case rel => exact ⟨(x5_2), (wrap64 (x13_1 + 1)), (by first | rfl | (simp; done) | (simp [*]; done)), H', ⟨by have := HK1.out; have := HK2.out; omega⟩, ⟨by (with_reducible repeat (first | apply Kd.R_alloc | apply Kd.R_drewN | apply Kd.R_drew)); exact Kd.R_mono HO_5.out (fun _ hk => trivial)⟩, ⟨by repeat (first | (with_reducible first | exact HB.out | apply below_alloc | apply pw_below_drewN | apply below_drew1 | refine below_set ?_ GE723.out) | exact HB.out)⟩⟩
          · rw [if_neg c7] at H
            exact absurd H (by simp)
        · rw [if_neg c6] at H
          exact absurd H (by simp)
      · rw [if_neg c5] at H
        have c5b0 : decide (x13_1 < (l0.length : Int)) = false := decide_eq_false c5
        clear c5
        obtain rfl := Option.some.inj H
        go_wp2
        go_ret
        exact ⟨_, by first | rfl | (simp [errW_none, errW_some] <;> rfl) | (simp [*, errW_none, errW_some] <;> rfl), by (with_reducible repeat (first | apply Kd.R_alloc | apply Kd.R_drewN | apply Kd.R_drew)); exact HO_5.out, by repeat (first | (with_reducible first | exact HB.out | apply below_alloc | apply pw_below_drewN | apply below_drew1) | exact HB.out)⟩

end Go.Proofs.Ytlajjjcfgjpjoaa.X
