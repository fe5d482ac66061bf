/- Part 5 of the proof of FnExactDomSize: what it needs. -/
import Derived.Test.YtbifdckfglejkaaKEDomSize4
namespace Go.Proofs.Ytbifdckfglejkaa.X
open Go.RowKit Go.Proofs.YtbifdckfglejkaaW.PrintWords Go.Proofs.YtbifdckfglejkaaW.PrintLast Go.Proofs.YtbifdckfglejkaaW.PrintMore
attribute [local go_sem] max2_int min2_int max_two min_two max_three min_three max_four min_four   -- for this text's walks alone
set_option linter.unusedVariables false
set_option linter.unusedSimpArgs false
attribute [local go_sem high] eqA99
mutual
def spec_DomOk.j0 : Nat → Bool → List (S99) → Option (Bool)
 | 0, _, _ => none
 | k + 1, x44, x141000 => if x44 = true then (some false) else ((spec_l16Walk.f k x141000 0 0 ([] : List Int) ([] : List Int)).bind fun bt146 => (if (bt146.1.length : Int) > 24 then (some false) else (if 0 ≤ (x141000.length : Int) then (if ((x141000.length : Int) : Int).toNat ≤ 281474976710656 then (spec_DomOk.l0 k bt146.1 (List.replicate ((x141000.length : Int) : Int).toNat false) 0 x141000) else (none)) else (none))))
def spec_DomOk.l0 : Nat → List Int → List Bool → Int → List (S99) → Option (Bool)
 | 0, _, _, _, _ => none
 | k + 1, x3, x5, x6, x141000 => if x6 < (x3.length : Int) then (if 0 ≤ x6 then (if 0 ≤ (rd x3 x6) then (if (rd x3 x6) < (x5.length : Int) then (if rdOf false x5 (rd x3 x6) = true then (some false) else (if (rd x3 x6) < (x141000.length : Int) then (if ((rd_T99 x141000 (rd x3 x6)).f0 = true) then ((spec_LabelOk.f ((rd_T99 x141000 (rd x3 x6)).f1)).bind fun t161 => (if t161 = true then (spec_DomOk.l0 k x3 (x5.set ((rd x3 x6) : Int).toNat true) (wrap64 (x6 + 1)) x141000) else (some false))) else (some false)) else (none))) else (none)) else (none)) else (none)) else (spec_DomOk.l1 k x5 0 x141000)
def spec_DomOk.l1 : Nat → List Bool → Int → List (S99) → Option (Bool)
 | 0, _, _, _ => none
 | k + 1, x5, x7, x141000 => if x7 < (x141000.length : Int) then (if 0 ≤ x7 then (if x7 < (x5.length : Int) then (if rdOf false x5 x7 = true then ((spec_l16Links.f k x141000 x7).bind fun t166 => (if t166 = true then (spec_DomOk.l1 k x5 (wrap64 (x7 + 1)) x141000) else (some false))) else ((spec_l16Empty.f).bind fun bt168 => (if (!(((rd_T99 x141000 x7).f0) == bt168.1) || (!(((rd_T99 x141000 x7).f1) == bt168.2.1) || (!(((rd_T99 x141000 x7).f2) == bt168.2.2.1) || (!(((rd_T99 x141000 x7).f3) == bt168.2.2.2.1) || (!(((rd_T99 x141000 x7).f4) == bt168.2.2.2.2.1) || (!(((rd_T99 x141000 x7).f5) == bt168.2.2.2.2.2.1) || (!(((rd_T99 x141000 x7).f6) == bt168.2.2.2.2.2.2)))))))) = true then (some false) else (spec_DomOk.l1 k x5 (wrap64 (x7 + 1)) x141000)))) else (none)) else (none)) else (some true)
end
def spec_DomOk.f (k : Nat) (l0_0 : List (S99)) : Option (Bool) := (spec_l1In.f (l0_0.length : Int) 1 24).bind fun t141 => (if t141 = true then (if 0 < (l0_0.length : Int) then (if ((rd_T99 l0_0 0).f0 = true) then (if ((rd_T99 l0_0 0).f2) = (-1) then (if ((rd_T99 l0_0 0).f5) = (-1) then (spec_DomOk.j0 k (((rd_T99 l0_0 0).f6) != (-1)) l0_0) else (spec_DomOk.j0 k true l0_0)) else (spec_DomOk.j0 k true l0_0)) else (spec_DomOk.j0 k true l0_0)) else (none)) else (spec_DomOk.j0 k true l0_0))
def spec_DomOk.T10 : Bool × List (List Nat × List Nat) := (true, [([], []), ([], []), ([], []), ([1, 2], [1, 2]), ([3], [3]), ([0, 4], [0, 4]), ([5], [5]), ([6], [6]), ([7], [7]), ([8, 7], [7, 8]), ([7], [7]), ([7], [7]), ([10, 11, 7], [7, 10, 11]), ([12, 7], [7, 12]), ([9, 13, 7], [7, 9, 13]), ([14, 7], [7, 14]), ([15, 7], [7, 15]), ([16, 7], [7, 16]), ([7, 17], [7, 17]), ([18, 7], [18]), ([19], [19]), ([20, 19], [19, 20]), ([19], [19]), ([19], [19]), ([22, 23, 19], [19, 22, 23]), ([24, 19], [19, 24]), ([21, 25, 19], [19, 21, 25]), ([26, 19], [19, 26]), ([27, 19], [19, 27]), ([28, 19, 19], [19, 28]), ([29, 19], [19, 29]), ([19, 30], [19, 30])])
def spec_DomOk.B10 : List Nat := [0, 0, 0, 6, 14, 31, 63, 127, 255, 511, 255, 255, 3327, 7423, 16383, 32767, 65535, 131071, 262143, 524287, 1048575, 2097151, 1048575, 1048575, 13631487, 30408703, 67108863, 134217727, 268435455, 536870911, 1073741823, 2147483647]
theorem spec_DomOk.tab10 : rtab .any (opsOf Try.f15 10) = spec_DomOk.T10 := by kernel_rfl
theorem spec_DomOk.bits10 : waitsOk spec_DomOk.T10.2 spec_DomOk.B10 = true := by kernel_rfl
def spec_DomOk.T16 : Bool × List (List Nat × List Nat) := (true, [([], []), ([], []), ([0, 1], [0, 1]), ([2], [2]), ([3], [3]), ([4], [4]), ([5], [5]), ([6, 5], [5, 6]), ([5], [5]), ([7, 8, 5], [5, 7, 8]), ([9, 5], [5, 9]), ([5, 5], [5]), ([10, 11, 5], [5, 10, 11]), ([5, 12], [5, 12]), ([13, 11], [13]), ([14], [14]), ([14], [14]), ([15, 16, 14], [14, 15, 16]), ([17, 14], [14, 17]), ([18, 14, 14], [14, 18]), ([19], [19]), ([19], [19]), ([20, 21, 19, 19], [19, 20, 21]), ([22, 19], [19, 22]), ([19, 23, 14], [14, 19, 23]), ([14, 24], [14, 24])])
def spec_DomOk.B16 : List Nat := [0, 0, 3, 7, 15, 31, 63, 127, 63, 511, 1023, 63, 4095, 8191, 16383, 32767, 32767, 131071, 262143, 524287, 1048575, 1048575, 4194303, 8388607, 16777215, 33554431]
theorem spec_DomOk.tab16 : rtab .any (opsOf Try.f15 16) = spec_DomOk.T16 := by kernel_rfl
theorem spec_DomOk.bits16 : waitsOk spec_DomOk.T16.2 spec_DomOk.B16 = true := by kernel_rfl
set_option maxHeartbeats 8000000 in
set_option maxRecDepth 100000 in
theorem spec_DomOk.calls (k : Nat) (A0_0 : Option Addr) (c0_0 : Nat) (l0_0 : List (S99)) (r : Bool) (w : World) (hr0_0 : Kd.C k99 w A0_0 l0_0.length l0_0) (hc0_0 : l0_0.length ≤ c0_0) (h : spec_DomOk.f k l0_0 = some r) :
  Calls Try.prog 15 #[.agg #[.slice A0_0 l0_0.length c0_0]] w fun e w' => e = .returned (.bool r) ∧ Below w.heap.size w w' := by
 have hu29 := Try.underlying29
 have hu99 := Try.underlying99
 have HR0_0 := Aside0.mk hr0_0
 have HC0_0 := Aside0.mk hc0_0
 clear hr0_0 hc0_0
 have HB := Aside0.mk (Below.refl w.heap.size w)
 have H : ((spec_l1In.f (l0_0.length : Int) 1 24).bind fun t141 => (if t141 = true then (if 0 < (l0_0.length : Int) then (if ((rd_T99 l0_0 0).f0 = true) then (if ((rd_T99 l0_0 0).f2) = (-1) then (if ((rd_T99 l0_0 0).f5) = (-1) then (spec_DomOk.j0 k (((rd_T99 l0_0 0).f6) != (-1)) l0_0) else (spec_DomOk.j0 k true l0_0)) else (spec_DomOk.j0 k true l0_0)) else (spec_DomOk.j0 k true l0_0)) else (none)) else (spec_DomOk.j0 k true l0_0))) = some r := h
 clear h
 have HC2 := Aside0.mk H
 clear H
 go_enter Try.func15, Try.ntmps15
 go_upto_region 1 with (first | ((with_reducible refine gate_dst (N := 1) rfl ?_); refine box_event ?hg (N := 1) ?hd (cs := #[.slice A0_0 l0_0.length c0_0]) (t := 29) ?hr ?_; (case hd => rfl); (case hg => rfl); (case hr => first | (go_simp; done) | (go_simp; rfl)); intro gb140 hg w3 hbox hb; have n0_ := Aside0.mk (below_step (by repeat (first | (with_reducible first | exact HB.out | apply below_alloc | apply pw_below_drewN | apply below_drew1) | exact HB.out)) hb); have n1_ := Aside0.mk (hbox); have n2_ := Aside0.mk ((by rw [hg]; exact (below_size (by repeat (first | (with_reducible first | exact HB.out | apply below_alloc | apply pw_below_drewN | apply below_drew1) | exact HB.out))) : w.heap.size ≤ gb140)); have n3_ := Aside0.mk ((by rw [hg]; exact (below_size (by repeat (first | (with_reducible first | exact HB.out | apply below_alloc | apply pw_below_drewN | apply below_drew1) | exact HB.out))) : w.heap.size ≤ gb140)); clear HB; have HB := n0_; have BK140 := n1_; have GW140 := n2_; have GE140 := n3_; clear n0_ n1_ n2_ n3_; clear hb hbox hg))
 (try simp only [Act.put, List.setIfInBounds_toArray, List.set_cons_zero, List.set_cons_succ])
 go_cut [44] (fun v44 wc => ∃ (kq : Nat) (x44_1 : Bool), v44 = .bool x44_1 ∧ Aside0 (spec_DomOk.j0 kq x44_1 l0_0 = some r) ∧ Aside0 (kq ≤ k) ∧ Aside0 (wc.heap[gb140]? = some (.cells #[(.slice A0_0 l0_0.length c0_0)] 29 (0, 0))) ∧ Aside0 (Below w.heap.size w wc))
 case first =>
  have H := HC2.out
  clear HC2
  replace H := Option.bind_eq_some_iff.mp H
  obtain ⟨t141, A40, H⟩ := H
  replace H : (if t141 = true then (if 0 < (l0_0.length : Int) then (if ((rd_T99 l0_0 0).f0 = true) then (if ((rd_T99 l0_0 0).f2) = (-1) then (if ((rd_T99 l0_0 0).f5) = (-1) then (spec_DomOk.j0 k (((rd_T99 l0_0 0).f6) != (-1)) l0_0) else (spec_DomOk.j0 k true l0_0)) else (spec_DomOk.j0 k true l0_0)) else (spec_DomOk.j0 k true l0_0)) else (none)) else (spec_DomOk.j0 k true l0_0)) = some r := H
  have A4 := Aside0.mk A40
  clear A40
  by_cases c5 : t141 = true
  ·subst c5
   have H1 : (if 0 < (l0_0.length : Int) then (if ((rd_T99 l0_0 0).f0 = true) then (if ((rd_T99 l0_0 0).f2) = (-1) then (if ((rd_T99 l0_0 0).f5) = (-1) then (spec_DomOk.j0 k (((rd_T99 l0_0 0).f6) != (-1)) l0_0) else (spec_DomOk.j0 k true l0_0)) else (spec_DomOk.j0 k true l0_0)) else (spec_DomOk.j0 k true l0_0)) else (none)) = some r := by rw [if_pos rfl] at H; exact H
   clear H
   have H := H1
   clear H1
   by_cases c6 : 0 < (l0_0.length : Int)
   ·rw [if_pos c6] at H
    have c6b0 : decide (0 < (l0_0.length : Int)) = true := decide_eq_true c6
    have c6b1 : decide (0 < l0_0.length) = true := decide_eq_true (by omega)
    clear c6
    (first | rw [c6b0] | (simp only [i64_w, i32_w]; rw [c6b0]) | skip)
    obtain ⟨bq7, hbq7⟩ : ∃ b_ : Bool, b_ = ((rd_T99 l0_0 0).f0) := ⟨_, rfl⟩
    replace H : (if (bq7 = true) then (if ((rd_T99 l0_0 0).f2) = (-1) then (if ((rd_T99 l0_0 0).f5) = (-1) then (spec_DomOk.j0 k (((rd_T99 l0_0 0).f6) != (-1)) l0_0) else (spec_DomOk.j0 k true l0_0)) else (spec_DomOk.j0 k true l0_0)) else (spec_DomOk.j0 k true l0_0)) = some r := by rw [← hbq7] at H; exact H
    have Nbq7 := Aside0.mk hbq7
    clear hbq7
    by_cases c8 : (bq7 = true)
    ·subst c8
     have H1 : (if ((rd_T99 l0_0 0).f2) = (-1) then (if ((rd_T99 l0_0 0).f5) = (-1) then (spec_DomOk.j0 k (((rd_T99 l0_0 0).f6) != (-1)) l0_0) else (spec_DomOk.j0 k true l0_0)) else (spec_DomOk.j0 k true l0_0)) = some r := by rw [if_pos rfl] at H; exact H
     clear H
     have H := H1
     clear H1
     by_cases c9 : ((rd_T99 l0_0 0).f2) = (-1)
     ·rw [if_pos c9] at H
      have c9b0 : (((rd_T99 l0_0 0).f2) == (-1)) = true := beq_iff_eq.mpr c9
      have c9b1 : (((rd_T99 l0_0 0).f2) != (-1)) = false := bne_eq_false_iff_eq.mpr c9
      clear c9
      by_cases c10 : ((rd_T99 l0_0 0).f5) = (-1)
      ·rw [if_pos c10] at H
       have c10b0 : (((rd_T99 l0_0 0).f5) == (-1)) = true := beq_iff_eq.mpr c10
       have c10b1 : (((rd_T99 l0_0 0).f5) != (-1)) = false := bne_eq_false_iff_eq.mpr c10
       clear c10
       have H' := Aside0.mk H
       clear H
       have hcz11_0 : w3.cell? ⟨gb140, 0, none⟩ = some (.slice A0_0 l0_0.length c0_0) := (blk_cell BK140.out 0).trans rfl
       have hfz11_0 := blk_frozen BK140.out 0
       go_wp2_with (first | ((with_reducible refine gate_callee (f := 67) rfl ?_); refine goesL_ (some 11) rfl rfl Try.func67 (by kernel_rfl) rfl #[.int .i64 (l0_0.length : Int), .int .i64 1, .int .i64 24] rfl (by (try simp only [List.map_toArray, List.map_cons, List.map_nil]); first | done | rfl | (simp only [List.length_drop, List.length_take]; rfl)) ?_; (with_reducible refine (spec_l1In.calls (l0_0.length : Int) 1 24 true _ A4.out).mono ?_); rintro e w' ⟨rfl, ⟨nd, rfl⟩⟩; refine ⟨_, rfl, ?_⟩; have p142 : 0 ≤ (0 : Int) := (by omega); have q142 : 0 < (l0_0.length : Int) := of_decide_eq_true (by first | (with_reducible assumption) | assumption); obtain ⟨ad142, e142, hx142_0, hx142_1, hx142_2, hx142_3, hx142_4, hx142_5, hx142_6⟩ := at_T99 HR0_0.out 0 p142 q142; (try rw [← Nbq7.out] at hx142_0); cases e142; have qi142 : (0 < l0_0.length) = True := eq_true (by omega); (try rw [show ((0 : Int)).toNat = 0 from rfl] at hx142_0); (try rw [show 0 * 7 = 0 from rfl] at hx142_0); (try rw [Addr.add_zero'] at hx142_0); (try rw [show ((0 : Int)).toNat = 0 from rfl] at hx142_1); (try rw [show 0 * 7 = 0 from rfl] at hx142_1); (try rw [Addr.add_zero'] at hx142_1); (try rw [show ((0 : Int)).toNat = 0 from rfl] at hx142_2); (try rw [show 0 * 7 = 0 from rfl] at hx142_2); (try rw [Addr.add_zero'] at hx142_2); (try rw [show ((0 : Int)).toNat = 0 from rfl] at hx142_3); (try rw [show 0 * 7 = 0 from rfl] at hx142_3); (try rw [Addr.add_zero'] at hx142_3); (try rw [show ((0 : Int)).toNat = 0 from rfl] at hx142_4); (try rw [show 0 * 7 = 0 from rfl] at hx142_4); (try rw [Addr.add_zero'] at hx142_4); (try rw [show ((0 : Int)).toNat = 0 from rfl] at hx142_5); (try rw [show 0 * 7 = 0 from rfl] at hx142_5); (try rw [Addr.add_zero'] at hx142_5); (try rw [show ((0 : Int)).toNat = 0 from rfl] at hx142_6); (try rw [show 0 * 7 = 0 from rfl] at hx142_6); (try rw [Addr.add_zero'] at hx142_6); replace hx142_0 := (HB.out.cell (World.block_lt_of_cell? w _ hx142_0)).trans hx142_0; replace hx142_1 := (HB.out.cell (World.block_lt_of_cell? w _ hx142_1)).trans hx142_1; replace hx142_2 := (HB.out.cell (World.block_lt_of_cell? w _ hx142_2)).trans hx142_2; replace hx142_3 := (HB.out.cell (World.block_lt_of_cell? w _ hx142_3)).trans hx142_3; replace hx142_4 := (HB.out.cell (World.block_lt_of_cell? w _ hx142_4)).trans hx142_4; replace hx142_5 := (HB.out.cell (World.block_lt_of_cell? w _ hx142_5)).trans hx142_5; replace hx142_6 := (HB.out.cell (World.block_lt_of_cell? w _ hx142_6)).trans hx142_6; replace p142 := eq_true p142; replace q142 := eq_true q142; have p143 : 0 ≤ (0 : Int) := (by omega); have q143 : 0 < (l0_0.length : Int) := of_decide_eq_true (by first | (with_reducible assumption) | assumption); obtain ⟨ad143, e143, hx143_0, hx143_1, hx143_2, hx143_3, hx143_4, hx143_5, hx143_6⟩ := at_T99 HR0_0.out 0 p143 q143; (try rw [← Nbq7.out] at hx143_0); obtain rfl : ad142 = ad143 := (by injection e143); have qi143 : (0 < l0_0.length) = True := eq_true (by omega); (try rw [show ((0 : Int)).toNat = 0 from rfl] at hx143_0); (try rw [show 0 * 7 = 0 from rfl] at hx143_0); (try rw [Addr.add_zero'] at hx143_0); (try rw [show ((0 : Int)).toNat = 0 from rfl] at hx143_1); (try rw [show 0 * 7 = 0 from rfl] at hx143_1); (try rw [Addr.add_zero'] at hx143_1); (try rw [show ((0 : Int)).toNat = 0 from rfl] at hx143_2); (try rw [show 0 * 7 = 0 from rfl] at hx143_2); (try rw [Addr.add_zero'] at hx143_2); (try rw [show ((0 : Int)).toNat = 0 from rfl] at hx143_3); (try rw [show 0 * 7 = 0 from rfl] at hx143_3); (try rw [Addr.add_zero'] at hx143_3); (try rw [show ((0 : Int)).toNat = 0 from rfl] at hx143_4); (try rw [show 0 * 7 = 0 from rfl] at hx143_4); (try rw [Addr.add_zero'] at hx143_4); (try rw [show ((0 : Int)).toNat = 0 from rfl] at hx143_5); (try rw [show 0 * 7 = 0 from rfl] at hx143_5); (try rw [Addr.add_zero'] at hx143_5); (try rw [show ((0 : Int)).toNat = 0 from rfl] at hx143_6); (try rw [show 0 * 7 = 0 from rfl] at hx143_6); (try rw [Addr.add_zero'] at hx143_6); replace hx143_0 := (HB.out.cell (World.block_lt_of_cell? w _ hx143_0)).trans hx143_0; replace hx143_1 := (HB.out.cell (World.block_lt_of_cell? w _ hx143_1)).trans hx143_1; replace hx143_2 := (HB.out.cell (World.block_lt_of_cell? w _ hx143_2)).trans hx143_2; replace hx143_3 := (HB.out.cell (World.block_lt_of_cell? w _ hx143_3)).trans hx143_3; replace hx143_4 := (HB.out.cell (World.block_lt_of_cell? w _ hx143_4)).trans hx143_4; replace hx143_5 := (HB.out.cell (World.block_lt_of_cell? w _ hx143_5)).trans hx143_5; replace hx143_6 := (HB.out.cell (World.block_lt_of_cell? w _ hx143_6)).trans hx143_6; replace p143 := eq_true p143; replace q143 := eq_true q143; have p144 : 0 ≤ (0 : Int) := (by omega); have q144 : 0 < (l0_0.length : Int) := of_decide_eq_true (by first | (with_reducible assumption) | assumption); obtain ⟨ad144, e144, hx144_0, hx144_1, hx144_2, hx144_3, hx144_4, hx144_5, hx144_6⟩ := at_T99 HR0_0.out 0 p144 q144; (try rw [← Nbq7.out] at hx144_0); obtain rfl : ad142 = ad144 := (by injection e144); have qi144 : (0 < l0_0.length) = True := eq_true (by omega); (try rw [show ((0 : Int)).toNat = 0 from rfl] at hx144_0); (try rw [show 0 * 7 = 0 from rfl] at hx144_0); (try rw [Addr.add_zero'] at hx144_0); (try rw [show ((0 : Int)).toNat = 0 from rfl] at hx144_1); (try rw [show 0 * 7 = 0 from rfl] at hx144_1); (try rw [Addr.add_zero'] at hx144_1); (try rw [show ((0 : Int)).toNat = 0 from rfl] at hx144_2); (try rw [show 0 * 7 = 0 from rfl] at hx144_2); (try rw [Addr.add_zero'] at hx144_2); (try rw [show ((0 : Int)).toNat = 0 from rfl] at hx144_3); (try rw [show 0 * 7 = 0 from rfl] at hx144_3); (try rw [Addr.add_zero'] at hx144_3); (try rw [show ((0 : Int)).toNat = 0 from rfl] at hx144_4); (try rw [show 0 * 7 = 0 from rfl] at hx144_4); (try rw [Addr.add_zero'] at hx144_4); (try rw [show ((0 : Int)).toNat = 0 from rfl] at hx144_5); (try rw [show 0 * 7 = 0 from rfl] at hx144_5); (try rw [Addr.add_zero'] at hx144_5); (try rw [show ((0 : Int)).toNat = 0 from rfl] at hx144_6); (try rw [show 0 * 7 = 0 from rfl] at hx144_6); (try rw [Addr.add_zero'] at hx144_6); replace hx144_0 := (HB.out.cell (World.block_lt_of_cell? w _ hx144_0)).trans hx144_0; replace hx144_1 := (HB.out.cell (World.block_lt_of_cell? w _ hx144_1)).trans hx144_1; replace hx144_2 := (HB.out.cell (World.block_lt_of_cell? w _ hx144_2)).trans hx144_2; replace hx144_3 := (HB.out.cell (World.block_lt_of_cell? w _ hx144_3)).trans hx144_3; replace hx144_4 := (HB.out.cell (World.block_lt_of_cell? w _ hx144_4)).trans hx144_4; replace hx144_5 := (HB.out.cell (World.block_lt_of_cell? w _ hx144_5)).trans hx144_5; replace hx144_6 := (HB.out.cell (World.block_lt_of_cell? w _ hx144_6)).trans hx144_6; replace p144 := eq_true p144; replace q144 := eq_true q144; have p145 : 0 ≤ (0 : Int) := (by omega); have q145 : 0 < (l0_0.length : Int) := of_decide_eq_true (by first | (with_reducible assumption) | assumption); obtain ⟨ad145, e145, hx145_0, hx145_1, hx145_2, hx145_3, hx145_4, hx145_5, hx145_6⟩ := at_T99 HR0_0.out 0 p145 q145; (try rw [← Nbq7.out] at hx145_0); obtain rfl : ad142 = ad145 := (by injection e145); have qi145 : (0 < l0_0.length) = True := eq_true (by omega); (try rw [show ((0 : Int)).toNat = 0 from rfl] at hx145_0); (try rw [show 0 * 7 = 0 from rfl] at hx145_0); (try rw [Addr.add_zero'] at hx145_0); (try rw [show ((0 : Int)).toNat = 0 from rfl] at hx145_1); (try rw [show 0 * 7 = 0 from rfl] at hx145_1); (try rw [Addr.add_zero'] at hx145_1); (try rw [show ((0 : Int)).toNat = 0 from rfl] at hx145_2); (try rw [show 0 * 7 = 0 from rfl] at hx145_2); (try rw [Addr.add_zero'] at hx145_2); (try rw [show ((0 : Int)).toNat = 0 from rfl] at hx145_3); (try rw [show 0 * 7 = 0 from rfl] at hx145_3); (try rw [Addr.add_zero'] at hx145_3); (try rw [show ((0 : Int)).toNat = 0 from rfl] at hx145_4); (try rw [show 0 * 7 = 0 from rfl] at hx145_4); (try rw [Addr.add_zero'] at hx145_4); (try rw [show ((0 : Int)).toNat = 0 from rfl] at hx145_5); (try rw [show 0 * 7 = 0 from rfl] at hx145_5); (try rw [Addr.add_zero'] at hx145_5); (try rw [show ((0 : Int)).toNat = 0 from rfl] at hx145_6); (try rw [show 0 * 7 = 0 from rfl] at hx145_6); (try rw [Addr.add_zero'] at hx145_6); replace hx145_0 := (HB.out.cell (World.block_lt_of_cell? w _ hx145_0)).trans hx145_0; replace hx145_1 := (HB.out.cell (World.block_lt_of_cell? w _ hx145_1)).trans hx145_1; replace hx145_2 := (HB.out.cell (World.block_lt_of_cell? w _ hx145_2)).trans hx145_2; replace hx145_3 := (HB.out.cell (World.block_lt_of_cell? w _ hx145_3)).trans hx145_3; replace hx145_4 := (HB.out.cell (World.block_lt_of_cell? w _ hx145_4)).trans hx145_4; replace hx145_5 := (HB.out.cell (World.block_lt_of_cell? w _ hx145_5)).trans hx145_5; replace hx145_6 := (HB.out.cell (World.block_lt_of_cell? w _ hx145_6)).trans hx145_6; replace p145 := eq_true p145; replace q145 := eq_true q145))
       go_meet
       case rel => exact ⟨_, ((((rd_T99 l0_0 0).f6) != (-1))), (by first | rfl | (simp; done) | (simp [*]; done)), H', ⟨by first | omega | exact Nat.le_refl _⟩, ⟨by (with_reducible repeat (first | refine blk_drewN ?_ _ | refine blk_drew ?_ | refine blk_alloc ?_ _)); exact BK140.out⟩, ⟨by repeat (first | (with_reducible first | exact HB.out | apply below_alloc | apply pw_below_drewN | apply below_drew1 | refine below_set ?_ GE140.out) | exact HB.out)⟩⟩
      ·rw [if_neg c10] at H
       have c10b0 : (((rd_T99 l0_0 0).f5) == (-1)) = false := beq_eq_false_iff_ne.mpr c10
       have c10b1 : (((rd_T99 l0_0 0).f5) != (-1)) = true := bne_iff_ne.mpr c10
       have H' := Aside0.mk H
       clear H
       have hcz12_0 : w3.cell? ⟨gb140, 0, none⟩ = some (.slice A0_0 l0_0.length c0_0) := (blk_cell BK140.out 0).trans rfl
       have hfz12_0 := blk_frozen BK140.out 0
       go_wp2_with (first | ((with_reducible refine gate_callee (f := 67) rfl ?_); refine goesL_ (some 11) rfl rfl Try.func67 (by kernel_rfl) rfl #[.int .i64 (l0_0.length : Int), .int .i64 1, .int .i64 24] rfl (by (try simp only [List.map_toArray, List.map_cons, List.map_nil]); first | done | rfl | (simp only [List.length_drop, List.length_take]; rfl)) ?_; (with_reducible refine (spec_l1In.calls (l0_0.length : Int) 1 24 true _ A4.out).mono ?_); rintro e w' ⟨rfl, ⟨nd, rfl⟩⟩; refine ⟨_, rfl, ?_⟩; have p142 : 0 ≤ (0 : Int) := (by omega); have q142 : 0 < (l0_0.length : Int) := of_decide_eq_true (by first | (with_reducible assumption) | assumption); obtain ⟨ad142, e142, hx142_0, hx142_1, hx142_2, hx142_3, hx142_4, hx142_5, hx142_6⟩ := at_T99 HR0_0.out 0 p142 q142; (try rw [← Nbq7.out] at hx142_0); cases e142; have qi142 : (0 < l0_0.length) = True := eq_true (by omega); (try rw [show ((0 : Int)).toNat = 0 from rfl] at hx142_0); (try rw [show 0 * 7 = 0 from rfl] at hx142_0); (try rw [Addr.add_zero'] at hx142_0); (try rw [show ((0 : Int)).toNat = 0 from rfl] at hx142_1); (try rw [show 0 * 7 = 0 from rfl] at hx142_1); (try rw [Addr.add_zero'] at hx142_1); (try rw [show ((0 : Int)).toNat = 0 from rfl] at hx142_2); (try rw [show 0 * 7 = 0 from rfl] at hx142_2); (try rw [Addr.add_zero'] at hx142_2); (try rw [show ((0 : Int)).toNat = 0 from rfl] at hx142_3); (try rw [show 0 * 7 = 0 from rfl] at hx142_3); (try rw [Addr.add_zero'] at hx142_3); (try rw [show ((0 : Int)).toNat = 0 from rfl] at hx142_4); (try rw [show 0 * 7 = 0 from rfl] at hx142_4); (try rw [Addr.add_zero'] at hx142_4); (try rw [show ((0 : Int)).toNat = 0 from rfl] at hx142_5); (try rw [show 0 * 7 = 0 from rfl] at hx142_5); (try rw [Addr.add_zero'] at hx142_5); (try rw [show ((0 : Int)).toNat = 0 from rfl] at hx142_6); (try rw [show 0 * 7 = 0 from rfl] at hx142_6); (try rw [Addr.add_zero'] at hx142_6); replace hx142_0 := (HB.out.cell (World.block_lt_of_cell? w _ hx142_0)).trans hx142_0; replace hx142_1 := (HB.out.cell (World.block_lt_of_cell? w _ hx142_1)).trans hx142_1; replace hx142_2 := (HB.out.cell (World.block_lt_of_cell? w _ hx142_2)).trans hx142_2; replace hx142_3 := (HB.out.cell (World.block_lt_of_cell? w _ hx142_3)).trans hx142_3; replace hx142_4 := (HB.out.cell (World.block_lt_of_cell? w _ hx142_4)).trans hx142_4; replace hx142_5 := (HB.out.cell (World.block_lt_of_cell? w _ hx142_5)).trans hx142_5; replace hx142_6 := (HB.out.cell (World.block_lt_of_cell? w _ hx142_6)).trans hx142_6; replace p142 := eq_true p142; replace q142 := eq_true q142; have p143 : 0 ≤ (0 : Int) := (by omega); have q143 : 0 < (l0_0.length : Int) := of_decide_eq_true (by first | (with_reducible assumption) | assumption); obtain ⟨ad143, e143, hx143_0, hx143_1, hx143_2, hx143_3, hx143_4, hx143_5, hx143_6⟩ := at_T99 HR0_0.out 0 p143 q143; (try rw [← Nbq7.out] at hx143_0); obtain rfl : ad142 = ad143 := (by injection e143); have qi143 : (0 < l0_0.length) = True := eq_true (by omega); (try rw [show ((0 : Int)).toNat = 0 from rfl] at hx143_0); (try rw [show 0 * 7 = 0 from rfl] at hx143_0); (try rw [Addr.add_zero'] at hx143_0); (try rw [show ((0 : Int)).toNat = 0 from rfl] at hx143_1); (try rw [show 0 * 7 = 0 from rfl] at hx143_1); (try rw [Addr.add_zero'] at hx143_1); (try rw [show ((0 : Int)).toNat = 0 from rfl] at hx143_2); (try rw [show 0 * 7 = 0 from rfl] at hx143_2); (try rw [Addr.add_zero'] at hx143_2); (try rw [show ((0 : Int)).toNat = 0 from rfl] at hx143_3); (try rw [show 0 * 7 = 0 from rfl] at hx143_3); (try rw [Addr.add_zero'] at hx143_3); (try rw [show ((0 : Int)).toNat = 0 from rfl] at hx143_4); (try rw [show 0 * 7 = 0 from rfl] at hx143_4); (try rw [Addr.add_zero'] at hx143_4); (try rw [show ((0 : Int)).toNat = 0 from rfl] at hx143_5); (try rw [show 0 * 7 = 0 from rfl] at hx143_5); (try rw [Addr.add_zero'] at hx143_5); (try rw [show ((0 : Int)).toNat = 0 from rfl] at hx143_6); (try rw [show 0 * 7 = 0 from rfl] at hx143_6); (try rw [Addr.add_zero'] at hx143_6); replace hx143_0 := (HB.out.cell (World.block_lt_of_cell? w _ hx143_0)).trans hx143_0; replace hx143_1 := (HB.out.cell (World.block_lt_of_cell? w _ hx143_1)).trans hx143_1; replace hx143_2 := (HB.out.cell (World.block_lt_of_cell? w _ hx143_2)).trans hx143_2; replace hx143_3 := (HB.out.cell (World.block_lt_of_cell? w _ hx143_3)).trans hx143_3; replace hx143_4 := (HB.out.cell (World.block_lt_of_cell? w _ hx143_4)).trans hx143_4; replace hx143_5 := (HB.out.cell (World.block_lt_of_cell? w _ hx143_5)).trans hx143_5; replace hx143_6 := (HB.out.cell (World.block_lt_of_cell? w _ hx143_6)).trans hx143_6; replace p143 := eq_true p143; replace q143 := eq_true q143; have p144 : 0 ≤ (0 : Int) := (by omega); have q144 : 0 < (l0_0.length : Int) := of_decide_eq_true (by first | (with_reducible assumption) | assumption); obtain ⟨ad144, e144, hx144_0, hx144_1, hx144_2, hx144_3, hx144_4, hx144_5, hx144_6⟩ := at_T99 HR0_0.out 0 p144 q144; (try rw [← Nbq7.out] at hx144_0); obtain rfl : ad142 = ad144 := (by injection e144); have qi144 : (0 < l0_0.length) = True := eq_true (by omega); (try rw [show ((0 : Int)).toNat = 0 from rfl] at hx144_0); (try rw [show 0 * 7 = 0 from rfl] at hx144_0); (try rw [Addr.add_zero'] at hx144_0); (try rw [show ((0 : Int)).toNat = 0 from rfl] at hx144_1); (try rw [show 0 * 7 = 0 from rfl] at hx144_1); (try rw [Addr.add_zero'] at hx144_1); (try rw [show ((0 : Int)).toNat = 0 from rfl] at hx144_2); (try rw [show 0 * 7 = 0 from rfl] at hx144_2); (try rw [Addr.add_zero'] at hx144_2); (try rw [show ((0 : Int)).toNat = 0 from rfl] at hx144_3); (try rw [show 0 * 7 = 0 from rfl] at hx144_3); (try rw [Addr.add_zero'] at hx144_3); (try rw [show ((0 : Int)).toNat = 0 from rfl] at hx144_4); (try rw [show 0 * 7 = 0 from rfl] at hx144_4); (try rw [Addr.add_zero'] at hx144_4); (try rw [show ((0 : Int)).toNat = 0 from rfl] at hx144_5); (try rw [show 0 * 7 = 0 from rfl] at hx144_5); (try rw [Addr.add_zero'] at hx144_5); (try rw [show ((0 : Int)).toNat = 0 from rfl] at hx144_6); (try rw [show 0 * 7 = 0 from rfl] at hx144_6); (try rw [Addr.add_zero'] at hx144_6); replace hx144_0 := (HB.out.cell (World.block_lt_of_cell? w _ hx144_0)).trans hx144_0; replace hx144_1 := (HB.out.cell (World.block_lt_of_cell? w _ hx144_1)).trans hx144_1; replace hx144_2 := (HB.out.cell (World.block_lt_of_cell? w _ hx144_2)).trans hx144_2; replace hx144_3 := (HB.out.cell (World.block_lt_of_cell? w _ hx144_3)).trans hx144_3; replace hx144_4 := (HB.out.cell (World.block_lt_of_cell? w _ hx144_4)).trans hx144_4; replace hx144_5 := (HB.out.cell (World.block_lt_of_cell? w _ hx144_5)).trans hx144_5; replace hx144_6 := (HB.out.cell (World.block_lt_of_cell? w _ hx144_6)).trans hx144_6; replace p144 := eq_true p144; replace q144 := eq_true q144))
       go_meet
       case rel => exact ⟨_, (true), (by first | rfl | (simp; done) | (simp [*]; done)), H', ⟨by first | omega | exact Nat.le_refl _⟩, ⟨by (with_reducible repeat (first | refine blk_drewN ?_ _ | refine blk_drew ?_ | refine blk_alloc ?_ _)); exact BK140.out⟩, ⟨by repeat (first | (with_reducible first | exact HB.out | apply below_alloc | apply pw_below_drewN | apply below_drew1 | refine below_set ?_ GE140.out) | exact HB.out)⟩⟩
     ·rw [if_neg c9] at H
      have c9b0 : (((rd_T99 l0_0 0).f2) == (-1)) = false := beq_eq_false_iff_ne.mpr c9
      have c9b1 : (((rd_T99 l0_0 0).f2) != (-1)) = true := bne_iff_ne.mpr c9
      have H' := Aside0.mk H
      clear H
      have hcz13_0 : w3.cell? ⟨gb140, 0, none⟩ = some (.slice A0_0 l0_0.length c0_0) := (blk_cell BK140.out 0).trans rfl
      have hfz13_0 := blk_frozen BK140.out 0
      go_wp2_with (first | ((with_reducible refine gate_callee (f := 67) rfl ?_); refine goesL_ (some 11) rfl rfl Try.func67 (by kernel_rfl) rfl #[.int .i64 (l0_0.length : Int), .int .i64 1, .int .i64 24] rfl (by (try simp only [List.map_toArray, List.map_cons, List.map_nil]); first | done | rfl | (simp only [List.length_drop, List.length_take]; rfl)) ?_; (with_reducible refine (spec_l1In.calls (l0_0.length : Int) 1 24 true _ A4.out).mono ?_); rintro e w' ⟨rfl, ⟨nd, rfl⟩⟩; refine ⟨_, rfl, ?_⟩; have p142 : 0 ≤ (0 : Int) := (by omega); have q142 : 0 < (l0_0.length : Int) := of_decide_eq_true (by first | (with_reducible assumption) | assumption); obtain ⟨ad142, e142, hx142_0, hx142_1, hx142_2, hx142_3, hx142_4, hx142_5, hx142_6⟩ := at_T99 HR0_0.out 0 p142 q142; (try rw [← Nbq7.out] at hx142_0); cases e142; have qi142 : (0 < l0_0.length) = True := eq_true (by omega); (try rw [show ((0 : Int)).toNat = 0 from rfl] at hx142_0); (try rw [show 0 * 7 = 0 from rfl] at hx142_0); (try rw [Addr.add_zero'] at hx142_0); (try rw [show ((0 : Int)).toNat = 0 from rfl] at hx142_1); (try rw [show 0 * 7 = 0 from rfl] at hx142_1); (try rw [Addr.add_zero'] at hx142_1); (try rw [show ((0 : Int)).toNat = 0 from rfl] at hx142_2); (try rw [show 0 * 7 = 0 from rfl] at hx142_2); (try rw [Addr.add_zero'] at hx142_2); (try rw [show ((0 : Int)).toNat = 0 from rfl] at hx142_3); (try rw [show 0 * 7 = 0 from rfl] at hx142_3); (try rw [Addr.add_zero'] at hx142_3); (try rw [show ((0 : Int)).toNat = 0 from rfl] at hx142_4); (try rw [show 0 * 7 = 0 from rfl] at hx142_4); (try rw [Addr.add_zero'] at hx142_4); (try rw [show ((0 : Int)).toNat = 0 from rfl] at hx142_5); (try rw [show 0 * 7 = 0 from rfl] at hx142_5); (try rw [Addr.add_zero'] at hx142_5); (try rw [show ((0 : Int)).toNat = 0 from rfl] at hx142_6); (try rw [show 0 * 7 = 0 from rfl] at hx142_6); (try rw [Addr.add_zero'] at hx142_6); replace hx142_0 := (HB.out.cell (World.block_lt_of_cell? w _ hx142_0)).trans hx142_0; replace hx142_1 := (HB.out.cell (World.block_lt_of_cell? w _ hx142_1)).trans hx142_1; replace hx142_2 := (HB.out.cell (World.block_lt_of_cell? w _ hx142_2)).trans hx142_2; replace hx142_3 := (HB.out.cell (World.block_lt_of_cell? w _ hx142_3)).trans hx142_3; replace hx142_4 := (HB.out.cell (World.block_lt_of_cell? w _ hx142_4)).trans hx142_4; replace hx142_5 := (HB.out.cell (World.block_lt_of_cell? w _ hx142_5)).trans hx142_5; replace hx142_6 := (HB.out.cell (World.block_lt_of_cell? w _ hx142_6)).trans hx142_6; replace p142 := eq_true p142; replace q142 := eq_true q142; have p143 : 0 ≤ (0 : Int) := (by omega); have q143 : 0 < (l0_0.length : Int) := of_decide_eq_true (by first | (with_reducible assumption) | assumption); obtain ⟨ad143, e143, hx143_0, hx143_1, hx143_2, hx143_3, hx143_4, hx143_5, hx143_6⟩ := at_T99 HR0_0.out 0 p143 q143; (try rw [← Nbq7.out] at hx143_0); obtain rfl : ad142 = ad143 := (by injection e143); have qi143 : (0 < l0_0.length) = True := eq_true (by omega); (try rw [show ((0 : Int)).toNat = 0 from rfl] at hx143_0); (try rw [show 0 * 7 = 0 from rfl] at hx143_0); (try rw [Addr.add_zero'] at hx143_0); (try rw [show ((0 : Int)).toNat = 0 from rfl] at hx143_1); (try rw [show 0 * 7 = 0 from rfl] at hx143_1); (try rw [Addr.add_zero'] at hx143_1); (try rw [show ((0 : Int)).toNat = 0 from rfl] at hx143_2); (try rw [show 0 * 7 = 0 from rfl] at hx143_2); (try rw [Addr.add_zero'] at hx143_2); (try rw [show ((0 : Int)).toNat = 0 from rfl] at hx143_3); (try rw [show 0 * 7 = 0 from rfl] at hx143_3); (try rw [Addr.add_zero'] at hx143_3); (try rw [show ((0 : Int)).toNat = 0 from rfl] at hx143_4); (try rw [show 0 * 7 = 0 from rfl] at hx143_4); (try rw [Addr.add_zero'] at hx143_4); (try rw [show ((0 : Int)).toNat = 0 from rfl] at hx143_5); (try rw [show 0 * 7 = 0 from rfl] at hx143_5); (try rw [Addr.add_zero'] at hx143_5); (try rw [show ((0 : Int)).toNat = 0 from rfl] at hx143_6); (try rw [show 0 * 7 = 0 from rfl] at hx143_6); (try rw [Addr.add_zero'] at hx143_6); replace hx143_0 := (HB.out.cell (World.block_lt_of_cell? w _ hx143_0)).trans hx143_0; replace hx143_1 := (HB.out.cell (World.block_lt_of_cell? w _ hx143_1)).trans hx143_1; replace hx143_2 := (HB.out.cell (World.block_lt_of_cell? w _ hx143_2)).trans hx143_2; replace hx143_3 := (HB.out.cell (World.block_lt_of_cell? w _ hx143_3)).trans hx143_3; replace hx143_4 := (HB.out.cell (World.block_lt_of_cell? w _ hx143_4)).trans hx143_4; replace hx143_5 := (HB.out.cell (World.block_lt_of_cell? w _ hx143_5)).trans hx143_5; replace hx143_6 := (HB.out.cell (World.block_lt_of_cell? w _ hx143_6)).trans hx143_6; replace p143 := eq_true p143; replace q143 := eq_true q143))
      go_meet
      case rel => exact ⟨_, (true), (by first | rfl | (simp; done) | (simp [*]; done)), H', ⟨by first | omega | exact Nat.le_refl _⟩, ⟨by (with_reducible repeat (first | refine blk_drewN ?_ _ | refine blk_drew ?_ | refine blk_alloc ?_ _)); exact BK140.out⟩, ⟨by repeat (first | (with_reducible first | exact HB.out | apply below_alloc | apply pw_below_drewN | apply below_drew1 | refine below_set ?_ GE140.out) | exact HB.out)⟩⟩
    ·replace c8 := Bool.eq_false_iff.mpr c8
     subst c8
     have H1 : (spec_DomOk.j0 k true l0_0) = some r := by rw [if_neg (show ¬ (false = true) by decide)] at H; exact H
     clear H
     have H := H1
     clear H1
     have H' := Aside0.mk H
     clear H
     have hcz14_0 : w3.cell? ⟨gb140, 0, none⟩ = some (.slice A0_0 l0_0.length c0_0) := (blk_cell BK140.out 0).trans rfl
     have hfz14_0 := blk_frozen BK140.out 0
     go_wp2_with (first | ((with_reducible refine gate_callee (f := 67) rfl ?_); refine goesL_ (some 11) rfl rfl Try.func67 (by kernel_rfl) rfl #[.int .i64 (l0_0.length : Int), .int .i64 1, .int .i64 24] rfl (by (try simp only [List.map_toArray, List.map_cons, List.map_nil]); first | done | rfl | (simp only [List.length_drop, List.length_take]; rfl)) ?_; (with_reducible refine (spec_l1In.calls (l0_0.length : Int) 1 24 true _ A4.out).mono ?_); rintro e w' ⟨rfl, ⟨nd, rfl⟩⟩; refine ⟨_, rfl, ?_⟩; have p142 : 0 ≤ (0 : Int) := (by omega); have q142 : 0 < (l0_0.length : Int) := of_decide_eq_true (by first | (with_reducible assumption) | assumption); obtain ⟨ad142, e142, hx142_0, hx142_1, hx142_2, hx142_3, hx142_4, hx142_5, hx142_6⟩ := at_T99 HR0_0.out 0 p142 q142; (try rw [← Nbq7.out] at hx142_0); cases e142; have qi142 : (0 < l0_0.length) = True := eq_true (by omega); (try rw [show ((0 : Int)).toNat = 0 from rfl] at hx142_0); (try rw [show 0 * 7 = 0 from rfl] at hx142_0); (try rw [Addr.add_zero'] at hx142_0); (try rw [show ((0 : Int)).toNat = 0 from rfl] at hx142_1); (try rw [show 0 * 7 = 0 from rfl] at hx142_1); (try rw [Addr.add_zero'] at hx142_1); (try rw [show ((0 : Int)).toNat = 0 from rfl] at hx142_2); (try rw [show 0 * 7 = 0 from rfl] at hx142_2); (try rw [Addr.add_zero'] at hx142_2); (try rw [show ((0 : Int)).toNat = 0 from rfl] at hx142_3); (try rw [show 0 * 7 = 0 from rfl] at hx142_3); (try rw [Addr.add_zero'] at hx142_3); (try rw [show ((0 : Int)).toNat = 0 from rfl] at hx142_4); (try rw [show 0 * 7 = 0 from rfl] at hx142_4); (try rw [Addr.add_zero'] at hx142_4); (try rw [show ((0 : Int)).toNat = 0 from rfl] at hx142_5); (try rw [show 0 * 7 = 0 from rfl] at hx142_5); (try rw [Addr.add_zero'] at hx142_5); (try rw [show ((0 : Int)).toNat = 0 from rfl] at hx142_6); (try rw [show 0 * 7 = 0 from rfl] at hx142_6); (try rw [Addr.add_zero'] at hx142_6); replace hx142_0 := (HB.out.cell (World.block_lt_of_cell? w _ hx142_0)).trans hx142_0; replace hx142_1 := (HB.out.cell (World.block_lt_of_cell? w _ hx142_1)).trans hx142_1; replace hx142_2 := (HB.out.cell (World.block_lt_of_cell? w _ hx142_2)).trans hx142_2; replace hx142_3 := (HB.out.cell (World.block_lt_of_cell? w _ hx142_3)).trans hx142_3; replace hx142_4 := (HB.out.cell (World.block_lt_of_cell? w _ hx142_4)).trans hx142_4; replace hx142_5 := (HB.out.cell (World.block_lt_of_cell? w _ hx142_5)).trans hx142_5; replace hx142_6 := (HB.out.cell (World.block_lt_of_cell? w _ hx142_6)).trans hx142_6; replace p142 := eq_true p142; replace q142 := eq_true q142))
     go_meet
     case rel => exact ⟨_, (true), (by first | rfl | (simp; done) | (simp [*]; done)), H', ⟨by first | omega | exact Nat.le_refl _⟩, ⟨by (with_reducible repeat (first | refine blk_drewN ?_ _ | refine blk_drew ?_ | refine blk_alloc ?_ _)); exact BK140.out⟩, ⟨by repeat (first | (with_reducible first | exact HB.out | apply below_alloc | apply pw_below_drewN | apply below_drew1 | refine below_set ?_ GE140.out) | exact HB.out)⟩⟩
   ·rw [if_neg c6] at H
    exact absurd H (by simp)
  ·replace c5 := Bool.eq_false_iff.mpr c5
   subst c5
   have H1 : (spec_DomOk.j0 k true l0_0) = some r := by rw [if_neg (show ¬ (false = true) by decide)] at H; exact H
   clear H
   have H := H1
   clear H1
   have H' := Aside0.mk H
   clear H
   have hcz15_0 : w3.cell? ⟨gb140, 0, none⟩ = some (.slice A0_0 l0_0.length c0_0) := (blk_cell BK140.out 0).trans rfl
   have hfz15_0 := blk_frozen BK140.out 0
   go_wp2_with (first | ((with_reducible refine gate_callee (f := 67) rfl ?_); refine goesL_ (some 11) rfl rfl Try.func67 (by kernel_rfl) rfl #[.int .i64 (l0_0.length : Int), .int .i64 1, .int .i64 24] rfl (by (try simp only [List.map_toArray, List.map_cons, List.map_nil]); first | done | rfl | (simp only [List.length_drop, List.length_take]; rfl)) ?_; (with_reducible refine (spec_l1In.calls (l0_0.length : Int) 1 24 false _ A4.out).mono ?_); rintro e w' ⟨rfl, ⟨nd, rfl⟩⟩; refine ⟨_, rfl, ?_⟩))
   go_meet
   case rel => exact ⟨_, (true), (by first | rfl | (simp; done) | (simp [*]; done)), H', ⟨by first | omega | exact Nat.le_refl _⟩, ⟨by (with_reducible repeat (first | refine blk_drewN ?_ _ | refine blk_drew ?_ | refine blk_alloc ?_ _)); exact BK140.out⟩, ⟨by repeat (first | (with_reducible first | exact HB.out | apply below_alloc | apply pw_below_drewN | apply below_drew1 | refine below_set ?_ GE140.out) | exact HB.out)⟩⟩
 case rest =>
  clear HC2
  try clear c1
  try clear p1
  try clear q1
  try clear hx1
  try clear qi1
  try clear p2
  try clear c5
  try clear c6
  try clear c6b0
  try clear c6b1
  try clear q7
  try clear c8
  try clear c9
  try clear c9b0
  try clear c9b1
  try clear c10
  try clear c10b0
  try clear c10b1
  try clear p14
  try clear q14
  try clear hx14
  try clear qi14
  try clear c15
  try clear hcz11_0
  try clear hcz12_0
  try clear hcz13_0
  try clear hcz14_0
  try clear hcz15_0
  try clear hfz11_0
  try clear hfz12_0
  try clear hfz13_0
  try clear hfz14_0
  try clear hfz15_0
  try clear hx142_0
  try clear hx142_1
  try clear hx142_2
  try clear hx142_3
  try clear hx142_4
  try clear hx142_5
  try clear hx142_6
  try clear hx143_0
  try clear hx143_1
  try clear hx143_2
  try clear hx143_3
  try clear hx143_4
  try clear hx143_5
  try clear hx143_6
  try clear hx144_0
  try clear hx144_1
  try clear hx144_2
  try clear hx144_3
  try clear hx144_4
  try clear hx144_5
  try clear hx144_6
  try clear hx145_0
  try clear hx145_1
  try clear hx145_2
  try clear hx145_3
  try clear hx145_4
  try clear hx145_5
  try clear hx145_6
  try clear p142
  try clear p143
  try clear p144
  try clear p145
  try clear q142
  try clear q143
  try clear q144
  try clear q145
  obtain ⟨kq, x44_1, rfl, HA, HJ1, BK140, HB⟩ := hcut
  cases kq with
  | zero => exact absurd HA.out (by simp [spec_DomOk.j0])
  | succ kj1 =>
   have H := HA.out
   clear HA
   simp only [spec_DomOk.j0] at H
   by_cases c16 : x44_1 = true
   ·subst c16
    have H1 : (some false) = some r := by rw [if_pos rfl] at H; exact H
    clear H
    have H := H1
    clear H1
    obtain rfl := Option.some.inj H
    go_wp2
    go_ret
    exact ⟨by first | rfl | (simp [errW_none, errW_some] <;> rfl) | (simp [*, errW_none, errW_some] <;> rfl), by repeat (first | (with_reducible first | exact HB.out | apply below_alloc | apply pw_below_drewN | apply below_drew1 | refine below_set ?_ GE140.out) | exact HB.out)⟩
   ·replace c16 := Bool.eq_false_iff.mpr c16
    subst c16
    have H1 : ((spec_l16Walk.f kj1 l0_0 0 0 ([] : List Int) ([] : List Int)).bind fun bt146 => (if (bt146.1.length : Int) > 24 then (some false) else (if 0 ≤ (l0_0.length : Int) then (if ((l0_0.length : Int) : Int).toNat ≤ 281474976710656 then (spec_DomOk.l0 kj1 bt146.1 (List.replicate ((l0_0.length : Int) : Int).toNat false) 0 l0_0) else (none)) else (none)))) = some r := by rw [if_neg (show ¬ (false = true) by decide)] at H; exact H
    clear H
    have H := H1
    clear H1
    replace H := Option.bind_eq_some_iff.mp H
    obtain ⟨⟨t146, t149⟩, A170, H⟩ := H
    replace H : (if (t146.length : Int) > 24 then (some false) else (if 0 ≤ (l0_0.length : Int) then (if ((l0_0.length : Int) : Int).toNat ≤ 281474976710656 then (spec_DomOk.l0 kj1 t146 (List.replicate ((l0_0.length : Int) : Int).toNat false) 0 l0_0) else (none)) else (none))) = some r := H
    have A17 := Aside0.mk A170
    clear A170
    by_cases c18 : (t146.length : Int) > 24
    ·rw [if_pos c18] at H
     have c18b0 : decide (24 < (t146.length : Int)) = true := decide_eq_true c18
     have c18b1 : decide (24 < t146.length) = true := decide_eq_true (by omega)
     clear c18
     obtain rfl := Option.some.inj H
     have hcz19_0 : wc.cell? ⟨gb140, 0, none⟩ = some (.slice A0_0 l0_0.length c0_0) := (blk_cell BK140.out 0).trans rfl
     have hfz19_0 := blk_frozen BK140.out 0
     go_wp2_with (first | ((with_reducible refine gate_callee (f := 68) rfl ?_); refine goesL_ (some 47) rfl rfl Try.func68 (by kernel_rfl) rfl #[.agg #[.slice A0_0 l0_0.length c0_0], .int .i64 0, .int .i64 0, .slice none 0 0, .slice none 0 0] rfl (by (try simp only [List.map_toArray, List.map_cons, List.map_nil]); first | done | rfl | (simp only [List.length_drop, List.length_take]; rfl)) ?_; (refine (spec_l16Walk.calls kj1 _ _ l0_0 0 0 (fun k_ => some k_ = (.slice none 0 0 : Value).ownBlock) (.slice none 0 0) ([] : List Int) (fun k_ => some k_ = (.slice none 0 0 : Value).ownBlock) (.slice none 0 0) ([] : List Int) t146 t149 w _ ?side1 ?side2 ?side3 ?side4 ?side5 ?side6 ?side7 A17.out).mono ?_); (case side1 => repeat (first | (with_reducible first | exact HB.out | apply below_alloc | apply pw_below_drewN | apply below_drew1 | refine below_set ?_ GE140.out) | exact HB.out)); (case side2 => exact Kd.C_kept_came k99_heap HR0_0.out (by repeat (first | (with_reducible first | exact HB.out | apply below_alloc | apply pw_below_drewN | apply below_drew1 | refine below_set ?_ GE140.out) | exact HB.out)) (fun k_ hs_ => Or.elim hs_ (fun e_ => (fun e_ => by simp [Value.ownBlock] at e_) e_) (fun e_ => (fun e_ => by simp [Value.ownBlock] at e_) e_))); (case side3 => exact HC0_0.out); (case side4 => exact Kd.R_nil _ _ _ _ _); (case side5 => intro k_ e_ e2_; simp [Value.ownBlock] at e_ e2_); (case side6 => exact Kd.R_nil _ _ _ _ _); (case side7 => intro k_ e_ e2_; simp [Value.ownBlock] at e_ e2_); rintro e w20 ⟨v147, v150, rfl, ho0, ho1, hb, hkp⟩; refine ⟨_, rfl, ?_⟩; have n0_ := Aside0.mk (blk_kept (by (with_reducible repeat (first | refine blk_drewN ?_ _ | refine blk_drew ?_ | refine blk_alloc ?_ _)); exact BK140.out) hkp (fun hs_ => Or.elim hs_ (fun e_ => (fun e_ => by simp [Value.ownBlock] at e_) e_) (fun e_ => (fun e_ => by simp [Value.ownBlock] at e_) e_))); have n1_ := Aside0.mk (Kd.R_mono (ok' := fun k_ => some k_ ≠ (v150 : Value).ownBlock) ho0 (fun k_ hk_ => hk_.2)); have n2_ := Aside0.mk (Kd.R_mono (ok' := fun k_ => some k_ ≠ (v147 : Value).ownBlock) ho1 (fun k_ hk_ => hk_.2)); have n3_ := Aside0.mk (hb); clear BK140; clear HB; have BK140 := n0_; have HO148 := n1_; have HO151 := n2_; have HB := n3_; clear n0_ n1_ n2_ n3_; (try clear hb); (try clear hkp); (try clear ho0); (try clear ho1); obtain ⟨Ao21, co21, eo21⟩ := Kd.R_slice HO148.out; subst eo21))
     go_ret
     exact ⟨by first | rfl | (simp [errW_none, errW_some] <;> rfl) | (simp [*, errW_none, errW_some] <;> rfl), by repeat (first | (with_reducible first | exact HB.out | apply below_alloc | apply pw_below_drewN | apply below_drew1 | refine below_set ?_ GE140.out) | exact HB.out)⟩
    ·rw [if_neg c18] at H
     have c18b0 : decide (24 < (t146.length : Int)) = false := decide_eq_false c18
     have c18b1 : decide (24 < t146.length) = false := decide_eq_false (by omega)
     clear c18
     by_cases c22 : 0 ≤ (l0_0.length : Int)
     ·rw [if_pos c22] at H
      have c22b0 := eq_true c22
      have c22b1 : decide (0 ≤ (l0_0.length : Int)) = true := decide_eq_true c22
      clear c22
      by_cases c23 : ((l0_0.length : Int) : Int).toNat ≤ 281474976710656
      ·rw [if_pos c23] at H
       have c23b0 := eq_true c23
       have c23b1 : decide (((l0_0.length : Int) : Int).toNat ≤ 281474976710656) = true := decide_eq_true c23
       clear c23
       obtain ⟨y152, hy152⟩ : ∃ y_ : List Bool, y_ = (List.replicate ((l0_0.length : Int) : Int).toNat false) := ⟨_, rfl⟩
       replace H : (spec_DomOk.l0 kj1 t146 y152 0 l0_0) = some r := by first | (rw [hy152]; with_reducible exact H) | (have H2_ := (Option.bind_some _ _).symm.trans H; rw [hy152]; with_reducible exact H2_) | (have H2_ := (Option.bind_some _ _).symm.trans H; with_reducible exact H2_) | with_reducible exact H | (rw [hy152]; exact H) | exact H
       have Ny152 := Aside0.mk hy152
       clear hy152
       have H' := Aside0.mk H
       clear H
       have hcz24_0 : wc.cell? ⟨gb140, 0, none⟩ = some (.slice A0_0 l0_0.length c0_0) := (blk_cell BK140.out 0).trans rfl
       have hfz24_0 := blk_frozen BK140.out 0
       go_wp2_with (first | ((with_reducible refine gate_callee (f := 68) rfl ?_); refine goesL_ (some 47) rfl rfl Try.func68 (by kernel_rfl) rfl #[.agg #[.slice A0_0 l0_0.length c0_0], .int .i64 0, .int .i64 0, .slice none 0 0, .slice none 0 0] rfl (by (try simp only [List.map_toArray, List.map_cons, List.map_nil]); first | done | rfl | (simp only [List.length_drop, List.length_take]; rfl)) ?_; (refine (spec_l16Walk.calls kj1 _ _ l0_0 0 0 (fun k_ => some k_ = (.slice none 0 0 : Value).ownBlock) (.slice none 0 0) ([] : List Int) (fun k_ => some k_ = (.slice none 0 0 : Value).ownBlock) (.slice none 0 0) ([] : List Int) t146 t149 w _ ?side1 ?side2 ?side3 ?side4 ?side5 ?side6 ?side7 A17.out).mono ?_); (case side1 => repeat (first | (with_reducible first | exact HB.out | apply below_alloc | apply pw_below_drewN | apply below_drew1 | refine below_set ?_ GE140.out) | exact HB.out)); (case side2 => exact Kd.C_kept_came k99_heap HR0_0.out (by repeat (first | (with_reducible first | exact HB.out | apply below_alloc | apply pw_below_drewN | apply below_drew1 | refine below_set ?_ GE140.out) | exact HB.out)) (fun k_ hs_ => Or.elim hs_ (fun e_ => (fun e_ => by simp [Value.ownBlock] at e_) e_) (fun e_ => (fun e_ => by simp [Value.ownBlock] at e_) e_))); (case side3 => exact HC0_0.out); (case side4 => exact Kd.R_nil _ _ _ _ _); (case side5 => intro k_ e_ e2_; simp [Value.ownBlock] at e_ e2_); (case side6 => exact Kd.R_nil _ _ _ _ _); (case side7 => intro k_ e_ e2_; simp [Value.ownBlock] at e_ e2_); rintro e w25 ⟨v147, v150, rfl, ho0, ho1, hb, hkp⟩; refine ⟨_, rfl, ?_⟩; have n0_ := Aside0.mk (blk_kept (by (with_reducible repeat (first | refine blk_drewN ?_ _ | refine blk_drew ?_ | refine blk_alloc ?_ _)); exact BK140.out) hkp (fun hs_ => Or.elim hs_ (fun e_ => (fun e_ => by simp [Value.ownBlock] at e_) e_) (fun e_ => (fun e_ => by simp [Value.ownBlock] at e_) e_))); have n1_ := Aside0.mk (Kd.R_mono (ok' := fun k_ => some k_ ≠ (v150 : Value).ownBlock) ho0 (fun k_ hk_ => hk_.2)); have n2_ := Aside0.mk (Kd.R_mono (ok' := fun k_ => some k_ ≠ (v147 : Value).ownBlock) ho1 (fun k_ hk_ => hk_.2)); have n3_ := Aside0.mk (hb); clear BK140; clear HB; have BK140 := n0_; have HO148 := n1_; have HO151 := n2_; have HB := n3_; clear n0_ n1_ n2_ n3_; (try clear hb); (try clear hkp); (try clear ho0); (try clear ho1); obtain ⟨Ao26, co26, eo26⟩ := Kd.R_slice HO148.out; subst eo26; have hcz27_0 : w25.cell? ⟨gb140, 0, none⟩ = some (.slice A0_0 l0_0.length c0_0) := (blk_cell BK140.out 0).trans rfl; have hfz27_0 := blk_frozen BK140.out 0) | ((with_reducible refine gate_dst (N := 56) rfl ?_); refine Kd.R_make Kd.bool _ 4 rfl (N := 56) rfl 102 _ _ rfl (l0_0.length : Int) rfl rfl Try.underlying102 (.bool false) 1 info4 rfl (by decide) (by omega) false (ok := fun _ => True) (okp := fun _ => True) rfl (fun _ hk => hk) trivial (of_decide_eq_true (by first | (with_reducible assumption) | assumption)) (Nat.le_trans (Nat.mul_le_mul_right _ (of_decide_eq_true (by first | (with_reducible assumption) | assumption) : (l0_0.length : Int).toNat ≤ 281474976710656)) (by omega)) (Below.refl _ _) (Nat.le_refl _) ?_; intro v153 w28 ho29 hb hg_ hnew_; clear hg_ hnew_; (first | rw [← Ny152.out] at ho29 | (simp only [Int.reduceToNat] at ho29; rw [← Ny152.out] at ho29)); have n0_ := Aside0.mk (Kd.R_below (by (with_reducible repeat (first | apply Kd.R_alloc | apply Kd.R_drewN | apply Kd.R_drew)); exact HO148.out) hb); have n1_ := Aside0.mk (Kd.R_below (by (with_reducible repeat (first | apply Kd.R_alloc | apply Kd.R_drewN | apply Kd.R_drew)); exact HO151.out) hb); have n2_ := Aside0.mk (Kd.R_lower ho29 (below_size (by repeat (first | (with_reducible first | exact HB.out | apply below_alloc | apply pw_below_drewN | apply below_drew1 | refine below_set ?_ GE140.out) | exact HB.out)))); have n3_ := Aside0.mk (blk_below (g := gb140) (o := .cells #[.slice A0_0 l0_0.length c0_0] 29 (0, 0)) (by (with_reducible repeat (first | refine blk_drewN ?_ _ | refine blk_drew ?_ | refine blk_alloc ?_ _)); exact BK140.out) hb); have n4_ := Aside0.mk (below_step (by repeat (first | (with_reducible first | exact HB.out | apply below_alloc | apply pw_below_drewN | apply below_drew1 | refine below_set ?_ GE140.out) | exact HB.out)) hb); clear HO148; clear HO151; clear BK140; clear HB; have HO148 := n0_; have HO151 := n1_; have HO154 := n2_; have BK140 := n3_; have HB := n4_; clear n0_ n1_ n2_ n3_ n4_; clear hb ho29))
       go_loopg [6] kj1 (fun kq v6 w' => ∃ (x5_2 : List Bool) (x6_2 : Int), v6 = .int .i64 x6_2 ∧ Aside0 (spec_DomOk.l0 kq t146 x5_2 x6_2 l0_0 = some r) ∧ Aside0 (kq ≤ kj1) ∧ Aside0 (Kd.R (Kd.int .i64) 3 w' w.heap.size (fun _ => True) (.slice Ao26 t146.length co26) t146) ∧ Aside0 (Kd.R Kd.bool 4 w' w.heap.size (fun _ => True) v153 x5_2) ∧ Aside0 (w'.heap[gb140]? = some (.cells #[(.slice A0_0 l0_0.length c0_0)] 29 (0, 0))) ∧ Aside0 (Below w.heap.size w w'))
       case atStart => exact ⟨(y152), (0), (by first | rfl | (simp; done) | (simp [*]; done)), H', ⟨Nat.le_refl _⟩, ⟨by (with_reducible repeat (first | apply Kd.R_alloc | apply Kd.R_drewN | apply Kd.R_drew)); exact Kd.R_mono HO148.out (fun _ hk => trivial)⟩, ⟨by (with_reducible repeat (first | apply Kd.R_alloc | apply Kd.R_drewN | apply Kd.R_drew)); exact HO154.out⟩, ⟨by (with_reducible repeat (first | refine blk_drewN ?_ _ | refine blk_drew ?_ | refine blk_alloc ?_ _)); exact BK140.out⟩, ⟨by repeat (first | (with_reducible first | exact HB.out | apply below_alloc | apply pw_below_drewN | apply below_drew1 | refine below_set ?_ GE140.out) | exact HB.out)⟩⟩
       case round =>
        clear H'
        try clear c1
        try clear p1
        try clear q1
        try clear hx1
        try clear qi1
        try clear c2
        try clear p2
        try clear c5
        try clear c6
        try clear c6b0
        try clear c6b1
        try clear q7
        try clear c8
        try clear c9
        try clear c9b0
        try clear c9b1
        try clear c10
        try clear c10b0
        try clear c10b1
        try clear p14
        try clear q14
        try clear hx14
        try clear qi14
        try clear c15
        try clear c16
        try clear c18
        try clear c18b0
        try clear c18b1
        try clear c22
        try clear c22b0
        try clear c22b1
        try clear c23
        try clear c23b0
        try clear c23b1
        try clear hcz11_0
        try clear hcz12_0
        try clear hcz13_0
        try clear hcz14_0
        try clear hcz15_0
        try clear hcz19_0
        try clear hcz24_0
        try clear hcz27_0
        try clear hfz11_0
        try clear hfz12_0
        try clear hfz13_0
        try clear hfz14_0
        try clear hfz15_0
        try clear hfz19_0
        try clear hfz24_0
        try clear hfz27_0
        try clear hx142_0
        try clear hx142_1
        try clear hx142_2
        try clear hx142_3
        try clear hx142_4
        try clear hx142_5
        try clear hx142_6
        try clear hx143_0
        try clear hx143_1
        try clear hx143_2
        try clear hx143_3
        try clear hx143_4
        try clear hx143_5
        try clear hx143_6
        try clear hx144_0
        try clear hx144_1
        try clear hx144_2
        try clear hx144_3
        try clear hx144_4
        try clear hx144_5
        try clear hx144_6
        try clear hx145_0
        try clear hx145_1
        try clear hx145_2
        try clear hx145_3
        try clear hx145_4
        try clear hx145_5
        try clear hx145_6
        try clear p1
        try clear p14
        try clear p142
        try clear p143
        try clear p144
        try clear p145
        try clear p2
        try clear q1
        try clear q14
        try clear q142
        try clear q143
        try clear q144
        try clear q145
        try clear q7
        obtain ⟨x5_2, x6_2, rfl, HA, HK2, HO_3, HO_5, BK140, HB⟩ := hrel
        cases gk with
        | zero => exact absurd HA.out (by simp [spec_DomOk.l0])
        | succ k2 =>
         have H := HA.out
         clear HA
         simp only [spec_DomOk.l0] at H
         by_cases c30 : x6_2 < (t146.length : Int)
         ·rw [if_pos c30] at H
          have c30b0 : decide (x6_2 < (t146.length : Int)) = true := decide_eq_true c30
          clear c30
          by_cases c31 : 0 ≤ x6_2
          ·rw [if_pos c31] at H
           have c31b0 : decide (0 ≤ x6_2) = true := decide_eq_true c31
           clear c31
           by_cases c32 : 0 ≤ (rd t146 x6_2)
           ·rw [if_pos c32] at H
            have c32b0 : decide (0 ≤ (rd t146 x6_2)) = true := decide_eq_true c32
            clear c32
            by_cases c33 : (rd t146 x6_2) < (x5_2.length : Int)
            ·rw [if_pos c33] at H
             have c33b0 : decide ((rd t146 x6_2) < (x5_2.length : Int)) = true := decide_eq_true c33
             clear c33
             obtain ⟨bq34, hbq34⟩ : ∃ b_ : Bool, b_ = (rdOf false x5_2 (rd t146 x6_2)) := ⟨_, rfl⟩
             replace H : (if bq34 = true then (some false) else (if (rd t146 x6_2) < (l0_0.length : Int) then (if ((rd_T99 l0_0 (rd t146 x6_2)).f0 = true) then ((spec_LabelOk.f ((rd_T99 l0_0 (rd t146 x6_2)).f1)).bind fun t161 => (if t161 = true then (spec_DomOk.l0 k2 t146 (x5_2.set ((rd t146 x6_2) : Int).toNat true) (wrap64 (x6_2 + 1)) l0_0) else (some false))) else (some false)) else (none))) = some r := by rw [← hbq34] at H; exact H
             have Nbq34 := Aside0.mk hbq34
             clear hbq34
             by_cases c35 : bq34 = true
             ·subst c35
              have H1 : (some false) = some r := by rw [if_pos rfl] at H; exact H
              clear H
              have H := H1
              clear H1
              obtain rfl := Option.some.inj H
              try go_wp2
              have n0_ := Aside0.mk (Kd.R_drew HO_3.out)
              have n1_ := Aside0.mk (Kd.R_drew HO_5.out)
              have n2_ := Aside0.mk (blk_drew BK140.out)
              have n3_ := Aside0.mk (below_drew1 HB.out)
              clear HO_3
              clear HO_5
              clear BK140
              clear HB
              have HO_3 := n0_
              have HO_5 := n1_
              have BK140 := n2_
              have HB := n3_
              clear n0_ n1_ n2_ n3_
              have p155 : 0 ≤ (x6_2 : Int) := of_decide_eq_true (by first | (with_reducible assumption) | assumption)
              have q155 : x6_2 < (t146.length : Int) := of_decide_eq_true (by first | (with_reducible assumption) | assumption)
              obtain ⟨ad155, e155, hx155_0⟩ := Kd.at_int (Kd.R_reads' HO_3.out).2.2 x6_2 p155 q155
              cases e155
              replace p155 := eq_true p155
              replace q155 := eq_true q155
              obtain ⟨Ao37, co37, eo37⟩ := Kd.R_slice HO_5.out
              (first | subst eo37 | (injection eo37 with f1_ f2_ f3_; have f4_ := f1_.symm; have f5_ := f3_.symm; clear f1_ f2_ f3_; subst f4_; subst f5_))
              have p156 : 0 ≤ ((rd t146 x6_2) : Int) := of_decide_eq_true (by first | (with_reducible assumption) | assumption)
              have q156 : (rd t146 x6_2) < (x5_2.length : Int) := of_decide_eq_true (by first | (with_reducible assumption) | assumption)
              obtain ⟨ad156, e156, hx156_0⟩ := Kd.at_bool (Kd.R_reads' HO_5.out).2.2 (rd t146 x6_2) p156 q156
              (try rw [← Nbq34.out] at hx156_0)
              cases e156
              replace p156 := eq_true p156
              replace q156 := eq_true q156
              refine start_ (n := 32) (S := fun w' => w'.cell? (ad155.add (x6_2).toNat) = some (.int .i64 (rd t146 x6_2)) ∧ w'.cell? (ad156.add ((rd t146 x6_2)).toNat) = some (.bool true)) (ds := []) (ba_ 32 0) (by kernel_rfl) rfl rfl ⟨hx155_0, hx156_0⟩ (fun hHeld => ?_); refine with_tabW spec_DomOk.tab10 spec_DomOk.bits10 (fun HT_ HW_ => ?_)
              generalize wr.drew = w36 at HO_3 HO_5 BK140 HB hx155_0 hx156_0 hHeld ⊢
              refine pu_ 0 (some 63) (ba_ 32 1) rfl rfl (any_of HT_.out (by kernel_rfl)) ?_
              refine pu_ 1 (some 64) (ba_ 32 3) rfl rfl (any_of HT_.out (by kernel_rfl)) ?_
              refine pu_ 2 (some 65) (ba_ 32 7) rfl rfl (any_of HT_.out (by kernel_rfl)) ?_
              refine pu_ 3 (some 66) (ba_ 32 15) rfl rfl (any_of HT_.out (by kernel_rfl)) ?_
              refine ta_ 4 (some 67) (ba_ 32 31) rfl rfl (take_ofW HT_.out HW_.out (by kernel_rfl)) hHeld (by rintro w' ⟨s0, s1⟩; go_simp; with_reducible rfl) ?_
              refine pu_ 5 (some 68) (ba_ 32 63) rfl rfl (any_of HT_.out (by kernel_rfl)) ?_
              refine ta_ 6 (some 69) (ba_ 32 127) rfl rfl (take_ofW HT_.out HW_.out (by kernel_rfl)) hHeld (by rintro w' ⟨s0, s1⟩; go_simp; with_reducible rfl) ?_
              refine pu_ 7 (some 70) (ba_ 32 255) rfl rfl (any_of HT_.out (by kernel_rfl)) ?_
              refine pn_ 8 (some 71) (ba_ 32 511) rfl rfl (any_of HT_.out (by kernel_rfl)) ?_
              refine pn_ 9 (some 72) (ba_ 32 1023) rfl rfl (any_of HT_.out (by kernel_rfl)) ?_
              refine pn_ 10 (some 73) (ba_ 32 2047) rfl rfl (any_of HT_.out (by kernel_rfl)) ?_
              refine pn_ 11 (some 74) (ba_ 32 4095) rfl rfl (any_of HT_.out (by kernel_rfl)) ?_
              refine pn_ 12 (some 75) (ba_ 32 8191) rfl rfl (any_of HT_.out (by kernel_rfl)) ?_
              refine pn_ 13 (some 76) (ba_ 32 16383) rfl rfl (any_of HT_.out (by kernel_rfl)) ?_
              refine pn_ 14 (some 77) (ba_ 32 32767) rfl rfl (any_of HT_.out (by kernel_rfl)) ?_
              refine pn_ 15 (some 78) (ba_ 32 65535) rfl rfl (any_of HT_.out (by kernel_rfl)) ?_
              refine pn_ 16 (some 79) (ba_ 32 131071) rfl rfl (any_of HT_.out (by kernel_rfl)) ?_
              refine pn_ 17 (some 80) (ba_ 32 262143) rfl rfl (any_of HT_.out (by kernel_rfl)) ?_
              refine pu_ 18 (some 81) (ba_ 32 524287) rfl rfl (any_of HT_.out (by kernel_rfl)) ?_
              refine pu_ 19 (some 82) (ba_ 32 1048575) rfl rfl (any_of HT_.out (by kernel_rfl)) ?_
              refine pn_ 20 (some 83) (ba_ 32 2097151) rfl rfl (any_of HT_.out (by kernel_rfl)) ?_
              refine pn_ 21 (some 84) (ba_ 32 4194303) rfl rfl (any_of HT_.out (by kernel_rfl)) ?_
              refine pn_ 22 (some 85) (ba_ 32 8388607) rfl rfl (any_of HT_.out (by kernel_rfl)) ?_
              refine pn_ 23 (some 86) (ba_ 32 16777215) rfl rfl (any_of HT_.out (by kernel_rfl)) ?_
              refine pn_ 24 (some 87) (ba_ 32 33554431) rfl rfl (any_of HT_.out (by kernel_rfl)) ?_
              refine pn_ 25 (some 88) (ba_ 32 67108863) rfl rfl (any_of HT_.out (by kernel_rfl)) ?_
              refine pn_ 26 (some 89) (ba_ 32 134217727) rfl rfl (any_of HT_.out (by kernel_rfl)) ?_
              refine pn_ 27 (some 90) (ba_ 32 268435455) rfl rfl (any_of HT_.out (by kernel_rfl)) ?_
              refine pn_ 28 (some 91) (ba_ 32 536870911) rfl rfl (any_of HT_.out (by kernel_rfl)) ?_
              refine pn_ 29 (some 92) (ba_ 32 1073741823) rfl rfl (any_of HT_.out (by kernel_rfl)) ?_
              refine pn_ 30 (some 93) (ba_ 32 2147483647) rfl rfl (any_of HT_.out (by kernel_rfl)) ?_
              refine pu_ 31 (some 94) (ba_ 32 4294967295) rfl rfl (any_of HT_.out (by kernel_rfl)) ?_
              refine done_ (done_of HT_.out (by kernel_rfl)) ?_
              try go_wp2
              go_ret
              exact ⟨by first | rfl | (simp [errW_none, errW_some] <;> rfl) | (simp [*, errW_none, errW_some] <;> rfl), by repeat (first | (with_reducible first | exact HB.out | apply below_alloc | apply pw_below_drewN | apply below_drew1 | refine below_set ?_ GE140.out) | exact HB.out)⟩
             ·replace c35 := Bool.eq_false_iff.mpr c35
              subst c35
              have H1 : (if (rd t146 x6_2) < (l0_0.length : Int) then (if ((rd_T99 l0_0 (rd t146 x6_2)).f0 = true) then ((spec_LabelOk.f ((rd_T99 l0_0 (rd t146 x6_2)).f1)).bind fun t161 => (if t161 = true then (spec_DomOk.l0 k2 t146 (x5_2.set ((rd t146 x6_2) : Int).toNat true) (wrap64 (x6_2 + 1)) l0_0) else (some false))) else (some false)) else (none)) = some r := by rw [if_neg (show ¬ (false = true) by decide)] at H; exact H
              clear H
              have H := H1
              clear H1
              by_cases c38 : (rd t146 x6_2) < (l0_0.length : Int)
              ·rw [if_pos c38] at H
               have c38b0 : decide ((rd t146 x6_2) < (l0_0.length : Int)) = true := decide_eq_true c38
               clear c38
               obtain ⟨bq39, hbq39⟩ : ∃ b_ : Bool, b_ = ((rd_T99 l0_0 (rd t146 x6_2)).f0) := ⟨_, rfl⟩
               replace H : (if (bq39 = true) then ((spec_LabelOk.f ((rd_T99 l0_0 (rd t146 x6_2)).f1)).bind fun t161 => (if t161 = true then (spec_DomOk.l0 k2 t146 (x5_2.set ((rd t146 x6_2) : Int).toNat true) (wrap64 (x6_2 + 1)) l0_0) else (some false))) else (some false)) = some r := by rw [← hbq39] at H; exact H
               have Nbq39 := Aside0.mk hbq39
               clear hbq39
               by_cases c40 : (bq39 = true)
               ·subst c40
                have H1 : ((spec_LabelOk.f ((rd_T99 l0_0 (rd t146 x6_2)).f1)).bind fun t161 => (if t161 = true then (spec_DomOk.l0 k2 t146 (x5_2.set ((rd t146 x6_2) : Int).toNat true) (wrap64 (x6_2 + 1)) l0_0) else (some false))) = some r := by rw [if_pos rfl] at H; exact H
                clear H
                have H := H1
                clear H1
                replace H := Option.bind_eq_some_iff.mp H
                obtain ⟨t161, A410, H⟩ := H
                replace H : (if t161 = true then (spec_DomOk.l0 k2 t146 (x5_2.set ((rd t146 x6_2) : Int).toNat true) (wrap64 (x6_2 + 1)) l0_0) else (some false)) = some r := H
                have A41 := Aside0.mk A410
                clear A410
                by_cases c42 : t161 = true
                ·subst c42
                 have H1 : (spec_DomOk.l0 k2 t146 (x5_2.set ((rd t146 x6_2) : Int).toNat true) (wrap64 (x6_2 + 1)) l0_0) = some r := by rw [if_pos rfl] at H; exact H
                 clear H
                 have H := H1
                 clear H1
                 obtain ⟨y163, hy163⟩ : ∃ y_ : List Bool, y_ = (x5_2.set ((rd t146 x6_2) : Int).toNat true) := ⟨_, rfl⟩
                 replace H : (spec_DomOk.l0 k2 t146 y163 (wrap64 (x6_2 + 1)) l0_0) = some r := by first | (rw [hy163]; with_reducible exact H) | (have H2_ := (Option.bind_some _ _).symm.trans H; rw [hy163]; with_reducible exact H2_) | (have H2_ := (Option.bind_some _ _).symm.trans H; with_reducible exact H2_) | with_reducible exact H | (rw [hy163]; exact H) | exact H
                 have Ny163 := Aside0.mk hy163
                 clear hy163
                 have H' := Aside0.mk H
                 clear H
                 try go_wp2
                 have n0_ := Aside0.mk (Kd.R_drew HO_3.out)
                 have n1_ := Aside0.mk (Kd.R_drew HO_5.out)
                 have n2_ := Aside0.mk (blk_drew BK140.out)
                 have n3_ := Aside0.mk (below_drew1 HB.out)
                 clear HO_3
                 clear HO_5
                 clear BK140
                 clear HB
                 have HO_3 := n0_
                 have HO_5 := n1_
                 have BK140 := n2_
                 have HB := n3_
                 clear n0_ n1_ n2_ n3_
                 have p155 : 0 ≤ (x6_2 : Int) := of_decide_eq_true (by first | (with_reducible assumption) | assumption)
                 have q155 : x6_2 < (t146.length : Int) := of_decide_eq_true (by first | (with_reducible assumption) | assumption)
                 obtain ⟨ad155, e155, hx155_0⟩ := Kd.at_int (Kd.R_reads' HO_3.out).2.2 x6_2 p155 q155
                 cases e155
                 replace p155 := eq_true p155
                 replace q155 := eq_true q155
                 obtain ⟨Ao45, co45, eo45⟩ := Kd.R_slice HO_5.out
                 (first | subst eo45 | (injection eo45 with f1_ f2_ f3_; have f4_ := f1_.symm; have f5_ := f3_.symm; clear f1_ f2_ f3_; subst f4_; subst f5_))
                 have p156 : 0 ≤ ((rd t146 x6_2) : Int) := of_decide_eq_true (by first | (with_reducible assumption) | assumption)
                 have q156 : (rd t146 x6_2) < (x5_2.length : Int) := of_decide_eq_true (by first | (with_reducible assumption) | assumption)
                 obtain ⟨ad156, e156, hx156_0⟩ := Kd.at_bool (Kd.R_reads' HO_5.out).2.2 (rd t146 x6_2) p156 q156
                 (try rw [← Nbq34.out] at hx156_0)
                 (try rw [← Nbq39.out] at hx156_0)
                 cases e156
                 replace p156 := eq_true p156
                 replace q156 := eq_true q156
                 have p157 : 0 ≤ (x6_2 : Int) := of_decide_eq_true (by first | (with_reducible assumption) | assumption)
                 have q157 : x6_2 < (t146.length : Int) := of_decide_eq_true (by first | (with_reducible assumption) | assumption)
                 obtain ⟨ad157, e157, hx157_0⟩ := Kd.at_int (Kd.R_reads' HO_3.out).2.2 x6_2 p157 q157
                 obtain rfl : ad155 = ad157 := (by injection e157)
                 replace p157 := eq_true p157
                 replace q157 := eq_true q157
                 have p158 : 0 ≤ ((rd t146 x6_2) : Int) := of_decide_eq_true (by first | (with_reducible assumption) | assumption)
                 have q158 : (rd t146 x6_2) < (l0_0.length : Int) := of_decide_eq_true (by first | (with_reducible assumption) | assumption)
                 obtain ⟨ad158, e158, hx158_0, hx158_1, hx158_2, hx158_3, hx158_4, hx158_5, hx158_6⟩ := at_T99 HR0_0.out (rd t146 x6_2) p158 q158
                 have hw158_6 := hx158_6
                 have hw158_5 := hx158_5
                 have hw158_4 := hx158_4
                 have hw158_3 := hx158_3
                 have hw158_2 := hx158_2
                 have hw158_1 := hx158_1
                 have hw158_0 := hx158_0
                 (try rw [← Nbq34.out] at hx158_0)
                 (try rw [← Nbq39.out] at hx158_0)
                 cases e158
                 replace hx158_0 := (HB.out.cell (World.block_lt_of_cell? w _ hx158_0)).trans hx158_0
                 replace hx158_1 := (HB.out.cell (World.block_lt_of_cell? w _ hx158_1)).trans hx158_1
                 replace hx158_2 := (HB.out.cell (World.block_lt_of_cell? w _ hx158_2)).trans hx158_2
                 replace hx158_3 := (HB.out.cell (World.block_lt_of_cell? w _ hx158_3)).trans hx158_3
                 replace hx158_4 := (HB.out.cell (World.block_lt_of_cell? w _ hx158_4)).trans hx158_4
                 replace hx158_5 := (HB.out.cell (World.block_lt_of_cell? w _ hx158_5)).trans hx158_5
                 replace hx158_6 := (HB.out.cell (World.block_lt_of_cell? w _ hx158_6)).trans hx158_6
                 replace p158 := eq_true p158
                 replace q158 := eq_true q158
                 have p159 : 0 ≤ (x6_2 : Int) := of_decide_eq_true (by first | (with_reducible assumption) | assumption)
                 have q159 : x6_2 < (t146.length : Int) := of_decide_eq_true (by first | (with_reducible assumption) | assumption)
                 obtain ⟨ad159, e159, hx159_0⟩ := Kd.at_int (Kd.R_reads' HO_3.out).2.2 x6_2 p159 q159
                 obtain rfl : ad155 = ad159 := (by injection e159)
                 replace p159 := eq_true p159
                 replace q159 := eq_true q159
                 have p160 : 0 ≤ ((rd t146 x6_2) : Int) := of_decide_eq_true (by first | (with_reducible assumption) | assumption)
                 have q160 : (rd t146 x6_2) < (l0_0.length : Int) := of_decide_eq_true (by first | (with_reducible assumption) | assumption)
                 obtain ⟨ad160, e160, hx160_0, hx160_1, hx160_2, hx160_3, hx160_4, hx160_5, hx160_6⟩ := at_T99 HR0_0.out (rd t146 x6_2) p160 q160
                 have hw160_6 := hx160_6
                 have hw160_5 := hx160_5
                 have hw160_4 := hx160_4
                 have hw160_3 := hx160_3
                 have hw160_2 := hx160_2
                 have hw160_1 := hx160_1
                 have hw160_0 := hx160_0
                 (try rw [← Nbq34.out] at hx160_0)
                 (try rw [← Nbq39.out] at hx160_0)
                 obtain rfl : ad158 = ad160 := (by injection e160)
                 replace hx160_0 := (HB.out.cell (World.block_lt_of_cell? w _ hx160_0)).trans hx160_0
                 replace hx160_1 := (HB.out.cell (World.block_lt_of_cell? w _ hx160_1)).trans hx160_1
                 replace hx160_2 := (HB.out.cell (World.block_lt_of_cell? w _ hx160_2)).trans hx160_2
                 replace hx160_3 := (HB.out.cell (World.block_lt_of_cell? w _ hx160_3)).trans hx160_3
                 replace hx160_4 := (HB.out.cell (World.block_lt_of_cell? w _ hx160_4)).trans hx160_4
                 replace hx160_5 := (HB.out.cell (World.block_lt_of_cell? w _ hx160_5)).trans hx160_5
                 replace hx160_6 := (HB.out.cell (World.block_lt_of_cell? w _ hx160_6)).trans hx160_6
                 replace p160 := eq_true p160
                 replace q160 := eq_true q160
                 refine start_ (n := 32) (S := fun w' => w'.cell? ⟨gb140, 0, none⟩ = some (.slice (some ad158) l0_0.length c0_0) ∧ w'.cell? (ad155.add (x6_2).toNat) = some (.int .i64 (rd t146 x6_2)) ∧ w'.cell? (ad156.add ((rd t146 x6_2)).toNat) = some (.bool false) ∧ w'.cell? (ad155.add (x6_2).toNat) = some (.int .i64 (rd t146 x6_2)) ∧ w'.cell? (ad158.add (((rd t146 x6_2)).toNat * 7)) = some (.bool true) ∧ w'.cell? ⟨(ad158.add (((rd t146 x6_2)).toNat * 7)).block, (ad158.add (((rd t146 x6_2)).toNat * 7)).off + 1, none⟩ = some (.int .i64 ((rd_T99 l0_0 (rd t146 x6_2)).f1)) ∧ w'.cell? ⟨(ad158.add (((rd t146 x6_2)).toNat * 7)).block, (ad158.add (((rd t146 x6_2)).toNat * 7)).off + 2, none⟩ = some (.int .i64 ((rd_T99 l0_0 (rd t146 x6_2)).f2)) ∧ w'.cell? ⟨(ad158.add (((rd t146 x6_2)).toNat * 7)).block, (ad158.add (((rd t146 x6_2)).toNat * 7)).off + 3, none⟩ = some (.int .i64 ((rd_T99 l0_0 (rd t146 x6_2)).f3)) ∧ w'.cell? ⟨(ad158.add (((rd t146 x6_2)).toNat * 7)).block, (ad158.add (((rd t146 x6_2)).toNat * 7)).off + 4, none⟩ = some (.int .i64 ((rd_T99 l0_0 (rd t146 x6_2)).f4)) ∧ w'.cell? ⟨(ad158.add (((rd t146 x6_2)).toNat * 7)).block, (ad158.add (((rd t146 x6_2)).toNat * 7)).off + 5, none⟩ = some (.int .i64 ((rd_T99 l0_0 (rd t146 x6_2)).f5)) ∧ w'.cell? ⟨(ad158.add (((rd t146 x6_2)).toNat * 7)).block, (ad158.add (((rd t146 x6_2)).toNat * 7)).off + 6, none⟩ = some (.int .i64 ((rd_T99 l0_0 (rd t146 x6_2)).f6)) ∧ w'.cell? (ad155.add (x6_2).toNat) = some (.int .i64 (rd t146 x6_2)) ∧ w'.cell? (ad158.add (((rd t146 x6_2)).toNat * 7)) = some (.bool (true)) ∧ w'.cell? ⟨(ad158.add (((rd t146 x6_2)).toNat * 7)).block, (ad158.add (((rd t146 x6_2)).toNat * 7)).off + 1, none⟩ = some (.int .i64 ((rd_T99 l0_0 (rd t146 x6_2)).f1)) ∧ w'.cell? ⟨(ad158.add (((rd t146 x6_2)).toNat * 7)).block, (ad158.add (((rd t146 x6_2)).toNat * 7)).off + 2, none⟩ = some (.int .i64 ((rd_T99 l0_0 (rd t146 x6_2)).f2)) ∧ w'.cell? ⟨(ad158.add (((rd t146 x6_2)).toNat * 7)).block, (ad158.add (((rd t146 x6_2)).toNat * 7)).off + 3, none⟩ = some (.int .i64 ((rd_T99 l0_0 (rd t146 x6_2)).f3)) ∧ w'.cell? ⟨(ad158.add (((rd t146 x6_2)).toNat * 7)).block, (ad158.add (((rd t146 x6_2)).toNat * 7)).off + 4, none⟩ = some (.int .i64 ((rd_T99 l0_0 (rd t146 x6_2)).f4)) ∧ w'.cell? ⟨(ad158.add (((rd t146 x6_2)).toNat * 7)).block, (ad158.add (((rd t146 x6_2)).toNat * 7)).off + 5, none⟩ = some (.int .i64 ((rd_T99 l0_0 (rd t146 x6_2)).f5)) ∧ w'.cell? ⟨(ad158.add (((rd t146 x6_2)).toNat * 7)).block, (ad158.add (((rd t146 x6_2)).toNat * 7)).off + 6, none⟩ = some (.int .i64 ((rd_T99 l0_0 (rd t146 x6_2)).f6))) (ds := []) (ba_ 32 0) (by kernel_rfl) rfl rfl ⟨(blk_cell BK140.out 0).trans rfl, hx155_0, hx156_0, hx157_0, ((HB.out.cell (World.block_lt_of_cell? w _ hw158_0)).trans (by first | exact hw158_0 | exact hw158_0.trans (by rw [← Nbq34.out]) | exact hw158_0.trans (by rw [← Nbq39.out]))), ((HB.out.cell (World.block_lt_of_cell? w _ hw158_1)).trans hw158_1), ((HB.out.cell (World.block_lt_of_cell? w _ hw158_2)).trans hw158_2), ((HB.out.cell (World.block_lt_of_cell? w _ hw158_3)).trans hw158_3), ((HB.out.cell (World.block_lt_of_cell? w _ hw158_4)).trans hw158_4), ((HB.out.cell (World.block_lt_of_cell? w _ hw158_5)).trans hw158_5), ((HB.out.cell (World.block_lt_of_cell? w _ hw158_6)).trans hw158_6), hx159_0, ((HB.out.cell (World.block_lt_of_cell? w _ hw160_0)).trans (by first | exact hw160_0 | exact hw160_0.trans (by rw [← Nbq34.out]) | exact hw160_0.trans (by rw [← Nbq39.out]))), ((HB.out.cell (World.block_lt_of_cell? w _ hw160_1)).trans hw160_1), ((HB.out.cell (World.block_lt_of_cell? w _ hw160_2)).trans hw160_2), ((HB.out.cell (World.block_lt_of_cell? w _ hw160_3)).trans hw160_3), ((HB.out.cell (World.block_lt_of_cell? w _ hw160_4)).trans hw160_4), ((HB.out.cell (World.block_lt_of_cell? w _ hw160_5)).trans hw160_5), ((HB.out.cell (World.block_lt_of_cell? w _ hw160_6)).trans hw160_6)⟩ (fun hHeld => ?_); refine with_tabW spec_DomOk.tab10 spec_DomOk.bits10 (fun HT_ HW_ => ?_)
                 generalize wr.drew = w44 at HO_3 HO_5 BK140 HB hx155_0 hx156_0 hx157_0 hx158_0 hx158_1 hx158_2 hx158_3 hx158_4 hx158_5 hx158_6 hx159_0 hx160_0 hx160_1 hx160_2 hx160_3 hx160_4 hx160_5 hx160_6 hHeld ⊢
                 refine pu_ 0 (some 63) (ba_ 32 1) rfl rfl (any_of HT_.out (by kernel_rfl)) ?_
                 refine pu_ 1 (some 64) (ba_ 32 3) rfl rfl (any_of HT_.out (by kernel_rfl)) ?_
                 refine pu_ 2 (some 65) (ba_ 32 7) rfl rfl (any_of HT_.out (by kernel_rfl)) ?_
                 refine pu_ 3 (some 66) (ba_ 32 15) rfl rfl (any_of HT_.out (by kernel_rfl)) ?_
                 refine ta_ 4 (some 67) (ba_ 32 31) rfl rfl (take_ofW HT_.out HW_.out (by kernel_rfl)) hHeld (by rintro w' ⟨s0, s1, s2, s3, s4, s5, s6, s7, s8, s9, s10, s11, s12, s13, s14, s15, s16, s17, s18⟩; go_simp; with_reducible rfl) ?_
                 refine pu_ 5 (some 68) (ba_ 32 63) rfl rfl (any_of HT_.out (by kernel_rfl)) ?_
                 refine ta_ 6 (some 69) (ba_ 32 127) rfl rfl (take_ofW HT_.out HW_.out (by kernel_rfl)) hHeld (by rintro w' ⟨s0, s1, s2, s3, s4, s5, s6, s7, s8, s9, s10, s11, s12, s13, s14, s15, s16, s17, s18⟩; go_simp; with_reducible rfl) ?_
                 refine pu_ 7 (some 70) (ba_ 32 255) rfl rfl (any_of HT_.out (by kernel_rfl)) ?_
                 refine pu_ 8 (some 71) (ba_ 32 511) rfl rfl (any_of HT_.out (by kernel_rfl)) ?_
                 refine pu_ 10 (some 73) (ba_ 32 1535) rfl rfl (any_of HT_.out (by kernel_rfl)) ?_
                 refine pu_ 11 (some 74) (ba_ 32 3583) rfl rfl (any_of HT_.out (by kernel_rfl)) ?_
                 refine pu_ 12 (some 75) (ba_ 32 7679) rfl rfl (any_of HT_.out (by kernel_rfl)) ?_
                 refine ta_ 9 (some 72) (ba_ 32 8191) rfl rfl (take_ofW HT_.out HW_.out (by kernel_rfl)) hHeld (by rintro w' ⟨s0, s1, s2, s3, s4, s5, s6, s7, s8, s9, s10, s11, s12, s13, s14, s15, s16, s17, s18⟩; go_simp; with_reducible rfl) ?_
                 refine ta_ 13 (some 76) (ba_ 32 16383) rfl rfl (take_ofW HT_.out HW_.out (by kernel_rfl)) hHeld (by rintro w' ⟨s0, s1, s2, s3, s4, s5, s6, s7, s8, s9, s10, s11, s12, s13, s14, s15, s16, s17, s18⟩; go_simp; with_reducible rfl) ?_
                 refine pu_ 14 (some 77) (ba_ 32 32767) rfl rfl (any_of HT_.out (by kernel_rfl)) ?_
                 refine pu_ 15 (some 78) (ba_ 32 65535) rfl rfl (any_of HT_.out (by kernel_rfl)) ?_
                 refine ta_ 16 (some 79) (ba_ 32 131071) rfl rfl (take_ofW HT_.out HW_.out (by kernel_rfl)) hHeld (by rintro w' ⟨s0, s1, s2, s3, s4, s5, s6, s7, s8, s9, s10, s11, s12, s13, s14, s15, s16, s17, s18⟩; go_simp; with_reducible rfl) ?_
                 refine pu_ 17 (some 80) (ba_ 32 262143) rfl rfl (any_of HT_.out (by kernel_rfl)) ?_
                 refine pu_ 18 (some 81) (ba_ 32 524287) rfl rfl (any_of HT_.out (by kernel_rfl)) ?_
                 refine pu_ 19 (some 82) (ba_ 32 1048575) rfl rfl (any_of HT_.out (by kernel_rfl)) ?_
                 refine pu_ 20 (some 83) (ba_ 32 2097151) rfl rfl (any_of HT_.out (by kernel_rfl)) ?_
                 refine pu_ 22 (some 85) (ba_ 32 6291455) rfl rfl (any_of HT_.out (by kernel_rfl)) ?_
                 refine pu_ 23 (some 86) (ba_ 32 14680063) rfl rfl (any_of HT_.out (by kernel_rfl)) ?_
                 refine pu_ 24 (some 87) (ba_ 32 31457279) rfl rfl (any_of HT_.out (by kernel_rfl)) ?_
                 refine ta_ 21 (some 84) (ba_ 32 33554431) rfl rfl (take_ofW HT_.out HW_.out (by kernel_rfl)) hHeld (by rintro w' ⟨s0, s1, s2, s3, s4, s5, s6, s7, s8, s9, s10, s11, s12, s13, s14, s15, s16, s17, s18⟩; go_simp; with_reducible rfl) ?_
                 refine ta_ 25 (some 88) (ba_ 32 67108863) rfl rfl (take_ofW HT_.out HW_.out (by kernel_rfl)) hHeld (by rintro w' ⟨s0, s1, s2, s3, s4, s5, s6, s7, s8, s9, s10, s11, s12, s13, s14, s15, s16, s17, s18⟩; go_simp; with_reducible rfl) ?_
                 refine pu_ 26 (some 89) (ba_ 32 134217727) rfl rfl (any_of HT_.out (by kernel_rfl)) ?_
                 refine pu_ 27 (some 90) (ba_ 32 268435455) rfl rfl (any_of HT_.out (by kernel_rfl)) ?_
                 refine ta_ 28 (some 91) (ba_ 32 536870911) rfl rfl (take_ofW HT_.out HW_.out (by kernel_rfl)) hHeld (by rintro w' ⟨s0, s1, s2, s3, s4, s5, s6, s7, s8, s9, s10, s11, s12, s13, s14, s15, s16, s17, s18⟩; go_simp; with_reducible rfl) ?_
                 refine one_ (i := 29) (N := some 92) (ba_ 32 1073741823) rfl rfl (one_of HT_.out (by kernel_rfl)) (by decide) (fun K hK => ?_)
                 refine goes_ Try.func69 (by kernel_rfl) rfl #[.int .i64 ((rd_T99 l0_0 (rd t146 x6_2)).f1)] (by rfl) rfl rfl (by (try simp only [List.map_toArray, List.map_cons, List.map_nil]); first | done | rfl | (simp only [List.length_drop, List.length_take]; rfl)) ?_
                 with_reducible refine (spec_LabelOk.calls ((rd_T99 l0_0 (rd t146 x6_2)).f1) true _ A41.out).mono ?_
                 rintro e w' ⟨rfl, ⟨nd, rfl⟩⟩
                 refine ⟨_, rfl, ?_⟩
                 refine hK.out _ _ ⟨(blk_cell BK140.out 0).trans rfl, hHeld.2.1, hHeld.2.2.1, hHeld.2.2.2.1, ((HB.out.cell (World.block_lt_of_cell? w _ hw158_0)).trans (by first | exact hw158_0 | exact hw158_0.trans (by rw [← Nbq34.out]) | exact hw158_0.trans (by rw [← Nbq39.out]))), ((HB.out.cell (World.block_lt_of_cell? w _ hw158_1)).trans hw158_1), ((HB.out.cell (World.block_lt_of_cell? w _ hw158_2)).trans hw158_2), ((HB.out.cell (World.block_lt_of_cell? w _ hw158_3)).trans hw158_3), ((HB.out.cell (World.block_lt_of_cell? w _ hw158_4)).trans hw158_4), ((HB.out.cell (World.block_lt_of_cell? w _ hw158_5)).trans hw158_5), ((HB.out.cell (World.block_lt_of_cell? w _ hw158_6)).trans hw158_6), hHeld.2.2.2.2.2.2.2.2.2.2.2.1, ((HB.out.cell (World.block_lt_of_cell? w _ hw160_0)).trans (by first | exact hw160_0 | exact hw160_0.trans (by rw [← Nbq34.out]) | exact hw160_0.trans (by rw [← Nbq39.out]))), ((HB.out.cell (World.block_lt_of_cell? w _ hw160_1)).trans hw160_1), ((HB.out.cell (World.block_lt_of_cell? w _ hw160_2)).trans hw160_2), ((HB.out.cell (World.block_lt_of_cell? w _ hw160_3)).trans hw160_3), ((HB.out.cell (World.block_lt_of_cell? w _ hw160_4)).trans hw160_4), ((HB.out.cell (World.block_lt_of_cell? w _ hw160_5)).trans hw160_5), ((HB.out.cell (World.block_lt_of_cell? w _ hw160_6)).trans hw160_6)⟩ (fun hHeld => ?_)
                 clear hK K
                 refine norm_ (a' := ?_) ?_ ?_
                 rotate_left
                 ·show Act.put _ (some 92) _ = _
                  simp only [Act.put, List.setIfInBounds_toArray, List.set_cons_zero, List.set_cons_succ, i64_w, i32_w]
                  rfl
                 refine pu_ 30 (some 93) (ba_ 32 2147483647) rfl rfl (any_of HT_.out (by kernel_rfl)) ?_
                 refine pu_ 31 (some 94) (ba_ 32 4294967295) rfl rfl (any_of HT_.out (by kernel_rfl)) ?_
                 refine done_ (done_of HT_.out (by kernel_rfl)) ?_
                 have mHO_3_ := Aside0.mk (Kd.R_drewN HO_3.out nd)
                 have mHO_5_ := Aside0.mk (Kd.R_drewN HO_5.out nd)
                 have mBK140_ := Aside0.mk (blk_drewN BK140.out nd)
                 have mHB_ := Aside0.mk (pw_below_drewN HB.out nd)
                 replace hx155_0 : (w44.drewN nd).cell? _ = _ := hx155_0
                 replace hx156_0 : (w44.drewN nd).cell? _ = _ := hx156_0
                 replace hx157_0 : (w44.drewN nd).cell? _ = _ := hx157_0
                 replace hx158_0 : (w44.drewN nd).cell? _ = _ := hx158_0
                 replace hx158_1 : (w44.drewN nd).cell? _ = _ := hx158_1
                 replace hx158_2 : (w44.drewN nd).cell? _ = _ := hx158_2
                 replace hx158_3 : (w44.drewN nd).cell? _ = _ := hx158_3
                 replace hx158_4 : (w44.drewN nd).cell? _ = _ := hx158_4
                 replace hx158_5 : (w44.drewN nd).cell? _ = _ := hx158_5
                 replace hx158_6 : (w44.drewN nd).cell? _ = _ := hx158_6
                 replace hx159_0 : (w44.drewN nd).cell? _ = _ := hx159_0
                 replace hx160_0 : (w44.drewN nd).cell? _ = _ := hx160_0
                 replace hx160_1 : (w44.drewN nd).cell? _ = _ := hx160_1
                 replace hx160_2 : (w44.drewN nd).cell? _ = _ := hx160_2
                 replace hx160_3 : (w44.drewN nd).cell? _ = _ := hx160_3
                 replace hx160_4 : (w44.drewN nd).cell? _ = _ := hx160_4
                 replace hx160_5 : (w44.drewN nd).cell? _ = _ := hx160_5
                 replace hx160_6 : (w44.drewN nd).cell? _ = _ := hx160_6
                 clear HO_3 HO_5 BK140 HB
                 generalize w44.drewN nd = w44 at mHO_3_ mHO_5_ mBK140_ mHB_ hx155_0 hx156_0 hx157_0 hx158_0 hx158_1 hx158_2 hx158_3 hx158_4 hx158_5 hx158_6 hx159_0 hx160_0 hx160_1 hx160_2 hx160_3 hx160_4 hx160_5 hx160_6 ⊢
                 have HO_3 := mHO_3_
                 have HO_5 := mHO_5_
                 have BK140 := mBK140_
                 have HB := mHB_
                 have p162 : 0 ≤ (x6_2 : Int) := of_decide_eq_true (by first | (with_reducible assumption) | assumption)
                 have q162 : x6_2 < (t146.length : Int) := of_decide_eq_true (by first | (with_reducible assumption) | assumption)
                 obtain ⟨ad162, e162, hx162_0⟩ := Kd.at_int (Kd.R_reads' HO_3.out).2.2 x6_2 p162 q162
                 obtain rfl : ad155 = ad162 := (by injection e162)
                 replace p162 := eq_true p162
                 replace q162 := eq_true q162
                 have p43 : 0 ≤ ((rd t146 x6_2) : Int) := of_decide_eq_true (by first | (with_reducible assumption) | assumption)
                 have q43 : ((rd t146 x6_2) : Int) < ((x5_2.length : Int) : Int) := of_decide_eq_true (by first | (with_reducible assumption) | assumption)
                 obtain ⟨go43, co43, eo43, gb43, gl43, cl43, HG43⟩ := Kd.R_form HO_5.out (by omega)
                 (first | cases eo43 | (injection eo43 with ea_ en_ ec_; (first | subst ea_ | (injection ea_ with ea_; subst ea_)); subst ec_; clear en_))
                 have GB43 := Aside0.mk gb43
                 have GG43 := Aside0.mk HG43
                 clear gb43 gl43 HG43
                 (first | simp only [add_plain] at hx156_0 | skip)
                 obtain ⟨hx43_0, hf43_0⟩ := Kd.R_celln false HO_5.out ((rd t146 x6_2) : Int) p43 q43
                 replace p43 := eq_true p43
                 replace q43 := eq_true q43
                 obtain ⟨hy46_, hz46_⟩ := Kd.R_celln false HO_5.out ((rd t146 x6_2) : Int) (of_decide_eq_true (by first | (with_reducible assumption) | assumption)) (of_decide_eq_true (by first | (with_reducible assumption) | assumption))
                 have HP46 := Kd.R_putg HO_5.out ((rd t146 x6_2) : Int) true
                 try go_wp2_with (first | ((with_reducible refine gate_store (t := 4) (p := 100) rfl ?_); refine store_event (t := 4) (p := 100) (v := ?vo_w47) (w1 := (w44.setCell ⟨go43, ((rd t146 x6_2) : Int).toNat, none⟩ (.bool true))) ?hg ?ho ?hn ?hr ?_; (case ho => rfl); (case hg => rfl); (case hn => rfl); (case hr => first | (go_simp; done) | (go_simp; rfl)); intro w47 hw; have hg : w44.grownBy w47 (some go43) := (by rw [hw]; exact HP46.2); have hp_ : Kd.R Kd.bool 4 w47 w.heap.size (fun _ => True) (.slice (some ⟨go43, 0, none⟩) x5_2.length co45) y163 := (by rw [hw, Ny163.out]; exact HP46.1); clear HP46; have n0_ := Aside0.mk (Kd.R_over' (v := (.slice (some ⟨go43, 0, none⟩) x5_2.length co45)) (by (with_reducible repeat (first | apply Kd.R_alloc | apply Kd.R_drewN | apply Kd.R_drew)); exact HO_3.out) (Kd.R_typed HO_5.out) (by decide) hg); have n1_ := Aside0.mk (hp_); have n2_ := Aside0.mk (blk_grown (g := gb140) (o := .cells #[.slice (some ad158) l0_0.length c0_0] 29 (0, 0)) (by (with_reducible repeat (first | refine blk_drewN ?_ _ | refine blk_drew ?_ | refine blk_alloc ?_ _)); exact BK140.out) hg (Kd.R_ne HO_5.out BK140.out (by decide))); have n3_ := Aside0.mk ((by rw [hw]; exact below_set (HB.out) GB43.out : Below w.heap.size w w47)); clear HO_3; clear HO_5; clear BK140; clear HB; have HO_3 := n0_; have HO_5 := n1_; have BK140 := n2_; have HB := n3_; clear n0_ n1_ n2_ n3_; clear hg hw hp_))
                 go_roundg k2
                 case measure => have := HJ1.out; have := HK2.out; omega
                 case rel => exact ⟨(y163), (wrap64 (x6_2 + 1)), (by first | rfl | (simp; done) | (simp [*]; done)), H', ⟨by have := HJ1.out; have := HK2.out; omega⟩, ⟨by (with_reducible repeat (first | apply Kd.R_alloc | apply Kd.R_drewN | apply Kd.R_drew)); exact HO_3.out⟩, ⟨by (with_reducible repeat (first | apply Kd.R_alloc | apply Kd.R_drewN | apply Kd.R_drew)); exact HO_5.out⟩, ⟨by (with_reducible repeat (first | refine blk_drewN ?_ _ | refine blk_drew ?_ | refine blk_alloc ?_ _)); exact BK140.out⟩, ⟨by repeat (first | (with_reducible first | exact HB.out | apply below_alloc | apply pw_below_drewN | apply below_drew1 | refine below_set ?_ GE140.out) | exact HB.out)⟩⟩
                ·replace c42 := Bool.eq_false_iff.mpr c42
                 subst c42
                 have H1 : (some false) = some r := by rw [if_neg (show ¬ (false = true) by decide)] at H; exact H
                 clear H
                 have H := H1
                 clear H1
                 obtain rfl := Option.some.inj H
                 try go_wp2
                 have n0_ := Aside0.mk (Kd.R_drew HO_3.out)
                 have n1_ := Aside0.mk (Kd.R_drew HO_5.out)
                 have n2_ := Aside0.mk (blk_drew BK140.out)
                 have n3_ := Aside0.mk (below_drew1 HB.out)
                 clear HO_3
                 clear HO_5
                 clear BK140
                 clear HB
                 have HO_3 := n0_
                 have HO_5 := n1_
                 have BK140 := n2_
                 have HB := n3_
                 clear n0_ n1_ n2_ n3_
                 have p155 : 0 ≤ (x6_2 : Int) := of_decide_eq_true (by first | (with_reducible assumption) | assumption)
                 have q155 : x6_2 < (t146.length : Int) := of_decide_eq_true (by first | (with_reducible assumption) | assumption)
                 obtain ⟨ad155, e155, hx155_0⟩ := Kd.at_int (Kd.R_reads' HO_3.out).2.2 x6_2 p155 q155
                 cases e155
                 replace p155 := eq_true p155
                 replace q155 := eq_true q155
                 obtain ⟨Ao49, co49, eo49⟩ := Kd.R_slice HO_5.out
                 (first | subst eo49 | (injection eo49 with f1_ f2_ f3_; have f4_ := f1_.symm; have f5_ := f3_.symm; clear f1_ f2_ f3_; subst f4_; subst f5_))
                 have p156 : 0 ≤ ((rd t146 x6_2) : Int) := of_decide_eq_true (by first | (with_reducible assumption) | assumption)
                 have q156 : (rd t146 x6_2) < (x5_2.length : Int) := of_decide_eq_true (by first | (with_reducible assumption) | assumption)
                 obtain ⟨ad156, e156, hx156_0⟩ := Kd.at_bool (Kd.R_reads' HO_5.out).2.2 (rd t146 x6_2) p156 q156
                 (try rw [← Nbq34.out] at hx156_0)
                 (try rw [← Nbq39.out] at hx156_0)
                 cases e156
                 replace p156 := eq_true p156
                 replace q156 := eq_true q156
                 have p157 : 0 ≤ (x6_2 : Int) := of_decide_eq_true (by first | (with_reducible assumption) | assumption)
                 have q157 : x6_2 < (t146.length : Int) := of_decide_eq_true (by first | (with_reducible assumption) | assumption)
                 obtain ⟨ad157, e157, hx157_0⟩ := Kd.at_int (Kd.R_reads' HO_3.out).2.2 x6_2 p157 q157
                 obtain rfl : ad155 = ad157 := (by injection e157)
                 replace p157 := eq_true p157
                 replace q157 := eq_true q157
                 have p158 : 0 ≤ ((rd t146 x6_2) : Int) := of_decide_eq_true (by first | (with_reducible assumption) | assumption)
                 have q158 : (rd t146 x6_2) < (l0_0.length : Int) := of_decide_eq_true (by first | (with_reducible assumption) | assumption)
                 obtain ⟨ad158, e158, hx158_0, hx158_1, hx158_2, hx158_3, hx158_4, hx158_5, hx158_6⟩ := at_T99 HR0_0.out (rd t146 x6_2) p158 q158
                 have hw158_6 := hx158_6
                 have hw158_5 := hx158_5
                 have hw158_4 := hx158_4
                 have hw158_3 := hx158_3
                 have hw158_2 := hx158_2
                 have hw158_1 := hx158_1
                 have hw158_0 := hx158_0
                 (try rw [← Nbq34.out] at hx158_0)
                 (try rw [← Nbq39.out] at hx158_0)
                 cases e158
                 replace hx158_0 := (HB.out.cell (World.block_lt_of_cell? w _ hx158_0)).trans hx158_0
                 replace hx158_1 := (HB.out.cell (World.block_lt_of_cell? w _ hx158_1)).trans hx158_1
                 replace hx158_2 := (HB.out.cell (World.block_lt_of_cell? w _ hx158_2)).trans hx158_2
                 replace hx158_3 := (HB.out.cell (World.block_lt_of_cell? w _ hx158_3)).trans hx158_3
                 replace hx158_4 := (HB.out.cell (World.block_lt_of_cell? w _ hx158_4)).trans hx158_4
                 replace hx158_5 := (HB.out.cell (World.block_lt_of_cell? w _ hx158_5)).trans hx158_5
                 replace hx158_6 := (HB.out.cell (World.block_lt_of_cell? w _ hx158_6)).trans hx158_6
                 replace p158 := eq_true p158
                 replace q158 := eq_true q158
                 have p159 : 0 ≤ (x6_2 : Int) := of_decide_eq_true (by first | (with_reducible assumption) | assumption)
                 have q159 : x6_2 < (t146.length : Int) := of_decide_eq_true (by first | (with_reducible assumption) | assumption)
                 obtain ⟨ad159, e159, hx159_0⟩ := Kd.at_int (Kd.R_reads' HO_3.out).2.2 x6_2 p159 q159
                 obtain rfl : ad155 = ad159 := (by injection e159)
                 replace p159 := eq_true p159
                 replace q159 := eq_true q159
                 have p160 : 0 ≤ ((rd t146 x6_2) : Int) := of_decide_eq_true (by first | (with_reducible assumption) | assumption)
                 have q160 : (rd t146 x6_2) < (l0_0.length : Int) := of_decide_eq_true (by first | (with_reducible assumption) | assumption)
                 obtain ⟨ad160, e160, hx160_0, hx160_1, hx160_2, hx160_3, hx160_4, hx160_5, hx160_6⟩ := at_T99 HR0_0.out (rd t146 x6_2) p160 q160
                 have hw160_6 := hx160_6
                 have hw160_5 := hx160_5
                 have hw160_4 := hx160_4
                 have hw160_3 := hx160_3
                 have hw160_2 := hx160_2
                 have hw160_1 := hx160_1
                 have hw160_0 := hx160_0
                 (try rw [← Nbq34.out] at hx160_0)
                 (try rw [← Nbq39.out] at hx160_0)
                 obtain rfl : ad158 = ad160 := (by injection e160)
                 replace hx160_0 := (HB.out.cell (World.block_lt_of_cell? w _ hx160_0)).trans hx160_0
                 replace hx160_1 := (HB.out.cell (World.block_lt_of_cell? w _ hx160_1)).trans hx160_1
                 replace hx160_2 := (HB.out.cell (World.block_lt_of_cell? w _ hx160_2)).trans hx160_2
                 replace hx160_3 := (HB.out.cell (World.block_lt_of_cell? w _ hx160_3)).trans hx160_3
                 replace hx160_4 := (HB.out.cell (World.block_lt_of_cell? w _ hx160_4)).trans hx160_4
                 replace hx160_5 := (HB.out.cell (World.block_lt_of_cell? w _ hx160_5)).trans hx160_5
                 replace hx160_6 := (HB.out.cell (World.block_lt_of_cell? w _ hx160_6)).trans hx160_6
                 replace p160 := eq_true p160
                 replace q160 := eq_true q160
                 refine start_ (n := 32) (S := fun w' => w'.cell? ⟨gb140, 0, none⟩ = some (.slice (some ad158) l0_0.length c0_0) ∧ w'.cell? (ad155.add (x6_2).toNat) = some (.int .i64 (rd t146 x6_2)) ∧ w'.cell? (ad156.add ((rd t146 x6_2)).toNat) = some (.bool false) ∧ w'.cell? (ad155.add (x6_2).toNat) = some (.int .i64 (rd t146 x6_2)) ∧ w'.cell? (ad158.add (((rd t146 x6_2)).toNat * 7)) = some (.bool true) ∧ w'.cell? ⟨(ad158.add (((rd t146 x6_2)).toNat * 7)).block, (ad158.add (((rd t146 x6_2)).toNat * 7)).off + 1, none⟩ = some (.int .i64 ((rd_T99 l0_0 (rd t146 x6_2)).f1)) ∧ w'.cell? ⟨(ad158.add (((rd t146 x6_2)).toNat * 7)).block, (ad158.add (((rd t146 x6_2)).toNat * 7)).off + 2, none⟩ = some (.int .i64 ((rd_T99 l0_0 (rd t146 x6_2)).f2)) ∧ w'.cell? ⟨(ad158.add (((rd t146 x6_2)).toNat * 7)).block, (ad158.add (((rd t146 x6_2)).toNat * 7)).off + 3, none⟩ = some (.int .i64 ((rd_T99 l0_0 (rd t146 x6_2)).f3)) ∧ w'.cell? ⟨(ad158.add (((rd t146 x6_2)).toNat * 7)).block, (ad158.add (((rd t146 x6_2)).toNat * 7)).off + 4, none⟩ = some (.int .i64 ((rd_T99 l0_0 (rd t146 x6_2)).f4)) ∧ w'.cell? ⟨(ad158.add (((rd t146 x6_2)).toNat * 7)).block, (ad158.add (((rd t146 x6_2)).toNat * 7)).off + 5, none⟩ = some (.int .i64 ((rd_T99 l0_0 (rd t146 x6_2)).f5)) ∧ w'.cell? ⟨(ad158.add (((rd t146 x6_2)).toNat * 7)).block, (ad158.add (((rd t146 x6_2)).toNat * 7)).off + 6, none⟩ = some (.int .i64 ((rd_T99 l0_0 (rd t146 x6_2)).f6)) ∧ w'.cell? (ad155.add (x6_2).toNat) = some (.int .i64 (rd t146 x6_2)) ∧ w'.cell? (ad158.add (((rd t146 x6_2)).toNat * 7)) = some (.bool (true)) ∧ w'.cell? ⟨(ad158.add (((rd t146 x6_2)).toNat * 7)).block, (ad158.add (((rd t146 x6_2)).toNat * 7)).off + 1, none⟩ = some (.int .i64 ((rd_T99 l0_0 (rd t146 x6_2)).f1)) ∧ w'.cell? ⟨(ad158.add (((rd t146 x6_2)).toNat * 7)).block, (ad158.add (((rd t146 x6_2)).toNat * 7)).off + 2, none⟩ = some (.int .i64 ((rd_T99 l0_0 (rd t146 x6_2)).f2)) ∧ w'.cell? ⟨(ad158.add (((rd t146 x6_2)).toNat * 7)).block, (ad158.add (((rd t146 x6_2)).toNat * 7)).off + 3, none⟩ = some (.int .i64 ((rd_T99 l0_0 (rd t146 x6_2)).f3)) ∧ w'.cell? ⟨(ad158.add (((rd t146 x6_2)).toNat * 7)).block, (ad158.add (((rd t146 x6_2)).toNat * 7)).off + 4, none⟩ = some (.int .i64 ((rd_T99 l0_0 (rd t146 x6_2)).f4)) ∧ w'.cell? ⟨(ad158.add (((rd t146 x6_2)).toNat * 7)).block, (ad158.add (((rd t146 x6_2)).toNat * 7)).off + 5, none⟩ = some (.int .i64 ((rd_T99 l0_0 (rd t146 x6_2)).f5)) ∧ w'.cell? ⟨(ad158.add (((rd t146 x6_2)).toNat * 7)).block, (ad158.add (((rd t146 x6_2)).toNat * 7)).off + 6, none⟩ = some (.int .i64 ((rd_T99 l0_0 (rd t146 x6_2)).f6))) (ds := []) (ba_ 32 0) (by kernel_rfl) rfl rfl ⟨(blk_cell BK140.out 0).trans rfl, hx155_0, hx156_0, hx157_0, ((HB.out.cell (World.block_lt_of_cell? w _ hw158_0)).trans (by first | exact hw158_0 | exact hw158_0.trans (by rw [← Nbq34.out]) | exact hw158_0.trans (by rw [← Nbq39.out]))), ((HB.out.cell (World.block_lt_of_cell? w _ hw158_1)).trans hw158_1), ((HB.out.cell (World.block_lt_of_cell? w _ hw158_2)).trans hw158_2), ((HB.out.cell (World.block_lt_of_cell? w _ hw158_3)).trans hw158_3), ((HB.out.cell (World.block_lt_of_cell? w _ hw158_4)).trans hw158_4), ((HB.out.cell (World.block_lt_of_cell? w _ hw158_5)).trans hw158_5), ((HB.out.cell (World.block_lt_of_cell? w _ hw158_6)).trans hw158_6), hx159_0, ((HB.out.cell (World.block_lt_of_cell? w _ hw160_0)).trans (by first | exact hw160_0 | exact hw160_0.trans (by rw [← Nbq34.out]) | exact hw160_0.trans (by rw [← Nbq39.out]))), ((HB.out.cell (World.block_lt_of_cell? w _ hw160_1)).trans hw160_1), ((HB.out.cell (World.block_lt_of_cell? w _ hw160_2)).trans hw160_2), ((HB.out.cell (World.block_lt_of_cell? w _ hw160_3)).trans hw160_3), ((HB.out.cell (World.block_lt_of_cell? w _ hw160_4)).trans hw160_4), ((HB.out.cell (World.block_lt_of_cell? w _ hw160_5)).trans hw160_5), ((HB.out.cell (World.block_lt_of_cell? w _ hw160_6)).trans hw160_6)⟩ (fun hHeld => ?_); refine with_tabW spec_DomOk.tab10 spec_DomOk.bits10 (fun HT_ HW_ => ?_)
                 generalize wr.drew = w48 at HO_3 HO_5 BK140 HB hx155_0 hx156_0 hx157_0 hx158_0 hx158_1 hx158_2 hx158_3 hx158_4 hx158_5 hx158_6 hx159_0 hx160_0 hx160_1 hx160_2 hx160_3 hx160_4 hx160_5 hx160_6 hHeld ⊢
                 refine pu_ 0 (some 63) (ba_ 32 1) rfl rfl (any_of HT_.out (by kernel_rfl)) ?_
                 refine pu_ 1 (some 64) (ba_ 32 3) rfl rfl (any_of HT_.out (by kernel_rfl)) ?_
                 refine pu_ 2 (some 65) (ba_ 32 7) rfl rfl (any_of HT_.out (by kernel_rfl)) ?_
                 refine pu_ 3 (some 66) (ba_ 32 15) rfl rfl (any_of HT_.out (by kernel_rfl)) ?_
                 refine ta_ 4 (some 67) (ba_ 32 31) rfl rfl (take_ofW HT_.out HW_.out (by kernel_rfl)) hHeld (by rintro w' ⟨s0, s1, s2, s3, s4, s5, s6, s7, s8, s9, s10, s11, s12, s13, s14, s15, s16, s17, s18⟩; go_simp; with_reducible rfl) ?_
                 refine pu_ 5 (some 68) (ba_ 32 63) rfl rfl (any_of HT_.out (by kernel_rfl)) ?_
                 refine ta_ 6 (some 69) (ba_ 32 127) rfl rfl (take_ofW HT_.out HW_.out (by kernel_rfl)) hHeld (by rintro w' ⟨s0, s1, s2, s3, s4, s5, s6, s7, s8, s9, s10, s11, s12, s13, s14, s15, s16, s17, s18⟩; go_simp; with_reducible rfl) ?_
                 refine pu_ 7 (some 70) (ba_ 32 255) rfl rfl (any_of HT_.out (by kernel_rfl)) ?_
                 refine pu_ 8 (some 71) (ba_ 32 511) rfl rfl (any_of HT_.out (by kernel_rfl)) ?_
                 refine pu_ 10 (some 73) (ba_ 32 1535) rfl rfl (any_of HT_.out (by kernel_rfl)) ?_
                 refine pu_ 11 (some 74) (ba_ 32 3583) rfl rfl (any_of HT_.out (by kernel_rfl)) ?_
                 refine pu_ 12 (some 75) (ba_ 32 7679) rfl rfl (any_of HT_.out (by kernel_rfl)) ?_
                 refine ta_ 9 (some 72) (ba_ 32 8191) rfl rfl (take_ofW HT_.out HW_.out (by kernel_rfl)) hHeld (by rintro w' ⟨s0, s1, s2, s3, s4, s5, s6, s7, s8, s9, s10, s11, s12, s13, s14, s15, s16, s17, s18⟩; go_simp; with_reducible rfl) ?_
                 refine ta_ 13 (some 76) (ba_ 32 16383) rfl rfl (take_ofW HT_.out HW_.out (by kernel_rfl)) hHeld (by rintro w' ⟨s0, s1, s2, s3, s4, s5, s6, s7, s8, s9, s10, s11, s12, s13, s14, s15, s16, s17, s18⟩; go_simp; with_reducible rfl) ?_
                 refine pu_ 14 (some 77) (ba_ 32 32767) rfl rfl (any_of HT_.out (by kernel_rfl)) ?_
                 refine pu_ 15 (some 78) (ba_ 32 65535) rfl rfl (any_of HT_.out (by kernel_rfl)) ?_
                 refine ta_ 16 (some 79) (ba_ 32 131071) rfl rfl (take_ofW HT_.out HW_.out (by kernel_rfl)) hHeld (by rintro w' ⟨s0, s1, s2, s3, s4, s5, s6, s7, s8, s9, s10, s11, s12, s13, s14, s15, s16, s17, s18⟩; go_simp; with_reducible rfl) ?_
                 refine pu_ 17 (some 80) (ba_ 32 262143) rfl rfl (any_of HT_.out (by kernel_rfl)) ?_
                 refine pu_ 18 (some 81) (ba_ 32 524287) rfl rfl (any_of HT_.out (by kernel_rfl)) ?_
                 refine pu_ 19 (some 82) (ba_ 32 1048575) rfl rfl (any_of HT_.out (by kernel_rfl)) ?_
                 refine pu_ 20 (some 83) (ba_ 32 2097151) rfl rfl (any_of HT_.out (by kernel_rfl)) ?_
                 refine pu_ 22 (some 85) (ba_ 32 6291455) rfl rfl (any_of HT_.out (by kernel_rfl)) ?_
                 refine pu_ 23 (some 86) (ba_ 32 14680063) rfl rfl (any_of HT_.out (by kernel_rfl)) ?_
                 refine pu_ 24 (some 87) (ba_ 32 31457279) rfl rfl (any_of HT_.out (by kernel_rfl)) ?_
                 refine ta_ 21 (some 84) (ba_ 32 33554431) rfl rfl (take_ofW HT_.out HW_.out (by kernel_rfl)) hHeld (by rintro w' ⟨s0, s1, s2, s3, s4, s5, s6, s7, s8, s9, s10, s11, s12, s13, s14, s15, s16, s17, s18⟩; go_simp; with_reducible rfl) ?_
                 refine ta_ 25 (some 88) (ba_ 32 67108863) rfl rfl (take_ofW HT_.out HW_.out (by kernel_rfl)) hHeld (by rintro w' ⟨s0, s1, s2, s3, s4, s5, s6, s7, s8, s9, s10, s11, s12, s13, s14, s15, s16, s17, s18⟩; go_simp; with_reducible rfl) ?_
                 refine pu_ 26 (some 89) (ba_ 32 134217727) rfl rfl (any_of HT_.out (by kernel_rfl)) ?_
                 refine pu_ 27 (some 90) (ba_ 32 268435455) rfl rfl (any_of HT_.out (by kernel_rfl)) ?_
                 refine ta_ 28 (some 91) (ba_ 32 536870911) rfl rfl (take_ofW HT_.out HW_.out (by kernel_rfl)) hHeld (by rintro w' ⟨s0, s1, s2, s3, s4, s5, s6, s7, s8, s9, s10, s11, s12, s13, s14, s15, s16, s17, s18⟩; go_simp; with_reducible rfl) ?_
                 refine one_ (i := 29) (N := some 92) (ba_ 32 1073741823) rfl rfl (one_of HT_.out (by kernel_rfl)) (by decide) (fun K hK => ?_)
                 refine goes_ Try.func69 (by kernel_rfl) rfl #[.int .i64 ((rd_T99 l0_0 (rd t146 x6_2)).f1)] (by rfl) rfl rfl (by (try simp only [List.map_toArray, List.map_cons, List.map_nil]); first | done | rfl | (simp only [List.length_drop, List.length_take]; rfl)) ?_
                 with_reducible refine (spec_LabelOk.calls ((rd_T99 l0_0 (rd t146 x6_2)).f1) false _ A41.out).mono ?_
                 rintro e w' ⟨rfl, ⟨nd, rfl⟩⟩
                 refine ⟨_, rfl, ?_⟩
                 refine hK.out _ _ ⟨(blk_cell BK140.out 0).trans rfl, hHeld.2.1, hHeld.2.2.1, hHeld.2.2.2.1, ((HB.out.cell (World.block_lt_of_cell? w _ hw158_0)).trans (by first | exact hw158_0 | exact hw158_0.trans (by rw [← Nbq34.out]) | exact hw158_0.trans (by rw [← Nbq39.out]))), ((HB.out.cell (World.block_lt_of_cell? w _ hw158_1)).trans hw158_1), ((HB.out.cell (World.block_lt_of_cell? w _ hw158_2)).trans hw158_2), ((HB.out.cell (World.block_lt_of_cell? w _ hw158_3)).trans hw158_3), ((HB.out.cell (World.block_lt_of_cell? w _ hw158_4)).trans hw158_4), ((HB.out.cell (World.block_lt_of_cell? w _ hw158_5)).trans hw158_5), ((HB.out.cell (World.block_lt_of_cell? w _ hw158_6)).trans hw158_6), hHeld.2.2.2.2.2.2.2.2.2.2.2.1, ((HB.out.cell (World.block_lt_of_cell? w _ hw160_0)).trans (by first | exact hw160_0 | exact hw160_0.trans (by rw [← Nbq34.out]) | exact hw160_0.trans (by rw [← Nbq39.out]))), ((HB.out.cell (World.block_lt_of_cell? w _ hw160_1)).trans hw160_1), ((HB.out.cell (World.block_lt_of_cell? w _ hw160_2)).trans hw160_2), ((HB.out.cell (World.block_lt_of_cell? w _ hw160_3)).trans hw160_3), ((HB.out.cell (World.block_lt_of_cell? w _ hw160_4)).trans hw160_4), ((HB.out.cell (World.block_lt_of_cell? w _ hw160_5)).trans hw160_5), ((HB.out.cell (World.block_lt_of_cell? w _ hw160_6)).trans hw160_6)⟩ (fun hHeld => ?_)
                 clear hK K
                 refine norm_ (a' := ?_) ?_ ?_
                 rotate_left
                 ·show Act.put _ (some 92) _ = _
                  simp only [Act.put, List.setIfInBounds_toArray, List.set_cons_zero, List.set_cons_succ, i64_w, i32_w]
                  rfl
                 refine pu_ 30 (some 93) (ba_ 32 2147483647) rfl rfl (any_of HT_.out (by kernel_rfl)) ?_
                 refine pu_ 31 (some 94) (ba_ 32 4294967295) rfl rfl (any_of HT_.out (by kernel_rfl)) ?_
                 refine done_ (done_of HT_.out (by kernel_rfl)) ?_
                 try go_wp2
                 go_ret
                 exact ⟨by first | rfl | (simp [errW_none, errW_some] <;> rfl) | (simp [*, errW_none, errW_some] <;> rfl), by repeat (first | (with_reducible first | exact HB.out | apply below_alloc | apply pw_below_drewN | apply below_drew1 | refine below_set ?_ GE140.out) | exact HB.out)⟩
               ·replace c40 := Bool.eq_false_iff.mpr c40
                subst c40
                have H1 : (some false) = some r := by rw [if_neg (show ¬ (false = true) by decide)] at H; exact H
                clear H
                have H := H1
                clear H1
                obtain rfl := Option.some.inj H
                try go_wp2
                have n0_ := Aside0.mk (Kd.R_drew HO_3.out)
                have n1_ := Aside0.mk (Kd.R_drew HO_5.out)
                have n2_ := Aside0.mk (blk_drew BK140.out)
                have n3_ := Aside0.mk (below_drew1 HB.out)
                clear HO_3
                clear HO_5
                clear BK140
                clear HB
                have HO_3 := n0_
                have HO_5 := n1_
                have BK140 := n2_
                have HB := n3_
                clear n0_ n1_ n2_ n3_
                have p155 : 0 ≤ (x6_2 : Int) := of_decide_eq_true (by first | (with_reducible assumption) | assumption)
                have q155 : x6_2 < (t146.length : Int) := of_decide_eq_true (by first | (with_reducible assumption) | assumption)
                obtain ⟨ad155, e155, hx155_0⟩ := Kd.at_int (Kd.R_reads' HO_3.out).2.2 x6_2 p155 q155
                cases e155
                replace p155 := eq_true p155
                replace q155 := eq_true q155
                obtain ⟨Ao51, co51, eo51⟩ := Kd.R_slice HO_5.out
                (first | subst eo51 | (injection eo51 with f1_ f2_ f3_; have f4_ := f1_.symm; have f5_ := f3_.symm; clear f1_ f2_ f3_; subst f4_; subst f5_))
                have p156 : 0 ≤ ((rd t146 x6_2) : Int) := of_decide_eq_true (by first | (with_reducible assumption) | assumption)
                have q156 : (rd t146 x6_2) < (x5_2.length : Int) := of_decide_eq_true (by first | (with_reducible assumption) | assumption)
                obtain ⟨ad156, e156, hx156_0⟩ := Kd.at_bool (Kd.R_reads' HO_5.out).2.2 (rd t146 x6_2) p156 q156
                (try rw [← Nbq34.out] at hx156_0)
                (try rw [← Nbq39.out] at hx156_0)
                cases e156
                replace p156 := eq_true p156
                replace q156 := eq_true q156
                have p157 : 0 ≤ (x6_2 : Int) := of_decide_eq_true (by first | (with_reducible assumption) | assumption)
                have q157 : x6_2 < (t146.length : Int) := of_decide_eq_true (by first | (with_reducible assumption) | assumption)
                obtain ⟨ad157, e157, hx157_0⟩ := Kd.at_int (Kd.R_reads' HO_3.out).2.2 x6_2 p157 q157
                obtain rfl : ad155 = ad157 := (by injection e157)
                replace p157 := eq_true p157
                replace q157 := eq_true q157
                have p158 : 0 ≤ ((rd t146 x6_2) : Int) := of_decide_eq_true (by first | (with_reducible assumption) | assumption)
                have q158 : (rd t146 x6_2) < (l0_0.length : Int) := of_decide_eq_true (by first | (with_reducible assumption) | assumption)
                obtain ⟨ad158, e158, hx158_0, hx158_1, hx158_2, hx158_3, hx158_4, hx158_5, hx158_6⟩ := at_T99 HR0_0.out (rd t146 x6_2) p158 q158
                have hw158_6 := hx158_6
                have hw158_5 := hx158_5
                have hw158_4 := hx158_4
                have hw158_3 := hx158_3
                have hw158_2 := hx158_2
                have hw158_1 := hx158_1
                have hw158_0 := hx158_0
                (try rw [← Nbq34.out] at hx158_0)
                (try rw [← Nbq39.out] at hx158_0)
                cases e158
                replace hx158_0 := (HB.out.cell (World.block_lt_of_cell? w _ hx158_0)).trans hx158_0
                replace hx158_1 := (HB.out.cell (World.block_lt_of_cell? w _ hx158_1)).trans hx158_1
                replace hx158_2 := (HB.out.cell (World.block_lt_of_cell? w _ hx158_2)).trans hx158_2
                replace hx158_3 := (HB.out.cell (World.block_lt_of_cell? w _ hx158_3)).trans hx158_3
                replace hx158_4 := (HB.out.cell (World.block_lt_of_cell? w _ hx158_4)).trans hx158_4
                replace hx158_5 := (HB.out.cell (World.block_lt_of_cell? w _ hx158_5)).trans hx158_5
                replace hx158_6 := (HB.out.cell (World.block_lt_of_cell? w _ hx158_6)).trans hx158_6
                replace p158 := eq_true p158
                replace q158 := eq_true q158
                refine start_ (n := 32) (S := fun w' => w'.cell? ⟨gb140, 0, none⟩ = some (.slice (some ad158) l0_0.length c0_0) ∧ w'.cell? (ad155.add (x6_2).toNat) = some (.int .i64 (rd t146 x6_2)) ∧ w'.cell? (ad156.add ((rd t146 x6_2)).toNat) = some (.bool false) ∧ w'.cell? (ad155.add (x6_2).toNat) = some (.int .i64 (rd t146 x6_2)) ∧ w'.cell? (ad158.add (((rd t146 x6_2)).toNat * 7)) = some (.bool false) ∧ w'.cell? ⟨(ad158.add (((rd t146 x6_2)).toNat * 7)).block, (ad158.add (((rd t146 x6_2)).toNat * 7)).off + 1, none⟩ = some (.int .i64 ((rd_T99 l0_0 (rd t146 x6_2)).f1)) ∧ w'.cell? ⟨(ad158.add (((rd t146 x6_2)).toNat * 7)).block, (ad158.add (((rd t146 x6_2)).toNat * 7)).off + 2, none⟩ = some (.int .i64 ((rd_T99 l0_0 (rd t146 x6_2)).f2)) ∧ w'.cell? ⟨(ad158.add (((rd t146 x6_2)).toNat * 7)).block, (ad158.add (((rd t146 x6_2)).toNat * 7)).off + 3, none⟩ = some (.int .i64 ((rd_T99 l0_0 (rd t146 x6_2)).f3)) ∧ w'.cell? ⟨(ad158.add (((rd t146 x6_2)).toNat * 7)).block, (ad158.add (((rd t146 x6_2)).toNat * 7)).off + 4, none⟩ = some (.int .i64 ((rd_T99 l0_0 (rd t146 x6_2)).f4)) ∧ w'.cell? ⟨(ad158.add (((rd t146 x6_2)).toNat * 7)).block, (ad158.add (((rd t146 x6_2)).toNat * 7)).off + 5, none⟩ = some (.int .i64 ((rd_T99 l0_0 (rd t146 x6_2)).f5)) ∧ w'.cell? ⟨(ad158.add (((rd t146 x6_2)).toNat * 7)).block, (ad158.add (((rd t146 x6_2)).toNat * 7)).off + 6, none⟩ = some (.int .i64 ((rd_T99 l0_0 (rd t146 x6_2)).f6))) (ds := []) (ba_ 32 0) (by kernel_rfl) rfl rfl ⟨(blk_cell BK140.out 0).trans rfl, hx155_0, hx156_0, hx157_0, ((HB.out.cell (World.block_lt_of_cell? w _ hw158_0)).trans (by first | exact hw158_0 | exact hw158_0.trans (by rw [← Nbq34.out]) | exact hw158_0.trans (by rw [← Nbq39.out]))), ((HB.out.cell (World.block_lt_of_cell? w _ hw158_1)).trans hw158_1), ((HB.out.cell (World.block_lt_of_cell? w _ hw158_2)).trans hw158_2), ((HB.out.cell (World.block_lt_of_cell? w _ hw158_3)).trans hw158_3), ((HB.out.cell (World.block_lt_of_cell? w _ hw158_4)).trans hw158_4), ((HB.out.cell (World.block_lt_of_cell? w _ hw158_5)).trans hw158_5), ((HB.out.cell (World.block_lt_of_cell? w _ hw158_6)).trans hw158_6)⟩ (fun hHeld => ?_); refine with_tabW spec_DomOk.tab10 spec_DomOk.bits10 (fun HT_ HW_ => ?_)
                generalize wr.drew = w50 at HO_3 HO_5 BK140 HB hx155_0 hx156_0 hx157_0 hx158_0 hx158_1 hx158_2 hx158_3 hx158_4 hx158_5 hx158_6 hHeld ⊢
                refine pu_ 0 (some 63) (ba_ 32 1) rfl rfl (any_of HT_.out (by kernel_rfl)) ?_
                refine pu_ 1 (some 64) (ba_ 32 3) rfl rfl (any_of HT_.out (by kernel_rfl)) ?_
                refine pu_ 2 (some 65) (ba_ 32 7) rfl rfl (any_of HT_.out (by kernel_rfl)) ?_
                refine pu_ 3 (some 66) (ba_ 32 15) rfl rfl (any_of HT_.out (by kernel_rfl)) ?_
                refine ta_ 4 (some 67) (ba_ 32 31) rfl rfl (take_ofW HT_.out HW_.out (by kernel_rfl)) hHeld (by rintro w' ⟨s0, s1, s2, s3, s4, s5, s6, s7, s8, s9, s10⟩; go_simp; with_reducible rfl) ?_
                refine pu_ 5 (some 68) (ba_ 32 63) rfl rfl (any_of HT_.out (by kernel_rfl)) ?_
                refine ta_ 6 (some 69) (ba_ 32 127) rfl rfl (take_ofW HT_.out HW_.out (by kernel_rfl)) hHeld (by rintro w' ⟨s0, s1, s2, s3, s4, s5, s6, s7, s8, s9, s10⟩; go_simp; with_reducible rfl) ?_
                refine pu_ 7 (some 70) (ba_ 32 255) rfl rfl (any_of HT_.out (by kernel_rfl)) ?_
                refine pu_ 8 (some 71) (ba_ 32 511) rfl rfl (any_of HT_.out (by kernel_rfl)) ?_
                refine pu_ 10 (some 73) (ba_ 32 1535) rfl rfl (any_of HT_.out (by kernel_rfl)) ?_
                refine pu_ 11 (some 74) (ba_ 32 3583) rfl rfl (any_of HT_.out (by kernel_rfl)) ?_
                refine pu_ 12 (some 75) (ba_ 32 7679) rfl rfl (any_of HT_.out (by kernel_rfl)) ?_
                refine ta_ 9 (some 72) (ba_ 32 8191) rfl rfl (take_ofW HT_.out HW_.out (by kernel_rfl)) hHeld (by rintro w' ⟨s0, s1, s2, s3, s4, s5, s6, s7, s8, s9, s10⟩; go_simp; with_reducible rfl) ?_
                refine ta_ 13 (some 76) (ba_ 32 16383) rfl rfl (take_ofW HT_.out HW_.out (by kernel_rfl)) hHeld (by rintro w' ⟨s0, s1, s2, s3, s4, s5, s6, s7, s8, s9, s10⟩; go_simp; with_reducible rfl) ?_
                refine pu_ 14 (some 77) (ba_ 32 32767) rfl rfl (any_of HT_.out (by kernel_rfl)) ?_
                refine pu_ 15 (some 78) (ba_ 32 65535) rfl rfl (any_of HT_.out (by kernel_rfl)) ?_
                refine ta_ 16 (some 79) (ba_ 32 131071) rfl rfl (take_ofW HT_.out HW_.out (by kernel_rfl)) hHeld (by rintro w' ⟨s0, s1, s2, s3, s4, s5, s6, s7, s8, s9, s10⟩; go_simp; with_reducible rfl) ?_
                refine pu_ 17 (some 80) (ba_ 32 262143) rfl rfl (any_of HT_.out (by kernel_rfl)) ?_
                refine pu_ 18 (some 81) (ba_ 32 524287) rfl rfl (any_of HT_.out (by kernel_rfl)) ?_
                refine pu_ 19 (some 82) (ba_ 32 1048575) rfl rfl (any_of HT_.out (by kernel_rfl)) ?_
                refine pn_ 20 (some 83) (ba_ 32 2097151) rfl rfl (any_of HT_.out (by kernel_rfl)) ?_
                refine pn_ 21 (some 84) (ba_ 32 4194303) rfl rfl (any_of HT_.out (by kernel_rfl)) ?_
                refine pn_ 22 (some 85) (ba_ 32 8388607) rfl rfl (any_of HT_.out (by kernel_rfl)) ?_
                refine pn_ 23 (some 86) (ba_ 32 16777215) rfl rfl (any_of HT_.out (by kernel_rfl)) ?_
                refine pn_ 24 (some 87) (ba_ 32 33554431) rfl rfl (any_of HT_.out (by kernel_rfl)) ?_
                refine pn_ 25 (some 88) (ba_ 32 67108863) rfl rfl (any_of HT_.out (by kernel_rfl)) ?_
                refine pn_ 26 (some 89) (ba_ 32 134217727) rfl rfl (any_of HT_.out (by kernel_rfl)) ?_
                refine pn_ 27 (some 90) (ba_ 32 268435455) rfl rfl (any_of HT_.out (by kernel_rfl)) ?_
                refine pn_ 28 (some 91) (ba_ 32 536870911) rfl rfl (any_of HT_.out (by kernel_rfl)) ?_
                refine pn_ 29 (some 92) (ba_ 32 1073741823) rfl rfl (any_of HT_.out (by kernel_rfl)) ?_
                refine pn_ 30 (some 93) (ba_ 32 2147483647) rfl rfl (any_of HT_.out (by kernel_rfl)) ?_
                refine pu_ 31 (some 94) (ba_ 32 4294967295) rfl rfl (any_of HT_.out (by kernel_rfl)) ?_
                refine done_ (done_of HT_.out (by kernel_rfl)) ?_
                try go_wp2
                go_ret
                exact ⟨by first | rfl | (simp [errW_none, errW_some] <;> rfl) | (simp [*, errW_none, errW_some] <;> rfl), by repeat (first | (with_reducible first | exact HB.out | apply below_alloc | apply pw_below_drewN | apply below_drew1 | refine below_set ?_ GE140.out) | exact HB.out)⟩
              ·rw [if_neg c38] at H
               exact absurd H (by simp)
            ·rw [if_neg c33] at H
             exact absurd H (by simp)
           ·rw [if_neg c32] at H
            exact absurd H (by simp)
          ·rw [if_neg c31] at H
           exact absurd H (by simp)
         ·rw [if_neg c30] at H
          have c30b0 : decide (x6_2 < (t146.length : Int)) = false := decide_eq_false c30
          clear c30
          have H' := Aside0.mk H
          clear H
          go_wp2
          go_loopg [7] k2 (fun kq v7 w' => ∃ (x7_3 : Int), v7 = .int .i64 x7_3 ∧ Aside0 (spec_DomOk.l1 kq x5_2 x7_3 l0_0 = some r) ∧ Aside0 (kq ≤ k2) ∧ Aside0 (Kd.R Kd.bool 4 w' w.heap.size (fun _ => True) v153 x5_2) ∧ Aside0 (w'.heap[gb140]? = some (.cells #[(.slice A0_0 l0_0.length c0_0)] 29 (0, 0))) ∧ Aside0 (Below w.heap.size w w'))
          case atStart => exact ⟨(0), (by first | rfl | (simp; done) | (simp [*]; done)), H', ⟨Nat.le_refl _⟩, ⟨by (with_reducible repeat (first | apply Kd.R_alloc | apply Kd.R_drewN | apply Kd.R_drew)); exact HO_5.out⟩, ⟨by (with_reducible repeat (first | refine blk_drewN ?_ _ | refine blk_drew ?_ | refine blk_alloc ?_ _)); exact BK140.out⟩, ⟨by repeat (first | (with_reducible first | exact HB.out | apply below_alloc | apply pw_below_drewN | apply below_drew1 | refine below_set ?_ GE140.out) | exact HB.out)⟩⟩
          case round =>
           clear H'
           try clear p1
           try clear q1
           try clear hx1
           try clear p2
           try clear c3
           try clear q3
           try clear c4
           try clear c6
           try clear p15
           try clear q15
           try clear hx15
           try clear p16
           try clear q16
           try clear hx16
           try clear c30
           try clear c30b0
           try clear c31
           try clear c32
           try clear c33
           try clear q34
           try clear c38
           try clear q39
           try clear c40
           try clear hx155_0
           try clear hx156_0
           try clear hx157_0
           try clear hx158_0
           try clear hx158_1
           try clear hx158_2
           try clear hx158_3
           try clear hx158_4
           try clear hx158_5
           try clear hx158_6
           try clear hx159_0
           try clear hx160_0
           try clear hx160_1
           try clear hx160_2
           try clear hx160_3
           try clear hx160_4
           try clear hx160_5
           try clear hx160_6
           try clear p155
           try clear p156
           try clear p157
           try clear p158
           try clear p159
           try clear p160
           try clear q155
           try clear q156
           try clear q157
           try clear q158
           try clear q159
           try clear q160
           obtain ⟨x7_3, rfl, HA, HK3, HO_5, BK140, HB⟩ := hrel
           cases gk with
           | zero => exact absurd HA.out (by simp [spec_DomOk.l1])
           | succ k3 =>
            have H := HA.out
            clear HA
            simp only [spec_DomOk.l1] at H
            by_cases c52 : x7_3 < (l0_0.length : Int)
            ·rw [if_pos c52] at H
             have c52b0 : decide (x7_3 < (l0_0.length : Int)) = true := decide_eq_true c52
             clear c52
             by_cases c53 : 0 ≤ x7_3
             ·rw [if_pos c53] at H
              have c53b0 : decide (0 ≤ x7_3) = true := decide_eq_true c53
              clear c53
              by_cases c54 : x7_3 < (x5_2.length : Int)
              ·rw [if_pos c54] at H
               have c54b0 : decide (x7_3 < (x5_2.length : Int)) = true := decide_eq_true c54
               clear c54
               obtain ⟨bq55, hbq55⟩ : ∃ b_ : Bool, b_ = (rdOf false x5_2 x7_3) := ⟨_, rfl⟩
               replace H : (if bq55 = true then ((spec_l16Links.f k3 l0_0 x7_3).bind fun t166 => (if t166 = true then (spec_DomOk.l1 k3 x5_2 (wrap64 (x7_3 + 1)) l0_0) else (some false))) else ((spec_l16Empty.f).bind fun bt168 => (if (!(((rd_T99 l0_0 x7_3).f0) == bt168.1) || (!(((rd_T99 l0_0 x7_3).f1) == bt168.2.1) || (!(((rd_T99 l0_0 x7_3).f2) == bt168.2.2.1) || (!(((rd_T99 l0_0 x7_3).f3) == bt168.2.2.2.1) || (!(((rd_T99 l0_0 x7_3).f4) == bt168.2.2.2.2.1) || (!(((rd_T99 l0_0 x7_3).f5) == bt168.2.2.2.2.2.1) || (!(((rd_T99 l0_0 x7_3).f6) == bt168.2.2.2.2.2.2)))))))) = true then (some false) else (spec_DomOk.l1 k3 x5_2 (wrap64 (x7_3 + 1)) l0_0)))) = some r := by rw [← hbq55] at H; exact H
               have Nbq55 := Aside0.mk hbq55
               clear hbq55
               by_cases c56 : bq55 = true
               ·subst c56
                have H1 : ((spec_l16Links.f k3 l0_0 x7_3).bind fun t166 => (if t166 = true then (spec_DomOk.l1 k3 x5_2 (wrap64 (x7_3 + 1)) l0_0) else (some false))) = some r := by rw [if_pos rfl] at H; exact H
                clear H
                have H := H1
                clear H1
                replace H := Option.bind_eq_some_iff.mp H
                obtain ⟨t166, A570, H⟩ := H
                replace H : (if t166 = true then (spec_DomOk.l1 k3 x5_2 (wrap64 (x7_3 + 1)) l0_0) else (some false)) = some r := H
                have A57 := Aside0.mk A570
                clear A570
                by_cases c58 : t166 = true
                ·subst c58
                 have H1 : (spec_DomOk.l1 k3 x5_2 (wrap64 (x7_3 + 1)) l0_0) = some r := by rw [if_pos rfl] at H; exact H
                 clear H
                 have H := H1
                 clear H1
                 have H' := Aside0.mk H
                 clear H
                 have hcz59_0 : wr.cell? ⟨gb140, 0, none⟩ = some (.slice A0_0 l0_0.length c0_0) := (blk_cell BK140.out 0).trans rfl
                 have hfz59_0 := blk_frozen BK140.out 0
                 try go_wp2
                 have n0_ := Aside0.mk (Kd.R_drew HO_5.out)
                 have n1_ := Aside0.mk (blk_drew BK140.out)
                 have n2_ := Aside0.mk (below_drew1 HB.out)
                 clear HO_5
                 clear BK140
                 clear HB
                 have HO_5 := n0_
                 have BK140 := n1_
                 have HB := n2_
                 clear n0_ n1_ n2_
                 obtain ⟨Ao61, co61, eo61⟩ := Kd.R_slice HO_5.out
                 (first | subst eo61 | (injection eo61 with f1_ f2_ f3_; have f4_ := f1_.symm; have f5_ := f3_.symm; clear f1_ f2_ f3_; subst f4_; subst f5_))
                 have p164 : 0 ≤ (x7_3 : Int) := of_decide_eq_true (by first | (with_reducible assumption) | assumption)
                 have q164 : x7_3 < (x5_2.length : Int) := of_decide_eq_true (by first | (with_reducible assumption) | assumption)
                 obtain ⟨ad164, e164, hx164_0⟩ := Kd.at_bool (Kd.R_reads' HO_5.out).2.2 x7_3 p164 q164
                 (try rw [← Nbq55.out] at hx164_0)
                 cases e164
                 replace p164 := eq_true p164
                 replace q164 := eq_true q164
                 have p165 : 0 ≤ (x7_3 : Int) := of_decide_eq_true (by first | (with_reducible assumption) | assumption)
                 have q165 : x7_3 < (x5_2.length : Int) := of_decide_eq_true (by first | (with_reducible assumption) | assumption)
                 obtain ⟨ad165, e165, hx165_0⟩ := Kd.at_bool (Kd.R_reads' HO_5.out).2.2 x7_3 p165 q165
                 (try rw [← Nbq55.out] at hx165_0)
                 obtain rfl : ad164 = ad165 := (by injection e165)
                 replace p165 := eq_true p165
                 replace q165 := eq_true q165
                 refine start_ (n := 26) (S := fun w' => w'.cell? ⟨gb140, 0, none⟩ = some (.slice A0_0 l0_0.length c0_0) ∧ w'.cell? (ad164.add (x7_3).toNat) = some (.bool true) ∧ w'.cell? (ad164.add (x7_3).toNat) = some (.bool (true))) (ds := []) (ba_ 26 0) (by kernel_rfl) rfl rfl ⟨(blk_cell BK140.out 0).trans rfl, hx164_0, hx165_0⟩ (fun hHeld => ?_); refine with_tabW spec_DomOk.tab16 spec_DomOk.bits16 (fun HT_ HW_ => ?_)
                 generalize wr.drew = w60 at HO_5 BK140 HB hx164_0 hx165_0 hHeld ⊢
                 refine pu_ 0 (some 108) (ba_ 26 1) rfl rfl (any_of HT_.out (by kernel_rfl)) ?_
                 refine pu_ 1 (some 109) (ba_ 26 3) rfl rfl (any_of HT_.out (by kernel_rfl)) ?_
                 refine pu_ 2 (some 110) (ba_ 26 7) rfl rfl (any_of HT_.out (by kernel_rfl)) ?_
                 refine ta_ 3 (some 111) (ba_ 26 15) rfl rfl (take_ofW HT_.out HW_.out (by kernel_rfl)) hHeld (by rintro w' ⟨s0, s1, s2⟩; go_simp; with_reducible rfl) ?_
                 refine pu_ 4 (some 112) (ba_ 26 31) rfl rfl (any_of HT_.out (by kernel_rfl)) ?_
                 refine pu_ 5 (some 113) (ba_ 26 63) rfl rfl (any_of HT_.out (by kernel_rfl)) ?_
                 refine pn_ 6 (some 114) (ba_ 26 127) rfl rfl (any_of HT_.out (by kernel_rfl)) ?_
                 refine pn_ 7 (some 115) (ba_ 26 255) rfl rfl (any_of HT_.out (by kernel_rfl)) ?_
                 refine pn_ 8 (some 116) (ba_ 26 511) rfl rfl (any_of HT_.out (by kernel_rfl)) ?_
                 refine pn_ 9 (some 117) (ba_ 26 1023) rfl rfl (any_of HT_.out (by kernel_rfl)) ?_
                 refine pn_ 10 (some 118) (ba_ 26 2047) rfl rfl (any_of HT_.out (by kernel_rfl)) ?_
                 refine pn_ 11 (some 119) (ba_ 26 4095) rfl rfl (any_of HT_.out (by kernel_rfl)) ?_
                 refine pn_ 12 (some 120) (ba_ 26 8191) rfl rfl (any_of HT_.out (by kernel_rfl)) ?_
                 refine pu_ 13 (some 121) (ba_ 26 16383) rfl rfl (any_of HT_.out (by kernel_rfl)) ?_
                 refine pu_ 14 (some 122) (ba_ 26 32767) rfl rfl (any_of HT_.out (by kernel_rfl)) ?_
                 refine pu_ 15 (some 123) (ba_ 26 65535) rfl rfl (any_of HT_.out (by kernel_rfl)) ?_
                 refine pu_ 16 (some 124) (ba_ 26 131071) rfl rfl (any_of HT_.out (by kernel_rfl)) ?_
                 refine pu_ 17 (some 125) (ba_ 26 262143) rfl rfl (any_of HT_.out (by kernel_rfl)) ?_
                 refine ta_ 18 (some 126) (ba_ 26 524287) rfl rfl (take_ofW HT_.out HW_.out (by kernel_rfl)) hHeld (by rintro w' ⟨s0, s1, s2⟩; go_simp; with_reducible rfl) ?_
                 refine pu_ 19 (some 127) (ba_ 26 1048575) rfl rfl (any_of HT_.out (by kernel_rfl)) ?_
                 refine pu_ 21 (some 129) (ba_ 26 3145727) rfl rfl (any_of HT_.out (by kernel_rfl)) ?_
                 refine ta_ 20 (some 128) (ba_ 26 4194303) rfl rfl (take_ofW HT_.out HW_.out (by kernel_rfl)) hHeld (by rintro w' ⟨s0, s1, s2⟩; go_simp; with_reducible rfl) ?_
                 refine one_ (i := 22) (N := some 130) (ba_ 26 8388607) rfl rfl (one_of HT_.out (by kernel_rfl)) (by decide) (fun K hK => ?_)
                 refine goes_ Try.func71 (by kernel_rfl) rfl #[.agg #[.slice A0_0 l0_0.length c0_0], .int .i64 x7_3] (by rfl) rfl rfl (by (try simp only [List.map_toArray, List.map_cons, List.map_nil]); first | done | rfl | (simp only [List.length_drop, List.length_take]; rfl)) ?_
                 with_reducible refine (spec_l16Links.calls k3 _ _ l0_0 x7_3 true _ ?side1 ?side2 A57.out).mono ?_
                 (case side1 => repeat (first | exact (Kd.C_below HR0_0.out HB.out) | (with_reducible refine Kd.C_alloc ?_ _) | (with_reducible refine Kd.C_drewN ?_ _) | (with_reducible refine Kd.C_drew ?_)))
                 (case side2 => exact HC0_0.out)
                 rintro e w62 ⟨rfl, hb⟩
                 have HS1_ := (hb.cell (World.block_lt_of_cell? _ _ (hHeld.2.1))).trans (hHeld.2.1)
                 have HS2_ := (hb.cell (World.block_lt_of_cell? _ _ (hHeld.2.2))).trans (hHeld.2.2)
                 refine ⟨_, rfl, ?_⟩
                 have n0_ := Aside0.mk (Kd.R_below (by (with_reducible repeat (first | apply Kd.R_alloc | apply Kd.R_drewN | apply Kd.R_drew)); exact HO_5.out) hb)
                 have n1_ := Aside0.mk (blk_below (g := gb140) (o := .cells #[.slice A0_0 l0_0.length c0_0] 29 (0, 0)) (by (with_reducible repeat (first | refine blk_drewN ?_ _ | refine blk_drew ?_ | refine blk_alloc ?_ _)); exact BK140.out) hb)
                 have n2_ := Aside0.mk (below_step (by repeat (first | (with_reducible first | exact HB.out | apply below_alloc | apply pw_below_drewN | apply below_drew1 | refine below_set ?_ GE140.out) | exact HB.out)) hb)
                 clear HO_5
                 clear BK140
                 clear HB
                 have HO_5 := n0_
                 have BK140 := n1_
                 have HB := n2_
                 clear n0_ n1_ n2_
                 (try clear hb)
                 (try clear hb2)
                 (try clear hk)
                 (try clear hi)
                 refine hK.out _ _ ⟨(blk_cell BK140.out 0).trans rfl, HS1_, HS2_⟩ (fun hHeld => ?_)
                 clear hK K
                 refine norm_ (a' := ?_) ?_ ?_
                 rotate_left
                 ·show Act.put _ (some 130) _ = _
                  simp only [Act.put, List.setIfInBounds_toArray, List.set_cons_zero, List.set_cons_succ, i64_w, i32_w]
                  rfl
                 refine pu_ 23 (some 131) (ba_ 26 16777215) rfl rfl (any_of HT_.out (by kernel_rfl)) ?_
                 refine pu_ 24 (some 132) (ba_ 26 33554431) rfl rfl (any_of HT_.out (by kernel_rfl)) ?_
                 refine pu_ 25 (some 133) (ba_ 26 67108863) rfl rfl (any_of HT_.out (by kernel_rfl)) ?_
                 refine done_ (done_of HT_.out (by kernel_rfl)) ?_
                 try go_wp2
                 go_roundg k3
                 case measure => have := HJ1.out; have := HK2.out; have := HK3.out; omega
                 case rel => exact ⟨(wrap64 (x7_3 + 1)), (by first | rfl | (simp; done) | (simp [*]; done)), H', ⟨by have := HJ1.out; have := HK2.out; have := HK3.out; omega⟩, ⟨by (with_reducible repeat (first | apply Kd.R_alloc | apply Kd.R_drewN | apply Kd.R_drew)); exact HO_5.out⟩, ⟨by (with_reducible repeat (first | refine blk_drewN ?_ _ | refine blk_drew ?_ | refine blk_alloc ?_ _)); exact BK140.out⟩, ⟨by repeat (first | (with_reducible first | exact HB.out | apply below_alloc | apply pw_below_drewN | apply below_drew1 | refine below_set ?_ GE140.out) | exact HB.out)⟩⟩
                ·replace c58 := Bool.eq_false_iff.mpr c58
                 subst c58
                 have H1 : (some false) = some r := by rw [if_neg (show ¬ (false = true) by decide)] at H; exact H
                 clear H
                 have H := H1
                 clear H1
                 obtain rfl := Option.some.inj H
                 have hcz63_0 : wr.cell? ⟨gb140, 0, none⟩ = some (.slice A0_0 l0_0.length c0_0) := (blk_cell BK140.out 0).trans rfl
                 have hfz63_0 := blk_frozen BK140.out 0
                 try go_wp2
                 have n0_ := Aside0.mk (Kd.R_drew HO_5.out)
                 have n1_ := Aside0.mk (blk_drew BK140.out)
                 have n2_ := Aside0.mk (below_drew1 HB.out)
                 clear HO_5
                 clear BK140
                 clear HB
                 have HO_5 := n0_
                 have BK140 := n1_
                 have HB := n2_
                 clear n0_ n1_ n2_
                 obtain ⟨Ao65, co65, eo65⟩ := Kd.R_slice HO_5.out
                 (first | subst eo65 | (injection eo65 with f1_ f2_ f3_; have f4_ := f1_.symm; have f5_ := f3_.symm; clear f1_ f2_ f3_; subst f4_; subst f5_))
                 have p164 : 0 ≤ (x7_3 : Int) := of_decide_eq_true (by first | (with_reducible assumption) | assumption)
                 have q164 : x7_3 < (x5_2.length : Int) := of_decide_eq_true (by first | (with_reducible assumption) | assumption)
                 obtain ⟨ad164, e164, hx164_0⟩ := Kd.at_bool (Kd.R_reads' HO_5.out).2.2 x7_3 p164 q164
                 (try rw [← Nbq55.out] at hx164_0)
                 cases e164
                 replace p164 := eq_true p164
                 replace q164 := eq_true q164
                 have p165 : 0 ≤ (x7_3 : Int) := of_decide_eq_true (by first | (with_reducible assumption) | assumption)
                 have q165 : x7_3 < (x5_2.length : Int) := of_decide_eq_true (by first | (with_reducible assumption) | assumption)
                 obtain ⟨ad165, e165, hx165_0⟩ := Kd.at_bool (Kd.R_reads' HO_5.out).2.2 x7_3 p165 q165
                 (try rw [← Nbq55.out] at hx165_0)
                 obtain rfl : ad164 = ad165 := (by injection e165)
                 replace p165 := eq_true p165
                 replace q165 := eq_true q165
                 refine start_ (n := 26) (S := fun w' => w'.cell? ⟨gb140, 0, none⟩ = some (.slice A0_0 l0_0.length c0_0) ∧ w'.cell? (ad164.add (x7_3).toNat) = some (.bool true) ∧ w'.cell? (ad164.add (x7_3).toNat) = some (.bool (true))) (ds := []) (ba_ 26 0) (by kernel_rfl) rfl rfl ⟨(blk_cell BK140.out 0).trans rfl, hx164_0, hx165_0⟩ (fun hHeld => ?_); refine with_tabW spec_DomOk.tab16 spec_DomOk.bits16 (fun HT_ HW_ => ?_)
                 generalize wr.drew = w64 at HO_5 BK140 HB hx164_0 hx165_0 hHeld ⊢
                 refine pu_ 0 (some 108) (ba_ 26 1) rfl rfl (any_of HT_.out (by kernel_rfl)) ?_
                 refine pu_ 1 (some 109) (ba_ 26 3) rfl rfl (any_of HT_.out (by kernel_rfl)) ?_
                 refine pu_ 2 (some 110) (ba_ 26 7) rfl rfl (any_of HT_.out (by kernel_rfl)) ?_
                 refine ta_ 3 (some 111) (ba_ 26 15) rfl rfl (take_ofW HT_.out HW_.out (by kernel_rfl)) hHeld (by rintro w' ⟨s0, s1, s2⟩; go_simp; with_reducible rfl) ?_
                 refine pu_ 4 (some 112) (ba_ 26 31) rfl rfl (any_of HT_.out (by kernel_rfl)) ?_
                 refine pu_ 5 (some 113) (ba_ 26 63) rfl rfl (any_of HT_.out (by kernel_rfl)) ?_
                 refine pn_ 6 (some 114) (ba_ 26 127) rfl rfl (any_of HT_.out (by kernel_rfl)) ?_
                 refine pn_ 7 (some 115) (ba_ 26 255) rfl rfl (any_of HT_.out (by kernel_rfl)) ?_
                 refine pn_ 8 (some 116) (ba_ 26 511) rfl rfl (any_of HT_.out (by kernel_rfl)) ?_
                 refine pn_ 9 (some 117) (ba_ 26 1023) rfl rfl (any_of HT_.out (by kernel_rfl)) ?_
                 refine pn_ 10 (some 118) (ba_ 26 2047) rfl rfl (any_of HT_.out (by kernel_rfl)) ?_
                 refine pn_ 11 (some 119) (ba_ 26 4095) rfl rfl (any_of HT_.out (by kernel_rfl)) ?_
                 refine pn_ 12 (some 120) (ba_ 26 8191) rfl rfl (any_of HT_.out (by kernel_rfl)) ?_
                 refine pu_ 13 (some 121) (ba_ 26 16383) rfl rfl (any_of HT_.out (by kernel_rfl)) ?_
                 refine pu_ 14 (some 122) (ba_ 26 32767) rfl rfl (any_of HT_.out (by kernel_rfl)) ?_
                 refine pu_ 15 (some 123) (ba_ 26 65535) rfl rfl (any_of HT_.out (by kernel_rfl)) ?_
                 refine pu_ 16 (some 124) (ba_ 26 131071) rfl rfl (any_of HT_.out (by kernel_rfl)) ?_
                 refine pu_ 17 (some 125) (ba_ 26 262143) rfl rfl (any_of HT_.out (by kernel_rfl)) ?_
                 refine ta_ 18 (some 126) (ba_ 26 524287) rfl rfl (take_ofW HT_.out HW_.out (by kernel_rfl)) hHeld (by rintro w' ⟨s0, s1, s2⟩; go_simp; with_reducible rfl) ?_
                 refine pu_ 19 (some 127) (ba_ 26 1048575) rfl rfl (any_of HT_.out (by kernel_rfl)) ?_
                 refine pu_ 21 (some 129) (ba_ 26 3145727) rfl rfl (any_of HT_.out (by kernel_rfl)) ?_
                 refine ta_ 20 (some 128) (ba_ 26 4194303) rfl rfl (take_ofW HT_.out HW_.out (by kernel_rfl)) hHeld (by rintro w' ⟨s0, s1, s2⟩; go_simp; with_reducible rfl) ?_
                 refine one_ (i := 22) (N := some 130) (ba_ 26 8388607) rfl rfl (one_of HT_.out (by kernel_rfl)) (by decide) (fun K hK => ?_)
                 refine goes_ Try.func71 (by kernel_rfl) rfl #[.agg #[.slice A0_0 l0_0.length c0_0], .int .i64 x7_3] (by rfl) rfl rfl (by (try simp only [List.map_toArray, List.map_cons, List.map_nil]); first | done | rfl | (simp only [List.length_drop, List.length_take]; rfl)) ?_
                 with_reducible refine (spec_l16Links.calls k3 _ _ l0_0 x7_3 false _ ?side1 ?side2 A57.out).mono ?_
                 (case side1 => repeat (first | exact (Kd.C_below HR0_0.out HB.out) | (with_reducible refine Kd.C_alloc ?_ _) | (with_reducible refine Kd.C_drewN ?_ _) | (with_reducible refine Kd.C_drew ?_)))
                 (case side2 => exact HC0_0.out)
                 rintro e w66 ⟨rfl, hb⟩
                 have HS1_ := (hb.cell (World.block_lt_of_cell? _ _ (hHeld.2.1))).trans (hHeld.2.1)
                 have HS2_ := (hb.cell (World.block_lt_of_cell? _ _ (hHeld.2.2))).trans (hHeld.2.2)
                 refine ⟨_, rfl, ?_⟩
                 have n0_ := Aside0.mk (Kd.R_below (by (with_reducible repeat (first | apply Kd.R_alloc | apply Kd.R_drewN | apply Kd.R_drew)); exact HO_5.out) hb)
                 have n1_ := Aside0.mk (blk_below (g := gb140) (o := .cells #[.slice A0_0 l0_0.length c0_0] 29 (0, 0)) (by (with_reducible repeat (first | refine blk_drewN ?_ _ | refine blk_drew ?_ | refine blk_alloc ?_ _)); exact BK140.out) hb)
                 have n2_ := Aside0.mk (below_step (by repeat (first | (with_reducible first | exact HB.out | apply below_alloc | apply pw_below_drewN | apply below_drew1 | refine below_set ?_ GE140.out) | exact HB.out)) hb)
                 clear HO_5
                 clear BK140
                 clear HB
                 have HO_5 := n0_
                 have BK140 := n1_
                 have HB := n2_
                 clear n0_ n1_ n2_
                 (try clear hb)
                 (try clear hb2)
                 (try clear hk)
                 (try clear hi)
                 refine hK.out _ _ ⟨(blk_cell BK140.out 0).trans rfl, HS1_, HS2_⟩ (fun hHeld => ?_)
                 clear hK K
                 refine norm_ (a' := ?_) ?_ ?_
                 rotate_left
                 ·show Act.put _ (some 130) _ = _
                  simp only [Act.put, List.setIfInBounds_toArray, List.set_cons_zero, List.set_cons_succ, i64_w, i32_w]
                  rfl
                 refine pu_ 23 (some 131) (ba_ 26 16777215) rfl rfl (any_of HT_.out (by kernel_rfl)) ?_
                 refine pu_ 24 (some 132) (ba_ 26 33554431) rfl rfl (any_of HT_.out (by kernel_rfl)) ?_
                 refine pu_ 25 (some 133) (ba_ 26 67108863) rfl rfl (any_of HT_.out (by kernel_rfl)) ?_
                 refine done_ (done_of HT_.out (by kernel_rfl)) ?_
                 try go_wp2
                 go_ret
                 exact ⟨by first | rfl | (simp [errW_none, errW_some] <;> rfl) | (simp [*, errW_none, errW_some] <;> rfl), by repeat (first | (with_reducible first | exact HB.out | apply below_alloc | apply pw_below_drewN | apply below_drew1 | refine below_set ?_ GE140.out) | exact HB.out)⟩
               ·replace c56 := Bool.eq_false_iff.mpr c56
                subst c56
                have H1 : ((spec_l16Empty.f).bind fun bt168 => (if (!(((rd_T99 l0_0 x7_3).f0) == bt168.1) || (!(((rd_T99 l0_0 x7_3).f1) == bt168.2.1) || (!(((rd_T99 l0_0 x7_3).f2) == bt168.2.2.1) || (!(((rd_T99 l0_0 x7_3).f3) == bt168.2.2.2.1) || (!(((rd_T99 l0_0 x7_3).f4) == bt168.2.2.2.2.1) || (!(((rd_T99 l0_0 x7_3).f5) == bt168.2.2.2.2.2.1) || (!(((rd_T99 l0_0 x7_3).f6) == bt168.2.2.2.2.2.2)))))))) = true then (some false) else (spec_DomOk.l1 k3 x5_2 (wrap64 (x7_3 + 1)) l0_0))) = some r := by rw [if_neg (show ¬ (false = true) by decide)] at H; exact H
                clear H
                have H := H1
                clear H1
                replace H := Option.bind_eq_some_iff.mp H
                obtain ⟨⟨t168, t169, t170, t171, t172, t173, t174⟩, A670, H⟩ := H
                replace H : (if (!(((rd_T99 l0_0 x7_3).f0) == t168) || (!(((rd_T99 l0_0 x7_3).f1) == t169) || (!(((rd_T99 l0_0 x7_3).f2) == t170) || (!(((rd_T99 l0_0 x7_3).f3) == t171) || (!(((rd_T99 l0_0 x7_3).f4) == t172) || (!(((rd_T99 l0_0 x7_3).f5) == t173) || (!(((rd_T99 l0_0 x7_3).f6) == t174)))))))) = true then (some false) else (spec_DomOk.l1 k3 x5_2 (wrap64 (x7_3 + 1)) l0_0)) = some r := H
                have A67 := Aside0.mk A670
                clear A670
                by_cases c68 : (!(((rd_T99 l0_0 x7_3).f0) == t168) || (!(((rd_T99 l0_0 x7_3).f1) == t169) || (!(((rd_T99 l0_0 x7_3).f2) == t170) || (!(((rd_T99 l0_0 x7_3).f3) == t171) || (!(((rd_T99 l0_0 x7_3).f4) == t172) || (!(((rd_T99 l0_0 x7_3).f5) == t173) || (!(((rd_T99 l0_0 x7_3).f6) == t174)))))))) = true
                ·rw [if_pos c68] at H
                 have c68b0 : (!(((rd_T99 l0_0 x7_3).f0) == t168) || (!(((rd_T99 l0_0 x7_3).f1) == t169) || (!(((rd_T99 l0_0 x7_3).f2) == t170) || (!(((rd_T99 l0_0 x7_3).f3) == t171) || (!(((rd_T99 l0_0 x7_3).f4) == t172) || (!(((rd_T99 l0_0 x7_3).f5) == t173) || (!(((rd_T99 l0_0 x7_3).f6) == t174)))))))) = true := c68
                 clear c68
                 obtain rfl := Option.some.inj H
                 have hcz69_0 : wr.cell? ⟨gb140, 0, none⟩ = some (.slice A0_0 l0_0.length c0_0) := (blk_cell BK140.out 0).trans rfl
                 have hfz69_0 := blk_frozen BK140.out 0
                 try go_wp2
                 have n0_ := Aside0.mk (Kd.R_drew HO_5.out)
                 have n1_ := Aside0.mk (blk_drew BK140.out)
                 have n2_ := Aside0.mk (below_drew1 HB.out)
                 clear HO_5
                 clear BK140
                 clear HB
                 have HO_5 := n0_
                 have BK140 := n1_
                 have HB := n2_
                 clear n0_ n1_ n2_
                 obtain ⟨Ao71, co71, eo71⟩ := Kd.R_slice HO_5.out
                 (first | subst eo71 | (injection eo71 with f1_ f2_ f3_; have f4_ := f1_.symm; have f5_ := f3_.symm; clear f1_ f2_ f3_; subst f4_; subst f5_))
                 have p164 : 0 ≤ (x7_3 : Int) := of_decide_eq_true (by first | (with_reducible assumption) | assumption)
                 have q164 : x7_3 < (x5_2.length : Int) := of_decide_eq_true (by first | (with_reducible assumption) | assumption)
                 obtain ⟨ad164, e164, hx164_0⟩ := Kd.at_bool (Kd.R_reads' HO_5.out).2.2 x7_3 p164 q164
                 (try rw [← Nbq55.out] at hx164_0)
                 cases e164
                 replace p164 := eq_true p164
                 replace q164 := eq_true q164
                 have p167 : 0 ≤ (x7_3 : Int) := of_decide_eq_true (by first | (with_reducible assumption) | assumption)
                 have q167 : x7_3 < (l0_0.length : Int) := of_decide_eq_true (by first | (with_reducible assumption) | assumption)
                 obtain ⟨ad167, e167, hx167_0, hx167_1, hx167_2, hx167_3, hx167_4, hx167_5, hx167_6⟩ := at_T99 HR0_0.out x7_3 p167 q167
                 have hw167_6 := hx167_6
                 have hw167_5 := hx167_5
                 have hw167_4 := hx167_4
                 have hw167_3 := hx167_3
                 have hw167_2 := hx167_2
                 have hw167_1 := hx167_1
                 have hw167_0 := hx167_0
                 (try rw [← Nbq55.out] at hx167_0)
                 cases e167
                 replace hx167_0 := (HB.out.cell (World.block_lt_of_cell? w _ hx167_0)).trans hx167_0
                 replace hx167_1 := (HB.out.cell (World.block_lt_of_cell? w _ hx167_1)).trans hx167_1
                 replace hx167_2 := (HB.out.cell (World.block_lt_of_cell? w _ hx167_2)).trans hx167_2
                 replace hx167_3 := (HB.out.cell (World.block_lt_of_cell? w _ hx167_3)).trans hx167_3
                 replace hx167_4 := (HB.out.cell (World.block_lt_of_cell? w _ hx167_4)).trans hx167_4
                 replace hx167_5 := (HB.out.cell (World.block_lt_of_cell? w _ hx167_5)).trans hx167_5
                 replace hx167_6 := (HB.out.cell (World.block_lt_of_cell? w _ hx167_6)).trans hx167_6
                 replace p167 := eq_true p167
                 replace q167 := eq_true q167
                 refine start_ (n := 26) (S := fun w' => w'.cell? ⟨gb140, 0, none⟩ = some (.slice (some ad167) l0_0.length c0_0) ∧ w'.cell? (ad164.add (x7_3).toNat) = some (.bool false) ∧ w'.cell? (ad167.add ((x7_3).toNat * 7)) = some (.bool ((rd_T99 l0_0 x7_3).f0)) ∧ w'.cell? ⟨(ad167.add ((x7_3).toNat * 7)).block, (ad167.add ((x7_3).toNat * 7)).off + 1, none⟩ = some (.int .i64 ((rd_T99 l0_0 x7_3).f1)) ∧ w'.cell? ⟨(ad167.add ((x7_3).toNat * 7)).block, (ad167.add ((x7_3).toNat * 7)).off + 2, none⟩ = some (.int .i64 ((rd_T99 l0_0 x7_3).f2)) ∧ w'.cell? ⟨(ad167.add ((x7_3).toNat * 7)).block, (ad167.add ((x7_3).toNat * 7)).off + 3, none⟩ = some (.int .i64 ((rd_T99 l0_0 x7_3).f3)) ∧ w'.cell? ⟨(ad167.add ((x7_3).toNat * 7)).block, (ad167.add ((x7_3).toNat * 7)).off + 4, none⟩ = some (.int .i64 ((rd_T99 l0_0 x7_3).f4)) ∧ w'.cell? ⟨(ad167.add ((x7_3).toNat * 7)).block, (ad167.add ((x7_3).toNat * 7)).off + 5, none⟩ = some (.int .i64 ((rd_T99 l0_0 x7_3).f5)) ∧ w'.cell? ⟨(ad167.add ((x7_3).toNat * 7)).block, (ad167.add ((x7_3).toNat * 7)).off + 6, none⟩ = some (.int .i64 ((rd_T99 l0_0 x7_3).f6))) (ds := []) (ba_ 26 0) (by kernel_rfl) rfl rfl ⟨(blk_cell BK140.out 0).trans rfl, hx164_0, ((HB.out.cell (World.block_lt_of_cell? w _ hw167_0)).trans (by first | exact hw167_0 | exact hw167_0.trans (by rw [← Nbq55.out]))), ((HB.out.cell (World.block_lt_of_cell? w _ hw167_1)).trans hw167_1), ((HB.out.cell (World.block_lt_of_cell? w _ hw167_2)).trans hw167_2), ((HB.out.cell (World.block_lt_of_cell? w _ hw167_3)).trans hw167_3), ((HB.out.cell (World.block_lt_of_cell? w _ hw167_4)).trans hw167_4), ((HB.out.cell (World.block_lt_of_cell? w _ hw167_5)).trans hw167_5), ((HB.out.cell (World.block_lt_of_cell? w _ hw167_6)).trans hw167_6)⟩ (fun hHeld => ?_); refine with_tabW spec_DomOk.tab16 spec_DomOk.bits16 (fun HT_ HW_ => ?_)
                 generalize wr.drew = w70 at HO_5 BK140 HB hx164_0 hx167_0 hx167_1 hx167_2 hx167_3 hx167_4 hx167_5 hx167_6 hHeld ⊢
                 refine pu_ 0 (some 108) (ba_ 26 1) rfl rfl (any_of HT_.out (by kernel_rfl)) ?_
                 refine pu_ 1 (some 109) (ba_ 26 3) rfl rfl (any_of HT_.out (by kernel_rfl)) ?_
                 refine pu_ 2 (some 110) (ba_ 26 7) rfl rfl (any_of HT_.out (by kernel_rfl)) ?_
                 refine ta_ 3 (some 111) (ba_ 26 15) rfl rfl (take_ofW HT_.out HW_.out (by kernel_rfl)) hHeld (by rintro w' ⟨s0, s1, s2, s3, s4, s5, s6, s7, s8⟩; go_simp; with_reducible rfl) ?_
                 refine pu_ 4 (some 112) (ba_ 26 31) rfl rfl (any_of HT_.out (by kernel_rfl)) ?_
                 refine pu_ 5 (some 113) (ba_ 26 63) rfl rfl (any_of HT_.out (by kernel_rfl)) ?_
                 refine pu_ 6 (some 114) (ba_ 26 127) rfl rfl (any_of HT_.out (by kernel_rfl)) ?_
                 refine pu_ 8 (some 116) (ba_ 26 383) rfl rfl (any_of HT_.out (by kernel_rfl)) ?_
                 refine ta_ 7 (some 115) (ba_ 26 511) rfl rfl (take_ofW HT_.out HW_.out (by kernel_rfl)) hHeld (by rintro w' ⟨s0, s1, s2, s3, s4, s5, s6, s7, s8⟩; go_simp; with_reducible rfl) ?_
                 refine pu_ 9 (some 117) (ba_ 26 1023) rfl rfl (any_of HT_.out (by kernel_rfl)) ?_
                 refine ta_ 10 (some 118) (ba_ 26 2047) rfl rfl (take_ofW HT_.out HW_.out (by kernel_rfl)) hHeld (by rintro w' ⟨s0, s1, s2, s3, s4, s5, s6, s7, s8⟩; go_simp; with_reducible rfl) ?_
                 refine one_ (i := 11) (N := some 119) (ba_ 26 4095) rfl rfl (one_of HT_.out (by kernel_rfl)) (by decide) (fun K hK => ?_)
                 refine goes_ Try.func70 (by kernel_rfl) rfl #[] (by rfl) rfl rfl (by (try simp only [List.map_toArray, List.map_cons, List.map_nil]); first | done | rfl | (simp only [List.length_drop, List.length_take]; rfl)) ?_
                 with_reducible refine (spec_l16Empty.calls  t168 t169 t170 t171 t172 t173 t174 _ A67.out).mono ?_
                 rintro e w72 ⟨rfl, hb⟩
                 have HS1_ := (hb.cell (World.block_lt_of_cell? _ _ (hHeld.2.1))).trans (hHeld.2.1)
                 refine ⟨_, rfl, ?_⟩
                 have n0_ := Aside0.mk (Kd.R_below (by (with_reducible repeat (first | apply Kd.R_alloc | apply Kd.R_drewN | apply Kd.R_drew)); exact HO_5.out) hb)
                 have n1_ := Aside0.mk (blk_below (g := gb140) (o := .cells #[.slice (some ad167) l0_0.length c0_0] 29 (0, 0)) (by (with_reducible repeat (first | refine blk_drewN ?_ _ | refine blk_drew ?_ | refine blk_alloc ?_ _)); exact BK140.out) hb)
                 have n2_ := Aside0.mk (below_step (by repeat (first | (with_reducible first | exact HB.out | apply below_alloc | apply pw_below_drewN | apply below_drew1 | refine below_set ?_ GE140.out) | exact HB.out)) hb)
                 clear HO_5
                 clear BK140
                 clear HB
                 have HO_5 := n0_
                 have BK140 := n1_
                 have HB := n2_
                 clear n0_ n1_ n2_
                 (try clear hb)
                 (try clear hb2)
                 (try clear hk)
                 (try clear hi)
                 refine hK.out _ _ ⟨(blk_cell BK140.out 0).trans rfl, HS1_, ((HB.out.cell (World.block_lt_of_cell? w _ hw167_0)).trans (by first | exact hw167_0 | exact hw167_0.trans (by rw [← Nbq55.out]))), ((HB.out.cell (World.block_lt_of_cell? w _ hw167_1)).trans hw167_1), ((HB.out.cell (World.block_lt_of_cell? w _ hw167_2)).trans hw167_2), ((HB.out.cell (World.block_lt_of_cell? w _ hw167_3)).trans hw167_3), ((HB.out.cell (World.block_lt_of_cell? w _ hw167_4)).trans hw167_4), ((HB.out.cell (World.block_lt_of_cell? w _ hw167_5)).trans hw167_5), ((HB.out.cell (World.block_lt_of_cell? w _ hw167_6)).trans hw167_6)⟩ (fun hHeld => ?_)
                 clear hK K
                 refine norm_ (a' := ?_) ?_ ?_
                 rotate_left
                 ·show Act.put _ (some 119) _ = _
                  simp only [Act.put, List.setIfInBounds_toArray, List.set_cons_zero, List.set_cons_succ, i64_w, i32_w]
                  rfl
                 refine pu_ 12 (some 120) (ba_ 26 8191) rfl rfl (any_of HT_.out (by kernel_rfl)) ?_
                 refine pu_ 13 (some 121) (ba_ 26 16383) rfl rfl (any_of HT_.out (by kernel_rfl)) ?_
                 refine pu_ 14 (some 122) (ba_ 26 32767) rfl rfl (any_of HT_.out (by kernel_rfl)) ?_
                 refine pn_ 15 (some 123) (ba_ 26 65535) rfl rfl (any_of HT_.out (by kernel_rfl)) ?_
                 refine pn_ 16 (some 124) (ba_ 26 131071) rfl rfl (any_of HT_.out (by kernel_rfl)) ?_
                 refine pn_ 17 (some 125) (ba_ 26 262143) rfl rfl (any_of HT_.out (by kernel_rfl)) ?_
                 refine pn_ 18 (some 126) (ba_ 26 524287) rfl rfl (any_of HT_.out (by kernel_rfl)) ?_
                 refine pn_ 19 (some 127) (ba_ 26 1048575) rfl rfl (any_of HT_.out (by kernel_rfl)) ?_
                 refine pn_ 20 (some 128) (ba_ 26 2097151) rfl rfl (any_of HT_.out (by kernel_rfl)) ?_
                 refine pn_ 21 (some 129) (ba_ 26 4194303) rfl rfl (any_of HT_.out (by kernel_rfl)) ?_
                 refine pn_ 22 (some 130) (ba_ 26 8388607) rfl rfl (any_of HT_.out (by kernel_rfl)) ?_
                 refine pn_ 23 (some 131) (ba_ 26 16777215) rfl rfl (any_of HT_.out (by kernel_rfl)) ?_
                 refine pn_ 24 (some 132) (ba_ 26 33554431) rfl rfl (any_of HT_.out (by kernel_rfl)) ?_
                 refine pu_ 25 (some 133) (ba_ 26 67108863) rfl rfl (any_of HT_.out (by kernel_rfl)) ?_
                 refine done_ (done_of HT_.out (by kernel_rfl)) ?_
                 try go_wp2
                 go_ret
                 exact ⟨by first | rfl | (simp [errW_none, errW_some] <;> rfl) | (simp [*, errW_none, errW_some] <;> rfl), by repeat (first | (with_reducible first | exact HB.out | apply below_alloc | apply pw_below_drewN | apply below_drew1 | refine below_set ?_ GE140.out) | exact HB.out)⟩
                ·rw [if_neg c68] at H
                 have c68b0 : (!(((rd_T99 l0_0 x7_3).f0) == t168) || (!(((rd_T99 l0_0 x7_3).f1) == t169) || (!(((rd_T99 l0_0 x7_3).f2) == t170) || (!(((rd_T99 l0_0 x7_3).f3) == t171) || (!(((rd_T99 l0_0 x7_3).f4) == t172) || (!(((rd_T99 l0_0 x7_3).f5) == t173) || (!(((rd_T99 l0_0 x7_3).f6) == t174)))))))) = false := by simpa using c68
                 clear c68
                 have H' := Aside0.mk H
                 clear H
                 have hcz73_0 : wr.cell? ⟨gb140, 0, none⟩ = some (.slice A0_0 l0_0.length c0_0) := (blk_cell BK140.out 0).trans rfl
                 have hfz73_0 := blk_frozen BK140.out 0
                 try go_wp2
                 have n0_ := Aside0.mk (Kd.R_drew HO_5.out)
                 have n1_ := Aside0.mk (blk_drew BK140.out)
                 have n2_ := Aside0.mk (below_drew1 HB.out)
                 clear HO_5
                 clear BK140
                 clear HB
                 have HO_5 := n0_
                 have BK140 := n1_
                 have HB := n2_
                 clear n0_ n1_ n2_
                 obtain ⟨Ao75, co75, eo75⟩ := Kd.R_slice HO_5.out
                 (first | subst eo75 | (injection eo75 with f1_ f2_ f3_; have f4_ := f1_.symm; have f5_ := f3_.symm; clear f1_ f2_ f3_; subst f4_; subst f5_))
                 have p164 : 0 ≤ (x7_3 : Int) := of_decide_eq_true (by first | (with_reducible assumption) | assumption)
                 have q164 : x7_3 < (x5_2.length : Int) := of_decide_eq_true (by first | (with_reducible assumption) | assumption)
                 obtain ⟨ad164, e164, hx164_0⟩ := Kd.at_bool (Kd.R_reads' HO_5.out).2.2 x7_3 p164 q164
                 (try rw [← Nbq55.out] at hx164_0)
                 cases e164
                 replace p164 := eq_true p164
                 replace q164 := eq_true q164
                 have p167 : 0 ≤ (x7_3 : Int) := of_decide_eq_true (by first | (with_reducible assumption) | assumption)
                 have q167 : x7_3 < (l0_0.length : Int) := of_decide_eq_true (by first | (with_reducible assumption) | assumption)
                 obtain ⟨ad167, e167, hx167_0, hx167_1, hx167_2, hx167_3, hx167_4, hx167_5, hx167_6⟩ := at_T99 HR0_0.out x7_3 p167 q167
                 have hw167_6 := hx167_6
                 have hw167_5 := hx167_5
                 have hw167_4 := hx167_4
                 have hw167_3 := hx167_3
                 have hw167_2 := hx167_2
                 have hw167_1 := hx167_1
                 have hw167_0 := hx167_0
                 (try rw [← Nbq55.out] at hx167_0)
                 cases e167
                 replace hx167_0 := (HB.out.cell (World.block_lt_of_cell? w _ hx167_0)).trans hx167_0
                 replace hx167_1 := (HB.out.cell (World.block_lt_of_cell? w _ hx167_1)).trans hx167_1
                 replace hx167_2 := (HB.out.cell (World.block_lt_of_cell? w _ hx167_2)).trans hx167_2
                 replace hx167_3 := (HB.out.cell (World.block_lt_of_cell? w _ hx167_3)).trans hx167_3
                 replace hx167_4 := (HB.out.cell (World.block_lt_of_cell? w _ hx167_4)).trans hx167_4
                 replace hx167_5 := (HB.out.cell (World.block_lt_of_cell? w _ hx167_5)).trans hx167_5
                 replace hx167_6 := (HB.out.cell (World.block_lt_of_cell? w _ hx167_6)).trans hx167_6
                 replace p167 := eq_true p167
                 replace q167 := eq_true q167
                 have p175 : 0 ≤ (x7_3 : Int) := of_decide_eq_true (by first | (with_reducible assumption) | assumption)
                 have q175 : x7_3 < (x5_2.length : Int) := of_decide_eq_true (by first | (with_reducible assumption) | assumption)
                 obtain ⟨ad175, e175, hx175_0⟩ := Kd.at_bool (Kd.R_reads' HO_5.out).2.2 x7_3 p175 q175
                 (try rw [← Nbq55.out] at hx175_0)
                 obtain rfl : ad164 = ad175 := (by injection e175)
                 replace p175 := eq_true p175
                 replace q175 := eq_true q175
                 refine start_ (n := 26) (S := fun w' => w'.cell? ⟨gb140, 0, none⟩ = some (.slice (some ad167) l0_0.length c0_0) ∧ w'.cell? (ad164.add (x7_3).toNat) = some (.bool false) ∧ w'.cell? (ad167.add ((x7_3).toNat * 7)) = some (.bool ((rd_T99 l0_0 x7_3).f0)) ∧ w'.cell? ⟨(ad167.add ((x7_3).toNat * 7)).block, (ad167.add ((x7_3).toNat * 7)).off + 1, none⟩ = some (.int .i64 ((rd_T99 l0_0 x7_3).f1)) ∧ w'.cell? ⟨(ad167.add ((x7_3).toNat * 7)).block, (ad167.add ((x7_3).toNat * 7)).off + 2, none⟩ = some (.int .i64 ((rd_T99 l0_0 x7_3).f2)) ∧ w'.cell? ⟨(ad167.add ((x7_3).toNat * 7)).block, (ad167.add ((x7_3).toNat * 7)).off + 3, none⟩ = some (.int .i64 ((rd_T99 l0_0 x7_3).f3)) ∧ w'.cell? ⟨(ad167.add ((x7_3).toNat * 7)).block, (ad167.add ((x7_3).toNat * 7)).off + 4, none⟩ = some (.int .i64 ((rd_T99 l0_0 x7_3).f4)) ∧ w'.cell? ⟨(ad167.add ((x7_3).toNat * 7)).block, (ad167.add ((x7_3).toNat * 7)).off + 5, none⟩ = some (.int .i64 ((rd_T99 l0_0 x7_3).f5)) ∧ w'.cell? ⟨(ad167.add ((x7_3).toNat * 7)).block, (ad167.add ((x7_3).toNat * 7)).off + 6, none⟩ = some (.int .i64 ((rd_T99 l0_0 x7_3).f6)) ∧ w'.cell? (ad164.add (x7_3).toNat) = some (.bool (false))) (ds := []) (ba_ 26 0) (by kernel_rfl) rfl rfl ⟨(blk_cell BK140.out 0).trans rfl, hx164_0, ((HB.out.cell (World.block_lt_of_cell? w _ hw167_0)).trans (by first | exact hw167_0 | exact hw167_0.trans (by rw [← Nbq55.out]))), ((HB.out.cell (World.block_lt_of_cell? w _ hw167_1)).trans hw167_1), ((HB.out.cell (World.block_lt_of_cell? w _ hw167_2)).trans hw167_2), ((HB.out.cell (World.block_lt_of_cell? w _ hw167_3)).trans hw167_3), ((HB.out.cell (World.block_lt_of_cell? w _ hw167_4)).trans hw167_4), ((HB.out.cell (World.block_lt_of_cell? w _ hw167_5)).trans hw167_5), ((HB.out.cell (World.block_lt_of_cell? w _ hw167_6)).trans hw167_6), hx175_0⟩ (fun hHeld => ?_); refine with_tabW spec_DomOk.tab16 spec_DomOk.bits16 (fun HT_ HW_ => ?_)
                 generalize wr.drew = w74 at HO_5 BK140 HB hx164_0 hx167_0 hx167_1 hx167_2 hx167_3 hx167_4 hx167_5 hx167_6 hx175_0 hHeld ⊢
                 refine pu_ 0 (some 108) (ba_ 26 1) rfl rfl (any_of HT_.out (by kernel_rfl)) ?_
                 refine pu_ 1 (some 109) (ba_ 26 3) rfl rfl (any_of HT_.out (by kernel_rfl)) ?_
                 refine pu_ 2 (some 110) (ba_ 26 7) rfl rfl (any_of HT_.out (by kernel_rfl)) ?_
                 refine ta_ 3 (some 111) (ba_ 26 15) rfl rfl (take_ofW HT_.out HW_.out (by kernel_rfl)) hHeld (by rintro w' ⟨s0, s1, s2, s3, s4, s5, s6, s7, s8, s9⟩; go_simp; with_reducible rfl) ?_
                 refine pu_ 4 (some 112) (ba_ 26 31) rfl rfl (any_of HT_.out (by kernel_rfl)) ?_
                 refine pu_ 5 (some 113) (ba_ 26 63) rfl rfl (any_of HT_.out (by kernel_rfl)) ?_
                 refine pu_ 6 (some 114) (ba_ 26 127) rfl rfl (any_of HT_.out (by kernel_rfl)) ?_
                 refine pu_ 8 (some 116) (ba_ 26 383) rfl rfl (any_of HT_.out (by kernel_rfl)) ?_
                 refine ta_ 7 (some 115) (ba_ 26 511) rfl rfl (take_ofW HT_.out HW_.out (by kernel_rfl)) hHeld (by rintro w' ⟨s0, s1, s2, s3, s4, s5, s6, s7, s8, s9⟩; go_simp; with_reducible rfl) ?_
                 refine pu_ 9 (some 117) (ba_ 26 1023) rfl rfl (any_of HT_.out (by kernel_rfl)) ?_
                 refine ta_ 10 (some 118) (ba_ 26 2047) rfl rfl (take_ofW HT_.out HW_.out (by kernel_rfl)) hHeld (by rintro w' ⟨s0, s1, s2, s3, s4, s5, s6, s7, s8, s9⟩; go_simp; with_reducible rfl) ?_
                 refine one_ (i := 11) (N := some 119) (ba_ 26 4095) rfl rfl (one_of HT_.out (by kernel_rfl)) (by decide) (fun K hK => ?_)
                 refine goes_ Try.func70 (by kernel_rfl) rfl #[] (by rfl) rfl rfl (by (try simp only [List.map_toArray, List.map_cons, List.map_nil]); first | done | rfl | (simp only [List.length_drop, List.length_take]; rfl)) ?_
                 with_reducible refine (spec_l16Empty.calls  t168 t169 t170 t171 t172 t173 t174 _ A67.out).mono ?_
                 rintro e w76 ⟨rfl, hb⟩
                 have HS1_ := (hb.cell (World.block_lt_of_cell? _ _ (hHeld.2.1))).trans (hHeld.2.1)
                 have HS9_ := (hb.cell (World.block_lt_of_cell? _ _ (hHeld.2.2.2.2.2.2.2.2.2))).trans (hHeld.2.2.2.2.2.2.2.2.2)
                 refine ⟨_, rfl, ?_⟩
                 have n0_ := Aside0.mk (Kd.R_below (by (with_reducible repeat (first | apply Kd.R_alloc | apply Kd.R_drewN | apply Kd.R_drew)); exact HO_5.out) hb)
                 have n1_ := Aside0.mk (blk_below (g := gb140) (o := .cells #[.slice (some ad167) l0_0.length c0_0] 29 (0, 0)) (by (with_reducible repeat (first | refine blk_drewN ?_ _ | refine blk_drew ?_ | refine blk_alloc ?_ _)); exact BK140.out) hb)
                 have n2_ := Aside0.mk (below_step (by repeat (first | (with_reducible first | exact HB.out | apply below_alloc | apply pw_below_drewN | apply below_drew1 | refine below_set ?_ GE140.out) | exact HB.out)) hb)
                 clear HO_5
                 clear BK140
                 clear HB
                 have HO_5 := n0_
                 have BK140 := n1_
                 have HB := n2_
                 clear n0_ n1_ n2_
                 (try clear hb)
                 (try clear hb2)
                 (try clear hk)
                 (try clear hi)
                 refine hK.out _ _ ⟨(blk_cell BK140.out 0).trans rfl, HS1_, ((HB.out.cell (World.block_lt_of_cell? w _ hw167_0)).trans (by first | exact hw167_0 | exact hw167_0.trans (by rw [← Nbq55.out]))), ((HB.out.cell (World.block_lt_of_cell? w _ hw167_1)).trans hw167_1), ((HB.out.cell (World.block_lt_of_cell? w _ hw167_2)).trans hw167_2), ((HB.out.cell (World.block_lt_of_cell? w _ hw167_3)).trans hw167_3), ((HB.out.cell (World.block_lt_of_cell? w _ hw167_4)).trans hw167_4), ((HB.out.cell (World.block_lt_of_cell? w _ hw167_5)).trans hw167_5), ((HB.out.cell (World.block_lt_of_cell? w _ hw167_6)).trans hw167_6), HS9_⟩ (fun hHeld => ?_)
                 clear hK K
                 refine norm_ (a' := ?_) ?_ ?_
                 rotate_left
                 ·show Act.put _ (some 119) _ = _
                  simp only [Act.put, List.setIfInBounds_toArray, List.set_cons_zero, List.set_cons_succ, i64_w, i32_w]
                  rfl
                 refine pu_ 12 (some 120) (ba_ 26 8191) rfl rfl (any_of HT_.out (by kernel_rfl)) ?_
                 refine pu_ 13 (some 121) (ba_ 26 16383) rfl rfl (any_of HT_.out (by kernel_rfl)) ?_
                 refine pu_ 14 (some 122) (ba_ 26 32767) rfl rfl (any_of HT_.out (by kernel_rfl)) ?_
                 refine pu_ 15 (some 123) (ba_ 26 65535) rfl rfl (any_of HT_.out (by kernel_rfl)) ?_
                 refine pu_ 16 (some 124) (ba_ 26 131071) rfl rfl (any_of HT_.out (by kernel_rfl)) ?_
                 refine pu_ 17 (some 125) (ba_ 26 262143) rfl rfl (any_of HT_.out (by kernel_rfl)) ?_
                 refine ta_ 18 (some 126) (ba_ 26 524287) rfl rfl (take_ofW HT_.out HW_.out (by kernel_rfl)) hHeld (by rintro w' ⟨s0, s1, s2, s3, s4, s5, s6, s7, s8, s9⟩; go_simp; with_reducible rfl) ?_
                 refine pu_ 19 (some 127) (ba_ 26 1048575) rfl rfl (any_of HT_.out (by kernel_rfl)) ?_
                 refine pn_ 20 (some 128) (ba_ 26 2097151) rfl rfl (any_of HT_.out (by kernel_rfl)) ?_
                 refine pn_ 21 (some 129) (ba_ 26 4194303) rfl rfl (any_of HT_.out (by kernel_rfl)) ?_
                 refine pn_ 22 (some 130) (ba_ 26 8388607) rfl rfl (any_of HT_.out (by kernel_rfl)) ?_
                 refine pn_ 23 (some 131) (ba_ 26 16777215) rfl rfl (any_of HT_.out (by kernel_rfl)) ?_
                 refine pu_ 24 (some 132) (ba_ 26 33554431) rfl rfl (any_of HT_.out (by kernel_rfl)) ?_
                 refine pu_ 25 (some 133) (ba_ 26 67108863) rfl rfl (any_of HT_.out (by kernel_rfl)) ?_
                 refine done_ (done_of HT_.out (by kernel_rfl)) ?_
                 try go_wp2
                 go_roundg k3
                 case measure => have := HJ1.out; have := HK2.out; have := HK3.out; omega
                 case rel => exact ⟨(wrap64 (x7_3 + 1)), (by first | rfl | (simp; done) | (simp [*]; done)), H', ⟨by have := HJ1.out; have := HK2.out; have := HK3.out; omega⟩, ⟨by (with_reducible repeat (first | apply Kd.R_alloc | apply Kd.R_drewN | apply Kd.R_drew)); exact HO_5.out⟩, ⟨by (with_reducible repeat (first | refine blk_drewN ?_ _ | refine blk_drew ?_ | refine blk_alloc ?_ _)); exact BK140.out⟩, ⟨by repeat (first | (with_reducible first | exact HB.out | apply below_alloc | apply pw_below_drewN | apply below_drew1 | refine below_set ?_ GE140.out) | exact HB.out)⟩⟩
              ·rw [if_neg c54] at H
               exact absurd H (by simp)
             ·rw [if_neg c53] at H
              exact absurd H (by simp)
            ·rw [if_neg c52] at H
             have c52b0 : decide (x7_3 < (l0_0.length : Int)) = false := decide_eq_false c52
             clear c52
             obtain rfl := Option.some.inj H
             have hcz77_0 : wr.cell? ⟨gb140, 0, none⟩ = some (.slice A0_0 l0_0.length c0_0) := (blk_cell BK140.out 0).trans rfl
             have hfz77_0 := blk_frozen BK140.out 0
             go_wp2
             go_ret
             exact ⟨by first | rfl | (simp [errW_none, errW_some] <;> rfl) | (simp [*, errW_none, errW_some] <;> rfl), by repeat (first | (with_reducible first | exact HB.out | apply below_alloc | apply pw_below_drewN | apply below_drew1 | refine below_set ?_ GE140.out) | exact HB.out)⟩
      ·rw [if_neg c23] at H
       exact absurd H (by simp)
     ·rw [if_neg c22] at H
      exact absurd H (by simp)
end Go.Proofs.Ytbifdckfglejkaa.X
namespace Go.Proofs.Ytbifdckfglejkaa.X
open Go.RowKit Go.Proofs.YtbifdckfglejkaaW.PrintWords Go.Proofs.YtbifdckfglejkaaW.PrintLast Go.Proofs.YtbifdckfglejkaaW.PrintMore
attribute [local go_sem] max2_int min2_int max_two min_two max_three min_three max_four min_four   -- for this text's walks alone
set_option linter.unusedVariables false
set_option linter.unusedSimpArgs false
def spec_DomTree.l0 : Nat → List (S90) → List Int → List Int → Int → List (S99) → Option ((List (S90)))
 | 0, _, _, _, _, _ => none
 | k + 1, x3, x4, x5, x6, x276000 => if x6 < (x4.length : Int) then (if 0 ≤ x6 then (if 0 ≤ (rd x4 x6) then (if (rd x4 x6) < (x276000.length : Int) then (if x6 < (x5.length : Int) then (if x3.length < 8796093022208 then (spec_DomTree.l0 k (x3 ++ [(⟨(rd_T99 x276000 (rd x4 x6)).f1, rd x5 x6⟩ : S90)]) x4 x5 (wrap64 (x6 + 1)) x276000) else (none)) else (none)) else (none)) else (none)) else (none)) else (some x3)
def spec_DomTree.f (k : Nat) (l0_0 : List (S99)) : Option ((List (S90))) := (some (([] : List (S90)) : List (S90))).bind fun y276 => ((spec_DomOk.f k l0_0).bind fun t279 => (if t279 = true then ((spec_l16Walk.f k l0_0 0 0 ([] : List Int) ([] : List Int)).bind fun bt280 => (spec_DomTree.l0 k y276 bt280.1 bt280.2 0 l0_0)) else (some y276)))
def spec_DomTree.T8 : Bool × List (List Nat × List Nat) := (true, [([], []), ([], []), ([1], [1]), ([], []), ([], []), ([3, 4], [3, 4]), ([5], [5]), ([2, 6], [2, 6]), ([7], [7]), ([8], [8]), ([], []), ([], []), ([10, 11], [10, 11]), ([12], [12]), ([9, 13], [9, 13]), ([14], [14]), ([0, 15], [0, 15]), ([16, 16, 0, 1, 2, 3, 4, 5, 6, 7, 8, 9, 10, 11, 12, 13, 14, 15, 16], [0, 16])])
def spec_DomTree.B8 : List Nat := [0, 0, 2, 0, 0, 24, 56, 126, 254, 510, 0, 0, 3072, 7168, 16382, 32766, 65535, 131071]
theorem spec_DomTree.tab8 : rtab .any (opsOf Try.f21 8) = spec_DomTree.T8 := by kernel_rfl
theorem spec_DomTree.bits8 : waitsOk spec_DomTree.T8.2 spec_DomTree.B8 = true := by kernel_rfl
set_option maxHeartbeats 8000000 in
set_option maxRecDepth 100000 in
theorem spec_DomTree.calls (k : Nat) (A0_0 : Option Addr) (c0_0 : Nat) (l0_0 : List (S99)) (r : List (S90)) (w : World) (hr0_0 : Kd.C k99 w A0_0 l0_0.length l0_0) (hc0_0 : l0_0.length ≤ c0_0) (h : spec_DomTree.f k l0_0 = some r) :
  Calls Try.prog 21 #[.agg #[.slice A0_0 l0_0.length c0_0]] w fun e w' => ∃ v0_ : Value, e = .returned (v0_) ∧ Kd.R k90 90 w' w.heap.size (fun _ => True) v0_ r ∧ Below w.heap.size w w' := by
 have hu29 := Try.underlying29
 have hu90 := Try.underlying90
 have HR0_0 := Aside0.mk hr0_0
 have HC0_0 := Aside0.mk hc0_0
 clear hr0_0 hc0_0
 have HB := Aside0.mk (Below.refl w.heap.size w)
 have H : ((some (([] : List (S90)) : List (S90))).bind fun y276 => ((spec_DomOk.f k l0_0).bind fun t279 => (if t279 = true then ((spec_l16Walk.f k l0_0 0 0 ([] : List Int) ([] : List Int)).bind fun bt280 => (spec_DomTree.l0 k y276 bt280.1 bt280.2 0 l0_0)) else (some y276)))) = some r := h
 clear h
 obtain ⟨y276, hy276⟩ : ∃ y_ : List (S90), y_ = (([] : List (S90))) := ⟨_, rfl⟩
 replace H : ((spec_DomOk.f k l0_0).bind fun t279 => (if t279 = true then ((spec_l16Walk.f k l0_0 0 0 ([] : List Int) ([] : List Int)).bind fun bt280 => (spec_DomTree.l0 k y276 bt280.1 bt280.2 0 l0_0)) else (some y276))) = some r := by first | (rw [hy276]; with_reducible exact H) | (have H2_ := (Option.bind_some _ _).symm.trans H; rw [hy276]; with_reducible exact H2_) | (have H2_ := (Option.bind_some _ _).symm.trans H; with_reducible exact H2_) | with_reducible exact H | (rw [hy276]; exact H) | exact H
 have Ny276 := Aside0.mk hy276
 clear hy276
 replace H := Option.bind_eq_some_iff.mp H
 obtain ⟨t279, A20, H⟩ := H
 replace H : (if t279 = true then ((spec_l16Walk.f k l0_0 0 0 ([] : List Int) ([] : List Int)).bind fun bt280 => (spec_DomTree.l0 k y276 bt280.1 bt280.2 0 l0_0)) else (some y276)) = some r := H
 have A2 := Aside0.mk A20
 clear A20
 by_cases c3 : t279 = true
 ·subst c3
  have H1 : ((spec_l16Walk.f k l0_0 0 0 ([] : List Int) ([] : List Int)).bind fun bt280 => (spec_DomTree.l0 k y276 bt280.1 bt280.2 0 l0_0)) = some r := by rw [if_pos rfl] at H; exact H
  clear H
  have H := H1
  clear H1
  replace H := Option.bind_eq_some_iff.mp H
  obtain ⟨⟨t280, t283⟩, A40, H⟩ := H
  replace H : (spec_DomTree.l0 k y276 t280 t283 0 l0_0) = some r := H
  have A4 := Aside0.mk A40
  clear A40
  have H' := Aside0.mk H
  clear H
  go_enter Try.func21, Try.ntmps21
  go_wp2_with (first | ((with_reducible refine gate_dst (N := 1) rfl ?_); refine box_event ?hg (N := 1) ?hd (cs := #[.slice A0_0 l0_0.length c0_0]) (t := 29) ?hr ?_; (case hd => rfl); (case hg => rfl); (case hr => first | (go_simp; done) | (go_simp; rfl)); intro gb275 hg w5 hbox hb; have n0_ := Aside0.mk (below_step (by repeat (first | (with_reducible first | exact HB.out | apply below_alloc | apply pw_below_drewN | apply below_drew1) | exact HB.out)) hb); have n1_ := Aside0.mk (hbox); have n2_ := Aside0.mk ((by rw [hg]; exact (below_size (by repeat (first | (with_reducible first | exact HB.out | apply below_alloc | apply pw_below_drewN | apply below_drew1) | exact HB.out))) : w.heap.size ≤ gb275)); have n3_ := Aside0.mk ((by rw [hg]; exact (below_size (by repeat (first | (with_reducible first | exact HB.out | apply below_alloc | apply pw_below_drewN | apply below_drew1) | exact HB.out))) : w.heap.size ≤ gb275)); clear HB; have HB := n0_; have BK275 := n1_; have GW275 := n2_; have GE275 := n3_; clear n0_ n1_ n2_ n3_; clear hb hbox hg) | ((with_reducible refine gate_dst (N := 7) rfl ?_); refine Kd.R_lit k90 _ 90 ?hg (N := 7) ?hd (xs := ([] : List (S90))) (inner := []) (ok := fun _ => True) (okp := fun _ => True) ?hr ?hp (fun _ hk => hk) trivial (Below.refl _ _) (Nat.le_refl _) (by simp) ?_; (case hd => rfl); (case hg => rfl); (case hr => first | (go_simp; done) | (go_simp; rfl)); (case hp => exact (Reps.none _ _)); intro v277 w6 ho7 hb hg_ hnew_; clear hg_ hnew_; (first | rw [← Ny276.out] at ho7 | (simp only [Int.reduceToNat] at ho7; rw [← Ny276.out] at ho7)); have n0_ := Aside0.mk (Kd.R_lower ho7 (below_size (by repeat (first | (with_reducible first | exact HB.out | apply below_alloc | apply pw_below_drewN | apply below_drew1 | refine below_set ?_ GE275.out) | exact HB.out)))); have n1_ := Aside0.mk (blk_below (g := gb275) (o := .cells #[.slice A0_0 l0_0.length c0_0] 29 (0, 0)) (by (with_reducible repeat (first | refine blk_drewN ?_ _ | refine blk_drew ?_ | refine blk_alloc ?_ _)); exact BK275.out) hb); have n2_ := Aside0.mk (below_step (by repeat (first | (with_reducible first | exact HB.out | apply below_alloc | apply pw_below_drewN | apply below_drew1 | refine below_set ?_ GE275.out) | exact HB.out)) hb); clear BK275; clear HB; have HO278 := n0_; have BK275 := n1_; have HB := n2_; clear n0_ n1_ n2_; clear hb ho7; have hcz8_0 : w6.cell? ⟨gb275, 0, none⟩ = some (.slice A0_0 l0_0.length c0_0) := (blk_cell BK275.out 0).trans rfl; have hfz8_0 := blk_frozen BK275.out 0) | ((with_reducible refine gate_callee (f := 15) rfl ?_); refine goesL_ (some 9) rfl rfl Try.func15 (by kernel_rfl) rfl #[.agg #[.slice A0_0 l0_0.length c0_0]] rfl (by (try simp only [List.map_toArray, List.map_cons, List.map_nil]); first | done | rfl | (simp only [List.length_drop, List.length_take]; rfl)) ?_; (with_reducible refine (spec_DomOk.calls k _ _ l0_0 true _ ?side1 ?side2 A2.out).mono ?_); (case side1 => repeat (first | exact (Kd.C_below HR0_0.out HB.out) | (with_reducible refine Kd.C_alloc ?_ _) | (with_reducible refine Kd.C_drewN ?_ _) | (with_reducible refine Kd.C_drew ?_))); (case side2 => exact HC0_0.out); rintro e w9 ⟨rfl, hb⟩; refine ⟨_, rfl, ?_⟩; have n0_ := Aside0.mk (Kd.R_below (by (with_reducible repeat (first | apply Kd.R_alloc | apply Kd.R_drewN | apply Kd.R_drew)); exact HO278.out) hb); have n1_ := Aside0.mk (blk_below (g := gb275) (o := .cells #[.slice A0_0 l0_0.length c0_0] 29 (0, 0)) (by (with_reducible repeat (first | refine blk_drewN ?_ _ | refine blk_drew ?_ | refine blk_alloc ?_ _)); exact BK275.out) hb); have n2_ := Aside0.mk (below_step (by repeat (first | (with_reducible first | exact HB.out | apply below_alloc | apply pw_below_drewN | apply below_drew1 | refine below_set ?_ GE275.out) | exact HB.out)) hb); clear HO278; clear BK275; clear HB; have HO278 := n0_; have BK275 := n1_; have HB := n2_; clear n0_ n1_ n2_; (try clear hb); (try clear hb2); (try clear hk); (try clear hi); have hcz10_0 : w9.cell? ⟨gb275, 0, none⟩ = some (.slice A0_0 l0_0.length c0_0) := (blk_cell BK275.out 0).trans rfl; have hfz10_0 := blk_frozen BK275.out 0) | ((with_reducible refine gate_callee (f := 68) rfl ?_); refine goesL_ (some 14) rfl rfl Try.func68 (by kernel_rfl) rfl #[.agg #[.slice A0_0 l0_0.length c0_0], .int .i64 0, .int .i64 0, .slice none 0 0, .slice none 0 0] rfl (by (try simp only [List.map_toArray, List.map_cons, List.map_nil]); first | done | rfl | (simp only [List.length_drop, List.length_take]; rfl)) ?_; (refine (spec_l16Walk.calls k _ _ l0_0 0 0 (fun k_ => some k_ = (.slice none 0 0 : Value).ownBlock) (.slice none 0 0) ([] : List Int) (fun k_ => some k_ = (.slice none 0 0 : Value).ownBlock) (.slice none 0 0) ([] : List Int) t280 t283 w _ ?side1 ?side2 ?side3 ?side4 ?side5 ?side6 ?side7 A4.out).mono ?_); (case side1 => repeat (first | (with_reducible first | exact HB.out | apply below_alloc | apply pw_below_drewN | apply below_drew1 | refine below_set ?_ GE275.out) | exact HB.out)); (case side2 => exact Kd.C_kept_came k99_heap HR0_0.out (by repeat (first | (with_reducible first | exact HB.out | apply below_alloc | apply pw_below_drewN | apply below_drew1 | refine below_set ?_ GE275.out) | exact HB.out)) (fun k_ hs_ => Or.elim hs_ (fun e_ => (fun e_ => by simp [Value.ownBlock] at e_) e_) (fun e_ => (fun e_ => by simp [Value.ownBlock] at e_) e_))); (case side3 => exact HC0_0.out); (case side4 => exact Kd.R_nil _ _ _ _ _); (case side5 => intro k_ e_ e2_; simp [Value.ownBlock] at e_ e2_); (case side6 => exact Kd.R_nil _ _ _ _ _); (case side7 => intro k_ e_ e2_; simp [Value.ownBlock] at e_ e2_); rintro e w11 ⟨v281, v284, rfl, ho0, ho1, hb, hkp⟩; refine ⟨_, rfl, ?_⟩; have n0_ := Aside0.mk (blk_kept (by (with_reducible repeat (first | refine blk_drewN ?_ _ | refine blk_drew ?_ | refine blk_alloc ?_ _)); exact BK275.out) hkp (fun hs_ => Or.elim hs_ (fun e_ => (fun e_ => by simp [Value.ownBlock] at e_) e_) (fun e_ => (fun e_ => by simp [Value.ownBlock] at e_) e_))); have n1_ := Aside0.mk (Kd.R_mono (ok' := fun k_ => True) (Kd.R_keptB (HO278.out) hkp (fun k_ hk_ hs_ => Or.elim hs_ (fun e_ => (fun e_ => by simp [Value.ownBlock] at e_) e_) (fun e_ => (fun e_ => by simp [Value.ownBlock] at e_) e_))) (fun k_ hk_ => trivial)); have n2_ := Aside0.mk (Kd.R_mono (ok' := fun k_ => some k_ ≠ (v284 : Value).ownBlock) ho0 (fun k_ hk_ => hk_.2)); have n3_ := Aside0.mk (Kd.R_mono (ok' := fun k_ => some k_ ≠ (v281 : Value).ownBlock) ho1 (fun k_ hk_ => hk_.2)); have n4_ := Aside0.mk (hb); clear BK275; clear HO278; clear HB; have BK275 := n0_; have HO278 := n1_; have HO282 := n2_; have HO285 := n3_; have HB := n4_; clear n0_ n1_ n2_ n3_ n4_; (try clear hb); (try clear hkp); (try clear ho0); (try clear ho1)))
  go_loopg [3, 6] k (fun kq v3 v6 w' => ∃ (x3_1 : List (S90)) (x6_1 : Int), v6 = .int .i64 x6_1 ∧ Aside0 (spec_DomTree.l0 kq x3_1 t280 t283 x6_1 l0_0 = some r) ∧ Aside0 (kq ≤ k) ∧ Aside0 (Kd.R k90 90 w' w.heap.size (fun _ => True) v3 x3_1) ∧ Aside0 (Kd.R (Kd.int .i64) 3 w' w.heap.size (fun k_ => some k_ ≠ (v284 : Value).ownBlock) v281 t280) ∧ Aside0 (Kd.R (Kd.int .i64) 3 w' w.heap.size (fun k_ => some k_ ≠ (v281 : Value).ownBlock) v284 t283) ∧ Aside0 (w'.heap[gb275]? = some (.cells #[(.slice A0_0 l0_0.length c0_0)] 29 (0, 0))) ∧ Aside0 (Below w.heap.size w w'))
  case atStart => exact ⟨(y276), (0), (by first | rfl | (simp; done) | (simp [*]; done)), H', ⟨Nat.le_refl _⟩, ⟨by (with_reducible repeat (first | apply Kd.R_alloc | apply Kd.R_drewN | apply Kd.R_drew)); exact HO278.out⟩, ⟨by (with_reducible repeat (first | apply Kd.R_alloc | apply Kd.R_drewN | apply Kd.R_drew)); exact HO282.out⟩, ⟨by (with_reducible repeat (first | apply Kd.R_alloc | apply Kd.R_drewN | apply Kd.R_drew)); exact HO285.out⟩, ⟨by (with_reducible repeat (first | refine blk_drewN ?_ _ | refine blk_drew ?_ | refine blk_alloc ?_ _)); exact BK275.out⟩, ⟨by repeat (first | (with_reducible first | exact HB.out | apply below_alloc | apply pw_below_drewN | apply below_drew1 | refine below_set ?_ GE275.out) | exact HB.out)⟩⟩
  case round =>
   clear H'
   try clear c1
   try clear c2
   try clear p2
   try clear c3
   try clear c6
   try clear hcz10_0
   try clear hcz8_0
   try clear hfz10_0
   try clear hfz8_0
   obtain ⟨x3_1, x6_1, rfl, HA, HK1, HO_3, HO_4, HO_5, BK275, HB⟩ := hrel
   cases gk with
   | zero => exact absurd HA.out (by simp [spec_DomTree.l0])
   | succ k1 =>
    have H := HA.out
    clear HA
    simp only [spec_DomTree.l0] at H
    by_cases c12 : x6_1 < (t280.length : Int)
    ·rw [if_pos c12] at H
     have c12b0 : decide (x6_1 < (t280.length : Int)) = true := decide_eq_true c12
     clear c12
     by_cases c13 : 0 ≤ x6_1
     ·rw [if_pos c13] at H
      have c13b0 : decide (0 ≤ x6_1) = true := decide_eq_true c13
      clear c13
      by_cases c14 : 0 ≤ (rd t280 x6_1)
      ·rw [if_pos c14] at H
       have c14b0 : decide (0 ≤ (rd t280 x6_1)) = true := decide_eq_true c14
       clear c14
       by_cases c15 : (rd t280 x6_1) < (l0_0.length : Int)
       ·rw [if_pos c15] at H
        have c15b0 : decide ((rd t280 x6_1) < (l0_0.length : Int)) = true := decide_eq_true c15
        clear c15
        by_cases c16 : x6_1 < (t283.length : Int)
        ·rw [if_pos c16] at H
         have c16b0 : decide (x6_1 < (t283.length : Int)) = true := decide_eq_true c16
         clear c16
         by_cases c17 : x3_1.length < 8796093022208
         ·rw [if_pos c17] at H
          have LMc17 := Aside0.mk c17
          clear c17
          obtain ⟨y289, hy289⟩ : ∃ y_ : List (S90), y_ = (x3_1 ++ [(⟨(rd_T99 l0_0 (rd t280 x6_1)).f1, rd t283 x6_1⟩ : S90)]) := ⟨_, rfl⟩
          replace H : (spec_DomTree.l0 k1 y289 t280 t283 (wrap64 (x6_1 + 1)) l0_0) = some r := by first | (rw [hy289]; with_reducible exact H) | (have H2_ := (Option.bind_some _ _).symm.trans H; rw [hy289]; with_reducible exact H2_) | (have H2_ := (Option.bind_some _ _).symm.trans H; with_reducible exact H2_) | with_reducible exact H | (rw [hy289]; exact H) | exact H
          have Ny289 := Aside0.mk hy289
          clear hy289
          have H' := Aside0.mk H
          clear H
          obtain ⟨Ao18, co18, eo18⟩ := Kd.R_slice HO_4.out
          subst eo18
          try go_wp2
          have n0_ := Aside0.mk (Kd.R_drew HO_3.out)
          have n1_ := Aside0.mk (Kd.R_drew HO_4.out)
          have n2_ := Aside0.mk (Kd.R_drew HO_5.out)
          have n3_ := Aside0.mk (blk_drew BK275.out)
          have n4_ := Aside0.mk (below_drew1 HB.out)
          clear HO_3
          clear HO_4
          clear HO_5
          clear BK275
          clear HB
          have HO_3 := n0_
          have HO_4 := n1_
          have HO_5 := n2_
          have BK275 := n3_
          have HB := n4_
          clear n0_ n1_ n2_ n3_ n4_
          have p286 : 0 ≤ (x6_1 : Int) := of_decide_eq_true (by first | (with_reducible assumption) | assumption)
          have q286 : x6_1 < (t280.length : Int) := of_decide_eq_true (by first | (with_reducible assumption) | assumption)
          obtain ⟨ad286, e286, hx286_0⟩ := Kd.at_int (Kd.R_reads' HO_4.out).2.2 x6_1 p286 q286
          cases e286
          replace p286 := eq_true p286
          replace q286 := eq_true q286
          have p287 : 0 ≤ ((rd t280 x6_1) : Int) := of_decide_eq_true (by first | (with_reducible assumption) | assumption)
          have q287 : (rd t280 x6_1) < (l0_0.length : Int) := of_decide_eq_true (by first | (with_reducible assumption) | assumption)
          obtain ⟨ad287, e287, hx287_0, hx287_1, hx287_2, hx287_3, hx287_4, hx287_5, hx287_6⟩ := at_T99 HR0_0.out (rd t280 x6_1) p287 q287
          have hw287_6 := hx287_6
          have hw287_5 := hx287_5
          have hw287_4 := hx287_4
          have hw287_3 := hx287_3
          have hw287_2 := hx287_2
          have hw287_1 := hx287_1
          have hw287_0 := hx287_0
          cases e287
          replace hx287_0 := (HB.out.cell (World.block_lt_of_cell? w _ hx287_0)).trans hx287_0
          replace hx287_1 := (HB.out.cell (World.block_lt_of_cell? w _ hx287_1)).trans hx287_1
          replace hx287_2 := (HB.out.cell (World.block_lt_of_cell? w _ hx287_2)).trans hx287_2
          replace hx287_3 := (HB.out.cell (World.block_lt_of_cell? w _ hx287_3)).trans hx287_3
          replace hx287_4 := (HB.out.cell (World.block_lt_of_cell? w _ hx287_4)).trans hx287_4
          replace hx287_5 := (HB.out.cell (World.block_lt_of_cell? w _ hx287_5)).trans hx287_5
          replace hx287_6 := (HB.out.cell (World.block_lt_of_cell? w _ hx287_6)).trans hx287_6
          replace p287 := eq_true p287
          replace q287 := eq_true q287
          obtain ⟨Ao20, co20, eo20⟩ := Kd.R_slice HO_5.out
          (first | subst eo20 | (injection eo20 with f1_ f2_ f3_; have f4_ := f1_.symm; have f5_ := f3_.symm; clear f1_ f2_ f3_; subst f4_; subst f5_))
          have p288 : 0 ≤ (x6_1 : Int) := of_decide_eq_true (by first | (with_reducible assumption) | assumption)
          have q288 : x6_1 < (t283.length : Int) := of_decide_eq_true (by first | (with_reducible assumption) | assumption)
          obtain ⟨ad288, e288, hx288_0⟩ := Kd.at_int (Kd.R_reads' HO_5.out).2.2 x6_1 p288 q288
          cases e288
          replace p288 := eq_true p288
          replace q288 := eq_true q288
          refine start_ (n := 18) (S := fun w' => w'.cell? ⟨gb275, 0, none⟩ = some (.slice (some ad287) l0_0.length c0_0) ∧ w'.cell? (ad286.add (x6_1).toNat) = some (.int .i64 (rd t280 x6_1)) ∧ w'.cell? (ad287.add (((rd t280 x6_1)).toNat * 7)) = some (.bool ((rd_T99 l0_0 (rd t280 x6_1)).f0)) ∧ w'.cell? ⟨(ad287.add (((rd t280 x6_1)).toNat * 7)).block, (ad287.add (((rd t280 x6_1)).toNat * 7)).off + 1, none⟩ = some (.int .i64 ((rd_T99 l0_0 (rd t280 x6_1)).f1)) ∧ w'.cell? ⟨(ad287.add (((rd t280 x6_1)).toNat * 7)).block, (ad287.add (((rd t280 x6_1)).toNat * 7)).off + 2, none⟩ = some (.int .i64 ((rd_T99 l0_0 (rd t280 x6_1)).f2)) ∧ w'.cell? ⟨(ad287.add (((rd t280 x6_1)).toNat * 7)).block, (ad287.add (((rd t280 x6_1)).toNat * 7)).off + 3, none⟩ = some (.int .i64 ((rd_T99 l0_0 (rd t280 x6_1)).f3)) ∧ w'.cell? ⟨(ad287.add (((rd t280 x6_1)).toNat * 7)).block, (ad287.add (((rd t280 x6_1)).toNat * 7)).off + 4, none⟩ = some (.int .i64 ((rd_T99 l0_0 (rd t280 x6_1)).f4)) ∧ w'.cell? ⟨(ad287.add (((rd t280 x6_1)).toNat * 7)).block, (ad287.add (((rd t280 x6_1)).toNat * 7)).off + 5, none⟩ = some (.int .i64 ((rd_T99 l0_0 (rd t280 x6_1)).f5)) ∧ w'.cell? ⟨(ad287.add (((rd t280 x6_1)).toNat * 7)).block, (ad287.add (((rd t280 x6_1)).toNat * 7)).off + 6, none⟩ = some (.int .i64 ((rd_T99 l0_0 (rd t280 x6_1)).f6)) ∧ w'.cell? (ad288.add (x6_1).toNat) = some (.int .i64 (rd t283 x6_1))) (ds := [15, 16]) (ba_ 18 0) (by kernel_rfl) rfl rfl ⟨(blk_cell BK275.out 0).trans rfl, hx286_0, ((HB.out.cell (World.block_lt_of_cell? w _ hw287_0)).trans hw287_0), ((HB.out.cell (World.block_lt_of_cell? w _ hw287_1)).trans hw287_1), ((HB.out.cell (World.block_lt_of_cell? w _ hw287_2)).trans hw287_2), ((HB.out.cell (World.block_lt_of_cell? w _ hw287_3)).trans hw287_3), ((HB.out.cell (World.block_lt_of_cell? w _ hw287_4)).trans hw287_4), ((HB.out.cell (World.block_lt_of_cell? w _ hw287_5)).trans hw287_5), ((HB.out.cell (World.block_lt_of_cell? w _ hw287_6)).trans hw287_6), hx288_0⟩ (fun hHeld => ?_); refine with_tabW spec_DomTree.tab8 spec_DomTree.bits8 (fun HT_ HW_ => ?_)
          generalize wr.drew = w19 at HO_3 HO_4 HO_5 BK275 HB hx286_0 hx287_0 hx287_1 hx287_2 hx287_3 hx287_4 hx287_5 hx287_6 hx288_0 hHeld ⊢
          refine pu_ 0 (some 23) (ba_ 18 1) rfl rfl (any_of HT_.out (by kernel_rfl)) ?_
          refine pu_ 1 (some 24) (ba_ 18 3) rfl rfl (any_of HT_.out (by kernel_rfl)) ?_
          refine pu_ 3 (some 26) (ba_ 18 11) rfl rfl (any_of HT_.out (by kernel_rfl)) ?_
          refine pu_ 4 (some 27) (ba_ 18 27) rfl rfl (any_of HT_.out (by kernel_rfl)) ?_
          refine pu_ 5 (some 28) (ba_ 18 59) rfl rfl (any_of HT_.out (by kernel_rfl)) ?_
          refine pu_ 10 (some 33) (ba_ 18 1083) rfl rfl (any_of HT_.out (by kernel_rfl)) ?_
          refine pu_ 11 (some 34) (ba_ 18 3131) rfl rfl (any_of HT_.out (by kernel_rfl)) ?_
          refine pu_ 12 (some 35) (ba_ 18 7227) rfl rfl (any_of HT_.out (by kernel_rfl)) ?_
          refine ta_ 2 (some 25) (ba_ 18 7231) rfl rfl (take_ofW HT_.out HW_.out (by kernel_rfl)) hHeld (by rintro w' ⟨s0, s1, s2, s3, s4, s5, s6, s7, s8, s9⟩; go_simp; with_reducible rfl) ?_
          refine ta_ 6 (some 29) (ba_ 18 7295) rfl rfl (take_ofW HT_.out HW_.out (by kernel_rfl)) hHeld (by rintro w' ⟨s0, s1, s2, s3, s4, s5, s6, s7, s8, s9⟩; go_simp; with_reducible rfl) ?_
          refine pu_ 7 (some 30) (ba_ 18 7423) rfl rfl (any_of HT_.out (by kernel_rfl)) ?_
          refine pu_ 8 (some 31) (ba_ 18 7679) rfl rfl (any_of HT_.out (by kernel_rfl)) ?_
          refine ta_ 9 (some 32) (ba_ 18 8191) rfl rfl (take_ofW HT_.out HW_.out (by kernel_rfl)) hHeld (by rintro w' ⟨s0, s1, s2, s3, s4, s5, s6, s7, s8, s9⟩; go_simp; with_reducible rfl) ?_
          refine ta_ 13 (some 36) (ba_ 18 16383) rfl rfl (take_ofW HT_.out HW_.out (by kernel_rfl)) hHeld (by rintro w' ⟨s0, s1, s2, s3, s4, s5, s6, s7, s8, s9⟩; go_simp; with_reducible rfl) ?_
          refine pu_ 14 (some 37) (ba_ 18 32767) rfl rfl (any_of HT_.out (by kernel_rfl)) ?_
          refine last_ (i := 15) (N := some 38) (ba_ 18 65535) rfl rfl (one_of HT_.out (by kernel_rfl)) (by decide) (fun K hK => ?_)
          refine value_ (w1 := ?_) (v := ?_) (by rfl) rfl ?_ ?_
          rotate_left 2
          ·go_simp
           constructor
           ·rfl
           ·rfl
          refine hK.out _ _ ?_
          clear hK K
          refine norm_ (a' := ?_) ?_ ?_
          rotate_left
          ·show Act.put _ (some 38) _ = _
           simp only [Act.put, List.setIfInBounds_toArray, List.set_cons_zero, List.set_cons_succ, i64_w, i32_w]
           rfl
          refine last_ (i := 16) (N := some 39) (ba_ 18 131071) rfl rfl (one_of HT_.out (by kernel_rfl)) (by decide) (fun K hK => ?_)
          refine Kd.R_append_step k90 (w0 := w) w.heap.size (by rfl) (.tmp 23) (.tmp 38) 34 90 (.agg #[(.int .i64 0), (.int .i64 0)]) 16 rfl Try.underlying34 info90 rfl (by decide) (by omega) u3 x3_1 (⟨(rd_T99 l0_0 (rd t280 x6_1)).f1, rd t283 x6_1⟩ : S90) [.int .i64 ((rd_T99 l0_0 (rd t280 x6_1)).f1), .int .i64 (rd t283 x6_1)] (fun _ => True) (fun _ => False) rfl rfl ?aP (fun _ hk => hk.elim) ?aF ?aO ?aB ?aS ?aL ?_
          (case aP => exact k90_mkM _ _ _ (⟨(rd_T99 l0_0 (rd t280 x6_1)).f1, rd t283 x6_1⟩ : S90))
          (case aB => exact (by repeat (first | (with_reducible first | exact HB.out | apply below_alloc | apply pw_below_drewN | apply below_drew1 | refine below_set ?_ GE275.out) | exact HB.out)))
          (case aF => exact (fun _ _ => trivial))
          (case aO => exact (by (with_reducible repeat (first | apply Kd.R_alloc | apply Kd.R_drewN | apply Kd.R_drew)); exact HO_3.out))
          (case aS => exact (below_size (by repeat (first | (with_reducible first | exact HB.out | apply below_alloc | apply pw_below_drewN | apply below_drew1 | refine below_set ?_ GE275.out) | exact HB.out))))
          (case aL => have := LMc17.out; omega)
          intro v290 w21 ho hb hg hat
          rw [← Ny289.out] at ho
          have n0_ := Aside0.mk (Kd.R_over' (by (with_reducible repeat (first | apply Kd.R_alloc | apply Kd.R_drewN | apply Kd.R_drew)); exact HO_4.out) (Kd.R_typed (by (with_reducible repeat (first | apply Kd.R_alloc | apply Kd.R_drewN | apply Kd.R_drew)); exact HO_3.out)) (by decide) hg)
          have n1_ := Aside0.mk (Kd.R_over' (by (with_reducible repeat (first | apply Kd.R_alloc | apply Kd.R_drewN | apply Kd.R_drew)); exact HO_5.out) (Kd.R_typed (by (with_reducible repeat (first | apply Kd.R_alloc | apply Kd.R_drewN | apply Kd.R_drew)); exact HO_3.out)) (by decide) hg)
          have n2_ := Aside0.mk (blk_grown (g := gb275) (o := .cells #[.slice (some ad287) l0_0.length c0_0] 29 (0, 0)) (by (with_reducible repeat (first | refine blk_drewN ?_ _ | refine blk_drew ?_ | refine blk_alloc ?_ _)); exact BK275.out) hg (Kd.R_ne HO_3.out BK275.out (by decide)))
          have n3_ := Aside0.mk (hb)
          have n4_ := Aside0.mk (ho)
          clear HO_4
          clear HO_5
          clear BK275
          clear HB
          clear HO_3
          have HO_4 := n0_
          have HO_5 := n1_
          have BK275 := n2_
          have HB := n3_
          have HO291 := n4_
          clear n0_ n1_ n2_ n3_ n4_
          clear ho hb hg hat
          refine hK.out _ _ ?_
          clear hK K
          refine norm_ (a' := ?_) ?_ ?_
          rotate_left
          ·show Act.put _ (some 39) _ = _
           simp only [Act.put, List.setIfInBounds_toArray, List.set_cons_zero, List.set_cons_succ, i64_w, i32_w]
           rfl
          refine pu_ 17 (some 3) (ba_ 18 262143) rfl rfl (any_of HT_.out (by kernel_rfl)) ?_
          refine done_ (done_of HT_.out (by kernel_rfl)) ?_
          try go_wp2
          go_roundg k1
          case measure => have := HK1.out; omega
          case rel => exact ⟨(y289), (wrap64 (x6_1 + 1)), (by first | rfl | (simp; done) | (simp [*]; done)), H', ⟨by have := HK1.out; omega⟩, ⟨by (with_reducible repeat (first | apply Kd.R_alloc | apply Kd.R_drewN | apply Kd.R_drew)); exact HO291.out⟩, ⟨by (with_reducible repeat (first | apply Kd.R_alloc | apply Kd.R_drewN | apply Kd.R_drew)); exact HO_4.out⟩, ⟨by (with_reducible repeat (first | apply Kd.R_alloc | apply Kd.R_drewN | apply Kd.R_drew)); exact HO_5.out⟩, ⟨by (with_reducible repeat (first | refine blk_drewN ?_ _ | refine blk_drew ?_ | refine blk_alloc ?_ _)); exact BK275.out⟩, ⟨by repeat (first | (with_reducible first | exact HB.out | apply below_alloc | apply pw_below_drewN | apply below_drew1 | refine below_set ?_ GE275.out) | exact HB.out)⟩⟩
         ·rw [if_neg c17] at H
          exact absurd H (by simp)
        ·rw [if_neg c16] at H
         exact absurd H (by simp)
       ·rw [if_neg c15] at H
        exact absurd H (by simp)
      ·rw [if_neg c14] at H
       exact absurd H (by simp)
     ·rw [if_neg c13] at H
      exact absurd H (by simp)
    ·rw [if_neg c12] at H
     have c12b0 : decide (x6_1 < (t280.length : Int)) = false := decide_eq_false c12
     clear c12
     obtain rfl := Option.some.inj H
     obtain ⟨Ao22, co22, eo22⟩ := Kd.R_slice HO_4.out
     subst eo22
     go_wp2
     go_ret
     exact ⟨_, by first | rfl | (simp [errW_none, errW_some] <;> rfl) | (simp [*, errW_none, errW_some] <;> rfl), by (with_reducible repeat (first | apply Kd.R_alloc | apply Kd.R_drewN | apply Kd.R_drew)); exact HO_3.out, by repeat (first | (with_reducible first | exact HB.out | apply below_alloc | apply pw_below_drewN | apply below_drew1 | refine below_set ?_ GE275.out) | exact HB.out)⟩
 ·replace c3 := Bool.eq_false_iff.mpr c3
  subst c3
  have H1 : (some y276) = some r := by rw [if_neg (show ¬ (false = true) by decide)] at H; exact H
  clear H
  have H := H1
  clear H1
  obtain rfl := Option.some.inj H
  go_enter Try.func21, Try.ntmps21
  go_wp2_with (first | ((with_reducible refine gate_dst (N := 1) rfl ?_); refine box_event ?hg (N := 1) ?hd (cs := #[.slice A0_0 l0_0.length c0_0]) (t := 29) ?hr ?_; (case hd => rfl); (case hg => rfl); (case hr => first | (go_simp; done) | (go_simp; rfl)); intro gb275 hg w23 hbox hb; have n0_ := Aside0.mk (below_step (by repeat (first | (with_reducible first | exact HB.out | apply below_alloc | apply pw_below_drewN | apply below_drew1) | exact HB.out)) hb); have n1_ := Aside0.mk (hbox); have n2_ := Aside0.mk ((by rw [hg]; exact (below_size (by repeat (first | (with_reducible first | exact HB.out | apply below_alloc | apply pw_below_drewN | apply below_drew1) | exact HB.out))) : w.heap.size ≤ gb275)); have n3_ := Aside0.mk ((by rw [hg]; exact (below_size (by repeat (first | (with_reducible first | exact HB.out | apply below_alloc | apply pw_below_drewN | apply below_drew1) | exact HB.out))) : w.heap.size ≤ gb275)); clear HB; have HB := n0_; have BK275 := n1_; have GW275 := n2_; have GE275 := n3_; clear n0_ n1_ n2_ n3_; clear hb hbox hg) | ((with_reducible refine gate_dst (N := 7) rfl ?_); refine Kd.R_lit k90 _ 90 ?hg (N := 7) ?hd (xs := ([] : List (S90))) (inner := []) (ok := fun _ => True) (okp := fun _ => True) ?hr ?hp (fun _ hk => hk) trivial (Below.refl _ _) (Nat.le_refl _) (by simp) ?_; (case hd => rfl); (case hg => rfl); (case hr => first | (go_simp; done) | (go_simp; rfl)); (case hp => exact (Reps.none _ _)); intro v277 w24 ho25 hb hg_ hnew_; clear hg_ hnew_; (first | rw [← Ny276.out] at ho25 | (simp only [Int.reduceToNat] at ho25; rw [← Ny276.out] at ho25)); have n0_ := Aside0.mk (Kd.R_lower ho25 (below_size (by repeat (first | (with_reducible first | exact HB.out | apply below_alloc | apply pw_below_drewN | apply below_drew1 | refine below_set ?_ GE275.out) | exact HB.out)))); have n1_ := Aside0.mk (blk_below (g := gb275) (o := .cells #[.slice A0_0 l0_0.length c0_0] 29 (0, 0)) (by (with_reducible repeat (first | refine blk_drewN ?_ _ | refine blk_drew ?_ | refine blk_alloc ?_ _)); exact BK275.out) hb); have n2_ := Aside0.mk (below_step (by repeat (first | (with_reducible first | exact HB.out | apply below_alloc | apply pw_below_drewN | apply below_drew1 | refine below_set ?_ GE275.out) | exact HB.out)) hb); clear BK275; clear HB; have HO278 := n0_; have BK275 := n1_; have HB := n2_; clear n0_ n1_ n2_; clear hb ho25; have hcz26_0 : w24.cell? ⟨gb275, 0, none⟩ = some (.slice A0_0 l0_0.length c0_0) := (blk_cell BK275.out 0).trans rfl; have hfz26_0 := blk_frozen BK275.out 0) | ((with_reducible refine gate_callee (f := 15) rfl ?_); refine goesL_ (some 9) rfl rfl Try.func15 (by kernel_rfl) rfl #[.agg #[.slice A0_0 l0_0.length c0_0]] rfl (by (try simp only [List.map_toArray, List.map_cons, List.map_nil]); first | done | rfl | (simp only [List.length_drop, List.length_take]; rfl)) ?_; (with_reducible refine (spec_DomOk.calls k _ _ l0_0 false _ ?side1 ?side2 A2.out).mono ?_); (case side1 => repeat (first | exact (Kd.C_below HR0_0.out HB.out) | (with_reducible refine Kd.C_alloc ?_ _) | (with_reducible refine Kd.C_drewN ?_ _) | (with_reducible refine Kd.C_drew ?_))); (case side2 => exact HC0_0.out); rintro e w27 ⟨rfl, hb⟩; refine ⟨_, rfl, ?_⟩; have n0_ := Aside0.mk (Kd.R_below (by (with_reducible repeat (first | apply Kd.R_alloc | apply Kd.R_drewN | apply Kd.R_drew)); exact HO278.out) hb); have n1_ := Aside0.mk (blk_below (g := gb275) (o := .cells #[.slice A0_0 l0_0.length c0_0] 29 (0, 0)) (by (with_reducible repeat (first | refine blk_drewN ?_ _ | refine blk_drew ?_ | refine blk_alloc ?_ _)); exact BK275.out) hb); have n2_ := Aside0.mk (below_step (by repeat (first | (with_reducible first | exact HB.out | apply below_alloc | apply pw_below_drewN | apply below_drew1 | refine below_set ?_ GE275.out) | exact HB.out)) hb); clear HO278; clear BK275; clear HB; have HO278 := n0_; have BK275 := n1_; have HB := n2_; clear n0_ n1_ n2_; (try clear hb); (try clear hb2); (try clear hk); (try clear hi)))
  go_ret
  exact ⟨_, by first | rfl | (simp [errW_none, errW_some] <;> rfl) | (simp [*, errW_none, errW_some] <;> rfl), by (with_reducible repeat (first | apply Kd.R_alloc | apply Kd.R_drewN | apply Kd.R_drew)); exact HO278.out, by repeat (first | (with_reducible first | exact HB.out | apply below_alloc | apply pw_below_drewN | apply below_drew1 | refine below_set ?_ GE275.out) | exact HB.out)⟩
end Go.Proofs.Ytbifdckfglejkaa.X
namespace Go.Proofs.Ytbifdckfglejkaa.X
open Go.RowKit Go.Proofs.YtbifdckfglejkaaW.PrintWords Go.Proofs.YtbifdckfglejkaaW.PrintLast Go.Proofs.YtbifdckfglejkaaW.PrintMore
attribute [local go_sem] max2_int min2_int max_two min_two max_three min_three max_four min_four   -- for this text's walks alone
set_option linter.unusedVariables false
set_option linter.unusedSimpArgs false
def spec_DomSize.f (k : Nat) (l0_0 : List (S99)) : Option (Int) := (spec_DomTree.f k l0_0).bind fun t293 => (some (t293.length : Int))
set_option maxHeartbeats 8000000 in
set_option maxRecDepth 100000 in
theorem spec_DomSize.calls (k : Nat) (A0_0 : Option Addr) (c0_0 : Nat) (l0_0 : List (S99)) (r : Int) (w : World) (hr0_0 : Kd.C k99 w A0_0 l0_0.length l0_0) (hc0_0 : l0_0.length ≤ c0_0) (h : spec_DomSize.f k l0_0 = some r) :
  Calls Try.prog 19 #[.agg #[.slice A0_0 l0_0.length c0_0]] w fun e w' => e = .returned (.int .i64 r) ∧ Below w.heap.size w w' := by
 have hu29 := Try.underlying29
 have HR0_0 := Aside0.mk hr0_0
 have HC0_0 := Aside0.mk hc0_0
 clear hr0_0 hc0_0
 have HB := Aside0.mk (Below.refl w.heap.size w)
 have H : ((spec_DomTree.f k l0_0).bind fun t293 => (some (t293.length : Int))) = some r := h
 clear h
 replace H := Option.bind_eq_some_iff.mp H
 obtain ⟨t293, A20, H⟩ := H
 replace H : (some (t293.length : Int)) = some r := H
 have A2 := Aside0.mk A20
 clear A20
 obtain rfl := Option.some.inj H
 go_enter Try.func19, Try.ntmps19
 go_wp2_with (first | ((with_reducible refine gate_dst (N := 1) rfl ?_); refine box_event ?hg (N := 1) ?hd (cs := #[.slice A0_0 l0_0.length c0_0]) (t := 29) ?hr ?_; (case hd => rfl); (case hg => rfl); (case hr => first | (go_simp; done) | (go_simp; rfl)); intro gb292 hg w3 hbox hb; have n0_ := Aside0.mk (below_step (by repeat (first | (with_reducible first | exact HB.out | apply below_alloc | apply pw_below_drewN | apply below_drew1) | exact HB.out)) hb); have n1_ := Aside0.mk (hbox); have n2_ := Aside0.mk ((by rw [hg]; exact (below_size (by repeat (first | (with_reducible first | exact HB.out | apply below_alloc | apply pw_below_drewN | apply below_drew1) | exact HB.out))) : w.heap.size ≤ gb292)); have n3_ := Aside0.mk ((by rw [hg]; exact (below_size (by repeat (first | (with_reducible first | exact HB.out | apply below_alloc | apply pw_below_drewN | apply below_drew1) | exact HB.out))) : w.heap.size ≤ gb292)); clear HB; have HB := n0_; have BK292 := n1_; have GW292 := n2_; have GE292 := n3_; clear n0_ n1_ n2_ n3_; clear hb hbox hg; have hcz4_0 : w3.cell? ⟨gb292, 0, none⟩ = some (.slice A0_0 l0_0.length c0_0) := (blk_cell BK292.out 0).trans rfl; have hfz4_0 := blk_frozen BK292.out 0) | ((with_reducible refine gate_callee (f := 21) rfl ?_); refine goesL_ (some 4) rfl rfl Try.func21 (by kernel_rfl) rfl #[.agg #[.slice A0_0 l0_0.length c0_0]] rfl (by (try simp only [List.map_toArray, List.map_cons, List.map_nil]); first | done | rfl | (simp only [List.length_drop, List.length_take]; rfl)) ?_; (with_reducible refine (spec_DomTree.calls k _ _ l0_0 t293 _ ?side1 ?side2 A2.out).mono ?_); (case side1 => repeat (first | exact (Kd.C_below HR0_0.out HB.out) | (with_reducible refine Kd.C_alloc ?_ _) | (with_reducible refine Kd.C_drewN ?_ _) | (with_reducible refine Kd.C_drew ?_))); (case side2 => exact HC0_0.out); rintro e w5 ⟨v294, rfl, ho0, hb⟩; refine ⟨_, rfl, ?_⟩; have n0_ := Aside0.mk (Kd.R_lower ho0 (below_size (by repeat (first | (with_reducible first | exact HB.out | apply below_alloc | apply pw_below_drewN | apply below_drew1 | refine below_set ?_ GE292.out) | exact HB.out)))); have n1_ := Aside0.mk (blk_below (g := gb292) (o := .cells #[.slice A0_0 l0_0.length c0_0] 29 (0, 0)) (by (with_reducible repeat (first | refine blk_drewN ?_ _ | refine blk_drew ?_ | refine blk_alloc ?_ _)); exact BK292.out) hb); have n2_ := Aside0.mk (below_step (by repeat (first | (with_reducible first | exact HB.out | apply below_alloc | apply pw_below_drewN | apply below_drew1 | refine below_set ?_ GE292.out) | exact HB.out)) hb); clear BK292; clear HB; have HO295 := n0_; have BK292 := n1_; have HB := n2_; clear n0_ n1_ n2_; (try clear hb); (try clear hb2); (try clear hk); (try clear hi); (try clear ho0); obtain ⟨Ao6, co6, eo6⟩ := Kd.R_slice HO295.out; subst eo6))
 go_ret
 exact ⟨by first | rfl | (simp [errW_none, errW_some] <;> rfl) | (simp [*, errW_none, errW_some] <;> rfl), by repeat (first | (with_reducible first | exact HB.out | apply below_alloc | apply pw_below_drewN | apply below_drew1 | refine below_set ?_ GE292.out) | exact HB.out)⟩
end Go.Proofs.Ytbifdckfglejkaa.X
namespace Go.Proofs.Ytbifdckfglejkaa.X
open Go.RowKit Go.Proofs.YtbifdckfglejkaaW.PrintWords Go.Proofs.YtbifdckfglejkaaW.PrintLast Go.Proofs.YtbifdckfglejkaaW.PrintMore
attribute [local go_sem] max2_int min2_int max_two min_two max_three min_three max_four min_four   -- for this text's walks alone
set_option linter.unusedVariables false
set_option linter.unusedSimpArgs false
def impl_within.f (a0 : Int) (a1 : Int) (a2 : Int) : Option (Bool) := if a1 ≤ a0 then (some (decide (a0 ≤ a2))) else (some false)
set_option maxHeartbeats 8000000 in
set_option maxRecDepth 100000 in
theorem impl_within.calls (a0 : Int) (a1 : Int) (a2 : Int) (r : Bool) (w : World) (h : impl_within.f a0 a1 a2 = some r) :
  Calls Try.prog 117 #[.int .i64 a0, .int .i64 a1, .int .i64 a2] w fun e w' => e = .returned (.bool r) ∧ Drawn0 w w' := by
 have H : (if a1 ≤ a0 then (some (decide (a0 ≤ a2))) else (some false)) = some r := h
 clear h
 by_cases c4 : a1 ≤ a0
 ·rw [if_pos c4] at H
  have c4b0 : decide (a1 ≤ a0) = true := decide_eq_true c4
  clear c4
  obtain rfl := Option.some.inj H
  go_enter Try.func117, Try.ntmps117
  go_wp2
  go_ret
  exact ⟨by first | rfl | (simp; done) | (simp [*]; done), by repeat (first | exact Drawn0.refl _ | apply Drawn0.step)⟩
 ·rw [if_neg c4] at H
  have c4b0 : decide (a1 ≤ a0) = false := decide_eq_false c4
  clear c4
  obtain rfl := Option.some.inj H
  go_enter Try.func117, Try.ntmps117
  go_wp2
  go_ret
  exact ⟨by first | rfl | (simp; done) | (simp [*]; done), by repeat (first | exact Drawn0.refl _ | apply Drawn0.step)⟩
end Go.Proofs.Ytbifdckfglejkaa.X
namespace Go.Proofs.Ytbifdckfglejkaa.X
open Go.RowKit Go.Proofs.YtbifdckfglejkaaW.PrintWords Go.Proofs.YtbifdckfglejkaaW.PrintLast Go.Proofs.YtbifdckfglejkaaW.PrintMore
attribute [local go_sem] max2_int min2_int max_two min_two max_three min_three max_four min_four   -- for this text's walks alone
set_option linter.unusedVariables false
set_option linter.unusedSimpArgs false
def slices_Index_int_int.l0 : Nat → List Int → Int → Int → Int → Option (Int)
 | 0, _, _, _, _ => none
 | k + 1, x0, x1, x7, x8 => if x8 < x7 then (if 0 ≤ x8 then (if x8 < (x0.length : Int) then (if x1 = (rd x0 x8) then (some x8) else (slices_Index_int_int.l0 k x0 x1 x7 (wrap64 (x8 + 1)))) else (none)) else (none)) else (some (-1))
def slices_Index_int_int.f (k : Nat) (l0 : List Int) (a1 : Int) : Option (Int) := slices_Index_int_int.l0 k l0 a1 (l0.length : Int) 0
set_option maxHeartbeats 8000000 in
set_option maxRecDepth 100000 in
theorem slices_Index_int_int.calls (k : Nat) (A0 : Option Addr) (c0 : Nat) (l0 : List Int) (a1 : Int) (r : Int) (w : World) (hr0 : Kd.C (Kd.int .i64) w A0 l0.length l0) (hc0 : l0.length ≤ c0) (h : slices_Index_int_int.f k l0 a1 = some r) :
  Calls Try.prog 141 #[.slice A0 l0.length c0, .int .i64 a1] w fun e w' => e = .returned (.int .i64 r) ∧ Drawn0 w w' := by
 have HR0 := Aside0.mk hr0
 have HC0 := Aside0.mk hc0
 clear hr0 hc0
 have H : (slices_Index_int_int.l0 k l0 a1 (l0.length : Int) 0) = some r := h
 clear h
 have H' := Aside0.mk H
 clear H
 go_enter Try.func141, Try.ntmps141
 go_wp2
 go_loopg [8] k (fun kq v8 w' => ∃ (x8_1 : Int), v8 = .int .i64 x8_1 ∧ Aside0 (slices_Index_int_int.l0 kq l0 a1 (l0.length : Int) x8_1 = some r) ∧ Aside0 (kq ≤ k) ∧ Drawn0 w w')
 case atStart => exact ⟨(0), (by first | rfl | (simp; done) | (simp [*]; done)), H', ⟨Nat.le_refl _⟩, by repeat (first | exact Drawn0.refl _ | apply Drawn0.step)⟩
 case round =>
  clear H'
  try clear c1
  try clear p2
  obtain ⟨x8_1, rfl, HA, HK1, ⟨m1, rfl⟩⟩ := hrel
  cases gk with
  | zero => exact absurd HA.out (by simp [slices_Index_int_int.l0])
  | succ k1 =>
   have H := HA.out
   clear HA
   simp only [slices_Index_int_int.l0] at H
   by_cases c3 : x8_1 < (l0.length : Int)
   ·rw [if_pos c3] at H
    have c3b0 : decide (x8_1 < (l0.length : Int)) = true := decide_eq_true c3
    clear c3
    by_cases c4 : 0 ≤ x8_1
    ·rw [if_pos c4] at H
     have c4b0 : decide (0 ≤ x8_1) = true := decide_eq_true c4
     clear c4
     by_cases c5 : x8_1 < (l0.length : Int)
     ·rw [if_pos c5] at H
      have c5b0 : decide (x8_1 < (l0.length : Int)) = true := decide_eq_true c5
      clear c5
      by_cases c6 : a1 = (rd l0 x8_1)
      ·rw [if_pos c6] at H
       have c6b0 : (a1 == (rd l0 x8_1)) = true := beq_iff_eq.mpr c6
       have c6b1 : (a1 != (rd l0 x8_1)) = false := bne_eq_false_iff_eq.mpr c6
       clear c6
       obtain rfl := Option.some.inj H
       have p197 : 0 ≤ (x8_1 : Int) := of_decide_eq_true (by first | (with_reducible assumption) | assumption)
       have q197 : x8_1 < (l0.length : Int) := of_decide_eq_true (by first | (with_reducible assumption) | assumption)
       obtain ⟨ad197, e197, hx197_0⟩ := Kd.at_int HR0.out x8_1 p197 q197
       cases e197
       replace p197 := eq_true p197
       replace q197 := eq_true q197
       go_wp2
       go_ret
       exact ⟨by first | rfl | (simp; done) | (simp [*]; done), by repeat (first | exact Drawn0.refl _ | apply Drawn0.step)⟩
      ·rw [if_neg c6] at H
       have c6b0 : (a1 == (rd l0 x8_1)) = false := beq_eq_false_iff_ne.mpr c6
       have c6b1 : (a1 != (rd l0 x8_1)) = true := bne_iff_ne.mpr c6
       have H' := Aside0.mk H
       clear H
       have p197 : 0 ≤ (x8_1 : Int) := of_decide_eq_true (by first | (with_reducible assumption) | assumption)
       have q197 : x8_1 < (l0.length : Int) := of_decide_eq_true (by first | (with_reducible assumption) | assumption)
       obtain ⟨ad197, e197, hx197_0⟩ := Kd.at_int HR0.out x8_1 p197 q197
       cases e197
       replace p197 := eq_true p197
       replace q197 := eq_true q197
       go_wp2
       go_roundg k1
       case measure => have := HK1.out; omega
       case rel => exact ⟨(wrap64 (x8_1 + 1)), (by first | rfl | (simp; done) | (simp [*]; done)), H', ⟨by have := HK1.out; omega⟩, by repeat (first | exact Drawn0.refl _ | apply Drawn0.step)⟩
     ·rw [if_neg c5] at H
      exact absurd H (by simp)
    ·rw [if_neg c4] at H
     exact absurd H (by simp)
   ·rw [if_neg c3] at H
    have c3b0 : decide (x8_1 < (l0.length : Int)) = false := decide_eq_false c3
    clear c3
    obtain rfl := Option.some.inj H
    go_wp2
    go_ret
    exact ⟨by first | rfl | (simp; done) | (simp [*]; done), by repeat (first | exact Drawn0.refl _ | apply Drawn0.step)⟩
end Go.Proofs.Ytbifdckfglejkaa.X
namespace Go.Proofs.Ytbifdckfglejkaa.X
open Go.RowKit Go.Proofs.YtbifdckfglejkaaW.PrintWords Go.Proofs.YtbifdckfglejkaaW.PrintLast Go.Proofs.YtbifdckfglejkaaW.PrintMore
attribute [local go_sem] max2_int min2_int max_two min_two max_three min_three max_four min_four   -- for this text's walks alone
set_option linter.unusedVariables false
set_option linter.unusedSimpArgs false
def slices_Contains_int_int.f (k : Nat) (l0 : List Int) (a1 : Int) : Option (Bool) := (slices_Index_int_int.f k l0 a1).bind fun t198 => (some (decide (t198 ≥ 0)))
set_option maxHeartbeats 8000000 in
set_option maxRecDepth 100000 in
theorem slices_Contains_int_int.calls (k : Nat) (A0 : Option Addr) (c0 : Nat) (l0 : List Int) (a1 : Int) (r : Bool) (w : World) (hr0 : Kd.C (Kd.int .i64) w A0 l0.length l0) (hc0 : l0.length ≤ c0) (h : slices_Contains_int_int.f k l0 a1 = some r) :
  Calls Try.prog 119 #[.slice A0 l0.length c0, .int .i64 a1] w fun e w' => e = .returned (.bool r) ∧ Drawn0 w w' := by
 have HR0 := Aside0.mk hr0
 have HC0 := Aside0.mk hc0
 clear hr0 hc0
 have H : ((slices_Index_int_int.f k l0 a1).bind fun t198 => (some (decide (t198 ≥ 0)))) = some r := h
 clear h
 replace H := Option.bind_eq_some_iff.mp H
 obtain ⟨t198, A30, H⟩ := H
 replace H : (some (decide (t198 ≥ 0))) = some r := H
 have A3 := Aside0.mk A30
 clear A30
 obtain rfl := Option.some.inj H
 go_enter Try.func119, Try.ntmps119
 go_wp2_with (first | ((with_reducible refine gate_callee (f := 141) rfl ?_); refine goesL_ (some 7) rfl rfl Try.func141 (by kernel_rfl) rfl #[.slice A0 l0.length c0, .int .i64 a1] rfl (by (try simp only [List.map_toArray, List.map_cons, List.map_nil]); first | done | rfl | (simp only [List.length_drop, List.length_take]; rfl)) ?_; (with_reducible refine (slices_Index_int_int.calls k _ _ l0 a1 t198 _ ?side1 ?side2 A3.out).mono ?_); (case side1 => repeat (first | exact HR0.out | (with_reducible refine Kd.C_alloc ?_ _) | (with_reducible refine Kd.C_drewN ?_ _) | (with_reducible refine Kd.C_drew ?_))); (case side2 => exact HC0.out); rintro e w' ⟨rfl, ⟨nd, rfl⟩⟩; refine ⟨_, rfl, ?_⟩))
 go_ret
 exact ⟨by first | rfl | (simp; done) | (simp [*]; done), by repeat (first | exact Drawn0.refl _ | apply Drawn0.step)⟩
end Go.Proofs.Ytbifdckfglejkaa.X
namespace Go.Proofs.Ytbifdckfglejkaa.X
open Go.RowKit Go.Proofs.YtbifdckfglejkaaW.PrintWords Go.Proofs.YtbifdckfglejkaaW.PrintLast Go.Proofs.YtbifdckfglejkaaW.PrintMore
attribute [local go_sem] max2_int min2_int max_two min_two max_three min_three max_four min_four   -- for this text's walks alone
set_option linter.unusedVariables false
set_option linter.unusedSimpArgs false
def impl_LabelOk.f (a0 : Int) : Option (Bool) := (impl_within.f a0 0 5).bind fun t199 => (some t199)
set_option maxHeartbeats 8000000 in
set_option maxRecDepth 100000 in
theorem impl_LabelOk.calls (a0 : Int) (r : Bool) (w : World) (h : impl_LabelOk.f a0 = some r) :
  Calls Try.prog 128 #[.int .i64 a0] w fun e w' => e = .returned (.bool r) ∧ Drawn0 w w' := by
 have H : ((impl_within.f a0 0 5).bind fun t199 => (some t199)) = some r := h
 clear h
 replace H := Option.bind_eq_some_iff.mp H
 obtain ⟨t199, A20, H⟩ := H
 replace H : (some t199) = some r := H
 have A2 := Aside0.mk A20
 clear A20
 obtain rfl := Option.some.inj H
 go_enter Try.func128, Try.ntmps128
 go_wp2_with (first | ((with_reducible refine gate_callee (f := 117) rfl ?_); refine goesL_ (some 4) rfl rfl Try.func117 (by kernel_rfl) rfl #[.int .i64 a0, .int .i64 0, .int .i64 5] rfl (by (try simp only [List.map_toArray, List.map_cons, List.map_nil]); first | done | rfl | (simp only [List.length_drop, List.length_take]; rfl)) ?_; (with_reducible refine (impl_within.calls a0 0 5 t199 _ A2.out).mono ?_); rintro e w' ⟨rfl, ⟨nd, rfl⟩⟩; refine ⟨_, rfl, ?_⟩))
 go_ret
 exact ⟨by first | rfl | (simp; done) | (simp [*]; done), by repeat (first | exact Drawn0.refl _ | apply Drawn0.step)⟩
end Go.Proofs.Ytbifdckfglejkaa.X
