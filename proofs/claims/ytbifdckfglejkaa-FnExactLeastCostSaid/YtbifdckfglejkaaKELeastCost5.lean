/- Part 5 of the proof of FnExactLeastCost: what it needs. -/
import Derived.Test.YtbifdckfglejkaaKELeastCost3
import Derived.Test.YtbifdckfglejkaaKELeastCost4
namespace Go.Proofs.Ytbifdckfglejkaa.X
open Go.RowKit Go.Proofs.YtbifdckfglejkaaW.PrintWords Go.Proofs.YtbifdckfglejkaaW.PrintLast Go.Proofs.YtbifdckfglejkaaW.PrintMore
attribute [local go_sem] max2_int min2_int max_two min_two max_three min_three max_four min_four   -- for this text's walks alone
set_option linter.unusedVariables false
set_option linter.unusedSimpArgs false
mutual
def spec_l12More.l0 : Nat → List (S90) → List (S90) → List (S122) → Int → List (List (S122)) → Int → Option ((List (List (S122))))
 | 0, _, _, _, _, _, _ => none
 | k + 1, x0, x1, x2, x3, x9, x10 => if x10 < (x1.length : Int) then ((some (([] : List (S122)) : List (S122))).bind fun y677 => (if y677.length + x2.length < 8796093022208 then ((some (y677 ++ x2 : List (S122))).bind fun y680 => (if y680.length < 8796093022208 then ((some (y680 ++ [(⟨x3, x10⟩ : S122)] : List (S122))).bind fun y683 => ((spec_MapOk.f k x0 x1 y683).bind fun t686 => (if t686 = true then ((spec_l12More.f k x0 x1 y683 (wrap64 (x3 + 1))).bind fun t687 => (if x9.length + t687.length < 5864062014805 then (spec_l12More.l0 k x0 x1 x2 x3 (x9 ++ t687) (wrap64 (x10 + 1))) else (none))) else (spec_l12More.l0 k x0 x1 x2 x3 x9 (wrap64 (x10 + 1)))))) else (none))) else (none))) else (some x9)
def spec_l12More.f : Nat → List (S90) → List (S90) → List (S122) → Int → Option ((List (List (S122))))
 | 0, _, _, _, _ => none
 | k + 1, l0, l1, l2, a3 => if a3 = (l0.length : Int) then ((some (([] : List (S122)) : List (S122))).bind fun y665 => (if y665.length + l2.length < 8796093022208 then (some (([(y665 ++ l2)] : List (List (S122))))) else (none))) else ((spec_l12More.f k l0 l1 l2 (wrap64 (a3 + 1))).bind fun t674 => (spec_l12More.l0 k l0 l1 l2 a3 t674 1))
end
set_option maxHeartbeats 8000000 in
set_option maxRecDepth 100000 in
theorem spec_l12More.calls (k : Nat) : ∀ (A0 : Option Addr) (c0 : Nat) (l0 : List (S90)) (A1 : Option Addr) (c1 : Nat) (l1 : List (S90)) (A2 : Option Addr) (c2 : Nat) (l2 : List (S122)) (a3 : Int) (r : List (List (S122))) (w : World) (hr0 : Kd.C k90 w A0 l0.length l0) (hc0 : l0.length ≤ c0) (hr1 : Kd.C k90 w A1 l1.length l1) (hc1 : l1.length ≤ c1) (hr2 : Kd.C k122 w A2 l2.length l2) (hc2 : l2.length ≤ c2) (h : spec_l12More.f k l0 l1 l2 a3 = some r),
  Calls Try.prog 129 #[.slice A0 l0.length c0, .slice A1 l1.length c1, .slice A2 l2.length c2, .int .i64 a3] w fun e w' => ∃ v0_ : Value, e = .returned (v0_) ∧ Kd.N (Kd.slice 122 k122) 55 w' w.heap.size (fun k_ => (w.heap.size ≤ k_)) v0_ r ∧ Below w.heap.size w w' := by
 induction k using Nat.strongRecOn with
 | _ k ih =>
 intro A0 c0 l0 A1 c1 l1 A2 c2 l2 a3 r w hr0 hc0 hr1 hc1 hr2 hc2 h
 cases k with
 | zero => exact absurd h (by simp [spec_l12More.f])
 | succ k =>
 simp only [spec_l12More.f] at h
 have hu122 := Try.underlying122
 have HR0 := Aside0.mk hr0
 have HC0 := Aside0.mk hc0
 clear hr0 hc0
 have HR1 := Aside0.mk hr1
 have HC1 := Aside0.mk hc1
 clear hr1 hc1
 have HR2 := Aside0.mk hr2
 have HC2 := Aside0.mk hc2
 clear hr2 hc2
 have HB := Aside0.mk (Below.refl w.heap.size w)
 have H : (if a3 = (l0.length : Int) then ((some (([] : List (S122)) : List (S122))).bind fun y665 => (if y665.length + l2.length < 8796093022208 then (some (([(y665 ++ l2)] : List (List (S122))))) else (none))) else ((spec_l12More.f k l0 l1 l2 (wrap64 (a3 + 1))).bind fun t674 => (spec_l12More.l0 k l0 l1 l2 a3 t674 1))) = some r := h
 clear h
 by_cases c5 : a3 = (l0.length : Int)
 ·rw [if_pos c5] at H
  have c5b0 : (a3 == (l0.length : Int)) = true := beq_iff_eq.mpr c5
  have c5b1 : (a3 != (l0.length : Int)) = false := bne_eq_false_iff_eq.mpr c5
  clear c5
  obtain ⟨y665, hy665⟩ : ∃ y_ : List (S122), y_ = (([] : List (S122))) := ⟨_, rfl⟩
  replace H : (if y665.length + l2.length < 8796093022208 then (some (([(y665 ++ l2)] : List (List (S122))))) else (none)) = some r := by first | (rw [hy665]; with_reducible exact H) | (have H2_ := (Option.bind_some _ _).symm.trans H; rw [hy665]; with_reducible exact H2_) | (have H2_ := (Option.bind_some _ _).symm.trans H; with_reducible exact H2_) | with_reducible exact H | (rw [hy665]; exact H) | exact H
  have Ny665 := Aside0.mk hy665
  clear hy665
  by_cases c6 : y665.length + l2.length < 8796093022208
  ·rw [if_pos c6] at H
   have LMc6 := Aside0.mk c6
   clear c6
   obtain ⟨y668, hy668⟩ : ∃ y_ : List (S122), y_ = (y665 ++ l2) := ⟨_, rfl⟩
   replace H : (some (([y668] : List (List (S122))))) = some r := by first | (rw [hy668]; with_reducible exact H) | (have H2_ := (Option.bind_some _ _).symm.trans H; rw [hy668]; with_reducible exact H2_) | (have H2_ := (Option.bind_some _ _).symm.trans H; with_reducible exact H2_) | with_reducible exact H | (rw [hy668]; exact H) | exact H
   have Ny668 := Aside0.mk hy668
   clear hy668
   obtain ⟨y671, hy671⟩ : ∃ y_ : List (List (S122)), y_ = (([y668] : List (List (S122)))) := ⟨_, rfl⟩
   replace H : (some y671) = some r := by first | (rw [hy671]; with_reducible exact H) | (have H2_ := (Option.bind_some _ _).symm.trans H; rw [hy671]; with_reducible exact H2_) | (have H2_ := (Option.bind_some _ _).symm.trans H; with_reducible exact H2_) | with_reducible exact H | (rw [hy671]; exact H) | exact H
   have Ny671 := Aside0.mk hy671
   clear hy671
   obtain rfl := Option.some.inj H
   go_enter Try.func129, Try.ntmps129
   go_wp2_with (first | ((with_reducible refine gate_dst (N := 16) rfl ?_); refine Kd.R_lit k122 _ 122 ?hg (N := 16) ?hd (xs := ([] : List (S122))) (inner := []) (ok := fun _ => True) (okp := fun _ => True) ?hr ?hp (fun _ hk => hk) trivial (Below.refl _ _) (Nat.le_refl _) (by simp) ?_; (case hd => rfl); (case hg => rfl); (case hr => first | (go_simp; done) | (go_simp; rfl)); (case hp => exact (Reps.none _ _)); intro v666 w7 ho8 hb hg_ hnew_; clear hg_ hnew_; (first | rw [← Ny665.out] at ho8 | (simp only [Int.reduceToNat] at ho8; rw [← Ny665.out] at ho8)); have n0_ := Aside0.mk (Kd.R_lower (Kd.R_newM (M := fun k_ => (w.heap.size ≤ k_)) ho8 (below_size (by repeat (first | (with_reducible first | exact HB.out | apply below_alloc | apply pw_below_drewN | apply below_drew1) | exact HB.out))) (fun k_ h_ => h_)) (below_size (by repeat (first | (with_reducible first | exact HB.out | apply below_alloc | apply pw_below_drewN | apply below_drew1) | exact HB.out)))); have n1_ := Aside0.mk (below_step (by repeat (first | (with_reducible first | exact HB.out | apply below_alloc | apply pw_below_drewN | apply below_drew1) | exact HB.out)) hb); clear HB; have HO667 := n0_; have HB := n1_; clear n0_ n1_; clear hb ho8) | ((with_reducible refine gate_builtin (b := .append) (xs := #[.tmp 16, .tmp 17]) rfl ?_); at_builtin; refine Kd.R_append_rows k122 (w0 := w) w.heap.size rfl (.tmp 16) (.tmp 17) 55 122 (.agg #[(.int .i64 0), (.int .i64 0)]) 16 rfl Try.underlying55 info122 rfl (by decide) (by omega) v666 y665 l2 _ _ _ (fun k_ => (w.heap.size ≤ k_)) (fun _ => False) rfl rfl ?aO ?aR (fun _ _ h => h) (fun _ h => h.elim) ?aF ?aB ?aS ?aL ?_; (case aR => repeat (first | exact (Kd.C_below HR2.out HB.out) | (with_reducible refine Kd.C_alloc ?_ _) | (with_reducible refine Kd.C_drewN ?_ _) | (with_reducible refine Kd.C_drew ?_))); (case aB => exact (by repeat (first | (with_reducible first | exact HB.out | apply below_alloc | apply pw_below_drewN | apply below_drew1) | exact HB.out))); (case aF => exact (fun k_ hk => (Nat.le_trans (below_size (by repeat (first | (with_reducible first | exact HB.out | apply below_alloc | apply pw_below_drewN | apply below_drew1) | exact HB.out))) hk))); (case aO => exact (by (with_reducible repeat (first | apply Kd.R_alloc | apply Kd.R_drewN | apply Kd.R_drew)); exact Kd.R_mono HO667.out (fun _ hk => hk.1))); (case aS => exact (below_size (by repeat (first | (with_reducible first | exact HB.out | apply below_alloc | apply pw_below_drewN | apply below_drew1) | exact HB.out)))); (case aL => have := LMc6.out; omega); intro v669 w9 ho hb hg hat; rw [← Ny668.out] at ho; have n0_ := Aside0.mk (hb); have n1_ := Aside0.mk (ho); clear HB; clear HO667; have HB := n0_; have HO670 := n1_; clear n0_ n1_; clear ho hb hg hat; obtain ⟨Ao10, co10, eo10⟩ := Kd.R_slice HO670.out; subst eo10) | ((with_reducible refine gate_dst (N := 19) rfl ?_); refine Kd.N_lit (Kd.slice 122 k122) _ 55 ?hg (N' := 19) ?hd (xs := ([y668] : List (List (S122)))) (inner := [.slice Ao10 y668.length co10]) (ok := (fun k_ => (w.heap.size ≤ k_))) (okp := (fun k_ => (w.heap.size ≤ k_))) ?hr ?hp (fun _ hk => hk) ((show ∀ k_, w9.heap.size ≤ k_ → (fun k_ => (w.heap.size ≤ k_)) k_ from fun k_ hk => (Nat.le_trans (below_size (by repeat (first | (with_reducible first | exact HB.out | apply below_alloc | apply pw_below_drewN | apply below_drew1) | exact HB.out))) hk)) _ (Nat.le_refl _)) (Below.refl _ _) (Nat.le_refl _) (by simp) ?_; (case hd => rfl); (case hg => rfl); (case hr => first | (go_simp; done) | (go_simp; rfl)); (case hp => exact (Reps.one (show Kd.FK (Kd.slice 122 k122) _ _ y668 [.slice Ao10 y668.length co10] from (Kd.FK_slice_mk (Kd.R_reads' (Kd.R_mono (ok' := (fun k_ => (w.heap.size ≤ k_))) (HO670.out) (fun k_ hk => hk))).2.1 (Kd.R_F (Kd.R_mono (ok' := (fun k_ => (w.heap.size ≤ k_))) (HO670.out) (fun k_ hk => hk))))) (Reps.none _ _))); intro v672 w11 ho12 hb hg_ hnew_; clear hg_ hnew_; (first | rw [← Ny671.out] at ho12 | (simp only [Int.reduceToNat] at ho12; rw [← Ny671.out] at ho12)); have n0_ := Aside0.mk (Kd.N_lower ho12 (below_size (by repeat (first | (with_reducible first | exact HB.out | apply below_alloc | apply pw_below_drewN | apply below_drew1) | exact HB.out)))); have n1_ := Aside0.mk (below_step (by repeat (first | (with_reducible first | exact HB.out | apply below_alloc | apply pw_below_drewN | apply below_drew1) | exact HB.out)) hb); clear HB; clear HO670; have HO673 := n0_; have HB := n1_; clear n0_ n1_; clear hb ho12))
   go_ret
   exact ⟨_, by first | rfl | (simp [errW_none, errW_some] <;> rfl) | (simp [*, errW_none, errW_some] <;> rfl), by (with_reducible repeat (first | apply Kd.N_alloc | apply Kd.N_drewN | apply Kd.N_drew)); exact HO673.out, by repeat (first | (with_reducible first | exact HB.out | apply below_alloc | apply pw_below_drewN | apply below_drew1) | exact HB.out)⟩
  ·rw [if_neg c6] at H
   exact absurd H (by simp)
 ·rw [if_neg c5] at H
  have c5b0 : (a3 == (l0.length : Int)) = false := beq_eq_false_iff_ne.mpr c5
  have c5b1 : (a3 != (l0.length : Int)) = true := bne_iff_ne.mpr c5
  replace H := Option.bind_eq_some_iff.mp H
  obtain ⟨t674, A130, H⟩ := H
  replace H : (spec_l12More.l0 k l0 l1 l2 a3 t674 1) = some r := H
  have A13 := Aside0.mk A130
  clear A130
  have H' := Aside0.mk H
  clear H
  go_enter Try.func129, Try.ntmps129
  go_wp2_with (first | ((with_reducible refine gate_callee (f := 129) rfl ?_); refine goesL_ (some 25) rfl rfl Try.func129 (by kernel_rfl) rfl #[.slice A0 l0.length c0, .slice A1 l1.length c1, .slice A2 l2.length c2, .int .i64 (wrap64 (a3 + 1))] rfl (by (try simp only [List.map_toArray, List.map_cons, List.map_nil]); first | done | rfl | (simp only [List.length_drop, List.length_take]; rfl)) ?_; (with_reducible refine (ih k (by omega) _ _ l0 _ _ l1 _ _ l2 (wrap64 (a3 + 1)) t674 _ ?side1 ?side2 ?side3 ?side4 ?side5 ?side6 A13.out).mono ?_); (case side1 => repeat (first | exact HR0.out | (with_reducible refine Kd.C_alloc ?_ _) | (with_reducible refine Kd.C_drewN ?_ _) | (with_reducible refine Kd.C_drew ?_))); (case side2 => exact HC0.out); (case side3 => repeat (first | exact HR1.out | (with_reducible refine Kd.C_alloc ?_ _) | (with_reducible refine Kd.C_drewN ?_ _) | (with_reducible refine Kd.C_drew ?_))); (case side4 => exact HC1.out); (case side5 => repeat (first | exact HR2.out | (with_reducible refine Kd.C_alloc ?_ _) | (with_reducible refine Kd.C_drewN ?_ _) | (with_reducible refine Kd.C_drew ?_))); (case side6 => exact HC2.out); rintro e w14 ⟨v675, rfl, ho0, hb⟩; refine ⟨_, rfl, ?_⟩; have n0_ := Aside0.mk (Kd.N_lower (Kd.N_mono (ok' := fun k_ => (w.heap.size ≤ k_)) ho0 (fun k_ hk_ => (Nat.le_trans (below_size (by repeat (first | (with_reducible first | exact HB.out | apply below_alloc | apply pw_below_drewN | apply below_drew1) | exact HB.out))) hk_))) (below_size (by repeat (first | (with_reducible first | exact HB.out | apply below_alloc | apply pw_below_drewN | apply below_drew1) | exact HB.out)))); have n1_ := Aside0.mk (below_step (by repeat (first | (with_reducible first | exact HB.out | apply below_alloc | apply pw_below_drewN | apply below_drew1) | exact HB.out)) hb); clear HB; have HO676 := n0_; have HB := n1_; clear n0_ n1_; (try clear hb); (try clear hb2); (try clear hk); (try clear hi); (try clear ho0)))
  go_loopg [9, 10] k (fun kq v9 v10 w' => ∃ (x9_1 : List (List (S122))) (x10_1 : Int), v10 = .int .i64 x10_1 ∧ Aside0 (spec_l12More.l0 kq l0 l1 l2 a3 x9_1 x10_1 = some r) ∧ Aside0 (kq ≤ k) ∧ Aside0 (Kd.N (Kd.slice 122 k122) 55 w' w.heap.size (fun k_ => (w.heap.size ≤ k_)) v9 x9_1) ∧ Aside0 (Below w.heap.size w w'))
  case atStart => exact ⟨(t674), (1), (by first | rfl | (simp; done) | (simp [*]; done)), H', ⟨Nat.le_refl _⟩, ⟨by (with_reducible repeat (first | apply Kd.N_alloc | apply Kd.N_drewN | apply Kd.N_drew)); exact HO676.out⟩, ⟨by repeat (first | (with_reducible first | exact HB.out | apply below_alloc | apply pw_below_drewN | apply below_drew1) | exact HB.out)⟩⟩
  case round =>
   clear H'
   try clear c1
   try clear c2
   try clear p2
   try clear c5
   try clear c5b0
   try clear c5b1
   try clear c6
   try clear p6
   try clear c12
   obtain ⟨x9_1, x10_1, rfl, HA, HK1, HO_9, HB⟩ := hrel
   cases gk with
   | zero => exact absurd HA.out (by simp [spec_l12More.l0])
   | succ k1 =>
    have H := HA.out
    clear HA
    simp only [spec_l12More.l0] at H
    by_cases c15 : x10_1 < (l1.length : Int)
    ·rw [if_pos c15] at H
     have c15b0 : decide (x10_1 < (l1.length : Int)) = true := decide_eq_true c15
     clear c15
     obtain ⟨y677, hy677⟩ : ∃ y_ : List (S122), y_ = (([] : List (S122))) := ⟨_, rfl⟩
     replace H : (if y677.length + l2.length < 8796093022208 then ((some (y677 ++ l2 : List (S122))).bind fun y680 => (if y680.length < 8796093022208 then ((some (y680 ++ [(⟨a3, x10_1⟩ : S122)] : List (S122))).bind fun y683 => ((spec_MapOk.f k1 l0 l1 y683).bind fun t686 => (if t686 = true then ((spec_l12More.f k1 l0 l1 y683 (wrap64 (a3 + 1))).bind fun t687 => (if x9_1.length + t687.length < 5864062014805 then (spec_l12More.l0 k1 l0 l1 l2 a3 (x9_1 ++ t687) (wrap64 (x10_1 + 1))) else (none))) else (spec_l12More.l0 k1 l0 l1 l2 a3 x9_1 (wrap64 (x10_1 + 1)))))) else (none))) else (none)) = some r := by first | (rw [hy677]; with_reducible exact H) | (have H2_ := (Option.bind_some _ _).symm.trans H; rw [hy677]; with_reducible exact H2_) | (have H2_ := (Option.bind_some _ _).symm.trans H; with_reducible exact H2_) | with_reducible exact H | (rw [hy677]; exact H) | exact H
     have Ny677 := Aside0.mk hy677
     clear hy677
     by_cases c16 : y677.length + l2.length < 8796093022208
     ·rw [if_pos c16] at H
      have LMc16 := Aside0.mk c16
      clear c16
      obtain ⟨y680, hy680⟩ : ∃ y_ : List (S122), y_ = (y677 ++ l2) := ⟨_, rfl⟩
      replace H : (if y680.length < 8796093022208 then ((some (y680 ++ [(⟨a3, x10_1⟩ : S122)] : List (S122))).bind fun y683 => ((spec_MapOk.f k1 l0 l1 y683).bind fun t686 => (if t686 = true then ((spec_l12More.f k1 l0 l1 y683 (wrap64 (a3 + 1))).bind fun t687 => (if x9_1.length + t687.length < 5864062014805 then (spec_l12More.l0 k1 l0 l1 l2 a3 (x9_1 ++ t687) (wrap64 (x10_1 + 1))) else (none))) else (spec_l12More.l0 k1 l0 l1 l2 a3 x9_1 (wrap64 (x10_1 + 1)))))) else (none)) = some r := by first | (rw [hy680]; with_reducible exact H) | (have H2_ := (Option.bind_some _ _).symm.trans H; rw [hy680]; with_reducible exact H2_) | (have H2_ := (Option.bind_some _ _).symm.trans H; with_reducible exact H2_) | with_reducible exact H | (rw [hy680]; exact H) | exact H
      have Ny680 := Aside0.mk hy680
      clear hy680
      by_cases c17 : y680.length < 8796093022208
      ·rw [if_pos c17] at H
       have LMc17 := Aside0.mk c17
       clear c17
       obtain ⟨y683, hy683⟩ : ∃ y_ : List (S122), y_ = (y680 ++ [(⟨a3, x10_1⟩ : S122)]) := ⟨_, rfl⟩
       replace H : ((spec_MapOk.f k1 l0 l1 y683).bind fun t686 => (if t686 = true then ((spec_l12More.f k1 l0 l1 y683 (wrap64 (a3 + 1))).bind fun t687 => (if x9_1.length + t687.length < 5864062014805 then (spec_l12More.l0 k1 l0 l1 l2 a3 (x9_1 ++ t687) (wrap64 (x10_1 + 1))) else (none))) else (spec_l12More.l0 k1 l0 l1 l2 a3 x9_1 (wrap64 (x10_1 + 1))))) = some r := by first | (rw [hy683]; with_reducible exact H) | (have H2_ := (Option.bind_some _ _).symm.trans H; rw [hy683]; with_reducible exact H2_) | (have H2_ := (Option.bind_some _ _).symm.trans H; with_reducible exact H2_) | with_reducible exact H | (rw [hy683]; exact H) | exact H
       have Ny683 := Aside0.mk hy683
       clear hy683
       replace H := Option.bind_eq_some_iff.mp H
       obtain ⟨t686, A180, H⟩ := H
       replace H : (if t686 = true then ((spec_l12More.f k1 l0 l1 y683 (wrap64 (a3 + 1))).bind fun t687 => (if x9_1.length + t687.length < 5864062014805 then (spec_l12More.l0 k1 l0 l1 l2 a3 (x9_1 ++ t687) (wrap64 (x10_1 + 1))) else (none))) else (spec_l12More.l0 k1 l0 l1 l2 a3 x9_1 (wrap64 (x10_1 + 1)))) = some r := H
       have A18 := Aside0.mk A180
       clear A180
       by_cases c19 : t686 = true
       ·subst c19
        have H1 : ((spec_l12More.f k1 l0 l1 y683 (wrap64 (a3 + 1))).bind fun t687 => (if x9_1.length + t687.length < 5864062014805 then (spec_l12More.l0 k1 l0 l1 l2 a3 (x9_1 ++ t687) (wrap64 (x10_1 + 1))) else (none))) = some r := by rw [if_pos rfl] at H; exact H
        clear H
        have H := H1
        clear H1
        replace H := Option.bind_eq_some_iff.mp H
        obtain ⟨t687, A200, H⟩ := H
        replace H : (if x9_1.length + t687.length < 5864062014805 then (spec_l12More.l0 k1 l0 l1 l2 a3 (x9_1 ++ t687) (wrap64 (x10_1 + 1))) else (none)) = some r := H
        have A20 := Aside0.mk A200
        clear A200
        by_cases c21 : x9_1.length + t687.length < 5864062014805
        ·rw [if_pos c21] at H
         have LMc21 := Aside0.mk c21
         clear c21
         obtain ⟨y690, hy690⟩ : ∃ y_ : List (List (S122)), y_ = (x9_1 ++ t687) := ⟨_, rfl⟩
         replace H : (spec_l12More.l0 k1 l0 l1 l2 a3 y690 (wrap64 (x10_1 + 1))) = some r := by first | (rw [hy690]; with_reducible exact H) | (have H2_ := (Option.bind_some _ _).symm.trans H; rw [hy690]; with_reducible exact H2_) | (have H2_ := (Option.bind_some _ _).symm.trans H; with_reducible exact H2_) | with_reducible exact H | (rw [hy690]; exact H) | exact H
         have Ny690 := Aside0.mk hy690
         clear hy690
         have H' := Aside0.mk H
         clear H
         go_wp2_with (first | ((with_reducible refine gate_dst (N := 32) rfl ?_); refine Kd.R_lit k122 _ 122 ?hg (N := 32) ?hd (xs := ([] : List (S122))) (inner := []) (ok := fun _ => True) (okp := fun _ => True) ?hr ?hp (fun _ hk => hk) trivial (Below.refl _ _) (Nat.le_refl _) (by simp) ?_; (case hd => rfl); (case hg => rfl); (case hr => first | (go_simp; done) | (go_simp; rfl)); (case hp => exact (Reps.none _ _)); intro v678 w22 ho23 hb hg_ hnew_; clear hg_ hnew_; (first | rw [← Ny677.out] at ho23 | (simp only [Int.reduceToNat] at ho23; rw [← Ny677.out] at ho23)); have n0_ := Aside0.mk (Kd.N_elder' (by (with_reducible repeat (first | apply Kd.N_alloc | apply Kd.N_drewN | apply Kd.N_drew)); exact HO_9.out) (Kd.R_base ho23) hb); have n1_ := Aside0.mk (Kd.R_lower (Kd.R_newM (M := fun k_ => (w.heap.size ≤ k_)) ho23 (below_size (by repeat (first | (with_reducible first | exact HB.out | apply below_alloc | apply pw_below_drewN | apply below_drew1) | exact HB.out))) (fun k_ h_ => h_)) (below_size (by repeat (first | (with_reducible first | exact HB.out | apply below_alloc | apply pw_below_drewN | apply below_drew1) | exact HB.out)))); have n2_ := Aside0.mk (below_step (by repeat (first | (with_reducible first | exact HB.out | apply below_alloc | apply pw_below_drewN | apply below_drew1) | exact HB.out)) hb); clear HO_9; clear HB; have HO_9 := n0_; have HO679 := n1_; have HB := n2_; clear n0_ n1_ n2_; clear hb ho23) | ((with_reducible refine gate_builtin (b := .append) (xs := #[.tmp 32, .tmp 33]) rfl ?_); at_builtin; refine Kd.R_append_rows k122 (w0 := w) w.heap.size rfl (.tmp 32) (.tmp 33) 55 122 (.agg #[(.int .i64 0), (.int .i64 0)]) 16 rfl Try.underlying55 info122 rfl (by decide) (by omega) v678 y677 l2 _ _ _ (fun k_ => (w.heap.size ≤ k_)) (fun _ => False) rfl rfl ?aO ?aR (fun _ _ h => h) (fun _ h => h.elim) ?aF ?aB ?aS ?aL ?_; (case aR => repeat (first | exact (Kd.C_below HR2.out HB.out) | (with_reducible refine Kd.C_alloc ?_ _) | (with_reducible refine Kd.C_drewN ?_ _) | (with_reducible refine Kd.C_drew ?_))); (case aB => exact (by repeat (first | (with_reducible first | exact HB.out | apply below_alloc | apply pw_below_drewN | apply below_drew1) | exact HB.out))); (case aF => exact (fun k_ hk => (Nat.le_trans (below_size (by repeat (first | (with_reducible first | exact HB.out | apply below_alloc | apply pw_below_drewN | apply below_drew1) | exact HB.out))) hk))); (case aO => exact (by (with_reducible repeat (first | apply Kd.R_alloc | apply Kd.R_drewN | apply Kd.R_drew)); exact Kd.R_mono HO679.out (fun _ hk => hk.1))); (case aS => exact (below_size (by repeat (first | (with_reducible first | exact HB.out | apply below_alloc | apply pw_below_drewN | apply below_drew1) | exact HB.out)))); (case aL => have := LMc16.out; omega); intro v681 w24 ho hb hg hat; rw [← Ny680.out] at ho; have n0_ := Aside0.mk (Kd.N_afterv (ok := (fun k_ => (w.heap.size ≤ k_))) (by (with_reducible repeat (first | apply Kd.N_alloc | apply Kd.N_drewN | apply Kd.N_drew)); exact HO_9.out) hg hat); have n1_ := Aside0.mk (hb); have n2_ := Aside0.mk (ho); clear HO_9; clear HB; clear HO679; have HO_9 := n0_; have HB := n1_; have HO682 := n2_; clear n0_ n1_ n2_; clear ho hb hg hat) | ((with_reducible refine gate_builtin (b := .append) (xs := #[.tmp 34, .tmp 38]) rfl ?_); at_builtin; refine Kd.R_append k122 (w0 := w) w.heap.size rfl (.tmp 34) (.tmp 38) 55 122 (.agg #[(.int .i64 0), (.int .i64 0)]) 16 rfl Try.underlying55 info122 rfl (by decide) (by omega) v681 y680 (⟨a3, x10_1⟩ : S122) [.int .i64 a3, .int .i64 x10_1] (fun k_ => (w.heap.size ≤ k_)) (fun _ => False) rfl rfl ?aP (fun _ hk => hk.elim) ?aF ?aO ?aB ?aS ?aL ?_; (case aP => exact k122_mkM _ _ _ (⟨a3, x10_1⟩ : S122)); (case aB => exact (by repeat (first | (with_reducible first | exact HB.out | apply below_alloc | apply pw_below_drewN | apply below_drew1) | exact HB.out))); (case aF => exact (fun k_ hk => (Nat.le_trans (below_size (by repeat (first | (with_reducible first | exact HB.out | apply below_alloc | apply pw_below_drewN | apply below_drew1) | exact HB.out))) hk))); (case aO => exact (by (with_reducible repeat (first | apply Kd.R_alloc | apply Kd.R_drewN | apply Kd.R_drew)); exact HO682.out)); (case aS => exact (below_size (by repeat (first | (with_reducible first | exact HB.out | apply below_alloc | apply pw_below_drewN | apply below_drew1) | exact HB.out)))); (case aL => have := LMc17.out; omega); intro v684 w25 ho hb hg hat; rw [← Ny683.out] at ho; have n0_ := Aside0.mk (Kd.N_afterv (ok := (fun k_ => (w.heap.size ≤ k_))) (by (with_reducible repeat (first | apply Kd.N_alloc | apply Kd.N_drewN | apply Kd.N_drew)); exact HO_9.out) hg hat); have n1_ := Aside0.mk (hb); have n2_ := Aside0.mk (ho); clear HO_9; clear HB; clear HO682; have HO_9 := n0_; have HB := n1_; have HO685 := n2_; clear n0_ n1_ n2_; clear ho hb hg hat; obtain ⟨Ao26, co26, eo26⟩ := Kd.R_slice HO685.out; subst eo26) | ((with_reducible refine gate_callee (f := 80) rfl ?_); refine goesL_ (some 43) rfl rfl Try.func80 (by kernel_rfl) rfl #[.slice A0 l0.length c0, .slice A1 l1.length c1, .slice Ao26 y683.length co26] rfl (by (try simp only [List.map_toArray, List.map_cons, List.map_nil]); first | done | rfl | (simp only [List.length_drop, List.length_take]; rfl)) ?_; (with_reducible refine (spec_MapOk.calls k1 _ _ l0 _ _ l1 _ _ y683 true _ ?side1 ?side2 ?side3 ?side4 ?side5 ?side6 A18.out).mono ?_); (case side1 => repeat (first | exact (Kd.C_below HR0.out HB.out) | (with_reducible refine Kd.C_alloc ?_ _) | (with_reducible refine Kd.C_drewN ?_ _) | (with_reducible refine Kd.C_drew ?_))); (case side2 => exact HC0.out); (case side3 => repeat (first | exact (Kd.C_below HR1.out HB.out) | (with_reducible refine Kd.C_alloc ?_ _) | (with_reducible refine Kd.C_drewN ?_ _) | (with_reducible refine Kd.C_drew ?_))); (case side4 => exact HC1.out); (case side5 => repeat (first | exact (Kd.R_reads' HO685.out).2.2 | (with_reducible refine Kd.C_alloc ?_ _) | (with_reducible refine Kd.C_drewN ?_ _) | (with_reducible refine Kd.C_drew ?_))); (case side6 => exact (Kd.R_reads' HO685.out).2.1); rintro e w27 ⟨rfl, hb⟩; refine ⟨_, rfl, ?_⟩; have n0_ := Aside0.mk (Kd.N_below (by (with_reducible repeat (first | apply Kd.N_alloc | apply Kd.N_drewN | apply Kd.N_drew)); exact HO_9.out) hb); have n1_ := Aside0.mk (Kd.R_below (by (with_reducible repeat (first | apply Kd.R_alloc | apply Kd.R_drewN | apply Kd.R_drew)); exact HO685.out) hb); have n2_ := Aside0.mk (below_step (by repeat (first | (with_reducible first | exact HB.out | apply below_alloc | apply pw_below_drewN | apply below_drew1) | exact HB.out)) hb); clear HO_9; clear HO685; clear HB; have HO_9 := n0_; have HO685 := n1_; have HB := n2_; clear n0_ n1_ n2_; (try clear hb); (try clear hb2); (try clear hk); (try clear hi)) | ((with_reducible refine gate_callee (f := 129) rfl ?_); refine goesL_ (some 50) rfl rfl Try.func129 (by kernel_rfl) rfl #[.slice A0 l0.length c0, .slice A1 l1.length c1, .slice Ao26 y683.length co26, .int .i64 (wrap64 (a3 + 1))] rfl (by (try simp only [List.map_toArray, List.map_cons, List.map_nil]); first | done | rfl | (simp only [List.length_drop, List.length_take]; rfl)) ?_; (with_reducible refine (ih k1 (by have := HK1.out; omega) _ _ l0 _ _ l1 _ _ y683 (wrap64 (a3 + 1)) t687 _ ?side1 ?side2 ?side3 ?side4 ?side5 ?side6 A20.out).mono ?_); (case side1 => repeat (first | exact (Kd.C_below HR0.out HB.out) | (with_reducible refine Kd.C_alloc ?_ _) | (with_reducible refine Kd.C_drewN ?_ _) | (with_reducible refine Kd.C_drew ?_))); (case side2 => exact HC0.out); (case side3 => repeat (first | exact (Kd.C_below HR1.out HB.out) | (with_reducible refine Kd.C_alloc ?_ _) | (with_reducible refine Kd.C_drewN ?_ _) | (with_reducible refine Kd.C_drew ?_))); (case side4 => exact HC1.out); (case side5 => repeat (first | exact (Kd.R_reads' HO685.out).2.2 | (with_reducible refine Kd.C_alloc ?_ _) | (with_reducible refine Kd.C_drewN ?_ _) | (with_reducible refine Kd.C_drew ?_))); (case side6 => exact (Kd.R_reads' HO685.out).2.1); rintro e w28 ⟨v688, rfl, ho0, hb⟩; refine ⟨_, rfl, ?_⟩; have n0_ := Aside0.mk (Kd.N_elder' (by (with_reducible repeat (first | apply Kd.N_alloc | apply Kd.N_drewN | apply Kd.N_drew)); exact HO_9.out) (Kd.N_base ho0) hb); have n1_ := Aside0.mk (Kd.R_below (by (with_reducible repeat (first | apply Kd.R_alloc | apply Kd.R_drewN | apply Kd.R_drew)); exact HO685.out) hb); have n2_ := Aside0.mk (Kd.N_lower (Kd.N_mono (ok' := fun k_ => (w.heap.size ≤ k_) ∧ some k_ ≠ (u9 : Value).ownBlock ∧ some k_ ≠ (.slice Ao26 y683.length co26 : Value).ownBlock) ho0 (fun k_ hk_ => ⟨(Nat.le_trans (below_size (by repeat (first | (with_reducible first | exact HB.out | apply below_alloc | apply pw_below_drewN | apply below_drew1) | exact HB.out))) hk_), (Kd.fresh' (Kd.N_lt (by (with_reducible repeat (first | apply Kd.N_alloc | apply Kd.N_drewN | apply Kd.N_drew)); exact HO_9.out)) k_ hk_), (Kd.fresh' (Kd.R_lt (by (with_reducible repeat (first | apply Kd.R_alloc | apply Kd.R_drewN | apply Kd.R_drew)); exact HO685.out)) k_ hk_)⟩)) (below_size (by repeat (first | (with_reducible first | exact HB.out | apply below_alloc | apply pw_below_drewN | apply below_drew1) | exact HB.out)))); have n3_ := Aside0.mk (below_step (by repeat (first | (with_reducible first | exact HB.out | apply below_alloc | apply pw_below_drewN | apply below_drew1) | exact HB.out)) hb); clear HO_9; clear HO685; clear HB; have HO_9 := n0_; have HO685 := n1_; have HO689 := n2_; have HB := n3_; clear n0_ n1_ n2_ n3_; (try clear hb); (try clear hb2); (try clear hk); (try clear hi); (try clear ho0); obtain ⟨Ao30, co30, eo30⟩ := Kd.N_slice HO689.out; subst eo30) | ((with_reducible refine gate_builtin (b := .append) (xs := #[.tmp 44, .tmp 50]) rfl ?_); at_builtin; refine Kd.N_append_rows (Kd.slice 122 k122) (w0 := w) w.heap.size rfl (.tmp 44) (.tmp 50) 128 55 (.slice none 0 0) 24 rfl Try.underlying128 info55 rfl (by decide) (by omega) u9 x9_1 t687 _ _ _ (fun k_ => (w.heap.size ≤ k_) ∧ some k_ ≠ (.slice Ao26 y683.length co26 : Value).ownBlock) (fun k_ => ((fun k_ => (w.heap.size ≤ k_) ∧ some k_ ≠ (.slice Ao26 y683.length co26 : Value).ownBlock)) k_ ∧ some k_ ≠ (u9 : Value).ownBlock) rfl rfl ?aO ?aR (fun _ hk => hk) ?aF ?aB ?aS ?aL ?_; (case aR => exact (by skip; exact Kd.N_F (Kd.N_mono (ok' := (fun k_ => ((fun k_ => (w.heap.size ≤ k_) ∧ some k_ ≠ (.slice Ao26 y683.length co26 : Value).ownBlock)) k_ ∧ some k_ ≠ (u9 : Value).ownBlock)) (HO689.out) (fun k_ hk => ⟨⟨hk.1, hk.2.2⟩, hk.2.1⟩)))); (case aB => exact (by repeat (first | (with_reducible first | exact HB.out | apply below_alloc | apply pw_below_drewN | apply below_drew1) | exact HB.out))); (case aF => exact (fun k_ hk => ⟨(Nat.le_trans (below_size (by repeat (first | (with_reducible first | exact HB.out | apply below_alloc | apply pw_below_drewN | apply below_drew1) | exact HB.out))) hk), Kd.fresh' (Kd.R_lt (by (with_reducible repeat (first | apply Kd.R_alloc | apply Kd.R_drewN | apply Kd.R_drew)); exact HO685.out)) k_ hk⟩)); (case aO => exact (by (with_reducible repeat (first | apply Kd.N_alloc | apply Kd.N_drewN | apply Kd.N_drew)); exact Kd.N_mono HO_9.out (fun _ hk => ⟨hk.1.1, hk.1.2⟩))); (case aS => exact (below_size (by repeat (first | (with_reducible first | exact HB.out | apply below_alloc | apply pw_below_drewN | apply below_drew1) | exact HB.out)))); (case aL => have := LMc21.out; omega); intro v691 w29 ho hb hg hat; rw [← Ny690.out] at ho; have n0_ := Aside0.mk (Kd.R_over' (by (with_reducible repeat (first | apply Kd.R_alloc | apply Kd.R_drewN | apply Kd.R_drew)); exact HO685.out) (Kd.N_typed (by (with_reducible repeat (first | apply Kd.N_alloc | apply Kd.N_drewN | apply Kd.N_drew)); exact HO_9.out)) (by decide) hg); have n1_ := Aside0.mk (Kd.N_afterv (ok := (fun k_ => (w.heap.size ≤ k_) ∧ some k_ ≠ (.slice Ao26 y683.length co26 : Value).ownBlock)) (by (with_reducible repeat (first | apply Kd.N_alloc | apply Kd.N_drewN | apply Kd.N_drew)); exact Kd.N_mono HO689.out (fun _ hk => ⟨⟨hk.1, hk.2.2⟩, hk.2.1⟩)) hg hat); have n2_ := Aside0.mk (hb); have n3_ := Aside0.mk (ho); clear HO685; clear HO689; clear HB; clear HO_9; have HO685 := n0_; have HO689 := n1_; have HB := n2_; have HO692 := n3_; clear n0_ n1_ n2_ n3_; clear ho hb hg hat))
         go_roundg k1
         case measure => have := HK1.out; omega
         case rel => exact ⟨(y690), (wrap64 (x10_1 + 1)), (by first | rfl | (simp; done) | (simp [*]; done)), H', ⟨by have := HK1.out; omega⟩, ⟨by (with_reducible repeat (first | apply Kd.N_alloc | apply Kd.N_drewN | apply Kd.N_drew)); exact Kd.N_mono HO692.out (fun _ hk => hk.1)⟩, ⟨by repeat (first | (with_reducible first | exact HB.out | apply below_alloc | apply pw_below_drewN | apply below_drew1) | exact HB.out)⟩⟩
        ·rw [if_neg c21] at H
         exact absurd H (by simp)
       ·replace c19 := Bool.eq_false_iff.mpr c19
        subst c19
        have H1 : (spec_l12More.l0 k1 l0 l1 l2 a3 x9_1 (wrap64 (x10_1 + 1))) = some r := by rw [if_neg (show ¬ (false = true) by decide)] at H; exact H
        clear H
        have H := H1
        clear H1
        have H' := Aside0.mk H
        clear H
        go_wp2_with (first | ((with_reducible refine gate_dst (N := 32) rfl ?_); refine Kd.R_lit k122 _ 122 ?hg (N := 32) ?hd (xs := ([] : List (S122))) (inner := []) (ok := fun _ => True) (okp := fun _ => True) ?hr ?hp (fun _ hk => hk) trivial (Below.refl _ _) (Nat.le_refl _) (by simp) ?_; (case hd => rfl); (case hg => rfl); (case hr => first | (go_simp; done) | (go_simp; rfl)); (case hp => exact (Reps.none _ _)); intro v678 w31 ho32 hb hg_ hnew_; clear hg_ hnew_; (first | rw [← Ny677.out] at ho32 | (simp only [Int.reduceToNat] at ho32; rw [← Ny677.out] at ho32)); have n0_ := Aside0.mk (Kd.N_elder' (by (with_reducible repeat (first | apply Kd.N_alloc | apply Kd.N_drewN | apply Kd.N_drew)); exact HO_9.out) (Kd.R_base ho32) hb); have n1_ := Aside0.mk (Kd.R_lower (Kd.R_newM (M := fun k_ => (w.heap.size ≤ k_)) ho32 (below_size (by repeat (first | (with_reducible first | exact HB.out | apply below_alloc | apply pw_below_drewN | apply below_drew1) | exact HB.out))) (fun k_ h_ => h_)) (below_size (by repeat (first | (with_reducible first | exact HB.out | apply below_alloc | apply pw_below_drewN | apply below_drew1) | exact HB.out)))); have n2_ := Aside0.mk (below_step (by repeat (first | (with_reducible first | exact HB.out | apply below_alloc | apply pw_below_drewN | apply below_drew1) | exact HB.out)) hb); clear HO_9; clear HB; have HO_9 := n0_; have HO679 := n1_; have HB := n2_; clear n0_ n1_ n2_; clear hb ho32) | ((with_reducible refine gate_builtin (b := .append) (xs := #[.tmp 32, .tmp 33]) rfl ?_); at_builtin; refine Kd.R_append_rows k122 (w0 := w) w.heap.size rfl (.tmp 32) (.tmp 33) 55 122 (.agg #[(.int .i64 0), (.int .i64 0)]) 16 rfl Try.underlying55 info122 rfl (by decide) (by omega) v678 y677 l2 _ _ _ (fun k_ => (w.heap.size ≤ k_)) (fun _ => False) rfl rfl ?aO ?aR (fun _ _ h => h) (fun _ h => h.elim) ?aF ?aB ?aS ?aL ?_; (case aR => repeat (first | exact (Kd.C_below HR2.out HB.out) | (with_reducible refine Kd.C_alloc ?_ _) | (with_reducible refine Kd.C_drewN ?_ _) | (with_reducible refine Kd.C_drew ?_))); (case aB => exact (by repeat (first | (with_reducible first | exact HB.out | apply below_alloc | apply pw_below_drewN | apply below_drew1) | exact HB.out))); (case aF => exact (fun k_ hk => (Nat.le_trans (below_size (by repeat (first | (with_reducible first | exact HB.out | apply below_alloc | apply pw_below_drewN | apply below_drew1) | exact HB.out))) hk))); (case aO => exact (by (with_reducible repeat (first | apply Kd.R_alloc | apply Kd.R_drewN | apply Kd.R_drew)); exact Kd.R_mono HO679.out (fun _ hk => hk.1))); (case aS => exact (below_size (by repeat (first | (with_reducible first | exact HB.out | apply below_alloc | apply pw_below_drewN | apply below_drew1) | exact HB.out)))); (case aL => have := LMc16.out; omega); intro v681 w33 ho hb hg hat; rw [← Ny680.out] at ho; have n0_ := Aside0.mk (Kd.N_afterv (ok := (fun k_ => (w.heap.size ≤ k_))) (by (with_reducible repeat (first | apply Kd.N_alloc | apply Kd.N_drewN | apply Kd.N_drew)); exact HO_9.out) hg hat); have n1_ := Aside0.mk (hb); have n2_ := Aside0.mk (ho); clear HO_9; clear HB; clear HO679; have HO_9 := n0_; have HB := n1_; have HO682 := n2_; clear n0_ n1_ n2_; clear ho hb hg hat) | ((with_reducible refine gate_builtin (b := .append) (xs := #[.tmp 34, .tmp 38]) rfl ?_); at_builtin; refine Kd.R_append k122 (w0 := w) w.heap.size rfl (.tmp 34) (.tmp 38) 55 122 (.agg #[(.int .i64 0), (.int .i64 0)]) 16 rfl Try.underlying55 info122 rfl (by decide) (by omega) v681 y680 (⟨a3, x10_1⟩ : S122) [.int .i64 a3, .int .i64 x10_1] (fun k_ => (w.heap.size ≤ k_)) (fun _ => False) rfl rfl ?aP (fun _ hk => hk.elim) ?aF ?aO ?aB ?aS ?aL ?_; (case aP => exact k122_mkM _ _ _ (⟨a3, x10_1⟩ : S122)); (case aB => exact (by repeat (first | (with_reducible first | exact HB.out | apply below_alloc | apply pw_below_drewN | apply below_drew1) | exact HB.out))); (case aF => exact (fun k_ hk => (Nat.le_trans (below_size (by repeat (first | (with_reducible first | exact HB.out | apply below_alloc | apply pw_below_drewN | apply below_drew1) | exact HB.out))) hk))); (case aO => exact (by (with_reducible repeat (first | apply Kd.R_alloc | apply Kd.R_drewN | apply Kd.R_drew)); exact HO682.out)); (case aS => exact (below_size (by repeat (first | (with_reducible first | exact HB.out | apply below_alloc | apply pw_below_drewN | apply below_drew1) | exact HB.out)))); (case aL => have := LMc17.out; omega); intro v684 w34 ho hb hg hat; rw [← Ny683.out] at ho; have n0_ := Aside0.mk (Kd.N_afterv (ok := (fun k_ => (w.heap.size ≤ k_))) (by (with_reducible repeat (first | apply Kd.N_alloc | apply Kd.N_drewN | apply Kd.N_drew)); exact HO_9.out) hg hat); have n1_ := Aside0.mk (hb); have n2_ := Aside0.mk (ho); clear HO_9; clear HB; clear HO682; have HO_9 := n0_; have HB := n1_; have HO685 := n2_; clear n0_ n1_ n2_; clear ho hb hg hat; obtain ⟨Ao35, co35, eo35⟩ := Kd.R_slice HO685.out; subst eo35) | ((with_reducible refine gate_callee (f := 80) rfl ?_); refine goesL_ (some 43) rfl rfl Try.func80 (by kernel_rfl) rfl #[.slice A0 l0.length c0, .slice A1 l1.length c1, .slice Ao35 y683.length co35] rfl (by (try simp only [List.map_toArray, List.map_cons, List.map_nil]); first | done | rfl | (simp only [List.length_drop, List.length_take]; rfl)) ?_; (with_reducible refine (spec_MapOk.calls k1 _ _ l0 _ _ l1 _ _ y683 false _ ?side1 ?side2 ?side3 ?side4 ?side5 ?side6 A18.out).mono ?_); (case side1 => repeat (first | exact (Kd.C_below HR0.out HB.out) | (with_reducible refine Kd.C_alloc ?_ _) | (with_reducible refine Kd.C_drewN ?_ _) | (with_reducible refine Kd.C_drew ?_))); (case side2 => exact HC0.out); (case side3 => repeat (first | exact (Kd.C_below HR1.out HB.out) | (with_reducible refine Kd.C_alloc ?_ _) | (with_reducible refine Kd.C_drewN ?_ _) | (with_reducible refine Kd.C_drew ?_))); (case side4 => exact HC1.out); (case side5 => repeat (first | exact (Kd.R_reads' HO685.out).2.2 | (with_reducible refine Kd.C_alloc ?_ _) | (with_reducible refine Kd.C_drewN ?_ _) | (with_reducible refine Kd.C_drew ?_))); (case side6 => exact (Kd.R_reads' HO685.out).2.1); rintro e w36 ⟨rfl, hb⟩; refine ⟨_, rfl, ?_⟩; have n0_ := Aside0.mk (Kd.N_below (by (with_reducible repeat (first | apply Kd.N_alloc | apply Kd.N_drewN | apply Kd.N_drew)); exact HO_9.out) hb); have n1_ := Aside0.mk (Kd.R_below (by (with_reducible repeat (first | apply Kd.R_alloc | apply Kd.R_drewN | apply Kd.R_drew)); exact HO685.out) hb); have n2_ := Aside0.mk (below_step (by repeat (first | (with_reducible first | exact HB.out | apply below_alloc | apply pw_below_drewN | apply below_drew1) | exact HB.out)) hb); clear HO_9; clear HO685; clear HB; have HO_9 := n0_; have HO685 := n1_; have HB := n2_; clear n0_ n1_ n2_; (try clear hb); (try clear hb2); (try clear hk); (try clear hi)))
        go_roundg k1
        case measure => have := HK1.out; omega
        case rel => exact ⟨(x9_1), (wrap64 (x10_1 + 1)), (by first | rfl | (simp; done) | (simp [*]; done)), H', ⟨by have := HK1.out; omega⟩, ⟨by (with_reducible repeat (first | apply Kd.N_alloc | apply Kd.N_drewN | apply Kd.N_drew)); exact Kd.N_mono HO_9.out (fun _ hk => hk.1)⟩, ⟨by repeat (first | (with_reducible first | exact HB.out | apply below_alloc | apply pw_below_drewN | apply below_drew1) | exact HB.out)⟩⟩
      ·rw [if_neg c17] at H
       exact absurd H (by simp)
     ·rw [if_neg c16] at H
      exact absurd H (by simp)
    ·rw [if_neg c15] at H
     have c15b0 : decide (x10_1 < (l1.length : Int)) = false := decide_eq_false c15
     clear c15
     obtain rfl := Option.some.inj H
     go_wp2
     go_ret
     exact ⟨_, by first | rfl | (simp [errW_none, errW_some] <;> rfl) | (simp [*, errW_none, errW_some] <;> rfl), by (with_reducible repeat (first | apply Kd.N_alloc | apply Kd.N_drewN | apply Kd.N_drew)); exact HO_9.out, by repeat (first | (with_reducible first | exact HB.out | apply below_alloc | apply pw_below_drewN | apply below_drew1) | exact HB.out)⟩
end Go.Proofs.Ytbifdckfglejkaa.X
namespace Go.Proofs.Ytbifdckfglejkaa.X
open Go.RowKit Go.Proofs.YtbifdckfglejkaaW.PrintWords Go.Proofs.YtbifdckfglejkaaW.PrintLast Go.Proofs.YtbifdckfglejkaaW.PrintMore
attribute [local go_sem] max2_int min2_int max_two min_two max_three min_three max_four min_four   -- for this text's walks alone
set_option linter.unusedVariables false
set_option linter.unusedSimpArgs false
def spec_MapsOf.f (k : Nat) (l0 : List (S90)) (l1 : List (S90)) : Option ((List (List (S122)))) := (spec_TreeOk.f k l0).bind fun t693 => (if t693 = true then ((spec_TreeOk.f k l1).bind fun t694 => (if t694 = true then (if (l0.length : Int) > 5 then (some (([] : List (List (S122))))) else (if (l1.length : Int) > 5 then (some (([] : List (List (S122))))) else ((spec_l12More.f k l0 l1 (([(⟨0, 0⟩ : S122)] : List (S122))) 1).bind fun t704 => (some t704)))) else (some (([] : List (List (S122))))))) else (some (([] : List (List (S122))))))
set_option maxHeartbeats 8000000 in
set_option maxRecDepth 100000 in
theorem spec_MapsOf.calls (k : Nat) (A0 : Option Addr) (c0 : Nat) (l0 : List (S90)) (A1 : Option Addr) (c1 : Nat) (l1 : List (S90)) (r : List (List (S122))) (w : World) (hr0 : Kd.C k90 w A0 l0.length l0) (hc0 : l0.length ≤ c0) (hr1 : Kd.C k90 w A1 l1.length l1) (hc1 : l1.length ≤ c1) (h : spec_MapsOf.f k l0 l1 = some r) :
  Calls Try.prog 96 #[.slice A0 l0.length c0, .slice A1 l1.length c1] w fun e w' => ∃ v0_ : Value, e = .returned (v0_) ∧ Kd.N (Kd.slice 122 k122) 55 w' w.heap.size (fun k_ => (w.heap.size ≤ k_)) v0_ r ∧ Below w.heap.size w w' := by
 have hu122 := Try.underlying122
 have HR0 := Aside0.mk hr0
 have HC0 := Aside0.mk hc0
 clear hr0 hc0
 have HR1 := Aside0.mk hr1
 have HC1 := Aside0.mk hc1
 clear hr1 hc1
 have HB := Aside0.mk (Below.refl w.heap.size w)
 have H : ((spec_TreeOk.f k l0).bind fun t693 => (if t693 = true then ((spec_TreeOk.f k l1).bind fun t694 => (if t694 = true then (if (l0.length : Int) > 5 then (some (([] : List (List (S122))))) else (if (l1.length : Int) > 5 then (some (([] : List (List (S122))))) else ((spec_l12More.f k l0 l1 (([(⟨0, 0⟩ : S122)] : List (S122))) 1).bind fun t704 => (some t704)))) else (some (([] : List (List (S122))))))) else (some (([] : List (List (S122))))))) = some r := h
 clear h
 replace H := Option.bind_eq_some_iff.mp H
 obtain ⟨t693, A30, H⟩ := H
 replace H : (if t693 = true then ((spec_TreeOk.f k l1).bind fun t694 => (if t694 = true then (if (l0.length : Int) > 5 then (some (([] : List (List (S122))))) else (if (l1.length : Int) > 5 then (some (([] : List (List (S122))))) else ((spec_l12More.f k l0 l1 (([(⟨0, 0⟩ : S122)] : List (S122))) 1).bind fun t704 => (some t704)))) else (some (([] : List (List (S122))))))) else (some (([] : List (List (S122)))))) = some r := H
 have A3 := Aside0.mk A30
 clear A30
 by_cases c4 : t693 = true
 ·subst c4
  have H1 : ((spec_TreeOk.f k l1).bind fun t694 => (if t694 = true then (if (l0.length : Int) > 5 then (some (([] : List (List (S122))))) else (if (l1.length : Int) > 5 then (some (([] : List (List (S122))))) else ((spec_l12More.f k l0 l1 (([(⟨0, 0⟩ : S122)] : List (S122))) 1).bind fun t704 => (some t704)))) else (some (([] : List (List (S122))))))) = some r := by rw [if_pos rfl] at H; exact H
  clear H
  have H := H1
  clear H1
  replace H := Option.bind_eq_some_iff.mp H
  obtain ⟨t694, A50, H⟩ := H
  replace H : (if t694 = true then (if (l0.length : Int) > 5 then (some (([] : List (List (S122))))) else (if (l1.length : Int) > 5 then (some (([] : List (List (S122))))) else ((spec_l12More.f k l0 l1 (([(⟨0, 0⟩ : S122)] : List (S122))) 1).bind fun t704 => (some t704)))) else (some (([] : List (List (S122)))))) = some r := H
  have A5 := Aside0.mk A50
  clear A50
  by_cases c6 : t694 = true
  ·subst c6
   have H1 : (if (l0.length : Int) > 5 then (some (([] : List (List (S122))))) else (if (l1.length : Int) > 5 then (some (([] : List (List (S122))))) else ((spec_l12More.f k l0 l1 (([(⟨0, 0⟩ : S122)] : List (S122))) 1).bind fun t704 => (some t704)))) = some r := by rw [if_pos rfl] at H; exact H
   clear H
   have H := H1
   clear H1
   by_cases c7 : (l0.length : Int) > 5
   ·rw [if_pos c7] at H
    have c7b0 : decide (5 < (l0.length : Int)) = true := decide_eq_true c7
    have c7b1 : decide (5 < l0.length) = true := decide_eq_true (by omega)
    clear c7
    obtain ⟨y695, hy695⟩ : ∃ y_ : List (List (S122)), y_ = (([] : List (List (S122)))) := ⟨_, rfl⟩
    replace H : (some y695) = some r := by first | (rw [hy695]; with_reducible exact H) | (have H2_ := (Option.bind_some _ _).symm.trans H; rw [hy695]; with_reducible exact H2_) | (have H2_ := (Option.bind_some _ _).symm.trans H; with_reducible exact H2_) | with_reducible exact H | (rw [hy695]; exact H) | exact H
    have Ny695 := Aside0.mk hy695
    clear hy695
    obtain rfl := Option.some.inj H
    go_enter Try.func96, Try.ntmps96
    go_wp2_with (first | ((with_reducible refine gate_callee (f := 64) rfl ?_); refine goesL_ (some 6) rfl rfl Try.func64 (by kernel_rfl) rfl #[.slice A0 l0.length c0] rfl (by (try simp only [List.map_toArray, List.map_cons, List.map_nil]); first | done | rfl | (simp only [List.length_drop, List.length_take]; rfl)) ?_; (with_reducible refine (spec_TreeOk.calls k _ _ l0 true _ ?side1 ?side2 A3.out).mono ?_); (case side1 => repeat (first | exact HR0.out | (with_reducible refine Kd.C_alloc ?_ _) | (with_reducible refine Kd.C_drewN ?_ _) | (with_reducible refine Kd.C_drew ?_))); (case side2 => exact HC0.out); rintro e w8 ⟨rfl, hb⟩; refine ⟨_, rfl, ?_⟩; have n0_ := Aside0.mk (below_step (by repeat (first | (with_reducible first | exact HB.out | apply below_alloc | apply pw_below_drewN | apply below_drew1) | exact HB.out)) hb); clear HB; have HB := n0_; clear n0_; (try clear hb); (try clear hb2); (try clear hk); (try clear hi)) | (go_at_call 64; (with_reducible refine (spec_TreeOk.calls k _ _ l1 true _ ?side1 ?side2 A5.out).mono ?_); (case side1 => repeat (first | exact (Kd.C_below HR1.out HB.out) | (with_reducible refine Kd.C_alloc ?_ _) | (with_reducible refine Kd.C_drewN ?_ _) | (with_reducible refine Kd.C_drew ?_))); (case side2 => exact HC1.out); rintro e w9 ⟨rfl, hb⟩; have n0_ := Aside0.mk (below_step (by repeat (first | (with_reducible first | exact HB.out | apply below_alloc | apply pw_below_drewN | apply below_drew1) | exact HB.out)) hb); clear HB; have HB := n0_; clear n0_; (try clear hb); (try clear hb2); (try clear hk); (try clear hi)) | ((with_reducible refine gate_dst (N := 23) rfl ?_); (try (refine gate_guard (by rfl) ?_; dsimp only)); refine Kd.N_lit (Kd.slice 122 k122) _ 55 ?hg (N' := 23) ?hd (xs := ([] : List (List (S122)))) (inner := []) (ok := (fun k_ => (w.heap.size ≤ k_))) (okp := (fun k_ => (w.heap.size ≤ k_))) ?hr ?hp (fun _ hk => hk) ((show ∀ k_, w9.heap.size ≤ k_ → (fun k_ => (w.heap.size ≤ k_)) k_ from fun k_ hk => (Nat.le_trans (below_size (by repeat (first | (with_reducible first | exact HB.out | apply below_alloc | apply pw_below_drewN | apply below_drew1) | exact HB.out))) hk)) _ (Nat.le_refl _)) (Below.refl _ _) (Nat.le_refl _) (by simp) ?_; (case hd => rfl); (case hg => rfl); (case hr => first | (go_simp; done) | (go_simp; rfl)); (case hp => exact (Reps.none _ _)); intro v696 w10 ho11 hb hg_ hnew_; clear hg_ hnew_; (first | rw [← Ny695.out] at ho11 | (simp only [Int.reduceToNat] at ho11; rw [← Ny695.out] at ho11)); have n0_ := Aside0.mk (Kd.N_lower ho11 (below_size (by repeat (first | (with_reducible first | exact HB.out | apply below_alloc | apply pw_below_drewN | apply below_drew1) | exact HB.out)))); have n1_ := Aside0.mk (below_step (by repeat (first | (with_reducible first | exact HB.out | apply below_alloc | apply pw_below_drewN | apply below_drew1) | exact HB.out)) hb); clear HB; have HO697 := n0_; have HB := n1_; clear n0_ n1_; clear hb ho11))
    go_ret
    exact ⟨_, by first | rfl | (simp [errW_none, errW_some] <;> rfl) | (simp [*, errW_none, errW_some] <;> rfl), by (with_reducible repeat (first | apply Kd.N_alloc | apply Kd.N_drewN | apply Kd.N_drew)); exact HO697.out, by repeat (first | (with_reducible first | exact HB.out | apply below_alloc | apply pw_below_drewN | apply below_drew1) | exact HB.out)⟩
   ·rw [if_neg c7] at H
    have c7b0 : decide (5 < (l0.length : Int)) = false := decide_eq_false c7
    have c7b1 : decide (5 < l0.length) = false := decide_eq_false (by omega)
    clear c7
    by_cases c12 : (l1.length : Int) > 5
    ·rw [if_pos c12] at H
     have c12b0 : decide (5 < (l1.length : Int)) = true := decide_eq_true c12
     have c12b1 : decide (5 < l1.length) = true := decide_eq_true (by omega)
     clear c12
     obtain ⟨y698, hy698⟩ : ∃ y_ : List (List (S122)), y_ = (([] : List (List (S122)))) := ⟨_, rfl⟩
     replace H : (some y698) = some r := by first | (rw [hy698]; with_reducible exact H) | (have H2_ := (Option.bind_some _ _).symm.trans H; rw [hy698]; with_reducible exact H2_) | (have H2_ := (Option.bind_some _ _).symm.trans H; with_reducible exact H2_) | with_reducible exact H | (rw [hy698]; exact H) | exact H
     have Ny698 := Aside0.mk hy698
     clear hy698
     obtain rfl := Option.some.inj H
     go_enter Try.func96, Try.ntmps96
     go_wp2_with (first | ((with_reducible refine gate_callee (f := 64) rfl ?_); refine goesL_ (some 6) rfl rfl Try.func64 (by kernel_rfl) rfl #[.slice A0 l0.length c0] rfl (by (try simp only [List.map_toArray, List.map_cons, List.map_nil]); first | done | rfl | (simp only [List.length_drop, List.length_take]; rfl)) ?_; (with_reducible refine (spec_TreeOk.calls k _ _ l0 true _ ?side1 ?side2 A3.out).mono ?_); (case side1 => repeat (first | exact HR0.out | (with_reducible refine Kd.C_alloc ?_ _) | (with_reducible refine Kd.C_drewN ?_ _) | (with_reducible refine Kd.C_drew ?_))); (case side2 => exact HC0.out); rintro e w13 ⟨rfl, hb⟩; refine ⟨_, rfl, ?_⟩; have n0_ := Aside0.mk (below_step (by repeat (first | (with_reducible first | exact HB.out | apply below_alloc | apply pw_below_drewN | apply below_drew1) | exact HB.out)) hb); clear HB; have HB := n0_; clear n0_; (try clear hb); (try clear hb2); (try clear hk); (try clear hi)) | (go_at_call 64; (with_reducible refine (spec_TreeOk.calls k _ _ l1 true _ ?side1 ?side2 A5.out).mono ?_); (case side1 => repeat (first | exact (Kd.C_below HR1.out HB.out) | (with_reducible refine Kd.C_alloc ?_ _) | (with_reducible refine Kd.C_drewN ?_ _) | (with_reducible refine Kd.C_drew ?_))); (case side2 => exact HC1.out); rintro e w14 ⟨rfl, hb⟩; have n0_ := Aside0.mk (below_step (by repeat (first | (with_reducible first | exact HB.out | apply below_alloc | apply pw_below_drewN | apply below_drew1) | exact HB.out)) hb); clear HB; have HB := n0_; clear n0_; (try clear hb); (try clear hb2); (try clear hk); (try clear hi)) | ((with_reducible refine gate_dst (N := 23) rfl ?_); (try (refine gate_guard (by rfl) ?_; dsimp only)); refine Kd.N_lit (Kd.slice 122 k122) _ 55 ?hg (N' := 23) ?hd (xs := ([] : List (List (S122)))) (inner := []) (ok := (fun k_ => (w.heap.size ≤ k_))) (okp := (fun k_ => (w.heap.size ≤ k_))) ?hr ?hp (fun _ hk => hk) ((show ∀ k_, w14.heap.size ≤ k_ → (fun k_ => (w.heap.size ≤ k_)) k_ from fun k_ hk => (Nat.le_trans (below_size (by repeat (first | (with_reducible first | exact HB.out | apply below_alloc | apply pw_below_drewN | apply below_drew1) | exact HB.out))) hk)) _ (Nat.le_refl _)) (Below.refl _ _) (Nat.le_refl _) (by simp) ?_; (case hd => rfl); (case hg => rfl); (case hr => first | (go_simp; done) | (go_simp; rfl)); (case hp => exact (Reps.none _ _)); intro v699 w15 ho16 hb hg_ hnew_; clear hg_ hnew_; (first | rw [← Ny698.out] at ho16 | (simp only [Int.reduceToNat] at ho16; rw [← Ny698.out] at ho16)); have n0_ := Aside0.mk (Kd.N_lower ho16 (below_size (by repeat (first | (with_reducible first | exact HB.out | apply below_alloc | apply pw_below_drewN | apply below_drew1) | exact HB.out)))); have n1_ := Aside0.mk (below_step (by repeat (first | (with_reducible first | exact HB.out | apply below_alloc | apply pw_below_drewN | apply below_drew1) | exact HB.out)) hb); clear HB; have HO700 := n0_; have HB := n1_; clear n0_ n1_; clear hb ho16))
     go_ret
     exact ⟨_, by first | rfl | (simp [errW_none, errW_some] <;> rfl) | (simp [*, errW_none, errW_some] <;> rfl), by (with_reducible repeat (first | apply Kd.N_alloc | apply Kd.N_drewN | apply Kd.N_drew)); exact HO700.out, by repeat (first | (with_reducible first | exact HB.out | apply below_alloc | apply pw_below_drewN | apply below_drew1) | exact HB.out)⟩
    ·rw [if_neg c12] at H
     have c12b0 : decide (5 < (l1.length : Int)) = false := decide_eq_false c12
     have c12b1 : decide (5 < l1.length) = false := decide_eq_false (by omega)
     clear c12
     obtain ⟨y701, hy701⟩ : ∃ y_ : List (S122), y_ = (([(⟨0, 0⟩ : S122)] : List (S122))) := ⟨_, rfl⟩
     replace H : ((spec_l12More.f k l0 l1 y701 1).bind fun t704 => (some t704)) = some r := by first | (rw [hy701]; with_reducible exact H) | (have H2_ := (Option.bind_some _ _).symm.trans H; rw [hy701]; with_reducible exact H2_) | (have H2_ := (Option.bind_some _ _).symm.trans H; with_reducible exact H2_) | with_reducible exact H | (rw [hy701]; exact H) | exact H
     have Ny701 := Aside0.mk hy701
     clear hy701
     replace H := Option.bind_eq_some_iff.mp H
     obtain ⟨t704, A170, H⟩ := H
     replace H : (some t704) = some r := H
     have A17 := Aside0.mk A170
     clear A170
     obtain rfl := Option.some.inj H
     go_enter Try.func96, Try.ntmps96
     go_wp2_with (first | ((with_reducible refine gate_callee (f := 64) rfl ?_); refine goesL_ (some 6) rfl rfl Try.func64 (by kernel_rfl) rfl #[.slice A0 l0.length c0] rfl (by (try simp only [List.map_toArray, List.map_cons, List.map_nil]); first | done | rfl | (simp only [List.length_drop, List.length_take]; rfl)) ?_; (with_reducible refine (spec_TreeOk.calls k _ _ l0 true _ ?side1 ?side2 A3.out).mono ?_); (case side1 => repeat (first | exact HR0.out | (with_reducible refine Kd.C_alloc ?_ _) | (with_reducible refine Kd.C_drewN ?_ _) | (with_reducible refine Kd.C_drew ?_))); (case side2 => exact HC0.out); rintro e w18 ⟨rfl, hb⟩; refine ⟨_, rfl, ?_⟩; have n0_ := Aside0.mk (below_step (by repeat (first | (with_reducible first | exact HB.out | apply below_alloc | apply pw_below_drewN | apply below_drew1) | exact HB.out)) hb); clear HB; have HB := n0_; clear n0_; (try clear hb); (try clear hb2); (try clear hk); (try clear hi)) | (go_at_call 64; (with_reducible refine (spec_TreeOk.calls k _ _ l1 true _ ?side1 ?side2 A5.out).mono ?_); (case side1 => repeat (first | exact (Kd.C_below HR1.out HB.out) | (with_reducible refine Kd.C_alloc ?_ _) | (with_reducible refine Kd.C_drewN ?_ _) | (with_reducible refine Kd.C_drew ?_))); (case side2 => exact HC1.out); rintro e w19 ⟨rfl, hb⟩; have n0_ := Aside0.mk (below_step (by repeat (first | (with_reducible first | exact HB.out | apply below_alloc | apply pw_below_drewN | apply below_drew1) | exact HB.out)) hb); clear HB; have HB := n0_; clear n0_; (try clear hb); (try clear hb2); (try clear hk); (try clear hi)) | ((with_reducible refine gate_dst (N := 27) rfl ?_); (try (refine gate_guard (by rfl) ?_; dsimp only)); refine Kd.R_lit k122 _ 122 ?hg (N := 27) ?hd (xs := ([(⟨0, 0⟩ : S122)] : List (S122))) (inner := [.int .i64 0, .int .i64 0]) (ok := fun _ => True) (okp := fun _ => True) ?hr ?hp (fun _ hk => hk) trivial (Below.refl _ _) (Nat.le_refl _) (by simp) ?_; (case hd => rfl); (case hg => rfl); (case hr => first | (go_simp; done) | (go_simp; rfl)); (case hp => exact (Reps.c2 (show Kd.M k122 _ _ _ (⟨0, 0⟩ : S122) [.int .i64 0, .int .i64 0] from (k122_mkM _ _ _ (⟨0, 0⟩ : S122) )) (Reps.none _ _))); intro v702 w20 ho21 hb hg_ hnew_; clear hg_ hnew_; (first | rw [← Ny701.out] at ho21 | (simp only [Int.reduceToNat] at ho21; rw [← Ny701.out] at ho21)); have n0_ := Aside0.mk (Kd.R_lower (Kd.R_newM (M := fun k_ => (w.heap.size ≤ k_)) ho21 (below_size (by repeat (first | (with_reducible first | exact HB.out | apply below_alloc | apply pw_below_drewN | apply below_drew1) | exact HB.out))) (fun k_ h_ => h_)) (below_size (by repeat (first | (with_reducible first | exact HB.out | apply below_alloc | apply pw_below_drewN | apply below_drew1) | exact HB.out)))); have n1_ := Aside0.mk (below_step (by repeat (first | (with_reducible first | exact HB.out | apply below_alloc | apply pw_below_drewN | apply below_drew1) | exact HB.out)) hb); clear HB; have HO703 := n0_; have HB := n1_; clear n0_ n1_; clear hb ho21; obtain ⟨Ao22, co22, eo22⟩ := Kd.R_slice HO703.out; subst eo22) | ((with_reducible refine gate_callee (f := 129) rfl ?_); refine goesL_ (some 28) rfl rfl Try.func129 (by kernel_rfl) rfl #[.slice A0 l0.length c0, .slice A1 l1.length c1, .slice Ao22 y701.length co22, .int .i64 1] rfl (by (try simp only [List.map_toArray, List.map_cons, List.map_nil]); first | done | rfl | (simp only [List.length_drop, List.length_take]; rfl)) ?_; (with_reducible refine (spec_l12More.calls k _ _ l0 _ _ l1 _ _ y701 1 t704 _ ?side1 ?side2 ?side3 ?side4 ?side5 ?side6 A17.out).mono ?_); (case side1 => repeat (first | exact (Kd.C_below HR0.out HB.out) | (with_reducible refine Kd.C_alloc ?_ _) | (with_reducible refine Kd.C_drewN ?_ _) | (with_reducible refine Kd.C_drew ?_))); (case side2 => exact HC0.out); (case side3 => repeat (first | exact (Kd.C_below HR1.out HB.out) | (with_reducible refine Kd.C_alloc ?_ _) | (with_reducible refine Kd.C_drewN ?_ _) | (with_reducible refine Kd.C_drew ?_))); (case side4 => exact HC1.out); (case side5 => repeat (first | exact (Kd.R_reads' HO703.out).2.2 | (with_reducible refine Kd.C_alloc ?_ _) | (with_reducible refine Kd.C_drewN ?_ _) | (with_reducible refine Kd.C_drew ?_))); (case side6 => exact (Kd.R_reads' HO703.out).2.1); rintro e w23 ⟨v705, rfl, ho0, hb⟩; refine ⟨_, rfl, ?_⟩; have n0_ := Aside0.mk (Kd.R_below (by (with_reducible repeat (first | apply Kd.R_alloc | apply Kd.R_drewN | apply Kd.R_drew)); exact HO703.out) hb); have n1_ := Aside0.mk (Kd.N_lower (Kd.N_mono (ok' := fun k_ => (w.heap.size ≤ k_) ∧ some k_ ≠ (.slice Ao22 y701.length co22 : Value).ownBlock) ho0 (fun k_ hk_ => ⟨(Nat.le_trans (below_size (by repeat (first | (with_reducible first | exact HB.out | apply below_alloc | apply pw_below_drewN | apply below_drew1) | exact HB.out))) hk_), (Kd.fresh' (Kd.R_lt (by (with_reducible repeat (first | apply Kd.R_alloc | apply Kd.R_drewN | apply Kd.R_drew)); exact HO703.out)) k_ hk_)⟩)) (below_size (by repeat (first | (with_reducible first | exact HB.out | apply below_alloc | apply pw_below_drewN | apply below_drew1) | exact HB.out)))); have n2_ := Aside0.mk (below_step (by repeat (first | (with_reducible first | exact HB.out | apply below_alloc | apply pw_below_drewN | apply below_drew1) | exact HB.out)) hb); clear HO703; clear HB; have HO703 := n0_; have HO706 := n1_; have HB := n2_; clear n0_ n1_ n2_; (try clear hb); (try clear hb2); (try clear hk); (try clear hi); (try clear ho0)))
     go_ret
     exact ⟨_, by first | rfl | (simp [errW_none, errW_some] <;> rfl) | (simp [*, errW_none, errW_some] <;> rfl), by (with_reducible repeat (first | apply Kd.N_alloc | apply Kd.N_drewN | apply Kd.N_drew)); exact Kd.N_mono HO706.out (fun _ hk => hk.1), by repeat (first | (with_reducible first | exact HB.out | apply below_alloc | apply pw_below_drewN | apply below_drew1) | exact HB.out)⟩
  ·replace c6 := Bool.eq_false_iff.mpr c6
   subst c6
   have H1 : (some (([] : List (List (S122))))) = some r := by rw [if_neg (show ¬ (false = true) by decide)] at H; exact H
   clear H
   have H := H1
   clear H1
   obtain ⟨y707, hy707⟩ : ∃ y_ : List (List (S122)), y_ = (([] : List (List (S122)))) := ⟨_, rfl⟩
   replace H : (some y707) = some r := by first | (rw [hy707]; with_reducible exact H) | (have H2_ := (Option.bind_some _ _).symm.trans H; rw [hy707]; with_reducible exact H2_) | (have H2_ := (Option.bind_some _ _).symm.trans H; with_reducible exact H2_) | with_reducible exact H | (rw [hy707]; exact H) | exact H
   have Ny707 := Aside0.mk hy707
   clear hy707
   obtain rfl := Option.some.inj H
   go_enter Try.func96, Try.ntmps96
   go_wp2_with (first | ((with_reducible refine gate_callee (f := 64) rfl ?_); refine goesL_ (some 6) rfl rfl Try.func64 (by kernel_rfl) rfl #[.slice A0 l0.length c0] rfl (by (try simp only [List.map_toArray, List.map_cons, List.map_nil]); first | done | rfl | (simp only [List.length_drop, List.length_take]; rfl)) ?_; (with_reducible refine (spec_TreeOk.calls k _ _ l0 true _ ?side1 ?side2 A3.out).mono ?_); (case side1 => repeat (first | exact HR0.out | (with_reducible refine Kd.C_alloc ?_ _) | (with_reducible refine Kd.C_drewN ?_ _) | (with_reducible refine Kd.C_drew ?_))); (case side2 => exact HC0.out); rintro e w24 ⟨rfl, hb⟩; refine ⟨_, rfl, ?_⟩; have n0_ := Aside0.mk (below_step (by repeat (first | (with_reducible first | exact HB.out | apply below_alloc | apply pw_below_drewN | apply below_drew1) | exact HB.out)) hb); clear HB; have HB := n0_; clear n0_; (try clear hb); (try clear hb2); (try clear hk); (try clear hi)) | (go_at_call 64; (with_reducible refine (spec_TreeOk.calls k _ _ l1 false _ ?side1 ?side2 A5.out).mono ?_); (case side1 => repeat (first | exact (Kd.C_below HR1.out HB.out) | (with_reducible refine Kd.C_alloc ?_ _) | (with_reducible refine Kd.C_drewN ?_ _) | (with_reducible refine Kd.C_drew ?_))); (case side2 => exact HC1.out); rintro e w25 ⟨rfl, hb⟩; have n0_ := Aside0.mk (below_step (by repeat (first | (with_reducible first | exact HB.out | apply below_alloc | apply pw_below_drewN | apply below_drew1) | exact HB.out)) hb); clear HB; have HB := n0_; clear n0_; (try clear hb); (try clear hb2); (try clear hk); (try clear hi)) | ((with_reducible refine gate_dst (N := 23) rfl ?_); (try (refine gate_guard (by rfl) ?_; dsimp only)); refine Kd.N_lit (Kd.slice 122 k122) _ 55 ?hg (N' := 23) ?hd (xs := ([] : List (List (S122)))) (inner := []) (ok := (fun k_ => (w.heap.size ≤ k_))) (okp := (fun k_ => (w.heap.size ≤ k_))) ?hr ?hp (fun _ hk => hk) ((show ∀ k_, w25.heap.size ≤ k_ → (fun k_ => (w.heap.size ≤ k_)) k_ from fun k_ hk => (Nat.le_trans (below_size (by repeat (first | (with_reducible first | exact HB.out | apply below_alloc | apply pw_below_drewN | apply below_drew1) | exact HB.out))) hk)) _ (Nat.le_refl _)) (Below.refl _ _) (Nat.le_refl _) (by simp) ?_; (case hd => rfl); (case hg => rfl); (case hr => first | (go_simp; done) | (go_simp; rfl)); (case hp => exact (Reps.none _ _)); intro v708 w26 ho27 hb hg_ hnew_; clear hg_ hnew_; (first | rw [← Ny707.out] at ho27 | (simp only [Int.reduceToNat] at ho27; rw [← Ny707.out] at ho27)); have n0_ := Aside0.mk (Kd.N_lower ho27 (below_size (by repeat (first | (with_reducible first | exact HB.out | apply below_alloc | apply pw_below_drewN | apply below_drew1) | exact HB.out)))); have n1_ := Aside0.mk (below_step (by repeat (first | (with_reducible first | exact HB.out | apply below_alloc | apply pw_below_drewN | apply below_drew1) | exact HB.out)) hb); clear HB; have HO709 := n0_; have HB := n1_; clear n0_ n1_; clear hb ho27))
   go_ret
   exact ⟨_, by first | rfl | (simp [errW_none, errW_some] <;> rfl) | (simp [*, errW_none, errW_some] <;> rfl), by (with_reducible repeat (first | apply Kd.N_alloc | apply Kd.N_drewN | apply Kd.N_drew)); exact HO709.out, by repeat (first | (with_reducible first | exact HB.out | apply below_alloc | apply pw_below_drewN | apply below_drew1) | exact HB.out)⟩
 ·replace c4 := Bool.eq_false_iff.mpr c4
  subst c4
  have H1 : (some (([] : List (List (S122))))) = some r := by rw [if_neg (show ¬ (false = true) by decide)] at H; exact H
  clear H
  have H := H1
  clear H1
  obtain ⟨y710, hy710⟩ : ∃ y_ : List (List (S122)), y_ = (([] : List (List (S122)))) := ⟨_, rfl⟩
  replace H : (some y710) = some r := by first | (rw [hy710]; with_reducible exact H) | (have H2_ := (Option.bind_some _ _).symm.trans H; rw [hy710]; with_reducible exact H2_) | (have H2_ := (Option.bind_some _ _).symm.trans H; with_reducible exact H2_) | with_reducible exact H | (rw [hy710]; exact H) | exact H
  have Ny710 := Aside0.mk hy710
  clear hy710
  obtain rfl := Option.some.inj H
  go_enter Try.func96, Try.ntmps96
  go_wp2_with (first | ((with_reducible refine gate_callee (f := 64) rfl ?_); refine goesL_ (some 6) rfl rfl Try.func64 (by kernel_rfl) rfl #[.slice A0 l0.length c0] rfl (by (try simp only [List.map_toArray, List.map_cons, List.map_nil]); first | done | rfl | (simp only [List.length_drop, List.length_take]; rfl)) ?_; (with_reducible refine (spec_TreeOk.calls k _ _ l0 false _ ?side1 ?side2 A3.out).mono ?_); (case side1 => repeat (first | exact HR0.out | (with_reducible refine Kd.C_alloc ?_ _) | (with_reducible refine Kd.C_drewN ?_ _) | (with_reducible refine Kd.C_drew ?_))); (case side2 => exact HC0.out); rintro e w28 ⟨rfl, hb⟩; refine ⟨_, rfl, ?_⟩; have n0_ := Aside0.mk (below_step (by repeat (first | (with_reducible first | exact HB.out | apply below_alloc | apply pw_below_drewN | apply below_drew1) | exact HB.out)) hb); clear HB; have HB := n0_; clear n0_; (try clear hb); (try clear hb2); (try clear hk); (try clear hi)) | ((with_reducible refine gate_dst (N := 23) rfl ?_); (try (refine gate_guard (by rfl) ?_; dsimp only)); refine Kd.N_lit (Kd.slice 122 k122) _ 55 ?hg (N' := 23) ?hd (xs := ([] : List (List (S122)))) (inner := []) (ok := (fun k_ => (w.heap.size ≤ k_))) (okp := (fun k_ => (w.heap.size ≤ k_))) ?hr ?hp (fun _ hk => hk) ((show ∀ k_, w28.heap.size ≤ k_ → (fun k_ => (w.heap.size ≤ k_)) k_ from fun k_ hk => (Nat.le_trans (below_size (by repeat (first | (with_reducible first | exact HB.out | apply below_alloc | apply pw_below_drewN | apply below_drew1) | exact HB.out))) hk)) _ (Nat.le_refl _)) (Below.refl _ _) (Nat.le_refl _) (by simp) ?_; (case hd => rfl); (case hg => rfl); (case hr => first | (go_simp; done) | (go_simp; rfl)); (case hp => exact (Reps.none _ _)); intro v711 w29 ho30 hb hg_ hnew_; clear hg_ hnew_; (first | rw [← Ny710.out] at ho30 | (simp only [Int.reduceToNat] at ho30; rw [← Ny710.out] at ho30)); have n0_ := Aside0.mk (Kd.N_lower ho30 (below_size (by repeat (first | (with_reducible first | exact HB.out | apply below_alloc | apply pw_below_drewN | apply below_drew1) | exact HB.out)))); have n1_ := Aside0.mk (below_step (by repeat (first | (with_reducible first | exact HB.out | apply below_alloc | apply pw_below_drewN | apply below_drew1) | exact HB.out)) hb); clear HB; have HO712 := n0_; have HB := n1_; clear n0_ n1_; clear hb ho30))
  go_ret
  exact ⟨_, by first | rfl | (simp [errW_none, errW_some] <;> rfl) | (simp [*, errW_none, errW_some] <;> rfl), by (with_reducible repeat (first | apply Kd.N_alloc | apply Kd.N_drewN | apply Kd.N_drew)); exact HO712.out, by repeat (first | (with_reducible first | exact HB.out | apply below_alloc | apply pw_below_drewN | apply below_drew1) | exact HB.out)⟩
end Go.Proofs.Ytbifdckfglejkaa.X
namespace Go.Proofs.Ytbifdckfglejkaa.X
open Go.RowKit Go.Proofs.YtbifdckfglejkaaW.PrintWords Go.Proofs.YtbifdckfglejkaaW.PrintLast Go.Proofs.YtbifdckfglejkaaW.PrintMore
attribute [local go_sem] max2_int min2_int max_two min_two max_three min_three max_four min_four   -- for this text's walks alone
set_option linter.unusedVariables false
set_option linter.unusedSimpArgs false
def spec_LeastCost.l0 : Nat → List (S90) → List (S90) → Int → List (List (S122)) → Int → List Int → List Int → List Int → Option (Int)
 | 0, _, _, _, _, _, _, _, _ => none
 | k + 1, x0, x1, x7, x8, x9, x714000, x714001, x714002 => if x9 < (x8.length : Int) then (if 0 ≤ x9 then ((spec_MapCost.f k x0 x1 x714000 x714001 x714002 (rd_L11 x8 x9)).bind fun t718 => (if x9 = 0 then (spec_LeastCost.l0 k x0 x1 t718 x8 (wrap64 (x9 + 1)) x714000 x714001 x714002) else (if t718 < x7 then (spec_LeastCost.l0 k x0 x1 t718 x8 (wrap64 (x9 + 1)) x714000 x714001 x714002) else (spec_LeastCost.l0 k x0 x1 x7 x8 (wrap64 (x9 + 1)) x714000 x714001 x714002)))) else (none)) else (some x7)
def spec_LeastCost.f (k : Nat) (l0 : List (S90)) (l1 : List (S90)) (l2_0 : List Int) (l2_1 : List Int) (l2_2 : List Int) : Option (Int) := (spec_MapsOf.f k l0 l1).bind fun t714 => (spec_LeastCost.l0 k l0 l1 (-1) t714 0 l2_0 l2_1 l2_2)
def spec_LeastCost.T6 : Bool × List (List Nat × List Nat) := (true, [([], []), ([], []), ([], []), ([], []), ([], []), ([3, 4], [3, 4]), ([5], [5]), ([0, 1, 2, 6], [0, 1, 2, 6]), ([7, 7, 0, 1, 2, 3, 4, 5, 6, 7], [7])])
def spec_LeastCost.B6 : List Nat := [0, 0, 0, 0, 0, 24, 56, 127, 255]
theorem spec_LeastCost.tab6 : rtab .any (opsOf Try.f41 6) = spec_LeastCost.T6 := by kernel_rfl
theorem spec_LeastCost.bits6 : waitsOk spec_LeastCost.T6.2 spec_LeastCost.B6 = true := by kernel_rfl
set_option maxHeartbeats 8000000 in
set_option maxRecDepth 100000 in
theorem spec_LeastCost.calls (k : Nat) (A0 : Option Addr) (c0 : Nat) (l0 : List (S90)) (A1 : Option Addr) (c1 : Nat) (l1 : List (S90)) (A2_0 : Option Addr) (c2_0 : Nat) (l2_0 : List Int) (A2_1 : Option Addr) (c2_1 : Nat) (l2_1 : List Int) (A2_2 : Option Addr) (c2_2 : Nat) (l2_2 : List Int) (r : Int) (w : World) (hr0 : Kd.C k90 w A0 l0.length l0) (hc0 : l0.length ≤ c0) (hr1 : Kd.C k90 w A1 l1.length l1) (hc1 : l1.length ≤ c1) (hr2_0 : Kd.C (Kd.int .i64) w A2_0 l2_0.length l2_0) (hc2_0 : l2_0.length ≤ c2_0) (hr2_1 : Kd.C (Kd.int .i64) w A2_1 l2_1.length l2_1) (hc2_1 : l2_1.length ≤ c2_1) (hr2_2 : Kd.C (Kd.int .i64) w A2_2 l2_2.length l2_2) (hc2_2 : l2_2.length ≤ c2_2) (h : spec_LeastCost.f k l0 l1 l2_0 l2_1 l2_2 = some r) :
  Calls Try.prog 41 #[.slice A0 l0.length c0, .slice A1 l1.length c1, .agg #[.slice A2_0 l2_0.length c2_0, .slice A2_1 l2_1.length c2_1, .slice A2_2 l2_2.length c2_2]] w fun e w' => e = .returned (.int .i64 r) ∧ Below w.heap.size w w' := by
 have hu53 := Try.underlying53
 have HR0 := Aside0.mk hr0
 have HC0 := Aside0.mk hc0
 clear hr0 hc0
 have HR1 := Aside0.mk hr1
 have HC1 := Aside0.mk hc1
 clear hr1 hc1
 have HR2_0 := Aside0.mk hr2_0
 have HC2_0 := Aside0.mk hc2_0
 clear hr2_0 hc2_0
 have HR2_1 := Aside0.mk hr2_1
 have HC2_1 := Aside0.mk hc2_1
 clear hr2_1 hc2_1
 have HR2_2 := Aside0.mk hr2_2
 have HC2_2 := Aside0.mk hc2_2
 clear hr2_2 hc2_2
 have HB := Aside0.mk (Below.refl w.heap.size w)
 have H : ((spec_MapsOf.f k l0 l1).bind fun t714 => (spec_LeastCost.l0 k l0 l1 (-1) t714 0 l2_0 l2_1 l2_2)) = some r := h
 clear h
 replace H := Option.bind_eq_some_iff.mp H
 obtain ⟨t714, A40, H⟩ := H
 replace H : (spec_LeastCost.l0 k l0 l1 (-1) t714 0 l2_0 l2_1 l2_2) = some r := H
 have A4 := Aside0.mk A40
 clear A40
 have H' := Aside0.mk H
 clear H
 go_enter Try.func41, Try.ntmps41
 go_wp2_with (first | ((with_reducible refine gate_dst (N := 5) rfl ?_); refine box_event ?hg (N := 5) ?hd (cs := #[.slice A2_0 l2_0.length c2_0, .slice A2_1 l2_1.length c2_1, .slice A2_2 l2_2.length c2_2]) (t := 53) ?hr ?_; (case hd => rfl); (case hg => rfl); (case hr => first | (go_simp; done) | (go_simp; rfl)); intro gb713 hg w5 hbox hb; have n0_ := Aside0.mk (below_step (by repeat (first | (with_reducible first | exact HB.out | apply below_alloc | apply pw_below_drewN | apply below_drew1) | exact HB.out)) hb); have n1_ := Aside0.mk (hbox); have n2_ := Aside0.mk ((by rw [hg]; exact (below_size (by repeat (first | (with_reducible first | exact HB.out | apply below_alloc | apply pw_below_drewN | apply below_drew1) | exact HB.out))) : w.heap.size ≤ gb713)); have n3_ := Aside0.mk ((by rw [hg]; exact (below_size (by repeat (first | (with_reducible first | exact HB.out | apply below_alloc | apply pw_below_drewN | apply below_drew1) | exact HB.out))) : w.heap.size ≤ gb713)); clear HB; have HB := n0_; have BK713 := n1_; have GW713 := n2_; have GE713 := n3_; clear n0_ n1_ n2_ n3_; clear hb hbox hg) | ((with_reducible refine gate_callee (f := 96) rfl ?_); refine goesL_ (some 13) rfl rfl Try.func96 (by kernel_rfl) rfl #[.slice A0 l0.length c0, .slice A1 l1.length c1] rfl (by (try simp only [List.map_toArray, List.map_cons, List.map_nil]); first | done | rfl | (simp only [List.length_drop, List.length_take]; rfl)) ?_; (with_reducible refine (spec_MapsOf.calls k _ _ l0 _ _ l1 t714 _ ?side1 ?side2 ?side3 ?side4 A4.out).mono ?_); (case side1 => repeat (first | exact (Kd.C_below HR0.out HB.out) | (with_reducible refine Kd.C_alloc ?_ _) | (with_reducible refine Kd.C_drewN ?_ _) | (with_reducible refine Kd.C_drew ?_))); (case side2 => exact HC0.out); (case side3 => repeat (first | exact (Kd.C_below HR1.out HB.out) | (with_reducible refine Kd.C_alloc ?_ _) | (with_reducible refine Kd.C_drewN ?_ _) | (with_reducible refine Kd.C_drew ?_))); (case side4 => exact HC1.out); rintro e w6 ⟨v715, rfl, ho0, hb⟩; refine ⟨_, rfl, ?_⟩; have n0_ := Aside0.mk (Kd.N_lower (Kd.N_mono (ok' := fun k_ => k_ ≠ gb713) ho0 (fun k_ hk_ => (Kd.freshB (g := gb713) (o := .cells #[.slice A2_0 l2_0.length c2_0, .slice A2_1 l2_1.length c2_1, .slice A2_2 l2_2.length c2_2] 53 (0, 0)) (by (with_reducible repeat (first | refine blk_drewN ?_ _ | refine blk_drew ?_ | refine blk_alloc ?_ _)); exact BK713.out) k_ hk_))) (below_size (by repeat (first | (with_reducible first | exact HB.out | apply below_alloc | apply pw_below_drewN | apply below_drew1 | refine below_set ?_ GE713.out) | exact HB.out)))); have n1_ := Aside0.mk (blk_below (g := gb713) (o := .cells #[.slice A2_0 l2_0.length c2_0, .slice A2_1 l2_1.length c2_1, .slice A2_2 l2_2.length c2_2] 53 (0, 0)) (by (with_reducible repeat (first | refine blk_drewN ?_ _ | refine blk_drew ?_ | refine blk_alloc ?_ _)); exact BK713.out) hb); have n2_ := Aside0.mk (below_step (by repeat (first | (with_reducible first | exact HB.out | apply below_alloc | apply pw_below_drewN | apply below_drew1 | refine below_set ?_ GE713.out) | exact HB.out)) hb); clear BK713; clear HB; have HO716 := n0_; have BK713 := n1_; have HB := n2_; clear n0_ n1_ n2_; (try clear hb); (try clear hb2); (try clear hk); (try clear hi); (try clear ho0)))
 go_loopg [7, 9] k (fun kq v7 v9 w' => ∃ (x7_1 : Int) (x9_1 : Int), v7 = .int .i64 x7_1 ∧ v9 = .int .i64 x9_1 ∧ Aside0 (spec_LeastCost.l0 kq l0 l1 x7_1 t714 x9_1 l2_0 l2_1 l2_2 = some r) ∧ Aside0 (kq ≤ k) ∧ Aside0 (Kd.N (Kd.slice 122 k122) 55 w' w.heap.size (fun k_ => k_ ≠ gb713) v715 t714) ∧ Aside0 (w'.heap[gb713]? = some (.cells #[(.slice A2_0 l2_0.length c2_0), (.slice A2_1 l2_1.length c2_1), (.slice A2_2 l2_2.length c2_2)] 53 (0, 0))) ∧ Aside0 (Below w.heap.size w w'))
 case atStart => exact ⟨((-1)), (0), (by first | rfl | (simp; done) | (simp [*]; done)), (by first | rfl | (simp; done) | (simp [*]; done)), H', ⟨Nat.le_refl _⟩, ⟨by (with_reducible repeat (first | apply Kd.N_alloc | apply Kd.N_drewN | apply Kd.N_drew)); exact HO716.out⟩, ⟨by (with_reducible repeat (first | refine blk_drewN ?_ _ | refine blk_drew ?_ | refine blk_alloc ?_ _)); exact BK713.out⟩, ⟨by repeat (first | (with_reducible first | exact HB.out | apply below_alloc | apply pw_below_drewN | apply below_drew1 | refine below_set ?_ GE713.out) | exact HB.out)⟩⟩
 case round =>
  clear H'
  try clear c1
  try clear c2
  try clear p2
  try clear c4
  obtain ⟨x7_1, x9_1, rfl, rfl, HA, HK1, HO_8, BK713, HB⟩ := hrel
  cases gk with
  | zero => exact absurd HA.out (by simp [spec_LeastCost.l0])
  | succ k1 =>
   have H := HA.out
   clear HA
   simp only [spec_LeastCost.l0] at H
   by_cases c7 : x9_1 < (t714.length : Int)
   ·rw [if_pos c7] at H
    have c7b0 : decide (x9_1 < (t714.length : Int)) = true := decide_eq_true c7
    clear c7
    by_cases c8 : 0 ≤ x9_1
    ·rw [if_pos c8] at H
     have c8b0 : decide (0 ≤ x9_1) = true := decide_eq_true c8
     clear c8
     replace H := Option.bind_eq_some_iff.mp H
     obtain ⟨t718, A90, H⟩ := H
     replace H : (if x9_1 = 0 then (spec_LeastCost.l0 k1 l0 l1 t718 t714 (wrap64 (x9_1 + 1)) l2_0 l2_1 l2_2) else (if t718 < x7_1 then (spec_LeastCost.l0 k1 l0 l1 t718 t714 (wrap64 (x9_1 + 1)) l2_0 l2_1 l2_2) else (spec_LeastCost.l0 k1 l0 l1 x7_1 t714 (wrap64 (x9_1 + 1)) l2_0 l2_1 l2_2))) = some r := H
     have A9 := Aside0.mk A90
     clear A90
     by_cases c10 : x9_1 = 0
     ·rw [if_pos c10] at H
      have c10b0 : (x9_1 == 0) = true := beq_iff_eq.mpr c10
      have c10b1 : (x9_1 != 0) = false := bne_eq_false_iff_eq.mpr c10
      clear c10
      have H' := Aside0.mk H
      clear H
      obtain ⟨Ao11, co11, eo11⟩ := Kd.N_slice HO_8.out
      subst eo11
      try go_wp2
      have n0_ := Aside0.mk (Kd.N_drew HO_8.out)
      have n1_ := Aside0.mk (blk_drew BK713.out)
      have n2_ := Aside0.mk (below_drew1 HB.out)
      clear HO_8
      clear BK713
      clear HB
      have HO_8 := n0_
      have BK713 := n1_
      have HB := n2_
      clear n0_ n1_ n2_
      have p717 : 0 ≤ (x9_1 : Int) := of_decide_eq_true (by first | (with_reducible assumption) | assumption)
      have q717 : x9_1 < (t714.length : Int) := of_decide_eq_true (by first | (with_reducible assumption) | assumption)
      obtain ⟨ad717, A717_0, c717_0, e717, hx717_0, hl717_0, hi717_0⟩ := at_L11 (Kd.N_reads' HO_8.out).2.2 x9_1 p717 q717
      cases e717
      obtain ⟨ce717, hce717, hMe717, hcc717⟩ := Kd.N_get HO_8.out [] x9_1 p717 (by first | exact q717 | exact of_decide_eq_true (by first | (with_reducible assumption) | assumption) | (have e_ := (Kd.N_reads' HO_8.out).1; omega))
      obtain ⟨ua717_0, uc717_0, rfl, ul717_0, ge717_0⟩ := Kd.FK_slice_open hMe717
      have hv717_0 := hcc717 0 _ rfl
      rw [Nat.add_zero, show ((Kd.slice 122 k122)).sz = 1 from rfl, Nat.mul_one] at hv717_0
      replace hv717_0 := Option.some.inj (hv717_0.symm.trans hx717_0)
      injection hv717_0 with hva_ hvn_ hvc_
      rw [hva_] at ge717_0
      rw [hvc_] at ul717_0
      have HL717_0 := Aside0.mk (show Kd.V k122 122 _ w.heap.size _ _ (rd_L11 t714 x9_1) from Kd.V_mk ul717_0 ge717_0)
      clear hva_ hvn_ hvc_ ge717_0 ul717_0
      clear hcc717 hce717
      have HR717_0 := Aside0.mk hi717_0
      have HC717_0 := Aside0.mk hl717_0
      clear hi717_0 hl717_0
      replace p717 := eq_true p717
      replace q717 := eq_true q717
      refine start_ (n := 9) (S := fun w' => w'.cell? ⟨gb713, 0, none⟩ = some (.slice A2_0 l2_0.length c2_0) ∧ w'.cell? ⟨gb713, 1, none⟩ = some (.slice A2_1 l2_1.length c2_1) ∧ w'.cell? ⟨gb713, 2, none⟩ = some (.slice A2_2 l2_2.length c2_2) ∧ w'.cell? (ad717.add (x9_1).toNat) = some (.slice A717_0 (rd_L11 t714 x9_1).length c717_0)) (ds := []) (ba_ 9 0) (by kernel_rfl) rfl rfl ⟨(blk_cell BK713.out 0).trans rfl, (blk_cell BK713.out 1).trans rfl, (blk_cell BK713.out 2).trans rfl, hx717_0⟩ (fun hHeld => ?_); refine with_tabW spec_LeastCost.tab6 spec_LeastCost.bits6 (fun HT_ HW_ => ?_)
      generalize wr.drew = w12 at HO_8 BK713 HB HL717_0 HR717_0 hx717_0 hHeld ⊢
      refine pu_ 0 (some 20) (ba_ 9 1) rfl rfl (any_of HT_.out (by kernel_rfl)) ?_
      refine pu_ 1 (some 21) (ba_ 9 3) rfl rfl (any_of HT_.out (by kernel_rfl)) ?_
      refine pu_ 3 (some 23) (ba_ 9 11) rfl rfl (any_of HT_.out (by kernel_rfl)) ?_
      refine pu_ 4 (some 24) (ba_ 9 27) rfl rfl (any_of HT_.out (by kernel_rfl)) ?_
      refine pu_ 5 (some 25) (ba_ 9 59) rfl rfl (any_of HT_.out (by kernel_rfl)) ?_
      refine ta_ 2 (some 22) (ba_ 9 63) rfl rfl (take_ofW HT_.out HW_.out (by kernel_rfl)) hHeld (by rintro w' ⟨s0, s1, s2, s3⟩; go_simp; with_reducible rfl) ?_
      refine ta_ 6 (some 26) (ba_ 9 127) rfl rfl (take_ofW HT_.out HW_.out (by kernel_rfl)) hHeld (by rintro w' ⟨s0, s1, s2, s3⟩; go_simp; with_reducible rfl) ?_
      refine one_ (i := 7) (N := some 27) (ba_ 9 255) rfl rfl (one_of HT_.out (by kernel_rfl)) (by decide) (fun K hK => ?_)
      refine goes_ Try.func34 (by kernel_rfl) rfl #[.slice A0 l0.length c0, .slice A1 l1.length c1, .agg #[.slice A2_0 l2_0.length c2_0, .slice A2_1 l2_1.length c2_1, .slice A2_2 l2_2.length c2_2], .slice A717_0 (rd_L11 t714 x9_1).length c717_0] (by rfl) rfl rfl (by (try simp only [List.map_toArray, List.map_cons, List.map_nil]); first | done | rfl | (simp only [List.length_drop, List.length_take]; rfl)) ?_
      with_reducible refine (spec_MapCost.calls k1 _ _ l0 _ _ l1 _ _ l2_0 _ _ l2_1 _ _ l2_2 _ _ (rd_L11 t714 x9_1) t718 _ ?side1 ?side2 ?side3 ?side4 ?side5 ?side6 ?side7 ?side8 ?side9 ?side10 ?side11 ?side12 A9.out).mono ?_
      (case side1 => repeat (first | exact (Kd.C_below HR0.out HB.out) | (with_reducible refine Kd.C_alloc ?_ _) | (with_reducible refine Kd.C_drewN ?_ _) | (with_reducible refine Kd.C_drew ?_)))
      (case side2 => exact HC0.out)
      (case side3 => repeat (first | exact (Kd.C_below HR1.out HB.out) | (with_reducible refine Kd.C_alloc ?_ _) | (with_reducible refine Kd.C_drewN ?_ _) | (with_reducible refine Kd.C_drew ?_)))
      (case side4 => exact HC1.out)
      (case side5 => repeat (first | exact (Kd.C_below HR2_0.out HB.out) | (with_reducible refine Kd.C_alloc ?_ _) | (with_reducible refine Kd.C_drewN ?_ _) | (with_reducible refine Kd.C_drew ?_)))
      (case side6 => exact HC2_0.out)
      (case side7 => repeat (first | exact (Kd.C_below HR2_1.out HB.out) | (with_reducible refine Kd.C_alloc ?_ _) | (with_reducible refine Kd.C_drewN ?_ _) | (with_reducible refine Kd.C_drew ?_)))
      (case side8 => exact HC2_1.out)
      (case side9 => repeat (first | exact (Kd.C_below HR2_2.out HB.out) | (with_reducible refine Kd.C_alloc ?_ _) | (with_reducible refine Kd.C_drewN ?_ _) | (with_reducible refine Kd.C_drew ?_)))
      (case side10 => exact HC2_2.out)
      (case side11 => repeat (first | exact (by repeat (first | (with_reducible exact HR717_0.out) | (with_reducible refine Kd.C_alloc ?_ _) | (with_reducible refine Kd.C_drewN ?_ _) | (with_reducible refine Kd.C_drew ?_) | exact HR717_0.out)) | (with_reducible refine Kd.C_alloc ?_ _) | (with_reducible refine Kd.C_drewN ?_ _) | (with_reducible refine Kd.C_drew ?_)))
      (case side12 => exact HC717_0.out)
      rintro e w13 ⟨rfl, hb⟩
      have HS3_ := (hb.cell (World.block_lt_of_cell? _ _ (hHeld.2.2.2))).trans (hHeld.2.2.2)
      refine ⟨_, rfl, ?_⟩
      have n0_ := Aside0.mk (Kd.N_below (by (with_reducible repeat (first | apply Kd.N_alloc | apply Kd.N_drewN | apply Kd.N_drew)); exact HO_8.out) hb)
      have n1_ := Aside0.mk (Kd.V_below (by (with_reducible repeat (first | apply Kd.V_alloc | apply Kd.V_drewN | apply Kd.V_drew)); exact HL717_0.out) hb)
      have n2_ := Aside0.mk (blk_below (g := gb713) (o := .cells #[.slice A2_0 l2_0.length c2_0, .slice A2_1 l2_1.length c2_1, .slice A2_2 l2_2.length c2_2] 53 (0, 0)) (by (with_reducible repeat (first | refine blk_drewN ?_ _ | refine blk_drew ?_ | refine blk_alloc ?_ _)); exact BK713.out) hb)
      have n3_ := Aside0.mk (Kd.C_below (by repeat (first | (with_reducible exact HR717_0.out) | (with_reducible refine Kd.C_alloc ?_ _) | (with_reducible refine Kd.C_drewN ?_ _) | (with_reducible refine Kd.C_drew ?_) | exact HR717_0.out)) hb)
      have n4_ := Aside0.mk (below_step (by repeat (first | (with_reducible first | exact HB.out | apply below_alloc | apply pw_below_drewN | apply below_drew1 | refine below_set ?_ GE713.out) | exact HB.out)) hb)
      clear HO_8
      clear HL717_0
      clear BK713
      clear HR717_0
      clear HB
      have HO_8 := n0_
      have HL717_0 := n1_
      have BK713 := n2_
      have HR717_0 := n3_
      have HB := n4_
      clear n0_ n1_ n2_ n3_ n4_
      (try clear hb)
      (try clear hb2)
      (try clear hk)
      (try clear hi)
      refine hK.out _ _ ⟨(blk_cell BK713.out 0).trans rfl, (blk_cell BK713.out 1).trans rfl, (blk_cell BK713.out 2).trans rfl, HS3_⟩ (fun hHeld => ?_)
      clear hK K
      refine norm_ (a' := ?_) ?_ ?_
      rotate_left
      ·show Act.put _ (some 27) _ = _
       simp only [Act.put, List.setIfInBounds_toArray, List.set_cons_zero, List.set_cons_succ, i64_w, i32_w]
       rfl
      refine pu_ 8 (some 10) (ba_ 9 511) rfl rfl (any_of HT_.out (by kernel_rfl)) ?_
      refine done_ (done_of HT_.out (by kernel_rfl)) ?_
      try go_wp2
      go_roundg k1
      case measure => have := HK1.out; omega
      case rel => exact ⟨(t718), (wrap64 (x9_1 + 1)), (by first | rfl | (simp; done) | (simp [*]; done)), (by first | rfl | (simp; done) | (simp [*]; done)), H', ⟨by have := HK1.out; omega⟩, ⟨by (with_reducible repeat (first | apply Kd.N_alloc | apply Kd.N_drewN | apply Kd.N_drew)); exact HO_8.out⟩, ⟨by (with_reducible repeat (first | refine blk_drewN ?_ _ | refine blk_drew ?_ | refine blk_alloc ?_ _)); exact BK713.out⟩, ⟨by repeat (first | (with_reducible first | exact HB.out | apply below_alloc | apply pw_below_drewN | apply below_drew1 | refine below_set ?_ GE713.out) | exact HB.out)⟩⟩
     ·rw [if_neg c10] at H
      have c10b0 : (x9_1 == 0) = false := beq_eq_false_iff_ne.mpr c10
      have c10b1 : (x9_1 != 0) = true := bne_iff_ne.mpr c10
      by_cases c14 : t718 < x7_1
      ·rw [if_pos c14] at H
       have c14b0 : decide (t718 < x7_1) = true := decide_eq_true c14
       clear c14
       have H' := Aside0.mk H
       clear H
       obtain ⟨Ao15, co15, eo15⟩ := Kd.N_slice HO_8.out
       subst eo15
       try go_wp2
       have n0_ := Aside0.mk (Kd.N_drew HO_8.out)
       have n1_ := Aside0.mk (blk_drew BK713.out)
       have n2_ := Aside0.mk (below_drew1 HB.out)
       clear HO_8
       clear BK713
       clear HB
       have HO_8 := n0_
       have BK713 := n1_
       have HB := n2_
       clear n0_ n1_ n2_
       have p717 : 0 ≤ (x9_1 : Int) := of_decide_eq_true (by first | (with_reducible assumption) | assumption)
       have q717 : x9_1 < (t714.length : Int) := of_decide_eq_true (by first | (with_reducible assumption) | assumption)
       obtain ⟨ad717, A717_0, c717_0, e717, hx717_0, hl717_0, hi717_0⟩ := at_L11 (Kd.N_reads' HO_8.out).2.2 x9_1 p717 q717
       cases e717
       obtain ⟨ce717, hce717, hMe717, hcc717⟩ := Kd.N_get HO_8.out [] x9_1 p717 (by first | exact q717 | exact of_decide_eq_true (by first | (with_reducible assumption) | assumption) | (have e_ := (Kd.N_reads' HO_8.out).1; omega))
       obtain ⟨ua717_0, uc717_0, rfl, ul717_0, ge717_0⟩ := Kd.FK_slice_open hMe717
       have hv717_0 := hcc717 0 _ rfl
       rw [Nat.add_zero, show ((Kd.slice 122 k122)).sz = 1 from rfl, Nat.mul_one] at hv717_0
       replace hv717_0 := Option.some.inj (hv717_0.symm.trans hx717_0)
       injection hv717_0 with hva_ hvn_ hvc_
       rw [hva_] at ge717_0
       rw [hvc_] at ul717_0
       have HL717_0 := Aside0.mk (show Kd.V k122 122 _ w.heap.size _ _ (rd_L11 t714 x9_1) from Kd.V_mk ul717_0 ge717_0)
       clear hva_ hvn_ hvc_ ge717_0 ul717_0
       clear hcc717 hce717
       have HR717_0 := Aside0.mk hi717_0
       have HC717_0 := Aside0.mk hl717_0
       clear hi717_0 hl717_0
       replace p717 := eq_true p717
       replace q717 := eq_true q717
       refine start_ (n := 9) (S := fun w' => w'.cell? ⟨gb713, 0, none⟩ = some (.slice A2_0 l2_0.length c2_0) ∧ w'.cell? ⟨gb713, 1, none⟩ = some (.slice A2_1 l2_1.length c2_1) ∧ w'.cell? ⟨gb713, 2, none⟩ = some (.slice A2_2 l2_2.length c2_2) ∧ w'.cell? (ad717.add (x9_1).toNat) = some (.slice A717_0 (rd_L11 t714 x9_1).length c717_0)) (ds := []) (ba_ 9 0) (by kernel_rfl) rfl rfl ⟨(blk_cell BK713.out 0).trans rfl, (blk_cell BK713.out 1).trans rfl, (blk_cell BK713.out 2).trans rfl, hx717_0⟩ (fun hHeld => ?_); refine with_tabW spec_LeastCost.tab6 spec_LeastCost.bits6 (fun HT_ HW_ => ?_)
       generalize wr.drew = w16 at HO_8 BK713 HB HL717_0 HR717_0 hx717_0 hHeld ⊢
       refine pu_ 0 (some 20) (ba_ 9 1) rfl rfl (any_of HT_.out (by kernel_rfl)) ?_
       refine pu_ 1 (some 21) (ba_ 9 3) rfl rfl (any_of HT_.out (by kernel_rfl)) ?_
       refine pu_ 3 (some 23) (ba_ 9 11) rfl rfl (any_of HT_.out (by kernel_rfl)) ?_
       refine pu_ 4 (some 24) (ba_ 9 27) rfl rfl (any_of HT_.out (by kernel_rfl)) ?_
       refine pu_ 5 (some 25) (ba_ 9 59) rfl rfl (any_of HT_.out (by kernel_rfl)) ?_
       refine ta_ 2 (some 22) (ba_ 9 63) rfl rfl (take_ofW HT_.out HW_.out (by kernel_rfl)) hHeld (by rintro w' ⟨s0, s1, s2, s3⟩; go_simp; with_reducible rfl) ?_
       refine ta_ 6 (some 26) (ba_ 9 127) rfl rfl (take_ofW HT_.out HW_.out (by kernel_rfl)) hHeld (by rintro w' ⟨s0, s1, s2, s3⟩; go_simp; with_reducible rfl) ?_
       refine one_ (i := 7) (N := some 27) (ba_ 9 255) rfl rfl (one_of HT_.out (by kernel_rfl)) (by decide) (fun K hK => ?_)
       refine goes_ Try.func34 (by kernel_rfl) rfl #[.slice A0 l0.length c0, .slice A1 l1.length c1, .agg #[.slice A2_0 l2_0.length c2_0, .slice A2_1 l2_1.length c2_1, .slice A2_2 l2_2.length c2_2], .slice A717_0 (rd_L11 t714 x9_1).length c717_0] (by rfl) rfl rfl (by (try simp only [List.map_toArray, List.map_cons, List.map_nil]); first | done | rfl | (simp only [List.length_drop, List.length_take]; rfl)) ?_
       with_reducible refine (spec_MapCost.calls k1 _ _ l0 _ _ l1 _ _ l2_0 _ _ l2_1 _ _ l2_2 _ _ (rd_L11 t714 x9_1) t718 _ ?side1 ?side2 ?side3 ?side4 ?side5 ?side6 ?side7 ?side8 ?side9 ?side10 ?side11 ?side12 A9.out).mono ?_
       (case side1 => repeat (first | exact (Kd.C_below HR0.out HB.out) | (with_reducible refine Kd.C_alloc ?_ _) | (with_reducible refine Kd.C_drewN ?_ _) | (with_reducible refine Kd.C_drew ?_)))
       (case side2 => exact HC0.out)
       (case side3 => repeat (first | exact (Kd.C_below HR1.out HB.out) | (with_reducible refine Kd.C_alloc ?_ _) | (with_reducible refine Kd.C_drewN ?_ _) | (with_reducible refine Kd.C_drew ?_)))
       (case side4 => exact HC1.out)
       (case side5 => repeat (first | exact (Kd.C_below HR2_0.out HB.out) | (with_reducible refine Kd.C_alloc ?_ _) | (with_reducible refine Kd.C_drewN ?_ _) | (with_reducible refine Kd.C_drew ?_)))
       (case side6 => exact HC2_0.out)
       (case side7 => repeat (first | exact (Kd.C_below HR2_1.out HB.out) | (with_reducible refine Kd.C_alloc ?_ _) | (with_reducible refine Kd.C_drewN ?_ _) | (with_reducible refine Kd.C_drew ?_)))
       (case side8 => exact HC2_1.out)
       (case side9 => repeat (first | exact (Kd.C_below HR2_2.out HB.out) | (with_reducible refine Kd.C_alloc ?_ _) | (with_reducible refine Kd.C_drewN ?_ _) | (with_reducible refine Kd.C_drew ?_)))
       (case side10 => exact HC2_2.out)
       (case side11 => repeat (first | exact (by repeat (first | (with_reducible exact HR717_0.out) | (with_reducible refine Kd.C_alloc ?_ _) | (with_reducible refine Kd.C_drewN ?_ _) | (with_reducible refine Kd.C_drew ?_) | exact HR717_0.out)) | (with_reducible refine Kd.C_alloc ?_ _) | (with_reducible refine Kd.C_drewN ?_ _) | (with_reducible refine Kd.C_drew ?_)))
       (case side12 => exact HC717_0.out)
       rintro e w17 ⟨rfl, hb⟩
       have HS3_ := (hb.cell (World.block_lt_of_cell? _ _ (hHeld.2.2.2))).trans (hHeld.2.2.2)
       refine ⟨_, rfl, ?_⟩
       have n0_ := Aside0.mk (Kd.N_below (by (with_reducible repeat (first | apply Kd.N_alloc | apply Kd.N_drewN | apply Kd.N_drew)); exact HO_8.out) hb)
       have n1_ := Aside0.mk (Kd.V_below (by (with_reducible repeat (first | apply Kd.V_alloc | apply Kd.V_drewN | apply Kd.V_drew)); exact HL717_0.out) hb)
       have n2_ := Aside0.mk (blk_below (g := gb713) (o := .cells #[.slice A2_0 l2_0.length c2_0, .slice A2_1 l2_1.length c2_1, .slice A2_2 l2_2.length c2_2] 53 (0, 0)) (by (with_reducible repeat (first | refine blk_drewN ?_ _ | refine blk_drew ?_ | refine blk_alloc ?_ _)); exact BK713.out) hb)
       have n3_ := Aside0.mk (Kd.C_below (by repeat (first | (with_reducible exact HR717_0.out) | (with_reducible refine Kd.C_alloc ?_ _) | (with_reducible refine Kd.C_drewN ?_ _) | (with_reducible refine Kd.C_drew ?_) | exact HR717_0.out)) hb)
       have n4_ := Aside0.mk (below_step (by repeat (first | (with_reducible first | exact HB.out | apply below_alloc | apply pw_below_drewN | apply below_drew1 | refine below_set ?_ GE713.out) | exact HB.out)) hb)
       clear HO_8
       clear HL717_0
       clear BK713
       clear HR717_0
       clear HB
       have HO_8 := n0_
       have HL717_0 := n1_
       have BK713 := n2_
       have HR717_0 := n3_
       have HB := n4_
       clear n0_ n1_ n2_ n3_ n4_
       (try clear hb)
       (try clear hb2)
       (try clear hk)
       (try clear hi)
       refine hK.out _ _ ⟨(blk_cell BK713.out 0).trans rfl, (blk_cell BK713.out 1).trans rfl, (blk_cell BK713.out 2).trans rfl, HS3_⟩ (fun hHeld => ?_)
       clear hK K
       refine norm_ (a' := ?_) ?_ ?_
       rotate_left
       ·show Act.put _ (some 27) _ = _
        simp only [Act.put, List.setIfInBounds_toArray, List.set_cons_zero, List.set_cons_succ, i64_w, i32_w]
        rfl
       refine pu_ 8 (some 10) (ba_ 9 511) rfl rfl (any_of HT_.out (by kernel_rfl)) ?_
       refine done_ (done_of HT_.out (by kernel_rfl)) ?_
       try go_wp2
       go_roundg k1
       case measure => have := HK1.out; omega
       case rel => exact ⟨(t718), (wrap64 (x9_1 + 1)), (by first | rfl | (simp; done) | (simp [*]; done)), (by first | rfl | (simp; done) | (simp [*]; done)), H', ⟨by have := HK1.out; omega⟩, ⟨by (with_reducible repeat (first | apply Kd.N_alloc | apply Kd.N_drewN | apply Kd.N_drew)); exact HO_8.out⟩, ⟨by (with_reducible repeat (first | refine blk_drewN ?_ _ | refine blk_drew ?_ | refine blk_alloc ?_ _)); exact BK713.out⟩, ⟨by repeat (first | (with_reducible first | exact HB.out | apply below_alloc | apply pw_below_drewN | apply below_drew1 | refine below_set ?_ GE713.out) | exact HB.out)⟩⟩
      ·rw [if_neg c14] at H
       have c14b0 : decide (t718 < x7_1) = false := decide_eq_false c14
       clear c14
       have H' := Aside0.mk H
       clear H
       obtain ⟨Ao18, co18, eo18⟩ := Kd.N_slice HO_8.out
       subst eo18
       try go_wp2
       have n0_ := Aside0.mk (Kd.N_drew HO_8.out)
       have n1_ := Aside0.mk (blk_drew BK713.out)
       have n2_ := Aside0.mk (below_drew1 HB.out)
       clear HO_8
       clear BK713
       clear HB
       have HO_8 := n0_
       have BK713 := n1_
       have HB := n2_
       clear n0_ n1_ n2_
       have p717 : 0 ≤ (x9_1 : Int) := of_decide_eq_true (by first | (with_reducible assumption) | assumption)
       have q717 : x9_1 < (t714.length : Int) := of_decide_eq_true (by first | (with_reducible assumption) | assumption)
       obtain ⟨ad717, A717_0, c717_0, e717, hx717_0, hl717_0, hi717_0⟩ := at_L11 (Kd.N_reads' HO_8.out).2.2 x9_1 p717 q717
       cases e717
       obtain ⟨ce717, hce717, hMe717, hcc717⟩ := Kd.N_get HO_8.out [] x9_1 p717 (by first | exact q717 | exact of_decide_eq_true (by first | (with_reducible assumption) | assumption) | (have e_ := (Kd.N_reads' HO_8.out).1; omega))
       obtain ⟨ua717_0, uc717_0, rfl, ul717_0, ge717_0⟩ := Kd.FK_slice_open hMe717
       have hv717_0 := hcc717 0 _ rfl
       rw [Nat.add_zero, show ((Kd.slice 122 k122)).sz = 1 from rfl, Nat.mul_one] at hv717_0
       replace hv717_0 := Option.some.inj (hv717_0.symm.trans hx717_0)
       injection hv717_0 with hva_ hvn_ hvc_
       rw [hva_] at ge717_0
       rw [hvc_] at ul717_0
       have HL717_0 := Aside0.mk (show Kd.V k122 122 _ w.heap.size _ _ (rd_L11 t714 x9_1) from Kd.V_mk ul717_0 ge717_0)
       clear hva_ hvn_ hvc_ ge717_0 ul717_0
       clear hcc717 hce717
       have HR717_0 := Aside0.mk hi717_0
       have HC717_0 := Aside0.mk hl717_0
       clear hi717_0 hl717_0
       replace p717 := eq_true p717
       replace q717 := eq_true q717
       refine start_ (n := 9) (S := fun w' => w'.cell? ⟨gb713, 0, none⟩ = some (.slice A2_0 l2_0.length c2_0) ∧ w'.cell? ⟨gb713, 1, none⟩ = some (.slice A2_1 l2_1.length c2_1) ∧ w'.cell? ⟨gb713, 2, none⟩ = some (.slice A2_2 l2_2.length c2_2) ∧ w'.cell? (ad717.add (x9_1).toNat) = some (.slice A717_0 (rd_L11 t714 x9_1).length c717_0)) (ds := []) (ba_ 9 0) (by kernel_rfl) rfl rfl ⟨(blk_cell BK713.out 0).trans rfl, (blk_cell BK713.out 1).trans rfl, (blk_cell BK713.out 2).trans rfl, hx717_0⟩ (fun hHeld => ?_); refine with_tabW spec_LeastCost.tab6 spec_LeastCost.bits6 (fun HT_ HW_ => ?_)
       generalize wr.drew = w19 at HO_8 BK713 HB HL717_0 HR717_0 hx717_0 hHeld ⊢
       refine pu_ 0 (some 20) (ba_ 9 1) rfl rfl (any_of HT_.out (by kernel_rfl)) ?_
       refine pu_ 1 (some 21) (ba_ 9 3) rfl rfl (any_of HT_.out (by kernel_rfl)) ?_
       refine pu_ 3 (some 23) (ba_ 9 11) rfl rfl (any_of HT_.out (by kernel_rfl)) ?_
       refine pu_ 4 (some 24) (ba_ 9 27) rfl rfl (any_of HT_.out (by kernel_rfl)) ?_
       refine pu_ 5 (some 25) (ba_ 9 59) rfl rfl (any_of HT_.out (by kernel_rfl)) ?_
       refine ta_ 2 (some 22) (ba_ 9 63) rfl rfl (take_ofW HT_.out HW_.out (by kernel_rfl)) hHeld (by rintro w' ⟨s0, s1, s2, s3⟩; go_simp; with_reducible rfl) ?_
       refine ta_ 6 (some 26) (ba_ 9 127) rfl rfl (take_ofW HT_.out HW_.out (by kernel_rfl)) hHeld (by rintro w' ⟨s0, s1, s2, s3⟩; go_simp; with_reducible rfl) ?_
       refine one_ (i := 7) (N := some 27) (ba_ 9 255) rfl rfl (one_of HT_.out (by kernel_rfl)) (by decide) (fun K hK => ?_)
       refine goes_ Try.func34 (by kernel_rfl) rfl #[.slice A0 l0.length c0, .slice A1 l1.length c1, .agg #[.slice A2_0 l2_0.length c2_0, .slice A2_1 l2_1.length c2_1, .slice A2_2 l2_2.length c2_2], .slice A717_0 (rd_L11 t714 x9_1).length c717_0] (by rfl) rfl rfl (by (try simp only [List.map_toArray, List.map_cons, List.map_nil]); first | done | rfl | (simp only [List.length_drop, List.length_take]; rfl)) ?_
       with_reducible refine (spec_MapCost.calls k1 _ _ l0 _ _ l1 _ _ l2_0 _ _ l2_1 _ _ l2_2 _ _ (rd_L11 t714 x9_1) t718 _ ?side1 ?side2 ?side3 ?side4 ?side5 ?side6 ?side7 ?side8 ?side9 ?side10 ?side11 ?side12 A9.out).mono ?_
       (case side1 => repeat (first | exact (Kd.C_below HR0.out HB.out) | (with_reducible refine Kd.C_alloc ?_ _) | (with_reducible refine Kd.C_drewN ?_ _) | (with_reducible refine Kd.C_drew ?_)))
       (case side2 => exact HC0.out)
       (case side3 => repeat (first | exact (Kd.C_below HR1.out HB.out) | (with_reducible refine Kd.C_alloc ?_ _) | (with_reducible refine Kd.C_drewN ?_ _) | (with_reducible refine Kd.C_drew ?_)))
       (case side4 => exact HC1.out)
       (case side5 => repeat (first | exact (Kd.C_below HR2_0.out HB.out) | (with_reducible refine Kd.C_alloc ?_ _) | (with_reducible refine Kd.C_drewN ?_ _) | (with_reducible refine Kd.C_drew ?_)))
       (case side6 => exact HC2_0.out)
       (case side7 => repeat (first | exact (Kd.C_below HR2_1.out HB.out) | (with_reducible refine Kd.C_alloc ?_ _) | (with_reducible refine Kd.C_drewN ?_ _) | (with_reducible refine Kd.C_drew ?_)))
       (case side8 => exact HC2_1.out)
       (case side9 => repeat (first | exact (Kd.C_below HR2_2.out HB.out) | (with_reducible refine Kd.C_alloc ?_ _) | (with_reducible refine Kd.C_drewN ?_ _) | (with_reducible refine Kd.C_drew ?_)))
       (case side10 => exact HC2_2.out)
       (case side11 => repeat (first | exact (by repeat (first | (with_reducible exact HR717_0.out) | (with_reducible refine Kd.C_alloc ?_ _) | (with_reducible refine Kd.C_drewN ?_ _) | (with_reducible refine Kd.C_drew ?_) | exact HR717_0.out)) | (with_reducible refine Kd.C_alloc ?_ _) | (with_reducible refine Kd.C_drewN ?_ _) | (with_reducible refine Kd.C_drew ?_)))
       (case side12 => exact HC717_0.out)
       rintro e w20 ⟨rfl, hb⟩
       have HS3_ := (hb.cell (World.block_lt_of_cell? _ _ (hHeld.2.2.2))).trans (hHeld.2.2.2)
       refine ⟨_, rfl, ?_⟩
       have n0_ := Aside0.mk (Kd.N_below (by (with_reducible repeat (first | apply Kd.N_alloc | apply Kd.N_drewN | apply Kd.N_drew)); exact HO_8.out) hb)
       have n1_ := Aside0.mk (Kd.V_below (by (with_reducible repeat (first | apply Kd.V_alloc | apply Kd.V_drewN | apply Kd.V_drew)); exact HL717_0.out) hb)
       have n2_ := Aside0.mk (blk_below (g := gb713) (o := .cells #[.slice A2_0 l2_0.length c2_0, .slice A2_1 l2_1.length c2_1, .slice A2_2 l2_2.length c2_2] 53 (0, 0)) (by (with_reducible repeat (first | refine blk_drewN ?_ _ | refine blk_drew ?_ | refine blk_alloc ?_ _)); exact BK713.out) hb)
       have n3_ := Aside0.mk (Kd.C_below (by repeat (first | (with_reducible exact HR717_0.out) | (with_reducible refine Kd.C_alloc ?_ _) | (with_reducible refine Kd.C_drewN ?_ _) | (with_reducible refine Kd.C_drew ?_) | exact HR717_0.out)) hb)
       have n4_ := Aside0.mk (below_step (by repeat (first | (with_reducible first | exact HB.out | apply below_alloc | apply pw_below_drewN | apply below_drew1 | refine below_set ?_ GE713.out) | exact HB.out)) hb)
       clear HO_8
       clear HL717_0
       clear BK713
       clear HR717_0
       clear HB
       have HO_8 := n0_
       have HL717_0 := n1_
       have BK713 := n2_
       have HR717_0 := n3_
       have HB := n4_
       clear n0_ n1_ n2_ n3_ n4_
       (try clear hb)
       (try clear hb2)
       (try clear hk)
       (try clear hi)
       refine hK.out _ _ ⟨(blk_cell BK713.out 0).trans rfl, (blk_cell BK713.out 1).trans rfl, (blk_cell BK713.out 2).trans rfl, HS3_⟩ (fun hHeld => ?_)
       clear hK K
       refine norm_ (a' := ?_) ?_ ?_
       rotate_left
       ·show Act.put _ (some 27) _ = _
        simp only [Act.put, List.setIfInBounds_toArray, List.set_cons_zero, List.set_cons_succ, i64_w, i32_w]
        rfl
       refine pu_ 8 (some 10) (ba_ 9 511) rfl rfl (any_of HT_.out (by kernel_rfl)) ?_
       refine done_ (done_of HT_.out (by kernel_rfl)) ?_
       try go_wp2
       go_roundg k1
       case measure => have := HK1.out; omega
       case rel => exact ⟨(x7_1), (wrap64 (x9_1 + 1)), (by first | rfl | (simp; done) | (simp [*]; done)), (by first | rfl | (simp; done) | (simp [*]; done)), H', ⟨by have := HK1.out; omega⟩, ⟨by (with_reducible repeat (first | apply Kd.N_alloc | apply Kd.N_drewN | apply Kd.N_drew)); exact HO_8.out⟩, ⟨by (with_reducible repeat (first | refine blk_drewN ?_ _ | refine blk_drew ?_ | refine blk_alloc ?_ _)); exact BK713.out⟩, ⟨by repeat (first | (with_reducible first | exact HB.out | apply below_alloc | apply pw_below_drewN | apply below_drew1 | refine below_set ?_ GE713.out) | exact HB.out)⟩⟩
    ·rw [if_neg c8] at H
     exact absurd H (by simp)
   ·rw [if_neg c7] at H
    have c7b0 : decide (x9_1 < (t714.length : Int)) = false := decide_eq_false c7
    clear c7
    obtain rfl := Option.some.inj H
    obtain ⟨Ao21, co21, eo21⟩ := Kd.N_slice HO_8.out
    subst eo21
    go_wp2
    go_ret
    exact ⟨by first | rfl | (simp [errW_none, errW_some] <;> rfl) | (simp [*, errW_none, errW_some] <;> rfl), by repeat (first | (with_reducible first | exact HB.out | apply below_alloc | apply pw_below_drewN | apply below_drew1 | refine below_set ?_ GE713.out) | exact HB.out)⟩
end Go.Proofs.Ytbifdckfglejkaa.X
namespace Go.Proofs.Ytbifdckfglejkaa.X
open Go.RowKit Go.Proofs.YtbifdckfglejkaaW.PrintWords Go.Proofs.YtbifdckfglejkaaW.PrintLast Go.Proofs.YtbifdckfglejkaaW.PrintMore
attribute [local go_sem] max2_int min2_int max_two min_two max_three min_three max_four min_four   -- for this text's walks alone
set_option linter.unusedVariables false
set_option linter.unusedSimpArgs false
def impl_within.f (a0 : Int) (a1 : Int) (a2 : Int) : Option (Bool) := if a1 ≤ a0 then (some (decide (a0 ≤ a2))) else (some false)
set_option maxHeartbeats 8000000 in
set_option maxRecDepth 100000 in
theorem impl_within.calls (a0 : Int) (a1 : Int) (a2 : Int) (r : Bool) (w : World) (h : impl_within.f a0 a1 a2 = some r) :
  Calls Try.prog 117 #[.int .i64 a0, .int .i64 a1, .int .i64 a2] w fun e w' => e = .returned (.bool r) ∧ Drawn0 w w' := by
 have H : (if a1 ≤ a0 then (some (decide (a0 ≤ a2))) else (some false)) = some r := h
 clear h
 by_cases c4 : a1 ≤ a0
 ·rw [if_pos c4] at H
  have c4b0 : decide (a1 ≤ a0) = true := decide_eq_true c4
  clear c4
  obtain rfl := Option.some.inj H
  go_enter Try.func117, Try.ntmps117
  go_wp2
  go_ret
  exact ⟨by first | rfl | (simp; done) | (simp [*]; done), by repeat (first | exact Drawn0.refl _ | apply Drawn0.step)⟩
 ·rw [if_neg c4] at H
  have c4b0 : decide (a1 ≤ a0) = false := decide_eq_false c4
  clear c4
  obtain rfl := Option.some.inj H
  go_enter Try.func117, Try.ntmps117
  go_wp2
  go_ret
  exact ⟨by first | rfl | (simp; done) | (simp [*]; done), by repeat (first | exact Drawn0.refl _ | apply Drawn0.step)⟩
end Go.Proofs.Ytbifdckfglejkaa.X
namespace Go.Proofs.Ytbifdckfglejkaa.X
open Go.RowKit Go.Proofs.YtbifdckfglejkaaW.PrintWords Go.Proofs.YtbifdckfglejkaaW.PrintLast Go.Proofs.YtbifdckfglejkaaW.PrintMore
attribute [local go_sem] max2_int min2_int max_two min_two max_three min_three max_four min_four   -- for this text's walks alone
set_option linter.unusedVariables false
set_option linter.unusedSimpArgs false
def impl_LabelOk.f (a0 : Int) : Option (Bool) := (impl_within.f a0 0 5).bind fun t199 => (some t199)
set_option maxHeartbeats 8000000 in
set_option maxRecDepth 100000 in
theorem impl_LabelOk.calls (a0 : Int) (r : Bool) (w : World) (h : impl_LabelOk.f a0 = some r) :
  Calls Try.prog 128 #[.int .i64 a0] w fun e w' => e = .returned (.bool r) ∧ Drawn0 w w' := by
 have H : ((impl_within.f a0 0 5).bind fun t199 => (some t199)) = some r := h
 clear h
 replace H := Option.bind_eq_some_iff.mp H
 obtain ⟨t199, A20, H⟩ := H
 replace H : (some t199) = some r := H
 have A2 := Aside0.mk A20
 clear A20
 obtain rfl := Option.some.inj H
 go_enter Try.func128, Try.ntmps128
 go_wp2_with (first | ((with_reducible refine gate_callee (f := 117) rfl ?_); refine goesL_ (some 4) rfl rfl Try.func117 (by kernel_rfl) rfl #[.int .i64 a0, .int .i64 0, .int .i64 5] rfl (by (try simp only [List.map_toArray, List.map_cons, List.map_nil]); first | done | rfl | (simp only [List.length_drop, List.length_take]; rfl)) ?_; (with_reducible refine (impl_within.calls a0 0 5 t199 _ A2.out).mono ?_); rintro e w' ⟨rfl, ⟨nd, rfl⟩⟩; refine ⟨_, rfl, ?_⟩))
 go_ret
 exact ⟨by first | rfl | (simp; done) | (simp [*]; done), by repeat (first | exact Drawn0.refl _ | apply Drawn0.step)⟩
end Go.Proofs.Ytbifdckfglejkaa.X
namespace Go.Proofs.Ytbifdckfglejkaa.X
open Go.RowKit Go.Proofs.YtbifdckfglejkaaW.PrintWords Go.Proofs.YtbifdckfglejkaaW.PrintLast Go.Proofs.YtbifdckfglejkaaW.PrintMore
attribute [local go_sem] max2_int min2_int max_two min_two max_three min_three max_four min_four   -- for this text's walks alone
set_option linter.unusedVariables false
set_option linter.unusedSimpArgs false
def impl_depthOk.f (l0 : List (S90)) (a1 : Int) : Option (Bool) := if a1 = 0 then (if 0 < (l0.length : Int) then (some (((rd_T90 l0 0).f1) == 0)) else (none)) else (if 0 ≤ a1 then (if a1 < (l0.length : Int) then (if 0 ≤ (wrap64 (a1 - 1)) then (if (wrap64 (a1 - 1)) < (l0.length : Int) then ((impl_within.f ((rd_T90 l0 a1).f1) 1 (wrap64 (((rd_T90 l0 (wrap64 (a1 - 1))).f1) + 1))).bind fun t394 => (some t394)) else (none)) else (none)) else (none)) else (none))
set_option maxHeartbeats 8000000 in
set_option maxRecDepth 100000 in
theorem impl_depthOk.calls (A0 : Option Addr) (c0 : Nat) (l0 : List (S90)) (a1 : Int) (r : Bool) (w : World) (hr0 : Kd.C k90 w A0 l0.length l0) (hc0 : l0.length ≤ c0) (h : impl_depthOk.f l0 a1 = some r) :
  Calls Try.prog 131 #[.slice A0 l0.length c0, .int .i64 a1] w fun e w' => e = .returned (.bool r) ∧ Drawn0 w w' := by
 have HR0 := Aside0.mk hr0
 have HC0 := Aside0.mk hc0
 clear hr0 hc0
 have H : (if a1 = 0 then (if 0 < (l0.length : Int) then (some (((rd_T90 l0 0).f1) == 0)) else (none)) else (if 0 ≤ a1 then (if a1 < (l0.length : Int) then (if 0 ≤ (wrap64 (a1 - 1)) then (if (wrap64 (a1 - 1)) < (l0.length : Int) then ((impl_within.f ((rd_T90 l0 a1).f1) 1 (wrap64 (((rd_T90 l0 (wrap64 (a1 - 1))).f1) + 1))).bind fun t394 => (some t394)) else (none)) else (none)) else (none)) else (none))) = some r := h
 clear h
 by_cases c3 : a1 = 0
 ·rw [if_pos c3] at H
  have c3b0 : (a1 == 0) = true := beq_iff_eq.mpr c3
  have c3b1 : (a1 != 0) = false := bne_eq_false_iff_eq.mpr c3
  clear c3
  by_cases c4 : 0 < (l0.length : Int)
  ·rw [if_pos c4] at H
   have c4b0 : decide (0 < (l0.length : Int)) = true := decide_eq_true c4
   have c4b1 : decide (0 < l0.length) = true := decide_eq_true (by omega)
   clear c4
   obtain rfl := Option.some.inj H
   have p391 : 0 ≤ (0 : Int) := (by omega)
   have q391 : 0 < (l0.length : Int) := of_decide_eq_true (by first | (with_reducible assumption) | assumption)
   obtain ⟨ad391, e391, hx391_0, hx391_1⟩ := at_T90 HR0.out 0 p391 q391
   cases e391
   have qi391 : (0 < l0.length) = True := eq_true (by omega)
   (try rw [show ((0 : Int)).toNat = 0 from rfl] at hx391_0)
   (try rw [show 0 * 2 = 0 from rfl] at hx391_0)
   (try rw [Addr.add_zero'] at hx391_0)
   (try rw [show ((0 : Int)).toNat = 0 from rfl] at hx391_1)
   (try rw [show 0 * 2 = 0 from rfl] at hx391_1)
   (try rw [Addr.add_zero'] at hx391_1)
   replace p391 := eq_true p391
   replace q391 := eq_true q391
   go_enter Try.func131, Try.ntmps131
   go_wp2
   repeat (go_quiet (fail); try go_wp2)
   go_ret
   exact ⟨by first | rfl | (simp; done) | (simp [*]; done), by repeat (first | exact Drawn0.refl _ | apply Drawn0.step)⟩
  ·rw [if_neg c4] at H
   exact absurd H (by simp)
 ·rw [if_neg c3] at H
  have c3b0 : (a1 == 0) = false := beq_eq_false_iff_ne.mpr c3
  have c3b1 : (a1 != 0) = true := bne_iff_ne.mpr c3
  by_cases c5 : 0 ≤ a1
  ·rw [if_pos c5] at H
   have c5b0 : decide (0 ≤ a1) = true := decide_eq_true c5
   clear c5
   by_cases c6 : a1 < (l0.length : Int)
   ·rw [if_pos c6] at H
    have c6b0 : decide (a1 < (l0.length : Int)) = true := decide_eq_true c6
    clear c6
    obtain ⟨ji7, hji7⟩ : ∃ j_ : Int, (wrap64 (a1 - 1)) = j_ := ⟨_, rfl⟩
    replace H : (if 0 ≤ (ji7) then (if (ji7) < (l0.length : Int) then ((impl_within.f ((rd_T90 l0 a1).f1) 1 (wrap64 (((rd_T90 l0 (ji7)).f1) + 1))).bind fun t394 => (some t394)) else (none)) else (none)) = some r := by first | (rw [hji7] at H; exact H) | (simp only [hji7] at H ⊢; exact H)
    have hji7w : (IntKind.i64.wrap (a1 - 1)) = ji7 := (i64_w _).trans hji7
    by_cases c8 : 0 ≤ (ji7)
    ·rw [if_pos c8] at H
     have c8b0 : decide (0 ≤ (ji7)) = true := decide_eq_true c8
     clear c8
     by_cases c9 : (ji7) < (l0.length : Int)
     ·rw [if_pos c9] at H
      have c9b0 : decide ((ji7) < (l0.length : Int)) = true := decide_eq_true c9
      clear c9
      replace H := Option.bind_eq_some_iff.mp H
      obtain ⟨t394, A100, H⟩ := H
      replace H : (some t394) = some r := H
      have A10 := Aside0.mk A100
      clear A100
      obtain rfl := Option.some.inj H
      have p392 : 0 ≤ (a1 : Int) := of_decide_eq_true (by first | (with_reducible assumption) | assumption)
      have q392 : a1 < (l0.length : Int) := of_decide_eq_true (by first | (with_reducible assumption) | assumption)
      obtain ⟨ad392, e392, hx392_0, hx392_1⟩ := at_T90 HR0.out a1 p392 q392
      cases e392
      replace p392 := eq_true p392
      replace q392 := eq_true q392
      have p393 : 0 ≤ ((ji7) : Int) := of_decide_eq_true (by first | (with_reducible assumption) | assumption)
      have q393 : (ji7) < (l0.length : Int) := of_decide_eq_true (by first | (with_reducible assumption) | assumption)
      obtain ⟨ad393, e393, hx393_0, hx393_1⟩ := at_T90 HR0.out (ji7) p393 q393
      obtain rfl : ad392 = ad393 := (by injection e393)
      replace p393 := eq_true p393
      replace q393 := eq_true q393
      go_enter Try.func131, Try.ntmps131
      go_wp2_with (first | (go_at_call 117; (with_reducible refine (impl_within.calls ((rd_T90 l0 a1).f1) 1 (wrap64 (((rd_T90 l0 (ji7)).f1) + 1)) t394 _ A10.out).mono ?_); rintro e w' ⟨rfl, ⟨nd, rfl⟩⟩; (try first | exact ⟨rfl, _, World.drewN_drewN _ _ _⟩ | exact ⟨rfl, _, Eq.trans (World.drewN_drewN _ _ _) (congrArg (World.drewN _) (Nat.add_assoc _ _ _))⟩)))
      repeat (go_quiet (first | (go_at_call 117; (with_reducible refine (impl_within.calls ((rd_T90 l0 a1).f1) 1 (wrap64 (((rd_T90 l0 (ji7)).f1) + 1)) t394 _ A10.out).mono ?_); rintro e w' ⟨rfl, ⟨nd, rfl⟩⟩; (try first | exact ⟨rfl, _, World.drewN_drewN _ _ _⟩ | exact ⟨rfl, _, Eq.trans (World.drewN_drewN _ _ _) (congrArg (World.drewN _) (Nat.add_assoc _ _ _))⟩))); try go_wp2_with (first | (go_at_call 117; (with_reducible refine (impl_within.calls ((rd_T90 l0 a1).f1) 1 (wrap64 (((rd_T90 l0 (ji7)).f1) + 1)) t394 _ A10.out).mono ?_); rintro e w' ⟨rfl, ⟨nd, rfl⟩⟩; (try first | exact ⟨rfl, _, World.drewN_drewN _ _ _⟩ | exact ⟨rfl, _, Eq.trans (World.drewN_drewN _ _ _) (congrArg (World.drewN _) (Nat.add_assoc _ _ _))⟩))))
      go_ret
      exact ⟨by first | rfl | (simp; done) | (simp only [← hji7] <;> (first | rfl | simp)) | (simp [*]; done), by repeat (first | exact Drawn0.refl _ | apply Drawn0.step)⟩
     ·rw [if_neg c9] at H
      exact absurd H (by simp)
    ·rw [if_neg c8] at H
     exact absurd H (by simp)
   ·rw [if_neg c6] at H
    exact absurd H (by simp)
  ·rw [if_neg c5] at H
   exact absurd H (by simp)
end Go.Proofs.Ytbifdckfglejkaa.X
namespace Go.Proofs.Ytbifdckfglejkaa.X
open Go.RowKit Go.Proofs.YtbifdckfglejkaaW.PrintWords Go.Proofs.YtbifdckfglejkaaW.PrintLast Go.Proofs.YtbifdckfglejkaaW.PrintMore
attribute [local go_sem] max2_int min2_int max_two min_two max_three min_three max_four min_four   -- for this text's walks alone
set_option linter.unusedVariables false
set_option linter.unusedSimpArgs false
def impl_TreeOk.l0 : Nat → List (S90) → List (S90) → Int → Int → Option (Bool)
 | 0, _, _, _, _ => none
 | k + 1, x0, x9, x10, x11 => if x11 < x10 then (if 0 ≤ x11 then (if x11 < (x9.length : Int) then ((impl_LabelOk.f ((rd_T90 x9 x11).f0)).bind fun t398 => (if t398 = true then ((impl_within.f ((rd_T90 x9 x11).f1) 0 12).bind fun t399 => (if t399 = true then ((impl_depthOk.f x0 x11).bind fun t400 => (if t400 = true then (impl_TreeOk.l0 k x0 x9 x10 (wrap64 (x11 + 1))) else (some false))) else (some false))) else (some false))) else (none)) else (none)) else (some true)
def impl_TreeOk.f (k : Nat) (l0 : List (S90)) : Option (Bool) := (impl_within.f (l0.length : Int) 1 24).bind fun t395 => (if t395 = true then (impl_TreeOk.l0 k l0 l0 (l0.length : Int) 0) else (some false))
set_option maxHeartbeats 8000000 in
set_option maxRecDepth 100000 in
theorem impl_TreeOk.calls (k : Nat) (A0 : Option Addr) (c0 : Nat) (l0 : List (S90)) (r : Bool) (w : World) (hr0 : Kd.C k90 w A0 l0.length l0) (hc0 : l0.length ≤ c0) (h : impl_TreeOk.f k l0 = some r) :
  Calls Try.prog 102 #[.slice A0 l0.length c0] w fun e w' => e = .returned (.bool r) ∧ Below w.heap.size w w' := by
 have hu90 := Try.underlying90
 have HR0 := Aside0.mk hr0
 have HC0 := Aside0.mk hc0
 clear hr0 hc0
 have HB := Aside0.mk (Below.refl w.heap.size w)
 have H : ((impl_within.f (l0.length : Int) 1 24).bind fun t395 => (if t395 = true then (impl_TreeOk.l0 k l0 l0 (l0.length : Int) 0) else (some false))) = some r := h
 clear h
 replace H := Option.bind_eq_some_iff.mp H
 obtain ⟨t395, A20, H⟩ := H
 replace H : (if t395 = true then (impl_TreeOk.l0 k l0 l0 (l0.length : Int) 0) else (some false)) = some r := H
 have A2 := Aside0.mk A20
 clear A20
 by_cases c3 : t395 = true
 ·subst c3
  have H1 : (impl_TreeOk.l0 k l0 l0 (l0.length : Int) 0) = some r := by rw [if_pos rfl] at H; exact H
  clear H
  have H := H1
  clear H1
  have H' := Aside0.mk H
  clear H
  go_enter Try.func102, Try.ntmps102
  go_wp2_with (first | ((with_reducible refine gate_callee (f := 117) rfl ?_); refine goesL_ (some 7) rfl rfl Try.func117 (by kernel_rfl) rfl #[.int .i64 (l0.length : Int), .int .i64 1, .int .i64 24] rfl (by (try simp only [List.map_toArray, List.map_cons, List.map_nil]); first | done | rfl | (simp only [List.length_drop, List.length_take]; rfl)) ?_; (with_reducible refine (impl_within.calls (l0.length : Int) 1 24 true _ A2.out).mono ?_); rintro e w' ⟨rfl, ⟨nd, rfl⟩⟩; refine ⟨_, rfl, ?_⟩))
  go_loopg [11] k (fun kq v11 w' => ∃ (x11_1 : Int), v11 = .int .i64 x11_1 ∧ Aside0 (impl_TreeOk.l0 kq l0 l0 (l0.length : Int) x11_1 = some r) ∧ Aside0 (kq ≤ k) ∧ Aside0 (Below w.heap.size w w'))
  case atStart => exact ⟨(0), (by first | rfl | (simp; done) | (simp [*]; done)), H', ⟨Nat.le_refl _⟩, ⟨by repeat (first | (with_reducible first | exact HB.out | apply below_alloc | apply pw_below_drewN | apply below_drew1) | exact HB.out)⟩⟩
  case round =>
   clear H'
   try clear c1
   try clear p2
   try clear c3
   obtain ⟨x11_1, rfl, HA, HK1, HB⟩ := hrel
   cases gk with
   | zero => exact absurd HA.out (by simp [impl_TreeOk.l0])
   | succ k1 =>
    have H := HA.out
    clear HA
    simp only [impl_TreeOk.l0] at H
    by_cases c4 : x11_1 < (l0.length : Int)
    ·rw [if_pos c4] at H
     have c4b0 : decide (x11_1 < (l0.length : Int)) = true := decide_eq_true c4
     clear c4
     by_cases c5 : 0 ≤ x11_1
     ·rw [if_pos c5] at H
      have c5b0 : decide (0 ≤ x11_1) = true := decide_eq_true c5
      clear c5
      by_cases c6 : x11_1 < (l0.length : Int)
      ·rw [if_pos c6] at H
       have c6b0 : decide (x11_1 < (l0.length : Int)) = true := decide_eq_true c6
       clear c6
       replace H := Option.bind_eq_some_iff.mp H
       obtain ⟨t398, A70, H⟩ := H
       replace H : (if t398 = true then ((impl_within.f ((rd_T90 l0 x11_1).f1) 0 12).bind fun t399 => (if t399 = true then ((impl_depthOk.f l0 x11_1).bind fun t400 => (if t400 = true then (impl_TreeOk.l0 k1 l0 l0 (l0.length : Int) (wrap64 (x11_1 + 1))) else (some false))) else (some false))) else (some false)) = some r := H
       have A7 := Aside0.mk A70
       clear A70
       by_cases c8 : t398 = true
       ·subst c8
        have H1 : ((impl_within.f ((rd_T90 l0 x11_1).f1) 0 12).bind fun t399 => (if t399 = true then ((impl_depthOk.f l0 x11_1).bind fun t400 => (if t400 = true then (impl_TreeOk.l0 k1 l0 l0 (l0.length : Int) (wrap64 (x11_1 + 1))) else (some false))) else (some false))) = some r := by rw [if_pos rfl] at H; exact H
        clear H
        have H := H1
        clear H1
        replace H := Option.bind_eq_some_iff.mp H
        obtain ⟨t399, A90, H⟩ := H
        replace H : (if t399 = true then ((impl_depthOk.f l0 x11_1).bind fun t400 => (if t400 = true then (impl_TreeOk.l0 k1 l0 l0 (l0.length : Int) (wrap64 (x11_1 + 1))) else (some false))) else (some false)) = some r := H
        have A9 := Aside0.mk A90
        clear A90
        by_cases c10 : t399 = true
        ·subst c10
         have H1 : ((impl_depthOk.f l0 x11_1).bind fun t400 => (if t400 = true then (impl_TreeOk.l0 k1 l0 l0 (l0.length : Int) (wrap64 (x11_1 + 1))) else (some false))) = some r := by rw [if_pos rfl] at H; exact H
         clear H
         have H := H1
         clear H1
         replace H := Option.bind_eq_some_iff.mp H
         obtain ⟨t400, A110, H⟩ := H
         replace H : (if t400 = true then (impl_TreeOk.l0 k1 l0 l0 (l0.length : Int) (wrap64 (x11_1 + 1))) else (some false)) = some r := H
         have A11 := Aside0.mk A110
         clear A110
         by_cases c12 : t400 = true
         ·subst c12
          have H1 : (impl_TreeOk.l0 k1 l0 l0 (l0.length : Int) (wrap64 (x11_1 + 1))) = some r := by rw [if_pos rfl] at H; exact H
          clear H
          have H := H1
          clear H1
          have H' := Aside0.mk H
          clear H
          have p396 : 0 ≤ (x11_1 : Int) := of_decide_eq_true (by first | (with_reducible assumption) | assumption)
          have q396 : x11_1 < (l0.length : Int) := of_decide_eq_true (by first | (with_reducible assumption) | assumption)
          obtain ⟨ad396, e396, hx396_0, hx396_1⟩ := at_T90 HR0.out x11_1 p396 q396
          cases e396
          replace hx396_0 := (HB.out.cell (World.block_lt_of_cell? w _ hx396_0)).trans hx396_0
          replace hx396_1 := (HB.out.cell (World.block_lt_of_cell? w _ hx396_1)).trans hx396_1
          replace p396 := eq_true p396
          replace q396 := eq_true q396
          go_wp2_with (first | ((with_reducible refine gate_dst (N := 4) rfl ?_); refine box_event ?hg (N := 4) ?hd (cs := #[.int .i64 0, .int .i64 0]) (t := 90) ?hr ?_; (case hd => rfl); (case hg => rfl); (case hr => first | (go_simp; done) | (go_simp; rfl)); intro gb397 hg w13 hbox hb; have n0_ := Aside0.mk (below_step (by repeat (first | (with_reducible first | exact HB.out | apply below_alloc | apply pw_below_drewN | apply below_drew1) | exact HB.out)) hb); have n1_ := Aside0.mk (hbox); have n2_ := Aside0.mk ((by rw [hg]; exact (below_size (by repeat (first | (with_reducible first | exact HB.out | apply below_alloc | apply pw_below_drewN | apply below_drew1) | exact HB.out))) : w.heap.size ≤ gb397)); have n3_ := Aside0.mk ((by rw [hg]; exact (below_size (by repeat (first | (with_reducible first | exact HB.out | apply below_alloc | apply pw_below_drewN | apply below_drew1) | exact HB.out))) : w.heap.size ≤ gb397)); clear HB; have HB := n0_; have BK397 := n1_; have GW397 := n2_; have GE397 := n3_; clear n0_ n1_ n2_ n3_; clear hb hbox hg; have hcz14_0 : w13.cell? ⟨gb397, 0, none⟩ = some (.int .i64 0) := (blk_cell BK397.out 0).trans rfl; have hcz14_1 : w13.cell? ⟨gb397, 1, none⟩ = some (.int .i64 0) := (blk_cell BK397.out 1).trans rfl; have hfz14_0 := blk_frozen BK397.out 0; have hfz14_1 := blk_frozen BK397.out 1) | ((with_reducible refine gate_callee (f := 128) rfl ?_); refine goesL_ (some 18) rfl rfl Try.func128 (by kernel_rfl) rfl #[.int .i64 ((rd_T90 l0 x11_1).f0)] rfl (by (try simp only [List.map_toArray, List.map_cons, List.map_nil]); first | done | rfl | (simp only [List.length_drop, List.length_take]; rfl)) ?_; (with_reducible refine (impl_LabelOk.calls ((rd_T90 l0 x11_1).f0) true _ A7.out).mono ?_); rintro e w' ⟨rfl, ⟨nd, rfl⟩⟩; refine ⟨_, rfl, ?_⟩) | (go_at_call 117; (with_reducible refine (impl_within.calls ((rd_T90 l0 x11_1).f1) 0 12 true _ A9.out).mono ?_); rintro e w' ⟨rfl, ⟨nd, rfl⟩⟩) | (go_at_call 131; (with_reducible refine (impl_depthOk.calls _ _ l0 x11_1 true _ ?side1 ?side2 A11.out).mono ?_); (case side1 => exact Kd.C_below HR0.out (by repeat (first | (with_reducible first | exact HB.out | apply below_alloc | apply pw_below_drewN | apply below_drew1 | refine below_set ?_ GE397.out) | exact HB.out))); (case side2 => exact HC0.out); rintro e w' ⟨rfl, ⟨nd, rfl⟩⟩))
          go_roundg k1
          case measure => have := HK1.out; omega
          case rel => exact ⟨(wrap64 (x11_1 + 1)), (by first | rfl | (simp; done) | (simp [*]; done)), H', ⟨by have := HK1.out; omega⟩, ⟨by repeat (first | (with_reducible first | exact HB.out | apply below_alloc | apply pw_below_drewN | apply below_drew1 | refine below_set ?_ GE397.out) | exact HB.out)⟩⟩
         ·replace c12 := Bool.eq_false_iff.mpr c12
          subst c12
          have H1 : (some false) = some r := by rw [if_neg (show ¬ (false = true) by decide)] at H; exact H
          clear H
          have H := H1
          clear H1
          obtain rfl := Option.some.inj H
          have p396 : 0 ≤ (x11_1 : Int) := of_decide_eq_true (by first | (with_reducible assumption) | assumption)
          have q396 : x11_1 < (l0.length : Int) := of_decide_eq_true (by first | (with_reducible assumption) | assumption)
          obtain ⟨ad396, e396, hx396_0, hx396_1⟩ := at_T90 HR0.out x11_1 p396 q396
          cases e396
          replace hx396_0 := (HB.out.cell (World.block_lt_of_cell? w _ hx396_0)).trans hx396_0
          replace hx396_1 := (HB.out.cell (World.block_lt_of_cell? w _ hx396_1)).trans hx396_1
          replace p396 := eq_true p396
          replace q396 := eq_true q396
          go_wp2_with (first | ((with_reducible refine gate_dst (N := 4) rfl ?_); refine box_event ?hg (N := 4) ?hd (cs := #[.int .i64 0, .int .i64 0]) (t := 90) ?hr ?_; (case hd => rfl); (case hg => rfl); (case hr => first | (go_simp; done) | (go_simp; rfl)); intro gb397 hg w15 hbox hb; have n0_ := Aside0.mk (below_step (by repeat (first | (with_reducible first | exact HB.out | apply below_alloc | apply pw_below_drewN | apply below_drew1) | exact HB.out)) hb); have n1_ := Aside0.mk (hbox); have n2_ := Aside0.mk ((by rw [hg]; exact (below_size (by repeat (first | (with_reducible first | exact HB.out | apply below_alloc | apply pw_below_drewN | apply below_drew1) | exact HB.out))) : w.heap.size ≤ gb397)); have n3_ := Aside0.mk ((by rw [hg]; exact (below_size (by repeat (first | (with_reducible first | exact HB.out | apply below_alloc | apply pw_below_drewN | apply below_drew1) | exact HB.out))) : w.heap.size ≤ gb397)); clear HB; have HB := n0_; have BK397 := n1_; have GW397 := n2_; have GE397 := n3_; clear n0_ n1_ n2_ n3_; clear hb hbox hg; have hcz16_0 : w15.cell? ⟨gb397, 0, none⟩ = some (.int .i64 0) := (blk_cell BK397.out 0).trans rfl; have hcz16_1 : w15.cell? ⟨gb397, 1, none⟩ = some (.int .i64 0) := (blk_cell BK397.out 1).trans rfl; have hfz16_0 := blk_frozen BK397.out 0; have hfz16_1 := blk_frozen BK397.out 1) | ((with_reducible refine gate_callee (f := 128) rfl ?_); refine goesL_ (some 18) rfl rfl Try.func128 (by kernel_rfl) rfl #[.int .i64 ((rd_T90 l0 x11_1).f0)] rfl (by (try simp only [List.map_toArray, List.map_cons, List.map_nil]); first | done | rfl | (simp only [List.length_drop, List.length_take]; rfl)) ?_; (with_reducible refine (impl_LabelOk.calls ((rd_T90 l0 x11_1).f0) true _ A7.out).mono ?_); rintro e w' ⟨rfl, ⟨nd, rfl⟩⟩; refine ⟨_, rfl, ?_⟩) | (go_at_call 117; (with_reducible refine (impl_within.calls ((rd_T90 l0 x11_1).f1) 0 12 true _ A9.out).mono ?_); rintro e w' ⟨rfl, ⟨nd, rfl⟩⟩) | (go_at_call 131; (with_reducible refine (impl_depthOk.calls _ _ l0 x11_1 false _ ?side1 ?side2 A11.out).mono ?_); (case side1 => exact Kd.C_below HR0.out (by repeat (first | (with_reducible first | exact HB.out | apply below_alloc | apply pw_below_drewN | apply below_drew1 | refine below_set ?_ GE397.out) | exact HB.out))); (case side2 => exact HC0.out); rintro e w' ⟨rfl, ⟨nd, rfl⟩⟩))
          go_ret
          exact ⟨by first | rfl | (simp [errW_none, errW_some] <;> rfl) | (simp [*, errW_none, errW_some] <;> rfl), by repeat (first | (with_reducible first | exact HB.out | apply below_alloc | apply pw_below_drewN | apply below_drew1 | refine below_set ?_ GE397.out) | exact HB.out)⟩
        ·replace c10 := Bool.eq_false_iff.mpr c10
         subst c10
         have H1 : (some false) = some r := by rw [if_neg (show ¬ (false = true) by decide)] at H; exact H
         clear H
         have H := H1
         clear H1
         obtain rfl := Option.some.inj H
         have p396 : 0 ≤ (x11_1 : Int) := of_decide_eq_true (by first | (with_reducible assumption) | assumption)
         have q396 : x11_1 < (l0.length : Int) := of_decide_eq_true (by first | (with_reducible assumption) | assumption)
         obtain ⟨ad396, e396, hx396_0, hx396_1⟩ := at_T90 HR0.out x11_1 p396 q396
         cases e396
         replace hx396_0 := (HB.out.cell (World.block_lt_of_cell? w _ hx396_0)).trans hx396_0
         replace hx396_1 := (HB.out.cell (World.block_lt_of_cell? w _ hx396_1)).trans hx396_1
         replace p396 := eq_true p396
         replace q396 := eq_true q396
         go_wp2_with (first | ((with_reducible refine gate_dst (N := 4) rfl ?_); refine box_event ?hg (N := 4) ?hd (cs := #[.int .i64 0, .int .i64 0]) (t := 90) ?hr ?_; (case hd => rfl); (case hg => rfl); (case hr => first | (go_simp; done) | (go_simp; rfl)); intro gb397 hg w17 hbox hb; have n0_ := Aside0.mk (below_step (by repeat (first | (with_reducible first | exact HB.out | apply below_alloc | apply pw_below_drewN | apply below_drew1) | exact HB.out)) hb); have n1_ := Aside0.mk (hbox); have n2_ := Aside0.mk ((by rw [hg]; exact (below_size (by repeat (first | (with_reducible first | exact HB.out | apply below_alloc | apply pw_below_drewN | apply below_drew1) | exact HB.out))) : w.heap.size ≤ gb397)); have n3_ := Aside0.mk ((by rw [hg]; exact (below_size (by repeat (first | (with_reducible first | exact HB.out | apply below_alloc | apply pw_below_drewN | apply below_drew1) | exact HB.out))) : w.heap.size ≤ gb397)); clear HB; have HB := n0_; have BK397 := n1_; have GW397 := n2_; have GE397 := n3_; clear n0_ n1_ n2_ n3_; clear hb hbox hg; have hcz18_0 : w17.cell? ⟨gb397, 0, none⟩ = some (.int .i64 0) := (blk_cell BK397.out 0).trans rfl; have hcz18_1 : w17.cell? ⟨gb397, 1, none⟩ = some (.int .i64 0) := (blk_cell BK397.out 1).trans rfl; have hfz18_0 := blk_frozen BK397.out 0; have hfz18_1 := blk_frozen BK397.out 1) | ((with_reducible refine gate_callee (f := 128) rfl ?_); refine goesL_ (some 18) rfl rfl Try.func128 (by kernel_rfl) rfl #[.int .i64 ((rd_T90 l0 x11_1).f0)] rfl (by (try simp only [List.map_toArray, List.map_cons, List.map_nil]); first | done | rfl | (simp only [List.length_drop, List.length_take]; rfl)) ?_; (with_reducible refine (impl_LabelOk.calls ((rd_T90 l0 x11_1).f0) true _ A7.out).mono ?_); rintro e w' ⟨rfl, ⟨nd, rfl⟩⟩; refine ⟨_, rfl, ?_⟩) | (go_at_call 117; (with_reducible refine (impl_within.calls ((rd_T90 l0 x11_1).f1) 0 12 false _ A9.out).mono ?_); rintro e w' ⟨rfl, ⟨nd, rfl⟩⟩))
         go_ret
         exact ⟨by first | rfl | (simp [errW_none, errW_some] <;> rfl) | (simp [*, errW_none, errW_some] <;> rfl), by repeat (first | (with_reducible first | exact HB.out | apply below_alloc | apply pw_below_drewN | apply below_drew1 | refine below_set ?_ GE397.out) | exact HB.out)⟩
       ·replace c8 := Bool.eq_false_iff.mpr c8
        subst c8
        have H1 : (some false) = some r := by rw [if_neg (show ¬ (false = true) by decide)] at H; exact H
        clear H
        have H := H1
        clear H1
        obtain rfl := Option.some.inj H
        have p396 : 0 ≤ (x11_1 : Int) := of_decide_eq_true (by first | (with_reducible assumption) | assumption)
        have q396 : x11_1 < (l0.length : Int) := of_decide_eq_true (by first | (with_reducible assumption) | assumption)
        obtain ⟨ad396, e396, hx396_0, hx396_1⟩ := at_T90 HR0.out x11_1 p396 q396
        cases e396
        replace hx396_0 := (HB.out.cell (World.block_lt_of_cell? w _ hx396_0)).trans hx396_0
        replace hx396_1 := (HB.out.cell (World.block_lt_of_cell? w _ hx396_1)).trans hx396_1
        replace p396 := eq_true p396
        replace q396 := eq_true q396
        go_wp2_with (first | ((with_reducible refine gate_dst (N := 4) rfl ?_); refine box_event ?hg (N := 4) ?hd (cs := #[.int .i64 0, .int .i64 0]) (t := 90) ?hr ?_; (case hd => rfl); (case hg => rfl); (case hr => first | (go_simp; done) | (go_simp; rfl)); intro gb397 hg w19 hbox hb; have n0_ := Aside0.mk (below_step (by repeat (first | (with_reducible first | exact HB.out | apply below_alloc | apply pw_below_drewN | apply below_drew1) | exact HB.out)) hb); have n1_ := Aside0.mk (hbox); have n2_ := Aside0.mk ((by rw [hg]; exact (below_size (by repeat (first | (with_reducible first | exact HB.out | apply below_alloc | apply pw_below_drewN | apply below_drew1) | exact HB.out))) : w.heap.size ≤ gb397)); have n3_ := Aside0.mk ((by rw [hg]; exact (below_size (by repeat (first | (with_reducible first | exact HB.out | apply below_alloc | apply pw_below_drewN | apply below_drew1) | exact HB.out))) : w.heap.size ≤ gb397)); clear HB; have HB := n0_; have BK397 := n1_; have GW397 := n2_; have GE397 := n3_; clear n0_ n1_ n2_ n3_; clear hb hbox hg; have hcz20_0 : w19.cell? ⟨gb397, 0, none⟩ = some (.int .i64 0) := (blk_cell BK397.out 0).trans rfl; have hcz20_1 : w19.cell? ⟨gb397, 1, none⟩ = some (.int .i64 0) := (blk_cell BK397.out 1).trans rfl; have hfz20_0 := blk_frozen BK397.out 0; have hfz20_1 := blk_frozen BK397.out 1) | ((with_reducible refine gate_callee (f := 128) rfl ?_); refine goesL_ (some 18) rfl rfl Try.func128 (by kernel_rfl) rfl #[.int .i64 ((rd_T90 l0 x11_1).f0)] rfl (by (try simp only [List.map_toArray, List.map_cons, List.map_nil]); first | done | rfl | (simp only [List.length_drop, List.length_take]; rfl)) ?_; (with_reducible refine (impl_LabelOk.calls ((rd_T90 l0 x11_1).f0) false _ A7.out).mono ?_); rintro e w' ⟨rfl, ⟨nd, rfl⟩⟩; refine ⟨_, rfl, ?_⟩))
        go_ret
        exact ⟨by first | rfl | (simp [errW_none, errW_some] <;> rfl) | (simp [*, errW_none, errW_some] <;> rfl), by repeat (first | (with_reducible first | exact HB.out | apply below_alloc | apply pw_below_drewN | apply below_drew1 | refine below_set ?_ GE397.out) | exact HB.out)⟩
      ·rw [if_neg c6] at H
       exact absurd H (by simp)
     ·rw [if_neg c5] at H
      exact absurd H (by simp)
    ·rw [if_neg c4] at H
     have c4b0 : decide (x11_1 < (l0.length : Int)) = false := decide_eq_false c4
     clear c4
     obtain rfl := Option.some.inj H
     go_wp2
     go_ret
     exact ⟨by first | rfl | (simp [errW_none, errW_some] <;> rfl) | (simp [*, errW_none, errW_some] <;> rfl), by repeat (first | (with_reducible first | exact HB.out | apply below_alloc | apply pw_below_drewN | apply below_drew1) | exact HB.out)⟩
 ·replace c3 := Bool.eq_false_iff.mpr c3
  subst c3
  have H1 : (some false) = some r := by rw [if_neg (show ¬ (false = true) by decide)] at H; exact H
  clear H
  have H := H1
  clear H1
  obtain rfl := Option.some.inj H
  go_enter Try.func102, Try.ntmps102
  go_wp2_with (first | ((with_reducible refine gate_callee (f := 117) rfl ?_); refine goesL_ (some 7) rfl rfl Try.func117 (by kernel_rfl) rfl #[.int .i64 (l0.length : Int), .int .i64 1, .int .i64 24] rfl (by (try simp only [List.map_toArray, List.map_cons, List.map_nil]); first | done | rfl | (simp only [List.length_drop, List.length_take]; rfl)) ?_; (with_reducible refine (impl_within.calls (l0.length : Int) 1 24 false _ A2.out).mono ?_); rintro e w' ⟨rfl, ⟨nd, rfl⟩⟩; refine ⟨_, rfl, ?_⟩))
  go_ret
  exact ⟨by first | rfl | (simp [errW_none, errW_some] <;> rfl) | (simp [*, errW_none, errW_some] <;> rfl), by repeat (first | (with_reducible first | exact HB.out | apply below_alloc | apply pw_below_drewN | apply below_drew1) | exact HB.out)⟩
end Go.Proofs.Ytbifdckfglejkaa.X
namespace Go.Proofs.Ytbifdckfglejkaa.X
open Go.RowKit Go.Proofs.YtbifdckfglejkaaW.PrintWords Go.Proofs.YtbifdckfglejkaaW.PrintLast Go.Proofs.YtbifdckfglejkaaW.PrintMore
attribute [local go_sem] max2_int min2_int max_two min_two max_three min_three max_four min_four   -- for this text's walks alone
set_option linter.unusedVariables false
set_option linter.unusedSimpArgs false
def impl_endOf.l0 : Nat → List (S90) → Int → Int → Option (Int)
 | 0, _, _, _ => none
 | k + 1, x0, x1, x5 => if x5 < (x0.length : Int) then (if 0 ≤ x5 then (if 0 ≤ x1 then (if x1 < (x0.length : Int) then (if ((rd_T90 x0 x5).f1) > ((rd_T90 x0 x1).f1) then (impl_endOf.l0 k x0 x1 (wrap64 (x5 + 1))) else (some x5)) else (none)) else (none)) else (none)) else (some x5)
def impl_endOf.f (k : Nat) (l0 : List (S90)) (a1 : Int) : Option (Int) := impl_endOf.l0 k l0 a1 (wrap64 (a1 + 1))
set_option maxHeartbeats 8000000 in
set_option maxRecDepth 100000 in
theorem impl_endOf.calls (k : Nat) (A0 : Option Addr) (c0 : Nat) (l0 : List (S90)) (a1 : Int) (r : Int) (w : World) (hr0 : Kd.C k90 w A0 l0.length l0) (hc0 : l0.length ≤ c0) (h : impl_endOf.f k l0 a1 = some r) :
  Calls Try.prog 105 #[.slice A0 l0.length c0, .int .i64 a1] w fun e w' => e = .returned (.int .i64 r) ∧ Drawn0 w w' := by
 have HR0 := Aside0.mk hr0
 have HC0 := Aside0.mk hc0
 clear hr0 hc0
 have H : (impl_endOf.l0 k l0 a1 (wrap64 (a1 + 1))) = some r := h
 clear h
 have H' := Aside0.mk H
 clear H
 go_enter Try.func105, Try.ntmps105
 go_wp2
 repeat (go_quiet (fail); try go_wp2)
 go_loopg [5] k (fun kq v5 w' => ∃ (x5_1 : Int), v5 = .int .i64 x5_1 ∧ Aside0 (impl_endOf.l0 kq l0 a1 x5_1 = some r) ∧ Aside0 (kq ≤ k) ∧ Drawn0 w w')
 case atStart => exact ⟨(wrap64 (a1 + 1)), (by first | rfl | (simp; done) | (simp [*]; done)), H', ⟨Nat.le_refl _⟩, by repeat (first | exact Drawn0.refl _ | apply Drawn0.step)⟩
 case round =>
  clear H'
  try clear c1
  try clear p2
  obtain ⟨x5_1, rfl, HA, HK1, ⟨m1, rfl⟩⟩ := hrel
  cases gk with
  | zero => exact absurd HA.out (by simp [impl_endOf.l0])
  | succ k1 =>
   have H := HA.out
   clear HA
   simp only [impl_endOf.l0] at H
   by_cases c3 : x5_1 < (l0.length : Int)
   ·rw [if_pos c3] at H
    have c3b0 : decide (x5_1 < (l0.length : Int)) = true := decide_eq_true c3
    clear c3
    by_cases c4 : 0 ≤ x5_1
    ·rw [if_pos c4] at H
     have c4b0 : decide (0 ≤ x5_1) = true := decide_eq_true c4
     clear c4
     by_cases c5 : 0 ≤ a1
     ·rw [if_pos c5] at H
      have c5b0 : decide (0 ≤ a1) = true := decide_eq_true c5
      clear c5
      by_cases c6 : a1 < (l0.length : Int)
      ·rw [if_pos c6] at H
       have c6b0 : decide (a1 < (l0.length : Int)) = true := decide_eq_true c6
       clear c6
       by_cases c7 : ((rd_T90 l0 x5_1).f1) > ((rd_T90 l0 a1).f1)
       ·rw [if_pos c7] at H
        have c7b0 : decide (((rd_T90 l0 a1).f1) < ((rd_T90 l0 x5_1).f1)) = true := decide_eq_true c7
        clear c7
        have H' := Aside0.mk H
        clear H
        have p401 : 0 ≤ (x5_1 : Int) := of_decide_eq_true (by first | (with_reducible assumption) | assumption)
        have q401 : x5_1 < (l0.length : Int) := of_decide_eq_true (by first | (with_reducible assumption) | assumption)
        obtain ⟨ad401, e401, hx401_0, hx401_1⟩ := at_T90 HR0.out x5_1 p401 q401
        cases e401
        replace p401 := eq_true p401
        replace q401 := eq_true q401
        have p402 : 0 ≤ (a1 : Int) := of_decide_eq_true (by first | (with_reducible assumption) | assumption)
        have q402 : a1 < (l0.length : Int) := of_decide_eq_true (by first | (with_reducible assumption) | assumption)
        obtain ⟨ad402, e402, hx402_0, hx402_1⟩ := at_T90 HR0.out a1 p402 q402
        obtain rfl : ad401 = ad402 := (by injection e402)
        replace p402 := eq_true p402
        replace q402 := eq_true q402
        go_wp2
        repeat (go_quiet (fail); try go_wp2)
        go_roundg k1
        case measure => have := HK1.out; omega
        case rel => exact ⟨(wrap64 (x5_1 + 1)), (by first | rfl | (simp; done) | (simp [*]; done)), H', ⟨by have := HK1.out; omega⟩, by repeat (first | exact Drawn0.refl _ | apply Drawn0.step)⟩
       ·rw [if_neg c7] at H
        have c7b0 : decide (((rd_T90 l0 a1).f1) < ((rd_T90 l0 x5_1).f1)) = false := decide_eq_false c7
        clear c7
        obtain rfl := Option.some.inj H
        have p401 : 0 ≤ (x5_1 : Int) := of_decide_eq_true (by first | (with_reducible assumption) | assumption)
        have q401 : x5_1 < (l0.length : Int) := of_decide_eq_true (by first | (with_reducible assumption) | assumption)
        obtain ⟨ad401, e401, hx401_0, hx401_1⟩ := at_T90 HR0.out x5_1 p401 q401
        cases e401
        replace p401 := eq_true p401
        replace q401 := eq_true q401
        have p402 : 0 ≤ (a1 : Int) := of_decide_eq_true (by first | (with_reducible assumption) | assumption)
        have q402 : a1 < (l0.length : Int) := of_decide_eq_true (by first | (with_reducible assumption) | assumption)
        obtain ⟨ad402, e402, hx402_0, hx402_1⟩ := at_T90 HR0.out a1 p402 q402
        obtain rfl : ad401 = ad402 := (by injection e402)
        replace p402 := eq_true p402
        replace q402 := eq_true q402
        go_wp2
        repeat (go_quiet (fail); try go_wp2)
        go_ret
        exact ⟨by first | rfl | (simp; done) | (simp [*]; done), by repeat (first | exact Drawn0.refl _ | apply Drawn0.step)⟩
      ·rw [if_neg c6] at H
       exact absurd H (by simp)
     ·rw [if_neg c5] at H
      exact absurd H (by simp)
    ·rw [if_neg c4] at H
     exact absurd H (by simp)
   ·rw [if_neg c3] at H
    have c3b0 : decide (x5_1 < (l0.length : Int)) = false := decide_eq_false c3
    clear c3
    obtain rfl := Option.some.inj H
    go_wp2
    repeat (go_quiet (fail); try go_wp2)
    go_ret
    exact ⟨by first | rfl | (simp; done) | (simp [*]; done), by repeat (first | exact Drawn0.refl _ | apply Drawn0.step)⟩
end Go.Proofs.Ytbifdckfglejkaa.X
namespace Go.Proofs.Ytbifdckfglejkaa.X
open Go.RowKit Go.Proofs.YtbifdckfglejkaaW.PrintWords Go.Proofs.YtbifdckfglejkaaW.PrintLast Go.Proofs.YtbifdckfglejkaaW.PrintMore
attribute [local go_sem] max2_int min2_int max_two min_two max_three min_three max_four min_four   -- for this text's walks alone
set_option linter.unusedVariables false
set_option linter.unusedSimpArgs false
def impl_hasNode.f (k : Nat) (l0 : List (S90)) (a1 : Int) : Option (Bool) := (impl_TreeOk.f k l0).bind fun t403 => (if t403 = true then ((impl_within.f a1 0 (wrap64 ((l0.length : Int) - 1))).bind fun t404 => (some t404)) else (some false))
set_option maxHeartbeats 8000000 in
set_option maxRecDepth 100000 in
theorem impl_hasNode.calls (k : Nat) (A0 : Option Addr) (c0 : Nat) (l0 : List (S90)) (a1 : Int) (r : Bool) (w : World) (hr0 : Kd.C k90 w A0 l0.length l0) (hc0 : l0.length ≤ c0) (h : impl_hasNode.f k l0 a1 = some r) :
  Calls Try.prog 125 #[.slice A0 l0.length c0, .int .i64 a1] w fun e w' => e = .returned (.bool r) ∧ Below w.heap.size w w' := by
 have HR0 := Aside0.mk hr0
 have HC0 := Aside0.mk hc0
 clear hr0 hc0
 have HB := Aside0.mk (Below.refl w.heap.size w)
 have H : ((impl_TreeOk.f k l0).bind fun t403 => (if t403 = true then ((impl_within.f a1 0 (wrap64 ((l0.length : Int) - 1))).bind fun t404 => (some t404)) else (some false))) = some r := h
 clear h
 replace H := Option.bind_eq_some_iff.mp H
 obtain ⟨t403, A30, H⟩ := H
 replace H : (if t403 = true then ((impl_within.f a1 0 (wrap64 ((l0.length : Int) - 1))).bind fun t404 => (some t404)) else (some false)) = some r := H
 have A3 := Aside0.mk A30
 clear A30
 by_cases c4 : t403 = true
 ·subst c4
  have H1 : ((impl_within.f a1 0 (wrap64 ((l0.length : Int) - 1))).bind fun t404 => (some t404)) = some r := by rw [if_pos rfl] at H; exact H
  clear H
  have H := H1
  clear H1
  replace H := Option.bind_eq_some_iff.mp H
  obtain ⟨t404, A50, H⟩ := H
  replace H : (some t404) = some r := H
  have A5 := Aside0.mk A50
  clear A50
  obtain rfl := Option.some.inj H
  go_enter Try.func125, Try.ntmps125
  go_wp2_with (first | ((with_reducible refine gate_callee (f := 102) rfl ?_); refine goesL_ (some 6) rfl rfl Try.func102 (by kernel_rfl) rfl #[.slice A0 l0.length c0] rfl (by (try simp only [List.map_toArray, List.map_cons, List.map_nil]); first | done | rfl | (simp only [List.length_drop, List.length_take]; rfl)) ?_; (with_reducible refine (impl_TreeOk.calls k _ _ l0 true _ ?side1 ?side2 A3.out).mono ?_); (case side1 => repeat (first | exact HR0.out | (with_reducible refine Kd.C_alloc ?_ _) | (with_reducible refine Kd.C_drewN ?_ _) | (with_reducible refine Kd.C_drew ?_))); (case side2 => exact HC0.out); rintro e w6 ⟨rfl, hb⟩; refine ⟨_, rfl, ?_⟩; have n0_ := Aside0.mk (below_step (by repeat (first | (with_reducible first | exact HB.out | apply below_alloc | apply pw_below_drewN | apply below_drew1) | exact HB.out)) hb); clear HB; have HB := n0_; clear n0_; (try clear hb); (try clear hb2); (try clear hk); (try clear hi)) | (go_at_call 117; (with_reducible refine (impl_within.calls a1 0 (wrap64 ((l0.length : Int) - 1)) t404 _ A5.out).mono ?_); rintro e w' ⟨rfl, ⟨nd, rfl⟩⟩))
  go_ret
  exact ⟨by first | rfl | (simp [errW_none, errW_some] <;> rfl) | (simp [*, errW_none, errW_some] <;> rfl), by repeat (first | (with_reducible first | exact HB.out | apply below_alloc | apply pw_below_drewN | apply below_drew1) | exact HB.out)⟩
 ·replace c4 := Bool.eq_false_iff.mpr c4
  subst c4
  have H1 : (some false) = some r := by rw [if_neg (show ¬ (false = true) by decide)] at H; exact H
  clear H
  have H := H1
  clear H1
  obtain rfl := Option.some.inj H
  go_enter Try.func125, Try.ntmps125
  go_wp2_with (first | ((with_reducible refine gate_callee (f := 102) rfl ?_); refine goesL_ (some 6) rfl rfl Try.func102 (by kernel_rfl) rfl #[.slice A0 l0.length c0] rfl (by (try simp only [List.map_toArray, List.map_cons, List.map_nil]); first | done | rfl | (simp only [List.length_drop, List.length_take]; rfl)) ?_; (with_reducible refine (impl_TreeOk.calls k _ _ l0 false _ ?side1 ?side2 A3.out).mono ?_); (case side1 => repeat (first | exact HR0.out | (with_reducible refine Kd.C_alloc ?_ _) | (with_reducible refine Kd.C_drewN ?_ _) | (with_reducible refine Kd.C_drew ?_))); (case side2 => exact HC0.out); rintro e w7 ⟨rfl, hb⟩; refine ⟨_, rfl, ?_⟩; have n0_ := Aside0.mk (below_step (by repeat (first | (with_reducible first | exact HB.out | apply below_alloc | apply pw_below_drewN | apply below_drew1) | exact HB.out)) hb); clear HB; have HB := n0_; clear n0_; (try clear hb); (try clear hb2); (try clear hk); (try clear hi)))
  go_ret
  exact ⟨by first | rfl | (simp [errW_none, errW_some] <;> rfl) | (simp [*, errW_none, errW_some] <;> rfl), by repeat (first | (with_reducible first | exact HB.out | apply below_alloc | apply pw_below_drewN | apply below_drew1) | exact HB.out)⟩
end Go.Proofs.Ytbifdckfglejkaa.X
namespace Go.Proofs.Ytbifdckfglejkaa.X
open Go.RowKit Go.Proofs.YtbifdckfglejkaaW.PrintWords Go.Proofs.YtbifdckfglejkaaW.PrintLast Go.Proofs.YtbifdckfglejkaaW.PrintMore
attribute [local go_sem] max2_int min2_int max_two min_two max_three min_three max_four min_four   -- for this text's walks alone
set_option linter.unusedVariables false
set_option linter.unusedSimpArgs false
mutual
def impl_MapOk.j0 : Nat → List (S90) → List (S90) → List (S122) → Bool → Option (Bool)
 | 0, _, _, _, _ => none
 | k + 1, x0, x1, x2, x18 => if x18 = true then (some false) else (impl_MapOk.l0 k x0 x1 x2 x2 (x2.length : Int) 0)
def impl_MapOk.l0 : Nat → List (S90) → List (S90) → List (S122) → List (S122) → Int → Int → Option (Bool)
 | 0, _, _, _, _, _, _ => none
 | k + 1, x0, x1, x2, x19, x20, x21 => if x21 < x20 then (if 0 ≤ x21 then (if x21 < (x19.length : Int) then ((impl_hasNode.f k x0 ((rd_T122 x19 x21).f0)).bind fun t567 => (if t567 = true then ((impl_hasNode.f k x1 ((rd_T122 x19 x21).f1)).bind fun t568 => (if t568 = true then (if x21 > 0 then (if 0 ≤ (wrap64 (x21 - 1)) then (if (wrap64 (x21 - 1)) < (x2.length : Int) then (if ((rd_T122 x19 x21).f0) ≤ ((rd_T122 x2 (wrap64 (x21 - 1))).f0) then (impl_MapOk.j2 k x0 x1 x2 x21 x19 x20 x21 true ((rd_T122 x19 x21).f0) ((rd_T122 x19 x21).f1)) else (impl_MapOk.j2 k x0 x1 x2 x21 x19 x20 x21 (decide (((rd_T122 x19 x21).f1) ≤ ((rd_T122 x2 (wrap64 (x21 - 1))).f1))) ((rd_T122 x19 x21).f0) ((rd_T122 x19 x21).f1))) else (none)) else (none)) else (impl_MapOk.j2 k x0 x1 x2 x21 x19 x20 x21 false ((rd_T122 x19 x21).f0) ((rd_T122 x19 x21).f1))) else (impl_MapOk.j2 k x0 x1 x2 x21 x19 x20 x21 true ((rd_T122 x19 x21).f0) ((rd_T122 x19 x21).f1)))) else (impl_MapOk.j2 k x0 x1 x2 x21 x19 x20 x21 true ((rd_T122 x19 x21).f0) ((rd_T122 x19 x21).f1)))) else (none)) else (none)) else (some true)
def impl_MapOk.j2 : Nat → List (S90) → List (S90) → List (S122) → Int → List (S122) → Int → Int → Bool → Int → Int → Option (Bool)
 | 0, _, _, _, _, _, _, _, _, _, _ => none
 | k + 1, x0, x1, x2, x7, x19, x20, x21, x63, x567000, x567001 => if x63 = true then (some false) else (if 0 ≤ x7 then (if x7 ≤ (x2.length : Int) then ((some (x2.take (x7 : Int).toNat : List (S122))).bind fun y571 => (impl_MapOk.l1 k x0 x1 x2 x19 x20 x21 y571 (y571.length : Int) 0 x567000 x567001)) else (none)) else (none))
def impl_MapOk.l1 : Nat → List (S90) → List (S90) → List (S122) → List (S122) → Int → Int → List (S122) → Int → Int → Int → Int → Option (Bool)
 | 0, _, _, _, _, _, _, _, _, _, _, _ => none
 | k + 1, x0, x1, x2, x19, x20, x21, x66, x67, x68, x567000, x567001 => if x68 < x67 then (if 0 ≤ x68 then (if x68 < (x66.length : Int) then ((impl_endOf.f k x0 ((rd_T122 x66 x68).f0)).bind fun t577 => ((impl_endOf.f k x1 ((rd_T122 x66 x68).f1)).bind fun t578 => (if ((decide (x567000 < t577)) != (decide (x567001 < t578))) = true then (some false) else (impl_MapOk.l1 k x0 x1 x2 x19 x20 x21 x66 x67 (wrap64 (x68 + 1)) x567000 x567001)))) else (none)) else (none)) else (impl_MapOk.l0 k x0 x1 x2 x19 x20 (wrap64 (x21 + 1)))
end
def impl_MapOk.f (k : Nat) (l0 : List (S90)) (l1 : List (S90)) (l2 : List (S122)) : Option (Bool) := (impl_TreeOk.f k l0).bind fun t563 => (if t563 = true then ((impl_TreeOk.f k l1).bind fun t564 => (impl_MapOk.j0 k l0 l1 l2 (!t564))) else (impl_MapOk.j0 k l0 l1 l2 true))
def impl_MapOk.T6 : Bool × List (List Nat × List Nat) := (true, [([], []), ([], []), ([1], [1]), ([0, 2], [0, 2]), ([3], [3]), ([4, 3], [4]), ([5], [5]), ([5], [5]), ([7, 5], [5, 7]), ([6, 8, 5, 5], [5, 6, 8]), ([9, 5], [5, 9]), ([5, 10], [5, 10]), ([11, 9], [11]), ([12], [12]), ([13, 12], [12, 13]), ([14, 12, 12], [12, 14]), ([15], [15]), ([16, 15], [15, 16]), ([15], [15]), ([15], [15]), ([19, 15], [15, 19]), ([18, 20, 15], [15, 18, 20]), ([21, 15], [15, 21]), ([22, 15], [15, 22]), ([17, 23, 15], [15, 17, 23]), ([24, 15, 15], [15, 24]), ([25], [25]), ([26, 25], [25, 26]), ([25], [25]), ([25], [25]), ([29, 25], [25, 29]), ([28, 30, 25], [25, 28, 30]), ([31, 25], [25, 31]), ([32, 25], [25, 32]), ([27, 33, 25], [25, 27, 33]), ([25, 34, 15], [15, 25, 34]), ([15, 35, 12], [12, 15, 35]), ([12, 36], [12, 36])])
def impl_MapOk.B6 : List Nat := [0, 0, 2, 7, 15, 31, 63, 63, 191, 511, 1023, 2047, 4095, 8191, 16383, 32767, 65535, 131071, 65535, 65535, 589823, 1900543, 3997695, 8191999, 16777215, 33554431, 67108863, 134217727, 67108863, 67108863, 603979775, 1946157055, 4093640703, 8388607999, 17179869183, 34359738367, 68719476735, 137438953471]
theorem impl_MapOk.tab6 : rtab .any (opsOf Try.f89 6) = impl_MapOk.T6 := by kernel_rfl
theorem impl_MapOk.bits6 : waitsOk impl_MapOk.T6.2 impl_MapOk.B6 = true := by kernel_rfl
def impl_MapOk.T11 : Bool × List (List Nat × List Nat) := (true, [([], []), ([0], [0]), ([], []), ([], []), ([3], [3]), ([2, 4], [2, 4]), ([1, 5], [1, 5]), ([], []), ([7], [7]), ([], []), ([], []), ([10], [10]), ([9, 11, 5], [9, 11]), ([8, 12], [8, 12]), ([6, 13], [6, 13])])
def impl_MapOk.B11 : List Nat := [0, 1, 0, 0, 8, 28, 63, 0, 128, 0, 0, 1024, 3644, 8124, 16383]
theorem impl_MapOk.tab11 : rtab .any (opsOf Try.f89 11) = impl_MapOk.T11 := by kernel_rfl
theorem impl_MapOk.bits11 : waitsOk impl_MapOk.T11.2 impl_MapOk.B11 = true := by kernel_rfl
set_option maxHeartbeats 8000000 in
set_option maxRecDepth 100000 in
theorem impl_MapOk.calls (k : Nat) (A0 : Option Addr) (c0 : Nat) (l0 : List (S90)) (A1 : Option Addr) (c1 : Nat) (l1 : List (S90)) (A2 : Option Addr) (c2 : Nat) (l2 : List (S122)) (r : Bool) (w : World) (hr0 : Kd.C k90 w A0 l0.length l0) (hc0 : l0.length ≤ c0) (hr1 : Kd.C k90 w A1 l1.length l1) (hc1 : l1.length ≤ c1) (hr2 : Kd.C k122 w A2 l2.length l2) (hc2 : l2.length ≤ c2) (h : impl_MapOk.f k l0 l1 l2 = some r) :
  Calls Try.prog 89 #[.slice A0 l0.length c0, .slice A1 l1.length c1, .slice A2 l2.length c2] w fun e w' => e = .returned (.bool r) ∧ Below w.heap.size w w' := by
 have hu122 := Try.underlying122
 have HR0 := Aside0.mk hr0
 have HC0 := Aside0.mk hc0
 clear hr0 hc0
 have HR1 := Aside0.mk hr1
 have HC1 := Aside0.mk hc1
 clear hr1 hc1
 have HR2 := Aside0.mk hr2
 have HC2 := Aside0.mk hc2
 clear hr2 hc2
 have HB := Aside0.mk (Below.refl w.heap.size w)
 have H : ((impl_TreeOk.f k l0).bind fun t563 => (if t563 = true then ((impl_TreeOk.f k l1).bind fun t564 => (impl_MapOk.j0 k l0 l1 l2 (!t564))) else (impl_MapOk.j0 k l0 l1 l2 true))) = some r := h
 clear h
 have HC4 := Aside0.mk H
 clear H
 go_enter Try.func89, Try.ntmps89
 go_upto_region 1 with (fail)
 go_cut [18] (fun v18 wc => ∃ (kq : Nat) (x18_3 : Bool), v18 = .bool x18_3 ∧ Aside0 (impl_MapOk.j0 kq l0 l1 l2 x18_3 = some r) ∧ Aside0 (kq ≤ k) ∧ Aside0 (Below w.heap.size w wc))
 case first =>
  have H := HC4.out
  clear HC4
  replace H := Option.bind_eq_some_iff.mp H
  obtain ⟨t563, A50, H⟩ := H
  replace H : (if t563 = true then ((impl_TreeOk.f k l1).bind fun t564 => (impl_MapOk.j0 k l0 l1 l2 (!t564))) else (impl_MapOk.j0 k l0 l1 l2 true)) = some r := H
  have A5 := Aside0.mk A50
  clear A50
  by_cases c6 : t563 = true
  ·subst c6
   have H1 : ((impl_TreeOk.f k l1).bind fun t564 => (impl_MapOk.j0 k l0 l1 l2 (!t564))) = some r := by rw [if_pos rfl] at H; exact H
   clear H
   have H := H1
   clear H1
   replace H := Option.bind_eq_some_iff.mp H
   obtain ⟨t564, A70, H⟩ := H
   replace H : (impl_MapOk.j0 k l0 l1 l2 (!t564)) = some r := H
   have A7 := Aside0.mk A70
   clear A70
   have H' := Aside0.mk H
   clear H
   go_wp2_with (first | ((with_reducible refine gate_callee (f := 102) rfl ?_); refine goesL_ (some 12) rfl rfl Try.func102 (by kernel_rfl) rfl #[.slice A0 l0.length c0] rfl (by (try simp only [List.map_toArray, List.map_cons, List.map_nil]); first | done | rfl | (simp only [List.length_drop, List.length_take]; rfl)) ?_; (with_reducible refine (impl_TreeOk.calls k _ _ l0 true _ ?side1 ?side2 A5.out).mono ?_); (case side1 => repeat (first | exact (Kd.C_below HR0.out HB.out) | (with_reducible refine Kd.C_alloc ?_ _) | (with_reducible refine Kd.C_drewN ?_ _) | (with_reducible refine Kd.C_drew ?_))); (case side2 => exact HC0.out); rintro e w8 ⟨rfl, hb⟩; refine ⟨_, rfl, ?_⟩; have n0_ := Aside0.mk (below_step (by repeat (first | (with_reducible first | exact HB.out | apply below_alloc | apply pw_below_drewN | apply below_drew1) | exact HB.out)) hb); clear HB; have HB := n0_; clear n0_; (try clear hb); (try clear hb2); (try clear hk); (try clear hi)) | (go_at_call 102; (with_reducible refine (impl_TreeOk.calls k _ _ l1 t564 _ ?side1 ?side2 A7.out).mono ?_); (case side1 => repeat (first | exact (Kd.C_below HR1.out HB.out) | (with_reducible refine Kd.C_alloc ?_ _) | (with_reducible refine Kd.C_drewN ?_ _) | (with_reducible refine Kd.C_drew ?_))); (case side2 => exact HC1.out); rintro e w9 ⟨rfl, hb⟩; have n0_ := Aside0.mk (below_step (by repeat (first | (with_reducible first | exact HB.out | apply below_alloc | apply pw_below_drewN | apply below_drew1) | exact HB.out)) hb); clear HB; have HB := n0_; clear n0_; (try clear hb); (try clear hb2); (try clear hk); (try clear hi)))
   go_meet
   case rel => exact ⟨_, (!t564), (by first | rfl | (simp; done) | (simp [*]; done)), H', ⟨by first | omega | exact Nat.le_refl _⟩, ⟨by repeat (first | (with_reducible first | exact HB.out | apply below_alloc | apply pw_below_drewN | apply below_drew1) | exact HB.out)⟩⟩
  ·replace c6 := Bool.eq_false_iff.mpr c6
   subst c6
   have H1 : (impl_MapOk.j0 k l0 l1 l2 true) = some r := by rw [if_neg (show ¬ (false = true) by decide)] at H; exact H
   clear H
   have H := H1
   clear H1
   have H' := Aside0.mk H
   clear H
   go_wp2_with (first | ((with_reducible refine gate_callee (f := 102) rfl ?_); refine goesL_ (some 12) rfl rfl Try.func102 (by kernel_rfl) rfl #[.slice A0 l0.length c0] rfl (by (try simp only [List.map_toArray, List.map_cons, List.map_nil]); first | done | rfl | (simp only [List.length_drop, List.length_take]; rfl)) ?_; (with_reducible refine (impl_TreeOk.calls k _ _ l0 false _ ?side1 ?side2 A5.out).mono ?_); (case side1 => repeat (first | exact (Kd.C_below HR0.out HB.out) | (with_reducible refine Kd.C_alloc ?_ _) | (with_reducible refine Kd.C_drewN ?_ _) | (with_reducible refine Kd.C_drew ?_))); (case side2 => exact HC0.out); rintro e w10 ⟨rfl, hb⟩; refine ⟨_, rfl, ?_⟩; have n0_ := Aside0.mk (below_step (by repeat (first | (with_reducible first | exact HB.out | apply below_alloc | apply pw_below_drewN | apply below_drew1) | exact HB.out)) hb); clear HB; have HB := n0_; clear n0_; (try clear hb); (try clear hb2); (try clear hk); (try clear hi)))
   go_meet
   case rel => exact ⟨_, (true), (by first | rfl | (simp; done) | (simp [*]; done)), H', ⟨by first | omega | exact Nat.le_refl _⟩, ⟨by repeat (first | (with_reducible first | exact HB.out | apply below_alloc | apply pw_below_drewN | apply below_drew1) | exact HB.out)⟩⟩
 case rest =>
  clear HC4
  try clear c1
  try clear c2
  try clear p2
  try clear c6
  try clear c8
  try clear c10
  obtain ⟨kq, x18_3, rfl, HA, HJ3, HB⟩ := hcut
  cases kq with
  | zero => exact absurd HA.out (by simp [impl_MapOk.j0])
  | succ kj3 =>
   have H := HA.out
   clear HA
   simp only [impl_MapOk.j0] at H
   by_cases c11 : x18_3 = true
   ·subst c11
    have H1 : (some false) = some r := by rw [if_pos rfl] at H; exact H
    clear H
    have H := H1
    clear H1
    obtain rfl := Option.some.inj H
    go_wp2
    go_ret
    exact ⟨by first | rfl | (simp [errW_none, errW_some] <;> rfl) | (simp [*, errW_none, errW_some] <;> rfl), by repeat (first | (with_reducible first | exact HB.out | apply below_alloc | apply pw_below_drewN | apply below_drew1) | exact HB.out)⟩
   ·replace c11 := Bool.eq_false_iff.mpr c11
    subst c11
    have H1 : (impl_MapOk.l0 kj3 l0 l1 l2 l2 (l2.length : Int) 0) = some r := by rw [if_neg (show ¬ (false = true) by decide)] at H; exact H
    clear H
    have H := H1
    clear H1
    have H' := Aside0.mk H
    clear H
    go_wp2
    go_loopg [21] kj3 (fun kq v21 w' => ∃ (x21_2 : Int), v21 = .int .i64 x21_2 ∧ Aside0 (impl_MapOk.l0 kq l0 l1 l2 l2 (l2.length : Int) x21_2 = some r) ∧ Aside0 (kq ≤ kj3) ∧ Aside0 (Below w.heap.size w w'))
    case atStart => exact ⟨(0), (by first | rfl | (simp; done) | (simp [*]; done)), H', ⟨Nat.le_refl _⟩, ⟨by repeat (first | (with_reducible first | exact HB.out | apply below_alloc | apply pw_below_drewN | apply below_drew1) | exact HB.out)⟩⟩
    case round =>
     clear H'
     try clear c1
     try clear c2
     try clear p2
     try clear c6
     try clear c8
     try clear c10
     try clear c11
     try clear p2
     obtain ⟨x21_2, rfl, HA, HK2, HB⟩ := hrel
     cases gk with
     | zero => exact absurd HA.out (by simp [impl_MapOk.l0])
     | succ k2 =>
      have H := HA.out
      clear HA
      simp only [impl_MapOk.l0] at H
      by_cases c12 : x21_2 < (l2.length : Int)
      ·rw [if_pos c12] at H
       have c12b0 : decide (x21_2 < (l2.length : Int)) = true := decide_eq_true c12
       clear c12
       by_cases c13 : 0 ≤ x21_2
       ·rw [if_pos c13] at H
        have c13b0 : decide (0 ≤ x21_2) = true := decide_eq_true c13
        clear c13
        by_cases c14 : x21_2 < (l2.length : Int)
        ·rw [if_pos c14] at H
         have c14b0 : decide (x21_2 < (l2.length : Int)) = true := decide_eq_true c14
         clear c14
         have HC15 := Aside0.mk H
         clear H
         have p565 : 0 ≤ (x21_2 : Int) := of_decide_eq_true (by first | (with_reducible assumption) | assumption)
         have q565 : x21_2 < (l2.length : Int) := of_decide_eq_true (by first | (with_reducible assumption) | assumption)
         obtain ⟨ad565, e565, hx565_0, hx565_1⟩ := at_T122 HR2.out x21_2 p565 q565
         cases e565
         replace hx565_0 := (HB.out.cell (World.block_lt_of_cell? w _ hx565_0)).trans hx565_0
         replace hx565_1 := (HB.out.cell (World.block_lt_of_cell? w _ hx565_1)).trans hx565_1
         replace p565 := eq_true p565
         replace q565 := eq_true q565
         go_upto_region 6 with (first | ((with_reducible refine gate_dst (N := 8) rfl ?_); refine box_event ?hg (N := 8) ?hd (cs := #[.int .i64 0, .int .i64 0]) (t := 122) ?hr ?_; (case hd => rfl); (case hg => rfl); (case hr => first | (go_simp; done) | (go_simp; rfl)); intro gb566 hg w16 hbox hb; have n0_ := Aside0.mk (below_step (by repeat (first | (with_reducible first | exact HB.out | apply below_alloc | apply pw_below_drewN | apply below_drew1) | exact HB.out)) hb); have n1_ := Aside0.mk (hbox); have n2_ := Aside0.mk ((by rw [hg]; exact (below_size (by repeat (first | (with_reducible first | exact HB.out | apply below_alloc | apply pw_below_drewN | apply below_drew1) | exact HB.out))) : w.heap.size ≤ gb566)); have n3_ := Aside0.mk ((by rw [hg]; exact (below_size (by repeat (first | (with_reducible first | exact HB.out | apply below_alloc | apply pw_below_drewN | apply below_drew1) | exact HB.out))) : w.heap.size ≤ gb566)); clear HB; have HB := n0_; have BK566 := n1_; have GW566 := n2_; have GE566 := n3_; clear n0_ n1_ n2_ n3_; clear hb hbox hg; have hcz17_0 : w16.cell? ⟨gb566, 0, none⟩ = some (.int .i64 0) := (blk_cell BK566.out 0).trans rfl; have hcz17_1 : w16.cell? ⟨gb566, 1, none⟩ = some (.int .i64 0) := (blk_cell BK566.out 1).trans rfl; have hfz17_0 := blk_frozen BK566.out 0; have hfz17_1 := blk_frozen BK566.out 1))
         (try simp only [Act.put, List.setIfInBounds_toArray, List.set_cons_zero, List.set_cons_succ])
         go_cut [63] (fun v63 wc => ∃ (kq : Nat) (x63_14 : Bool), v63 = .bool x63_14 ∧ Aside0 (impl_MapOk.j2 kq l0 l1 l2 x21_2 l2 (l2.length : Int) x21_2 x63_14 ((rd_T122 l2 x21_2).f0) ((rd_T122 l2 x21_2).f1) = some r) ∧ Aside0 (kq ≤ k2) ∧ Aside0 (wc.heap[gb566]? = some (.cells #[.int .i64 ((rd_T122 l2 x21_2).f0), .int .i64 ((rd_T122 l2 x21_2).f1)] 122 (0, 0))) ∧ Aside0 (Below w.heap.size w wc))
         case first =>
          have H := HC15.out
          clear HC15
          replace H := Option.bind_eq_some_iff.mp H
          obtain ⟨t567, A180, H⟩ := H
          replace H : (if t567 = true then ((impl_hasNode.f k2 l1 ((rd_T122 l2 x21_2).f1)).bind fun t568 => (if t568 = true then (if x21_2 > 0 then (if 0 ≤ (wrap64 (x21_2 - 1)) then (if (wrap64 (x21_2 - 1)) < (l2.length : Int) then (if ((rd_T122 l2 x21_2).f0) ≤ ((rd_T122 l2 (wrap64 (x21_2 - 1))).f0) then (impl_MapOk.j2 k2 l0 l1 l2 x21_2 l2 (l2.length : Int) x21_2 true ((rd_T122 l2 x21_2).f0) ((rd_T122 l2 x21_2).f1)) else (impl_MapOk.j2 k2 l0 l1 l2 x21_2 l2 (l2.length : Int) x21_2 (decide (((rd_T122 l2 x21_2).f1) ≤ ((rd_T122 l2 (wrap64 (x21_2 - 1))).f1))) ((rd_T122 l2 x21_2).f0) ((rd_T122 l2 x21_2).f1))) else (none)) else (none)) else (impl_MapOk.j2 k2 l0 l1 l2 x21_2 l2 (l2.length : Int) x21_2 false ((rd_T122 l2 x21_2).f0) ((rd_T122 l2 x21_2).f1))) else (impl_MapOk.j2 k2 l0 l1 l2 x21_2 l2 (l2.length : Int) x21_2 true ((rd_T122 l2 x21_2).f0) ((rd_T122 l2 x21_2).f1)))) else (impl_MapOk.j2 k2 l0 l1 l2 x21_2 l2 (l2.length : Int) x21_2 true ((rd_T122 l2 x21_2).f0) ((rd_T122 l2 x21_2).f1))) = some r := H
          have A18 := Aside0.mk A180
          clear A180
          by_cases c19 : t567 = true
          ·subst c19
           have H1 : ((impl_hasNode.f k2 l1 ((rd_T122 l2 x21_2).f1)).bind fun t568 => (if t568 = true then (if x21_2 > 0 then (if 0 ≤ (wrap64 (x21_2 - 1)) then (if (wrap64 (x21_2 - 1)) < (l2.length : Int) then (if ((rd_T122 l2 x21_2).f0) ≤ ((rd_T122 l2 (wrap64 (x21_2 - 1))).f0) then (impl_MapOk.j2 k2 l0 l1 l2 x21_2 l2 (l2.length : Int) x21_2 true ((rd_T122 l2 x21_2).f0) ((rd_T122 l2 x21_2).f1)) else (impl_MapOk.j2 k2 l0 l1 l2 x21_2 l2 (l2.length : Int) x21_2 (decide (((rd_T122 l2 x21_2).f1) ≤ ((rd_T122 l2 (wrap64 (x21_2 - 1))).f1))) ((rd_T122 l2 x21_2).f0) ((rd_T122 l2 x21_2).f1))) else (none)) else (none)) else (impl_MapOk.j2 k2 l0 l1 l2 x21_2 l2 (l2.length : Int) x21_2 false ((rd_T122 l2 x21_2).f0) ((rd_T122 l2 x21_2).f1))) else (impl_MapOk.j2 k2 l0 l1 l2 x21_2 l2 (l2.length : Int) x21_2 true ((rd_T122 l2 x21_2).f0) ((rd_T122 l2 x21_2).f1)))) = some r := by rw [if_pos rfl] at H; exact H
           clear H
           have H := H1
           clear H1
           replace H := Option.bind_eq_some_iff.mp H
           obtain ⟨t568, A200, H⟩ := H
           replace H : (if t568 = true then (if x21_2 > 0 then (if 0 ≤ (wrap64 (x21_2 - 1)) then (if (wrap64 (x21_2 - 1)) < (l2.length : Int) then (if ((rd_T122 l2 x21_2).f0) ≤ ((rd_T122 l2 (wrap64 (x21_2 - 1))).f0) then (impl_MapOk.j2 k2 l0 l1 l2 x21_2 l2 (l2.length : Int) x21_2 true ((rd_T122 l2 x21_2).f0) ((rd_T122 l2 x21_2).f1)) else (impl_MapOk.j2 k2 l0 l1 l2 x21_2 l2 (l2.length : Int) x21_2 (decide (((rd_T122 l2 x21_2).f1) ≤ ((rd_T122 l2 (wrap64 (x21_2 - 1))).f1))) ((rd_T122 l2 x21_2).f0) ((rd_T122 l2 x21_2).f1))) else (none)) else (none)) else (impl_MapOk.j2 k2 l0 l1 l2 x21_2 l2 (l2.length : Int) x21_2 false ((rd_T122 l2 x21_2).f0) ((rd_T122 l2 x21_2).f1))) else (impl_MapOk.j2 k2 l0 l1 l2 x21_2 l2 (l2.length : Int) x21_2 true ((rd_T122 l2 x21_2).f0) ((rd_T122 l2 x21_2).f1))) = some r := H
           have A20 := Aside0.mk A200
           clear A200
           by_cases c21 : t568 = true
           ·subst c21
            have H1 : (if x21_2 > 0 then (if 0 ≤ (wrap64 (x21_2 - 1)) then (if (wrap64 (x21_2 - 1)) < (l2.length : Int) then (if ((rd_T122 l2 x21_2).f0) ≤ ((rd_T122 l2 (wrap64 (x21_2 - 1))).f0) then (impl_MapOk.j2 k2 l0 l1 l2 x21_2 l2 (l2.length : Int) x21_2 true ((rd_T122 l2 x21_2).f0) ((rd_T122 l2 x21_2).f1)) else (impl_MapOk.j2 k2 l0 l1 l2 x21_2 l2 (l2.length : Int) x21_2 (decide (((rd_T122 l2 x21_2).f1) ≤ ((rd_T122 l2 (wrap64 (x21_2 - 1))).f1))) ((rd_T122 l2 x21_2).f0) ((rd_T122 l2 x21_2).f1))) else (none)) else (none)) else (impl_MapOk.j2 k2 l0 l1 l2 x21_2 l2 (l2.length : Int) x21_2 false ((rd_T122 l2 x21_2).f0) ((rd_T122 l2 x21_2).f1))) = some r := by rw [if_pos rfl] at H; exact H
            clear H
            have H := H1
            clear H1
            by_cases c22 : x21_2 > 0
            ·rw [if_pos c22] at H
             have c22b0 : decide (0 < x21_2) = true := decide_eq_true c22
             clear c22
             (first | rw [c22b0] | (simp only [i64_w, i32_w]; rw [c22b0]) | skip)
             obtain ⟨ji23, hji23⟩ : ∃ j_ : Int, (wrap64 (x21_2 - 1)) = j_ := ⟨_, rfl⟩
             replace H : (if 0 ≤ (ji23) then (if (ji23) < (l2.length : Int) then (if ((rd_T122 l2 x21_2).f0) ≤ ((rd_T122 l2 (ji23)).f0) then (impl_MapOk.j2 k2 l0 l1 l2 x21_2 l2 (l2.length : Int) x21_2 true ((rd_T122 l2 x21_2).f0) ((rd_T122 l2 x21_2).f1)) else (impl_MapOk.j2 k2 l0 l1 l2 x21_2 l2 (l2.length : Int) x21_2 (decide (((rd_T122 l2 x21_2).f1) ≤ ((rd_T122 l2 (ji23)).f1))) ((rd_T122 l2 x21_2).f0) ((rd_T122 l2 x21_2).f1))) else (none)) else (none)) = some r := by first | (rw [hji23] at H; exact H) | (simp only [hji23] at H ⊢; exact H)
             (try rw [hji23] at A18)
             (try rw [hji23] at A20)
             have hji23w : (IntKind.i64.wrap (x21_2 - 1)) = ji23 := (i64_w _).trans hji23
             by_cases c24 : 0 ≤ (ji23)
             ·rw [if_pos c24] at H
              have c24b0 : decide (0 ≤ (ji23)) = true := decide_eq_true c24
              clear c24
              by_cases c25 : (ji23) < (l2.length : Int)
              ·rw [if_pos c25] at H
               have c25b0 : decide ((ji23) < (l2.length : Int)) = true := decide_eq_true c25
               clear c25
               by_cases c26 : ((rd_T122 l2 x21_2).f0) ≤ ((rd_T122 l2 (ji23)).f0)
               ·rw [if_pos c26] at H
                have c26b0 : decide (((rd_T122 l2 x21_2).f0) ≤ ((rd_T122 l2 (ji23)).f0)) = true := decide_eq_true c26
                clear c26
                have H' := Aside0.mk H
                clear H
                try go_wp2
                have n0_ : Aside0 (((w16.setCell ⟨gb566, 0, none⟩ (.int .i64 ((rd_T122 l2 x21_2).f0))).setCell ⟨gb566, 1, none⟩ (.int .i64 ((rd_T122 l2 x21_2).f1))).heap[gb566]? = some (.cells #[.int .i64 ((rd_T122 l2 x21_2).f0), .int .i64 ((rd_T122 l2 x21_2).f1)] 122 (0, 0))) := ⟨by (with_reducible repeat (first | refine blk_drewN ?_ _ | refine blk_drew ?_ | refine blk_alloc ?_ _)); refine blk_put (cs := #[.int .i64 ((rd_T122 l2 x21_2).f0), .int .i64 0]) ?_ 1 _ rfl; (with_reducible repeat (first | refine blk_drewN ?_ _ | refine blk_drew ?_ | refine blk_alloc ?_ _)); refine blk_put (cs := #[.int .i64 0, .int .i64 0]) ?_ 0 _ rfl; (with_reducible repeat (first | refine blk_drewN ?_ _ | refine blk_drew ?_ | refine blk_alloc ?_ _)); exact BK566.out⟩
                have n1_ : Aside0 (Below w.heap.size w ((w16.setCell ⟨gb566, 0, none⟩ (.int .i64 ((rd_T122 l2 x21_2).f0))).setCell ⟨gb566, 1, none⟩ (.int .i64 ((rd_T122 l2 x21_2).f1)))) := ⟨by repeat (first | (with_reducible first | exact HB.out | apply below_alloc | apply pw_below_drewN | apply below_drew1 | refine below_set ?_ GE566.out) | exact HB.out)⟩
                (try clear BK566)
                (try clear HB)
                generalize ((w16.setCell ⟨gb566, 0, none⟩ (.int .i64 ((rd_T122 l2 x21_2).f0))).setCell ⟨gb566, 1, none⟩ (.int .i64 ((rd_T122 l2 x21_2).f1))) = w27 at n0_ n1_ ⊢
                have BK566 := n0_
                have HB := n1_
                clear n0_ n1_
                have n0_ := Aside0.mk (blk_drew BK566.out)
                have n1_ := Aside0.mk (below_drew1 HB.out)
                clear BK566
                clear HB
                have BK566 := n0_
                have HB := n1_
                clear n0_ n1_
                have p569 : 0 ≤ ((ji23) : Int) := of_decide_eq_true (by first | (with_reducible assumption) | assumption)
                have q569 : (ji23) < (l2.length : Int) := of_decide_eq_true (by first | (with_reducible assumption) | assumption)
                obtain ⟨ad569, e569, hx569_0, hx569_1⟩ := at_T122 HR2.out (ji23) p569 q569
                have hw569_1 := hx569_1
                have hw569_0 := hx569_0
                obtain rfl : ad565 = ad569 := (by injection e569)
                replace hx569_0 := (HB.out.cell (World.block_lt_of_cell? w _ hx569_0)).trans hx569_0
                replace hx569_1 := (HB.out.cell (World.block_lt_of_cell? w _ hx569_1)).trans hx569_1
                replace p569 := eq_true p569
                replace q569 := eq_true q569
                refine start_ (n := 38) (S := fun w' => w'.cell? ⟨gb566, 0, none⟩ = some (.int .i64 ((rd_T122 l2 x21_2).f0)) ∧ w'.cell? ⟨gb566, 1, none⟩ = some (.int .i64 ((rd_T122 l2 x21_2).f1)) ∧ w'.cell? (ad565.add (((ji23)).toNat * 2)) = some (.int .i64 ((rd_T122 l2 (ji23)).f0)) ∧ w'.cell? ⟨(ad565.add (((ji23)).toNat * 2)).block, (ad565.add (((ji23)).toNat * 2)).off + 1, none⟩ = some (.int .i64 ((rd_T122 l2 (ji23)).f1))) (ds := []) (ba_ 38 0) (by kernel_rfl) rfl rfl ⟨(blk_cell BK566.out 0).trans rfl, (blk_cell BK566.out 1).trans rfl, ((HB.out.cell (World.block_lt_of_cell? w _ hw569_0)).trans hw569_0), ((HB.out.cell (World.block_lt_of_cell? w _ hw569_1)).trans hw569_1)⟩ (fun hHeld => ?_); refine with_tabW impl_MapOk.tab6 impl_MapOk.bits6 (fun HT_ HW_ => ?_)
                generalize w27.drew = w28 at BK566 HB hx569_0 hx569_1 hHeld ⊢
                refine pu_ 0 (some 26) (ba_ 38 1) rfl rfl (any_of HT_.out (by kernel_rfl)) ?_
                refine pu_ 1 (some 27) (ba_ 38 3) rfl rfl (any_of HT_.out (by kernel_rfl)) ?_
                refine ta_ 2 (some 28) (ba_ 38 7) rfl rfl (take_ofW HT_.out HW_.out (by kernel_rfl)) hHeld (by rintro w' ⟨s0, s1, s2, s3⟩; go_simp; with_reducible rfl) ?_
                refine one_ (i := 3) (N := some 29) (ba_ 38 15) rfl rfl (one_of HT_.out (by kernel_rfl)) (by decide) (fun K hK => ?_)
                refine goes_ Try.func125 (by kernel_rfl) rfl #[.slice A0 l0.length c0, .int .i64 ((rd_T122 l2 x21_2).f0)] (by rfl) rfl rfl (by (try simp only [List.map_toArray, List.map_cons, List.map_nil]); first | done | rfl | (simp only [List.length_drop, List.length_take]; rfl)) ?_
                with_reducible refine (impl_hasNode.calls k2 _ _ l0 ((rd_T122 l2 x21_2).f0) true _ ?side1 ?side2 A18.out).mono ?_
                (case side1 => repeat (first | exact (Kd.C_below HR0.out HB.out) | (with_reducible refine Kd.C_alloc ?_ _) | (with_reducible refine Kd.C_drewN ?_ _) | (with_reducible refine Kd.C_drew ?_)))
                (case side2 => exact HC0.out)
                rintro e w29 ⟨rfl, hb⟩
                refine ⟨_, rfl, ?_⟩
                have n0_ := Aside0.mk (blk_below (g := gb566) (o := .cells #[.int .i64 ((rd_T122 l2 x21_2).f0), .int .i64 ((rd_T122 l2 x21_2).f1)] 122 (0, 0)) (by (with_reducible repeat (first | refine blk_drewN ?_ _ | refine blk_drew ?_ | refine blk_alloc ?_ _)); exact BK566.out) hb)
                have n1_ := Aside0.mk (below_step (by repeat (first | (with_reducible first | exact HB.out | apply below_alloc | apply pw_below_drewN | apply below_drew1 | refine below_set ?_ GE566.out) | exact HB.out)) hb)
                clear BK566
                clear HB
                have BK566 := n0_
                have HB := n1_
                clear n0_ n1_
                (try clear hb)
                (try clear hb2)
                (try clear hk)
                (try clear hi)
                refine hK.out _ _ ⟨(blk_cell BK566.out 0).trans rfl, (blk_cell BK566.out 1).trans rfl, ((HB.out.cell (World.block_lt_of_cell? w _ hw569_0)).trans hw569_0), ((HB.out.cell (World.block_lt_of_cell? w _ hw569_1)).trans hw569_1)⟩ (fun hHeld => ?_)
                clear hK K
                refine norm_ (a' := ?_) ?_ ?_
                rotate_left
                ·show Act.put _ (some 29) _ = _
                 simp only [Act.put, List.setIfInBounds_toArray, List.set_cons_zero, List.set_cons_succ, i64_w, i32_w]
                 rfl
                refine pu_ 4 (some 30) (ba_ 38 31) rfl rfl (any_of HT_.out (by kernel_rfl)) ?_
                refine pu_ 5 (some 31) (ba_ 38 63) rfl rfl (any_of HT_.out (by kernel_rfl)) ?_
                refine pu_ 6 (some 32) (ba_ 38 127) rfl rfl (any_of HT_.out (by kernel_rfl)) ?_
                refine pu_ 7 (some 33) (ba_ 38 255) rfl rfl (any_of HT_.out (by kernel_rfl)) ?_
                refine ta_ 8 (some 34) (ba_ 38 511) rfl rfl (take_ofW HT_.out HW_.out (by kernel_rfl)) hHeld (by rintro w' ⟨s0, s1, s2, s3⟩; go_simp; with_reducible rfl) ?_
                refine one_ (i := 9) (N := some 35) (ba_ 38 1023) rfl rfl (one_of HT_.out (by kernel_rfl)) (by decide) (fun K hK => ?_)
                refine goes_ Try.func125 (by kernel_rfl) rfl #[.slice A1 l1.length c1, .int .i64 ((rd_T122 l2 x21_2).f1)] (by rfl) rfl rfl (by (try simp only [List.map_toArray, List.map_cons, List.map_nil]); first | done | rfl | (simp only [List.length_drop, List.length_take]; rfl)) ?_
                with_reducible refine (impl_hasNode.calls k2 _ _ l1 ((rd_T122 l2 x21_2).f1) true _ ?side1 ?side2 A20.out).mono ?_
                (case side1 => repeat (first | exact (Kd.C_below HR1.out HB.out) | (with_reducible refine Kd.C_alloc ?_ _) | (with_reducible refine Kd.C_drewN ?_ _) | (with_reducible refine Kd.C_drew ?_)))
                (case side2 => exact HC1.out)
                rintro e w30 ⟨rfl, hb⟩
                refine ⟨_, rfl, ?_⟩
                have n0_ := Aside0.mk (blk_below (g := gb566) (o := .cells #[.int .i64 ((rd_T122 l2 x21_2).f0), .int .i64 ((rd_T122 l2 x21_2).f1)] 122 (0, 0)) (by (with_reducible repeat (first | refine blk_drewN ?_ _ | refine blk_drew ?_ | refine blk_alloc ?_ _)); exact BK566.out) hb)
                have n1_ := Aside0.mk (below_step (by repeat (first | (with_reducible first | exact HB.out | apply below_alloc | apply pw_below_drewN | apply below_drew1 | refine below_set ?_ GE566.out) | exact HB.out)) hb)
                clear BK566
                clear HB
                have BK566 := n0_
                have HB := n1_
                clear n0_ n1_
                (try clear hb)
                (try clear hb2)
                (try clear hk)
                (try clear hi)
                refine hK.out _ _ ⟨(blk_cell BK566.out 0).trans rfl, (blk_cell BK566.out 1).trans rfl, ((HB.out.cell (World.block_lt_of_cell? w _ hw569_0)).trans hw569_0), ((HB.out.cell (World.block_lt_of_cell? w _ hw569_1)).trans hw569_1)⟩ (fun hHeld => ?_)
                clear hK K
                refine norm_ (a' := ?_) ?_ ?_
                rotate_left
                ·show Act.put _ (some 35) _ = _
                 simp only [Act.put, List.setIfInBounds_toArray, List.set_cons_zero, List.set_cons_succ, i64_w, i32_w]
                 rfl
                refine pu_ 10 (some 36) (ba_ 38 2047) rfl rfl (any_of HT_.out (by kernel_rfl)) ?_
                refine pu_ 11 (some 37) (ba_ 38 4095) rfl rfl (any_of HT_.out (by kernel_rfl)) ?_
                refine pu_ 12 (some 38) (ba_ 38 8191) rfl rfl (any_of HT_.out (by kernel_rfl)) ?_
                refine pu_ 13 (some 39) (ba_ 38 16383) rfl rfl (any_of HT_.out (by kernel_rfl)) ?_
                refine pu_ 14 (some 40) (ba_ 38 32767) rfl rfl (any_of HT_.out (by kernel_rfl)) ?_
                refine pu_ 15 (some 41) (ba_ 38 65535) rfl rfl (any_of HT_.out (by kernel_rfl)) ?_
                refine pu_ 16 (some 42) (ba_ 38 131071) rfl rfl (any_of HT_.out (by kernel_rfl)) ?_
                refine pu_ 18 (some 44) (ba_ 38 393215) rfl rfl (any_of HT_.out (by kernel_rfl)) ?_
                refine pu_ 19 (some 45) (ba_ 38 917503) rfl rfl (any_of HT_.out (by kernel_rfl)) ?_
                refine pu_ 20 (some 46) (ba_ 38 1966079) rfl rfl (any_of HT_.out (by kernel_rfl)) ?_
                refine pu_ 21 (some 47) (ba_ 38 4063231) rfl rfl (any_of HT_.out (by kernel_rfl)) ?_
                refine pu_ 22 (some 48) (ba_ 38 8257535) rfl rfl (any_of HT_.out (by kernel_rfl)) ?_
                refine ta_ 17 (some 43) (ba_ 38 8388607) rfl rfl (take_ofW HT_.out HW_.out (by kernel_rfl)) hHeld (by rintro w' ⟨s0, s1, s2, s3⟩; go_simp; with_reducible rfl) ?_
                refine ta_ 23 (some 49) (ba_ 38 16777215) rfl rfl (take_ofW HT_.out HW_.out (by kernel_rfl)) hHeld (by rintro w' ⟨s0, s1, s2, s3⟩; go_simp; with_reducible rfl) ?_
                refine pu_ 24 (some 50) (ba_ 38 33554431) rfl rfl (any_of HT_.out (by kernel_rfl)) ?_
                refine pu_ 25 (some 51) (ba_ 38 67108863) rfl rfl (any_of HT_.out (by kernel_rfl)) ?_
                refine pn_ 26 (some 52) (ba_ 38 134217727) rfl rfl (any_of HT_.out (by kernel_rfl)) ?_
                refine pn_ 27 (some 53) (ba_ 38 268435455) rfl rfl (any_of HT_.out (by kernel_rfl)) ?_
                refine pn_ 28 (some 54) (ba_ 38 536870911) rfl rfl (any_of HT_.out (by kernel_rfl)) ?_
                refine pn_ 29 (some 55) (ba_ 38 1073741823) rfl rfl (any_of HT_.out (by kernel_rfl)) ?_
                refine pn_ 30 (some 56) (ba_ 38 2147483647) rfl rfl (any_of HT_.out (by kernel_rfl)) ?_
                refine pn_ 31 (some 57) (ba_ 38 4294967295) rfl rfl (any_of HT_.out (by kernel_rfl)) ?_
                refine pn_ 32 (some 58) (ba_ 38 8589934591) rfl rfl (any_of HT_.out (by kernel_rfl)) ?_
                refine pn_ 33 (some 59) (ba_ 38 17179869183) rfl rfl (any_of HT_.out (by kernel_rfl)) ?_
                refine pn_ 34 (some 60) (ba_ 38 34359738367) rfl rfl (any_of HT_.out (by kernel_rfl)) ?_
                refine pu_ 35 (some 61) (ba_ 38 68719476735) rfl rfl (any_of HT_.out (by kernel_rfl)) ?_
                refine pu_ 36 (some 62) (ba_ 38 137438953471) rfl rfl (any_of HT_.out (by kernel_rfl)) ?_
                refine pu_ 37 (some 63) (ba_ 38 274877906943) rfl rfl (any_of HT_.out (by kernel_rfl)) ?_
                refine done_ (done_of HT_.out (by kernel_rfl)) ?_
                try go_wp2
                go_meet
                case rel => exact ⟨_, (true), (by first | rfl | (simp; done) | (simp [*]; done)), H', ⟨by have := HJ3.out; have := HK2.out; first | omega | exact Nat.le_refl _⟩, ⟨by (with_reducible repeat (first | refine blk_drewN ?_ _ | refine blk_drew ?_ | refine blk_alloc ?_ _)); exact BK566.out⟩, ⟨by repeat (first | (with_reducible first | exact HB.out | apply below_alloc | apply pw_below_drewN | apply below_drew1 | refine below_set ?_ GE566.out) | exact HB.out)⟩⟩
               ·rw [if_neg c26] at H
                have c26b0 : decide (((rd_T122 l2 x21_2).f0) ≤ ((rd_T122 l2 (ji23)).f0)) = false := decide_eq_false c26
                clear c26
                have H' := Aside0.mk H
                clear H
                try go_wp2
                have n0_ : Aside0 (((w16.setCell ⟨gb566, 0, none⟩ (.int .i64 ((rd_T122 l2 x21_2).f0))).setCell ⟨gb566, 1, none⟩ (.int .i64 ((rd_T122 l2 x21_2).f1))).heap[gb566]? = some (.cells #[.int .i64 ((rd_T122 l2 x21_2).f0), .int .i64 ((rd_T122 l2 x21_2).f1)] 122 (0, 0))) := ⟨by (with_reducible repeat (first | refine blk_drewN ?_ _ | refine blk_drew ?_ | refine blk_alloc ?_ _)); refine blk_put (cs := #[.int .i64 ((rd_T122 l2 x21_2).f0), .int .i64 0]) ?_ 1 _ rfl; (with_reducible repeat (first | refine blk_drewN ?_ _ | refine blk_drew ?_ | refine blk_alloc ?_ _)); refine blk_put (cs := #[.int .i64 0, .int .i64 0]) ?_ 0 _ rfl; (with_reducible repeat (first | refine blk_drewN ?_ _ | refine blk_drew ?_ | refine blk_alloc ?_ _)); exact BK566.out⟩
                have n1_ : Aside0 (Below w.heap.size w ((w16.setCell ⟨gb566, 0, none⟩ (.int .i64 ((rd_T122 l2 x21_2).f0))).setCell ⟨gb566, 1, none⟩ (.int .i64 ((rd_T122 l2 x21_2).f1)))) := ⟨by repeat (first | (with_reducible first | exact HB.out | apply below_alloc | apply pw_below_drewN | apply below_drew1 | refine below_set ?_ GE566.out) | exact HB.out)⟩
                (try clear BK566)
                (try clear HB)
                generalize ((w16.setCell ⟨gb566, 0, none⟩ (.int .i64 ((rd_T122 l2 x21_2).f0))).setCell ⟨gb566, 1, none⟩ (.int .i64 ((rd_T122 l2 x21_2).f1))) = w31 at n0_ n1_ ⊢
                have BK566 := n0_
                have HB := n1_
                clear n0_ n1_
                have n0_ := Aside0.mk (blk_drew BK566.out)
                have n1_ := Aside0.mk (below_drew1 HB.out)
                clear BK566
                clear HB
                have BK566 := n0_
                have HB := n1_
                clear n0_ n1_
                have p569 : 0 ≤ ((ji23) : Int) := of_decide_eq_true (by first | (with_reducible assumption) | assumption)
                have q569 : (ji23) < (l2.length : Int) := of_decide_eq_true (by first | (with_reducible assumption) | assumption)
                obtain ⟨ad569, e569, hx569_0, hx569_1⟩ := at_T122 HR2.out (ji23) p569 q569
                have hw569_1 := hx569_1
                have hw569_0 := hx569_0
                obtain rfl : ad565 = ad569 := (by injection e569)
                replace hx569_0 := (HB.out.cell (World.block_lt_of_cell? w _ hx569_0)).trans hx569_0
                replace hx569_1 := (HB.out.cell (World.block_lt_of_cell? w _ hx569_1)).trans hx569_1
                replace p569 := eq_true p569
                replace q569 := eq_true q569
                have p570 : 0 ≤ ((ji23) : Int) := of_decide_eq_true (by first | (with_reducible assumption) | assumption)
                have q570 : (ji23) < (l2.length : Int) := of_decide_eq_true (by first | (with_reducible assumption) | assumption)
                obtain ⟨ad570, e570, hx570_0, hx570_1⟩ := at_T122 HR2.out (ji23) p570 q570
                have hw570_1 := hx570_1
                have hw570_0 := hx570_0
                obtain rfl : ad565 = ad570 := (by injection e570)
                replace hx570_0 := (HB.out.cell (World.block_lt_of_cell? w _ hx570_0)).trans hx570_0
                replace hx570_1 := (HB.out.cell (World.block_lt_of_cell? w _ hx570_1)).trans hx570_1
                replace p570 := eq_true p570
                replace q570 := eq_true q570
                refine start_ (n := 38) (S := fun w' => w'.cell? ⟨gb566, 0, none⟩ = some (.int .i64 ((rd_T122 l2 x21_2).f0)) ∧ w'.cell? ⟨gb566, 1, none⟩ = some (.int .i64 ((rd_T122 l2 x21_2).f1)) ∧ w'.cell? (ad565.add (((ji23)).toNat * 2)) = some (.int .i64 ((rd_T122 l2 (ji23)).f0)) ∧ w'.cell? ⟨(ad565.add (((ji23)).toNat * 2)).block, (ad565.add (((ji23)).toNat * 2)).off + 1, none⟩ = some (.int .i64 ((rd_T122 l2 (ji23)).f1)) ∧ w'.cell? (ad565.add (((ji23)).toNat * 2)) = some (.int .i64 ((rd_T122 l2 (ji23)).f0)) ∧ w'.cell? ⟨(ad565.add (((ji23)).toNat * 2)).block, (ad565.add (((ji23)).toNat * 2)).off + 1, none⟩ = some (.int .i64 ((rd_T122 l2 (ji23)).f1))) (ds := []) (ba_ 38 0) (by kernel_rfl) rfl rfl ⟨(blk_cell BK566.out 0).trans rfl, (blk_cell BK566.out 1).trans rfl, ((HB.out.cell (World.block_lt_of_cell? w _ hw569_0)).trans hw569_0), ((HB.out.cell (World.block_lt_of_cell? w _ hw569_1)).trans hw569_1), ((HB.out.cell (World.block_lt_of_cell? w _ hw570_0)).trans hw570_0), ((HB.out.cell (World.block_lt_of_cell? w _ hw570_1)).trans hw570_1)⟩ (fun hHeld => ?_); refine with_tabW impl_MapOk.tab6 impl_MapOk.bits6 (fun HT_ HW_ => ?_)
                generalize w31.drew = w32 at BK566 HB hx569_0 hx569_1 hx570_0 hx570_1 hHeld ⊢
                refine pu_ 0 (some 26) (ba_ 38 1) rfl rfl (any_of HT_.out (by kernel_rfl)) ?_
                refine pu_ 1 (some 27) (ba_ 38 3) rfl rfl (any_of HT_.out (by kernel_rfl)) ?_
                refine ta_ 2 (some 28) (ba_ 38 7) rfl rfl (take_ofW HT_.out HW_.out (by kernel_rfl)) hHeld (by rintro w' ⟨s0, s1, s2, s3, s4, s5⟩; go_simp; with_reducible rfl) ?_
                refine one_ (i := 3) (N := some 29) (ba_ 38 15) rfl rfl (one_of HT_.out (by kernel_rfl)) (by decide) (fun K hK => ?_)
                refine goes_ Try.func125 (by kernel_rfl) rfl #[.slice A0 l0.length c0, .int .i64 ((rd_T122 l2 x21_2).f0)] (by rfl) rfl rfl (by (try simp only [List.map_toArray, List.map_cons, List.map_nil]); first | done | rfl | (simp only [List.length_drop, List.length_take]; rfl)) ?_
                with_reducible refine (impl_hasNode.calls k2 _ _ l0 ((rd_T122 l2 x21_2).f0) true _ ?side1 ?side2 A18.out).mono ?_
                (case side1 => repeat (first | exact (Kd.C_below HR0.out HB.out) | (with_reducible refine Kd.C_alloc ?_ _) | (with_reducible refine Kd.C_drewN ?_ _) | (with_reducible refine Kd.C_drew ?_)))
                (case side2 => exact HC0.out)
                rintro e w33 ⟨rfl, hb⟩
                refine ⟨_, rfl, ?_⟩
                have n0_ := Aside0.mk (blk_below (g := gb566) (o := .cells #[.int .i64 ((rd_T122 l2 x21_2).f0), .int .i64 ((rd_T122 l2 x21_2).f1)] 122 (0, 0)) (by (with_reducible repeat (first | refine blk_drewN ?_ _ | refine blk_drew ?_ | refine blk_alloc ?_ _)); exact BK566.out) hb)
                have n1_ := Aside0.mk (below_step (by repeat (first | (with_reducible first | exact HB.out | apply below_alloc | apply pw_below_drewN | apply below_drew1 | refine below_set ?_ GE566.out) | exact HB.out)) hb)
                clear BK566
                clear HB
                have BK566 := n0_
                have HB := n1_
                clear n0_ n1_
                (try clear hb)
                (try clear hb2)
                (try clear hk)
                (try clear hi)
                refine hK.out _ _ ⟨(blk_cell BK566.out 0).trans rfl, (blk_cell BK566.out 1).trans rfl, ((HB.out.cell (World.block_lt_of_cell? w _ hw569_0)).trans hw569_0), ((HB.out.cell (World.block_lt_of_cell? w _ hw569_1)).trans hw569_1), ((HB.out.cell (World.block_lt_of_cell? w _ hw570_0)).trans hw570_0), ((HB.out.cell (World.block_lt_of_cell? w _ hw570_1)).trans hw570_1)⟩ (fun hHeld => ?_)
                clear hK K
                refine norm_ (a' := ?_) ?_ ?_
                rotate_left
                ·show Act.put _ (some 29) _ = _
                 simp only [Act.put, List.setIfInBounds_toArray, List.set_cons_zero, List.set_cons_succ, i64_w, i32_w]
                 rfl
                refine pu_ 4 (some 30) (ba_ 38 31) rfl rfl (any_of HT_.out (by kernel_rfl)) ?_
                refine pu_ 5 (some 31) (ba_ 38 63) rfl rfl (any_of HT_.out (by kernel_rfl)) ?_
                refine pu_ 6 (some 32) (ba_ 38 127) rfl rfl (any_of HT_.out (by kernel_rfl)) ?_
                refine pu_ 7 (some 33) (ba_ 38 255) rfl rfl (any_of HT_.out (by kernel_rfl)) ?_
                refine ta_ 8 (some 34) (ba_ 38 511) rfl rfl (take_ofW HT_.out HW_.out (by kernel_rfl)) hHeld (by rintro w' ⟨s0, s1, s2, s3, s4, s5⟩; go_simp; with_reducible rfl) ?_
                refine one_ (i := 9) (N := some 35) (ba_ 38 1023) rfl rfl (one_of HT_.out (by kernel_rfl)) (by decide) (fun K hK => ?_)
                refine goes_ Try.func125 (by kernel_rfl) rfl #[.slice A1 l1.length c1, .int .i64 ((rd_T122 l2 x21_2).f1)] (by rfl) rfl rfl (by (try simp only [List.map_toArray, List.map_cons, List.map_nil]); first | done | rfl | (simp only [List.length_drop, List.length_take]; rfl)) ?_
                with_reducible refine (impl_hasNode.calls k2 _ _ l1 ((rd_T122 l2 x21_2).f1) true _ ?side1 ?side2 A20.out).mono ?_
                (case side1 => repeat (first | exact (Kd.C_below HR1.out HB.out) | (with_reducible refine Kd.C_alloc ?_ _) | (with_reducible refine Kd.C_drewN ?_ _) | (with_reducible refine Kd.C_drew ?_)))
                (case side2 => exact HC1.out)
                rintro e w34 ⟨rfl, hb⟩
                refine ⟨_, rfl, ?_⟩
                have n0_ := Aside0.mk (blk_below (g := gb566) (o := .cells #[.int .i64 ((rd_T122 l2 x21_2).f0), .int .i64 ((rd_T122 l2 x21_2).f1)] 122 (0, 0)) (by (with_reducible repeat (first | refine blk_drewN ?_ _ | refine blk_drew ?_ | refine blk_alloc ?_ _)); exact BK566.out) hb)
                have n1_ := Aside0.mk (below_step (by repeat (first | (with_reducible first | exact HB.out | apply below_alloc | apply pw_below_drewN | apply below_drew1 | refine below_set ?_ GE566.out) | exact HB.out)) hb)
                clear BK566
                clear HB
                have BK566 := n0_
                have HB := n1_
                clear n0_ n1_
                (try clear hb)
                (try clear hb2)
                (try clear hk)
                (try clear hi)
                refine hK.out _ _ ⟨(blk_cell BK566.out 0).trans rfl, (blk_cell BK566.out 1).trans rfl, ((HB.out.cell (World.block_lt_of_cell? w _ hw569_0)).trans hw569_0), ((HB.out.cell (World.block_lt_of_cell? w _ hw569_1)).trans hw569_1), ((HB.out.cell (World.block_lt_of_cell? w _ hw570_0)).trans hw570_0), ((HB.out.cell (World.block_lt_of_cell? w _ hw570_1)).trans hw570_1)⟩ (fun hHeld => ?_)
                clear hK K
                refine norm_ (a' := ?_) ?_ ?_
                rotate_left
                ·show Act.put _ (some 35) _ = _
                 simp only [Act.put, List.setIfInBounds_toArray, List.set_cons_zero, List.set_cons_succ, i64_w, i32_w]
                 rfl
                refine pu_ 10 (some 36) (ba_ 38 2047) rfl rfl (any_of HT_.out (by kernel_rfl)) ?_
                refine pu_ 11 (some 37) (ba_ 38 4095) rfl rfl (any_of HT_.out (by kernel_rfl)) ?_
                refine pu_ 12 (some 38) (ba_ 38 8191) rfl rfl (any_of HT_.out (by kernel_rfl)) ?_
                refine pu_ 13 (some 39) (ba_ 38 16383) rfl rfl (any_of HT_.out (by kernel_rfl)) ?_
                refine pu_ 14 (some 40) (ba_ 38 32767) rfl rfl (any_of HT_.out (by kernel_rfl)) ?_
                refine pu_ 15 (some 41) (ba_ 38 65535) rfl rfl (any_of HT_.out (by kernel_rfl)) ?_
                refine pu_ 16 (some 42) (ba_ 38 131071) rfl rfl (any_of HT_.out (by kernel_rfl)) ?_
                refine pu_ 18 (some 44) (ba_ 38 393215) rfl rfl (any_of HT_.out (by kernel_rfl)) ?_
                refine pu_ 19 (some 45) (ba_ 38 917503) rfl rfl (any_of HT_.out (by kernel_rfl)) ?_
                refine pu_ 20 (some 46) (ba_ 38 1966079) rfl rfl (any_of HT_.out (by kernel_rfl)) ?_
                refine pu_ 21 (some 47) (ba_ 38 4063231) rfl rfl (any_of HT_.out (by kernel_rfl)) ?_
                refine pu_ 22 (some 48) (ba_ 38 8257535) rfl rfl (any_of HT_.out (by kernel_rfl)) ?_
                refine ta_ 17 (some 43) (ba_ 38 8388607) rfl rfl (take_ofW HT_.out HW_.out (by kernel_rfl)) hHeld (by rintro w' ⟨s0, s1, s2, s3, s4, s5⟩; go_simp; with_reducible rfl) ?_
                refine ta_ 23 (some 49) (ba_ 38 16777215) rfl rfl (take_ofW HT_.out HW_.out (by kernel_rfl)) hHeld (by rintro w' ⟨s0, s1, s2, s3, s4, s5⟩; go_simp; with_reducible rfl) ?_
                refine pu_ 24 (some 50) (ba_ 38 33554431) rfl rfl (any_of HT_.out (by kernel_rfl)) ?_
                refine pu_ 25 (some 51) (ba_ 38 67108863) rfl rfl (any_of HT_.out (by kernel_rfl)) ?_
                refine pu_ 26 (some 52) (ba_ 38 134217727) rfl rfl (any_of HT_.out (by kernel_rfl)) ?_
                refine pu_ 28 (some 54) (ba_ 38 402653183) rfl rfl (any_of HT_.out (by kernel_rfl)) ?_
                refine pu_ 29 (some 55) (ba_ 38 939524095) rfl rfl (any_of HT_.out (by kernel_rfl)) ?_
                refine pu_ 30 (some 56) (ba_ 38 2013265919) rfl rfl (any_of HT_.out (by kernel_rfl)) ?_
                refine pu_ 31 (some 57) (ba_ 38 4160749567) rfl rfl (any_of HT_.out (by kernel_rfl)) ?_
                refine pu_ 32 (some 58) (ba_ 38 8455716863) rfl rfl (any_of HT_.out (by kernel_rfl)) ?_
                refine ta_ 27 (some 53) (ba_ 38 8589934591) rfl rfl (take_ofW HT_.out HW_.out (by kernel_rfl)) hHeld (by rintro w' ⟨s0, s1, s2, s3, s4, s5⟩; go_simp; with_reducible rfl) ?_
                refine ta_ 33 (some 59) (ba_ 38 17179869183) rfl rfl (take_ofW HT_.out HW_.out (by kernel_rfl)) hHeld (by rintro w' ⟨s0, s1, s2, s3, s4, s5⟩; go_simp; with_reducible rfl) ?_
                refine pu_ 34 (some 60) (ba_ 38 34359738367) rfl rfl (any_of HT_.out (by kernel_rfl)) ?_
                refine pu_ 35 (some 61) (ba_ 38 68719476735) rfl rfl (any_of HT_.out (by kernel_rfl)) ?_
                refine pu_ 36 (some 62) (ba_ 38 137438953471) rfl rfl (any_of HT_.out (by kernel_rfl)) ?_
                refine pu_ 37 (some 63) (ba_ 38 274877906943) rfl rfl (any_of HT_.out (by kernel_rfl)) ?_
                refine done_ (done_of HT_.out (by kernel_rfl)) ?_
                try go_wp2
                go_meet
                case rel => exact ⟨_, (decide (((rd_T122 l2 x21_2).f1) ≤ ((rd_T122 l2 (ji23)).f1))), (by first | rfl | (simp; done) | (simp only [← hji23] <;> (first | rfl | simp)) | (simp [*]; done)), H', ⟨by have := HJ3.out; have := HK2.out; first | omega | exact Nat.le_refl _⟩, ⟨by (with_reducible repeat (first | refine blk_drewN ?_ _ | refine blk_drew ?_ | refine blk_alloc ?_ _)); exact BK566.out⟩, ⟨by repeat (first | (with_reducible first | exact HB.out | apply below_alloc | apply pw_below_drewN | apply below_drew1 | refine below_set ?_ GE566.out) | exact HB.out)⟩⟩
              ·rw [if_neg c25] at H
               exact absurd H (by simp)
             ·rw [if_neg c24] at H
              exact absurd H (by simp)
            ·rw [if_neg c22] at H
             have c22b0 : decide (0 < x21_2) = false := decide_eq_false c22
             clear c22
             (first | rw [c22b0] | (simp only [i64_w, i32_w]; rw [c22b0]) | skip)
             have H' := Aside0.mk H
             clear H
             try go_wp2
             have n0_ : Aside0 (((w16.setCell ⟨gb566, 0, none⟩ (.int .i64 ((rd_T122 l2 x21_2).f0))).setCell ⟨gb566, 1, none⟩ (.int .i64 ((rd_T122 l2 x21_2).f1))).heap[gb566]? = some (.cells #[.int .i64 ((rd_T122 l2 x21_2).f0), .int .i64 ((rd_T122 l2 x21_2).f1)] 122 (0, 0))) := ⟨by (with_reducible repeat (first | refine blk_drewN ?_ _ | refine blk_drew ?_ | refine blk_alloc ?_ _)); refine blk_put (cs := #[.int .i64 ((rd_T122 l2 x21_2).f0), .int .i64 0]) ?_ 1 _ rfl; (with_reducible repeat (first | refine blk_drewN ?_ _ | refine blk_drew ?_ | refine blk_alloc ?_ _)); refine blk_put (cs := #[.int .i64 0, .int .i64 0]) ?_ 0 _ rfl; (with_reducible repeat (first | refine blk_drewN ?_ _ | refine blk_drew ?_ | refine blk_alloc ?_ _)); exact BK566.out⟩
             have n1_ : Aside0 (Below w.heap.size w ((w16.setCell ⟨gb566, 0, none⟩ (.int .i64 ((rd_T122 l2 x21_2).f0))).setCell ⟨gb566, 1, none⟩ (.int .i64 ((rd_T122 l2 x21_2).f1)))) := ⟨by repeat (first | (with_reducible first | exact HB.out | apply below_alloc | apply pw_below_drewN | apply below_drew1 | refine below_set ?_ GE566.out) | exact HB.out)⟩
             (try clear BK566)
             (try clear HB)
             generalize ((w16.setCell ⟨gb566, 0, none⟩ (.int .i64 ((rd_T122 l2 x21_2).f0))).setCell ⟨gb566, 1, none⟩ (.int .i64 ((rd_T122 l2 x21_2).f1))) = w35 at n0_ n1_ ⊢
             have BK566 := n0_
             have HB := n1_
             clear n0_ n1_
             have n0_ := Aside0.mk (blk_drew BK566.out)
             have n1_ := Aside0.mk (below_drew1 HB.out)
             clear BK566
             clear HB
             have BK566 := n0_
             have HB := n1_
             clear n0_ n1_
             refine start_ (n := 38) (S := fun w' => w'.cell? ⟨gb566, 0, none⟩ = some (.int .i64 ((rd_T122 l2 x21_2).f0)) ∧ w'.cell? ⟨gb566, 1, none⟩ = some (.int .i64 ((rd_T122 l2 x21_2).f1))) (ds := []) (ba_ 38 0) (by kernel_rfl) rfl rfl ⟨(blk_cell BK566.out 0).trans rfl, (blk_cell BK566.out 1).trans rfl⟩ (fun hHeld => ?_); refine with_tabW impl_MapOk.tab6 impl_MapOk.bits6 (fun HT_ HW_ => ?_)
             generalize w35.drew = w36 at BK566 HB hHeld ⊢
             refine pu_ 0 (some 26) (ba_ 38 1) rfl rfl (any_of HT_.out (by kernel_rfl)) ?_
             refine pu_ 1 (some 27) (ba_ 38 3) rfl rfl (any_of HT_.out (by kernel_rfl)) ?_
             refine ta_ 2 (some 28) (ba_ 38 7) rfl rfl (take_ofW HT_.out HW_.out (by kernel_rfl)) hHeld (by rintro w' ⟨s0, s1⟩; go_simp; with_reducible rfl) ?_
             refine one_ (i := 3) (N := some 29) (ba_ 38 15) rfl rfl (one_of HT_.out (by kernel_rfl)) (by decide) (fun K hK => ?_)
             refine goes_ Try.func125 (by kernel_rfl) rfl #[.slice A0 l0.length c0, .int .i64 ((rd_T122 l2 x21_2).f0)] (by rfl) rfl rfl (by (try simp only [List.map_toArray, List.map_cons, List.map_nil]); first | done | rfl | (simp only [List.length_drop, List.length_take]; rfl)) ?_
             with_reducible refine (impl_hasNode.calls k2 _ _ l0 ((rd_T122 l2 x21_2).f0) true _ ?side1 ?side2 A18.out).mono ?_
             (case side1 => repeat (first | exact (Kd.C_below HR0.out HB.out) | (with_reducible refine Kd.C_alloc ?_ _) | (with_reducible refine Kd.C_drewN ?_ _) | (with_reducible refine Kd.C_drew ?_)))
             (case side2 => exact HC0.out)
             rintro e w37 ⟨rfl, hb⟩
             refine ⟨_, rfl, ?_⟩
             have n0_ := Aside0.mk (blk_below (g := gb566) (o := .cells #[.int .i64 ((rd_T122 l2 x21_2).f0), .int .i64 ((rd_T122 l2 x21_2).f1)] 122 (0, 0)) (by (with_reducible repeat (first | refine blk_drewN ?_ _ | refine blk_drew ?_ | refine blk_alloc ?_ _)); exact BK566.out) hb)
             have n1_ := Aside0.mk (below_step (by repeat (first | (with_reducible first | exact HB.out | apply below_alloc | apply pw_below_drewN | apply below_drew1 | refine below_set ?_ GE566.out) | exact HB.out)) hb)
             clear BK566
             clear HB
             have BK566 := n0_
             have HB := n1_
             clear n0_ n1_
             (try clear hb)
             (try clear hb2)
             (try clear hk)
             (try clear hi)
             refine hK.out _ _ ⟨(blk_cell BK566.out 0).trans rfl, (blk_cell BK566.out 1).trans rfl⟩ (fun hHeld => ?_)
             clear hK K
             refine norm_ (a' := ?_) ?_ ?_
             rotate_left
             ·show Act.put _ (some 29) _ = _
              simp only [Act.put, List.setIfInBounds_toArray, List.set_cons_zero, List.set_cons_succ, i64_w, i32_w]
              rfl
             refine pu_ 4 (some 30) (ba_ 38 31) rfl rfl (any_of HT_.out (by kernel_rfl)) ?_
             refine pu_ 5 (some 31) (ba_ 38 63) rfl rfl (any_of HT_.out (by kernel_rfl)) ?_
             refine pu_ 6 (some 32) (ba_ 38 127) rfl rfl (any_of HT_.out (by kernel_rfl)) ?_
             refine pu_ 7 (some 33) (ba_ 38 255) rfl rfl (any_of HT_.out (by kernel_rfl)) ?_
             refine ta_ 8 (some 34) (ba_ 38 511) rfl rfl (take_ofW HT_.out HW_.out (by kernel_rfl)) hHeld (by rintro w' ⟨s0, s1⟩; go_simp; with_reducible rfl) ?_
             refine one_ (i := 9) (N := some 35) (ba_ 38 1023) rfl rfl (one_of HT_.out (by kernel_rfl)) (by decide) (fun K hK => ?_)
             refine goes_ Try.func125 (by kernel_rfl) rfl #[.slice A1 l1.length c1, .int .i64 ((rd_T122 l2 x21_2).f1)] (by rfl) rfl rfl (by (try simp only [List.map_toArray, List.map_cons, List.map_nil]); first | done | rfl | (simp only [List.length_drop, List.length_take]; rfl)) ?_
             with_reducible refine (impl_hasNode.calls k2 _ _ l1 ((rd_T122 l2 x21_2).f1) true _ ?side1 ?side2 A20.out).mono ?_
             (case side1 => repeat (first | exact (Kd.C_below HR1.out HB.out) | (with_reducible refine Kd.C_alloc ?_ _) | (with_reducible refine Kd.C_drewN ?_ _) | (with_reducible refine Kd.C_drew ?_)))
             (case side2 => exact HC1.out)
             rintro e w38 ⟨rfl, hb⟩
             refine ⟨_, rfl, ?_⟩
             have n0_ := Aside0.mk (blk_below (g := gb566) (o := .cells #[.int .i64 ((rd_T122 l2 x21_2).f0), .int .i64 ((rd_T122 l2 x21_2).f1)] 122 (0, 0)) (by (with_reducible repeat (first | refine blk_drewN ?_ _ | refine blk_drew ?_ | refine blk_alloc ?_ _)); exact BK566.out) hb)
             have n1_ := Aside0.mk (below_step (by repeat (first | (with_reducible first | exact HB.out | apply below_alloc | apply pw_below_drewN | apply below_drew1 | refine below_set ?_ GE566.out) | exact HB.out)) hb)
             clear BK566
             clear HB
             have BK566 := n0_
             have HB := n1_
             clear n0_ n1_
             (try clear hb)
             (try clear hb2)
             (try clear hk)
             (try clear hi)
             refine hK.out _ _ ⟨(blk_cell BK566.out 0).trans rfl, (blk_cell BK566.out 1).trans rfl⟩ (fun hHeld => ?_)
             clear hK K
             refine norm_ (a' := ?_) ?_ ?_
             rotate_left
             ·show Act.put _ (some 35) _ = _
              simp only [Act.put, List.setIfInBounds_toArray, List.set_cons_zero, List.set_cons_succ, i64_w, i32_w]
              rfl
             refine pu_ 10 (some 36) (ba_ 38 2047) rfl rfl (any_of HT_.out (by kernel_rfl)) ?_
             refine pu_ 11 (some 37) (ba_ 38 4095) rfl rfl (any_of HT_.out (by kernel_rfl)) ?_
             refine pu_ 12 (some 38) (ba_ 38 8191) rfl rfl (any_of HT_.out (by kernel_rfl)) ?_
             refine pu_ 13 (some 39) (ba_ 38 16383) rfl rfl (any_of HT_.out (by kernel_rfl)) ?_
             refine pu_ 14 (some 40) (ba_ 38 32767) rfl rfl (any_of HT_.out (by kernel_rfl)) ?_
             refine pu_ 15 (some 41) (ba_ 38 65535) rfl rfl (any_of HT_.out (by kernel_rfl)) ?_
             refine pn_ 16 (some 42) (ba_ 38 131071) rfl rfl (any_of HT_.out (by kernel_rfl)) ?_
             refine pn_ 17 (some 43) (ba_ 38 262143) rfl rfl (any_of HT_.out (by kernel_rfl)) ?_
             refine pn_ 18 (some 44) (ba_ 38 524287) rfl rfl (any_of HT_.out (by kernel_rfl)) ?_
             refine pn_ 19 (some 45) (ba_ 38 1048575) rfl rfl (any_of HT_.out (by kernel_rfl)) ?_
             refine pn_ 20 (some 46) (ba_ 38 2097151) rfl rfl (any_of HT_.out (by kernel_rfl)) ?_
             refine pn_ 21 (some 47) (ba_ 38 4194303) rfl rfl (any_of HT_.out (by kernel_rfl)) ?_
             refine pn_ 22 (some 48) (ba_ 38 8388607) rfl rfl (any_of HT_.out (by kernel_rfl)) ?_
             refine pn_ 23 (some 49) (ba_ 38 16777215) rfl rfl (any_of HT_.out (by kernel_rfl)) ?_
             refine pn_ 24 (some 50) (ba_ 38 33554431) rfl rfl (any_of HT_.out (by kernel_rfl)) ?_
             refine pn_ 25 (some 51) (ba_ 38 67108863) rfl rfl (any_of HT_.out (by kernel_rfl)) ?_
             refine pn_ 26 (some 52) (ba_ 38 134217727) rfl rfl (any_of HT_.out (by kernel_rfl)) ?_
             refine pn_ 27 (some 53) (ba_ 38 268435455) rfl rfl (any_of HT_.out (by kernel_rfl)) ?_
             refine pn_ 28 (some 54) (ba_ 38 536870911) rfl rfl (any_of HT_.out (by kernel_rfl)) ?_
             refine pn_ 29 (some 55) (ba_ 38 1073741823) rfl rfl (any_of HT_.out (by kernel_rfl)) ?_
             refine pn_ 30 (some 56) (ba_ 38 2147483647) rfl rfl (any_of HT_.out (by kernel_rfl)) ?_
             refine pn_ 31 (some 57) (ba_ 38 4294967295) rfl rfl (any_of HT_.out (by kernel_rfl)) ?_
             refine pn_ 32 (some 58) (ba_ 38 8589934591) rfl rfl (any_of HT_.out (by kernel_rfl)) ?_
             refine pn_ 33 (some 59) (ba_ 38 17179869183) rfl rfl (any_of HT_.out (by kernel_rfl)) ?_
             refine pn_ 34 (some 60) (ba_ 38 34359738367) rfl rfl (any_of HT_.out (by kernel_rfl)) ?_
             refine pn_ 35 (some 61) (ba_ 38 68719476735) rfl rfl (any_of HT_.out (by kernel_rfl)) ?_
             refine pu_ 36 (some 62) (ba_ 38 137438953471) rfl rfl (any_of HT_.out (by kernel_rfl)) ?_
             refine pu_ 37 (some 63) (ba_ 38 274877906943) rfl rfl (any_of HT_.out (by kernel_rfl)) ?_
             refine done_ (done_of HT_.out (by kernel_rfl)) ?_
             try go_wp2
             go_meet
             case rel => exact ⟨_, (false), (by first | rfl | (simp; done) | (simp [*]; done)), H', ⟨by have := HJ3.out; have := HK2.out; first | omega | exact Nat.le_refl _⟩, ⟨by (with_reducible repeat (first | refine blk_drewN ?_ _ | refine blk_drew ?_ | refine blk_alloc ?_ _)); exact BK566.out⟩, ⟨by repeat (first | (with_reducible first | exact HB.out | apply below_alloc | apply pw_below_drewN | apply below_drew1 | refine below_set ?_ GE566.out) | exact HB.out)⟩⟩
           ·replace c21 := Bool.eq_false_iff.mpr c21
            subst c21
            have H1 : (impl_MapOk.j2 k2 l0 l1 l2 x21_2 l2 (l2.length : Int) x21_2 true ((rd_T122 l2 x21_2).f0) ((rd_T122 l2 x21_2).f1)) = some r := by rw [if_neg (show ¬ (false = true) by decide)] at H; exact H
            clear H
            have H := H1
            clear H1
            have H' := Aside0.mk H
            clear H
            try go_wp2
            have n0_ : Aside0 (((w16.setCell ⟨gb566, 0, none⟩ (.int .i64 ((rd_T122 l2 x21_2).f0))).setCell ⟨gb566, 1, none⟩ (.int .i64 ((rd_T122 l2 x21_2).f1))).heap[gb566]? = some (.cells #[.int .i64 ((rd_T122 l2 x21_2).f0), .int .i64 ((rd_T122 l2 x21_2).f1)] 122 (0, 0))) := ⟨by (with_reducible repeat (first | refine blk_drewN ?_ _ | refine blk_drew ?_ | refine blk_alloc ?_ _)); refine blk_put (cs := #[.int .i64 ((rd_T122 l2 x21_2).f0), .int .i64 0]) ?_ 1 _ rfl; (with_reducible repeat (first | refine blk_drewN ?_ _ | refine blk_drew ?_ | refine blk_alloc ?_ _)); refine blk_put (cs := #[.int .i64 0, .int .i64 0]) ?_ 0 _ rfl; (with_reducible repeat (first | refine blk_drewN ?_ _ | refine blk_drew ?_ | refine blk_alloc ?_ _)); exact BK566.out⟩
            have n1_ : Aside0 (Below w.heap.size w ((w16.setCell ⟨gb566, 0, none⟩ (.int .i64 ((rd_T122 l2 x21_2).f0))).setCell ⟨gb566, 1, none⟩ (.int .i64 ((rd_T122 l2 x21_2).f1)))) := ⟨by repeat (first | (with_reducible first | exact HB.out | apply below_alloc | apply pw_below_drewN | apply below_drew1 | refine below_set ?_ GE566.out) | exact HB.out)⟩
            (try clear BK566)
            (try clear HB)
            generalize ((w16.setCell ⟨gb566, 0, none⟩ (.int .i64 ((rd_T122 l2 x21_2).f0))).setCell ⟨gb566, 1, none⟩ (.int .i64 ((rd_T122 l2 x21_2).f1))) = w39 at n0_ n1_ ⊢
            have BK566 := n0_
            have HB := n1_
            clear n0_ n1_
            have n0_ := Aside0.mk (blk_drew BK566.out)
            have n1_ := Aside0.mk (below_drew1 HB.out)
            clear BK566
            clear HB
            have BK566 := n0_
            have HB := n1_
            clear n0_ n1_
            refine start_ (n := 38) (S := fun w' => w'.cell? ⟨gb566, 0, none⟩ = some (.int .i64 ((rd_T122 l2 x21_2).f0)) ∧ w'.cell? ⟨gb566, 1, none⟩ = some (.int .i64 ((rd_T122 l2 x21_2).f1))) (ds := []) (ba_ 38 0) (by kernel_rfl) rfl rfl ⟨(blk_cell BK566.out 0).trans rfl, (blk_cell BK566.out 1).trans rfl⟩ (fun hHeld => ?_); refine with_tabW impl_MapOk.tab6 impl_MapOk.bits6 (fun HT_ HW_ => ?_)
            generalize w39.drew = w40 at BK566 HB hHeld ⊢
            refine pu_ 0 (some 26) (ba_ 38 1) rfl rfl (any_of HT_.out (by kernel_rfl)) ?_
            refine pu_ 1 (some 27) (ba_ 38 3) rfl rfl (any_of HT_.out (by kernel_rfl)) ?_
            refine ta_ 2 (some 28) (ba_ 38 7) rfl rfl (take_ofW HT_.out HW_.out (by kernel_rfl)) hHeld (by rintro w' ⟨s0, s1⟩; go_simp; with_reducible rfl) ?_
            refine one_ (i := 3) (N := some 29) (ba_ 38 15) rfl rfl (one_of HT_.out (by kernel_rfl)) (by decide) (fun K hK => ?_)
            refine goes_ Try.func125 (by kernel_rfl) rfl #[.slice A0 l0.length c0, .int .i64 ((rd_T122 l2 x21_2).f0)] (by rfl) rfl rfl (by (try simp only [List.map_toArray, List.map_cons, List.map_nil]); first | done | rfl | (simp only [List.length_drop, List.length_take]; rfl)) ?_
            with_reducible refine (impl_hasNode.calls k2 _ _ l0 ((rd_T122 l2 x21_2).f0) true _ ?side1 ?side2 A18.out).mono ?_
            (case side1 => repeat (first | exact (Kd.C_below HR0.out HB.out) | (with_reducible refine Kd.C_alloc ?_ _) | (with_reducible refine Kd.C_drewN ?_ _) | (with_reducible refine Kd.C_drew ?_)))
            (case side2 => exact HC0.out)
            rintro e w41 ⟨rfl, hb⟩
            refine ⟨_, rfl, ?_⟩
            have n0_ := Aside0.mk (blk_below (g := gb566) (o := .cells #[.int .i64 ((rd_T122 l2 x21_2).f0), .int .i64 ((rd_T122 l2 x21_2).f1)] 122 (0, 0)) (by (with_reducible repeat (first | refine blk_drewN ?_ _ | refine blk_drew ?_ | refine blk_alloc ?_ _)); exact BK566.out) hb)
            have n1_ := Aside0.mk (below_step (by repeat (first | (with_reducible first | exact HB.out | apply below_alloc | apply pw_below_drewN | apply below_drew1 | refine below_set ?_ GE566.out) | exact HB.out)) hb)
            clear BK566
            clear HB
            have BK566 := n0_
            have HB := n1_
            clear n0_ n1_
            (try clear hb)
            (try clear hb2)
            (try clear hk)
            (try clear hi)
            refine hK.out _ _ ⟨(blk_cell BK566.out 0).trans rfl, (blk_cell BK566.out 1).trans rfl⟩ (fun hHeld => ?_)
            clear hK K
            refine norm_ (a' := ?_) ?_ ?_
            rotate_left
            ·show Act.put _ (some 29) _ = _
             simp only [Act.put, List.setIfInBounds_toArray, List.set_cons_zero, List.set_cons_succ, i64_w, i32_w]
             rfl
            refine pu_ 4 (some 30) (ba_ 38 31) rfl rfl (any_of HT_.out (by kernel_rfl)) ?_
            refine pu_ 5 (some 31) (ba_ 38 63) rfl rfl (any_of HT_.out (by kernel_rfl)) ?_
            refine pu_ 6 (some 32) (ba_ 38 127) rfl rfl (any_of HT_.out (by kernel_rfl)) ?_
            refine pu_ 7 (some 33) (ba_ 38 255) rfl rfl (any_of HT_.out (by kernel_rfl)) ?_
            refine ta_ 8 (some 34) (ba_ 38 511) rfl rfl (take_ofW HT_.out HW_.out (by kernel_rfl)) hHeld (by rintro w' ⟨s0, s1⟩; go_simp; with_reducible rfl) ?_
            refine one_ (i := 9) (N := some 35) (ba_ 38 1023) rfl rfl (one_of HT_.out (by kernel_rfl)) (by decide) (fun K hK => ?_)
            refine goes_ Try.func125 (by kernel_rfl) rfl #[.slice A1 l1.length c1, .int .i64 ((rd_T122 l2 x21_2).f1)] (by rfl) rfl rfl (by (try simp only [List.map_toArray, List.map_cons, List.map_nil]); first | done | rfl | (simp only [List.length_drop, List.length_take]; rfl)) ?_
            with_reducible refine (impl_hasNode.calls k2 _ _ l1 ((rd_T122 l2 x21_2).f1) false _ ?side1 ?side2 A20.out).mono ?_
            (case side1 => repeat (first | exact (Kd.C_below HR1.out HB.out) | (with_reducible refine Kd.C_alloc ?_ _) | (with_reducible refine Kd.C_drewN ?_ _) | (with_reducible refine Kd.C_drew ?_)))
            (case side2 => exact HC1.out)
            rintro e w42 ⟨rfl, hb⟩
            refine ⟨_, rfl, ?_⟩
            have n0_ := Aside0.mk (blk_below (g := gb566) (o := .cells #[.int .i64 ((rd_T122 l2 x21_2).f0), .int .i64 ((rd_T122 l2 x21_2).f1)] 122 (0, 0)) (by (with_reducible repeat (first | refine blk_drewN ?_ _ | refine blk_drew ?_ | refine blk_alloc ?_ _)); exact BK566.out) hb)
            have n1_ := Aside0.mk (below_step (by repeat (first | (with_reducible first | exact HB.out | apply below_alloc | apply pw_below_drewN | apply below_drew1 | refine below_set ?_ GE566.out) | exact HB.out)) hb)
            clear BK566
            clear HB
            have BK566 := n0_
            have HB := n1_
            clear n0_ n1_
            (try clear hb)
            (try clear hb2)
            (try clear hk)
            (try clear hi)
            refine hK.out _ _ ⟨(blk_cell BK566.out 0).trans rfl, (blk_cell BK566.out 1).trans rfl⟩ (fun hHeld => ?_)
            clear hK K
            refine norm_ (a' := ?_) ?_ ?_
            rotate_left
            ·show Act.put _ (some 35) _ = _
             simp only [Act.put, List.setIfInBounds_toArray, List.set_cons_zero, List.set_cons_succ, i64_w, i32_w]
             rfl
            refine pu_ 10 (some 36) (ba_ 38 2047) rfl rfl (any_of HT_.out (by kernel_rfl)) ?_
            refine pu_ 11 (some 37) (ba_ 38 4095) rfl rfl (any_of HT_.out (by kernel_rfl)) ?_
            refine pu_ 12 (some 38) (ba_ 38 8191) rfl rfl (any_of HT_.out (by kernel_rfl)) ?_
            refine pn_ 13 (some 39) (ba_ 38 16383) rfl rfl (any_of HT_.out (by kernel_rfl)) ?_
            refine pn_ 14 (some 40) (ba_ 38 32767) rfl rfl (any_of HT_.out (by kernel_rfl)) ?_
            refine pn_ 15 (some 41) (ba_ 38 65535) rfl rfl (any_of HT_.out (by kernel_rfl)) ?_
            refine pn_ 16 (some 42) (ba_ 38 131071) rfl rfl (any_of HT_.out (by kernel_rfl)) ?_
            refine pn_ 17 (some 43) (ba_ 38 262143) rfl rfl (any_of HT_.out (by kernel_rfl)) ?_
            refine pn_ 18 (some 44) (ba_ 38 524287) rfl rfl (any_of HT_.out (by kernel_rfl)) ?_
            refine pn_ 19 (some 45) (ba_ 38 1048575) rfl rfl (any_of HT_.out (by kernel_rfl)) ?_
            refine pn_ 20 (some 46) (ba_ 38 2097151) rfl rfl (any_of HT_.out (by kernel_rfl)) ?_
            refine pn_ 21 (some 47) (ba_ 38 4194303) rfl rfl (any_of HT_.out (by kernel_rfl)) ?_
            refine pn_ 22 (some 48) (ba_ 38 8388607) rfl rfl (any_of HT_.out (by kernel_rfl)) ?_
            refine pn_ 23 (some 49) (ba_ 38 16777215) rfl rfl (any_of HT_.out (by kernel_rfl)) ?_
            refine pn_ 24 (some 50) (ba_ 38 33554431) rfl rfl (any_of HT_.out (by kernel_rfl)) ?_
            refine pn_ 25 (some 51) (ba_ 38 67108863) rfl rfl (any_of HT_.out (by kernel_rfl)) ?_
            refine pn_ 26 (some 52) (ba_ 38 134217727) rfl rfl (any_of HT_.out (by kernel_rfl)) ?_
            refine pn_ 27 (some 53) (ba_ 38 268435455) rfl rfl (any_of HT_.out (by kernel_rfl)) ?_
            refine pn_ 28 (some 54) (ba_ 38 536870911) rfl rfl (any_of HT_.out (by kernel_rfl)) ?_
            refine pn_ 29 (some 55) (ba_ 38 1073741823) rfl rfl (any_of HT_.out (by kernel_rfl)) ?_
            refine pn_ 30 (some 56) (ba_ 38 2147483647) rfl rfl (any_of HT_.out (by kernel_rfl)) ?_
            refine pn_ 31 (some 57) (ba_ 38 4294967295) rfl rfl (any_of HT_.out (by kernel_rfl)) ?_
            refine pn_ 32 (some 58) (ba_ 38 8589934591) rfl rfl (any_of HT_.out (by kernel_rfl)) ?_
            refine pn_ 33 (some 59) (ba_ 38 17179869183) rfl rfl (any_of HT_.out (by kernel_rfl)) ?_
            refine pn_ 34 (some 60) (ba_ 38 34359738367) rfl rfl (any_of HT_.out (by kernel_rfl)) ?_
            refine pn_ 35 (some 61) (ba_ 38 68719476735) rfl rfl (any_of HT_.out (by kernel_rfl)) ?_
            refine pn_ 36 (some 62) (ba_ 38 137438953471) rfl rfl (any_of HT_.out (by kernel_rfl)) ?_
            refine pu_ 37 (some 63) (ba_ 38 274877906943) rfl rfl (any_of HT_.out (by kernel_rfl)) ?_
            refine done_ (done_of HT_.out (by kernel_rfl)) ?_
            try go_wp2
            go_meet
            case rel => exact ⟨_, (true), (by first | rfl | (simp; done) | (simp [*]; done)), H', ⟨by have := HJ3.out; have := HK2.out; first | omega | exact Nat.le_refl _⟩, ⟨by (with_reducible repeat (first | refine blk_drewN ?_ _ | refine blk_drew ?_ | refine blk_alloc ?_ _)); exact BK566.out⟩, ⟨by repeat (first | (with_reducible first | exact HB.out | apply below_alloc | apply pw_below_drewN | apply below_drew1 | refine below_set ?_ GE566.out) | exact HB.out)⟩⟩
          ·replace c19 := Bool.eq_false_iff.mpr c19
           subst c19
           have H1 : (impl_MapOk.j2 k2 l0 l1 l2 x21_2 l2 (l2.length : Int) x21_2 true ((rd_T122 l2 x21_2).f0) ((rd_T122 l2 x21_2).f1)) = some r := by rw [if_neg (show ¬ (false = true) by decide)] at H; exact H
           clear H
           have H := H1
           clear H1
           have H' := Aside0.mk H
           clear H
           try go_wp2
           have n0_ : Aside0 (((w16.setCell ⟨gb566, 0, none⟩ (.int .i64 ((rd_T122 l2 x21_2).f0))).setCell ⟨gb566, 1, none⟩ (.int .i64 ((rd_T122 l2 x21_2).f1))).heap[gb566]? = some (.cells #[.int .i64 ((rd_T122 l2 x21_2).f0), .int .i64 ((rd_T122 l2 x21_2).f1)] 122 (0, 0))) := ⟨by (with_reducible repeat (first | refine blk_drewN ?_ _ | refine blk_drew ?_ | refine blk_alloc ?_ _)); refine blk_put (cs := #[.int .i64 ((rd_T122 l2 x21_2).f0), .int .i64 0]) ?_ 1 _ rfl; (with_reducible repeat (first | refine blk_drewN ?_ _ | refine blk_drew ?_ | refine blk_alloc ?_ _)); refine blk_put (cs := #[.int .i64 0, .int .i64 0]) ?_ 0 _ rfl; (with_reducible repeat (first | refine blk_drewN ?_ _ | refine blk_drew ?_ | refine blk_alloc ?_ _)); exact BK566.out⟩
           have n1_ : Aside0 (Below w.heap.size w ((w16.setCell ⟨gb566, 0, none⟩ (.int .i64 ((rd_T122 l2 x21_2).f0))).setCell ⟨gb566, 1, none⟩ (.int .i64 ((rd_T122 l2 x21_2).f1)))) := ⟨by repeat (first | (with_reducible first | exact HB.out | apply below_alloc | apply pw_below_drewN | apply below_drew1 | refine below_set ?_ GE566.out) | exact HB.out)⟩
           (try clear BK566)
           (try clear HB)
           generalize ((w16.setCell ⟨gb566, 0, none⟩ (.int .i64 ((rd_T122 l2 x21_2).f0))).setCell ⟨gb566, 1, none⟩ (.int .i64 ((rd_T122 l2 x21_2).f1))) = w43 at n0_ n1_ ⊢
           have BK566 := n0_
           have HB := n1_
           clear n0_ n1_
           have n0_ := Aside0.mk (blk_drew BK566.out)
           have n1_ := Aside0.mk (below_drew1 HB.out)
           clear BK566
           clear HB
           have BK566 := n0_
           have HB := n1_
           clear n0_ n1_
           refine start_ (n := 38) (S := fun w' => w'.cell? ⟨gb566, 0, none⟩ = some (.int .i64 ((rd_T122 l2 x21_2).f0)) ∧ w'.cell? ⟨gb566, 1, none⟩ = some (.int .i64 ((rd_T122 l2 x21_2).f1))) (ds := []) (ba_ 38 0) (by kernel_rfl) rfl rfl ⟨(blk_cell BK566.out 0).trans rfl, (blk_cell BK566.out 1).trans rfl⟩ (fun hHeld => ?_); refine with_tabW impl_MapOk.tab6 impl_MapOk.bits6 (fun HT_ HW_ => ?_)
           generalize w43.drew = w44 at BK566 HB hHeld ⊢
           refine pu_ 0 (some 26) (ba_ 38 1) rfl rfl (any_of HT_.out (by kernel_rfl)) ?_
           refine pu_ 1 (some 27) (ba_ 38 3) rfl rfl (any_of HT_.out (by kernel_rfl)) ?_
           refine ta_ 2 (some 28) (ba_ 38 7) rfl rfl (take_ofW HT_.out HW_.out (by kernel_rfl)) hHeld (by rintro w' ⟨s0, s1⟩; go_simp; with_reducible rfl) ?_
           refine one_ (i := 3) (N := some 29) (ba_ 38 15) rfl rfl (one_of HT_.out (by kernel_rfl)) (by decide) (fun K hK => ?_)
           refine goes_ Try.func125 (by kernel_rfl) rfl #[.slice A0 l0.length c0, .int .i64 ((rd_T122 l2 x21_2).f0)] (by rfl) rfl rfl (by (try simp only [List.map_toArray, List.map_cons, List.map_nil]); first | done | rfl | (simp only [List.length_drop, List.length_take]; rfl)) ?_
           with_reducible refine (impl_hasNode.calls k2 _ _ l0 ((rd_T122 l2 x21_2).f0) false _ ?side1 ?side2 A18.out).mono ?_
           (case side1 => repeat (first | exact (Kd.C_below HR0.out HB.out) | (with_reducible refine Kd.C_alloc ?_ _) | (with_reducible refine Kd.C_drewN ?_ _) | (with_reducible refine Kd.C_drew ?_)))
           (case side2 => exact HC0.out)
           rintro e w45 ⟨rfl, hb⟩
           refine ⟨_, rfl, ?_⟩
           have n0_ := Aside0.mk (blk_below (g := gb566) (o := .cells #[.int .i64 ((rd_T122 l2 x21_2).f0), .int .i64 ((rd_T122 l2 x21_2).f1)] 122 (0, 0)) (by (with_reducible repeat (first | refine blk_drewN ?_ _ | refine blk_drew ?_ | refine blk_alloc ?_ _)); exact BK566.out) hb)
           have n1_ := Aside0.mk (below_step (by repeat (first | (with_reducible first | exact HB.out | apply below_alloc | apply pw_below_drewN | apply below_drew1 | refine below_set ?_ GE566.out) | exact HB.out)) hb)
           clear BK566
           clear HB
           have BK566 := n0_
           have HB := n1_
           clear n0_ n1_
           (try clear hb)
           (try clear hb2)
           (try clear hk)
           (try clear hi)
           refine hK.out _ _ ⟨(blk_cell BK566.out 0).trans rfl, (blk_cell BK566.out 1).trans rfl⟩ (fun hHeld => ?_)
           clear hK K
           refine norm_ (a' := ?_) ?_ ?_
           rotate_left
           ·show Act.put _ (some 29) _ = _
            simp only [Act.put, List.setIfInBounds_toArray, List.set_cons_zero, List.set_cons_succ, i64_w, i32_w]
            rfl
           refine pu_ 4 (some 30) (ba_ 38 31) rfl rfl (any_of HT_.out (by kernel_rfl)) ?_
           refine pu_ 5 (some 31) (ba_ 38 63) rfl rfl (any_of HT_.out (by kernel_rfl)) ?_
           refine pn_ 6 (some 32) (ba_ 38 127) rfl rfl (any_of HT_.out (by kernel_rfl)) ?_
           refine pn_ 7 (some 33) (ba_ 38 255) rfl rfl (any_of HT_.out (by kernel_rfl)) ?_
           refine pn_ 8 (some 34) (ba_ 38 511) rfl rfl (any_of HT_.out (by kernel_rfl)) ?_
           refine pn_ 9 (some 35) (ba_ 38 1023) rfl rfl (any_of HT_.out (by kernel_rfl)) ?_
           refine pn_ 10 (some 36) (ba_ 38 2047) rfl rfl (any_of HT_.out (by kernel_rfl)) ?_
           refine pu_ 11 (some 37) (ba_ 38 4095) rfl rfl (any_of HT_.out (by kernel_rfl)) ?_
           refine pu_ 12 (some 38) (ba_ 38 8191) rfl rfl (any_of HT_.out (by kernel_rfl)) ?_
           refine pn_ 13 (some 39) (ba_ 38 16383) rfl rfl (any_of HT_.out (by kernel_rfl)) ?_
           refine pn_ 14 (some 40) (ba_ 38 32767) rfl rfl (any_of HT_.out (by kernel_rfl)) ?_
           refine pn_ 15 (some 41) (ba_ 38 65535) rfl rfl (any_of HT_.out (by kernel_rfl)) ?_
           refine pn_ 16 (some 42) (ba_ 38 131071) rfl rfl (any_of HT_.out (by kernel_rfl)) ?_
           refine pn_ 17 (some 43) (ba_ 38 262143) rfl rfl (any_of HT_.out (by kernel_rfl)) ?_
           refine pn_ 18 (some 44) (ba_ 38 524287) rfl rfl (any_of HT_.out (by kernel_rfl)) ?_
           refine pn_ 19 (some 45) (ba_ 38 1048575) rfl rfl (any_of HT_.out (by kernel_rfl)) ?_
           refine pn_ 20 (some 46) (ba_ 38 2097151) rfl rfl (any_of HT_.out (by kernel_rfl)) ?_
           refine pn_ 21 (some 47) (ba_ 38 4194303) rfl rfl (any_of HT_.out (by kernel_rfl)) ?_
           refine pn_ 22 (some 48) (ba_ 38 8388607) rfl rfl (any_of HT_.out (by kernel_rfl)) ?_
           refine pn_ 23 (some 49) (ba_ 38 16777215) rfl rfl (any_of HT_.out (by kernel_rfl)) ?_
           refine pn_ 24 (some 50) (ba_ 38 33554431) rfl rfl (any_of HT_.out (by kernel_rfl)) ?_
           refine pn_ 25 (some 51) (ba_ 38 67108863) rfl rfl (any_of HT_.out (by kernel_rfl)) ?_
           refine pn_ 26 (some 52) (ba_ 38 134217727) rfl rfl (any_of HT_.out (by kernel_rfl)) ?_
           refine pn_ 27 (some 53) (ba_ 38 268435455) rfl rfl (any_of HT_.out (by kernel_rfl)) ?_
           refine pn_ 28 (some 54) (ba_ 38 536870911) rfl rfl (any_of HT_.out (by kernel_rfl)) ?_
           refine pn_ 29 (some 55) (ba_ 38 1073741823) rfl rfl (any_of HT_.out (by kernel_rfl)) ?_
           refine pn_ 30 (some 56) (ba_ 38 2147483647) rfl rfl (any_of HT_.out (by kernel_rfl)) ?_
           refine pn_ 31 (some 57) (ba_ 38 4294967295) rfl rfl (any_of HT_.out (by kernel_rfl)) ?_
           refine pn_ 32 (some 58) (ba_ 38 8589934591) rfl rfl (any_of HT_.out (by kernel_rfl)) ?_
           refine pn_ 33 (some 59) (ba_ 38 17179869183) rfl rfl (any_of HT_.out (by kernel_rfl)) ?_
           refine pn_ 34 (some 60) (ba_ 38 34359738367) rfl rfl (any_of HT_.out (by kernel_rfl)) ?_
           refine pn_ 35 (some 61) (ba_ 38 68719476735) rfl rfl (any_of HT_.out (by kernel_rfl)) ?_
           refine pn_ 36 (some 62) (ba_ 38 137438953471) rfl rfl (any_of HT_.out (by kernel_rfl)) ?_
           refine pu_ 37 (some 63) (ba_ 38 274877906943) rfl rfl (any_of HT_.out (by kernel_rfl)) ?_
           refine done_ (done_of HT_.out (by kernel_rfl)) ?_
           try go_wp2
           go_meet
           case rel => exact ⟨_, (true), (by first | rfl | (simp; done) | (simp [*]; done)), H', ⟨by have := HJ3.out; have := HK2.out; first | omega | exact Nat.le_refl _⟩, ⟨by (with_reducible repeat (first | refine blk_drewN ?_ _ | refine blk_drew ?_ | refine blk_alloc ?_ _)); exact BK566.out⟩, ⟨by repeat (first | (with_reducible first | exact HB.out | apply below_alloc | apply pw_below_drewN | apply below_drew1 | refine below_set ?_ GE566.out) | exact HB.out)⟩⟩
         case rest =>
          clear HC15
          try clear c1
          try clear c2
          try clear p2
          try clear c12
          try clear c19
          try clear c21
          obtain ⟨kq, x63_14, rfl, HA, HJ14, BK566, HB⟩ := hcut
          cases kq with
          | zero => exact absurd HA.out (by simp [impl_MapOk.j2])
          | succ kj14 =>
           have H := HA.out
           clear HA
           simp only [impl_MapOk.j2] at H
           by_cases c46 : x63_14 = true
           ·subst c46
            have H1 : (some false) = some r := by rw [if_pos rfl] at H; exact H
            clear H
            have H := H1
            clear H1
            obtain rfl := Option.some.inj H
            go_wp2
            go_ret
            exact ⟨by first | rfl | (simp [errW_none, errW_some] <;> rfl) | (simp [*, errW_none, errW_some] <;> rfl), by repeat (first | (with_reducible first | exact HB.out | apply below_alloc | apply pw_below_drewN | apply below_drew1 | refine below_set ?_ GE566.out) | exact HB.out)⟩
           ·replace c46 := Bool.eq_false_iff.mpr c46
            subst c46
            have H1 : (if 0 ≤ x21_2 then (if x21_2 ≤ (l2.length : Int) then ((some (l2.take (x21_2 : Int).toNat : List (S122))).bind fun y571 => (impl_MapOk.l1 kj14 l0 l1 l2 l2 (l2.length : Int) x21_2 y571 (y571.length : Int) 0 ((rd_T122 l2 x21_2).f0) ((rd_T122 l2 x21_2).f1))) else (none)) else (none)) = some r := by rw [if_neg (show ¬ (false = true) by decide)] at H; exact H
            clear H
            have H := H1
            clear H1
            by_cases c47 : 0 ≤ x21_2
            ·rw [if_pos c47] at H
             have c47b0 := eq_true c47
             have c47b1 : decide (0 ≤ x21_2) = true := decide_eq_true c47
             clear c47
             by_cases c48 : x21_2 ≤ (l2.length : Int)
             ·rw [if_pos c48] at H
              have c48b0 := eq_true c48
              have c48b1 : decide (x21_2 ≤ (l2.length : Int)) = true := decide_eq_true c48
              clear c48
              obtain ⟨y571, hy571⟩ : ∃ y_ : List (S122), y_ = (l2.take (x21_2 : Int).toNat) := ⟨_, rfl⟩
              replace H : (impl_MapOk.l1 kj14 l0 l1 l2 l2 (l2.length : Int) x21_2 y571 (y571.length : Int) 0 ((rd_T122 l2 x21_2).f0) ((rd_T122 l2 x21_2).f1)) = some r := by first | (rw [hy571]; with_reducible exact H) | (have H2_ := (Option.bind_some _ _).symm.trans H; rw [hy571]; with_reducible exact H2_) | (have H2_ := (Option.bind_some _ _).symm.trans H; with_reducible exact H2_) | with_reducible exact H | (rw [hy571]; exact H) | exact H
              have Ny571 := Aside0.mk hy571
              clear hy571
              have H' := Aside0.mk H
              clear H
              have q49 : (x21_2 : Int) ≤ ((l2.length : Int) : Int) := of_decide_eq_true (by first | (with_reducible assumption) | assumption)
              obtain ⟨i049, hi049, _, hsz49, _⟩ := info_parts info122
              have hroom49 : l2.length ≤ c2 := HC2.out
              have hC49 : Kd.C k122 _ (some ad565) l2.length l2 := HR2.out
              have hcut49 := cut_to (P := Try.prog) 55 122 .i64 Try.underlying55 hi049 (some ad565) l2.length c2 x21_2 (of_decide_eq_true (by first | (with_reducible assumption) | assumption)) q49 hroom49
              have hr49 := Kd.C_take (m := (x21_2 : Int).toNat) hC49 (by omega)
              have hy49 : y571.length = (x21_2 : Int).toNat := (by rw [Ny571.out, List.length_take]; omega)
              rw [← Ny571.out] at hr49
              rw [← hy49] at hcut49
              have HR574 := Aside0.mk hr49
              have HC574 := Aside0.mk (show y571.length ≤ c2 from by omega)
              clear hr49 hC49 hroom49 hi049 hsz49
              have KY49 := Aside0.mk hy49
              clear hy49
              replace q49 := eq_true q49
              go_wp2
              go_loopg [68] kj14 (fun kq v68 w' => ∃ (x68_4 : Int), v68 = .int .i64 x68_4 ∧ Aside0 (impl_MapOk.l1 kq l0 l1 l2 l2 (l2.length : Int) x21_2 y571 (y571.length : Int) x68_4 ((rd_T122 l2 x21_2).f0) ((rd_T122 l2 x21_2).f1) = some r) ∧ Aside0 (kq ≤ kj14) ∧ Aside0 (w'.heap[gb566]? = some (.cells #[.int .i64 ((rd_T122 l2 x21_2).f0), .int .i64 ((rd_T122 l2 x21_2).f1)] 122 (0, 0))) ∧ Aside0 (Below w.heap.size w w'))
              case atStart => exact ⟨(0), (by first | rfl | (simp; done) | (simp [*]; done)), H', ⟨Nat.le_refl _⟩, ⟨by (with_reducible repeat (first | refine blk_drewN ?_ _ | refine blk_drew ?_ | refine blk_alloc ?_ _)); exact BK566.out⟩, ⟨by repeat (first | (with_reducible first | exact HB.out | apply below_alloc | apply pw_below_drewN | apply below_drew1 | refine below_set ?_ GE566.out) | exact HB.out)⟩⟩
              case round =>
               clear H'
               try clear c1
               try clear c2
               try clear p2
               try clear c4
               try clear q4
               try clear c12
               try clear c19
               try clear c21
               try clear c46
               try clear c47
               try clear c47b0
               try clear c47b1
               try clear c48
               try clear c48b0
               try clear c48b1
               try clear q49
               try clear p2
               try clear q49
               obtain ⟨x68_4, rfl, HA, HK4, BK566, HB⟩ := hrel
               cases gk with
               | zero => exact absurd HA.out (by simp [impl_MapOk.l1])
               | succ k4 =>
                have H := HA.out
                clear HA
                simp only [impl_MapOk.l1] at H
                by_cases c50 : x68_4 < (y571.length : Int)
                ·rw [if_pos c50] at H
                 have c50b0 : decide (x68_4 < (y571.length : Int)) = true := decide_eq_true c50
                 clear c50
                 by_cases c51 : 0 ≤ x68_4
                 ·rw [if_pos c51] at H
                  have c51b0 : decide (0 ≤ x68_4) = true := decide_eq_true c51
                  clear c51
                  by_cases c52 : x68_4 < (y571.length : Int)
                  ·rw [if_pos c52] at H
                   have c52b0 : decide (x68_4 < (y571.length : Int)) = true := decide_eq_true c52
                   clear c52
                   replace H := Option.bind_eq_some_iff.mp H
                   obtain ⟨t577, A530, H⟩ := H
                   replace H : ((impl_endOf.f k4 l1 ((rd_T122 y571 x68_4).f1)).bind fun t578 => (if ((decide (((rd_T122 l2 x21_2).f0) < t577)) != (decide (((rd_T122 l2 x21_2).f1) < t578))) = true then (some false) else (impl_MapOk.l1 k4 l0 l1 l2 l2 (l2.length : Int) x21_2 y571 (y571.length : Int) (wrap64 (x68_4 + 1)) ((rd_T122 l2 x21_2).f0) ((rd_T122 l2 x21_2).f1)))) = some r := H
                   have A53 := Aside0.mk A530
                   clear A530
                   replace H := Option.bind_eq_some_iff.mp H
                   obtain ⟨t578, A540, H⟩ := H
                   replace H : (if ((decide (((rd_T122 l2 x21_2).f0) < t577)) != (decide (((rd_T122 l2 x21_2).f1) < t578))) = true then (some false) else (impl_MapOk.l1 k4 l0 l1 l2 l2 (l2.length : Int) x21_2 y571 (y571.length : Int) (wrap64 (x68_4 + 1)) ((rd_T122 l2 x21_2).f0) ((rd_T122 l2 x21_2).f1))) = some r := H
                   have A54 := Aside0.mk A540
                   clear A540
                   by_cases c55 : ((decide (((rd_T122 l2 x21_2).f0) < t577)) != (decide (((rd_T122 l2 x21_2).f1) < t578))) = true
                   ·rw [if_pos c55] at H
                    have c55b0 : ((decide (((rd_T122 l2 x21_2).f0) < t577)) != (decide (((rd_T122 l2 x21_2).f1) < t578))) = true := c55
                    (try (have c55b1 : decide ((decide (((rd_T122 l2 x21_2).f0) < t577)) = (decide (((rd_T122 l2 x21_2).f1) < t578))) = false := by simpa using c55))
                    (try (have c55b2 : ((decide (((rd_T122 l2 x21_2).f0) < t577)) == (decide (((rd_T122 l2 x21_2).f1) < t578))) = false := by simpa using c55))
                    (try (have c55b3 : ¬ ((decide (((rd_T122 l2 x21_2).f0) < t577)) = (decide (((rd_T122 l2 x21_2).f1) < t578))) := by simpa using c55))
                    clear c55
                    obtain rfl := Option.some.inj H
                    have p575 : 0 ≤ (x68_4 : Int) := of_decide_eq_true (by first | (with_reducible assumption) | assumption)
                    have q575 : x68_4 < (y571.length : Int) := of_decide_eq_true (by first | (with_reducible assumption) | assumption)
                    obtain ⟨ad575, e575, hx575_0, hx575_1⟩ := at_T122 HR574.out x68_4 p575 q575
                    obtain rfl : ad565 = ad575 := (by injection e575)
                    replace hx575_0 := (HB.out.cell (World.block_lt_of_cell? w _ hx575_0)).trans hx575_0
                    replace hx575_1 := (HB.out.cell (World.block_lt_of_cell? w _ hx575_1)).trans hx575_1
                    replace p575 := eq_true p575
                    replace q575 := eq_true q575
                    try go_wp2_with (first | ((with_reducible refine gate_dst (N := 10) rfl ?_); refine box_event ?hg (N := 10) ?hd (cs := #[.int .i64 0, .int .i64 0]) (t := 122) ?hr ?_; (case hd => rfl); (case hg => rfl); (case hr => first | (go_simp; done) | (go_simp; rfl)); intro gb576 hg w56 hbox hb; have n0_ := Aside0.mk (blk_below (g := gb566) (o := .cells #[.int .i64 ((rd_T122 l2 x21_2).f0), .int .i64 ((rd_T122 l2 x21_2).f1)] 122 (0, 0)) (by (with_reducible repeat (first | refine blk_drewN ?_ _ | refine blk_drew ?_ | refine blk_alloc ?_ _)); exact BK566.out) hb); have n1_ := Aside0.mk (below_step (by repeat (first | (with_reducible first | exact HB.out | apply below_alloc | apply pw_below_drewN | apply below_drew1 | refine below_set ?_ GE566.out) | exact HB.out)) hb); have n2_ := Aside0.mk (hbox); have n3_ := Aside0.mk ((by rw [hg]; exact (below_size (by repeat (first | (with_reducible first | exact HB.out | apply below_alloc | apply pw_below_drewN | apply below_drew1 | refine below_set ?_ GE566.out) | exact HB.out))) : w.heap.size ≤ gb576)); have n4_ := Aside0.mk ((by rw [hg]; exact (below_size (by repeat (first | (with_reducible first | exact HB.out | apply below_alloc | apply pw_below_drewN | apply below_drew1 | refine below_set ?_ GE566.out) | exact HB.out))) : w.heap.size ≤ gb576)); have n5_ := Aside0.mk ((by rw [hg]; exact Nat.ne_of_lt (blk_lt (g := gb566) (o := .cells #[.int .i64 ((rd_T122 l2 x21_2).f0), .int .i64 ((rd_T122 l2 x21_2).f1)] 122 (0, 0)) (by (with_reducible repeat (first | refine blk_drewN ?_ _ | refine blk_drew ?_ | refine blk_alloc ?_ _)); exact BK566.out)) : gb566 ≠ gb576)); have n6_ := Aside0.mk ((by rw [hg]; exact Nat.ne_of_gt (blk_lt (g := gb566) (o := .cells #[.int .i64 ((rd_T122 l2 x21_2).f0), .int .i64 ((rd_T122 l2 x21_2).f1)] 122 (0, 0)) (by (with_reducible repeat (first | refine blk_drewN ?_ _ | refine blk_drew ?_ | refine blk_alloc ?_ _)); exact BK566.out)) : gb576 ≠ gb566)); clear BK566; clear HB; have BK566 := n0_; have HB := n1_; have BK576 := n2_; have GW576 := n3_; have GE576 := n4_; have NB566_576 := n5_; have NB576_566 := n6_; clear n0_ n1_ n2_ n3_ n4_ n5_ n6_; clear hb hbox hg; have hnb57 := NB576_566.out; have hnc57 := NB566_576.out; have hcz58_0 : w56.cell? ⟨gb576, 0, none⟩ = some (.int .i64 0) := (blk_cell BK576.out 0).trans rfl; have hcz58_1 : w56.cell? ⟨gb576, 1, none⟩ = some (.int .i64 0) := (blk_cell BK576.out 1).trans rfl; have hfz58_0 := blk_frozen BK576.out 0; have hfz58_1 := blk_frozen BK576.out 1))
                    have n0_ : Aside0 (((w56.setCell ⟨gb576, 0, none⟩ (.int .i64 ((rd_T122 y571 x68_4).f0))).setCell ⟨gb576, 1, none⟩ (.int .i64 ((rd_T122 y571 x68_4).f1))).heap[gb566]? = some (.cells #[.int .i64 ((rd_T122 l2 x21_2).f0), .int .i64 ((rd_T122 l2 x21_2).f1)] 122 (0, 0))) := ⟨by (with_reducible repeat (first | refine blk_drewN ?_ _ | refine blk_drew ?_ | refine blk_alloc ?_ _)); refine blk_far ?_ NB566_576.out _; (with_reducible repeat (first | refine blk_drewN ?_ _ | refine blk_drew ?_ | refine blk_alloc ?_ _)); refine blk_far ?_ NB566_576.out _; (with_reducible repeat (first | refine blk_drewN ?_ _ | refine blk_drew ?_ | refine blk_alloc ?_ _)); exact BK566.out⟩
                    have n1_ : Aside0 (((w56.setCell ⟨gb576, 0, none⟩ (.int .i64 ((rd_T122 y571 x68_4).f0))).setCell ⟨gb576, 1, none⟩ (.int .i64 ((rd_T122 y571 x68_4).f1))).heap[gb576]? = some (.cells #[.int .i64 ((rd_T122 y571 x68_4).f0), .int .i64 ((rd_T122 y571 x68_4).f1)] 122 (0, 0))) := ⟨by (with_reducible repeat (first | refine blk_drewN ?_ _ | refine blk_drew ?_ | refine blk_alloc ?_ _)); refine blk_put (cs := #[.int .i64 ((rd_T122 y571 x68_4).f0), .int .i64 0]) ?_ 1 _ rfl; (with_reducible repeat (first | refine blk_drewN ?_ _ | refine blk_drew ?_ | refine blk_alloc ?_ _)); refine blk_put (cs := #[.int .i64 0, .int .i64 0]) ?_ 0 _ rfl; (with_reducible repeat (first | refine blk_drewN ?_ _ | refine blk_drew ?_ | refine blk_alloc ?_ _)); exact BK576.out⟩
                    have n2_ : Aside0 (Below w.heap.size w ((w56.setCell ⟨gb576, 0, none⟩ (.int .i64 ((rd_T122 y571 x68_4).f0))).setCell ⟨gb576, 1, none⟩ (.int .i64 ((rd_T122 y571 x68_4).f1)))) := ⟨by repeat (first | (with_reducible first | exact HB.out | apply below_alloc | apply pw_below_drewN | apply below_drew1 | refine below_set ?_ GE566.out | refine below_set ?_ GE576.out) | exact HB.out)⟩
                    (try clear BK566)
                    (try clear BK576)
                    (try clear HB)
                    generalize ((w56.setCell ⟨gb576, 0, none⟩ (.int .i64 ((rd_T122 y571 x68_4).f0))).setCell ⟨gb576, 1, none⟩ (.int .i64 ((rd_T122 y571 x68_4).f1))) = w59 at n0_ n1_ n2_ ⊢
                    have BK566 := n0_
                    have BK576 := n1_
                    have HB := n2_
                    clear n0_ n1_ n2_
                    have n0_ := Aside0.mk (blk_drew BK566.out)
                    have n1_ := Aside0.mk (blk_drew BK576.out)
                    have n2_ := Aside0.mk (below_drew1 HB.out)
                    clear BK566
                    clear BK576
                    clear HB
                    have BK566 := n0_
                    have BK576 := n1_
                    have HB := n2_
                    clear n0_ n1_ n2_
                    refine start_ (n := 15) (S := fun w' => w'.cell? ⟨gb566, 0, none⟩ = some (.int .i64 ((rd_T122 l2 x21_2).f0)) ∧ w'.cell? ⟨gb566, 1, none⟩ = some (.int .i64 ((rd_T122 l2 x21_2).f1)) ∧ w'.cell? ⟨gb576, 0, none⟩ = some (.int .i64 ((rd_T122 y571 x68_4).f0)) ∧ w'.cell? ⟨gb576, 1, none⟩ = some (.int .i64 ((rd_T122 y571 x68_4).f1))) (ds := []) (ba_ 15 0) (by kernel_rfl) rfl rfl ⟨(blk_cell BK566.out 0).trans rfl, (blk_cell BK566.out 1).trans rfl, (blk_cell BK576.out 0).trans rfl, (blk_cell BK576.out 1).trans rfl⟩ (fun hHeld => ?_); refine with_tabW impl_MapOk.tab11 impl_MapOk.bits11 (fun HT_ HW_ => ?_)
                    generalize w59.drew = w60 at BK566 BK576 HB hHeld ⊢
                    refine pu_ 0 (some 72) (ba_ 15 1) rfl rfl (any_of HT_.out (by kernel_rfl)) ?_
                    refine pu_ 2 (some 74) (ba_ 15 5) rfl rfl (any_of HT_.out (by kernel_rfl)) ?_
                    refine pu_ 3 (some 75) (ba_ 15 13) rfl rfl (any_of HT_.out (by kernel_rfl)) ?_
                    refine pu_ 7 (some 79) (ba_ 15 141) rfl rfl (any_of HT_.out (by kernel_rfl)) ?_
                    refine pu_ 9 (some 81) (ba_ 15 653) rfl rfl (any_of HT_.out (by kernel_rfl)) ?_
                    refine pu_ 10 (some 82) (ba_ 15 1677) rfl rfl (any_of HT_.out (by kernel_rfl)) ?_
                    refine ta_ 1 (some 73) (ba_ 15 1679) rfl rfl (take_ofW HT_.out HW_.out (by kernel_rfl)) hHeld (by rintro w' ⟨s0, s1, s2, s3⟩; go_simp; with_reducible rfl) ?_
                    refine ta_ 4 (some 76) (ba_ 15 1695) rfl rfl (take_ofW HT_.out HW_.out (by kernel_rfl)) hHeld (by rintro w' ⟨s0, s1, s2, s3⟩; go_simp; with_reducible rfl) ?_
                    refine ta_ 8 (some 80) (ba_ 15 1951) rfl rfl (take_ofW HT_.out HW_.out (by kernel_rfl)) hHeld (by rintro w' ⟨s0, s1, s2, s3⟩; go_simp; with_reducible rfl) ?_
                    refine ta_ 11 (some 83) (ba_ 15 3999) rfl rfl (take_ofW HT_.out HW_.out (by kernel_rfl)) hHeld (by rintro w' ⟨s0, s1, s2, s3⟩; go_simp; with_reducible rfl) ?_
                    refine one_ (i := 5) (N := some 77) (ba_ 15 4031) rfl rfl (one_of HT_.out (by kernel_rfl)) (by decide) (fun K hK => ?_)
                    refine goes_ Try.func105 (by kernel_rfl) rfl #[.slice A0 l0.length c0, .int .i64 ((rd_T122 y571 x68_4).f0)] (by rfl) rfl rfl (by (try simp only [List.map_toArray, List.map_cons, List.map_nil]); first | done | rfl | (simp only [List.length_drop, List.length_take]; rfl)) ?_
                    with_reducible refine (impl_endOf.calls k4 _ _ l0 ((rd_T122 y571 x68_4).f0) t577 _ ?side1 ?side2 A53.out).mono ?_
                    (case side1 => repeat (first | exact (Kd.C_below HR0.out HB.out) | (with_reducible refine Kd.C_alloc ?_ _) | (with_reducible refine Kd.C_drewN ?_ _) | (with_reducible refine Kd.C_drew ?_)))
                    (case side2 => exact HC0.out)
                    rintro e w' ⟨rfl, ⟨nd, rfl⟩⟩
                    refine ⟨_, rfl, ?_⟩
                    refine hK.out _ _ ⟨(blk_cell BK566.out 0).trans rfl, (blk_cell BK566.out 1).trans rfl, (blk_cell BK576.out 0).trans rfl, (blk_cell BK576.out 1).trans rfl⟩ (fun hHeld => ?_)
                    clear hK K
                    refine norm_ (a' := ?_) ?_ ?_
                    rotate_left
                    ·show Act.put _ (some 77) _ = _
                     simp only [Act.put, List.setIfInBounds_toArray, List.set_cons_zero, List.set_cons_succ, i64_w, i32_w]
                     rfl
                    refine pu_ 6 (some 78) (ba_ 15 4095) rfl rfl (any_of HT_.out (by kernel_rfl)) ?_
                    refine one_ (i := 12) (N := some 84) (ba_ 15 8191) rfl rfl (one_of HT_.out (by kernel_rfl)) (by decide) (fun K hK => ?_)
                    refine goes_ Try.func105 (by kernel_rfl) rfl #[.slice A1 l1.length c1, .int .i64 ((rd_T122 y571 x68_4).f1)] (by rfl) rfl rfl (by (try simp only [List.map_toArray, List.map_cons, List.map_nil]); first | done | rfl | (simp only [List.length_drop, List.length_take]; rfl)) ?_
                    with_reducible refine (impl_endOf.calls k4 _ _ l1 ((rd_T122 y571 x68_4).f1) t578 _ ?side1 ?side2 A54.out).mono ?_
                    (case side1 => repeat (first | exact (Kd.C_below HR1.out (by repeat (first | (with_reducible first | exact HB.out | apply below_alloc | apply pw_below_drewN | apply below_drew1 | refine below_set ?_ GE566.out | refine below_set ?_ GE576.out) | exact HB.out))) | (with_reducible refine Kd.C_alloc ?_ _) | (with_reducible refine Kd.C_drewN ?_ _) | (with_reducible refine Kd.C_drew ?_)))
                    (case side2 => exact HC1.out)
                    rintro e w' ⟨rfl, ⟨nd, rfl⟩⟩
                    refine ⟨_, rfl, ?_⟩
                    refine hK.out _ _ ⟨(blk_cell BK566.out 0).trans rfl, (blk_cell BK566.out 1).trans rfl, (blk_cell BK576.out 0).trans rfl, (blk_cell BK576.out 1).trans rfl⟩ (fun hHeld => ?_)
                    clear hK K
                    refine norm_ (a' := ?_) ?_ ?_
                    rotate_left
                    ·show Act.put _ (some 84) _ = _
                     simp only [Act.put, List.setIfInBounds_toArray, List.set_cons_zero, List.set_cons_succ, i64_w, i32_w]
                     rfl
                    refine pu_ 13 (some 85) (ba_ 15 16383) rfl rfl (any_of HT_.out (by kernel_rfl)) ?_
                    refine pu_ 14 (some 86) (ba_ 15 32767) rfl rfl (any_of HT_.out (by kernel_rfl)) ?_
                    refine done_ (done_of HT_.out (by kernel_rfl)) ?_
                    try go_wp2
                    go_ret
                    exact ⟨by first | rfl | (simp [errW_none, errW_some] <;> rfl) | (simp [*, errW_none, errW_some] <;> rfl), by repeat (first | (with_reducible first | exact HB.out | apply below_alloc | apply pw_below_drewN | apply below_drew1 | refine below_set ?_ GE566.out | refine below_set ?_ GE576.out) | exact HB.out)⟩
                   ·rw [if_neg c55] at H
                    have c55b0 : ((decide (((rd_T122 l2 x21_2).f0) < t577)) != (decide (((rd_T122 l2 x21_2).f1) < t578))) = false := by simpa using c55
                    (try (have c55b1 : decide ((decide (((rd_T122 l2 x21_2).f0) < t577)) = (decide (((rd_T122 l2 x21_2).f1) < t578))) = true := by simpa using c55))
                    (try (have c55b2 : ((decide (((rd_T122 l2 x21_2).f0) < t577)) == (decide (((rd_T122 l2 x21_2).f1) < t578))) = true := by simpa using c55))
                    clear c55
                    have H' := Aside0.mk H
                    clear H
                    have p575 : 0 ≤ (x68_4 : Int) := of_decide_eq_true (by first | (with_reducible assumption) | assumption)
                    have q575 : x68_4 < (y571.length : Int) := of_decide_eq_true (by first | (with_reducible assumption) | assumption)
                    obtain ⟨ad575, e575, hx575_0, hx575_1⟩ := at_T122 HR574.out x68_4 p575 q575
                    obtain rfl : ad565 = ad575 := (by injection e575)
                    replace hx575_0 := (HB.out.cell (World.block_lt_of_cell? w _ hx575_0)).trans hx575_0
                    replace hx575_1 := (HB.out.cell (World.block_lt_of_cell? w _ hx575_1)).trans hx575_1
                    replace p575 := eq_true p575
                    replace q575 := eq_true q575
                    try go_wp2_with (first | ((with_reducible refine gate_dst (N := 10) rfl ?_); refine box_event ?hg (N := 10) ?hd (cs := #[.int .i64 0, .int .i64 0]) (t := 122) ?hr ?_; (case hd => rfl); (case hg => rfl); (case hr => first | (go_simp; done) | (go_simp; rfl)); intro gb576 hg w61 hbox hb; have n0_ := Aside0.mk (blk_below (g := gb566) (o := .cells #[.int .i64 ((rd_T122 l2 x21_2).f0), .int .i64 ((rd_T122 l2 x21_2).f1)] 122 (0, 0)) (by (with_reducible repeat (first | refine blk_drewN ?_ _ | refine blk_drew ?_ | refine blk_alloc ?_ _)); exact BK566.out) hb); have n1_ := Aside0.mk (below_step (by repeat (first | (with_reducible first | exact HB.out | apply below_alloc | apply pw_below_drewN | apply below_drew1 | refine below_set ?_ GE566.out) | exact HB.out)) hb); have n2_ := Aside0.mk (hbox); have n3_ := Aside0.mk ((by rw [hg]; exact (below_size (by repeat (first | (with_reducible first | exact HB.out | apply below_alloc | apply pw_below_drewN | apply below_drew1 | refine below_set ?_ GE566.out) | exact HB.out))) : w.heap.size ≤ gb576)); have n4_ := Aside0.mk ((by rw [hg]; exact (below_size (by repeat (first | (with_reducible first | exact HB.out | apply below_alloc | apply pw_below_drewN | apply below_drew1 | refine below_set ?_ GE566.out) | exact HB.out))) : w.heap.size ≤ gb576)); have n5_ := Aside0.mk ((by rw [hg]; exact Nat.ne_of_lt (blk_lt (g := gb566) (o := .cells #[.int .i64 ((rd_T122 l2 x21_2).f0), .int .i64 ((rd_T122 l2 x21_2).f1)] 122 (0, 0)) (by (with_reducible repeat (first | refine blk_drewN ?_ _ | refine blk_drew ?_ | refine blk_alloc ?_ _)); exact BK566.out)) : gb566 ≠ gb576)); have n6_ := Aside0.mk ((by rw [hg]; exact Nat.ne_of_gt (blk_lt (g := gb566) (o := .cells #[.int .i64 ((rd_T122 l2 x21_2).f0), .int .i64 ((rd_T122 l2 x21_2).f1)] 122 (0, 0)) (by (with_reducible repeat (first | refine blk_drewN ?_ _ | refine blk_drew ?_ | refine blk_alloc ?_ _)); exact BK566.out)) : gb576 ≠ gb566)); clear BK566; clear HB; have BK566 := n0_; have HB := n1_; have BK576 := n2_; have GW576 := n3_; have GE576 := n4_; have NB566_576 := n5_; have NB576_566 := n6_; clear n0_ n1_ n2_ n3_ n4_ n5_ n6_; clear hb hbox hg; have hnb62 := NB576_566.out; have hnc62 := NB566_576.out; have hcz63_0 : w61.cell? ⟨gb576, 0, none⟩ = some (.int .i64 0) := (blk_cell BK576.out 0).trans rfl; have hcz63_1 : w61.cell? ⟨gb576, 1, none⟩ = some (.int .i64 0) := (blk_cell BK576.out 1).trans rfl; have hfz63_0 := blk_frozen BK576.out 0; have hfz63_1 := blk_frozen BK576.out 1))
                    have n0_ : Aside0 (((w61.setCell ⟨gb576, 0, none⟩ (.int .i64 ((rd_T122 y571 x68_4).f0))).setCell ⟨gb576, 1, none⟩ (.int .i64 ((rd_T122 y571 x68_4).f1))).heap[gb566]? = some (.cells #[.int .i64 ((rd_T122 l2 x21_2).f0), .int .i64 ((rd_T122 l2 x21_2).f1)] 122 (0, 0))) := ⟨by (with_reducible repeat (first | refine blk_drewN ?_ _ | refine blk_drew ?_ | refine blk_alloc ?_ _)); refine blk_far ?_ NB566_576.out _; (with_reducible repeat (first | refine blk_drewN ?_ _ | refine blk_drew ?_ | refine blk_alloc ?_ _)); refine blk_far ?_ NB566_576.out _; (with_reducible repeat (first | refine blk_drewN ?_ _ | refine blk_drew ?_ | refine blk_alloc ?_ _)); exact BK566.out⟩
                    have n1_ : Aside0 (((w61.setCell ⟨gb576, 0, none⟩ (.int .i64 ((rd_T122 y571 x68_4).f0))).setCell ⟨gb576, 1, none⟩ (.int .i64 ((rd_T122 y571 x68_4).f1))).heap[gb576]? = some (.cells #[.int .i64 ((rd_T122 y571 x68_4).f0), .int .i64 ((rd_T122 y571 x68_4).f1)] 122 (0, 0))) := ⟨by (with_reducible repeat (first | refine blk_drewN ?_ _ | refine blk_drew ?_ | refine blk_alloc ?_ _)); refine blk_put (cs := #[.int .i64 ((rd_T122 y571 x68_4).f0), .int .i64 0]) ?_ 1 _ rfl; (with_reducible repeat (first | refine blk_drewN ?_ _ | refine blk_drew ?_ | refine blk_alloc ?_ _)); refine blk_put (cs := #[.int .i64 0, .int .i64 0]) ?_ 0 _ rfl; (with_reducible repeat (first | refine blk_drewN ?_ _ | refine blk_drew ?_ | refine blk_alloc ?_ _)); exact BK576.out⟩
                    have n2_ : Aside0 (Below w.heap.size w ((w61.setCell ⟨gb576, 0, none⟩ (.int .i64 ((rd_T122 y571 x68_4).f0))).setCell ⟨gb576, 1, none⟩ (.int .i64 ((rd_T122 y571 x68_4).f1)))) := ⟨by repeat (first | (with_reducible first | exact HB.out | apply below_alloc | apply pw_below_drewN | apply below_drew1 | refine below_set ?_ GE566.out | refine below_set ?_ GE576.out) | exact HB.out)⟩
                    (try clear BK566)
                    (try clear BK576)
                    (try clear HB)
                    generalize ((w61.setCell ⟨gb576, 0, none⟩ (.int .i64 ((rd_T122 y571 x68_4).f0))).setCell ⟨gb576, 1, none⟩ (.int .i64 ((rd_T122 y571 x68_4).f1))) = w64 at n0_ n1_ n2_ ⊢
                    have BK566 := n0_
                    have BK576 := n1_
                    have HB := n2_
                    clear n0_ n1_ n2_
                    have n0_ := Aside0.mk (blk_drew BK566.out)
                    have n1_ := Aside0.mk (blk_drew BK576.out)
                    have n2_ := Aside0.mk (below_drew1 HB.out)
                    clear BK566
                    clear BK576
                    clear HB
                    have BK566 := n0_
                    have BK576 := n1_
                    have HB := n2_
                    clear n0_ n1_ n2_
                    refine start_ (n := 15) (S := fun w' => w'.cell? ⟨gb566, 0, none⟩ = some (.int .i64 ((rd_T122 l2 x21_2).f0)) ∧ w'.cell? ⟨gb566, 1, none⟩ = some (.int .i64 ((rd_T122 l2 x21_2).f1)) ∧ w'.cell? ⟨gb576, 0, none⟩ = some (.int .i64 ((rd_T122 y571 x68_4).f0)) ∧ w'.cell? ⟨gb576, 1, none⟩ = some (.int .i64 ((rd_T122 y571 x68_4).f1))) (ds := []) (ba_ 15 0) (by kernel_rfl) rfl rfl ⟨(blk_cell BK566.out 0).trans rfl, (blk_cell BK566.out 1).trans rfl, (blk_cell BK576.out 0).trans rfl, (blk_cell BK576.out 1).trans rfl⟩ (fun hHeld => ?_); refine with_tabW impl_MapOk.tab11 impl_MapOk.bits11 (fun HT_ HW_ => ?_)
                    generalize w64.drew = w65 at BK566 BK576 HB hHeld ⊢
                    refine pu_ 0 (some 72) (ba_ 15 1) rfl rfl (any_of HT_.out (by kernel_rfl)) ?_
                    refine pu_ 2 (some 74) (ba_ 15 5) rfl rfl (any_of HT_.out (by kernel_rfl)) ?_
                    refine pu_ 3 (some 75) (ba_ 15 13) rfl rfl (any_of HT_.out (by kernel_rfl)) ?_
                    refine pu_ 7 (some 79) (ba_ 15 141) rfl rfl (any_of HT_.out (by kernel_rfl)) ?_
                    refine pu_ 9 (some 81) (ba_ 15 653) rfl rfl (any_of HT_.out (by kernel_rfl)) ?_
                    refine pu_ 10 (some 82) (ba_ 15 1677) rfl rfl (any_of HT_.out (by kernel_rfl)) ?_
                    refine ta_ 1 (some 73) (ba_ 15 1679) rfl rfl (take_ofW HT_.out HW_.out (by kernel_rfl)) hHeld (by rintro w' ⟨s0, s1, s2, s3⟩; go_simp; with_reducible rfl) ?_
                    refine ta_ 4 (some 76) (ba_ 15 1695) rfl rfl (take_ofW HT_.out HW_.out (by kernel_rfl)) hHeld (by rintro w' ⟨s0, s1, s2, s3⟩; go_simp; with_reducible rfl) ?_
                    refine ta_ 8 (some 80) (ba_ 15 1951) rfl rfl (take_ofW HT_.out HW_.out (by kernel_rfl)) hHeld (by rintro w' ⟨s0, s1, s2, s3⟩; go_simp; with_reducible rfl) ?_
                    refine ta_ 11 (some 83) (ba_ 15 3999) rfl rfl (take_ofW HT_.out HW_.out (by kernel_rfl)) hHeld (by rintro w' ⟨s0, s1, s2, s3⟩; go_simp; with_reducible rfl) ?_
                    refine one_ (i := 5) (N := some 77) (ba_ 15 4031) rfl rfl (one_of HT_.out (by kernel_rfl)) (by decide) (fun K hK => ?_)
                    refine goes_ Try.func105 (by kernel_rfl) rfl #[.slice A0 l0.length c0, .int .i64 ((rd_T122 y571 x68_4).f0)] (by rfl) rfl rfl (by (try simp only [List.map_toArray, List.map_cons, List.map_nil]); first | done | rfl | (simp only [List.length_drop, List.length_take]; rfl)) ?_
                    with_reducible refine (impl_endOf.calls k4 _ _ l0 ((rd_T122 y571 x68_4).f0) t577 _ ?side1 ?side2 A53.out).mono ?_
                    (case side1 => repeat (first | exact (Kd.C_below HR0.out HB.out) | (with_reducible refine Kd.C_alloc ?_ _) | (with_reducible refine Kd.C_drewN ?_ _) | (with_reducible refine Kd.C_drew ?_)))
                    (case side2 => exact HC0.out)
                    rintro e w' ⟨rfl, ⟨nd, rfl⟩⟩
                    refine ⟨_, rfl, ?_⟩
                    refine hK.out _ _ ⟨(blk_cell BK566.out 0).trans rfl, (blk_cell BK566.out 1).trans rfl, (blk_cell BK576.out 0).trans rfl, (blk_cell BK576.out 1).trans rfl⟩ (fun hHeld => ?_)
                    clear hK K
                    refine norm_ (a' := ?_) ?_ ?_
                    rotate_left
                    ·show Act.put _ (some 77) _ = _
                     simp only [Act.put, List.setIfInBounds_toArray, List.set_cons_zero, List.set_cons_succ, i64_w, i32_w]
                     rfl
                    refine pu_ 6 (some 78) (ba_ 15 4095) rfl rfl (any_of HT_.out (by kernel_rfl)) ?_
                    refine one_ (i := 12) (N := some 84) (ba_ 15 8191) rfl rfl (one_of HT_.out (by kernel_rfl)) (by decide) (fun K hK => ?_)
                    refine goes_ Try.func105 (by kernel_rfl) rfl #[.slice A1 l1.length c1, .int .i64 ((rd_T122 y571 x68_4).f1)] (by rfl) rfl rfl (by (try simp only [List.map_toArray, List.map_cons, List.map_nil]); first | done | rfl | (simp only [List.length_drop, List.length_take]; rfl)) ?_
                    with_reducible refine (impl_endOf.calls k4 _ _ l1 ((rd_T122 y571 x68_4).f1) t578 _ ?side1 ?side2 A54.out).mono ?_
                    (case side1 => repeat (first | exact (Kd.C_below HR1.out (by repeat (first | (with_reducible first | exact HB.out | apply below_alloc | apply pw_below_drewN | apply below_drew1 | refine below_set ?_ GE566.out | refine below_set ?_ GE576.out) | exact HB.out))) | (with_reducible refine Kd.C_alloc ?_ _) | (with_reducible refine Kd.C_drewN ?_ _) | (with_reducible refine Kd.C_drew ?_)))
                    (case side2 => exact HC1.out)
                    rintro e w' ⟨rfl, ⟨nd, rfl⟩⟩
                    refine ⟨_, rfl, ?_⟩
                    refine hK.out _ _ ⟨(blk_cell BK566.out 0).trans rfl, (blk_cell BK566.out 1).trans rfl, (blk_cell BK576.out 0).trans rfl, (blk_cell BK576.out 1).trans rfl⟩ (fun hHeld => ?_)
                    clear hK K
                    refine norm_ (a' := ?_) ?_ ?_
                    rotate_left
                    ·show Act.put _ (some 84) _ = _
                     simp only [Act.put, List.setIfInBounds_toArray, List.set_cons_zero, List.set_cons_succ, i64_w, i32_w]
                     rfl
                    refine pu_ 13 (some 85) (ba_ 15 16383) rfl rfl (any_of HT_.out (by kernel_rfl)) ?_
                    refine pu_ 14 (some 86) (ba_ 15 32767) rfl rfl (any_of HT_.out (by kernel_rfl)) ?_
                    refine done_ (done_of HT_.out (by kernel_rfl)) ?_
                    try go_wp2
                    go_roundg k4
                    case measure => have := HJ3.out; have := HK2.out; have := HJ14.out; have := HK4.out; omega
                    case rel => exact ⟨(wrap64 (x68_4 + 1)), (by first | rfl | (simp; done) | (simp [*]; done)), H', ⟨by have := HJ3.out; have := HK2.out; have := HJ14.out; have := HK4.out; omega⟩, ⟨by (with_reducible repeat (first | refine blk_drewN ?_ _ | refine blk_drew ?_ | refine blk_alloc ?_ _)); exact BK566.out⟩, ⟨by repeat (first | (with_reducible first | exact HB.out | apply below_alloc | apply pw_below_drewN | apply below_drew1 | refine below_set ?_ GE566.out | refine below_set ?_ GE576.out) | exact HB.out)⟩⟩
                  ·rw [if_neg c52] at H
                   exact absurd H (by simp)
                 ·rw [if_neg c51] at H
                  exact absurd H (by simp)
                ·rw [if_neg c50] at H
                 have c50b0 : decide (x68_4 < (y571.length : Int)) = false := decide_eq_false c50
                 clear c50
                 have H' := Aside0.mk H
                 clear H
                 go_wp2
                 go_roundg k4
                 case measure => have := HJ3.out; have := HK2.out; have := HJ14.out; have := HK4.out; omega
                 case rel => exact ⟨(wrap64 (x21_2 + 1)), (by first | rfl | (simp; done) | (simp [*]; done)), H', ⟨by have := HJ3.out; have := HK2.out; have := HJ14.out; have := HK4.out; omega⟩, ⟨by repeat (first | (with_reducible first | exact HB.out | apply below_alloc | apply pw_below_drewN | apply below_drew1 | refine below_set ?_ GE566.out) | exact HB.out)⟩⟩
             ·rw [if_neg c48] at H
              exact absurd H (by simp)
            ·rw [if_neg c47] at H
             exact absurd H (by simp)
        ·rw [if_neg c14] at H
         exact absurd H (by simp)
       ·rw [if_neg c13] at H
        exact absurd H (by simp)
      ·rw [if_neg c12] at H
       have c12b0 : decide (x21_2 < (l2.length : Int)) = false := decide_eq_false c12
       clear c12
       obtain rfl := Option.some.inj H
       go_wp2
       go_ret
       exact ⟨by first | rfl | (simp [errW_none, errW_some] <;> rfl) | (simp [*, errW_none, errW_some] <;> rfl), by repeat (first | (with_reducible first | exact HB.out | apply below_alloc | apply pw_below_drewN | apply below_drew1) | exact HB.out)⟩
end Go.Proofs.Ytbifdckfglejkaa.X
namespace Go.Proofs.Ytbifdckfglejkaa.X
open Go.RowKit Go.Proofs.YtbifdckfglejkaaW.PrintWords Go.Proofs.YtbifdckfglejkaaW.PrintLast Go.Proofs.YtbifdckfglejkaaW.PrintMore
set_option linter.unusedVariables false
set_option linter.unusedSimpArgs false
def PredB {α : Type} (P : Program) (g : Nat) (lb : Array Value) (enc : α → Value) (p : α → Bool) (w : World) : Prop :=
 ∀ (W : World), Below w.heap.size w W → ∀ x, Calls P g (#[enc x] ++ lb) W fun e w' => e = .returned (.bool (p x)) ∧ Below W.heap.size W w'
set_option maxHeartbeats 2000000 in
theorem indexFunc_int (g : Nat) (lb : Array Value) (p : Int → Bool) (eg : ∀ args w, (callFunc g args).run Try.prog w = .ok (.enter g args) w)
  (A0 : Option Addr) (c0 : Nat) (l0 : List Int) (w : World) (hp : PredB Try.prog g lb (Value.int .i64) p w) (hr0 : Kd.C (Kd.int .i64) w A0 l0.length l0) (hc0 : l0.length ≤ c0) :
  Calls Try.prog 149 #[.slice A0 l0.length c0, .func (.func g) #[] lb] w fun e w' => ∃ n : Int, e = .returned (.int .i64 n) ∧ Aside0 (decide (0 ≤ n) = l0.any p) ∧ Below w.heap.size w w' := by
 have HR0 := Aside0.mk hr0
 have HP := Aside0.mk hp
 have hm := hr0.2.1
 clear hr0 hc0 hp
 go_enter Try.func149, Try.ntmps149
 go_wp2
 go_loopg [5, 8] l0.length (fun gg _ s8 wr => ∃ kk : Nat, kk ≤ l0.length ∧ l0.length - kk ≤ gg ∧ s8 = .int .i64 kk ∧ Aside0 ((l0.take kk).any p = false) ∧ Aside0 (Below w.heap.size w wr))
 case atStart => exact ⟨0, Nat.zero_le _, by omega, rfl, ⟨by simp⟩, ⟨Below.refl _ _⟩⟩
 case round =>
  obtain ⟨kk, hkk, hg, rfl, AN, HB⟩ := hrel
  by_cases hlt : kk < l0.length
  ·have hcl := HP.out wr HB.out (rd l0 kk)
   have HC := Aside0.mk hcl
   clear hcl
   obtain ⟨ad, e, hx⟩ := Kd.at_int (Kd.C_below HR0.out HB.out) kk (by omega) (by omega)
   cases e
   have hany : (l0.take (kk + 1)).any p = ((l0.take kk).any p || p (rd l0 kk)) := by
    rw [List.take_succ_eq_append_getElem hlt, List.any_append]
    simp [rd, List.getD_eq_getElem?_getD, List.getElem?_eq_getElem hlt]
   have HN := Aside0.mk hany
   clear hany
   have hltz : (kk : Int) < (l0.length : Int) := by omega
   rw [Int.toNat_natCast] at hx
   cases hq : p (rd l0 kk) with
   | true =>
    have HQ := Aside0.mk hq
    clear hq
    go_wp2_with fail
    refine HC.out.mono ?_
    rintro e w' ⟨rfl, hb⟩
    have HBB := Aside0.mk (HB.out.trans (hb.mono (below_size HB.out)))
    clear hb
    rw [HQ.out]
    go_wp2
    go_ret
    refine ⟨_, rfl, ⟨?_⟩, HBB.out⟩
    have h1 := HN.out
    rw [HQ.out, Bool.or_true] at h1
    rw [← List.take_append_drop (kk + 1) l0, List.any_append, h1]
    simp
   | false =>
    have HQ := Aside0.mk hq
    clear hq
    go_wp2_with fail
    refine HC.out.mono ?_
    rintro e w' ⟨rfl, hb⟩
    have HBB := Aside0.mk (HB.out.trans (hb.mono (below_size HB.out)))
    clear hb
    rw [HQ.out]
    go_wp2
    go_roundg (l0.length - (kk + 1))
    case measure => omega
    case rel => exact ⟨kk + 1, by omega, by omega, by go_num, ⟨by rw [HN.out, AN.out, HQ.out]; rfl⟩, HBB⟩
  ·have hltz : ¬ (kk : Int) < (l0.length : Int) := by omega
   have e : kk = l0.length := by omega
   have AN2 : Aside0 (l0.any p = false) := ⟨by have := AN.out; rw [e, List.take_length] at this; exact this⟩
   clear AN e
   go_wp2
   go_ret
   exact ⟨-1, rfl, ⟨by rw [AN2.out]; decide⟩, HB.out⟩
set_option maxHeartbeats 2000000 in
theorem containsFunc_int (g : Nat) (lb : Array Value) (p : Int → Bool) (eg : ∀ args w, (callFunc g args).run Try.prog w = .ok (.enter g args) w)
  (A0 : Option Addr) (c0 : Nat) (l0 : List Int) (w : World) (hp : PredB Try.prog g lb (Value.int .i64) p w) (hr0 : Kd.C (Kd.int .i64) w A0 l0.length l0) (hc0 : l0.length ≤ c0) :
  Calls Try.prog 142 #[.slice A0 l0.length c0, .func (.func g) #[] lb] w fun e w' => e = .returned (.bool (l0.any p)) ∧ Below w.heap.size w w' := by
 have HX := Aside0.mk (indexFunc_int g lb p eg A0 c0 l0 w hp hr0 hc0)
 clear hr0 hc0 hp
 go_enter Try.func142, Try.ntmps142
 go_wp2_with (go_at_call 149; refine HX.out.mono ?_; rintro e w' ⟨n, rfl, hn, HB⟩)
 go_ret
 exact ⟨by rw [← hn.out]; rfl, HB⟩
end Go.Proofs.Ytbifdckfglejkaa.X
namespace Go.Proofs.Ytbifdckfglejkaa.X
open Go.RowKit Go.Proofs.YtbifdckfglejkaaW.PrintWords Go.Proofs.YtbifdckfglejkaaW.PrintLast Go.Proofs.YtbifdckfglejkaaW.PrintMore
set_option linter.unusedVariables false
set_option linter.unusedSimpArgs false
def encPair (x : S122) : Value := .agg #[.int .i64 x.f0, .int .i64 x.f1]
set_option maxHeartbeats 2000000 in
theorem indexFunc_pair (g : Nat) (lb : Array Value) (p : S122 → Bool) (eg : ∀ args w, (callFunc g args).run Try.prog w = .ok (.enter g args) w)
  (A0 : Option Addr) (c0 : Nat) (l0 : List S122) (w : World) (hp : PredB Try.prog g lb encPair p w) (hr0 : Kd.C k122 w A0 l0.length l0) (hc0 : l0.length ≤ c0) :
  Calls Try.prog 127 #[.slice A0 l0.length c0, .func (.func g) #[] lb] w fun e w' => ∃ n : Int, e = .returned (.int .i64 n) ∧ Aside0 (decide (0 ≤ n) = l0.any p) ∧ Below w.heap.size w w' := by
 have HR0 := Aside0.mk hr0
 have HP := Aside0.mk hp
 have hm := hr0.2.1
 have hu := Try.underlying122
 clear hr0 hc0 hp
 go_enter Try.func127, Try.ntmps127
 go_wp2
 go_loopg [5, 8] l0.length (fun gg _ s8 wr => ∃ kk : Nat, kk ≤ l0.length ∧ l0.length - kk ≤ gg ∧ s8 = .int .i64 kk ∧ Aside0 ((l0.take kk).any p = false) ∧ Aside0 (Below w.heap.size w wr))
 case atStart => exact ⟨0, Nat.zero_le _, by omega, rfl, ⟨by simp⟩, ⟨Below.refl _ _⟩⟩
 case round =>
  obtain ⟨kk, hkk, hg, rfl, AN, HB⟩ := hrel
  by_cases hlt : kk < l0.length
  ·have hcl := HP.out wr HB.out (rd_T122 l0 kk)
   have hcl2 := hcl
   unfold encPair at hcl
   obtain ⟨ad, e, hx, hx1⟩ := at_T122 (Kd.C_below HR0.out HB.out) kk (by omega) (by omega)
   have HC := Aside0.mk hcl
   clear hcl hcl2
   cases e
   have hany : (l0.take (kk + 1)).any p = ((l0.take kk).any p || p (rd_T122 l0 kk)) := by
    rw [List.take_succ_eq_append_getElem hlt, List.any_append]
    simp [rd_T122, List.getD_eq_getElem?_getD, List.getElem?_eq_getElem hlt]
   have HN := Aside0.mk hany
   clear hany
   have hltz : (kk : Int) < (l0.length : Int) := by omega
   rw [Int.toNat_natCast] at hx hx1
   cases hq : p (rd_T122 l0 kk) with
   | true =>
    have HQ := Aside0.mk hq
    clear hq
    go_wp2_with fail
    refine HC.out.mono ?_
    rintro e w' ⟨rfl, hb⟩
    have HBB := Aside0.mk (HB.out.trans (hb.mono (below_size HB.out)))
    clear hb
    rw [HQ.out]
    go_wp2
    go_ret
    refine ⟨_, rfl, ⟨?_⟩, HBB.out⟩
    have h1 := HN.out
    rw [HQ.out, Bool.or_true] at h1
    rw [← List.take_append_drop (kk + 1) l0, List.any_append, h1]
    simp
   | false =>
    have HQ := Aside0.mk hq
    clear hq
    go_wp2_with fail
    refine HC.out.mono ?_
    rintro e w' ⟨rfl, hb⟩
    have HBB := Aside0.mk (HB.out.trans (hb.mono (below_size HB.out)))
    clear hb
    rw [HQ.out]
    go_wp2
    go_roundg (l0.length - (kk + 1))
    case measure => omega
    case rel => exact ⟨kk + 1, by omega, by omega, by go_num, ⟨by rw [HN.out, AN.out, HQ.out]; rfl⟩, HBB⟩
  ·have hltz : ¬ (kk : Int) < (l0.length : Int) := by omega
   have e : kk = l0.length := by omega
   have AN2 : Aside0 (l0.any p = false) := ⟨by have := AN.out; rw [e, List.take_length] at this; exact this⟩
   clear AN e
   go_wp2
   go_ret
   exact ⟨-1, rfl, ⟨by rw [AN2.out]; decide⟩, HB.out⟩
set_option maxHeartbeats 2000000 in
theorem containsFunc_pair (g : Nat) (lb : Array Value) (p : S122 → Bool) (eg : ∀ args w, (callFunc g args).run Try.prog w = .ok (.enter g args) w)
  (A0 : Option Addr) (c0 : Nat) (l0 : List S122) (w : World) (hp : PredB Try.prog g lb encPair p w) (hr0 : Kd.C k122 w A0 l0.length l0) (hc0 : l0.length ≤ c0) :
  Calls Try.prog 91 #[.slice A0 l0.length c0, .func (.func g) #[] lb] w fun e w' => e = .returned (.bool (l0.any p)) ∧ Below w.heap.size w w' := by
 have HX := Aside0.mk (indexFunc_pair g lb p eg A0 c0 l0 w hp hr0 hc0)
 clear hr0 hc0 hp
 go_enter Try.func91, Try.ntmps91
 go_wp2_with (go_at_call 127; refine HX.out.mono ?_; rintro e w' ⟨n, rfl, hn, HB⟩)
 go_ret
 exact ⟨by rw [← hn.out]; rfl, HB⟩
end Go.Proofs.Ytbifdckfglejkaa.X
namespace Go.Proofs.Ytbifdckfglejkaa.X
open Go.RowKit Go.Proofs.YtbifdckfglejkaaW.PrintWords Go.Proofs.YtbifdckfglejkaaW.PrintLast Go.Proofs.YtbifdckfglejkaaW.PrintMore
set_option linter.unusedVariables false
set_option linter.unusedSimpArgs false
def outP (hi : Int) (x : Int) : Bool := !(decide (0 ≤ x ∧ x ≤ hi))
theorem within_out (x hi : Int) : impl_within.f x 0 hi = some (!outP hi x) := by
 unfold impl_within.f outP
 by_cases h : 0 ≤ x
 ·rw [if_pos h]; simp [h]
 ·rw [if_neg h]; simp [h]
end Go.Proofs.Ytbifdckfglejkaa.X
namespace Go.Proofs.Ytbifdckfglejkaa.X
open Go.RowKit Go.Proofs.YtbifdckfglejkaaW.PrintWords Go.Proofs.YtbifdckfglejkaaW.PrintLast Go.Proofs.YtbifdckfglejkaaW.PrintMore
set_option linter.unusedVariables false
set_option linter.unusedSimpArgs false
theorem pricesLit (x : Int) (W : World) : Calls Try.prog 143 #[.int .i64 x] W fun e w' => e = .returned (.bool (outP 1000 x)) ∧ Below W.heap.size W w' := by
 have H := Aside0.mk (impl_within.calls x 0 1000 _ W (within_out x 1000))
 generalize hb : outP 1000 x = b at H
 clear hb
 go_enter Try.func143, Try.ntmps143
 go_wp2_with (go_at_call 117; refine H.out.mono ?_; rintro e w' ⟨rfl, ⟨n, rfl⟩⟩)
 go_ret
 exact ⟨by simp, pw_below_drewN (Below.refl _ _) _⟩
def impl_pricesOk.f (l0 : List Int) (a1 : Int) : Option Bool := some (decide ((l0.length : Int) = a1) && !(l0.any (outP 1000)))
set_option maxHeartbeats 2000000 in
theorem impl_pricesOk.calls (A0 : Option Addr) (c0 : Nat) (l0 : List Int) (a1 : Int) (r : Bool) (w : World) (hr0 : Kd.C (Kd.int .i64) w A0 l0.length l0) (hc0 : l0.length ≤ c0) (h : impl_pricesOk.f l0 a1 = some r) :
  Calls Try.prog 126 #[.slice A0 l0.length c0, .int .i64 a1] w fun e w' => e = .returned (.bool r) ∧ Below w.heap.size w w' := by
 obtain rfl := Option.some.inj h
 clear h
 have HX := Aside0.mk (containsFunc_int 143 #[] (outP 1000) (fun args w => enters_ Try.func143 (by kernel_rfl) rfl args w) A0 c0 l0 w (fun W _ x => pricesLit x W) hr0 hc0)
 clear hr0 hc0
 by_cases c : (l0.length : Int) = a1
 ·have c1 : ((l0.length : Int) == a1) = true := by simpa using c
  have C := Aside0.mk c
  clear c
  go_enter Try.func126, Try.ntmps126
  go_wp2_with (go_at_call 142; refine HX.out.mono ?_; rintro e w' ⟨rfl, HB⟩)
  go_ret
  exact ⟨by simp [C.out], HB⟩
 ·have c1 : ((l0.length : Int) == a1) = false := by simpa using c
  have C := Aside0.mk c
  clear c
  go_enter Try.func126, Try.ntmps126
  go_wp2
  go_ret
  exact ⟨by simp [C.out], Below.refl _ _⟩
end Go.Proofs.Ytbifdckfglejkaa.X
