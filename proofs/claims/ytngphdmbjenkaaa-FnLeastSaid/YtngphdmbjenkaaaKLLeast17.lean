/- Part 17 of the proof of FnLeast: what it needs. -/
import Derived.Lib.SliceRun
import Derived.Test.YtngphdmbjenkaaaKLLeast4
import Derived.Test.YtngphdmbjenkaaaKLLeast6
namespace Go.Proofs.Ytngphdmbjenkaaa.X
open Go.RowKit Go.Proofs.YtngphdmbjenkaaaW.PrintWords Go.Proofs.YtngphdmbjenkaaaW.PrintLast Go.Proofs.YtngphdmbjenkaaaW.PrintMore
set_option linter.unusedVariables false
set_option linter.unusedSimpArgs false
def clone_Pair.f (l0 : List S48) : Option (List S48) := if l0.length ≤ 1048576 then some l0 else none
set_option maxHeartbeats 2000000 in
set_option maxRecDepth 100000 in
theorem clone_Pair.calls (A0 : Option Addr) (c0 : Nat) (l0 : List S48) (r : List S48) (w : World) (hr0 : Kd.C k48 w A0 l0.length l0) (hc0 : l0.length ≤ c0) (h : clone_Pair.f l0 = some r) :
  Calls Try.prog 117 #[.slice A0 l0.length c0] w fun e w' => ∃ v0_ : Value, e = .returned v0_ ∧ Kd.R k48 48 w' w.heap.size (fun _ => True) v0_ r ∧ Below w.heap.size w w' := by
 unfold clone_Pair.f at h
 by_cases hL : l0.length ≤ 1048576
 case neg => rw [if_neg hL] at h; cases h
 rw [if_pos hL] at h
 obtain rfl := Option.some.inj h
 clear h
 have HR0 := Aside0.mk hr0
 have HC0 := Aside0.mk hc0
 have LM := Aside0.mk hL
 have HB := Aside0.mk (Below.refl w.heap.size w)
 clear hr0 hc0 hL
 cases A0 with
 | none =>
  have hz : l0 = [] := by
   by_cases z : 0 < l0.length
   ·obtain ⟨ad, e, _⟩ := HR0.out.2.2 z
    cases e
   ·exact List.eq_nil_of_length_eq_zero (by omega)
  have HZ := Aside0.mk hz
  clear hz
  have HE : ∀ wx, (binOp .eql 36 (.slice none l0.length c0) (.slice none 0 0)).run Try.prog wx = .ok (.bool true) wx := fun wx => Lib.run_eql_slice_nil wx _ _ none l0.length c0 0 0 Try.underlying36
  go_enter Try.func117, Try.ntmps117
  go_wp2
  go_ret
  exact ⟨_, rfl, by rw [HZ.out]; exact Kd.R_nil _ _ _ _ _, HB.out⟩
 | some ad =>
  have HE : ∀ wx, (binOp .eql 36 (.slice (some ad) l0.length c0) (.slice none 0 0)).run Try.prog wx = .ok (.bool false) wx := fun wx => Lib.run_eql_slice_nil wx _ _ (some ad) l0.length c0 0 0 Try.underlying36
  go_enter Try.func117, Try.ntmps117
  go_wp2_with (first | ((with_reducible refine gate_dst (N := 5) rfl ?_); refine Kd.R_lit k48 _ 48 ?hg (N := 5) ?hd (xs := ([] : List S48)) (inner := []) (ok := fun _ => True) (okp := fun _ => True) ?hr ?hp (fun _ hk => hk) trivial (Below.refl _ _) (Nat.le_refl _) (by simp) ?_; (case hd => rfl); (case hg => rfl); (case hr => first | (go_simp; done) | (go_simp; rfl)); (case hp => exact (Reps.none _ _)); intro v754 w3 ho4 hb hg_ hnew_; clear hg_ hnew_; have n0_ := Aside0.mk (Kd.R_lower ho4 (below_size HB.out)); have n1_ := Aside0.mk (below_step HB.out hb); clear HB; have HO := n0_; have HB := n1_; clear n0_ n1_; clear hb ho4) | ((with_reducible refine gate_builtin (b := .append) (xs := #[.tmp 5, .tmp 6]) rfl ?_); at_builtin; refine Kd.R_append_rows k48 (w0 := w) w.heap.size rfl (.tmp 5) (.tmp 6) 36 48 (.agg #[(.int .i64 0), (.int .i64 0)]) 16 rfl Try.underlying36 info48 rfl (by decide) (by omega) v754 ([] : List S48) l0 _ _ _ (fun _ => True) (fun _ => False) rfl rfl ?aO ?aR (fun _ _ h => h) (fun _ h => h.elim) ?aF ?aB ?aS ?aL ?_; (case aR => exact Kd.C_below HR0.out HB.out); (case aB => exact HB.out); (case aF => exact (fun _ _ => trivial)); (case aO => exact HO.out); (case aS => exact below_size HB.out); (case aL => have := LM.out; simp only [List.length_nil]; omega); intro v757 w5 ho hb hg hat; rw [List.nil_append] at ho; have n0_ := Aside0.mk (hb); have n1_ := Aside0.mk (ho); clear HB; clear HO; have HB := n0_; have HO := n1_; clear n0_ n1_; clear ho hb hg hat))
  go_ret
  exact ⟨_, rfl, HO.out, HB.out⟩
end Go.Proofs.Ytngphdmbjenkaaa.X
namespace Go.Proofs.Ytngphdmbjenkaaa.X
open Go.RowKit Go.Proofs.YtngphdmbjenkaaaW.PrintWords Go.Proofs.YtngphdmbjenkaaaW.PrintLast Go.Proofs.YtngphdmbjenkaaaW.PrintMore
attribute [local go_sem] max2_int min2_int max_two min_two max_three min_three max_four min_four   -- for this text's walks alone
set_option linter.unusedVariables false
set_option linter.unusedSimpArgs false
mutual
def impl_extended.l0 : Nat → List (S77) → List (S77) → List (S48) → Int → List (List (S48)) → Int → Option ((List (List (S48))))
 | 0, _, _, _, _, _, _ => none
 | k + 1, x0, x1, x2, x3, x9, x10 => if x10 < (x1.length : Int) then ((clone_Pair.f x2).bind fun t472 => (if t472.length < 8796093022208 then ((some (t472 ++ [(⟨x3, x10⟩ : S48)] : List (S48))).bind fun y475 => ((impl_MapOk.f k x0 x1 y475).bind fun t478 => (if t478 = true then ((impl_extended.f k x0 x1 y475 (wrap64 (x3 + 1))).bind fun t479 => (if x9.length + t479.length < 5864062014805 then (impl_extended.l0 k x0 x1 x2 x3 (x9 ++ t479) (wrap64 (x10 + 1))) else (none))) else (impl_extended.l0 k x0 x1 x2 x3 x9 (wrap64 (x10 + 1)))))) else (none))) else (some x9)
def impl_extended.f : Nat → List (S77) → List (S77) → List (S48) → Int → Option ((List (List (S48))))
 | 0, _, _, _, _ => none
 | k + 1, l0, l1, l2, a3 => if a3 = (l0.length : Int) then ((clone_Pair.f l2).bind fun t463 => (some (([t463] : List (List (S48)))))) else ((impl_extended.f k l0 l1 l2 (wrap64 (a3 + 1))).bind fun t469 => (impl_extended.l0 k l0 l1 l2 a3 t469 1))
end
set_option maxHeartbeats 8000000 in
set_option maxRecDepth 100000 in
theorem impl_extended.calls (k : Nat) : ∀ (A0 : Option Addr) (c0 : Nat) (l0 : List (S77)) (A1 : Option Addr) (c1 : Nat) (l1 : List (S77)) (A2 : Option Addr) (c2 : Nat) (l2 : List (S48)) (a3 : Int) (r : List (List (S48))) (w : World) (hr0 : Kd.C k77 w A0 l0.length l0) (hc0 : l0.length ≤ c0) (hr1 : Kd.C k77 w A1 l1.length l1) (hc1 : l1.length ≤ c1) (hr2 : Kd.C k48 w A2 l2.length l2) (hc2 : l2.length ≤ c2) (h : impl_extended.f k l0 l1 l2 a3 = some r),
  Calls Try.prog 60 #[.slice A0 l0.length c0, .slice A1 l1.length c1, .slice A2 l2.length c2, .int .i64 a3] w fun e w' => ∃ v0_ : Value, e = .returned (v0_) ∧ Kd.N (Kd.slice 48 k48) 36 w' w.heap.size (fun k_ => (w.heap.size ≤ k_)) v0_ r ∧ Below w.heap.size w w' := by
 induction k using Nat.strongRecOn with
 | _ k ih =>
 intro A0 c0 l0 A1 c1 l1 A2 c2 l2 a3 r w hr0 hc0 hr1 hc1 hr2 hc2 h
 cases k with
 | zero => exact absurd h (by simp [impl_extended.f])
 | succ k =>
 simp only [impl_extended.f] at h
 have hu48 := Try.underlying48
 have HR0 := Aside0.mk hr0
 have HC0 := Aside0.mk hc0
 clear hr0 hc0
 have HR1 := Aside0.mk hr1
 have HC1 := Aside0.mk hc1
 clear hr1 hc1
 have HR2 := Aside0.mk hr2
 have HC2 := Aside0.mk hc2
 clear hr2 hc2
 have HB := Aside0.mk (Below.refl w.heap.size w)
 have H : (if a3 = (l0.length : Int) then ((clone_Pair.f l2).bind fun t463 => (some (([t463] : List (List (S48)))))) else ((impl_extended.f k l0 l1 l2 (wrap64 (a3 + 1))).bind fun t469 => (impl_extended.l0 k l0 l1 l2 a3 t469 1))) = some r := h
 clear h
 by_cases c5 : a3 = (l0.length : Int)
 ·rw [if_pos c5] at H
  have c5b0 : (a3 == (l0.length : Int)) = true := beq_iff_eq.mpr c5
  have c5b1 : (a3 != (l0.length : Int)) = false := bne_eq_false_iff_eq.mpr c5
  clear c5
  replace H := Option.bind_eq_some_iff.mp H
  obtain ⟨t463, A60, H⟩ := H
  replace H : (some (([t463] : List (List (S48))))) = some r := H
  have A6 := Aside0.mk A60
  clear A60
  obtain ⟨y466, hy466⟩ : ∃ y_ : List (List (S48)), y_ = (([t463] : List (List (S48)))) := ⟨_, rfl⟩
  replace H : (some y466) = some r := by first | (rw [hy466]; with_reducible exact H) | (have H2_ := (Option.bind_some _ _).symm.trans H; rw [hy466]; with_reducible exact H2_) | (have H2_ := (Option.bind_some _ _).symm.trans H; with_reducible exact H2_) | with_reducible exact H | (rw [hy466]; exact H) | exact H
  have Ny466 := Aside0.mk hy466
  clear hy466
  obtain rfl := Option.some.inj H
  go_enter Try.func60, Try.ntmps60
  go_wp2_with (first | ((with_reducible refine gate_callee (f := 117) rfl ?_); refine gL_ (some 17) Try.func117 #[.slice A2 l2.length c2] ?_; (with_reducible refine (clone_Pair.calls _ _ l2 t463 _ (cc_ HR2.out) HC2.out A6.out).mono ?_); rintro e w7 ⟨v464, rfl, ho0, hb⟩; refine ⟨_, rfl, ?_⟩; have HO465 := Aside0.mk (Kd.R_lower (Kd.R_newM (M := fun k_ => (w.heap.size ≤ k_)) ho0 (bs_ HB) (fun k_ h_ => h_)) (bs_ HB)); replace HB := tB_ HB hb; (try clear hb); (try clear ho0); obtain ⟨Ao8, co8, eo8⟩ := Kd.R_slice HO465.out; subst eo8) | ((with_reducible refine gate_dst (N := 18) rfl ?_); refine Kd.N_lit (Kd.slice 48 k48) _ 36 ?hg (N' := 18) ?hd (xs := ([t463] : List (List (S48)))) (inner := [.slice Ao8 t463.length co8]) (ok := (fun k_ => (w.heap.size ≤ k_))) (okp := (fun k_ => (w.heap.size ≤ k_))) ?hr ?hp (fun _ hk => hk) ((show ∀ k_, w7.heap.size ≤ k_ → (fun k_ => (w.heap.size ≤ k_)) k_ from fun k_ hk => (Nat.le_trans (bs_ HB) hk)) _ (Nat.le_refl _)) (Below.refl _ _) (Nat.le_refl _) (by simp) ?_; (case hd => rfl); (case hg => rfl); (case hr => first | (go_simp; done) | (go_simp; rfl)); (case hp => exact (Reps.one (show Kd.FK (Kd.slice 48 k48) _ _ t463 [.slice Ao8 t463.length co8] from (Kd.FK_slice_mk (Kd.R_reads' (Kd.R_mono (ok' := (fun k_ => (w.heap.size ≤ k_))) (HO465.out) (fun k_ hk => hk.1))).2.1 (Kd.R_F (Kd.R_mono (ok' := (fun k_ => (w.heap.size ≤ k_))) (HO465.out) (fun k_ hk => hk.1))))) (Reps.none _ _))); intro v467 w9 ho10 hb hg_ hnew_; clear hg_ hnew_; (first | rw [← Ny466.out] at ho10 | (simp only [Int.reduceToNat] at ho10; rw [← Ny466.out] at ho10)); have HO468 := Aside0.mk (Kd.N_lower ho10 (bs_ HB)); replace HB := tB_ HB hb; clear HO465; clear hb ho10))
  go_ret
  exact ⟨_, ea_, by (with_reducible repeat (first | apply Kd.N_alloc | apply Kd.N_drewN | apply Kd.N_drew)); exact HO468.out, (bl_ HB).out⟩
 ·rw [if_neg c5] at H
  have c5b0 : (a3 == (l0.length : Int)) = false := beq_eq_false_iff_ne.mpr c5
  have c5b1 : (a3 != (l0.length : Int)) = true := bne_iff_ne.mpr c5
  replace H := Option.bind_eq_some_iff.mp H
  obtain ⟨t469, A110, H⟩ := H
  replace H : (impl_extended.l0 k l0 l1 l2 a3 t469 1) = some r := H
  have A11 := Aside0.mk A110
  clear A110
  have H' := Aside0.mk H
  clear H
  go_enter Try.func60, Try.ntmps60
  go_wp2_with (first | ((with_reducible refine gate_callee (f := 60) rfl ?_); refine gL_ (some 24) Try.func60 #[.slice A0 l0.length c0, .slice A1 l1.length c1, .slice A2 l2.length c2, .int .i64 (wrap64 (a3 + 1))] ?_; (with_reducible refine (ih k (by omega) _ _ l0 _ _ l1 _ _ l2 (wrap64 (a3 + 1)) t469 _ ?side1 ?side2 ?side3 ?side4 ?side5 ?side6 A11.out).mono ?_); (case side1 => exact cc_ HR0.out); (case side2 => exact HC0.out); (case side3 => exact cc_ HR1.out); (case side4 => exact HC1.out); (case side5 => exact cc_ HR2.out); (case side6 => exact HC2.out); rintro e w12 ⟨v470, rfl, ho0, hb⟩; refine ⟨_, rfl, ?_⟩; have HO471 := Aside0.mk (Kd.N_lower (Kd.N_mono (ok' := fun k_ => (w.heap.size ≤ k_)) ho0 (fun k_ hk_ => (Nat.le_trans (bs_ HB) hk_))) (bs_ HB)); replace HB := tB_ HB hb; (try clear hb); (try clear ho0)))
  go_loopg [9, 10] k (fun kq v9 v10 w' => ∃ (x9_1 : List (List (S48))) (x10_1 : Int), v10 = .int .i64 x10_1 ∧ Aside0 (impl_extended.l0 kq l0 l1 l2 a3 x9_1 x10_1 = some r) ∧ Aside0 (kq ≤ k) ∧ Aside0 (Kd.N (Kd.slice 48 k48) 36 w' w.heap.size (fun k_ => (w.heap.size ≤ k_)) v9 x9_1) ∧ Aside0 (Below w.heap.size w w'))
  case atStart => exact ⟨(t469), (1), eb_, H', ⟨Nat.le_refl _⟩, ⟨by (with_reducible repeat (first | apply Kd.N_alloc | apply Kd.N_drewN | apply Kd.N_drew)); exact HO471.out⟩, bl_ HB⟩
  case round =>
   clear H'
   try clear c1
   try clear c2
   try clear p2
   try clear c5
   try clear c5b0
   try clear c5b1
   try clear c6
   try clear p6
   try clear c11
   obtain ⟨x9_1, x10_1, rfl, HA, HK1, HO_9, HB⟩ := hrel
   cases gk with
   | zero => exact absurd HA.out (by simp [impl_extended.l0])
   | succ k1 =>
    have H := HA.out
    clear HA
    simp only [impl_extended.l0] at H
    by_cases c13 : x10_1 < (l1.length : Int)
    ·rw [if_pos c13] at H
     have c13b0 : decide (x10_1 < (l1.length : Int)) = true := decide_eq_true c13
     clear c13
     replace H := Option.bind_eq_some_iff.mp H
     obtain ⟨t472, A140, H⟩ := H
     try dsimp only at H
     have A14 := Aside0.mk A140
     clear A140
     by_cases c15 : t472.length < 8796093022208
     ·rw [if_pos c15] at H
      have LMc15 := Aside0.mk c15
      clear c15
      obtain ⟨y475, hy475⟩ : ∃ y_ : List (S48), y_ = (t472 ++ [(⟨a3, x10_1⟩ : S48)]) := ⟨_, rfl⟩
      replace H : ((impl_MapOk.f k1 l0 l1 y475).bind fun t478 => (if t478 = true then ((impl_extended.f k1 l0 l1 y475 (wrap64 (a3 + 1))).bind fun t479 => (if x9_1.length + t479.length < 5864062014805 then (impl_extended.l0 k1 l0 l1 l2 a3 (x9_1 ++ t479) (wrap64 (x10_1 + 1))) else (none))) else (impl_extended.l0 k1 l0 l1 l2 a3 x9_1 (wrap64 (x10_1 + 1))))) = some r := by first | (rw [hy475]; with_reducible exact H) | (have H2_ := (Option.bind_some _ _).symm.trans H; rw [hy475]; with_reducible exact H2_) | (have H2_ := (Option.bind_some _ _).symm.trans H; with_reducible exact H2_) | with_reducible exact H | (rw [hy475]; exact H) | exact H
      have Ny475 := Aside0.mk hy475
      clear hy475
      replace H := Option.bind_eq_some_iff.mp H
      obtain ⟨t478, A160, H⟩ := H
      try dsimp only at H
      have A16 := Aside0.mk A160
      clear A160
      by_cases c17 : t478 = true
      ·subst c17
       have H1 : ((impl_extended.f k1 l0 l1 y475 (wrap64 (a3 + 1))).bind fun t479 => (if x9_1.length + t479.length < 5864062014805 then (impl_extended.l0 k1 l0 l1 l2 a3 (x9_1 ++ t479) (wrap64 (x10_1 + 1))) else (none))) = some r := by rw [if_pos rfl] at H; exact H
       clear H
       have H := H1
       clear H1
       replace H := Option.bind_eq_some_iff.mp H
       obtain ⟨t479, A180, H⟩ := H
       try dsimp only at H
       have A18 := Aside0.mk A180
       clear A180
       by_cases c19 : x9_1.length + t479.length < 5864062014805
       ·rw [if_pos c19] at H
        have LMc19 := Aside0.mk c19
        clear c19
        obtain ⟨y482, hy482⟩ : ∃ y_ : List (List (S48)), y_ = (x9_1 ++ t479) := ⟨_, rfl⟩
        replace H : (impl_extended.l0 k1 l0 l1 l2 a3 y482 (wrap64 (x10_1 + 1))) = some r := by first | (rw [hy482]; with_reducible exact H) | (have H2_ := (Option.bind_some _ _).symm.trans H; rw [hy482]; with_reducible exact H2_) | (have H2_ := (Option.bind_some _ _).symm.trans H; with_reducible exact H2_) | with_reducible exact H | (rw [hy482]; exact H) | exact H
        have Ny482 := Aside0.mk hy482
        clear hy482
        have H' := Aside0.mk H
        clear H
        go_wp2_with (first | ((with_reducible refine gate_callee (f := 117) rfl ?_); refine gL_ (some 32) Try.func117 #[.slice A2 l2.length c2] ?_; (with_reducible refine (clone_Pair.calls _ _ l2 t472 _ (cx_ HR2 HB) HC2.out A14.out).mono ?_); rintro e w20 ⟨v473, rfl, ho0, hb⟩; refine ⟨_, rfl, ?_⟩; replace HO_9 := Aside0.mk (Kd.N_elder' (by (with_reducible repeat (first | apply Kd.N_alloc | apply Kd.N_drewN | apply Kd.N_drew)); exact HO_9.out) (Kd.R_base ho0) hb); have HO474 := Aside0.mk (Kd.R_lower (Kd.R_newM (M := fun k_ => (w.heap.size ≤ k_)) ho0 (bs_ HB) (fun k_ h_ => h_)) (bs_ HB)); replace HB := tB_ HB hb; (try clear hb); (try clear ho0)) | ((with_reducible refine gate_builtin (b := .append) (xs := #[.tmp 32, .tmp 36]) rfl ?_); at_builtin; refine Kd.R_append k48 (w0 := w) w.heap.size rfl (.tmp 32) (.tmp 36) 36 48 (.agg #[(.int .i64 0), (.int .i64 0)]) 16 rfl Try.underlying36 info48 rfl (by decide) (by omega) v473 t472 (⟨a3, x10_1⟩ : S48) [.int .i64 a3, .int .i64 x10_1] (fun k_ => (w.heap.size ≤ k_)) (fun _ => False) rfl rfl ?aP (fun _ hk => hk.elim) ?aF ?aO ?aB ?aS ?aL ?_; (case aP => exact k48_mkM _ _ _ (⟨a3, x10_1⟩ : S48)); (case aB => exact ((bl_ HB).out)); (case aF => exact (fun k_ hk => (Nat.le_trans (bs_ HB) hk))); (case aO => exact (rx_ (Kd.R_mono HO474.out (fun _ hk => hk.1)))); (case aS => exact (bs_ HB)); (case aL => have := LMc15.out; omega); intro v476 w21 ho hb hg hat; rw [← Ny475.out] at ho; replace HO_9 := Aside0.mk (Kd.N_afterv (ok := (fun k_ => (w.heap.size ≤ k_))) (by (with_reducible repeat (first | apply Kd.N_alloc | apply Kd.N_drewN | apply Kd.N_drew)); exact HO_9.out) hg hat); replace HB := Aside0.mk (hb); have HO477 := Aside0.mk (ho); clear HO474; clear ho hb hg hat; obtain ⟨Ao22, co22, eo22⟩ := Kd.R_slice HO477.out; subst eo22) | ((with_reducible refine gate_callee (f := 45) rfl ?_); refine gL_ (some 41) Try.func45 #[.slice A0 l0.length c0, .slice A1 l1.length c1, .slice Ao22 y475.length co22] ?_; (with_reducible refine (impl_MapOk.calls k1 _ _ l0 _ _ l1 _ _ y475 true _ (cx_ HR0 HB) HC0.out (cx_ HR1 HB) HC1.out (cc_ (Kd.R_reads' HO477.out).2.2) ((Kd.R_reads' HO477.out).2.1) A16.out).mono ?_); rintro e w23 ⟨rfl, hb⟩; refine ⟨_, rfl, ?_⟩; replace HO_9 := Aside0.mk (Kd.N_below (by (with_reducible repeat (first | apply Kd.N_alloc | apply Kd.N_drewN | apply Kd.N_drew)); exact HO_9.out) hb); replace HO477 := tR_ HO477 hb; replace HB := tB_ HB hb; (try clear hb)) | ((with_reducible refine gate_callee (f := 60) rfl ?_); refine gL_ (some 48) Try.func60 #[.slice A0 l0.length c0, .slice A1 l1.length c1, .slice Ao22 y475.length co22, .int .i64 (wrap64 (a3 + 1))] ?_; (with_reducible refine (ih k1 (by have := HK1.out; omega) _ _ l0 _ _ l1 _ _ y475 (wrap64 (a3 + 1)) t479 _ ?side1 ?side2 ?side3 ?side4 ?side5 ?side6 A18.out).mono ?_); (case side1 => exact cx_ HR0 HB); (case side2 => exact HC0.out); (case side3 => exact cx_ HR1 HB); (case side4 => exact HC1.out); (case side5 => exact cc_ (Kd.R_reads' HO477.out).2.2); (case side6 => exact (Kd.R_reads' HO477.out).2.1); rintro e w24 ⟨v480, rfl, ho0, hb⟩; refine ⟨_, rfl, ?_⟩; have HO481 := Aside0.mk (Kd.N_lower (Kd.N_mono (ok' := fun k_ => (w.heap.size ≤ k_) ∧ some k_ ≠ (u9 : Value).ownBlock ∧ some k_ ≠ (.slice Ao22 y475.length co22 : Value).ownBlock) ho0 (fun k_ hk_ => ⟨(Nat.le_trans (bs_ HB) hk_), (Kd.fresh' (Kd.N_lt (by (with_reducible repeat (first | apply Kd.N_alloc | apply Kd.N_drewN | apply Kd.N_drew)); exact HO_9.out)) k_ hk_), (Kd.fresh' (Kd.R_lt (rx_ HO477.out)) k_ hk_)⟩)) (bs_ HB)); replace HO_9 := Aside0.mk (Kd.N_elder' (by (with_reducible repeat (first | apply Kd.N_alloc | apply Kd.N_drewN | apply Kd.N_drew)); exact HO_9.out) (Kd.N_base ho0) hb); replace HO477 := tR_ HO477 hb; replace HB := tB_ HB hb; (try clear hb); (try clear ho0); obtain ⟨Ao26, co26, eo26⟩ := Kd.N_slice HO481.out; subst eo26) | ((with_reducible refine gate_builtin (b := .append) (xs := #[.tmp 42, .tmp 48]) rfl ?_); at_builtin; refine Kd.N_append_rows (Kd.slice 48 k48) (w0 := w) w.heap.size rfl (.tmp 42) (.tmp 48) 30 36 (.slice none 0 0) 24 rfl Try.underlying30 info36 rfl (by decide) (by omega) u9 x9_1 t479 _ _ _ (fun k_ => (w.heap.size ≤ k_) ∧ some k_ ≠ (.slice Ao22 y475.length co22 : Value).ownBlock) (fun k_ => ((fun k_ => (w.heap.size ≤ k_) ∧ some k_ ≠ (.slice Ao22 y475.length co22 : Value).ownBlock)) k_ ∧ some k_ ≠ (u9 : Value).ownBlock) rfl rfl ?aO ?aR (fun _ hk => hk) ?aF ?aB ?aS ?aL ?_; (case aR => exact (by skip; exact Kd.N_F (Kd.N_mono (ok' := (fun k_ => ((fun k_ => (w.heap.size ≤ k_) ∧ some k_ ≠ (.slice Ao22 y475.length co22 : Value).ownBlock)) k_ ∧ some k_ ≠ (u9 : Value).ownBlock)) (HO481.out) (fun k_ hk => ⟨⟨hk.1, hk.2.2⟩, hk.2.1⟩)))); (case aB => exact ((bl_ HB).out)); (case aF => exact (fun k_ hk => ⟨(Nat.le_trans (bs_ HB) hk), Kd.fresh' (Kd.R_lt (rx_ HO477.out)) k_ hk⟩)); (case aO => exact (by (with_reducible repeat (first | apply Kd.N_alloc | apply Kd.N_drewN | apply Kd.N_drew)); exact Kd.N_mono HO_9.out (fun _ hk => ⟨hk.1.1, hk.1.2⟩))); (case aS => exact (bs_ HB)); (case aL => have := LMc19.out; omega); intro v483 w25 ho hb hg hat; rw [← Ny482.out] at ho; replace HO477 := Aside0.mk (Kd.R_over' (rx_ HO477.out) (Kd.N_typed (by (with_reducible repeat (first | apply Kd.N_alloc | apply Kd.N_drewN | apply Kd.N_drew)); exact HO_9.out)) (by decide) hg); replace HO481 := Aside0.mk (Kd.N_afterv (ok := (fun k_ => (w.heap.size ≤ k_) ∧ some k_ ≠ (.slice Ao22 y475.length co22 : Value).ownBlock)) (by (with_reducible repeat (first | apply Kd.N_alloc | apply Kd.N_drewN | apply Kd.N_drew)); exact Kd.N_mono HO481.out (fun _ hk => ⟨⟨hk.1, hk.2.2⟩, hk.2.1⟩)) hg hat); replace HB := Aside0.mk (hb); have HO484 := Aside0.mk (ho); clear HO_9; clear ho hb hg hat))
        go_roundg k1
        case measure => have := HK1.out; omega
        case rel => exact ⟨(y482), (wrap64 (x10_1 + 1)), eb_, H', ⟨by have := HK1.out; omega⟩, ⟨by (with_reducible repeat (first | apply Kd.N_alloc | apply Kd.N_drewN | apply Kd.N_drew)); exact Kd.N_mono HO484.out (fun _ hk => hk.1)⟩, bl_ HB⟩
       ·rw [if_neg c19] at H
        exact absurd H (by simp)
      ·replace c17 := Bool.eq_false_iff.mpr c17
       subst c17
       have H1 : (impl_extended.l0 k1 l0 l1 l2 a3 x9_1 (wrap64 (x10_1 + 1))) = some r := by rw [if_neg (show ¬ (false = true) by decide)] at H; exact H
       clear H
       have H := H1
       clear H1
       have H' := Aside0.mk H
       clear H
       go_wp2_with (first | ((with_reducible refine gate_callee (f := 117) rfl ?_); refine gL_ (some 32) Try.func117 #[.slice A2 l2.length c2] ?_; (with_reducible refine (clone_Pair.calls _ _ l2 t472 _ (cx_ HR2 HB) HC2.out A14.out).mono ?_); rintro e w27 ⟨v473, rfl, ho0, hb⟩; refine ⟨_, rfl, ?_⟩; replace HO_9 := Aside0.mk (Kd.N_elder' (by (with_reducible repeat (first | apply Kd.N_alloc | apply Kd.N_drewN | apply Kd.N_drew)); exact HO_9.out) (Kd.R_base ho0) hb); have HO474 := Aside0.mk (Kd.R_lower (Kd.R_newM (M := fun k_ => (w.heap.size ≤ k_)) ho0 (bs_ HB) (fun k_ h_ => h_)) (bs_ HB)); replace HB := tB_ HB hb; (try clear hb); (try clear ho0)) | ((with_reducible refine gate_builtin (b := .append) (xs := #[.tmp 32, .tmp 36]) rfl ?_); at_builtin; refine Kd.R_append k48 (w0 := w) w.heap.size rfl (.tmp 32) (.tmp 36) 36 48 (.agg #[(.int .i64 0), (.int .i64 0)]) 16 rfl Try.underlying36 info48 rfl (by decide) (by omega) v473 t472 (⟨a3, x10_1⟩ : S48) [.int .i64 a3, .int .i64 x10_1] (fun k_ => (w.heap.size ≤ k_)) (fun _ => False) rfl rfl ?aP (fun _ hk => hk.elim) ?aF ?aO ?aB ?aS ?aL ?_; (case aP => exact k48_mkM _ _ _ (⟨a3, x10_1⟩ : S48)); (case aB => exact ((bl_ HB).out)); (case aF => exact (fun k_ hk => (Nat.le_trans (bs_ HB) hk))); (case aO => exact (rx_ (Kd.R_mono HO474.out (fun _ hk => hk.1)))); (case aS => exact (bs_ HB)); (case aL => have := LMc15.out; omega); intro v476 w28 ho hb hg hat; rw [← Ny475.out] at ho; replace HO_9 := Aside0.mk (Kd.N_afterv (ok := (fun k_ => (w.heap.size ≤ k_))) (by (with_reducible repeat (first | apply Kd.N_alloc | apply Kd.N_drewN | apply Kd.N_drew)); exact HO_9.out) hg hat); replace HB := Aside0.mk (hb); have HO477 := Aside0.mk (ho); clear HO474; clear ho hb hg hat; obtain ⟨Ao29, co29, eo29⟩ := Kd.R_slice HO477.out; subst eo29) | ((with_reducible refine gate_callee (f := 45) rfl ?_); refine gL_ (some 41) Try.func45 #[.slice A0 l0.length c0, .slice A1 l1.length c1, .slice Ao29 y475.length co29] ?_; (with_reducible refine (impl_MapOk.calls k1 _ _ l0 _ _ l1 _ _ y475 false _ (cx_ HR0 HB) HC0.out (cx_ HR1 HB) HC1.out (cc_ (Kd.R_reads' HO477.out).2.2) ((Kd.R_reads' HO477.out).2.1) A16.out).mono ?_); rintro e w30 ⟨rfl, hb⟩; refine ⟨_, rfl, ?_⟩; replace HO_9 := Aside0.mk (Kd.N_below (by (with_reducible repeat (first | apply Kd.N_alloc | apply Kd.N_drewN | apply Kd.N_drew)); exact HO_9.out) hb); replace HO477 := tR_ HO477 hb; replace HB := tB_ HB hb; (try clear hb)))
       go_roundg k1
       case measure => have := HK1.out; omega
       case rel => exact ⟨(x9_1), (wrap64 (x10_1 + 1)), eb_, H', ⟨by have := HK1.out; omega⟩, ⟨by (with_reducible repeat (first | apply Kd.N_alloc | apply Kd.N_drewN | apply Kd.N_drew)); exact Kd.N_mono HO_9.out (fun _ hk => hk.1)⟩, bl_ HB⟩
     ·rw [if_neg c15] at H
      exact absurd H (by simp)
    ·rw [if_neg c13] at H
     have c13b0 : decide (x10_1 < (l1.length : Int)) = false := decide_eq_false c13
     clear c13
     obtain rfl := Option.some.inj H
     go_wp2
     go_ret
     exact ⟨_, ea_, by (with_reducible repeat (first | apply Kd.N_alloc | apply Kd.N_drewN | apply Kd.N_drew)); exact HO_9.out, (bl_ HB).out⟩
end Go.Proofs.Ytngphdmbjenkaaa.X
namespace Go.Proofs.Ytngphdmbjenkaaa.X
open Go.RowKit Go.Proofs.YtngphdmbjenkaaaW.PrintWords Go.Proofs.YtngphdmbjenkaaaW.PrintLast Go.Proofs.YtngphdmbjenkaaaW.PrintMore
attribute [local go_sem] max2_int min2_int max_two min_two max_three min_three max_four min_four   -- for this text's walks alone
set_option linter.unusedVariables false
set_option linter.unusedSimpArgs false
def impl_MapsOf.f (k : Nat) (l0 : List (S77)) (l1 : List (S77)) : Option ((List (List (S48)))) := (impl_TreeOk.f k l0).bind fun t485 => (if t485 = true then ((impl_TreeOk.f k l1).bind fun t486 => (if t486 = true then (if (l0.length : Int) > 5 then (some (([] : List (List (S48))))) else (if (l1.length : Int) > 5 then (some (([] : List (List (S48))))) else ((impl_extended.f k l0 l1 (([(⟨0, 0⟩ : S48)] : List (S48))) 1).bind fun t496 => (some t496)))) else (some (([] : List (List (S48))))))) else (some (([] : List (List (S48))))))
set_option maxHeartbeats 8000000 in
set_option maxRecDepth 100000 in
theorem impl_MapsOf.calls (k : Nat) (A0 : Option Addr) (c0 : Nat) (l0 : List (S77)) (A1 : Option Addr) (c1 : Nat) (l1 : List (S77)) (r : List (List (S48))) (w : World) (hr0 : Kd.C k77 w A0 l0.length l0) (hc0 : l0.length ≤ c0) (hr1 : Kd.C k77 w A1 l1.length l1) (hc1 : l1.length ≤ c1) (h : impl_MapsOf.f k l0 l1 = some r) :
  Calls Try.prog 14 #[.slice A0 l0.length c0, .slice A1 l1.length c1] w fun e w' => ∃ v0_ : Value, e = .returned (v0_) ∧ Kd.N (Kd.slice 48 k48) 36 w' w.heap.size (fun k_ => (w.heap.size ≤ k_)) v0_ r ∧ Below w.heap.size w w' := by
 have hu48 := Try.underlying48
 have HR0 := Aside0.mk hr0
 have HC0 := Aside0.mk hc0
 clear hr0 hc0
 have HR1 := Aside0.mk hr1
 have HC1 := Aside0.mk hc1
 clear hr1 hc1
 have HB := Aside0.mk (Below.refl w.heap.size w)
 have H : ((impl_TreeOk.f k l0).bind fun t485 => (if t485 = true then ((impl_TreeOk.f k l1).bind fun t486 => (if t486 = true then (if (l0.length : Int) > 5 then (some (([] : List (List (S48))))) else (if (l1.length : Int) > 5 then (some (([] : List (List (S48))))) else ((impl_extended.f k l0 l1 (([(⟨0, 0⟩ : S48)] : List (S48))) 1).bind fun t496 => (some t496)))) else (some (([] : List (List (S48))))))) else (some (([] : List (List (S48))))))) = some r := h
 clear h
 replace H := Option.bind_eq_some_iff.mp H
 obtain ⟨t485, A30, H⟩ := H
 try dsimp only at H
 have A3 := Aside0.mk A30
 clear A30
 by_cases c4 : t485 = true
 ·subst c4
  have H1 : ((impl_TreeOk.f k l1).bind fun t486 => (if t486 = true then (if (l0.length : Int) > 5 then (some (([] : List (List (S48))))) else (if (l1.length : Int) > 5 then (some (([] : List (List (S48))))) else ((impl_extended.f k l0 l1 (([(⟨0, 0⟩ : S48)] : List (S48))) 1).bind fun t496 => (some t496)))) else (some (([] : List (List (S48))))))) = some r := by rw [if_pos rfl] at H; exact H
  clear H
  have H := H1
  clear H1
  replace H := Option.bind_eq_some_iff.mp H
  obtain ⟨t486, A50, H⟩ := H
  try dsimp only at H
  have A5 := Aside0.mk A50
  clear A50
  by_cases c6 : t486 = true
  ·subst c6
   have H1 : (if (l0.length : Int) > 5 then (some (([] : List (List (S48))))) else (if (l1.length : Int) > 5 then (some (([] : List (List (S48))))) else ((impl_extended.f k l0 l1 (([(⟨0, 0⟩ : S48)] : List (S48))) 1).bind fun t496 => (some t496)))) = some r := by rw [if_pos rfl] at H; exact H
   clear H
   have H := H1
   clear H1
   by_cases c7 : (l0.length : Int) > 5
   ·rw [if_pos c7] at H
    have c7b0 : decide (5 < (l0.length : Int)) = true := decide_eq_true c7
    have c7b1 : decide (5 < l0.length) = true := decide_eq_true (by omega)
    clear c7
    obtain ⟨y487, hy487⟩ : ∃ y_ : List (List (S48)), y_ = (([] : List (List (S48)))) := ⟨_, rfl⟩
    replace H : (some y487) = some r := by first | (rw [hy487]; with_reducible exact H) | (have H2_ := (Option.bind_some _ _).symm.trans H; rw [hy487]; with_reducible exact H2_) | (have H2_ := (Option.bind_some _ _).symm.trans H; with_reducible exact H2_) | with_reducible exact H | (rw [hy487]; exact H) | exact H
    have Ny487 := Aside0.mk hy487
    clear hy487
    obtain rfl := Option.some.inj H
    go_enter Try.func14, Try.ntmps14
    go_wp2_with (first | ((with_reducible refine gate_callee (f := 59) rfl ?_); refine gL_ (some 6) Try.func59 #[.slice A0 l0.length c0] ?_; (with_reducible refine (impl_TreeOk.calls k _ _ l0 true _ (cc_ HR0.out) HC0.out A3.out).mono ?_); rintro e w8 ⟨rfl, hb⟩; refine ⟨_, rfl, ?_⟩; replace HB := tB_ HB hb; (try clear hb)) | (go_at_call 59; (with_reducible refine (impl_TreeOk.calls k _ _ l1 true _ (cx_ HR1 HB) HC1.out A5.out).mono ?_); rintro e w9 ⟨rfl, hb⟩; replace HB := tB_ HB hb; (try clear hb)) | ((with_reducible refine gate_dst (N := 23) rfl ?_); (try (refine gate_guard (by rfl) ?_; dsimp only)); refine Kd.N_lit (Kd.slice 48 k48) _ 36 ?hg (N' := 23) ?hd (xs := ([] : List (List (S48)))) (inner := []) (ok := (fun k_ => (w.heap.size ≤ k_))) (okp := (fun k_ => (w.heap.size ≤ k_))) ?hr ?hp (fun _ hk => hk) ((show ∀ k_, w9.heap.size ≤ k_ → (fun k_ => (w.heap.size ≤ k_)) k_ from fun k_ hk => (Nat.le_trans (bs_ HB) hk)) _ (Nat.le_refl _)) (Below.refl _ _) (Nat.le_refl _) (by simp) ?_; (case hd => rfl); (case hg => rfl); (case hr => first | (go_simp; done) | (go_simp; rfl)); (case hp => exact (Reps.none _ _)); intro v488 w10 ho11 hb hg_ hnew_; clear hg_ hnew_; (first | rw [← Ny487.out] at ho11 | (simp only [Int.reduceToNat] at ho11; rw [← Ny487.out] at ho11)); have HO489 := Aside0.mk (Kd.N_lower ho11 (bs_ HB)); replace HB := tB_ HB hb; clear hb ho11))
    go_ret
    exact ⟨_, ea_, by (with_reducible repeat (first | apply Kd.N_alloc | apply Kd.N_drewN | apply Kd.N_drew)); exact HO489.out, (bl_ HB).out⟩
   ·rw [if_neg c7] at H
    have c7b0 : decide (5 < (l0.length : Int)) = false := decide_eq_false c7
    have c7b1 : decide (5 < l0.length) = false := decide_eq_false (by omega)
    clear c7
    by_cases c12 : (l1.length : Int) > 5
    ·rw [if_pos c12] at H
     have c12b0 : decide (5 < (l1.length : Int)) = true := decide_eq_true c12
     have c12b1 : decide (5 < l1.length) = true := decide_eq_true (by omega)
     clear c12
     obtain ⟨y490, hy490⟩ : ∃ y_ : List (List (S48)), y_ = (([] : List (List (S48)))) := ⟨_, rfl⟩
     replace H : (some y490) = some r := by first | (rw [hy490]; with_reducible exact H) | (have H2_ := (Option.bind_some _ _).symm.trans H; rw [hy490]; with_reducible exact H2_) | (have H2_ := (Option.bind_some _ _).symm.trans H; with_reducible exact H2_) | with_reducible exact H | (rw [hy490]; exact H) | exact H
     have Ny490 := Aside0.mk hy490
     clear hy490
     obtain rfl := Option.some.inj H
     go_enter Try.func14, Try.ntmps14
     go_wp2_with (first | ((with_reducible refine gate_callee (f := 59) rfl ?_); refine gL_ (some 6) Try.func59 #[.slice A0 l0.length c0] ?_; (with_reducible refine (impl_TreeOk.calls k _ _ l0 true _ (cc_ HR0.out) HC0.out A3.out).mono ?_); rintro e w13 ⟨rfl, hb⟩; refine ⟨_, rfl, ?_⟩; replace HB := tB_ HB hb; (try clear hb)) | (go_at_call 59; (with_reducible refine (impl_TreeOk.calls k _ _ l1 true _ (cx_ HR1 HB) HC1.out A5.out).mono ?_); rintro e w14 ⟨rfl, hb⟩; replace HB := tB_ HB hb; (try clear hb)) | ((with_reducible refine gate_dst (N := 23) rfl ?_); (try (refine gate_guard (by rfl) ?_; dsimp only)); refine Kd.N_lit (Kd.slice 48 k48) _ 36 ?hg (N' := 23) ?hd (xs := ([] : List (List (S48)))) (inner := []) (ok := (fun k_ => (w.heap.size ≤ k_))) (okp := (fun k_ => (w.heap.size ≤ k_))) ?hr ?hp (fun _ hk => hk) ((show ∀ k_, w14.heap.size ≤ k_ → (fun k_ => (w.heap.size ≤ k_)) k_ from fun k_ hk => (Nat.le_trans (bs_ HB) hk)) _ (Nat.le_refl _)) (Below.refl _ _) (Nat.le_refl _) (by simp) ?_; (case hd => rfl); (case hg => rfl); (case hr => first | (go_simp; done) | (go_simp; rfl)); (case hp => exact (Reps.none _ _)); intro v491 w15 ho16 hb hg_ hnew_; clear hg_ hnew_; (first | rw [← Ny490.out] at ho16 | (simp only [Int.reduceToNat] at ho16; rw [← Ny490.out] at ho16)); have HO492 := Aside0.mk (Kd.N_lower ho16 (bs_ HB)); replace HB := tB_ HB hb; clear hb ho16))
     go_ret
     exact ⟨_, ea_, by (with_reducible repeat (first | apply Kd.N_alloc | apply Kd.N_drewN | apply Kd.N_drew)); exact HO492.out, (bl_ HB).out⟩
    ·rw [if_neg c12] at H
     have c12b0 : decide (5 < (l1.length : Int)) = false := decide_eq_false c12
     have c12b1 : decide (5 < l1.length) = false := decide_eq_false (by omega)
     clear c12
     obtain ⟨y493, hy493⟩ : ∃ y_ : List (S48), y_ = (([(⟨0, 0⟩ : S48)] : List (S48))) := ⟨_, rfl⟩
     replace H : ((impl_extended.f k l0 l1 y493 1).bind fun t496 => (some t496)) = some r := by first | (rw [hy493]; with_reducible exact H) | (have H2_ := (Option.bind_some _ _).symm.trans H; rw [hy493]; with_reducible exact H2_) | (have H2_ := (Option.bind_some _ _).symm.trans H; with_reducible exact H2_) | with_reducible exact H | (rw [hy493]; exact H) | exact H
     have Ny493 := Aside0.mk hy493
     clear hy493
     replace H := Option.bind_eq_some_iff.mp H
     obtain ⟨t496, A170, H⟩ := H
     replace H : (some t496) = some r := H
     have A17 := Aside0.mk A170
     clear A170
     obtain rfl := Option.some.inj H
     go_enter Try.func14, Try.ntmps14
     go_wp2_with (first | ((with_reducible refine gate_callee (f := 59) rfl ?_); refine gL_ (some 6) Try.func59 #[.slice A0 l0.length c0] ?_; (with_reducible refine (impl_TreeOk.calls k _ _ l0 true _ (cc_ HR0.out) HC0.out A3.out).mono ?_); rintro e w18 ⟨rfl, hb⟩; refine ⟨_, rfl, ?_⟩; replace HB := tB_ HB hb; (try clear hb)) | (go_at_call 59; (with_reducible refine (impl_TreeOk.calls k _ _ l1 true _ (cx_ HR1 HB) HC1.out A5.out).mono ?_); rintro e w19 ⟨rfl, hb⟩; replace HB := tB_ HB hb; (try clear hb)) | ((with_reducible refine gate_dst (N := 27) rfl ?_); (try (refine gate_guard (by rfl) ?_; dsimp only)); refine Kd.R_lit k48 _ 48 ?hg (N := 27) ?hd (xs := ([(⟨0, 0⟩ : S48)] : List (S48))) (inner := [.int .i64 0, .int .i64 0]) (ok := fun _ => True) (okp := fun _ => True) ?hr ?hp (fun _ hk => hk) trivial (Below.refl _ _) (Nat.le_refl _) (by simp) ?_; (case hd => rfl); (case hg => rfl); (case hr => first | (go_simp; done) | (go_simp; rfl)); (case hp => exact (Reps.c2 (show Kd.M k48 _ _ _ (⟨0, 0⟩ : S48) [.int .i64 0, .int .i64 0] from (k48_mkM _ _ _ (⟨0, 0⟩ : S48) )) (Reps.none _ _))); intro v494 w20 ho21 hb hg_ hnew_; clear hg_ hnew_; (first | rw [← Ny493.out] at ho21 | (simp only [Int.reduceToNat] at ho21; rw [← Ny493.out] at ho21)); have HO495 := Aside0.mk (Kd.R_lower (Kd.R_newM (M := fun k_ => (w.heap.size ≤ k_)) ho21 (bs_ HB) (fun k_ h_ => h_)) (bs_ HB)); replace HB := tB_ HB hb; clear hb ho21; obtain ⟨Ao22, co22, eo22⟩ := Kd.R_slice HO495.out; subst eo22) | ((with_reducible refine gate_callee (f := 60) rfl ?_); refine gL_ (some 28) Try.func60 #[.slice A0 l0.length c0, .slice A1 l1.length c1, .slice Ao22 y493.length co22, .int .i64 1] ?_; (with_reducible refine (impl_extended.calls k _ _ l0 _ _ l1 _ _ y493 1 t496 _ (cx_ HR0 HB) HC0.out (cx_ HR1 HB) HC1.out (cc_ (Kd.R_reads' HO495.out).2.2) ((Kd.R_reads' HO495.out).2.1) A17.out).mono ?_); rintro e w23 ⟨v497, rfl, ho0, hb⟩; refine ⟨_, rfl, ?_⟩; have HO498 := Aside0.mk (Kd.N_lower (Kd.N_mono (ok' := fun k_ => (w.heap.size ≤ k_) ∧ some k_ ≠ (.slice Ao22 y493.length co22 : Value).ownBlock) ho0 (fun k_ hk_ => ⟨(Nat.le_trans (bs_ HB) hk_), (Kd.fresh' (Kd.R_lt (rx_ HO495.out)) k_ hk_)⟩)) (bs_ HB)); replace HO495 := tR_ HO495 hb; replace HB := tB_ HB hb; (try clear hb); (try clear ho0)))
     go_ret
     exact ⟨_, ea_, by (with_reducible repeat (first | apply Kd.N_alloc | apply Kd.N_drewN | apply Kd.N_drew)); exact Kd.N_mono HO498.out (fun _ hk => hk.1), (bl_ HB).out⟩
  ·replace c6 := Bool.eq_false_iff.mpr c6
   subst c6
   have H1 : (some (([] : List (List (S48))))) = some r := by rw [if_neg (show ¬ (false = true) by decide)] at H; exact H
   clear H
   have H := H1
   clear H1
   obtain ⟨y499, hy499⟩ : ∃ y_ : List (List (S48)), y_ = (([] : List (List (S48)))) := ⟨_, rfl⟩
   replace H : (some y499) = some r := by first | (rw [hy499]; with_reducible exact H) | (have H2_ := (Option.bind_some _ _).symm.trans H; rw [hy499]; with_reducible exact H2_) | (have H2_ := (Option.bind_some _ _).symm.trans H; with_reducible exact H2_) | with_reducible exact H | (rw [hy499]; exact H) | exact H
   have Ny499 := Aside0.mk hy499
   clear hy499
   obtain rfl := Option.some.inj H
   go_enter Try.func14, Try.ntmps14
   go_wp2_with (first | ((with_reducible refine gate_callee (f := 59) rfl ?_); refine gL_ (some 6) Try.func59 #[.slice A0 l0.length c0] ?_; (with_reducible refine (impl_TreeOk.calls k _ _ l0 true _ (cc_ HR0.out) HC0.out A3.out).mono ?_); rintro e w24 ⟨rfl, hb⟩; refine ⟨_, rfl, ?_⟩; replace HB := tB_ HB hb; (try clear hb)) | (go_at_call 59; (with_reducible refine (impl_TreeOk.calls k _ _ l1 false _ (cx_ HR1 HB) HC1.out A5.out).mono ?_); rintro e w25 ⟨rfl, hb⟩; replace HB := tB_ HB hb; (try clear hb)) | ((with_reducible refine gate_dst (N := 23) rfl ?_); (try (refine gate_guard (by rfl) ?_; dsimp only)); refine Kd.N_lit (Kd.slice 48 k48) _ 36 ?hg (N' := 23) ?hd (xs := ([] : List (List (S48)))) (inner := []) (ok := (fun k_ => (w.heap.size ≤ k_))) (okp := (fun k_ => (w.heap.size ≤ k_))) ?hr ?hp (fun _ hk => hk) ((show ∀ k_, w25.heap.size ≤ k_ → (fun k_ => (w.heap.size ≤ k_)) k_ from fun k_ hk => (Nat.le_trans (bs_ HB) hk)) _ (Nat.le_refl _)) (Below.refl _ _) (Nat.le_refl _) (by simp) ?_; (case hd => rfl); (case hg => rfl); (case hr => first | (go_simp; done) | (go_simp; rfl)); (case hp => exact (Reps.none _ _)); intro v500 w26 ho27 hb hg_ hnew_; clear hg_ hnew_; (first | rw [← Ny499.out] at ho27 | (simp only [Int.reduceToNat] at ho27; rw [← Ny499.out] at ho27)); have HO501 := Aside0.mk (Kd.N_lower ho27 (bs_ HB)); replace HB := tB_ HB hb; clear hb ho27))
   go_ret
   exact ⟨_, ea_, by (with_reducible repeat (first | apply Kd.N_alloc | apply Kd.N_drewN | apply Kd.N_drew)); exact HO501.out, (bl_ HB).out⟩
 ·replace c4 := Bool.eq_false_iff.mpr c4
  subst c4
  have H1 : (some (([] : List (List (S48))))) = some r := by rw [if_neg (show ¬ (false = true) by decide)] at H; exact H
  clear H
  have H := H1
  clear H1
  obtain ⟨y502, hy502⟩ : ∃ y_ : List (List (S48)), y_ = (([] : List (List (S48)))) := ⟨_, rfl⟩
  replace H : (some y502) = some r := by first | (rw [hy502]; with_reducible exact H) | (have H2_ := (Option.bind_some _ _).symm.trans H; rw [hy502]; with_reducible exact H2_) | (have H2_ := (Option.bind_some _ _).symm.trans H; with_reducible exact H2_) | with_reducible exact H | (rw [hy502]; exact H) | exact H
  have Ny502 := Aside0.mk hy502
  clear hy502
  obtain rfl := Option.some.inj H
  go_enter Try.func14, Try.ntmps14
  go_wp2_with (first | ((with_reducible refine gate_callee (f := 59) rfl ?_); refine gL_ (some 6) Try.func59 #[.slice A0 l0.length c0] ?_; (with_reducible refine (impl_TreeOk.calls k _ _ l0 false _ (cc_ HR0.out) HC0.out A3.out).mono ?_); rintro e w28 ⟨rfl, hb⟩; refine ⟨_, rfl, ?_⟩; replace HB := tB_ HB hb; (try clear hb)) | ((with_reducible refine gate_dst (N := 23) rfl ?_); (try (refine gate_guard (by rfl) ?_; dsimp only)); refine Kd.N_lit (Kd.slice 48 k48) _ 36 ?hg (N' := 23) ?hd (xs := ([] : List (List (S48)))) (inner := []) (ok := (fun k_ => (w.heap.size ≤ k_))) (okp := (fun k_ => (w.heap.size ≤ k_))) ?hr ?hp (fun _ hk => hk) ((show ∀ k_, w28.heap.size ≤ k_ → (fun k_ => (w.heap.size ≤ k_)) k_ from fun k_ hk => (Nat.le_trans (bs_ HB) hk)) _ (Nat.le_refl _)) (Below.refl _ _) (Nat.le_refl _) (by simp) ?_; (case hd => rfl); (case hg => rfl); (case hr => first | (go_simp; done) | (go_simp; rfl)); (case hp => exact (Reps.none _ _)); intro v503 w29 ho30 hb hg_ hnew_; clear hg_ hnew_; (first | rw [← Ny502.out] at ho30 | (simp only [Int.reduceToNat] at ho30; rw [← Ny502.out] at ho30)); have HO504 := Aside0.mk (Kd.N_lower ho30 (bs_ HB)); replace HB := tB_ HB hb; clear hb ho30))
  go_ret
  exact ⟨_, ea_, by (with_reducible repeat (first | apply Kd.N_alloc | apply Kd.N_drewN | apply Kd.N_drew)); exact HO504.out, (bl_ HB).out⟩
end Go.Proofs.Ytngphdmbjenkaaa.X
namespace Go.Proofs.Ytngphdmbjenkaaa.X
open Go.RowKit Go.Proofs.YtngphdmbjenkaaaW.PrintWords Go.Proofs.YtngphdmbjenkaaaW.PrintLast Go.Proofs.YtngphdmbjenkaaaW.PrintMore
attribute [local go_sem] max2_int min2_int max_two min_two max_three min_three max_four min_four   -- for this text's walks alone
set_option linter.unusedVariables false
set_option linter.unusedSimpArgs false
def impl_LeastCost.l0 : Nat → List (S77) → List (S77) → Int → List (List (S48)) → Int → Int → List Int → List Int → List Int → Option (Int)
 | 0, _, _, _, _, _, _, _, _, _ => none
 | k + 1, x0, x1, x7, x13, x14, x15, x516000, x516001, x516002 => if x15 < x14 then (if 0 ≤ x15 then (if x15 < (x13.length : Int) then ((impl_MapCost.f k x0 x1 x516000 x516001 x516002 (rd_L4 x13 x15)).bind fun t520 => (if x7 < 0 then (impl_LeastCost.l0 k x0 x1 t520 x13 x14 (wrap64 (x15 + 1)) x516000 x516001 x516002) else (if t520 < x7 then (impl_LeastCost.l0 k x0 x1 t520 x13 x14 (wrap64 (x15 + 1)) x516000 x516001 x516002) else (impl_LeastCost.l0 k x0 x1 x7 x13 x14 (wrap64 (x15 + 1)) x516000 x516001 x516002)))) else (none)) else (none)) else (some x7)
def impl_LeastCost.f (k : Nat) (l0 : List (S77)) (l1 : List (S77)) (l2_0 : List Int) (l2_1 : List Int) (l2_2 : List Int) : Option (Int) := (impl_MapsOf.f k l0 l1).bind fun t516 => (impl_LeastCost.l0 k l0 l1 (-1) t516 (t516.length : Int) 0 l2_0 l2_1 l2_2)
set_option maxHeartbeats 8000000 in
set_option maxRecDepth 100000 in
theorem impl_LeastCost.calls (k : Nat) (A0 : Option Addr) (c0 : Nat) (l0 : List (S77)) (A1 : Option Addr) (c1 : Nat) (l1 : List (S77)) (A2_0 : Option Addr) (c2_0 : Nat) (l2_0 : List Int) (A2_1 : Option Addr) (c2_1 : Nat) (l2_1 : List Int) (A2_2 : Option Addr) (c2_2 : Nat) (l2_2 : List Int) (r : Int) (w : World) (hr0 : Kd.C k77 w A0 l0.length l0) (hc0 : l0.length ≤ c0) (hr1 : Kd.C k77 w A1 l1.length l1) (hc1 : l1.length ≤ c1) (hr2_0 : Kd.C (Kd.int .i64) w A2_0 l2_0.length l2_0) (hc2_0 : l2_0.length ≤ c2_0) (hr2_1 : Kd.C (Kd.int .i64) w A2_1 l2_1.length l2_1) (hc2_1 : l2_1.length ≤ c2_1) (hr2_2 : Kd.C (Kd.int .i64) w A2_2 l2_2.length l2_2) (hc2_2 : l2_2.length ≤ c2_2) (h : impl_LeastCost.f k l0 l1 l2_0 l2_1 l2_2 = some r) :
  Calls Try.prog 15 #[.slice A0 l0.length c0, .slice A1 l1.length c1, .agg #[.slice A2_0 l2_0.length c2_0, .slice A2_1 l2_1.length c2_1, .slice A2_2 l2_2.length c2_2]] w fun e w' => e = .returned (.int .i64 r) ∧ Below w.heap.size w w' := by
 have hu27 := Try.underlying27
 have HR0 := Aside0.mk hr0
 have HC0 := Aside0.mk hc0
 clear hr0 hc0
 have HR1 := Aside0.mk hr1
 have HC1 := Aside0.mk hc1
 clear hr1 hc1
 have HR2_0 := Aside0.mk hr2_0
 have HC2_0 := Aside0.mk hc2_0
 clear hr2_0 hc2_0
 have HR2_1 := Aside0.mk hr2_1
 have HC2_1 := Aside0.mk hc2_1
 clear hr2_1 hc2_1
 have HR2_2 := Aside0.mk hr2_2
 have HC2_2 := Aside0.mk hc2_2
 clear hr2_2 hc2_2
 have HB := Aside0.mk (Below.refl w.heap.size w)
 have H : ((impl_MapsOf.f k l0 l1).bind fun t516 => (impl_LeastCost.l0 k l0 l1 (-1) t516 (t516.length : Int) 0 l2_0 l2_1 l2_2)) = some r := h
 clear h
 replace H := Option.bind_eq_some_iff.mp H
 obtain ⟨t516, A40, H⟩ := H
 replace H : (impl_LeastCost.l0 k l0 l1 (-1) t516 (t516.length : Int) 0 l2_0 l2_1 l2_2) = some r := H
 have A4 := Aside0.mk A40
 clear A40
 have H' := Aside0.mk H
 clear H
 go_enter Try.func15, Try.ntmps15
 go_wp2_with (first | ((with_reducible refine gate_dst (N := 5) rfl ?_); refine bx_ 5 #[.slice A2_0 l2_0.length c2_0, .slice A2_1 l2_1.length c2_1, .slice A2_2 l2_2.length c2_2] 27 ?_; intro gb515 hg w5 hbox hb; have BK515 := Aside0.mk (hbox); have GW515 := Aside0.mk ((by rw [hg]; exact (bs_ HB) : w.heap.size ≤ gb515)); have GE515 := Aside0.mk ((by rw [hg]; exact (bs_ HB) : w.heap.size ≤ gb515)); replace HB := tB_ HB hb; clear hb hbox hg) | ((with_reducible refine gate_callee (f := 14) rfl ?_); refine gL_ (some 13) Try.func14 #[.slice A0 l0.length c0, .slice A1 l1.length c1] ?_; (with_reducible refine (impl_MapsOf.calls k _ _ l0 _ _ l1 t516 _ (cx_ HR0 HB) HC0.out (cx_ HR1 HB) HC1.out A4.out).mono ?_); rintro e w6 ⟨v517, rfl, ho0, hb⟩; refine ⟨_, rfl, ?_⟩; have HO518 := Aside0.mk (Kd.N_lower (Kd.N_mono (ok' := fun k_ => k_ ≠ gb515) ho0 (fun k_ hk_ => (Kd.freshB (g := gb515) (o := .cells #[.slice A2_0 l2_0.length c2_0, .slice A2_1 l2_1.length c2_1, .slice A2_2 l2_2.length c2_2] 27 (0, 0)) (kx_ BK515.out) k_ hk_))) (bs_ HB)); replace BK515 := tK_ BK515 hb; replace HB := tB_ HB hb; (try clear hb); (try clear ho0); obtain ⟨Ao7, co7, eo7⟩ := Kd.N_slice HO518.out; subst eo7))
 go_loopg [7, 15] k (fun kq v7 v15 w' => ∃ (x7_1 : Int) (x15_1 : Int), v7 = .int .i64 x7_1 ∧ v15 = .int .i64 x15_1 ∧ Aside0 (impl_LeastCost.l0 kq l0 l1 x7_1 t516 (t516.length : Int) x15_1 l2_0 l2_1 l2_2 = some r) ∧ Aside0 (kq ≤ k) ∧ Aside0 (Kd.N (Kd.slice 48 k48) 36 w' w.heap.size (fun k_ => k_ ≠ gb515) (.slice Ao7 t516.length co7) t516) ∧ Aside0 (w'.heap[gb515]? = some (.cells #[(.slice A2_0 l2_0.length c2_0), (.slice A2_1 l2_1.length c2_1), (.slice A2_2 l2_2.length c2_2)] 27 (0, 0))) ∧ Aside0 (Below w.heap.size w w'))
 case atStart => exact ⟨((-1)), (0), eb_, eb_, H', ⟨Nat.le_refl _⟩, ⟨by (with_reducible repeat (first | apply Kd.N_alloc | apply Kd.N_drewN | apply Kd.N_drew)); exact HO518.out⟩, ⟨kx_ BK515.out⟩, bl_ HB⟩
 case round =>
  clear H'
  try clear c1
  try clear c2
  try clear p2
  obtain ⟨x7_1, x15_1, rfl, rfl, HA, HK1, HO_13, BK515, HB⟩ := hrel
  cases gk with
  | zero => exact absurd HA.out (by simp [impl_LeastCost.l0])
  | succ k1 =>
   have H := HA.out
   clear HA
   simp only [impl_LeastCost.l0] at H
   by_cases c8 : x15_1 < (t516.length : Int)
   ·rw [if_pos c8] at H
    have c8b0 : decide (x15_1 < (t516.length : Int)) = true := decide_eq_true c8
    clear c8
    by_cases c9 : 0 ≤ x15_1
    ·rw [if_pos c9] at H
     have c9b0 : decide (0 ≤ x15_1) = true := decide_eq_true c9
     clear c9
     by_cases c10 : x15_1 < (t516.length : Int)
     ·rw [if_pos c10] at H
      have c10b0 : decide (x15_1 < (t516.length : Int)) = true := decide_eq_true c10
      clear c10
      replace H := Option.bind_eq_some_iff.mp H
      obtain ⟨t520, A110, H⟩ := H
      try dsimp only at H
      have A11 := Aside0.mk A110
      clear A110
      by_cases c12 : x7_1 < 0
      ·rw [if_pos c12] at H
       have c12b0 : decide (x7_1 < 0) = true := decide_eq_true c12
       clear c12
       have H' := Aside0.mk H
       clear H
       have p519 : 0 ≤ (x15_1 : Int) := od_
       have q519 : x15_1 < (t516.length : Int) := od_
       obtain ⟨ad519, A519_0, c519_0, e519, hx519_0, hl519_0, hi519_0⟩ := at_L4 (Kd.N_reads' HO_13.out).2.2 x15_1 p519 q519
       cases e519
       obtain ⟨ce519, hce519, hMe519, hcc519⟩ := Kd.N_get HO_13.out [] x15_1 p519 (by first | exact q519 | exact od_ | (have e_ := (Kd.N_reads' HO_13.out).1; omega))
       obtain ⟨ua519_0, uc519_0, rfl, ul519_0, ge519_0⟩ := Kd.FK_slice_open hMe519
       have hv519_0 := hcc519 0 _ rfl
       rw [Nat.add_zero, show ((Kd.slice 48 k48)).sz = 1 from rfl, Nat.mul_one] at hv519_0
       replace hv519_0 := Option.some.inj (hv519_0.symm.trans hx519_0)
       injection hv519_0 with hva_ hvn_ hvc_
       rw [hva_] at ge519_0
       rw [hvc_] at ul519_0
       have HL519_0 := Aside0.mk (show Kd.V k48 48 _ w.heap.size _ _ (rd_L4 t516 x15_1) from Kd.V_mk ul519_0 ge519_0)
       clear hva_ hvn_ hvc_ ge519_0 ul519_0
       clear hcc519 hce519
       have HR519_0 := Aside0.mk hi519_0
       have HC519_0 := Aside0.mk hl519_0
       clear hi519_0 hl519_0
       replace p519 := eq_true p519
       replace q519 := eq_true q519
       have hcz13_0 : wr.cell? ⟨gb515, 0, none⟩ = some (.slice A2_0 l2_0.length c2_0) := (blk_cell BK515.out 0).trans rfl
       have hcz13_1 : wr.cell? ⟨gb515, 1, none⟩ = some (.slice A2_1 l2_1.length c2_1) := (blk_cell BK515.out 1).trans rfl
       have hcz13_2 : wr.cell? ⟨gb515, 2, none⟩ = some (.slice A2_2 l2_2.length c2_2) := (blk_cell BK515.out 2).trans rfl
       have hfz13_0 := blk_frozen BK515.out 0
       have hfz13_1 := blk_frozen BK515.out 1
       have hfz13_2 := blk_frozen BK515.out 2
       go_wp2_with (first | ((with_reducible refine gate_callee (f := 19) rfl ?_); refine gL_ (some 23) Try.func19 #[.slice A0 l0.length c0, .slice A1 l1.length c1, .agg #[.slice A2_0 l2_0.length c2_0, .slice A2_1 l2_1.length c2_1, .slice A2_2 l2_2.length c2_2], .slice A519_0 (rd_L4 t516 x15_1).length c519_0] ?_; (with_reducible refine (impl_MapCost.calls k1 _ _ l0 _ _ l1 _ _ l2_0 _ _ l2_1 _ _ l2_2 _ _ (rd_L4 t516 x15_1) t520 _ (cx_ HR0 HB) HC0.out (cx_ HR1 HB) HC1.out (cx_ HR2_0 HB) HC2_0.out (cx_ HR2_1 HB) HC2_1.out (cx_ HR2_2 HB) HC2_2.out (cc_ (by repeat (first | (with_reducible exact HR519_0.out) | (with_reducible refine Kd.C_alloc ?_ _) | (with_reducible refine Kd.C_drewN ?_ _) | (with_reducible refine Kd.C_drew ?_) | exact HR519_0.out))) HC519_0.out A11.out).mono ?_); rintro e w14 ⟨rfl, hb⟩; refine ⟨_, rfl, ?_⟩; replace HO_13 := Aside0.mk (Kd.N_below (by (with_reducible repeat (first | apply Kd.N_alloc | apply Kd.N_drewN | apply Kd.N_drew)); exact HO_13.out) hb); replace HL519_0 := Aside0.mk (Kd.V_below (by (with_reducible repeat (first | apply Kd.V_alloc | apply Kd.V_drewN | apply Kd.V_drew)); exact HL519_0.out) hb); replace BK515 := tK_ BK515 hb; replace HR519_0 := Aside0.mk (Kd.C_below (by repeat (first | (with_reducible exact HR519_0.out) | (with_reducible refine Kd.C_alloc ?_ _) | (with_reducible refine Kd.C_drewN ?_ _) | (with_reducible refine Kd.C_drew ?_) | exact HR519_0.out)) hb); replace HB := tB_ HB hb; (try clear hb)))
       go_roundg k1
       case measure => have := HK1.out; omega
       case rel => exact ⟨(t520), (wrap64 (x15_1 + 1)), eb_, eb_, H', ⟨by have := HK1.out; omega⟩, ⟨by (with_reducible repeat (first | apply Kd.N_alloc | apply Kd.N_drewN | apply Kd.N_drew)); exact HO_13.out⟩, ⟨kx_ BK515.out⟩, bl_ HB⟩
      ·rw [if_neg c12] at H
       have c12b0 : decide (x7_1 < 0) = false := decide_eq_false c12
       clear c12
       by_cases c15 : t520 < x7_1
       ·rw [if_pos c15] at H
        have c15b0 : decide (t520 < x7_1) = true := decide_eq_true c15
        clear c15
        have H' := Aside0.mk H
        clear H
        have p519 : 0 ≤ (x15_1 : Int) := od_
        have q519 : x15_1 < (t516.length : Int) := od_
        obtain ⟨ad519, A519_0, c519_0, e519, hx519_0, hl519_0, hi519_0⟩ := at_L4 (Kd.N_reads' HO_13.out).2.2 x15_1 p519 q519
        cases e519
        obtain ⟨ce519, hce519, hMe519, hcc519⟩ := Kd.N_get HO_13.out [] x15_1 p519 (by first | exact q519 | exact od_ | (have e_ := (Kd.N_reads' HO_13.out).1; omega))
        obtain ⟨ua519_0, uc519_0, rfl, ul519_0, ge519_0⟩ := Kd.FK_slice_open hMe519
        have hv519_0 := hcc519 0 _ rfl
        rw [Nat.add_zero, show ((Kd.slice 48 k48)).sz = 1 from rfl, Nat.mul_one] at hv519_0
        replace hv519_0 := Option.some.inj (hv519_0.symm.trans hx519_0)
        injection hv519_0 with hva_ hvn_ hvc_
        rw [hva_] at ge519_0
        rw [hvc_] at ul519_0
        have HL519_0 := Aside0.mk (show Kd.V k48 48 _ w.heap.size _ _ (rd_L4 t516 x15_1) from Kd.V_mk ul519_0 ge519_0)
        clear hva_ hvn_ hvc_ ge519_0 ul519_0
        clear hcc519 hce519
        have HR519_0 := Aside0.mk hi519_0
        have HC519_0 := Aside0.mk hl519_0
        clear hi519_0 hl519_0
        replace p519 := eq_true p519
        replace q519 := eq_true q519
        have hcz16_0 : wr.cell? ⟨gb515, 0, none⟩ = some (.slice A2_0 l2_0.length c2_0) := (blk_cell BK515.out 0).trans rfl
        have hcz16_1 : wr.cell? ⟨gb515, 1, none⟩ = some (.slice A2_1 l2_1.length c2_1) := (blk_cell BK515.out 1).trans rfl
        have hcz16_2 : wr.cell? ⟨gb515, 2, none⟩ = some (.slice A2_2 l2_2.length c2_2) := (blk_cell BK515.out 2).trans rfl
        have hfz16_0 := blk_frozen BK515.out 0
        have hfz16_1 := blk_frozen BK515.out 1
        have hfz16_2 := blk_frozen BK515.out 2
        go_wp2_with (first | ((with_reducible refine gate_callee (f := 19) rfl ?_); refine gL_ (some 23) Try.func19 #[.slice A0 l0.length c0, .slice A1 l1.length c1, .agg #[.slice A2_0 l2_0.length c2_0, .slice A2_1 l2_1.length c2_1, .slice A2_2 l2_2.length c2_2], .slice A519_0 (rd_L4 t516 x15_1).length c519_0] ?_; (with_reducible refine (impl_MapCost.calls k1 _ _ l0 _ _ l1 _ _ l2_0 _ _ l2_1 _ _ l2_2 _ _ (rd_L4 t516 x15_1) t520 _ (cx_ HR0 HB) HC0.out (cx_ HR1 HB) HC1.out (cx_ HR2_0 HB) HC2_0.out (cx_ HR2_1 HB) HC2_1.out (cx_ HR2_2 HB) HC2_2.out (cc_ (by repeat (first | (with_reducible exact HR519_0.out) | (with_reducible refine Kd.C_alloc ?_ _) | (with_reducible refine Kd.C_drewN ?_ _) | (with_reducible refine Kd.C_drew ?_) | exact HR519_0.out))) HC519_0.out A11.out).mono ?_); rintro e w17 ⟨rfl, hb⟩; refine ⟨_, rfl, ?_⟩; replace HO_13 := Aside0.mk (Kd.N_below (by (with_reducible repeat (first | apply Kd.N_alloc | apply Kd.N_drewN | apply Kd.N_drew)); exact HO_13.out) hb); replace HL519_0 := Aside0.mk (Kd.V_below (by (with_reducible repeat (first | apply Kd.V_alloc | apply Kd.V_drewN | apply Kd.V_drew)); exact HL519_0.out) hb); replace BK515 := tK_ BK515 hb; replace HR519_0 := Aside0.mk (Kd.C_below (by repeat (first | (with_reducible exact HR519_0.out) | (with_reducible refine Kd.C_alloc ?_ _) | (with_reducible refine Kd.C_drewN ?_ _) | (with_reducible refine Kd.C_drew ?_) | exact HR519_0.out)) hb); replace HB := tB_ HB hb; (try clear hb)))
        go_roundg k1
        case measure => have := HK1.out; omega
        case rel => exact ⟨(t520), (wrap64 (x15_1 + 1)), eb_, eb_, H', ⟨by have := HK1.out; omega⟩, ⟨by (with_reducible repeat (first | apply Kd.N_alloc | apply Kd.N_drewN | apply Kd.N_drew)); exact HO_13.out⟩, ⟨kx_ BK515.out⟩, bl_ HB⟩
       ·rw [if_neg c15] at H
        have c15b0 : decide (t520 < x7_1) = false := decide_eq_false c15
        clear c15
        have H' := Aside0.mk H
        clear H
        have p519 : 0 ≤ (x15_1 : Int) := od_
        have q519 : x15_1 < (t516.length : Int) := od_
        obtain ⟨ad519, A519_0, c519_0, e519, hx519_0, hl519_0, hi519_0⟩ := at_L4 (Kd.N_reads' HO_13.out).2.2 x15_1 p519 q519
        cases e519
        obtain ⟨ce519, hce519, hMe519, hcc519⟩ := Kd.N_get HO_13.out [] x15_1 p519 (by first | exact q519 | exact od_ | (have e_ := (Kd.N_reads' HO_13.out).1; omega))
        obtain ⟨ua519_0, uc519_0, rfl, ul519_0, ge519_0⟩ := Kd.FK_slice_open hMe519
        have hv519_0 := hcc519 0 _ rfl
        rw [Nat.add_zero, show ((Kd.slice 48 k48)).sz = 1 from rfl, Nat.mul_one] at hv519_0
        replace hv519_0 := Option.some.inj (hv519_0.symm.trans hx519_0)
        injection hv519_0 with hva_ hvn_ hvc_
        rw [hva_] at ge519_0
        rw [hvc_] at ul519_0
        have HL519_0 := Aside0.mk (show Kd.V k48 48 _ w.heap.size _ _ (rd_L4 t516 x15_1) from Kd.V_mk ul519_0 ge519_0)
        clear hva_ hvn_ hvc_ ge519_0 ul519_0
        clear hcc519 hce519
        have HR519_0 := Aside0.mk hi519_0
        have HC519_0 := Aside0.mk hl519_0
        clear hi519_0 hl519_0
        replace p519 := eq_true p519
        replace q519 := eq_true q519
        have hcz18_0 : wr.cell? ⟨gb515, 0, none⟩ = some (.slice A2_0 l2_0.length c2_0) := (blk_cell BK515.out 0).trans rfl
        have hcz18_1 : wr.cell? ⟨gb515, 1, none⟩ = some (.slice A2_1 l2_1.length c2_1) := (blk_cell BK515.out 1).trans rfl
        have hcz18_2 : wr.cell? ⟨gb515, 2, none⟩ = some (.slice A2_2 l2_2.length c2_2) := (blk_cell BK515.out 2).trans rfl
        have hfz18_0 := blk_frozen BK515.out 0
        have hfz18_1 := blk_frozen BK515.out 1
        have hfz18_2 := blk_frozen BK515.out 2
        go_wp2_with (first | ((with_reducible refine gate_callee (f := 19) rfl ?_); refine gL_ (some 23) Try.func19 #[.slice A0 l0.length c0, .slice A1 l1.length c1, .agg #[.slice A2_0 l2_0.length c2_0, .slice A2_1 l2_1.length c2_1, .slice A2_2 l2_2.length c2_2], .slice A519_0 (rd_L4 t516 x15_1).length c519_0] ?_; (with_reducible refine (impl_MapCost.calls k1 _ _ l0 _ _ l1 _ _ l2_0 _ _ l2_1 _ _ l2_2 _ _ (rd_L4 t516 x15_1) t520 _ (cx_ HR0 HB) HC0.out (cx_ HR1 HB) HC1.out (cx_ HR2_0 HB) HC2_0.out (cx_ HR2_1 HB) HC2_1.out (cx_ HR2_2 HB) HC2_2.out (cc_ (by repeat (first | (with_reducible exact HR519_0.out) | (with_reducible refine Kd.C_alloc ?_ _) | (with_reducible refine Kd.C_drewN ?_ _) | (with_reducible refine Kd.C_drew ?_) | exact HR519_0.out))) HC519_0.out A11.out).mono ?_); rintro e w19 ⟨rfl, hb⟩; refine ⟨_, rfl, ?_⟩; replace HO_13 := Aside0.mk (Kd.N_below (by (with_reducible repeat (first | apply Kd.N_alloc | apply Kd.N_drewN | apply Kd.N_drew)); exact HO_13.out) hb); replace HL519_0 := Aside0.mk (Kd.V_below (by (with_reducible repeat (first | apply Kd.V_alloc | apply Kd.V_drewN | apply Kd.V_drew)); exact HL519_0.out) hb); replace BK515 := tK_ BK515 hb; replace HR519_0 := Aside0.mk (Kd.C_below (by repeat (first | (with_reducible exact HR519_0.out) | (with_reducible refine Kd.C_alloc ?_ _) | (with_reducible refine Kd.C_drewN ?_ _) | (with_reducible refine Kd.C_drew ?_) | exact HR519_0.out)) hb); replace HB := tB_ HB hb; (try clear hb)))
        go_roundg k1
        case measure => have := HK1.out; omega
        case rel => exact ⟨(x7_1), (wrap64 (x15_1 + 1)), eb_, eb_, H', ⟨by have := HK1.out; omega⟩, ⟨by (with_reducible repeat (first | apply Kd.N_alloc | apply Kd.N_drewN | apply Kd.N_drew)); exact HO_13.out⟩, ⟨kx_ BK515.out⟩, bl_ HB⟩
     ·rw [if_neg c10] at H
      exact absurd H (by simp)
    ·rw [if_neg c9] at H
     exact absurd H (by simp)
   ·rw [if_neg c8] at H
    have c8b0 : decide (x15_1 < (t516.length : Int)) = false := decide_eq_false c8
    clear c8
    obtain rfl := Option.some.inj H
    go_wp2
    go_ret
    exact ⟨ea_, (bl_ HB).out⟩
end Go.Proofs.Ytngphdmbjenkaaa.X
