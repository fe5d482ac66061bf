/- Part 6 of the proof of FnApplied: what it needs. -/
import Derived.Test.YtbifdckfglejkaaKLApplied4
import Derived.Test.YtbifdckfglejkaaKLApplied5
namespace Go.Proofs.Ytbifdckfglejkaa.X
open Go.RowKit Go.Proofs.YtbifdckfglejkaaW.PrintWords Go.Proofs.YtbifdckfglejkaaW.PrintLast Go.Proofs.YtbifdckfglejkaaW.PrintMore
attribute [local go_sem] max2_int min2_int max_two min_two max_three min_three max_four min_four   -- for this text's walks alone
set_option linter.unusedVariables false
set_option linter.unusedSimpArgs false
mutual
def spec_l3Any.l0 : Nat → List (S90) → List Int → Int → Int → Option ((List (S90)) × Int × Int)
 | 0, _, _, _, _ => none
 | k + 1, x5, x1000, x1001, x1002 => (spec_l1Below.f x1000 x1001 x1002 2).bind fun bt1321 => (if (x5.length : Int) < (wrap64 (24 + bt1321.1)) then (if x5.length < 8796093022208 then (spec_l3Any.l0 k (x5 ++ [(⟨1, 1⟩ : S90)]) x1000 bt1321.2.1 bt1321.2.2) else (none)) else (some (x5, bt1321.2.1, bt1321.2.2)))
def spec_l3Any.l1 : Nat → List (S90) → List Int → Int → Int → Option ((List (S90)) × Int × Int)
 | 0, _, _, _, _ => none
 | k + 1, x5, x1000, x1001, x1002 => (spec_l1Below.f x1000 x1001 x1002 2).bind fun bt1330 => (if (x5.length : Int) < (wrap64 (13 + bt1330.1)) then (if x5.length < 8796093022208 then (spec_l3Any.l1 k (x5 ++ [(⟨0, (x5.length : Int)⟩ : S90)]) x1000 bt1330.2.1 bt1330.2.2) else (none)) else (some (x5, bt1330.2.1, bt1330.2.2)))
end
def spec_l3Any.f (k : Nat) (s0_0 : List Int) (s0_1 : Int) (s0_2 : Int) (a1 : Int) : Option ((List (S90)) × Int × Int) := (spec_l3Tree.f k s0_0 s0_1 s0_2 a1).bind fun bt1295 => ((spec_l1Below.f s0_0 bt1295.2.1 bt1295.2.2 (bt1295.1.length : Int)).bind fun bt1300 => ((spec_l1Below.f s0_0 bt1300.2.1 bt1300.2.2 18).bind fun bt1303 => (if bt1303.1 = 0 then ((spec_l2Any.f s0_0 bt1303.2.1 bt1303.2.2).bind fun bt1306 => (if 0 ≤ bt1300.1 then (if bt1300.1 < (bt1295.1.length : Int) then (some ((bt1295.1.set (bt1300.1 : Int).toNat (⟨bt1306.1, (rd_T90 bt1295.1 bt1300.1).f1⟩ : S90)), bt1306.2.1, bt1306.2.2)) else (none)) else (none))) else (if bt1303.1 = 1 then (if 0 ≤ bt1300.1 then (if bt1300.1 < (bt1295.1.length : Int) then ((spec_l1PickInt.f s0_0 bt1303.2.1 bt1303.2.2 (([(-1), 0, 1, 13, wrap64 (((rd_T90 bt1295.1 bt1300.1).f1) + 1)] : List Int))).bind fun bt1314 => (some ((bt1295.1.set (bt1300.1 : Int).toNat (⟨(rd_T90 bt1295.1 bt1300.1).f0, bt1314.1⟩ : S90)), bt1314.2.1, bt1314.2.2))) else (none)) else (none)) else (if bt1303.1 = 2 then (if 1 ≤ (bt1295.1.length : Int) then (some ((bt1295.1.drop (1 : Int).toNat), bt1303.2.1, bt1303.2.2)) else (none)) else (if bt1303.1 = 3 then (spec_l3Any.l0 k bt1295.1 s0_0 bt1303.2.1 bt1303.2.2) else (if bt1303.1 = 4 then (spec_l3Any.l1 k (([(⟨0, 0⟩ : S90)] : List (S90))) s0_0 bt1303.2.1 bt1303.2.2) else (some (bt1295.1, bt1303.2.1, bt1303.2.2)))))))))
set_option maxHeartbeats 8000000 in
set_option maxRecDepth 100000 in
theorem spec_l3Any.calls (k : Nat) (g : Nat) (s0_0 : List Int) (s0_1 : Int) (s0_2 : Int) (a1 : Int) (r1 : List (S90)) (r2 : Int) (r3 : Int) (w0 w : World) (hI : IsS152 w0 w g s0_0 s0_1 s0_2) (hB : Below w0.heap.size w0 w) (h : spec_l3Any.f k s0_0 s0_1 s0_2 a1 = some (r1, r2, r3)) :
  Calls Try.prog 112 #[.pointer (some ⟨g, 0, none⟩), .int .i64 a1] w fun e w' => ∃ v0_ : Value, e = .returned (v0_) ∧ Kd.Q k90 90 w' w.heap.size (fun _ => True) v0_ r1 ∧ IsS152 w0 w' g s0_0 r2 r3 ∧ Below w0.heap.size w0 w' ∧ KeepBut w w' g none := by
 have hu90 := Try.underlying90
 have HI0 := Aside0.mk hI
 have HK := Aside0.mk (KeepBut.refl w g none)
 have HL := Aside0.mk hB.size
 clear hI
 have HW0 := Aside0.mk hB.size
 have HB := Aside0.mk hB
 clear hB
 have H : ((spec_l3Tree.f k s0_0 s0_1 s0_2 a1).bind fun bt1295 => ((spec_l1Below.f s0_0 bt1295.2.1 bt1295.2.2 (bt1295.1.length : Int)).bind fun bt1300 => ((spec_l1Below.f s0_0 bt1300.2.1 bt1300.2.2 18).bind fun bt1303 => (if bt1303.1 = 0 then ((spec_l2Any.f s0_0 bt1303.2.1 bt1303.2.2).bind fun bt1306 => (if 0 ≤ bt1300.1 then (if bt1300.1 < (bt1295.1.length : Int) then (some ((bt1295.1.set (bt1300.1 : Int).toNat (⟨bt1306.1, (rd_T90 bt1295.1 bt1300.1).f1⟩ : S90)), bt1306.2.1, bt1306.2.2)) else (none)) else (none))) else (if bt1303.1 = 1 then (if 0 ≤ bt1300.1 then (if bt1300.1 < (bt1295.1.length : Int) then ((spec_l1PickInt.f s0_0 bt1303.2.1 bt1303.2.2 (([(-1), 0, 1, 13, wrap64 (((rd_T90 bt1295.1 bt1300.1).f1) + 1)] : List Int))).bind fun bt1314 => (some ((bt1295.1.set (bt1300.1 : Int).toNat (⟨(rd_T90 bt1295.1 bt1300.1).f0, bt1314.1⟩ : S90)), bt1314.2.1, bt1314.2.2))) else (none)) else (none)) else (if bt1303.1 = 2 then (if 1 ≤ (bt1295.1.length : Int) then (some ((bt1295.1.drop (1 : Int).toNat), bt1303.2.1, bt1303.2.2)) else (none)) else (if bt1303.1 = 3 then (spec_l3Any.l0 k bt1295.1 s0_0 bt1303.2.1 bt1303.2.2) else (if bt1303.1 = 4 then (spec_l3Any.l1 k (([(⟨0, 0⟩ : S90)] : List (S90))) s0_0 bt1303.2.1 bt1303.2.2) else (some (bt1295.1, bt1303.2.1, bt1303.2.2)))))))))) = some (r1, r2, r3) := h
 clear h
 replace H := Option.bind_eq_some_iff.mp H
 obtain ⟨⟨t1295, t1298, t1299⟩, A30, H⟩ := H
 try dsimp only at H
 have A3 := Aside0.mk A30
 clear A30
 replace H := Option.bind_eq_some_iff.mp H
 obtain ⟨⟨t1300, t1301, t1302⟩, A40, H⟩ := H
 try dsimp only at H
 have A4 := Aside0.mk A40
 clear A40
 replace H := Option.bind_eq_some_iff.mp H
 obtain ⟨⟨t1303, t1304, t1305⟩, A50, H⟩ := H
 try dsimp only at H
 have A5 := Aside0.mk A50
 clear A50
 by_cases c6 : t1303 = 0
 ·rw [if_pos c6] at H
  have c6b0 : (t1303 == 0) = true := beq_iff_eq.mpr c6
  have c6b1 : (t1303 != 0) = false := bne_eq_false_iff_eq.mpr c6
  clear c6
  replace H := Option.bind_eq_some_iff.mp H
  obtain ⟨⟨t1306, t1307, t1308⟩, A70, H⟩ := H
  try dsimp only at H
  have A7 := Aside0.mk A70
  clear A70
  by_cases c8 : 0 ≤ t1300
  ·rw [if_pos c8] at H
   have c8b0 : decide (0 ≤ t1300) = true := decide_eq_true c8
   clear c8
   by_cases c9 : t1300 < (t1295.length : Int)
   ·rw [if_pos c9] at H
    have c9b0 : decide (t1300 < (t1295.length : Int)) = true := decide_eq_true c9
    clear c9
    obtain ⟨y1309, hy1309⟩ : ∃ y_ : List (S90), y_ = (t1295.set (t1300 : Int).toNat (⟨t1306, (rd_T90 t1295 t1300).f1⟩ : S90)) := ⟨_, rfl⟩
    replace H : (some (y1309, t1307, t1308)) = some (r1, r2, r3) := by first | (rw [hy1309]; with_reducible exact H) | (have H2_ := (Option.bind_some _ _).symm.trans H; rw [hy1309]; with_reducible exact H2_) | (have H2_ := (Option.bind_some _ _).symm.trans H; with_reducible exact H2_) | with_reducible exact H | (rw [hy1309]; exact H) | exact H
    have Ny1309 := Aside0.mk hy1309
    clear hy1309
    simp only [Option.some.injEq, Prod.mk.injEq] at H
    obtain ⟨rfl, rfl, rfl⟩ := H
    go_enter Try.func112, Try.ntmps112
    go_wp2_with (first | ((with_reducible refine gate_callee (f := 134) rfl ?_); refine gL_ (some 9) Try.func134 #[.pointer (some ⟨g, 0, none⟩), .int .i64 a1] ?_; (with_reducible refine (spec_l3Tree.calls k g s0_0 s0_1 s0_2 a1 t1295 t1298 t1299 w0 _ ?side1 ?side2 A3.out).mono ?_); (case side1 => repeat (first | (with_reducible first | exact HI0.out | apply IsS152.alloc | apply IsS152.drewN | apply IsS152.drew | apply IsS152.set_1 | apply IsS152.set_2) | exact HI0.out)); (case side2 => repeat (first | (with_reducible first | exact HB.out | apply below_alloc | apply pw_below_drewN | apply below_drew1 | refine below_set ?_ (IsS152.ge HI0.out)) | exact HB.out)); rintro e w11 ⟨v1296, rfl, ho0, hi, hb, hk⟩; refine ⟨_, rfl, ?_⟩; have HO1297 := Aside0.mk (Kd.R_lower ho0 (keep_size (w := w) (g := g) (row := none) (by repeat (first | (with_reducible first | exact HK.out | apply KeepBut.set_ | apply keep_drewN | apply keep_drew | apply keep_alloc) | exact HK.out)))); replace HK := Aside0.mk (KeepBut.trans (by repeat (first | (with_reducible first | exact HK.out | apply KeepBut.set_ | apply keep_drewN | apply keep_drew | apply keep_alloc) | exact HK.out)) hk (.inl rfl)); replace HB := Aside0.mk (hb); replace HI0 := Aside0.mk (hi); (try clear hb); (try clear hk); (try clear hi); (try clear ho0); obtain ⟨Ao12, co12, eo12⟩ := Kd.R_slice HO1297.out; subst eo12) | ((with_reducible refine gate_callee (f := 135) rfl ?_); refine gL_ (some 13) Try.func135 #[.pointer (some ⟨g, 0, none⟩), .int .i64 (t1295.length : Int)] ?_; (with_reducible refine (spec_l1Below.calls g s0_0 t1298 t1299 (t1295.length : Int) t1300 t1301 t1302 w0 _ ?side1 ?side2 A4.out).mono ?_); (case side1 => repeat (first | (with_reducible first | exact HI0.out | apply IsS152.alloc | apply IsS152.drewN | apply IsS152.drew | apply IsS152.set_1 | apply IsS152.set_2) | exact HI0.out)); (case side2 => repeat (first | (with_reducible first | exact HB.out | apply below_alloc | apply pw_below_drewN | apply below_drew1 | refine below_set ?_ (IsS152.ge HI0.out)) | exact HB.out)); rintro e w13 ⟨rfl, hi, hb, hk⟩; refine ⟨_, rfl, ?_⟩; replace HO1297 := Aside0.mk (Kd.R_mono (Kd.R_keep (IsS152.apart (show IsS152 w0 _ g s0_0 t1298 t1299 from by repeat (first | (with_reducible first | exact HI0.out | apply IsS152.alloc | apply IsS152.drewN | apply IsS152.drew | apply IsS152.set_1 | apply IsS152.set_2) | exact HI0.out)) (rx_ HO1297.out) (by decide)) hk (fun _ h => h.2)) (fun _ h => h.1)); replace HK := Aside0.mk (KeepBut.trans (by repeat (first | (with_reducible first | exact HK.out | apply KeepBut.set_ | apply keep_drewN | apply keep_drew | apply keep_alloc) | exact HK.out)) hk (.inl rfl)); replace HB := Aside0.mk (hb); replace HI0 := Aside0.mk (hi); (try clear hb); (try clear hk); (try clear hi)) | ((with_reducible refine gate_callee (f := 135) rfl ?_); refine gL_ (some 15) Try.func135 #[.pointer (some ⟨g, 0, none⟩), .int .i64 18] ?_; (with_reducible refine (spec_l1Below.calls g s0_0 t1301 t1302 18 t1303 t1304 t1305 w0 _ ?side1 ?side2 A5.out).mono ?_); (case side1 => repeat (first | (with_reducible first | exact HI0.out | apply IsS152.alloc | apply IsS152.drewN | apply IsS152.drew | apply IsS152.set_1 | apply IsS152.set_2) | exact HI0.out)); (case side2 => repeat (first | (with_reducible first | exact HB.out | apply below_alloc | apply pw_below_drewN | apply below_drew1 | refine below_set ?_ (IsS152.ge HI0.out)) | exact HB.out)); rintro e w14 ⟨rfl, hi, hb, hk⟩; refine ⟨_, rfl, ?_⟩; replace HO1297 := Aside0.mk (Kd.R_mono (Kd.R_keep (IsS152.apart (show IsS152 w0 _ g s0_0 t1301 t1302 from by repeat (first | (with_reducible first | exact HI0.out | apply IsS152.alloc | apply IsS152.drewN | apply IsS152.drew | apply IsS152.set_1 | apply IsS152.set_2) | exact HI0.out)) (rx_ HO1297.out) (by decide)) hk (fun _ h => h.2)) (fun _ h => h.1)); replace HK := Aside0.mk (KeepBut.trans (by repeat (first | (with_reducible first | exact HK.out | apply KeepBut.set_ | apply keep_drewN | apply keep_drew | apply keep_alloc) | exact HK.out)) hk (.inl rfl)); replace HB := Aside0.mk (hb); replace HI0 := Aside0.mk (hi); (try clear hb); (try clear hk); (try clear hi)) | ((with_reducible refine gate_callee (f := 136) rfl ?_); refine gL_ (some 21) Try.func136 #[.pointer (some ⟨g, 0, none⟩)] ?_; (with_reducible refine (spec_l2Any.calls g s0_0 t1304 t1305 t1306 t1307 t1308 w0 _ ?side1 ?side2 A7.out).mono ?_); (case side1 => repeat (first | (with_reducible first | exact HI0.out | apply IsS152.alloc | apply IsS152.drewN | apply IsS152.drew | apply IsS152.set_1 | apply IsS152.set_2) | exact HI0.out)); (case side2 => repeat (first | (with_reducible first | exact HB.out | apply below_alloc | apply pw_below_drewN | apply below_drew1 | refine below_set ?_ (IsS152.ge HI0.out)) | exact HB.out)); rintro e w15 ⟨rfl, hi, hb, hk⟩; refine ⟨_, rfl, ?_⟩; replace HO1297 := Aside0.mk (Kd.R_mono (Kd.R_keep (IsS152.apart (show IsS152 w0 _ g s0_0 t1304 t1305 from by repeat (first | (with_reducible first | exact HI0.out | apply IsS152.alloc | apply IsS152.drewN | apply IsS152.drew | apply IsS152.set_1 | apply IsS152.set_2) | exact HI0.out)) (rx_ HO1297.out) (by decide)) hk (fun _ h => h.2)) (fun _ h => h.1)); replace HK := Aside0.mk (KeepBut.trans (by repeat (first | (with_reducible first | exact HK.out | apply KeepBut.set_ | apply keep_drewN | apply keep_drew | apply keep_alloc) | exact HK.out)) hk (.inl rfl)); replace HB := Aside0.mk (hb); replace HI0 := Aside0.mk (hi); (try clear hb); (try clear hk); (try clear hi); have p10 : 0 ≤ (t1300 : Int) := od_; have q10 : (t1300 : Int) < ((t1295.length : Int) : Int) := od_; obtain ⟨go10, co10, eo10, gb10, gl10, cl10, HG10⟩ := Kd.R_form HO1297.out (by omega); (first | cases eo10 | (injection eo10 with ea_ en_ ec_; (first | subst ea_ | (injection ea_ with ea_; subst ea_)); subst ec_; clear en_)); have GB10 := Aside0.mk gb10; have GG10 := Aside0.mk HG10; clear gb10 gl10 HG10; obtain ⟨ce10, hcl10, hM10, hcc10, hfr10⟩ := Kd.R_elem HO1297.out z90 (t1300 : Int) p10 q10; obtain rfl := k90_openM hM10; have hx10_0 : w15.cell? ⟨go10, (t1300 : Int).toNat * 2, none⟩ = some (.int .i64 ((rd_T90 t1295 t1300).f0)) := hcc10 0 _ rfl; have hx10_1 : w15.cell? ⟨go10, (t1300 : Int).toNat * 2 + 1, none⟩ = some (.int .i64 ((rd_T90 t1295 t1300).f1)) := hcc10 1 _ rfl; have hf10_0 : w15.frozen? ⟨go10, (t1300 : Int).toNat * 2, none⟩ = false := hfr10 0; have hf10_1 : w15.frozen? ⟨go10, (t1300 : Int).toNat * 2 + 1, none⟩ = false := hfr10 1; clear hcl10 hcc10 hfr10 hM10; replace p10 := eq_true p10; replace q10 := eq_true q10; have HX16 := Aside0.mk (show Kd.R k90 90 w15 w.heap.size (fun _ => True) (.slice (some ⟨go10, 0, none⟩) t1295.length co12) t1295 from (rx_ HO1297.out)); obtain ⟨ce16, hcl16, hM16, hcc16, hfr16⟩ := Kd.R_elem HX16.out z90 (t1300 : Int) (od_) (by have h_ : (t1300 : Int) < ((t1295.length : Int) : Int) := od_; first | exact h_ | (have e_ := (Kd.R_reads' HO1297.out).1; omega) | simpa using h_); obtain rfl := k90_openM hM16; have HP16 := Kd.R_seg HX16.out (t1300 : Int) (od_) (by have h_ : (t1300 : Int) < ((t1295.length : Int) : Int) := od_; first | exact h_ | (have e_ := (Kd.R_reads' HO1297.out).1; omega) | simpa using h_) (seg := [.int .i64 t1306]) (j := 0) hcl16 hcc16 (show 1 ≤ 2 from by decide) (x' := (⟨t1306, (rd_T90 t1295 t1300).f1⟩ : S90)) (k90_mkM _ _ _ (⟨t1306, (rd_T90 t1295 t1300).f1⟩ : S90) ) (fun _ hk => hk); have hx16_0 := hcc16 0 _ rfl; (try simp only [show (k90).sz = 2 from rfl, Nat.mul_one, Nat.add_zero] at hx16_0); have hf16_0 := hfr16 0; (try simp only [show (k90).sz = 2 from rfl, Nat.mul_one, Nat.add_zero] at hf16_0); clear hcl16 hcc16 hfr16 hM16) | ((with_reducible refine gate_store (t := 3) (p := 23) rfl ?_); refine store_event (t := 3) (p := 23) (v := ?vo_w17) (w1 := (w15.setCell ⟨go10, (t1300 : Int).toNat * 2, none⟩ (.int .i64 t1306))) ?hg ?ho ?hn ?hr ?_; (case ho => rfl); (case hg => rfl); (case hn => rfl); (case hr => first | (go_simp; done) | (go_simp; rfl)); intro w17 hw; have hg : w15.grownBy w17 (some go10) := (by rw [hw]; exact HP16.2); have hp_ : Kd.R k90 90 w17 w.heap.size (fun _ => True) (.slice (some ⟨go10, 0, none⟩) t1295.length co12) y1309 := (by rw [hw, Ny1309.out]; exact HP16.1); clear HP16; replace HI0 := Aside0.mk (IsS152.grown (by repeat (first | (with_reducible first | exact HI0.out | apply IsS152.alloc | apply IsS152.drewN | apply IsS152.drew | apply IsS152.set_1 | apply IsS152.set_2) | exact HI0.out)) hg (IsS152.own_ne HI0.out HO1297.out (by decide))); replace HB := Aside0.mk ((by rw [hw]; exact below_set (HB.out) (Nat.le_trans HL.out GB10.out) : Below w0.heap.size w0 w17)); replace HK := Aside0.mk (KeepBut.trans (by repeat (first | (with_reducible first | exact HK.out | apply KeepBut.set_ | apply keep_drewN | apply keep_drew | apply keep_alloc) | exact HK.out)) (KeepBut.of_grown hg g) (Kd.R_base2 HO1297.out)); replace HO1297 := Aside0.mk (hp_); clear hg hw hp_))
    go_ret
    exact ⟨_, ea_, Kd.Q_of_R (rx_ HO1297.out), by repeat (first | (with_reducible first | exact HI0.out | apply IsS152.alloc | apply IsS152.drewN | apply IsS152.drew | apply IsS152.set_1 | apply IsS152.set_2) | exact HI0.out), by repeat (first | (with_reducible first | exact HB.out | apply below_alloc | apply pw_below_drewN | apply below_drew1 | refine below_set ?_ (IsS152.ge HI0.out)) | exact HB.out), by repeat (first | (with_reducible first | exact HK.out | apply KeepBut.set_ | apply keep_drewN | apply keep_drew | apply keep_alloc) | exact HK.out)⟩
   ·rw [if_neg c9] at H
    exact absurd H (by simp)
  ·rw [if_neg c8] at H
   exact absurd H (by simp)
 ·rw [if_neg c6] at H
  have c6b0 : (t1303 == 0) = false := beq_eq_false_iff_ne.mpr c6
  have c6b1 : (t1303 != 0) = true := bne_iff_ne.mpr c6
  by_cases c18 : t1303 = 1
  ·rw [if_pos c18] at H
   have c18b0 : (t1303 == 1) = true := beq_iff_eq.mpr c18
   have c18b1 : (t1303 != 1) = false := bne_eq_false_iff_eq.mpr c18
   clear c18
   by_cases c19 : 0 ≤ t1300
   ·rw [if_pos c19] at H
    have c19b0 : decide (0 ≤ t1300) = true := decide_eq_true c19
    clear c19
    by_cases c20 : t1300 < (t1295.length : Int)
    ·rw [if_pos c20] at H
     have c20b0 : decide (t1300 < (t1295.length : Int)) = true := decide_eq_true c20
     clear c20
     obtain ⟨y1311, hy1311⟩ : ∃ y_ : List Int, y_ = (([(-1), 0, 1, 13, wrap64 (((rd_T90 t1295 t1300).f1) + 1)] : List Int)) := ⟨_, rfl⟩
     replace H : ((spec_l1PickInt.f s0_0 t1304 t1305 y1311).bind fun bt1314 => (some ((t1295.set (t1300 : Int).toNat (⟨(rd_T90 t1295 t1300).f0, bt1314.1⟩ : S90)), bt1314.2.1, bt1314.2.2))) = some (r1, r2, r3) := by first | (rw [hy1311]; with_reducible exact H) | (have H2_ := (Option.bind_some _ _).symm.trans H; rw [hy1311]; with_reducible exact H2_) | (have H2_ := (Option.bind_some _ _).symm.trans H; with_reducible exact H2_) | with_reducible exact H | (rw [hy1311]; exact H) | exact H
     have Ny1311 := Aside0.mk hy1311
     clear hy1311
     replace H := Option.bind_eq_some_iff.mp H
     obtain ⟨⟨t1314, t1315, t1316⟩, A210, H⟩ := H
     try dsimp only at H
     have A21 := Aside0.mk A210
     clear A210
     obtain ⟨y1317, hy1317⟩ : ∃ y_ : List (S90), y_ = (t1295.set (t1300 : Int).toNat (⟨(rd_T90 t1295 t1300).f0, t1314⟩ : S90)) := ⟨_, rfl⟩
     replace H : (some (y1317, t1315, t1316)) = some (r1, r2, r3) := by first | (rw [hy1317]; with_reducible exact H) | (have H2_ := (Option.bind_some _ _).symm.trans H; rw [hy1317]; with_reducible exact H2_) | (have H2_ := (Option.bind_some _ _).symm.trans H; with_reducible exact H2_) | with_reducible exact H | (rw [hy1317]; exact H) | exact H
     have Ny1317 := Aside0.mk hy1317
     clear hy1317
     simp only [Option.some.injEq, Prod.mk.injEq] at H
     obtain ⟨rfl, rfl, rfl⟩ := H
     go_enter Try.func112, Try.ntmps112
     go_wp2_with (first | ((with_reducible refine gate_callee (f := 134) rfl ?_); refine gL_ (some 9) Try.func134 #[.pointer (some ⟨g, 0, none⟩), .int .i64 a1] ?_; (with_reducible refine (spec_l3Tree.calls k g s0_0 s0_1 s0_2 a1 t1295 t1298 t1299 w0 _ ?side1 ?side2 A3.out).mono ?_); (case side1 => repeat (first | (with_reducible first | exact HI0.out | apply IsS152.alloc | apply IsS152.drewN | apply IsS152.drew | apply IsS152.set_1 | apply IsS152.set_2) | exact HI0.out)); (case side2 => repeat (first | (with_reducible first | exact HB.out | apply below_alloc | apply pw_below_drewN | apply below_drew1 | refine below_set ?_ (IsS152.ge HI0.out)) | exact HB.out)); rintro e w23 ⟨v1296, rfl, ho0, hi, hb, hk⟩; refine ⟨_, rfl, ?_⟩; have HO1297 := Aside0.mk (Kd.R_lower ho0 (keep_size (w := w) (g := g) (row := none) (by repeat (first | (with_reducible first | exact HK.out | apply KeepBut.set_ | apply keep_drewN | apply keep_drew | apply keep_alloc) | exact HK.out)))); replace HK := Aside0.mk (KeepBut.trans (by repeat (first | (with_reducible first | exact HK.out | apply KeepBut.set_ | apply keep_drewN | apply keep_drew | apply keep_alloc) | exact HK.out)) hk (.inl rfl)); replace HB := Aside0.mk (hb); replace HI0 := Aside0.mk (hi); (try clear hb); (try clear hk); (try clear hi); (try clear ho0); obtain ⟨Ao24, co24, eo24⟩ := Kd.R_slice HO1297.out; subst eo24) | ((with_reducible refine gate_callee (f := 135) rfl ?_); refine gL_ (some 13) Try.func135 #[.pointer (some ⟨g, 0, none⟩), .int .i64 (t1295.length : Int)] ?_; (with_reducible refine (spec_l1Below.calls g s0_0 t1298 t1299 (t1295.length : Int) t1300 t1301 t1302 w0 _ ?side1 ?side2 A4.out).mono ?_); (case side1 => repeat (first | (with_reducible first | exact HI0.out | apply IsS152.alloc | apply IsS152.drewN | apply IsS152.drew | apply IsS152.set_1 | apply IsS152.set_2) | exact HI0.out)); (case side2 => repeat (first | (with_reducible first | exact HB.out | apply below_alloc | apply pw_below_drewN | apply below_drew1 | refine below_set ?_ (IsS152.ge HI0.out)) | exact HB.out)); rintro e w25 ⟨rfl, hi, hb, hk⟩; refine ⟨_, rfl, ?_⟩; replace HO1297 := Aside0.mk (Kd.R_mono (Kd.R_keep (IsS152.apart (show IsS152 w0 _ g s0_0 t1298 t1299 from by repeat (first | (with_reducible first | exact HI0.out | apply IsS152.alloc | apply IsS152.drewN | apply IsS152.drew | apply IsS152.set_1 | apply IsS152.set_2) | exact HI0.out)) (rx_ HO1297.out) (by decide)) hk (fun _ h => h.2)) (fun _ h => h.1)); replace HK := Aside0.mk (KeepBut.trans (by repeat (first | (with_reducible first | exact HK.out | apply KeepBut.set_ | apply keep_drewN | apply keep_drew | apply keep_alloc) | exact HK.out)) hk (.inl rfl)); replace HB := Aside0.mk (hb); replace HI0 := Aside0.mk (hi); (try clear hb); (try clear hk); (try clear hi)) | ((with_reducible refine gate_callee (f := 135) rfl ?_); refine gL_ (some 15) Try.func135 #[.pointer (some ⟨g, 0, none⟩), .int .i64 18] ?_; (with_reducible refine (spec_l1Below.calls g s0_0 t1301 t1302 18 t1303 t1304 t1305 w0 _ ?side1 ?side2 A5.out).mono ?_); (case side1 => repeat (first | (with_reducible first | exact HI0.out | apply IsS152.alloc | apply IsS152.drewN | apply IsS152.drew | apply IsS152.set_1 | apply IsS152.set_2) | exact HI0.out)); (case side2 => repeat (first | (with_reducible first | exact HB.out | apply below_alloc | apply pw_below_drewN | apply below_drew1 | refine below_set ?_ (IsS152.ge HI0.out)) | exact HB.out)); rintro e w26 ⟨rfl, hi, hb, hk⟩; refine ⟨_, rfl, ?_⟩; replace HO1297 := Aside0.mk (Kd.R_mono (Kd.R_keep (IsS152.apart (show IsS152 w0 _ g s0_0 t1301 t1302 from by repeat (first | (with_reducible first | exact HI0.out | apply IsS152.alloc | apply IsS152.drewN | apply IsS152.drew | apply IsS152.set_1 | apply IsS152.set_2) | exact HI0.out)) (rx_ HO1297.out) (by decide)) hk (fun _ h => h.2)) (fun _ h => h.1)); replace HK := Aside0.mk (KeepBut.trans (by repeat (first | (with_reducible first | exact HK.out | apply KeepBut.set_ | apply keep_drewN | apply keep_drew | apply keep_alloc) | exact HK.out)) hk (.inl rfl)); replace HB := Aside0.mk (hb); replace HI0 := Aside0.mk (hi); (try clear hb); (try clear hk); (try clear hi); have p1310 : 0 ≤ (t1300 : Int) := od_; have q1310 : t1300 < (t1295.length : Int) := od_; obtain ⟨ad1310, e1310, hx1310_0, hx1310_1⟩ := at_T90 (Kd.R_reads' HO1297.out).2.2 t1300 p1310 q1310; cases e1310; replace p1310 := eq_true p1310; replace q1310 := eq_true q1310) | ((with_reducible refine gate_dst (N := 35) rfl ?_); refine Kd.R_lit (Kd.int .i64) _ 3 ?hg (N := 35) ?hd (xs := ([(-1), 0, 1, 13, wrap64 (((rd_T90 t1295 t1300).f1) + 1)] : List Int)) (inner := [.int .i64 (-1), .int .i64 0, .int .i64 1, .int .i64 13, .int .i64 (wrap64 (((rd_T90 t1295 t1300).f1) + 1))]) (ok := fun _ => True) (okp := fun _ => True) ?hr ?hp (fun _ hk => hk) trivial (Below.refl _ _) (Nat.le_refl _) (by simp) ?_; (case hd => rfl); (case hg => rfl); (case hr => first | (go_simp; done) | (go_simp; rfl)); (case hp => exact (Reps.one (show Kd.M (Kd.int .i64) _ _ _ (-1) [.int .i64 (-1)] from rfl) (Reps.one (show Kd.M (Kd.int .i64) _ _ _ 0 [.int .i64 0] from rfl) (Reps.one (show Kd.M (Kd.int .i64) _ _ _ 1 [.int .i64 1] from rfl) (Reps.one (show Kd.M (Kd.int .i64) _ _ _ 13 [.int .i64 13] from rfl) (Reps.one (show Kd.M (Kd.int .i64) _ _ _ (wrap64 (((rd_T90 t1295 t1300).f1) + 1)) [.int .i64 (wrap64 (((rd_T90 t1295 t1300).f1) + 1))] from rfl) (Reps.none _ _))))))); intro v1312 w27 ho28 hb hg_ hnew_; clear hg_ hnew_; (first | rw [← Ny1311.out] at ho28 | (simp only [Int.reduceToNat] at ho28; rw [← Ny1311.out] at ho28)); replace HO1297 := tR_ HO1297 hb; have HO1313 := Aside0.mk (Kd.R_lower ho28 (keep_size (w := w) (g := g) (row := none) (by repeat (first | (with_reducible first | exact HK.out | apply KeepBut.set_ | apply keep_drewN | apply keep_drew | apply keep_alloc) | exact HK.out)))); replace HK := Aside0.mk (KeepBut.trans (by repeat (first | (with_reducible first | exact HK.out | apply KeepBut.set_ | apply keep_drewN | apply keep_drew | apply keep_alloc) | exact HK.out)) (KeepBut.of_below hb g none) (.inl rfl)); replace HB := Aside0.mk (below_step (by repeat (first | (with_reducible first | exact HB.out | apply below_alloc | apply pw_below_drewN | apply below_drew1 | refine below_set ?_ (IsS152.ge HI0.out)) | exact HB.out)) hb); replace HI0 := Aside0.mk (IsS152.below (by repeat (first | (with_reducible first | exact HI0.out | apply IsS152.alloc | apply IsS152.drewN | apply IsS152.drew | apply IsS152.set_1 | apply IsS152.set_2) | exact HI0.out)) hb); clear hb ho28; obtain ⟨Ao29, co29, eo29⟩ := Kd.R_slice HO1313.out; subst eo29) | ((with_reducible refine gate_callee (f := 137) rfl ?_); refine gL_ (some 36) Try.func137 #[.pointer (some ⟨g, 0, none⟩), .slice Ao29 y1311.length co29] ?_; (with_reducible refine (spec_l1PickInt.calls g s0_0 t1304 t1305 _ _ y1311 t1314 t1315 t1316 w0 _ ?side1 ?side2 ?side3 ?side4 ?side5 A21.out).mono ?_); (case side1 => repeat (first | (with_reducible first | exact HI0.out | apply IsS152.alloc | apply IsS152.drewN | apply IsS152.drew | apply IsS152.set_1 | apply IsS152.set_2) | exact HI0.out)); (case side2 => repeat (first | (with_reducible first | exact HB.out | apply below_alloc | apply pw_below_drewN | apply below_drew1 | refine below_set ?_ (IsS152.ge HI0.out)) | exact HB.out)); (case side3 => exact cc_ (Kd.R_reads' HO1313.out).2.2); (case side4 => exact (Kd.R_reads' HO1313.out).2.1); (case side5 => exact far_slice (IsS152.own_ne HI0.out HO1313.out (by decide))); rintro e w30 ⟨rfl, hi, hb, hk⟩; refine ⟨_, rfl, ?_⟩; replace HO1297 := Aside0.mk (Kd.R_mono (Kd.R_keep (IsS152.apart (show IsS152 w0 _ g s0_0 t1304 t1305 from by repeat (first | (with_reducible first | exact HI0.out | apply IsS152.alloc | apply IsS152.drewN | apply IsS152.drew | apply IsS152.set_1 | apply IsS152.set_2) | exact HI0.out)) (rx_ HO1297.out) (by decide)) hk (fun _ h => h.2)) (fun _ h => h.1)); replace HO1313 := Aside0.mk (Kd.R_mono (Kd.R_keep (IsS152.apart (show IsS152 w0 _ g s0_0 t1304 t1305 from by repeat (first | (with_reducible first | exact HI0.out | apply IsS152.alloc | apply IsS152.drewN | apply IsS152.drew | apply IsS152.set_1 | apply IsS152.set_2) | exact HI0.out)) (rx_ HO1313.out) (by decide)) hk (fun _ h => h.2)) (fun _ h => h.1)); replace HK := Aside0.mk (KeepBut.trans (by repeat (first | (with_reducible first | exact HK.out | apply KeepBut.set_ | apply keep_drewN | apply keep_drew | apply keep_alloc) | exact HK.out)) hk (.inl rfl)); replace HB := Aside0.mk (hb); replace HI0 := Aside0.mk (hi); (try clear hb); (try clear hk); (try clear hi); have p22 : 0 ≤ (t1300 : Int) := od_; have q22 : (t1300 : Int) < ((t1295.length : Int) : Int) := od_; obtain ⟨go22, co22, eo22, gb22, gl22, cl22, HG22⟩ := Kd.R_form HO1297.out (by omega); (first | cases eo22 | (injection eo22 with ea_ en_ ec_; (first | subst ea_ | (injection ea_ with ea_; subst ea_)); subst ec_; clear en_)); have GB22 := Aside0.mk gb22; have GG22 := Aside0.mk HG22; clear gb22 gl22 HG22; (first | simp only [add_plain] at hx1310_0 | skip); (first | simp only [add_plain] at hx1310_1 | skip); obtain ⟨ce22, hcl22, hM22, hcc22, hfr22⟩ := Kd.R_elem HO1297.out z90 (t1300 : Int) p22 q22; obtain rfl := k90_openM hM22; have hx22_0 : w30.cell? ⟨go22, (t1300 : Int).toNat * 2, none⟩ = some (.int .i64 ((rd_T90 t1295 t1300).f0)) := hcc22 0 _ rfl; have hx22_1 : w30.cell? ⟨go22, (t1300 : Int).toNat * 2 + 1, none⟩ = some (.int .i64 ((rd_T90 t1295 t1300).f1)) := hcc22 1 _ rfl; have hf22_0 : w30.frozen? ⟨go22, (t1300 : Int).toNat * 2, none⟩ = false := hfr22 0; have hf22_1 : w30.frozen? ⟨go22, (t1300 : Int).toNat * 2 + 1, none⟩ = false := hfr22 1; clear hcl22 hcc22 hfr22 hM22; replace p22 := eq_true p22; replace q22 := eq_true q22; have HX31 := Aside0.mk (show Kd.R k90 90 w30 w.heap.size (fun _ => True) (.slice (some ⟨go22, 0, none⟩) t1295.length co24) t1295 from (rx_ HO1297.out)); obtain ⟨ce31, hcl31, hM31, hcc31, hfr31⟩ := Kd.R_elem HX31.out z90 (t1300 : Int) (od_) (by have h_ : (t1300 : Int) < ((t1295.length : Int) : Int) := od_; first | exact h_ | (have e_ := (Kd.R_reads' HO1297.out).1; omega) | simpa using h_); obtain rfl := k90_openM hM31; have HP31 := Kd.R_seg HX31.out (t1300 : Int) (od_) (by have h_ : (t1300 : Int) < ((t1295.length : Int) : Int) := od_; first | exact h_ | (have e_ := (Kd.R_reads' HO1297.out).1; omega) | simpa using h_) (seg := [.int .i64 t1314]) (j := 1) hcl31 hcc31 (show 2 ≤ 2 from by decide) (x' := (⟨(rd_T90 t1295 t1300).f0, t1314⟩ : S90)) (k90_mkM _ _ _ (⟨(rd_T90 t1295 t1300).f0, t1314⟩ : S90) ) (fun _ hk => hk); have hx31_1 := hcc31 1 _ rfl; (try simp only [show (k90).sz = 2 from rfl, Nat.mul_one, Nat.add_zero] at hx31_1); have hf31_1 := hfr31 1; (try simp only [show (k90).sz = 2 from rfl, Nat.mul_one, Nat.add_zero] at hf31_1); clear hcl31 hcc31 hfr31 hM31) | ((with_reducible refine gate_store (t := 3) (p := 38) rfl ?_); refine store_event (t := 3) (p := 38) (v := ?vo_w32) (w1 := (w30.setCell ⟨go22, (t1300 : Int).toNat * 2 + 1, none⟩ (.int .i64 t1314))) ?hg ?ho ?hn ?hr ?_; (case ho => rfl); (case hg => rfl); (case hn => rfl); (case hr => first | (go_simp; done) | (go_simp; rfl)); intro w32 hw; have hg : w30.grownBy w32 (some go22) := (by rw [hw]; exact HP31.2); have hp_ : Kd.R k90 90 w32 w.heap.size (fun _ => True) (.slice (some ⟨go22, 0, none⟩) t1295.length co24) y1317 := (by rw [hw, Ny1317.out]; exact HP31.1); clear HP31; replace HI0 := Aside0.mk (IsS152.grown (by repeat (first | (with_reducible first | exact HI0.out | apply IsS152.alloc | apply IsS152.drewN | apply IsS152.drew | apply IsS152.set_1 | apply IsS152.set_2) | exact HI0.out)) hg (IsS152.own_ne HI0.out HO1297.out (by decide))); replace HO1313 := Aside0.mk (Kd.R_over' (v := (.slice (some ⟨go22, 0, none⟩) t1295.length co24)) (rx_ HO1313.out) (Kd.R_typed HO1297.out) (by decide) hg); replace HB := Aside0.mk ((by rw [hw]; exact below_set (HB.out) (Nat.le_trans HL.out GB22.out) : Below w0.heap.size w0 w32)); replace HK := Aside0.mk (KeepBut.trans (by repeat (first | (with_reducible first | exact HK.out | apply KeepBut.set_ | apply keep_drewN | apply keep_drew | apply keep_alloc) | exact HK.out)) (KeepBut.of_grown hg g) (Kd.R_base2 HO1297.out)); replace HO1297 := Aside0.mk (hp_); clear hg hw hp_))
     go_ret
     exact ⟨_, ea_, Kd.Q_of_R (rx_ HO1297.out), by repeat (first | (with_reducible first | exact HI0.out | apply IsS152.alloc | apply IsS152.drewN | apply IsS152.drew | apply IsS152.set_1 | apply IsS152.set_2) | exact HI0.out), by repeat (first | (with_reducible first | exact HB.out | apply below_alloc | apply pw_below_drewN | apply below_drew1 | refine below_set ?_ (IsS152.ge HI0.out)) | exact HB.out), by repeat (first | (with_reducible first | exact HK.out | apply KeepBut.set_ | apply keep_drewN | apply keep_drew | apply keep_alloc) | exact HK.out)⟩
    ·rw [if_neg c20] at H
     exact absurd H (by simp)
   ·rw [if_neg c19] at H
    exact absurd H (by simp)
  ·rw [if_neg c18] at H
   have c18b0 : (t1303 == 1) = false := beq_eq_false_iff_ne.mpr c18
   have c18b1 : (t1303 != 1) = true := bne_iff_ne.mpr c18
   by_cases c33 : t1303 = 2
   ·rw [if_pos c33] at H
    have c33b0 : (t1303 == 2) = true := beq_iff_eq.mpr c33
    have c33b1 : (t1303 != 2) = false := bne_eq_false_iff_eq.mpr c33
    clear c33
    by_cases c34 : 1 ≤ (t1295.length : Int)
    ·rw [if_pos c34] at H
     have c34b0 := eq_true c34
     have c34b1 : decide (1 ≤ (t1295.length : Int)) = true := decide_eq_true c34
     clear c34
     obtain ⟨y1318, hy1318⟩ : ∃ y_ : List (S90), y_ = (t1295.drop (1 : Int).toNat) := ⟨_, rfl⟩
     replace H : (some (y1318, t1304, t1305)) = some (r1, r2, r3) := by first | (rw [hy1318]; with_reducible exact H) | (have H2_ := (Option.bind_some _ _).symm.trans H; rw [hy1318]; with_reducible exact H2_) | (have H2_ := (Option.bind_some _ _).symm.trans H; with_reducible exact H2_) | with_reducible exact H | (rw [hy1318]; exact H) | exact H
     have Ny1318 := Aside0.mk hy1318
     clear hy1318
     simp only [Option.some.injEq, Prod.mk.injEq] at H
     obtain ⟨rfl, rfl, rfl⟩ := H
     go_enter Try.func112, Try.ntmps112
     go_wp2_with (first | ((with_reducible refine gate_callee (f := 134) rfl ?_); refine gL_ (some 9) Try.func134 #[.pointer (some ⟨g, 0, none⟩), .int .i64 a1] ?_; (with_reducible refine (spec_l3Tree.calls k g s0_0 s0_1 s0_2 a1 t1295 t1298 t1299 w0 _ ?side1 ?side2 A3.out).mono ?_); (case side1 => repeat (first | (with_reducible first | exact HI0.out | apply IsS152.alloc | apply IsS152.drewN | apply IsS152.drew | apply IsS152.set_1 | apply IsS152.set_2) | exact HI0.out)); (case side2 => repeat (first | (with_reducible first | exact HB.out | apply below_alloc | apply pw_below_drewN | apply below_drew1 | refine below_set ?_ (IsS152.ge HI0.out)) | exact HB.out)); rintro e w35 ⟨v1296, rfl, ho0, hi, hb, hk⟩; refine ⟨_, rfl, ?_⟩; have HO1297 := Aside0.mk (Kd.R_lower ho0 (keep_size (w := w) (g := g) (row := none) (by repeat (first | (with_reducible first | exact HK.out | apply KeepBut.set_ | apply keep_drewN | apply keep_drew | apply keep_alloc) | exact HK.out)))); replace HK := Aside0.mk (KeepBut.trans (by repeat (first | (with_reducible first | exact HK.out | apply KeepBut.set_ | apply keep_drewN | apply keep_drew | apply keep_alloc) | exact HK.out)) hk (.inl rfl)); replace HB := Aside0.mk (hb); replace HI0 := Aside0.mk (hi); (try clear hb); (try clear hk); (try clear hi); (try clear ho0); obtain ⟨Ao36, co36, eo36⟩ := Kd.R_slice HO1297.out; subst eo36) | ((with_reducible refine gate_callee (f := 135) rfl ?_); refine gL_ (some 13) Try.func135 #[.pointer (some ⟨g, 0, none⟩), .int .i64 (t1295.length : Int)] ?_; (with_reducible refine (spec_l1Below.calls g s0_0 t1298 t1299 (t1295.length : Int) t1300 t1301 t1302 w0 _ ?side1 ?side2 A4.out).mono ?_); (case side1 => repeat (first | (with_reducible first | exact HI0.out | apply IsS152.alloc | apply IsS152.drewN | apply IsS152.drew | apply IsS152.set_1 | apply IsS152.set_2) | exact HI0.out)); (case side2 => repeat (first | (with_reducible first | exact HB.out | apply below_alloc | apply pw_below_drewN | apply below_drew1 | refine below_set ?_ (IsS152.ge HI0.out)) | exact HB.out)); rintro e w37 ⟨rfl, hi, hb, hk⟩; refine ⟨_, rfl, ?_⟩; replace HO1297 := Aside0.mk (Kd.R_mono (Kd.R_keep (IsS152.apart (show IsS152 w0 _ g s0_0 t1298 t1299 from by repeat (first | (with_reducible first | exact HI0.out | apply IsS152.alloc | apply IsS152.drewN | apply IsS152.drew | apply IsS152.set_1 | apply IsS152.set_2) | exact HI0.out)) (rx_ HO1297.out) (by decide)) hk (fun _ h => h.2)) (fun _ h => h.1)); replace HK := Aside0.mk (KeepBut.trans (by repeat (first | (with_reducible first | exact HK.out | apply KeepBut.set_ | apply keep_drewN | apply keep_drew | apply keep_alloc) | exact HK.out)) hk (.inl rfl)); replace HB := Aside0.mk (hb); replace HI0 := Aside0.mk (hi); (try clear hb); (try clear hk); (try clear hi)) | ((with_reducible refine gate_callee (f := 135) rfl ?_); refine gL_ (some 15) Try.func135 #[.pointer (some ⟨g, 0, none⟩), .int .i64 18] ?_; (with_reducible refine (spec_l1Below.calls g s0_0 t1301 t1302 18 t1303 t1304 t1305 w0 _ ?side1 ?side2 A5.out).mono ?_); (case side1 => repeat (first | (with_reducible first | exact HI0.out | apply IsS152.alloc | apply IsS152.drewN | apply IsS152.drew | apply IsS152.set_1 | apply IsS152.set_2) | exact HI0.out)); (case side2 => repeat (first | (with_reducible first | exact HB.out | apply below_alloc | apply pw_below_drewN | apply below_drew1 | refine below_set ?_ (IsS152.ge HI0.out)) | exact HB.out)); rintro e w38 ⟨rfl, hi, hb, hk⟩; refine ⟨_, rfl, ?_⟩; replace HO1297 := Aside0.mk (Kd.R_mono (Kd.R_keep (IsS152.apart (show IsS152 w0 _ g s0_0 t1301 t1302 from by repeat (first | (with_reducible first | exact HI0.out | apply IsS152.alloc | apply IsS152.drewN | apply IsS152.drew | apply IsS152.set_1 | apply IsS152.set_2) | exact HI0.out)) (rx_ HO1297.out) (by decide)) hk (fun _ h => h.2)) (fun _ h => h.1)); replace HK := Aside0.mk (KeepBut.trans (by repeat (first | (with_reducible first | exact HK.out | apply KeepBut.set_ | apply keep_drewN | apply keep_drew | apply keep_alloc) | exact HK.out)) hk (.inl rfl)); replace HB := Aside0.mk (hb); replace HI0 := Aside0.mk (hi); (try clear hb); (try clear hk); (try clear hi); have q39 : (1 : Int) ≤ ((t1295.length : Int) : Int) := od_; obtain ⟨i039, hi039, _, hsz39, _⟩ := info_parts info90; have hcut39 := cut_from (P := Try.prog) 34 90 .i64 Try.underlying34 hi039 2 hsz39 Ao36 t1295.length co36 1 (by omega) q39; have hr39 := Kd.Q_drop (k := (1 : Int).toNat) (Kd.Q_of_R HO1297.out) (by omega); obtain ⟨A39, hA39⟩ : ∃ A1, A1 = (if co36 = (1 : Int).toNat then Ao36 else (Ao36 : Option Addr).map (·.add ((1 : Int).toNat * 2))) := ⟨_, rfl⟩; obtain ⟨c39, hc39⟩ : ∃ c1, c1 = co36 - (1 : Int).toNat := ⟨_, rfl⟩; have hy39 : y1318.length = t1295.length - (1 : Int).toNat := (by rw [Ny1318.out, List.length_drop]); rw [← Ny1318.out] at hr39; rw [← hy39, ← hA39, ← hc39] at hcut39; replace hr39 : Kd.Q k90 90 w38 w.heap.size (fun _ => True) (.slice A39 y1318.length c39) y1318 := (by rw [hA39, hc39, hy39]; exact hr39); have HE39 : Aside0 ((Value.slice A39 y1318.length c39).ownBlock = (.slice Ao36 t1295.length co36 : Value).ownBlock) := ⟨by rw [hA39]; split <;> (cases (Ao36 : Option Addr) <;> rfl)⟩; clear hy39 hi039 hsz39 HO1297 hA39 hc39; have HO1320 := Aside0.mk hr39; clear hr39; replace q39 := eq_true q39))
     go_ret
     exact ⟨_, ea_, qx_ HO1320.out, by repeat (first | (with_reducible first | exact HI0.out | apply IsS152.alloc | apply IsS152.drewN | apply IsS152.drew | apply IsS152.set_1 | apply IsS152.set_2) | exact HI0.out), by repeat (first | (with_reducible first | exact HB.out | apply below_alloc | apply pw_below_drewN | apply below_drew1 | refine below_set ?_ (IsS152.ge HI0.out)) | exact HB.out), by repeat (first | (with_reducible first | exact HK.out | apply KeepBut.set_ | apply keep_drewN | apply keep_drew | apply keep_alloc) | exact HK.out)⟩
    ·rw [if_neg c34] at H
     exact absurd H (by simp)
   ·rw [if_neg c33] at H
    have c33b0 : (t1303 == 2) = false := beq_eq_false_iff_ne.mpr c33
    have c33b1 : (t1303 != 2) = true := bne_iff_ne.mpr c33
    by_cases c40 : t1303 = 3
    ·rw [if_pos c40] at H
     have c40b0 : (t1303 == 3) = true := beq_iff_eq.mpr c40
     have c40b1 : (t1303 != 3) = false := bne_eq_false_iff_eq.mpr c40
     clear c40
     have H' := Aside0.mk H
     clear H
     go_enter Try.func112, Try.ntmps112
     go_wp2_with (first | ((with_reducible refine gate_callee (f := 134) rfl ?_); refine gL_ (some 9) Try.func134 #[.pointer (some ⟨g, 0, none⟩), .int .i64 a1] ?_; (with_reducible refine (spec_l3Tree.calls k g s0_0 s0_1 s0_2 a1 t1295 t1298 t1299 w0 _ ?side1 ?side2 A3.out).mono ?_); (case side1 => repeat (first | (with_reducible first | exact HI0.out | apply IsS152.alloc | apply IsS152.drewN | apply IsS152.drew | apply IsS152.set_1 | apply IsS152.set_2) | exact HI0.out)); (case side2 => repeat (first | (with_reducible first | exact HB.out | apply below_alloc | apply pw_below_drewN | apply below_drew1 | refine below_set ?_ (IsS152.ge HI0.out)) | exact HB.out)); rintro e w41 ⟨v1296, rfl, ho0, hi, hb, hk⟩; refine ⟨_, rfl, ?_⟩; have HO1297 := Aside0.mk (Kd.R_lower ho0 (keep_size (w := w) (g := g) (row := none) (by repeat (first | (with_reducible first | exact HK.out | apply KeepBut.set_ | apply keep_drewN | apply keep_drew | apply keep_alloc) | exact HK.out)))); replace HK := Aside0.mk (KeepBut.trans (by repeat (first | (with_reducible first | exact HK.out | apply KeepBut.set_ | apply keep_drewN | apply keep_drew | apply keep_alloc) | exact HK.out)) hk (.inl rfl)); replace HB := Aside0.mk (hb); replace HI0 := Aside0.mk (hi); (try clear hb); (try clear hk); (try clear hi); (try clear ho0); obtain ⟨Ao42, co42, eo42⟩ := Kd.R_slice HO1297.out; subst eo42) | ((with_reducible refine gate_callee (f := 135) rfl ?_); refine gL_ (some 13) Try.func135 #[.pointer (some ⟨g, 0, none⟩), .int .i64 (t1295.length : Int)] ?_; (with_reducible refine (spec_l1Below.calls g s0_0 t1298 t1299 (t1295.length : Int) t1300 t1301 t1302 w0 _ ?side1 ?side2 A4.out).mono ?_); (case side1 => repeat (first | (with_reducible first | exact HI0.out | apply IsS152.alloc | apply IsS152.drewN | apply IsS152.drew | apply IsS152.set_1 | apply IsS152.set_2) | exact HI0.out)); (case side2 => repeat (first | (with_reducible first | exact HB.out | apply below_alloc | apply pw_below_drewN | apply below_drew1 | refine below_set ?_ (IsS152.ge HI0.out)) | exact HB.out)); rintro e w43 ⟨rfl, hi, hb, hk⟩; refine ⟨_, rfl, ?_⟩; replace HO1297 := Aside0.mk (Kd.R_mono (Kd.R_keep (IsS152.apart (show IsS152 w0 _ g s0_0 t1298 t1299 from by repeat (first | (with_reducible first | exact HI0.out | apply IsS152.alloc | apply IsS152.drewN | apply IsS152.drew | apply IsS152.set_1 | apply IsS152.set_2) | exact HI0.out)) (rx_ HO1297.out) (by decide)) hk (fun _ h => h.2)) (fun _ h => h.1)); replace HK := Aside0.mk (KeepBut.trans (by repeat (first | (with_reducible first | exact HK.out | apply KeepBut.set_ | apply keep_drewN | apply keep_drew | apply keep_alloc) | exact HK.out)) hk (.inl rfl)); replace HB := Aside0.mk (hb); replace HI0 := Aside0.mk (hi); (try clear hb); (try clear hk); (try clear hi)) | ((with_reducible refine gate_callee (f := 135) rfl ?_); refine gL_ (some 15) Try.func135 #[.pointer (some ⟨g, 0, none⟩), .int .i64 18] ?_; (with_reducible refine (spec_l1Below.calls g s0_0 t1301 t1302 18 t1303 t1304 t1305 w0 _ ?side1 ?side2 A5.out).mono ?_); (case side1 => repeat (first | (with_reducible first | exact HI0.out | apply IsS152.alloc | apply IsS152.drewN | apply IsS152.drew | apply IsS152.set_1 | apply IsS152.set_2) | exact HI0.out)); (case side2 => repeat (first | (with_reducible first | exact HB.out | apply below_alloc | apply pw_below_drewN | apply below_drew1 | refine below_set ?_ (IsS152.ge HI0.out)) | exact HB.out)); rintro e w44 ⟨rfl, hi, hb, hk⟩; refine ⟨_, rfl, ?_⟩; replace HO1297 := Aside0.mk (Kd.R_mono (Kd.R_keep (IsS152.apart (show IsS152 w0 _ g s0_0 t1301 t1302 from by repeat (first | (with_reducible first | exact HI0.out | apply IsS152.alloc | apply IsS152.drewN | apply IsS152.drew | apply IsS152.set_1 | apply IsS152.set_2) | exact HI0.out)) (rx_ HO1297.out) (by decide)) hk (fun _ h => h.2)) (fun _ h => h.1)); replace HK := Aside0.mk (KeepBut.trans (by repeat (first | (with_reducible first | exact HK.out | apply KeepBut.set_ | apply keep_drewN | apply keep_drew | apply keep_alloc) | exact HK.out)) hk (.inl rfl)); replace HB := Aside0.mk (hb); replace HI0 := Aside0.mk (hi); (try clear hb); (try clear hk); (try clear hi)))
     go_loopg [5] k (fun kq v5 w' => ∃ (x5_1 : List (S90)) (x1001_1 : Int) (x1002_1 : Int), Aside0 (spec_l3Any.l0 kq x5_1 s0_0 x1001_1 x1002_1 = some (r1, r2, r3)) ∧ Aside0 (kq ≤ k) ∧ Aside0 (Kd.R k90 90 w' w.heap.size (fun _ => True) v5 x5_1) ∧ Aside0 (IsS152 w0 w' g s0_0 x1001_1 x1002_1) ∧ Aside0 (KeepBut w w' g none) ∧ Aside0 (Below w0.heap.size w0 w'))
     case atStart => exact ⟨(t1295), (t1304), (t1305), H', ⟨Nat.le_refl _⟩, ⟨rx_ HO1297.out⟩, ⟨by repeat (first | (with_reducible first | exact HI0.out | apply IsS152.alloc | apply IsS152.drewN | apply IsS152.drew | apply IsS152.set_1 | apply IsS152.set_2) | exact HI0.out)⟩, ⟨by repeat (first | (with_reducible first | exact HK.out | apply KeepBut.set_ | apply keep_drewN | apply keep_drew | apply keep_alloc) | exact HK.out)⟩, ⟨by repeat (first | (with_reducible first | exact HB.out | apply below_alloc | apply pw_below_drewN | apply below_drew1 | refine below_set ?_ (IsS152.ge HI0.out)) | exact HB.out)⟩⟩
     case round =>
      clear H'
      try clear c1
      try clear p1
      try clear q1
      try clear hx1
      try clear c2
      try clear p2
      try clear q2
      try clear hx2
      try clear hf2
      try clear c3
      try clear q3
      try clear hx3
      try clear hf3
      try clear c4
      try clear c6
      try clear c6b0
      try clear c6b1
      try clear p6
      try clear c8
      try clear c8b0
      try clear c9
      try clear c9b0
      try clear c10
      try clear p10
      try clear q10
      try clear hx10
      try clear hf10
      try clear c11
      try clear c13
      try clear p13
      try clear q13
      try clear hx13
      try clear c16
      try clear hx16
      try clear hf16
      try clear c18
      try clear c18b0
      try clear c18b1
      try clear c19
      try clear c19b0
      try clear c20
      try clear c20b0
      try clear c22
      try clear p22
      try clear q22
      try clear hx22
      try clear hf22
      try clear c31
      try clear hx31
      try clear hf31
      try clear c33
      try clear c33b0
      try clear c33b1
      try clear c34
      try clear c34b0
      try clear c34b1
      try clear c39
      try clear q39
      try clear c40
      try clear c40b0
      try clear c40b1
      try clear hx10_0
      try clear hx10_1
      try clear hx1310_0
      try clear hx1310_1
      try clear hx16_0
      try clear hx22_0
      try clear hx22_1
      try clear hx31_1
      try clear p10
      try clear p1310
      try clear p22
      try clear q10
      try clear q1310
      try clear q22
      try clear q39
      obtain ⟨x5_1, x1001_1, x1002_1, HA, HK1, HO_5, HI0, HK, HB⟩ := hrel
      cases gk with
      | zero => exact absurd HA.out (by simp [spec_l3Any.l0])
      | succ k1 =>
       have H := HA.out
       clear HA
       simp only [spec_l3Any.l0] at H
       replace H := Option.bind_eq_some_iff.mp H
       obtain ⟨⟨t1321, t1322, t1323⟩, A450, H⟩ := H
       try dsimp only at H
       have A45 := Aside0.mk A450
       clear A450
       by_cases c46 : (x5_1.length : Int) < (wrap64 (24 + t1321))
       ·rw [if_pos c46] at H
        have c46b0 : decide ((x5_1.length : Int) < (wrap64 (24 + t1321))) = true := decide_eq_true c46
        clear c46
        by_cases c47 : x5_1.length < 8796093022208
        ·rw [if_pos c47] at H
         have LMc47 := Aside0.mk c47
         clear c47
         obtain ⟨y1324, hy1324⟩ : ∃ y_ : List (S90), y_ = (x5_1 ++ [(⟨1, 1⟩ : S90)]) := ⟨_, rfl⟩
         replace H : (spec_l3Any.l0 k1 y1324 s0_0 t1322 t1323) = some (r1, r2, r3) := by first | (rw [hy1324]; with_reducible exact H) | (have H2_ := (Option.bind_some _ _).symm.trans H; rw [hy1324]; with_reducible exact H2_) | (have H2_ := (Option.bind_some _ _).symm.trans H; with_reducible exact H2_) | with_reducible exact H | (rw [hy1324]; exact H) | exact H
         have Ny1324 := Aside0.mk hy1324
         clear hy1324
         have H' := Aside0.mk H
         clear H
         obtain ⟨Ao48, co48, eo48⟩ := Kd.R_slice HO_5.out
         subst eo48
         go_wp2_with (first | ((with_reducible refine gate_callee (f := 135) rfl ?_); refine gL_ (some 48) Try.func135 #[.pointer (some ⟨g, 0, none⟩), .int .i64 2] ?_; (with_reducible refine (spec_l1Below.calls g s0_0 x1001_1 x1002_1 2 t1321 t1322 t1323 w0 _ ?side1 ?side2 A45.out).mono ?_); (case side1 => repeat (first | (with_reducible first | exact HI0.out | apply IsS152.alloc | apply IsS152.drewN | apply IsS152.drew | apply IsS152.set_1 | apply IsS152.set_2) | exact HI0.out)); (case side2 => repeat (first | (with_reducible first | exact HB.out | apply below_alloc | apply pw_below_drewN | apply below_drew1 | refine below_set ?_ (IsS152.ge HI0.out)) | exact HB.out)); rintro e w49 ⟨rfl, hi, hb, hk⟩; refine ⟨_, rfl, ?_⟩; replace HO_5 := Aside0.mk (Kd.R_mono (Kd.R_keep (IsS152.apart (show IsS152 w0 _ g s0_0 x1001_1 x1002_1 from by repeat (first | (with_reducible first | exact HI0.out | apply IsS152.alloc | apply IsS152.drewN | apply IsS152.drew | apply IsS152.set_1 | apply IsS152.set_2) | exact HI0.out)) (rx_ HO_5.out) (by decide)) hk (fun _ h => h.2)) (fun _ h => h.1)); replace HK := Aside0.mk (KeepBut.trans (by repeat (first | (with_reducible first | exact HK.out | apply KeepBut.set_ | apply keep_drewN | apply keep_drew | apply keep_alloc) | exact HK.out)) hk (.inl rfl)); replace HB := Aside0.mk (hb); replace HI0 := Aside0.mk (hi); (try clear hb); (try clear hk); (try clear hi)) | ((with_reducible refine gate_builtin (b := .append) (xs := #[.tmp 51, .tmp 53]) rfl ?_); at_builtin; refine Kd.R_append k90 w.heap.size rfl (.tmp 51) (.tmp 53) 34 90 (.agg #[(.int .i64 0), (.int .i64 0)]) 16 rfl Try.underlying34 info90 rfl (by decide) (by omega) (.slice Ao48 x5_1.length co48) x5_1 (⟨1, 1⟩ : S90) [.int .i64 1, .int .i64 1] (fun _ => True) (fun _ => False) rfl rfl ?aP (fun _ hk => hk.elim) ?aF ?aO (Below.refl _ _) ?aS ?aL ?_; (case aP => exact k90_mkM _ _ _ (⟨1, 1⟩ : S90)); (case aF => exact (fun _ _ => trivial)); (case aO => exact (rx_ HO_5.out)); (case aS => exact (keep_size (w := w) (g := g) (row := none) (by repeat (first | (with_reducible first | exact HK.out | apply KeepBut.set_ | apply keep_drewN | apply keep_drew | apply keep_alloc) | exact HK.out)))); (case aL => have := LMc47.out; omega); intro v1325 w50 ho hb hg hat; rw [← Ny1324.out] at ho; replace HB := Aside0.mk (below_weaken (by repeat (first | (with_reducible first | exact HB.out | apply below_alloc | apply pw_below_drewN | apply below_drew1 | refine below_set ?_ (IsS152.ge HI0.out)) | exact HB.out)) HL.out hb); replace HI0 := Aside0.mk (IsS152.grown (by repeat (first | (with_reducible first | exact HI0.out | apply IsS152.alloc | apply IsS152.drewN | apply IsS152.drew | apply IsS152.set_1 | apply IsS152.set_2) | exact HI0.out)) hg (IsS152.own_ne HI0.out HO_5.out (by decide))); replace HK := Aside0.mk (KeepBut.trans (by repeat (first | (with_reducible first | exact HK.out | apply KeepBut.set_ | apply keep_drewN | apply keep_drew | apply keep_alloc) | exact HK.out)) (KeepBut.of_grown hg g) (Kd.R_base2 HO_5.out)); have HO1326 := Aside0.mk (ho); clear HO_5; clear ho hb hg hat))
         go_roundg k1
         case measure => have := HK1.out; omega
         case rel => exact ⟨(y1324), (t1322), (t1323), H', ⟨by have := HK1.out; omega⟩, ⟨rx_ HO1326.out⟩, ⟨by repeat (first | (with_reducible first | exact HI0.out | apply IsS152.alloc | apply IsS152.drewN | apply IsS152.drew | apply IsS152.set_1 | apply IsS152.set_2) | exact HI0.out)⟩, ⟨by repeat (first | (with_reducible first | exact HK.out | apply KeepBut.set_ | apply keep_drewN | apply keep_drew | apply keep_alloc) | exact HK.out)⟩, ⟨by repeat (first | (with_reducible first | exact HB.out | apply below_alloc | apply pw_below_drewN | apply below_drew1 | refine below_set ?_ (IsS152.ge HI0.out)) | exact HB.out)⟩⟩
        ·rw [if_neg c47] at H
         exact absurd H (by simp)
       ·rw [if_neg c46] at H
        have c46b0 : decide ((x5_1.length : Int) < (wrap64 (24 + t1321))) = false := decide_eq_false c46
        clear c46
        simp only [Option.some.injEq, Prod.mk.injEq] at H
        obtain ⟨rfl, rfl, rfl⟩ := H
        obtain ⟨Ao51, co51, eo51⟩ := Kd.R_slice HO_5.out
        subst eo51
        go_wp2_with (first | ((with_reducible refine gate_callee (f := 135) rfl ?_); refine gL_ (some 48) Try.func135 #[.pointer (some ⟨g, 0, none⟩), .int .i64 2] ?_; (with_reducible refine (spec_l1Below.calls g s0_0 x1001_1 x1002_1 2 t1321 t1322 t1323 w0 _ ?side1 ?side2 A45.out).mono ?_); (case side1 => repeat (first | (with_reducible first | exact HI0.out | apply IsS152.alloc | apply IsS152.drewN | apply IsS152.drew | apply IsS152.set_1 | apply IsS152.set_2) | exact HI0.out)); (case side2 => repeat (first | (with_reducible first | exact HB.out | apply below_alloc | apply pw_below_drewN | apply below_drew1 | refine below_set ?_ (IsS152.ge HI0.out)) | exact HB.out)); rintro e w52 ⟨rfl, hi, hb, hk⟩; refine ⟨_, rfl, ?_⟩; replace HO_5 := Aside0.mk (Kd.R_mono (Kd.R_keep (IsS152.apart (show IsS152 w0 _ g s0_0 x1001_1 x1002_1 from by repeat (first | (with_reducible first | exact HI0.out | apply IsS152.alloc | apply IsS152.drewN | apply IsS152.drew | apply IsS152.set_1 | apply IsS152.set_2) | exact HI0.out)) (rx_ HO_5.out) (by decide)) hk (fun _ h => h.2)) (fun _ h => h.1)); replace HK := Aside0.mk (KeepBut.trans (by repeat (first | (with_reducible first | exact HK.out | apply KeepBut.set_ | apply keep_drewN | apply keep_drew | apply keep_alloc) | exact HK.out)) hk (.inl rfl)); replace HB := Aside0.mk (hb); replace HI0 := Aside0.mk (hi); (try clear hb); (try clear hk); (try clear hi)))
        go_ret
        exact ⟨_, ea_, Kd.Q_of_R (rx_ HO_5.out), by repeat (first | (with_reducible first | exact HI0.out | apply IsS152.alloc | apply IsS152.drewN | apply IsS152.drew | apply IsS152.set_1 | apply IsS152.set_2) | exact HI0.out), by repeat (first | (with_reducible first | exact HB.out | apply below_alloc | apply pw_below_drewN | apply below_drew1 | refine below_set ?_ (IsS152.ge HI0.out)) | exact HB.out), by repeat (first | (with_reducible first | exact HK.out | apply KeepBut.set_ | apply keep_drewN | apply keep_drew | apply keep_alloc) | exact HK.out)⟩
    ·rw [if_neg c40] at H
     have c40b0 : (t1303 == 3) = false := beq_eq_false_iff_ne.mpr c40
     have c40b1 : (t1303 != 3) = true := bne_iff_ne.mpr c40
     by_cases c53 : t1303 = 4
     ·rw [if_pos c53] at H
      have c53b0 : (t1303 == 4) = true := beq_iff_eq.mpr c53
      have c53b1 : (t1303 != 4) = false := bne_eq_false_iff_eq.mpr c53
      clear c53
      obtain ⟨y1327, hy1327⟩ : ∃ y_ : List (S90), y_ = (([(⟨0, 0⟩ : S90)] : List (S90))) := ⟨_, rfl⟩
      replace H : (spec_l3Any.l1 k y1327 s0_0 t1304 t1305) = some (r1, r2, r3) := by first | (rw [hy1327]; with_reducible exact H) | (have H2_ := (Option.bind_some _ _).symm.trans H; rw [hy1327]; with_reducible exact H2_) | (have H2_ := (Option.bind_some _ _).symm.trans H; with_reducible exact H2_) | with_reducible exact H | (rw [hy1327]; exact H) | exact H
      have Ny1327 := Aside0.mk hy1327
      clear hy1327
      have H' := Aside0.mk H
      clear H
      go_enter Try.func112, Try.ntmps112
      go_wp2_with (first | ((with_reducible refine gate_callee (f := 134) rfl ?_); refine gL_ (some 9) Try.func134 #[.pointer (some ⟨g, 0, none⟩), .int .i64 a1] ?_; (with_reducible refine (spec_l3Tree.calls k g s0_0 s0_1 s0_2 a1 t1295 t1298 t1299 w0 _ ?side1 ?side2 A3.out).mono ?_); (case side1 => repeat (first | (with_reducible first | exact HI0.out | apply IsS152.alloc | apply IsS152.drewN | apply IsS152.drew | apply IsS152.set_1 | apply IsS152.set_2) | exact HI0.out)); (case side2 => repeat (first | (with_reducible first | exact HB.out | apply below_alloc | apply pw_below_drewN | apply below_drew1 | refine below_set ?_ (IsS152.ge HI0.out)) | exact HB.out)); rintro e w54 ⟨v1296, rfl, ho0, hi, hb, hk⟩; refine ⟨_, rfl, ?_⟩; have HO1297 := Aside0.mk (Kd.R_lower ho0 (keep_size (w := w) (g := g) (row := none) (by repeat (first | (with_reducible first | exact HK.out | apply KeepBut.set_ | apply keep_drewN | apply keep_drew | apply keep_alloc) | exact HK.out)))); replace HK := Aside0.mk (KeepBut.trans (by repeat (first | (with_reducible first | exact HK.out | apply KeepBut.set_ | apply keep_drewN | apply keep_drew | apply keep_alloc) | exact HK.out)) hk (.inl rfl)); replace HB := Aside0.mk (hb); replace HI0 := Aside0.mk (hi); (try clear hb); (try clear hk); (try clear hi); (try clear ho0); obtain ⟨Ao55, co55, eo55⟩ := Kd.R_slice HO1297.out; subst eo55) | ((with_reducible refine gate_callee (f := 135) rfl ?_); refine gL_ (some 13) Try.func135 #[.pointer (some ⟨g, 0, none⟩), .int .i64 (t1295.length : Int)] ?_; (with_reducible refine (spec_l1Below.calls g s0_0 t1298 t1299 (t1295.length : Int) t1300 t1301 t1302 w0 _ ?side1 ?side2 A4.out).mono ?_); (case side1 => repeat (first | (with_reducible first | exact HI0.out | apply IsS152.alloc | apply IsS152.drewN | apply IsS152.drew | apply IsS152.set_1 | apply IsS152.set_2) | exact HI0.out)); (case side2 => repeat (first | (with_reducible first | exact HB.out | apply below_alloc | apply pw_below_drewN | apply below_drew1 | refine below_set ?_ (IsS152.ge HI0.out)) | exact HB.out)); rintro e w56 ⟨rfl, hi, hb, hk⟩; refine ⟨_, rfl, ?_⟩; replace HO1297 := Aside0.mk (Kd.R_mono (Kd.R_keep (IsS152.apart (show IsS152 w0 _ g s0_0 t1298 t1299 from by repeat (first | (with_reducible first | exact HI0.out | apply IsS152.alloc | apply IsS152.drewN | apply IsS152.drew | apply IsS152.set_1 | apply IsS152.set_2) | exact HI0.out)) (rx_ HO1297.out) (by decide)) hk (fun _ h => h.2)) (fun _ h => h.1)); replace HK := Aside0.mk (KeepBut.trans (by repeat (first | (with_reducible first | exact HK.out | apply KeepBut.set_ | apply keep_drewN | apply keep_drew | apply keep_alloc) | exact HK.out)) hk (.inl rfl)); replace HB := Aside0.mk (hb); replace HI0 := Aside0.mk (hi); (try clear hb); (try clear hk); (try clear hi)) | ((with_reducible refine gate_callee (f := 135) rfl ?_); refine gL_ (some 15) Try.func135 #[.pointer (some ⟨g, 0, none⟩), .int .i64 18] ?_; (with_reducible refine (spec_l1Below.calls g s0_0 t1301 t1302 18 t1303 t1304 t1305 w0 _ ?side1 ?side2 A5.out).mono ?_); (case side1 => repeat (first | (with_reducible first | exact HI0.out | apply IsS152.alloc | apply IsS152.drewN | apply IsS152.drew | apply IsS152.set_1 | apply IsS152.set_2) | exact HI0.out)); (case side2 => repeat (first | (with_reducible first | exact HB.out | apply below_alloc | apply pw_below_drewN | apply below_drew1 | refine below_set ?_ (IsS152.ge HI0.out)) | exact HB.out)); rintro e w57 ⟨rfl, hi, hb, hk⟩; refine ⟨_, rfl, ?_⟩; replace HO1297 := Aside0.mk (Kd.R_mono (Kd.R_keep (IsS152.apart (show IsS152 w0 _ g s0_0 t1301 t1302 from by repeat (first | (with_reducible first | exact HI0.out | apply IsS152.alloc | apply IsS152.drewN | apply IsS152.drew | apply IsS152.set_1 | apply IsS152.set_2) | exact HI0.out)) (rx_ HO1297.out) (by decide)) hk (fun _ h => h.2)) (fun _ h => h.1)); replace HK := Aside0.mk (KeepBut.trans (by repeat (first | (with_reducible first | exact HK.out | apply KeepBut.set_ | apply keep_drewN | apply keep_drew | apply keep_alloc) | exact HK.out)) hk (.inl rfl)); replace HB := Aside0.mk (hb); replace HI0 := Aside0.mk (hi); (try clear hb); (try clear hk); (try clear hi)) | ((with_reducible refine gate_dst (N := 58) rfl ?_); refine Kd.R_lit k90 _ 90 ?hg (N := 58) ?hd (xs := ([(⟨0, 0⟩ : S90)] : List (S90))) (inner := [.int .i64 0, .int .i64 0]) (ok := fun _ => True) (okp := fun _ => True) ?hr ?hp (fun _ hk => hk) trivial (Below.refl _ _) (Nat.le_refl _) (by simp) ?_; (case hd => rfl); (case hg => rfl); (case hr => first | (go_simp; done) | (go_simp; rfl)); (case hp => exact (Reps.c2 (show Kd.M k90 _ _ _ (⟨0, 0⟩ : S90) [.int .i64 0, .int .i64 0] from (k90_mkM _ _ _ (⟨0, 0⟩ : S90) )) (Reps.none _ _))); intro v1328 w58 ho59 hb hg_ hnew_; clear hg_ hnew_; (first | rw [← Ny1327.out] at ho59 | (simp only [Int.reduceToNat] at ho59; rw [← Ny1327.out] at ho59)); have HO1329 := Aside0.mk (Kd.R_lower (Kd.R_new' ho59 (Kd.R_lt (rx_ HO1297.out))) (keep_size (w := w) (g := g) (row := none) (by repeat (first | (with_reducible first | exact HK.out | apply KeepBut.set_ | apply keep_drewN | apply keep_drew | apply keep_alloc) | exact HK.out)))); replace HO1297 := Aside0.mk (Kd.R_elder' (rx_ HO1297.out) (Kd.R_base ho59) hb); replace HK := Aside0.mk (KeepBut.trans (by repeat (first | (with_reducible first | exact HK.out | apply KeepBut.set_ | apply keep_drewN | apply keep_drew | apply keep_alloc) | exact HK.out)) (KeepBut.of_below hb g none) (.inl rfl)); replace HB := Aside0.mk (below_step (by repeat (first | (with_reducible first | exact HB.out | apply below_alloc | apply pw_below_drewN | apply below_drew1 | refine below_set ?_ (IsS152.ge HI0.out)) | exact HB.out)) hb); replace HI0 := Aside0.mk (IsS152.below (by repeat (first | (with_reducible first | exact HI0.out | apply IsS152.alloc | apply IsS152.drewN | apply IsS152.drew | apply IsS152.set_1 | apply IsS152.set_2) | exact HI0.out)) hb); clear hb ho59))
      go_loopg [5] k (fun kq v5 w' => ∃ (x5_1 : List (S90)) (x1001_1 : Int) (x1002_1 : Int), Aside0 (spec_l3Any.l1 kq x5_1 s0_0 x1001_1 x1002_1 = some (r1, r2, r3)) ∧ Aside0 (kq ≤ k) ∧ Aside0 (Kd.R k90 90 w' w.heap.size (fun _ => True) v5 x5_1) ∧ Aside0 (IsS152 w0 w' g s0_0 x1001_1 x1002_1) ∧ Aside0 (KeepBut w w' g none) ∧ Aside0 (Below w0.heap.size w0 w'))
      case atStart => exact ⟨(y1327), (t1304), (t1305), H', ⟨Nat.le_refl _⟩, ⟨rx_ (Kd.R_mono HO1329.out (fun _ hk => trivial))⟩, ⟨by repeat (first | (with_reducible first | exact HI0.out | apply IsS152.alloc | apply IsS152.drewN | apply IsS152.drew | apply IsS152.set_1 | apply IsS152.set_2) | exact HI0.out)⟩, ⟨by repeat (first | (with_reducible first | exact HK.out | apply KeepBut.set_ | apply keep_drewN | apply keep_drew | apply keep_alloc) | exact HK.out)⟩, ⟨by repeat (first | (with_reducible first | exact HB.out | apply below_alloc | apply pw_below_drewN | apply below_drew1 | refine below_set ?_ (IsS152.ge HI0.out)) | exact HB.out)⟩⟩
      case round =>
       clear H'
       try clear c1
       try clear p1
       try clear q1
       try clear hx1
       try clear c2
       try clear p2
       try clear q2
       try clear hx2
       try clear hf2
       try clear c3
       try clear q3
       try clear hx3
       try clear hf3
       try clear c4
       try clear c5
       try clear c6
       try clear c6b0
       try clear c6b1
       try clear p6
       try clear c8
       try clear c8b0
       try clear c9
       try clear c9b0
       try clear c10
       try clear p10
       try clear q10
       try clear hx10
       try clear hf10
       try clear c11
       try clear c13
       try clear p13
       try clear q13
       try clear hx13
       try clear c16
       try clear hx16
       try clear hf16
       try clear c18
       try clear c18b0
       try clear c18b1
       try clear c19
       try clear c19b0
       try clear c20
       try clear c20b0
       try clear c22
       try clear p22
       try clear q22
       try clear hx22
       try clear hf22
       try clear c31
       try clear hx31
       try clear hf31
       try clear c33
       try clear c33b0
       try clear c33b1
       try clear c34
       try clear c34b0
       try clear c34b1
       try clear c39
       try clear q39
       try clear c40
       try clear c40b0
       try clear c40b1
       try clear c46
       try clear c46b0
       try clear c47
       try clear c53
       try clear c53b0
       try clear c53b1
       try clear hx10_0
       try clear hx10_1
       try clear hx1310_0
       try clear hx1310_1
       try clear hx16_0
       try clear hx22_0
       try clear hx22_1
       try clear hx31_1
       try clear p1
       try clear p10
       try clear p13
       try clear p1310
       try clear p2
       try clear p22
       try clear p6
       try clear q1
       try clear q10
       try clear q13
       try clear q1310
       try clear q2
       try clear q22
       try clear q3
       try clear q39
       obtain ⟨x5_1, x1001_1, x1002_1, HA, HK1, HO_5, HI0, HK, HB⟩ := hrel
       cases gk with
       | zero => exact absurd HA.out (by simp [spec_l3Any.l1])
       | succ k1 =>
        have H := HA.out
        clear HA
        simp only [spec_l3Any.l1] at H
        replace H := Option.bind_eq_some_iff.mp H
        obtain ⟨⟨t1330, t1331, t1332⟩, A600, H⟩ := H
        try dsimp only at H
        have A60 := Aside0.mk A600
        clear A600
        by_cases c61 : (x5_1.length : Int) < (wrap64 (13 + t1330))
        ·rw [if_pos c61] at H
         have c61b0 : decide ((x5_1.length : Int) < (wrap64 (13 + t1330))) = true := decide_eq_true c61
         clear c61
         by_cases c62 : x5_1.length < 8796093022208
         ·rw [if_pos c62] at H
          have LMc62 := Aside0.mk c62
          clear c62
          obtain ⟨y1333, hy1333⟩ : ∃ y_ : List (S90), y_ = (x5_1 ++ [(⟨0, (x5_1.length : Int)⟩ : S90)]) := ⟨_, rfl⟩
          replace H : (spec_l3Any.l1 k1 y1333 s0_0 t1331 t1332) = some (r1, r2, r3) := by first | (rw [hy1333]; with_reducible exact H) | (have H2_ := (Option.bind_some _ _).symm.trans H; rw [hy1333]; with_reducible exact H2_) | (have H2_ := (Option.bind_some _ _).symm.trans H; with_reducible exact H2_) | with_reducible exact H | (rw [hy1333]; exact H) | exact H
          have Ny1333 := Aside0.mk hy1333
          clear hy1333
          have H' := Aside0.mk H
          clear H
          obtain ⟨Ao63, co63, eo63⟩ := Kd.R_slice HO_5.out
          subst eo63
          go_wp2_with (first | ((with_reducible refine gate_callee (f := 135) rfl ?_); refine gL_ (some 62) Try.func135 #[.pointer (some ⟨g, 0, none⟩), .int .i64 2] ?_; (with_reducible refine (spec_l1Below.calls g s0_0 x1001_1 x1002_1 2 t1330 t1331 t1332 w0 _ ?side1 ?side2 A60.out).mono ?_); (case side1 => repeat (first | (with_reducible first | exact HI0.out | apply IsS152.alloc | apply IsS152.drewN | apply IsS152.drew | apply IsS152.set_1 | apply IsS152.set_2) | exact HI0.out)); (case side2 => repeat (first | (with_reducible first | exact HB.out | apply below_alloc | apply pw_below_drewN | apply below_drew1 | refine below_set ?_ (IsS152.ge HI0.out)) | exact HB.out)); rintro e w64 ⟨rfl, hi, hb, hk⟩; refine ⟨_, rfl, ?_⟩; replace HO_5 := Aside0.mk (Kd.R_mono (Kd.R_keep (IsS152.apart (show IsS152 w0 _ g s0_0 x1001_1 x1002_1 from by repeat (first | (with_reducible first | exact HI0.out | apply IsS152.alloc | apply IsS152.drewN | apply IsS152.drew | apply IsS152.set_1 | apply IsS152.set_2) | exact HI0.out)) (rx_ HO_5.out) (by decide)) hk (fun _ h => h.2)) (fun _ h => h.1)); replace HK := Aside0.mk (KeepBut.trans (by repeat (first | (with_reducible first | exact HK.out | apply KeepBut.set_ | apply keep_drewN | apply keep_drew | apply keep_alloc) | exact HK.out)) hk (.inl rfl)); replace HB := Aside0.mk (hb); replace HI0 := Aside0.mk (hi); (try clear hb); (try clear hk); (try clear hi)) | ((with_reducible refine gate_builtin (b := .append) (xs := #[.tmp 65, .tmp 69]) rfl ?_); at_builtin; refine Kd.R_append k90 w.heap.size rfl (.tmp 65) (.tmp 69) 34 90 (.agg #[(.int .i64 0), (.int .i64 0)]) 16 rfl Try.underlying34 info90 rfl (by decide) (by omega) (.slice Ao63 x5_1.length co63) x5_1 (⟨0, (x5_1.length : Int)⟩ : S90) [.int .i64 0, .int .i64 (x5_1.length : Int)] (fun _ => True) (fun _ => False) rfl rfl ?aP (fun _ hk => hk.elim) ?aF ?aO (Below.refl _ _) ?aS ?aL ?_; (case aP => exact k90_mkM _ _ _ (⟨0, (x5_1.length : Int)⟩ : S90)); (case aF => exact (fun _ _ => trivial)); (case aO => exact (rx_ HO_5.out)); (case aS => exact (keep_size (w := w) (g := g) (row := none) (by repeat (first | (with_reducible first | exact HK.out | apply KeepBut.set_ | apply keep_drewN | apply keep_drew | apply keep_alloc) | exact HK.out)))); (case aL => have := LMc62.out; omega); intro v1334 w65 ho hb hg hat; rw [← Ny1333.out] at ho; replace HB := Aside0.mk (below_weaken (by repeat (first | (with_reducible first | exact HB.out | apply below_alloc | apply pw_below_drewN | apply below_drew1 | refine below_set ?_ (IsS152.ge HI0.out)) | exact HB.out)) HL.out hb); replace HI0 := Aside0.mk (IsS152.grown (by repeat (first | (with_reducible first | exact HI0.out | apply IsS152.alloc | apply IsS152.drewN | apply IsS152.drew | apply IsS152.set_1 | apply IsS152.set_2) | exact HI0.out)) hg (IsS152.own_ne HI0.out HO_5.out (by decide))); replace HK := Aside0.mk (KeepBut.trans (by repeat (first | (with_reducible first | exact HK.out | apply KeepBut.set_ | apply keep_drewN | apply keep_drew | apply keep_alloc) | exact HK.out)) (KeepBut.of_grown hg g) (Kd.R_base2 HO_5.out)); have HO1335 := Aside0.mk (ho); clear HO_5; clear ho hb hg hat))
          go_roundg k1
          case measure => have := HK1.out; omega
          case rel => exact ⟨(y1333), (t1331), (t1332), H', ⟨by have := HK1.out; omega⟩, ⟨rx_ HO1335.out⟩, ⟨by repeat (first | (with_reducible first | exact HI0.out | apply IsS152.alloc | apply IsS152.drewN | apply IsS152.drew | apply IsS152.set_1 | apply IsS152.set_2) | exact HI0.out)⟩, ⟨by repeat (first | (with_reducible first | exact HK.out | apply KeepBut.set_ | apply keep_drewN | apply keep_drew | apply keep_alloc) | exact HK.out)⟩, ⟨by repeat (first | (with_reducible first | exact HB.out | apply below_alloc | apply pw_below_drewN | apply below_drew1 | refine below_set ?_ (IsS152.ge HI0.out)) | exact HB.out)⟩⟩
         ·rw [if_neg c62] at H
          exact absurd H (by simp)
        ·rw [if_neg c61] at H
         have c61b0 : decide ((x5_1.length : Int) < (wrap64 (13 + t1330))) = false := decide_eq_false c61
         clear c61
         simp only [Option.some.injEq, Prod.mk.injEq] at H
         obtain ⟨rfl, rfl, rfl⟩ := H
         obtain ⟨Ao66, co66, eo66⟩ := Kd.R_slice HO_5.out
         subst eo66
         go_wp2_with (first | ((with_reducible refine gate_callee (f := 135) rfl ?_); refine gL_ (some 62) Try.func135 #[.pointer (some ⟨g, 0, none⟩), .int .i64 2] ?_; (with_reducible refine (spec_l1Below.calls g s0_0 x1001_1 x1002_1 2 t1330 t1331 t1332 w0 _ ?side1 ?side2 A60.out).mono ?_); (case side1 => repeat (first | (with_reducible first | exact HI0.out | apply IsS152.alloc | apply IsS152.drewN | apply IsS152.drew | apply IsS152.set_1 | apply IsS152.set_2) | exact HI0.out)); (case side2 => repeat (first | (with_reducible first | exact HB.out | apply below_alloc | apply pw_below_drewN | apply below_drew1 | refine below_set ?_ (IsS152.ge HI0.out)) | exact HB.out)); rintro e w67 ⟨rfl, hi, hb, hk⟩; refine ⟨_, rfl, ?_⟩; replace HO_5 := Aside0.mk (Kd.R_mono (Kd.R_keep (IsS152.apart (show IsS152 w0 _ g s0_0 x1001_1 x1002_1 from by repeat (first | (with_reducible first | exact HI0.out | apply IsS152.alloc | apply IsS152.drewN | apply IsS152.drew | apply IsS152.set_1 | apply IsS152.set_2) | exact HI0.out)) (rx_ HO_5.out) (by decide)) hk (fun _ h => h.2)) (fun _ h => h.1)); replace HK := Aside0.mk (KeepBut.trans (by repeat (first | (with_reducible first | exact HK.out | apply KeepBut.set_ | apply keep_drewN | apply keep_drew | apply keep_alloc) | exact HK.out)) hk (.inl rfl)); replace HB := Aside0.mk (hb); replace HI0 := Aside0.mk (hi); (try clear hb); (try clear hk); (try clear hi)))
         go_ret
         exact ⟨_, ea_, Kd.Q_of_R (rx_ HO_5.out), by repeat (first | (with_reducible first | exact HI0.out | apply IsS152.alloc | apply IsS152.drewN | apply IsS152.drew | apply IsS152.set_1 | apply IsS152.set_2) | exact HI0.out), by repeat (first | (with_reducible first | exact HB.out | apply below_alloc | apply pw_below_drewN | apply below_drew1 | refine below_set ?_ (IsS152.ge HI0.out)) | exact HB.out), by repeat (first | (with_reducible first | exact HK.out | apply KeepBut.set_ | apply keep_drewN | apply keep_drew | apply keep_alloc) | exact HK.out)⟩
     ·rw [if_neg c53] at H
      have c53b0 : (t1303 == 4) = false := beq_eq_false_iff_ne.mpr c53
      have c53b1 : (t1303 != 4) = true := bne_iff_ne.mpr c53
      simp only [Option.some.injEq, Prod.mk.injEq] at H
      obtain ⟨rfl, rfl, rfl⟩ := H
      go_enter Try.func112, Try.ntmps112
      go_wp2_with (first | ((with_reducible refine gate_callee (f := 134) rfl ?_); refine gL_ (some 9) Try.func134 #[.pointer (some ⟨g, 0, none⟩), .int .i64 a1] ?_; (with_reducible refine (spec_l3Tree.calls k g s0_0 s0_1 s0_2 a1 t1295 t1298 t1299 w0 _ ?side1 ?side2 A3.out).mono ?_); (case side1 => repeat (first | (with_reducible first | exact HI0.out | apply IsS152.alloc | apply IsS152.drewN | apply IsS152.drew | apply IsS152.set_1 | apply IsS152.set_2) | exact HI0.out)); (case side2 => repeat (first | (with_reducible first | exact HB.out | apply below_alloc | apply pw_below_drewN | apply below_drew1 | refine below_set ?_ (IsS152.ge HI0.out)) | exact HB.out)); rintro e w68 ⟨v1296, rfl, ho0, hi, hb, hk⟩; refine ⟨_, rfl, ?_⟩; have HO1297 := Aside0.mk (Kd.R_lower ho0 (keep_size (w := w) (g := g) (row := none) (by repeat (first | (with_reducible first | exact HK.out | apply KeepBut.set_ | apply keep_drewN | apply keep_drew | apply keep_alloc) | exact HK.out)))); replace HK := Aside0.mk (KeepBut.trans (by repeat (first | (with_reducible first | exact HK.out | apply KeepBut.set_ | apply keep_drewN | apply keep_drew | apply keep_alloc) | exact HK.out)) hk (.inl rfl)); replace HB := Aside0.mk (hb); replace HI0 := Aside0.mk (hi); (try clear hb); (try clear hk); (try clear hi); (try clear ho0); obtain ⟨Ao69, co69, eo69⟩ := Kd.R_slice HO1297.out; subst eo69) | ((with_reducible refine gate_callee (f := 135) rfl ?_); refine gL_ (some 13) Try.func135 #[.pointer (some ⟨g, 0, none⟩), .int .i64 (t1295.length : Int)] ?_; (with_reducible refine (spec_l1Below.calls g s0_0 t1298 t1299 (t1295.length : Int) t1300 t1301 t1302 w0 _ ?side1 ?side2 A4.out).mono ?_); (case side1 => repeat (first | (with_reducible first | exact HI0.out | apply IsS152.alloc | apply IsS152.drewN | apply IsS152.drew | apply IsS152.set_1 | apply IsS152.set_2) | exact HI0.out)); (case side2 => repeat (first | (with_reducible first | exact HB.out | apply below_alloc | apply pw_below_drewN | apply below_drew1 | refine below_set ?_ (IsS152.ge HI0.out)) | exact HB.out)); rintro e w70 ⟨rfl, hi, hb, hk⟩; refine ⟨_, rfl, ?_⟩; replace HO1297 := Aside0.mk (Kd.R_mono (Kd.R_keep (IsS152.apart (show IsS152 w0 _ g s0_0 t1298 t1299 from by repeat (first | (with_reducible first | exact HI0.out | apply IsS152.alloc | apply IsS152.drewN | apply IsS152.drew | apply IsS152.set_1 | apply IsS152.set_2) | exact HI0.out)) (rx_ HO1297.out) (by decide)) hk (fun _ h => h.2)) (fun _ h => h.1)); replace HK := Aside0.mk (KeepBut.trans (by repeat (first | (with_reducible first | exact HK.out | apply KeepBut.set_ | apply keep_drewN | apply keep_drew | apply keep_alloc) | exact HK.out)) hk (.inl rfl)); replace HB := Aside0.mk (hb); replace HI0 := Aside0.mk (hi); (try clear hb); (try clear hk); (try clear hi)) | ((with_reducible refine gate_callee (f := 135) rfl ?_); refine gL_ (some 15) Try.func135 #[.pointer (some ⟨g, 0, none⟩), .int .i64 18] ?_; (with_reducible refine (spec_l1Below.calls g s0_0 t1301 t1302 18 t1303 t1304 t1305 w0 _ ?side1 ?side2 A5.out).mono ?_); (case side1 => repeat (first | (with_reducible first | exact HI0.out | apply IsS152.alloc | apply IsS152.drewN | apply IsS152.drew | apply IsS152.set_1 | apply IsS152.set_2) | exact HI0.out)); (case side2 => repeat (first | (with_reducible first | exact HB.out | apply below_alloc | apply pw_below_drewN | apply below_drew1 | refine below_set ?_ (IsS152.ge HI0.out)) | exact HB.out)); rintro e w71 ⟨rfl, hi, hb, hk⟩; refine ⟨_, rfl, ?_⟩; replace HO1297 := Aside0.mk (Kd.R_mono (Kd.R_keep (IsS152.apart (show IsS152 w0 _ g s0_0 t1301 t1302 from by repeat (first | (with_reducible first | exact HI0.out | apply IsS152.alloc | apply IsS152.drewN | apply IsS152.drew | apply IsS152.set_1 | apply IsS152.set_2) | exact HI0.out)) (rx_ HO1297.out) (by decide)) hk (fun _ h => h.2)) (fun _ h => h.1)); replace HK := Aside0.mk (KeepBut.trans (by repeat (first | (with_reducible first | exact HK.out | apply KeepBut.set_ | apply keep_drewN | apply keep_drew | apply keep_alloc) | exact HK.out)) hk (.inl rfl)); replace HB := Aside0.mk (hb); replace HI0 := Aside0.mk (hi); (try clear hb); (try clear hk); (try clear hi)))
      go_ret
      exact ⟨_, ea_, Kd.Q_of_R (rx_ HO1297.out), by repeat (first | (with_reducible first | exact HI0.out | apply IsS152.alloc | apply IsS152.drewN | apply IsS152.drew | apply IsS152.set_1 | apply IsS152.set_2) | exact HI0.out), by repeat (first | (with_reducible first | exact HB.out | apply below_alloc | apply pw_below_drewN | apply below_drew1 | refine below_set ?_ (IsS152.ge HI0.out)) | exact HB.out), by repeat (first | (with_reducible first | exact HK.out | apply KeepBut.set_ | apply keep_drewN | apply keep_drew | apply keep_alloc) | exact HK.out)⟩
end Go.Proofs.Ytbifdckfglejkaa.X
namespace Go.Proofs.Ytbifdckfglejkaa.X
open Go.RowKit Go.Proofs.YtbifdckfglejkaaW.PrintWords Go.Proofs.YtbifdckfglejkaaW.PrintLast Go.Proofs.YtbifdckfglejkaaW.PrintMore
attribute [local go_sem] max2_int min2_int max_two min_two max_three min_three max_four min_four   -- for this text's walks alone
set_option linter.unusedVariables false
set_option linter.unusedSimpArgs false
def spec_ParentOf.l0 : Nat → List (S90) → Int → Int → Option (Int)
 | 0, _, _, _ => none
 | k + 1, x0, x1, x5 => if x5 ≥ 0 then (if 0 ≤ x5 then (if x5 < (x0.length : Int) then (if 0 ≤ x1 then (if x1 < (x0.length : Int) then (if ((rd_T90 x0 x5).f1) ≥ ((rd_T90 x0 x1).f1) then (spec_ParentOf.l0 k x0 x1 (wrap64 (x5 - 1))) else (some x5)) else (none)) else (none)) else (none)) else (none)) else (some x5)
def spec_ParentOf.f (k : Nat) (l0 : List (S90)) (a1 : Int) : Option (Int) := (spec_l3At.f k l0 a1).bind fun t1336 => (if t1336 = true then (spec_ParentOf.l0 k l0 a1 (wrap64 (a1 - 1))) else (some (-1)))
set_option maxHeartbeats 8000000 in
set_option maxRecDepth 100000 in
theorem spec_ParentOf.calls (k : Nat) (A0 : Option Addr) (c0 : Nat) (l0 : List (S90)) (a1 : Int) (r : Int) (w : World) (hr0 : Kd.C k90 w A0 l0.length l0) (hc0 : l0.length ≤ c0) (h : spec_ParentOf.f k l0 a1 = some r) :
  Calls Try.prog 148 #[.slice A0 l0.length c0, .int .i64 a1] w fun e w' => e = .returned (.int .i64 r) ∧ Below w.heap.size w w' := by
 have HR0 := Aside0.mk hr0
 have HC0 := Aside0.mk hc0
 clear hr0 hc0
 have HB := Aside0.mk (Below.refl w.heap.size w)
 have H : ((spec_l3At.f k l0 a1).bind fun t1336 => (if t1336 = true then (spec_ParentOf.l0 k l0 a1 (wrap64 (a1 - 1))) else (some (-1)))) = some r := h
 clear h
 replace H := Option.bind_eq_some_iff.mp H
 obtain ⟨t1336, A30, H⟩ := H
 replace H : (if t1336 = true then (spec_ParentOf.l0 k l0 a1 (wrap64 (a1 - 1))) else (some (-1))) = some r := H
 have A3 := Aside0.mk A30
 clear A30
 by_cases c4 : t1336 = true
 ·subst c4
  have H1 : (spec_ParentOf.l0 k l0 a1 (wrap64 (a1 - 1))) = some r := by rw [if_pos rfl] at H; exact H
  clear H
  have H := H1
  clear H1
  have H' := Aside0.mk H
  clear H
  go_enter Try.func148, Try.ntmps148
  go_wp2_with (first | (go_at_call 114; (with_reducible refine (spec_l3At.calls k _ _ l0 a1 true _ (cc_ HR0.out) HC0.out A3.out).mono ?_); rintro e w5 ⟨rfl, hb⟩; replace HB := tB_ HB hb; (try clear hb)))
  repeat (go_quiet (first | (go_at_call 114; (with_reducible refine (spec_l3At.calls k _ _ l0 a1 true _ (cc_ HR0.out) HC0.out A3.out).mono ?_); rintro e w5 ⟨rfl, hb⟩; replace HB := tB_ HB hb; (try clear hb))); try go_wp2_with (first | (go_at_call 114; (with_reducible refine (spec_l3At.calls k _ _ l0 a1 true _ (cc_ HR0.out) HC0.out A3.out).mono ?_); rintro e w5 ⟨rfl, hb⟩; replace HB := tB_ HB hb; (try clear hb))))
  go_loopg [5] k (fun kq v5 w' => ∃ (x5_1 : Int), v5 = .int .i64 x5_1 ∧ Aside0 (spec_ParentOf.l0 kq l0 a1 x5_1 = some r) ∧ Aside0 (kq ≤ k) ∧ Aside0 (Below w.heap.size w w'))
  case atStart => exact ⟨(wrap64 (a1 - 1)), eb_, H', ⟨Nat.le_refl _⟩, bl_ HB⟩
  case round =>
   clear H'
   try clear c1
   try clear p2
   try clear c4
   obtain ⟨x5_1, rfl, HA, HK1, HB⟩ := hrel
   cases gk with
   | zero => exact absurd HA.out (by simp [spec_ParentOf.l0])
   | succ k1 =>
    have H := HA.out
    clear HA
    simp only [spec_ParentOf.l0] at H
    by_cases c6 : x5_1 ≥ 0
    ·rw [if_pos c6] at H
     have c6b0 : decide (0 ≤ x5_1) = true := decide_eq_true c6
     clear c6
     by_cases c7 : 0 ≤ x5_1
     ·rw [if_pos c7] at H
      have c7b0 : decide (0 ≤ x5_1) = true := decide_eq_true c7
      clear c7
      by_cases c8 : x5_1 < (l0.length : Int)
      ·rw [if_pos c8] at H
       have c8b0 : decide (x5_1 < (l0.length : Int)) = true := decide_eq_true c8
       clear c8
       by_cases c9 : 0 ≤ a1
       ·rw [if_pos c9] at H
        have c9b0 : decide (0 ≤ a1) = true := decide_eq_true c9
        clear c9
        by_cases c10 : a1 < (l0.length : Int)
        ·rw [if_pos c10] at H
         have c10b0 : decide (a1 < (l0.length : Int)) = true := decide_eq_true c10
         clear c10
         by_cases c11 : ((rd_T90 l0 x5_1).f1) ≥ ((rd_T90 l0 a1).f1)
         ·rw [if_pos c11] at H
          have c11b0 : decide (((rd_T90 l0 a1).f1) ≤ ((rd_T90 l0 x5_1).f1)) = true := decide_eq_true c11
          clear c11
          have H' := Aside0.mk H
          clear H
          have p1337 : 0 ≤ (x5_1 : Int) := od_
          have q1337 : x5_1 < (l0.length : Int) := od_
          obtain ⟨ad1337, e1337, hx1337_0, hx1337_1⟩ := at_T90 HR0.out x5_1 p1337 q1337
          cases e1337
          replace hx1337_0 := ce_ HB hx1337_0
          replace hx1337_1 := ce_ HB hx1337_1
          replace p1337 := eq_true p1337
          replace q1337 := eq_true q1337
          have p1338 : 0 ≤ (a1 : Int) := od_
          have q1338 : a1 < (l0.length : Int) := od_
          obtain ⟨ad1338, e1338, hx1338_0, hx1338_1⟩ := at_T90 HR0.out a1 p1338 q1338
          obtain rfl : ad1337 = ad1338 := (by injection e1338)
          replace hx1338_0 := ce_ HB hx1338_0
          replace hx1338_1 := ce_ HB hx1338_1
          replace p1338 := eq_true p1338
          replace q1338 := eq_true q1338
          go_wp2
          repeat (go_quiet (fail); try go_wp2)
          go_roundg k1
          case measure => have := HK1.out; omega
          case rel => exact ⟨(wrap64 (x5_1 - 1)), eb_, H', ⟨by have := HK1.out; omega⟩, bl_ HB⟩
         ·rw [if_neg c11] at H
          have c11b0 : decide (((rd_T90 l0 a1).f1) ≤ ((rd_T90 l0 x5_1).f1)) = false := decide_eq_false c11
          clear c11
          obtain rfl := Option.some.inj H
          have p1337 : 0 ≤ (x5_1 : Int) := od_
          have q1337 : x5_1 < (l0.length : Int) := od_
          obtain ⟨ad1337, e1337, hx1337_0, hx1337_1⟩ := at_T90 HR0.out x5_1 p1337 q1337
          cases e1337
          replace hx1337_0 := ce_ HB hx1337_0
          replace hx1337_1 := ce_ HB hx1337_1
          replace p1337 := eq_true p1337
          replace q1337 := eq_true q1337
          have p1338 : 0 ≤ (a1 : Int) := od_
          have q1338 : a1 < (l0.length : Int) := od_
          obtain ⟨ad1338, e1338, hx1338_0, hx1338_1⟩ := at_T90 HR0.out a1 p1338 q1338
          obtain rfl : ad1337 = ad1338 := (by injection e1338)
          replace hx1338_0 := ce_ HB hx1338_0
          replace hx1338_1 := ce_ HB hx1338_1
          replace p1338 := eq_true p1338
          replace q1338 := eq_true q1338
          go_wp2
          repeat (go_quiet (fail); try go_wp2)
          go_ret
          exact ⟨ea_, (bl_ HB).out⟩
        ·rw [if_neg c10] at H
         exact absurd H (by simp)
       ·rw [if_neg c9] at H
        exact absurd H (by simp)
      ·rw [if_neg c8] at H
       exact absurd H (by simp)
     ·rw [if_neg c7] at H
      exact absurd H (by simp)
    ·rw [if_neg c6] at H
     have c6b0 : decide (0 ≤ x5_1) = false := decide_eq_false c6
     clear c6
     obtain rfl := Option.some.inj H
     go_wp2
     repeat (go_quiet (fail); try go_wp2)
     go_ret
     exact ⟨ea_, (bl_ HB).out⟩
 ·replace c4 := Bool.eq_false_iff.mpr c4
  subst c4
  have H1 : (some (-1)) = some r := by rw [if_neg (show ¬ (false = true) by decide)] at H; exact H
  clear H
  have H := H1
  clear H1
  obtain rfl := Option.some.inj H
  go_enter Try.func148, Try.ntmps148
  go_wp2_with (first | (go_at_call 114; (with_reducible refine (spec_l3At.calls k _ _ l0 a1 false _ (cc_ HR0.out) HC0.out A3.out).mono ?_); rintro e w12 ⟨rfl, hb⟩; replace HB := tB_ HB hb; (try clear hb)))
  repeat (go_quiet (first | (go_at_call 114; (with_reducible refine (spec_l3At.calls k _ _ l0 a1 false _ (cc_ HR0.out) HC0.out A3.out).mono ?_); rintro e w12 ⟨rfl, hb⟩; replace HB := tB_ HB hb; (try clear hb))); try go_wp2_with (first | (go_at_call 114; (with_reducible refine (spec_l3At.calls k _ _ l0 a1 false _ (cc_ HR0.out) HC0.out A3.out).mono ?_); rintro e w12 ⟨rfl, hb⟩; replace HB := tB_ HB hb; (try clear hb))))
  go_ret
  exact ⟨ea_, (bl_ HB).out⟩
end Go.Proofs.Ytbifdckfglejkaa.X
namespace Go.Proofs.Ytbifdckfglejkaa.X
open Go.RowKit Go.Proofs.YtbifdckfglejkaaW.PrintWords Go.Proofs.YtbifdckfglejkaaW.PrintLast Go.Proofs.YtbifdckfglejkaaW.PrintMore
attribute [local go_sem] max2_int min2_int max_two min_two max_three min_three max_four min_four   -- for this text's walks alone
set_option linter.unusedVariables false
set_option linter.unusedSimpArgs false
def spec_KidRank.l0 : Nat → Int → List Int → Int → Option (Int)
 | 0, _, _, _ => none
 | k + 1, x1, x6, x7 => if x7 < (x6.length : Int) then (if 0 ≤ x7 then (if (rd x6 x7) = x1 then (some x7) else (spec_KidRank.l0 k x1 x6 (wrap64 (x7 + 1)))) else (none)) else (some (-1))
def spec_KidRank.f (k : Nat) (l0 : List (S90)) (a1 : Int) : Option (Int) := (spec_ParentOf.f k l0 a1).bind fun t1339 => (if t1339 < 0 then (some (-1)) else ((spec_KidsOf.f k l0 t1339).bind fun t1340 => (spec_KidRank.l0 k a1 t1340 0)))
set_option maxHeartbeats 8000000 in
set_option maxRecDepth 100000 in
theorem spec_KidRank.calls (k : Nat) (A0 : Option Addr) (c0 : Nat) (l0 : List (S90)) (a1 : Int) (r : Int) (w : World) (hr0 : Kd.C k90 w A0 l0.length l0) (hc0 : l0.length ≤ c0) (h : spec_KidRank.f k l0 a1 = some r) :
  Calls Try.prog 147 #[.slice A0 l0.length c0, .int .i64 a1] w fun e w' => e = .returned (.int .i64 r) ∧ Below w.heap.size w w' := by
 have HR0 := Aside0.mk hr0
 have HC0 := Aside0.mk hc0
 clear hr0 hc0
 have HB := Aside0.mk (Below.refl w.heap.size w)
 have H : ((spec_ParentOf.f k l0 a1).bind fun t1339 => (if t1339 < 0 then (some (-1)) else ((spec_KidsOf.f k l0 t1339).bind fun t1340 => (spec_KidRank.l0 k a1 t1340 0)))) = some r := h
 clear h
 replace H := Option.bind_eq_some_iff.mp H
 obtain ⟨t1339, A30, H⟩ := H
 try dsimp only at H
 have A3 := Aside0.mk A30
 clear A30
 by_cases c4 : t1339 < 0
 ·rw [if_pos c4] at H
  have c4b0 : decide (t1339 < 0) = true := decide_eq_true c4
  clear c4
  obtain rfl := Option.some.inj H
  go_enter Try.func147, Try.ntmps147
  go_wp2_with (first | ((with_reducible refine gate_callee (f := 148) rfl ?_); refine gL_ (some 10) Try.func148 #[.slice A0 l0.length c0, .int .i64 a1] ?_; (with_reducible refine (spec_ParentOf.calls k _ _ l0 a1 t1339 _ (cc_ HR0.out) HC0.out A3.out).mono ?_); rintro e w5 ⟨rfl, hb⟩; refine ⟨_, rfl, ?_⟩; replace HB := tB_ HB hb; (try clear hb)))
  go_ret
  exact ⟨ea_, (bl_ HB).out⟩
 ·rw [if_neg c4] at H
  have c4b0 : decide (t1339 < 0) = false := decide_eq_false c4
  clear c4
  replace H := Option.bind_eq_some_iff.mp H
  obtain ⟨t1340, A60, H⟩ := H
  replace H : (spec_KidRank.l0 k a1 t1340 0) = some r := H
  have A6 := Aside0.mk A60
  clear A60
  have H' := Aside0.mk H
  clear H
  go_enter Try.func147, Try.ntmps147
  go_wp2_with (first | ((with_reducible refine gate_callee (f := 148) rfl ?_); refine gL_ (some 10) Try.func148 #[.slice A0 l0.length c0, .int .i64 a1] ?_; (with_reducible refine (spec_ParentOf.calls k _ _ l0 a1 t1339 _ (cc_ HR0.out) HC0.out A3.out).mono ?_); rintro e w7 ⟨rfl, hb⟩; refine ⟨_, rfl, ?_⟩; replace HB := tB_ HB hb; (try clear hb)) | ((with_reducible refine gate_callee (f := 61) rfl ?_); refine gL_ (some 15) Try.func61 #[.slice A0 l0.length c0, .int .i64 t1339] ?_; (with_reducible refine (spec_KidsOf.calls k _ _ l0 t1339 t1340 _ (cx_ HR0 HB) HC0.out A6.out).mono ?_); rintro e w8 ⟨v1341, rfl, ho0, hb⟩; refine ⟨_, rfl, ?_⟩; have HO1342 := Aside0.mk (Kd.R_lower ho0 (bs_ HB)); replace HB := tB_ HB hb; (try clear hb); (try clear ho0)))
  go_loopg [7] k (fun kq v7 w' => ∃ (x7_1 : Int), v7 = .int .i64 x7_1 ∧ Aside0 (spec_KidRank.l0 kq a1 t1340 x7_1 = some r) ∧ Aside0 (kq ≤ k) ∧ Aside0 (Kd.R (Kd.int .i64) 3 w' w.heap.size (fun _ => True) v1341 t1340) ∧ Aside0 (Below w.heap.size w w'))
  case atStart => exact ⟨(0), eb_, H', ⟨Nat.le_refl _⟩, ⟨rx_ HO1342.out⟩, bl_ HB⟩
  case round =>
   clear H'
   try clear c1
   try clear p2
   try clear c4
   try clear c4b0
   try clear c6
   obtain ⟨x7_1, rfl, HA, HK1, HO_6, HB⟩ := hrel
   cases gk with
   | zero => exact absurd HA.out (by simp [spec_KidRank.l0])
   | succ k1 =>
    have H := HA.out
    clear HA
    simp only [spec_KidRank.l0] at H
    by_cases c9 : x7_1 < (t1340.length : Int)
    ·rw [if_pos c9] at H
     have c9b0 : decide (x7_1 < (t1340.length : Int)) = true := decide_eq_true c9
     clear c9
     by_cases c10 : 0 ≤ x7_1
     ·rw [if_pos c10] at H
      have c10b0 : decide (0 ≤ x7_1) = true := decide_eq_true c10
      clear c10
      by_cases c11 : (rd t1340 x7_1) = a1
      ·rw [if_pos c11] at H
       have c11b0 : ((rd t1340 x7_1) == a1) = true := beq_iff_eq.mpr c11
       have c11b1 : ((rd t1340 x7_1) != a1) = false := bne_eq_false_iff_eq.mpr c11
       clear c11
       obtain rfl := Option.some.inj H
       obtain ⟨Ao12, co12, eo12⟩ := Kd.R_slice HO_6.out
       subst eo12
       have p1343 : 0 ≤ (x7_1 : Int) := od_
       have q1343 : x7_1 < (t1340.length : Int) := od_
       obtain ⟨ad1343, e1343, hx1343_0⟩ := Kd.at_int (Kd.R_reads' HO_6.out).2.2 x7_1 p1343 q1343
       cases e1343
       replace p1343 := eq_true p1343
       replace q1343 := eq_true q1343
       go_wp2
       go_ret
       exact ⟨ea_, (bl_ HB).out⟩
      ·rw [if_neg c11] at H
       have c11b0 : ((rd t1340 x7_1) == a1) = false := beq_eq_false_iff_ne.mpr c11
       have c11b1 : ((rd t1340 x7_1) != a1) = true := bne_iff_ne.mpr c11
       have H' := Aside0.mk H
       clear H
       obtain ⟨Ao13, co13, eo13⟩ := Kd.R_slice HO_6.out
       subst eo13
       have p1343 : 0 ≤ (x7_1 : Int) := od_
       have q1343 : x7_1 < (t1340.length : Int) := od_
       obtain ⟨ad1343, e1343, hx1343_0⟩ := Kd.at_int (Kd.R_reads' HO_6.out).2.2 x7_1 p1343 q1343
       cases e1343
       replace p1343 := eq_true p1343
       replace q1343 := eq_true q1343
       go_wp2
       go_roundg k1
       case measure => have := HK1.out; omega
       case rel => exact ⟨(wrap64 (x7_1 + 1)), eb_, H', ⟨by have := HK1.out; omega⟩, ⟨rx_ HO_6.out⟩, bl_ HB⟩
     ·rw [if_neg c10] at H
      exact absurd H (by simp)
    ·rw [if_neg c9] at H
     have c9b0 : decide (x7_1 < (t1340.length : Int)) = false := decide_eq_false c9
     clear c9
     obtain rfl := Option.some.inj H
     obtain ⟨Ao14, co14, eo14⟩ := Kd.R_slice HO_6.out
     subst eo14
     go_wp2
     go_ret
     exact ⟨ea_, (bl_ HB).out⟩
end Go.Proofs.Ytbifdckfglejkaa.X
namespace Go.Proofs.Ytbifdckfglejkaa.X
open Go.RowKit Go.Proofs.YtbifdckfglejkaaW.PrintWords Go.Proofs.YtbifdckfglejkaaW.PrintLast Go.Proofs.YtbifdckfglejkaaW.PrintMore
attribute [local go_sem] max2_int min2_int max_two min_two max_three min_three max_four min_four   -- for this text's walks alone
set_option linter.unusedVariables false
set_option linter.unusedSimpArgs false
def spec_PathOf.l0 : Nat → List (S90) → List Int → Int → Option (List Int)
 | 0, _, _, _ => none
 | k + 1, x0, x5, x6 => (spec_KidRank.f k x0 x6).bind fun t1347 => (if t1347 ≥ 0 then ((spec_KidRank.f k x0 x6).bind fun t1348 => ((some (([t1348] : List Int) : List Int)).bind fun y1349 => (if y1349.length + x5.length < 17592186044416 then ((spec_ParentOf.f k x0 x6).bind fun t1355 => (spec_PathOf.l0 k x0 (y1349 ++ x5) t1355)) else (none)))) else (some x5))
def spec_PathOf.f (k : Nat) (l0 : List (S90)) (a1 : Int) : Option (List Int) := spec_PathOf.l0 k l0 (([] : List Int)) a1
set_option maxHeartbeats 8000000 in
set_option maxRecDepth 100000 in
theorem spec_PathOf.calls (k : Nat) (A0 : Option Addr) (c0 : Nat) (l0 : List (S90)) (a1 : Int) (r : List Int) (w : World) (hr0 : Kd.C k90 w A0 l0.length l0) (hc0 : l0.length ≤ c0) (h : spec_PathOf.f k l0 a1 = some r) :
  Calls Try.prog 138 #[.slice A0 l0.length c0, .int .i64 a1] w fun e w' => ∃ v0_ : Value, e = .returned (v0_) ∧ Kd.R (Kd.int .i64) 3 w' w.heap.size (fun _ => True) v0_ r ∧ Below w.heap.size w w' := by
 have HR0 := Aside0.mk hr0
 have HC0 := Aside0.mk hc0
 clear hr0 hc0
 have HB := Aside0.mk (Below.refl w.heap.size w)
 have H : (spec_PathOf.l0 k l0 (([] : List Int)) a1) = some r := h
 clear h
 obtain ⟨y1344, hy1344⟩ : ∃ y_ : List Int, y_ = (([] : List Int)) := ⟨_, rfl⟩
 replace H : (spec_PathOf.l0 k l0 y1344 a1) = some r := by first | (rw [hy1344]; with_reducible exact H) | (have H2_ := (Option.bind_some _ _).symm.trans H; rw [hy1344]; with_reducible exact H2_) | (have H2_ := (Option.bind_some _ _).symm.trans H; with_reducible exact H2_) | with_reducible exact H | (rw [hy1344]; exact H) | exact H
 have Ny1344 := Aside0.mk hy1344
 clear hy1344
 have H' := Aside0.mk H
 clear H
 go_enter Try.func138, Try.ntmps138
 go_wp2_with (first | ((with_reducible refine gate_dst (N := 7) rfl ?_); refine Kd.R_lit (Kd.int .i64) _ 3 ?hg (N := 7) ?hd (xs := ([] : List Int)) (inner := []) (ok := fun _ => True) (okp := fun _ => True) ?hr ?hp (fun _ hk => hk) trivial (Below.refl _ _) (Nat.le_refl _) (by simp) ?_; (case hd => rfl); (case hg => rfl); (case hr => first | (go_simp; done) | (go_simp; rfl)); (case hp => exact (Reps.none _ _)); intro v1345 w3 ho4 hb hg_ hnew_; clear hg_ hnew_; (first | rw [← Ny1344.out] at ho4 | (simp only [Int.reduceToNat] at ho4; rw [← Ny1344.out] at ho4)); have HO1346 := Aside0.mk (Kd.R_lower ho4 (bs_ HB)); replace HB := tB_ HB hb; clear hb ho4))
 go_loopg [5, 6] k (fun kq v5 v6 w' => ∃ (x5_1 : List Int) (x6_1 : Int), v6 = .int .i64 x6_1 ∧ Aside0 (spec_PathOf.l0 kq l0 x5_1 x6_1 = some r) ∧ Aside0 (kq ≤ k) ∧ Aside0 (Kd.R (Kd.int .i64) 3 w' w.heap.size (fun _ => True) v5 x5_1) ∧ Aside0 (Below w.heap.size w w'))
 case atStart => exact ⟨(y1344), (a1), eb_, H', ⟨Nat.le_refl _⟩, ⟨rx_ HO1346.out⟩, bl_ HB⟩
 case round =>
  clear H'
  try clear c1
  try clear p2
  obtain ⟨x5_1, x6_1, rfl, HA, HK1, HO_5, HB⟩ := hrel
  cases gk with
  | zero => exact absurd HA.out (by simp [spec_PathOf.l0])
  | succ k1 =>
   have H := HA.out
   clear HA
   simp only [spec_PathOf.l0] at H
   replace H := Option.bind_eq_some_iff.mp H
   obtain ⟨t1347, A50, H⟩ := H
   try dsimp only at H
   have A5 := Aside0.mk A50
   clear A50
   by_cases c6 : t1347 ≥ 0
   ·rw [if_pos c6] at H
    have c6b0 : decide (0 ≤ t1347) = true := decide_eq_true c6
    clear c6
    replace H := Option.bind_eq_some_iff.mp H
    obtain ⟨t1348, A70, H⟩ := H
    try dsimp only at H
    have A7 := Aside0.mk A70
    clear A70
    obtain ⟨y1349, hy1349⟩ : ∃ y_ : List Int, y_ = (([t1348] : List Int)) := ⟨_, rfl⟩
    replace H : (if y1349.length + x5_1.length < 17592186044416 then ((spec_ParentOf.f k1 l0 x6_1).bind fun t1355 => (spec_PathOf.l0 k1 l0 (y1349 ++ x5_1) t1355)) else (none)) = some r := by first | (rw [hy1349]; with_reducible exact H) | (have H2_ := (Option.bind_some _ _).symm.trans H; rw [hy1349]; with_reducible exact H2_) | (have H2_ := (Option.bind_some _ _).symm.trans H; with_reducible exact H2_) | with_reducible exact H | (rw [hy1349]; exact H) | exact H
    have Ny1349 := Aside0.mk hy1349
    clear hy1349
    by_cases c8 : y1349.length + x5_1.length < 17592186044416
    ·rw [if_pos c8] at H
     have LMc8 := Aside0.mk c8
     clear c8
     obtain ⟨y1352, hy1352⟩ : ∃ y_ : List Int, y_ = (y1349 ++ x5_1) := ⟨_, rfl⟩
     replace H : ((spec_ParentOf.f k1 l0 x6_1).bind fun t1355 => (spec_PathOf.l0 k1 l0 y1352 t1355)) = some r := by first | (rw [hy1352]; with_reducible exact H) | (have H2_ := (Option.bind_some _ _).symm.trans H; rw [hy1352]; with_reducible exact H2_) | (have H2_ := (Option.bind_some _ _).symm.trans H; with_reducible exact H2_) | with_reducible exact H | (rw [hy1352]; exact H) | exact H
     have Ny1352 := Aside0.mk hy1352
     clear hy1352
     replace H := Option.bind_eq_some_iff.mp H
     obtain ⟨t1355, A90, H⟩ := H
     replace H : (spec_PathOf.l0 k1 l0 y1352 t1355) = some r := H
     have A9 := Aside0.mk A90
     clear A90
     have H' := Aside0.mk H
     clear H
     go_wp2_with (first | ((with_reducible refine gate_callee (f := 147) rfl ?_); refine gL_ (some 11) Try.func147 #[.slice A0 l0.length c0, .int .i64 x6_1] ?_; (with_reducible refine (spec_KidRank.calls k1 _ _ l0 x6_1 t1347 _ (cx_ HR0 HB) HC0.out A5.out).mono ?_); rintro e w10 ⟨rfl, hb⟩; refine ⟨_, rfl, ?_⟩; replace HO_5 := tR_ HO_5 hb; replace HB := tB_ HB hb; (try clear hb)) | ((with_reducible refine gate_callee (f := 147) rfl ?_); refine gL_ (some 18) Try.func147 #[.slice A0 l0.length c0, .int .i64 x6_1] ?_; (with_reducible refine (spec_KidRank.calls k1 _ _ l0 x6_1 t1348 _ (cx_ HR0 HB) HC0.out A7.out).mono ?_); rintro e w11 ⟨rfl, hb⟩; refine ⟨_, rfl, ?_⟩; replace HO_5 := tR_ HO_5 hb; replace HB := tB_ HB hb; (try clear hb)) | ((with_reducible refine gate_dst (N := 19) rfl ?_); refine Kd.R_lit (Kd.int .i64) _ 3 ?hg (N := 19) ?hd (xs := ([t1348] : List Int)) (inner := [.int .i64 t1348]) (ok := fun _ => True) (okp := fun _ => True) ?hr ?hp (fun _ hk => hk) trivial (Below.refl _ _) (Nat.le_refl _) (by simp) ?_; (case hd => rfl); (case hg => rfl); (case hr => first | (go_simp; done) | (go_simp; rfl)); (case hp => exact (Reps.one (show Kd.M (Kd.int .i64) _ _ _ t1348 [.int .i64 t1348] from rfl) (Reps.none _ _))); intro v1350 w12 ho13 hb hg_ hnew_; clear hg_ hnew_; (first | rw [← Ny1349.out] at ho13 | (simp only [Int.reduceToNat] at ho13; rw [← Ny1349.out] at ho13)); have HO1351 := Aside0.mk (Kd.R_lower (Kd.R_new' ho13 (Kd.R_lt (rx_ HO_5.out))) (bs_ HB)); replace HO_5 := Aside0.mk (Kd.R_elder' (rx_ HO_5.out) (Kd.R_base ho13) hb); replace HB := tB_ HB hb; clear hb ho13; obtain ⟨Ao15, co15, eo15⟩ := Kd.R_slice HO_5.out; subst eo15) | ((with_reducible refine gate_builtin (b := .append) (xs := #[.tmp 19, .tmp 20]) rfl ?_); at_builtin; refine Kd.R_append_rows (Kd.int .i64) (w0 := w) w.heap.size rfl (.tmp 19) (.tmp 20) 39 3 (.int .i64 0) 8 rfl Try.underlying39 info3 rfl (by decide) (by omega) v1350 y1349 x5_1 _ _ _ (fun k_ => some k_ ≠ (.slice Ao15 x5_1.length co15 : Value).ownBlock) (fun _ => False) rfl rfl ?aO ?aR (fun _ _ h => h) (fun _ h => h.elim) ?aF ?aB ?aS ?aL ?_; (case aR => exact cc_ (Kd.R_reads' HO_5.out).2.2); (case aB => exact ((bl_ HB).out)); (case aF => exact (fun k_ hk => Kd.fresh' (Kd.R_lt (rx_ HO_5.out)) k_ hk)); (case aO => exact (rx_ (Kd.R_mono HO1351.out (fun _ hk => hk.2)))); (case aS => exact (bs_ HB)); (case aL => have := LMc8.out; omega); intro v1353 w14 ho hb hg hat; rw [← Ny1352.out] at ho; replace HO_5 := Aside0.mk (Kd.R_after (ok := (fun _ => True)) (rx_ HO_5.out) hg hat); replace HB := Aside0.mk (hb); have HO1354 := Aside0.mk (ho); clear HO1351; clear ho hb hg hat) | ((with_reducible refine gate_callee (f := 148) rfl ?_); refine gL_ (some 15) Try.func148 #[.slice A0 l0.length c0, .int .i64 x6_1] ?_; (with_reducible refine (spec_ParentOf.calls k1 _ _ l0 x6_1 t1355 _ (cx_ HR0 HB) HC0.out A9.out).mono ?_); rintro e w16 ⟨rfl, hb⟩; refine ⟨_, rfl, ?_⟩; replace HO_5 := tR_ HO_5 hb; replace HO1354 := tR_ HO1354 hb; replace HB := tB_ HB hb; (try clear hb)))
     go_roundg k1
     case measure => have := HK1.out; omega
     case rel => exact ⟨(y1352), (t1355), eb_, H', ⟨by have := HK1.out; omega⟩, ⟨rx_ (Kd.R_mono HO1354.out (fun _ hk => trivial))⟩, bl_ HB⟩
    ·rw [if_neg c8] at H
     exact absurd H (by simp)
   ·rw [if_neg c6] at H
    have c6b0 : decide (0 ≤ t1347) = false := decide_eq_false c6
    clear c6
    obtain rfl := Option.some.inj H
    go_wp2_with (first | ((with_reducible refine gate_callee (f := 147) rfl ?_); refine gL_ (some 11) Try.func147 #[.slice A0 l0.length c0, .int .i64 x6_1] ?_; (with_reducible refine (spec_KidRank.calls k1 _ _ l0 x6_1 t1347 _ (cx_ HR0 HB) HC0.out A5.out).mono ?_); rintro e w17 ⟨rfl, hb⟩; refine ⟨_, rfl, ?_⟩; replace HO_5 := tR_ HO_5 hb; replace HB := tB_ HB hb; (try clear hb)))
    go_ret
    exact ⟨_, ea_, rx_ HO_5.out, (bl_ HB).out⟩
end Go.Proofs.Ytbifdckfglejkaa.X
namespace Go.Proofs.Ytbifdckfglejkaa.X
open Go.RowKit Go.Proofs.YtbifdckfglejkaaW.PrintWords Go.Proofs.YtbifdckfglejkaaW.PrintLast Go.Proofs.YtbifdckfglejkaaW.PrintMore
attribute [local go_sem] max2_int min2_int max_two min_two max_three min_three max_four min_four   -- for this text's walks alone
set_option linter.unusedVariables false
set_option linter.unusedSimpArgs false
mutual
def spec_l13Op.j0 : Nat → List (S90) → List Int → Int → Int → Int → List Int → Int → Int → Int → Option (Int × List Int × Int × Int × Int × Int × Int)
 | 0, _, _, _, _, _, _, _, _, _ => none
 | k + 1, x1, x1000, x1001, x1002, x1367000, x1367001, x1367002, x1367003, x1367004 => if x1367000 = 3 then ((spec_NodeAt.f k x1 x1367001).bind fun t1370 => ((spec_KidsOf.f k x1 t1370).bind fun t1371 => ((spec_l1Below.f x1000 x1001 x1002 (wrap64 ((t1371.length : Int) + 1))).bind fun bt1374 => ((spec_l1Below.f x1000 bt1374.2.1 bt1374.2.2 (wrap64 ((wrap64 ((t1371.length : Int) - bt1374.1)) + 1))).bind fun bt1377 => (spec_l13Op.j1 k x1000 bt1377.2.1 bt1377.2.2 x1367000 x1367001 x1367002 bt1374.1 bt1377.1))))) else (spec_l13Op.j1 k x1000 x1001 x1002 x1367000 x1367001 x1367002 x1367003 x1367004)
def spec_l13Op.j1 : Nat → List Int → Int → Int → Int → List Int → Int → Int → Int → Option (Int × List Int × Int × Int × Int × Int × Int)
 | 0, _, _, _, _, _, _, _, _ => none
 | k + 1, x1000, x1001, x1002, x1367000, x1367001, x1367002, x1367003, x1367004 => (spec_l1Below.f x1000 x1001 x1002 14).bind fun bt1380 => (if bt1380.1 = 0 then ((spec_l1Below.f x1000 bt1380.2.1 bt1380.2.2 5).bind fun bt1383 => (some (bt1383.1, x1367001, x1367002, x1367003, x1367004, bt1383.2.1, bt1383.2.2))) else (if bt1380.1 = 1 then ((spec_l1Below.f x1000 bt1380.2.1 bt1380.2.2 3).bind fun bt1386 => (if x1367001.length < 17592186044416 then (some (x1367000, (x1367001 ++ [wrap64 (bt1386.1 - 1)]), x1367002, x1367003, x1367004, bt1386.2.1, bt1386.2.2)) else (none))) else (if bt1380.1 = 2 then ((spec_l2Any.f x1000 bt1380.2.1 bt1380.2.2).bind fun bt1392 => (some (x1367000, x1367001, bt1392.1, x1367003, x1367004, bt1392.2.1, bt1392.2.2))) else (if bt1380.1 = 3 then ((spec_l1PickInt.f x1000 bt1380.2.1 bt1380.2.2 (([(-1), 1, 9, 9223372036854775807] : List Int))).bind fun bt1398 => (some (x1367000, x1367001, x1367002, bt1398.1, x1367004, bt1398.2.1, bt1398.2.2))) else (if bt1380.1 = 4 then ((spec_l1PickInt.f x1000 bt1380.2.1 bt1380.2.2 (([(-1), 1, 9, 9223372036854775807] : List Int))).bind fun bt1404 => (some (x1367000, x1367001, x1367002, x1367003, bt1404.1, bt1404.2.1, bt1404.2.2))) else (some (x1367000, x1367001, x1367002, x1367003, x1367004, bt1380.2.1, bt1380.2.2)))))))
end
def spec_l13Op.f (k : Nat) (s0_0 : List Int) (s0_1 : Int) (s0_2 : Int) (l1 : List (S90)) : Option (Int × List Int × Int × Int × Int × Int × Int) := (spec_l1Below.f s0_0 s0_1 s0_2 3).bind fun bt1357 => ((spec_l1Below.f s0_0 bt1357.2.1 bt1357.2.2 (mx 1 (l1.length : Int))).bind fun bt1360 => ((spec_PathOf.f k l1 bt1360.1).bind fun t1363 => (if (wrap64 (1 + bt1357.1)) = 2 then (spec_l13Op.j0 k l1 s0_0 bt1360.2.1 bt1360.2.2 (wrap64 (1 + bt1357.1)) t1363 0 0 0) else ((spec_l2Label.f s0_0 bt1360.2.1 bt1360.2.2).bind fun bt1367 => (spec_l13Op.j0 k l1 s0_0 bt1367.2.1 bt1367.2.2 (wrap64 (1 + bt1357.1)) t1363 bt1367.1 0 0)))))
def spec_l13Op.T12 : Bool × List (List Nat × List Nat) := (true, [([], []), ([0], [0]), ([], []), ([2], [2]), ([3], [3]), ([4], [4]), ([1, 5, 3], [1, 5]), ([0, 1, 2, 3, 4, 5, 6], []), ([7, 6, 6, 0, 1, 2, 3, 4, 5, 6], [6, 7])])
def spec_l13Op.B12 : List Nat := [0, 1, 0, 4, 12, 28, 63, 127, 255]
theorem spec_l13Op.tab12 : rtab .any (opsOf Try.f113 12) = spec_l13Op.T12 := by kernel_rfl
theorem spec_l13Op.bits12 : waitsOk spec_l13Op.T12.2 spec_l13Op.B12 = true := by kernel_rfl
set_option maxHeartbeats 8000000 in
set_option maxRecDepth 100000 in
theorem spec_l13Op.calls (k : Nat) (g : Nat) (s0_0 : List Int) (s0_1 : Int) (s0_2 : Int) (A1 : Option Addr) (c1 : Nat) (l1 : List (S90)) (r1 : Int) (r2 : List Int) (r3 : Int) (r4 : Int) (r5 : Int) (r6 : Int) (r7 : Int) (w0 w : World) (hI : IsS152 w0 w g s0_0 s0_1 s0_2) (hB : Below w0.heap.size w0 w) (hr1 : ∀ W_, KeepBut w W_ g none → Kd.C k90 W_ A1 l1.length l1) (hc1 : l1.length ≤ c1) (h : spec_l13Op.f k s0_0 s0_1 s0_2 l1 = some (r1, r2, r3, r4, r5, r6, r7)) :
  Calls Try.prog 113 #[.pointer (some ⟨g, 0, none⟩), .slice A1 l1.length c1] w fun e w' => ∃ v1_ : Value, e = .returned (.agg #[.int .i64 r1, v1_, .int .i64 r3, .int .i64 r4, .int .i64 r5]) ∧ Kd.R (Kd.int .i64) 3 w' w.heap.size (fun _ => True) v1_ r2 ∧ IsS152 w0 w' g s0_0 r6 r7 ∧ Below w0.heap.size w0 w' ∧ KeepBut w w' g none := by
 have hu67 := Try.underlying67
 have HR1 := Aside0.mk hr1
 have HC1 := Aside0.mk hc1
 clear hr1 hc1
 have HI0 := Aside0.mk hI
 have HK := Aside0.mk (KeepBut.refl w g none)
 have HL := Aside0.mk hB.size
 clear hI
 have HW0 := Aside0.mk hB.size
 have HB := Aside0.mk hB
 clear hB
 have H : ((spec_l1Below.f s0_0 s0_1 s0_2 3).bind fun bt1357 => ((spec_l1Below.f s0_0 bt1357.2.1 bt1357.2.2 (mx 1 (l1.length : Int))).bind fun bt1360 => ((spec_PathOf.f k l1 bt1360.1).bind fun t1363 => (if (wrap64 (1 + bt1357.1)) = 2 then (spec_l13Op.j0 k l1 s0_0 bt1360.2.1 bt1360.2.2 (wrap64 (1 + bt1357.1)) t1363 0 0 0) else ((spec_l2Label.f s0_0 bt1360.2.1 bt1360.2.2).bind fun bt1367 => (spec_l13Op.j0 k l1 s0_0 bt1367.2.1 bt1367.2.2 (wrap64 (1 + bt1357.1)) t1363 bt1367.1 0 0)))))) = some (r1, r2, r3, r4, r5, r6, r7) := h
 clear h
 replace H := Option.bind_eq_some_iff.mp H
 obtain ⟨⟨t1357, t1358, t1359⟩, A30, H⟩ := H
 try dsimp only at H
 have A3 := Aside0.mk A30
 clear A30
 obtain ⟨ji4, hji4⟩ : ∃ j_ : Int, (mx 1 (l1.length : Int)) = j_ := ⟨_, rfl⟩
 replace H : ((spec_l1Below.f s0_0 t1358 t1359 (ji4)).bind fun bt1360 => ((spec_PathOf.f k l1 bt1360.1).bind fun t1363 => (if (wrap64 (1 + t1357)) = 2 then (spec_l13Op.j0 k l1 s0_0 bt1360.2.1 bt1360.2.2 (wrap64 (1 + t1357)) t1363 0 0 0) else ((spec_l2Label.f s0_0 bt1360.2.1 bt1360.2.2).bind fun bt1367 => (spec_l13Op.j0 k l1 s0_0 bt1367.2.1 bt1367.2.2 (wrap64 (1 + t1357)) t1363 bt1367.1 0 0))))) = some (r1, r2, r3, r4, r5, r6, r7) := by first | (rw [hji4] at H; exact H) | (simp only [hji4] at H ⊢; exact H)
 (try rw [hji4] at A3)
 (try (have hji4l : 1 ≤ ji4 := by (rw [← hji4]; unfold mx; (repeat' split) <;> omega)))
 (try (have hji4m : 0 ≤ ji4 := by omega))
 have hji4_ : (if 1 < (l1.length : Int) then (l1.length : Int) else 1) = ji4 := hji4
 replace H := Option.bind_eq_some_iff.mp H
 obtain ⟨⟨t1360, t1361, t1362⟩, A50, H⟩ := H
 replace H : ((spec_PathOf.f k l1 t1360).bind fun t1363 => (if (wrap64 (1 + t1357)) = 2 then (spec_l13Op.j0 k l1 s0_0 t1361 t1362 (wrap64 (1 + t1357)) t1363 0 0 0) else ((spec_l2Label.f s0_0 t1361 t1362).bind fun bt1367 => (spec_l13Op.j0 k l1 s0_0 bt1367.2.1 bt1367.2.2 (wrap64 (1 + t1357)) t1363 bt1367.1 0 0)))) = some (r1, r2, r3, r4, r5, r6, r7) := H
 have A5 := Aside0.mk A50
 clear A50
 replace H := Option.bind_eq_some_iff.mp H
 obtain ⟨t1363, A60, H⟩ := H
 replace H : (if (wrap64 (1 + t1357)) = 2 then (spec_l13Op.j0 k l1 s0_0 t1361 t1362 (wrap64 (1 + t1357)) t1363 0 0 0) else ((spec_l2Label.f s0_0 t1361 t1362).bind fun bt1367 => (spec_l13Op.j0 k l1 s0_0 bt1367.2.1 bt1367.2.2 (wrap64 (1 + t1357)) t1363 bt1367.1 0 0))) = some (r1, r2, r3, r4, r5, r6, r7) := H
 have A6 := Aside0.mk A60
 clear A60
 have HC7 := Aside0.mk H
 clear H
 go_enter Try.func113, Try.ntmps113
 go_upto_if 20 with (first | ((with_reducible refine gate_dst (N := 4) rfl ?_); refine box_event ?hg (N := 4) ?hd (cs := #[.int .i64 0, .slice none 0 0, .int .i64 0, .int .i64 0, .int .i64 0]) (t := 67) ?hr ?_; (case hd => rfl); (case hg => rfl); (case hr => first | (go_simp; done) | (go_simp; rfl)); intro gb1356 hg w8 hbox hb; have n0_ := Aside0.mk (IsS152.below (by repeat (first | (with_reducible first | exact HI0.out | apply IsS152.alloc | apply IsS152.drewN | apply IsS152.drew | apply IsS152.set_1 | apply IsS152.set_2) | exact HI0.out)) hb); have n1_ := Aside0.mk (KeepBut.trans (by repeat (first | (with_reducible first | exact HK.out | apply KeepBut.set_ | apply keep_drewN | apply keep_drew | apply keep_alloc) | exact HK.out)) (KeepBut.of_below hb g none) (.inl rfl)); have n2_ := Aside0.mk (below_step (by repeat (first | (with_reducible first | exact HB.out | apply below_alloc | apply pw_below_drewN | apply below_drew1 | refine below_set ?_ (IsS152.ge HI0.out)) | exact HB.out)) hb); have n3_ := Aside0.mk (hbox); have n4_ := Aside0.mk ((by rw [hg]; exact (keep_size (w := w) (g := g) (row := none) (by repeat (first | (with_reducible first | exact HK.out | apply KeepBut.set_ | apply keep_drewN | apply keep_drew | apply keep_alloc) | exact HK.out))) : w.heap.size ≤ gb1356)); have n5_ := Aside0.mk ((Nat.le_trans HW0.out (by rw [hg]; exact (keep_size (w := w) (g := g) (row := none) (by repeat (first | (with_reducible first | exact HK.out | apply KeepBut.set_ | apply keep_drewN | apply keep_drew | apply keep_alloc) | exact HK.out))) : w.heap.size ≤ gb1356) : w0.heap.size ≤ gb1356)); have n6_ := Aside0.mk ((by rw [hg]; exact Nat.ne_of_lt (IsS152.lt (show IsS152 w0 _ g s0_0 s0_1 s0_2 from by repeat (first | (with_reducible first | exact HI0.out | apply IsS152.alloc | apply IsS152.drewN | apply IsS152.drew | apply IsS152.set_1 | apply IsS152.set_2) | exact HI0.out))) : g ≠ gb1356)); have n7_ := Aside0.mk ((by rw [hg]; exact Nat.ne_of_gt (IsS152.lt (show IsS152 w0 _ g s0_0 s0_1 s0_2 from by repeat (first | (with_reducible first | exact HI0.out | apply IsS152.alloc | apply IsS152.drewN | apply IsS152.drew | apply IsS152.set_1 | apply IsS152.set_2) | exact HI0.out))) : gb1356 ≠ g)); clear HI0; clear HK; clear HB; have HI0 := n0_; have HK := n1_; have HB := n2_; have BK1356 := n3_; have GW1356 := n4_; have GE1356 := n5_; have NB0_1356 := n6_; have NB1356_0 := n7_; clear n0_ n1_ n2_ n3_ n4_ n5_ n6_ n7_; clear hb hbox hg) | ((with_reducible refine gate_callee (f := 135) rfl ?_); refine goesL_ (some 8) rfl rfl Try.func135 (by kernel_rfl) rfl #[.pointer (some ⟨g, 0, none⟩), .int .i64 3] rfl (by (try simp only [List.map_toArray, List.map_cons, List.map_nil]); first | done | rfl | (simp only [List.length_drop, List.length_take]; rfl)) ?_; (with_reducible refine (spec_l1Below.calls g s0_0 s0_1 s0_2 3 t1357 t1358 t1359 w0 _ ?side1 ?side2 A3.out).mono ?_); (case side1 => repeat (first | (with_reducible first | exact HI0.out | apply IsS152.alloc | apply IsS152.drewN | apply IsS152.drew | apply IsS152.set_1 | apply IsS152.set_2 | refine IsS152.far ?_ NB0_1356.out _) | exact HI0.out)); (case side2 => repeat (first | (with_reducible first | exact HB.out | apply below_alloc | apply pw_below_drewN | apply below_drew1 | refine below_set ?_ (IsS152.ge HI0.out) | refine below_set ?_ GE1356.out) | exact HB.out)); rintro e w9 ⟨rfl, hi, hb, hk⟩; refine ⟨_, rfl, ?_⟩; have n0_ := Aside0.mk (KeepBut.blk hk (g' := gb1356) (o := .cells #[.int .i64 0, .slice none 0 0, .int .i64 0, .int .i64 0, .int .i64 0] 67 (0, 0)) (by (with_reducible repeat (first | refine blk_drewN ?_ _ | refine blk_drew ?_ | refine blk_alloc ?_ _)); exact BK1356.out) NB1356_0.out (by simp)); have n1_ := Aside0.mk (KeepBut.trans (by repeat (first | (with_reducible first | exact HK.out | apply KeepBut.set_ | apply keep_drewN | apply keep_drew | apply keep_alloc | refine keep_far ?_ GW1356.out _) | exact HK.out)) hk (.inl rfl)); have n2_ := Aside0.mk (hb); have n3_ := Aside0.mk (hi); clear BK1356; clear HK; clear HB; clear HI0; have BK1356 := n0_; have HK := n1_; have HB := n2_; have HI0 := n3_; clear n0_ n1_ n2_ n3_; (try clear hb); (try clear hb2); (try clear hk); (try clear hi)) | ((with_reducible refine gate_callee (f := 135) rfl ?_); refine goesL_ (some 15) rfl rfl Try.func135 (by kernel_rfl) rfl #[.pointer (some ⟨g, 0, none⟩), .int .i64 ji4] rfl (by (try simp only [List.map_toArray, List.map_cons, List.map_nil]); first | done | (simp only [hji4]; rfl) | rfl | (simp only [List.length_drop, List.length_take]; rfl)) ?_; (with_reducible refine (spec_l1Below.calls g s0_0 t1358 t1359 ji4 t1360 t1361 t1362 w0 _ ?side1 ?side2 A5.out).mono ?_); (case side1 => repeat (first | (with_reducible first | exact HI0.out | apply IsS152.alloc | apply IsS152.drewN | apply IsS152.drew | apply IsS152.set_1 | apply IsS152.set_2 | refine IsS152.far ?_ NB0_1356.out _) | exact HI0.out)); (case side2 => repeat (first | (with_reducible first | exact HB.out | apply below_alloc | apply pw_below_drewN | apply below_drew1 | refine below_set ?_ (IsS152.ge HI0.out) | refine below_set ?_ GE1356.out) | exact HB.out)); rintro e w10 ⟨rfl, hi, hb, hk⟩; refine ⟨_, rfl, ?_⟩; have n0_ := Aside0.mk (KeepBut.blk hk (g' := gb1356) (o := .cells #[.int .i64 0, .slice none 0 0, .int .i64 0, .int .i64 0, .int .i64 0] 67 (0, 0)) (by (with_reducible repeat (first | refine blk_drewN ?_ _ | refine blk_drew ?_ | refine blk_alloc ?_ _)); exact BK1356.out) NB1356_0.out (by simp)); have n1_ := Aside0.mk (KeepBut.trans (by repeat (first | (with_reducible first | exact HK.out | apply KeepBut.set_ | apply keep_drewN | apply keep_drew | apply keep_alloc | refine keep_far ?_ GW1356.out _) | exact HK.out)) hk (.inl rfl)); have n2_ := Aside0.mk (hb); have n3_ := Aside0.mk (hi); clear BK1356; clear HK; clear HB; clear HI0; have BK1356 := n0_; have HK := n1_; have HB := n2_; have HI0 := n3_; clear n0_ n1_ n2_ n3_; (try clear hb); (try clear hb2); (try clear hk); (try clear hi)) | ((with_reducible refine gate_callee (f := 138) rfl ?_); refine goesL_ (some 16) rfl rfl Try.func138 (by kernel_rfl) rfl #[.slice A1 l1.length c1, .int .i64 t1360] rfl (by (try simp only [List.map_toArray, List.map_cons, List.map_nil]); first | done | rfl | (simp only [List.length_drop, List.length_take]; rfl)) ?_; (with_reducible refine (spec_PathOf.calls k _ _ l1 t1360 t1363 _ ?side1 ?side2 A6.out).mono ?_); (case side1 => exact Kd.C_foot_now HR1.out (by repeat (first | (with_reducible first | exact HK.out | apply KeepBut.set_ | apply keep_drewN | apply keep_drew | apply keep_alloc | refine keep_far ?_ GW1356.out _) | exact HK.out))); (case side2 => exact HC1.out); rintro e w11 ⟨v1364, rfl, ho0, hb⟩; refine ⟨_, rfl, ?_⟩; have n0_ := Aside0.mk (Kd.R_lower ho0 (keep_size (w := w) (g := g) (row := none) (by repeat (first | (with_reducible first | exact HK.out | apply KeepBut.set_ | apply keep_drewN | apply keep_drew | apply keep_alloc | refine keep_far ?_ GW1356.out _) | exact HK.out)))); have n1_ := Aside0.mk (IsS152.below (by repeat (first | (with_reducible first | exact HI0.out | apply IsS152.alloc | apply IsS152.drewN | apply IsS152.drew | apply IsS152.set_1 | apply IsS152.set_2 | refine IsS152.far ?_ NB0_1356.out _) | exact HI0.out)) hb); have n2_ := Aside0.mk (blk_below (g := gb1356) (o := .cells #[.int .i64 0, .slice none 0 0, .int .i64 0, .int .i64 0, .int .i64 0] 67 (0, 0)) (by (with_reducible repeat (first | refine blk_drewN ?_ _ | refine blk_drew ?_ | refine blk_alloc ?_ _)); exact BK1356.out) hb); have n3_ := Aside0.mk (KeepBut.trans (by repeat (first | (with_reducible first | exact HK.out | apply KeepBut.set_ | apply keep_drewN | apply keep_drew | apply keep_alloc | refine keep_far ?_ GW1356.out _) | exact HK.out)) (KeepBut.of_below hb g none) (.inl rfl)); have n4_ := Aside0.mk (below_step (by repeat (first | (with_reducible first | exact HB.out | apply below_alloc | apply pw_below_drewN | apply below_drew1 | refine below_set ?_ (IsS152.ge HI0.out) | refine below_set ?_ GE1356.out) | exact HB.out)) hb); clear HI0; clear BK1356; clear HK; clear HB; have HO1365 := n0_; have HI0 := n1_; have BK1356 := n2_; have HK := n3_; have HB := n4_; clear n0_ n1_ n2_ n3_ n4_; (try clear hb); (try clear hb2); (try clear hk); (try clear hi); (try clear ho0); obtain ⟨Ao12, co12, eo12⟩ := Kd.R_slice HO1365.out; subst eo12) | ((with_reducible refine gate_dst (N := 5) rfl ?_); refine box_event ?hg (N := 5) ?hd (cs := #[.int .i64 0, .slice none 0 0, .int .i64 0, .int .i64 0, .int .i64 0]) (t := 67) ?hr ?_; (case hd => rfl); (case hg => rfl); (case hr => first | (go_simp; done) | (go_simp; rfl)); intro gb1366 hg w13 hbox hb; have n0_ := Aside0.mk (Kd.R_below (by (with_reducible repeat (first | apply Kd.R_alloc | apply Kd.R_drewN | apply Kd.R_drew)); exact HO1365.out) hb); have n1_ := Aside0.mk (IsS152.below (by repeat (first | (with_reducible first | exact HI0.out | apply IsS152.alloc | apply IsS152.drewN | apply IsS152.drew | apply IsS152.set_1 | apply IsS152.set_2 | refine IsS152.far ?_ NB0_1356.out _) | exact HI0.out)) hb); have n2_ := Aside0.mk (blk_below (g := gb1356) (o := .cells #[.int .i64 0, .slice none 0 0, .int .i64 0, .int .i64 0, .int .i64 0] 67 (0, 0)) (by (with_reducible repeat (first | refine blk_drewN ?_ _ | refine blk_drew ?_ | refine blk_alloc ?_ _)); exact BK1356.out) hb); have n3_ := Aside0.mk (KeepBut.trans (by repeat (first | (with_reducible first | exact HK.out | apply KeepBut.set_ | apply keep_drewN | apply keep_drew | apply keep_alloc | refine keep_far ?_ GW1356.out _) | exact HK.out)) (KeepBut.of_below hb g none) (.inl rfl)); have n4_ := Aside0.mk (below_step (by repeat (first | (with_reducible first | exact HB.out | apply below_alloc | apply pw_below_drewN | apply below_drew1 | refine below_set ?_ (IsS152.ge HI0.out) | refine below_set ?_ GE1356.out) | exact HB.out)) hb); have n5_ := Aside0.mk (hbox); have n6_ := Aside0.mk ((by rw [hg]; exact (keep_size (w := w) (g := g) (row := none) (by repeat (first | (with_reducible first | exact HK.out | apply KeepBut.set_ | apply keep_drewN | apply keep_drew | apply keep_alloc | refine keep_far ?_ GW1356.out _) | exact HK.out))) : w.heap.size ≤ gb1366)); have n7_ := Aside0.mk ((Nat.le_trans HW0.out (by rw [hg]; exact (keep_size (w := w) (g := g) (row := none) (by repeat (first | (with_reducible first | exact HK.out | apply KeepBut.set_ | apply keep_drewN | apply keep_drew | apply keep_alloc | refine keep_far ?_ GW1356.out _) | exact HK.out))) : w.heap.size ≤ gb1366) : w0.heap.size ≤ gb1366)); have n8_ := Aside0.mk ((by rw [hg]; exact Nat.ne_of_lt (blk_lt (g := gb1356) (o := .cells #[.int .i64 0, .slice none 0 0, .int .i64 0, .int .i64 0, .int .i64 0] 67 (0, 0)) (by (with_reducible repeat (first | refine blk_drewN ?_ _ | refine blk_drew ?_ | refine blk_alloc ?_ _)); exact BK1356.out)) : gb1356 ≠ gb1366)); have n9_ := Aside0.mk ((by rw [hg]; exact Nat.ne_of_gt (blk_lt (g := gb1356) (o := .cells #[.int .i64 0, .slice none 0 0, .int .i64 0, .int .i64 0, .int .i64 0] 67 (0, 0)) (by (with_reducible repeat (first | refine blk_drewN ?_ _ | refine blk_drew ?_ | refine blk_alloc ?_ _)); exact BK1356.out)) : gb1366 ≠ gb1356)); have n10_ := Aside0.mk ((by rw [hg]; exact Nat.ne_of_lt (IsS152.lt (show IsS152 w0 _ g s0_0 t1361 t1362 from by repeat (first | (with_reducible first | exact HI0.out | apply IsS152.alloc | apply IsS152.drewN | apply IsS152.drew | apply IsS152.set_1 | apply IsS152.set_2 | refine IsS152.far ?_ NB0_1356.out _) | exact HI0.out))) : g ≠ gb1366)); have n11_ := Aside0.mk ((by rw [hg]; exact Nat.ne_of_gt (IsS152.lt (show IsS152 w0 _ g s0_0 t1361 t1362 from by repeat (first | (with_reducible first | exact HI0.out | apply IsS152.alloc | apply IsS152.drewN | apply IsS152.drew | apply IsS152.set_1 | apply IsS152.set_2 | refine IsS152.far ?_ NB0_1356.out _) | exact HI0.out))) : gb1366 ≠ g)); clear HO1365; clear HI0; clear BK1356; clear HK; clear HB; have HO1365 := n0_; have HI0 := n1_; have BK1356 := n2_; have HK := n3_; have HB := n4_; have BK1366 := n5_; have GW1366 := n6_; have GE1366 := n7_; have NB1356_1366 := n8_; have NB1366_1356 := n9_; have NB0_1366 := n10_; have NB1366_0 := n11_; clear n0_ n1_ n2_ n3_ n4_ n5_ n6_ n7_ n8_ n9_ n10_ n11_; clear hb hbox hg; have hnb14 := NB1366_1356.out; have hnc14 := NB1356_1366.out; have hnb15 := NB1366_0.out; have hnc15 := NB0_1366.out; have hcz16_0 : w13.cell? ⟨gb1366, 0, none⟩ = some (.int .i64 0) := (blk_cell BK1366.out 0).trans rfl; have hcz16_1 : w13.cell? ⟨gb1366, 1, none⟩ = some (.slice none 0 0) := (blk_cell BK1366.out 1).trans rfl; have hcz16_2 : w13.cell? ⟨gb1366, 2, none⟩ = some (.int .i64 0) := (blk_cell BK1366.out 2).trans rfl; have hcz16_3 : w13.cell? ⟨gb1366, 3, none⟩ = some (.int .i64 0) := (blk_cell BK1366.out 3).trans rfl; have hcz16_4 : w13.cell? ⟨gb1366, 4, none⟩ = some (.int .i64 0) := (blk_cell BK1366.out 4).trans rfl; have hfz16_0 := blk_frozen BK1366.out 0; have hfz16_1 := blk_frozen BK1366.out 1; have hfz16_2 := blk_frozen BK1366.out 2; have hfz16_3 := blk_frozen BK1366.out 3; have hfz16_4 := blk_frozen BK1366.out 4))
 (try simp only [Act.put, List.setIfInBounds_toArray, List.set_cons_zero, List.set_cons_succ])
 go_cut [] (fun wc => ∃ (kq : Nat) (x1001_6 : Int) (x1002_6 : Int) (x1367002_6 : Int), Aside0 (spec_l13Op.j0 kq l1 s0_0 x1001_6 x1002_6 (wrap64 (1 + t1357)) t1363 x1367002_6 0 0 = some (r1, r2, r3, r4, r5, r6, r7)) ∧ Aside0 (kq ≤ k) ∧ Aside0 (Kd.R (Kd.int .i64) 3 wc w.heap.size (fun _ => True) (.slice Ao12 t1363.length co12) t1363) ∧ Aside0 (wc.heap[gb1356]? = some (.cells #[.int .i64 0, (.slice none 0 0), .int .i64 0, .int .i64 0, .int .i64 0] 67 (0, 0))) ∧ Aside0 (wc.heap[gb1366]? = some (.cells #[.int .i64 (wrap64 (1 + t1357)), (.slice Ao12 t1363.length co12), .int .i64 x1367002_6, .int .i64 0, .int .i64 0] 67 (0, 0))) ∧ Aside0 (IsS152 w0 wc g s0_0 x1001_6 x1002_6) ∧ Aside0 (KeepBut w wc g none) ∧ Aside0 (Below w0.heap.size w0 wc))
 case first =>
  have H := HC7.out
  clear HC7
  by_cases c17 : (wrap64 (1 + t1357)) = 2
  ·rw [if_pos c17] at H
   have c17b0 : ((wrap64 (1 + t1357)) == 2) = true := beq_iff_eq.mpr c17
   have c17b1 : ((wrap64 (1 + t1357)) != 2) = false := bne_eq_false_iff_eq.mpr c17
   clear c17
   (first | rw [c17b0] | (simp only [i64_w, i32_w]; rw [c17b0]) | skip)
   have H' := Aside0.mk H
   clear H
   go_wp2
   go_meet
   case rel => exact ⟨_, (t1361), (t1362), (0), H', ⟨by first | omega | exact Nat.le_refl _⟩, ⟨rx_ (Kd.R_mono (Kd.R_far (p := ⟨gb1366, 4, none⟩) (Kd.R_far (p := ⟨gb1366, 3, none⟩) (Kd.R_far (p := ⟨gb1366, 2, none⟩) (Kd.R_far (p := ⟨gb1366, 1, none⟩) (Kd.R_far (p := ⟨gb1366, 0, none⟩) (Kd.R_types HO1365.out BK1366.out (by decide)) (fun _ hk => hk.2) (.int .i64 (wrap64 (1 + t1357)))) (fun _ hk => hk.2) (.slice Ao12 t1363.length co12)) (fun _ hk => hk.2) (.int .i64 0)) (fun _ hk => hk.2) (.int .i64 0)) (fun _ hk => hk.2) (.int .i64 0)) (fun _ hk => trivial))⟩, ⟨by (with_reducible repeat (first | refine blk_drewN ?_ _ | refine blk_drew ?_ | refine blk_alloc ?_ _)); refine blk_far ?_ NB1356_1366.out _; (with_reducible repeat (first | refine blk_drewN ?_ _ | refine blk_drew ?_ | refine blk_alloc ?_ _)); refine blk_far ?_ NB1356_1366.out _; (with_reducible repeat (first | refine blk_drewN ?_ _ | refine blk_drew ?_ | refine blk_alloc ?_ _)); refine blk_far ?_ NB1356_1366.out _; (with_reducible repeat (first | refine blk_drewN ?_ _ | refine blk_drew ?_ | refine blk_alloc ?_ _)); refine blk_far ?_ NB1356_1366.out _; (with_reducible repeat (first | refine blk_drewN ?_ _ | refine blk_drew ?_ | refine blk_alloc ?_ _)); refine blk_far ?_ NB1356_1366.out _; (with_reducible repeat (first | refine blk_drewN ?_ _ | refine blk_drew ?_ | refine blk_alloc ?_ _)); exact BK1356.out⟩, ⟨by (with_reducible repeat (first | refine blk_drewN ?_ _ | refine blk_drew ?_ | refine blk_alloc ?_ _)); refine blk_put (cs := #[.int .i64 (wrap64 (1 + t1357)), .slice Ao12 t1363.length co12, .int .i64 0, .int .i64 0, .int .i64 0]) ?_ 4 _ rfl; (with_reducible repeat (first | refine blk_drewN ?_ _ | refine blk_drew ?_ | refine blk_alloc ?_ _)); refine blk_put (cs := #[.int .i64 (wrap64 (1 + t1357)), .slice Ao12 t1363.length co12, .int .i64 0, .int .i64 0, .int .i64 0]) ?_ 3 _ rfl; (with_reducible repeat (first | refine blk_drewN ?_ _ | refine blk_drew ?_ | refine blk_alloc ?_ _)); refine blk_put (cs := #[.int .i64 (wrap64 (1 + t1357)), .slice Ao12 t1363.length co12, .int .i64 0, .int .i64 0, .int .i64 0]) ?_ 2 _ rfl; (with_reducible repeat (first | refine blk_drewN ?_ _ | refine blk_drew ?_ | refine blk_alloc ?_ _)); refine blk_put (cs := #[.int .i64 (wrap64 (1 + t1357)), .slice none 0 0, .int .i64 0, .int .i64 0, .int .i64 0]) ?_ 1 _ rfl; (with_reducible repeat (first | refine blk_drewN ?_ _ | refine blk_drew ?_ | refine blk_alloc ?_ _)); refine blk_put (cs := #[.int .i64 0, .slice none 0 0, .int .i64 0, .int .i64 0, .int .i64 0]) ?_ 0 _ rfl; (with_reducible repeat (first | refine blk_drewN ?_ _ | refine blk_drew ?_ | refine blk_alloc ?_ _)); exact BK1366.out⟩, ⟨by repeat (first | (with_reducible first | exact HI0.out | apply IsS152.alloc | apply IsS152.drewN | apply IsS152.drew | apply IsS152.set_1 | apply IsS152.set_2 | refine IsS152.far ?_ NB0_1356.out _ | refine IsS152.far ?_ NB0_1366.out _) | exact HI0.out)⟩, ⟨by repeat (first | (with_reducible first | exact HK.out | apply KeepBut.set_ | apply keep_drewN | apply keep_drew | apply keep_alloc | refine keep_far ?_ GW1356.out _ | refine keep_far ?_ GW1366.out _) | exact HK.out)⟩, ⟨by repeat (first | (with_reducible first | exact HB.out | apply below_alloc | apply pw_below_drewN | apply below_drew1 | refine below_set ?_ (IsS152.ge HI0.out) | refine below_set ?_ GE1356.out | refine below_set ?_ GE1366.out) | exact HB.out)⟩⟩
  ·rw [if_neg c17] at H
   have c17b0 : ((wrap64 (1 + t1357)) == 2) = false := beq_eq_false_iff_ne.mpr c17
   have c17b1 : ((wrap64 (1 + t1357)) != 2) = true := bne_iff_ne.mpr c17
   (first | rw [c17b0] | (simp only [i64_w, i32_w]; rw [c17b0]) | skip)
   replace H := Option.bind_eq_some_iff.mp H
   obtain ⟨⟨t1367, t1368, t1369⟩, A180, H⟩ := H
   try dsimp only at H
   have A18 := Aside0.mk A180
   clear A180
   have H' := Aside0.mk H
   clear H
   go_wp2_with (first | ((with_reducible refine gate_callee (f := 139) rfl ?_); refine gL_ (some 22) Try.func139 #[.pointer (some ⟨g, 0, none⟩)] ?_; (with_reducible refine (spec_l2Label.calls g s0_0 t1361 t1362 t1367 t1368 t1369 w0 _ ?side1 ?side2 A18.out).mono ?_); (case side1 => repeat (first | (with_reducible first | exact HI0.out | apply IsS152.alloc | apply IsS152.drewN | apply IsS152.drew | apply IsS152.set_1 | apply IsS152.set_2 | refine IsS152.far ?_ NB0_1356.out _ | refine IsS152.far ?_ NB0_1366.out _) | exact HI0.out)); (case side2 => repeat (first | (with_reducible first | exact HB.out | apply below_alloc | apply pw_below_drewN | apply below_drew1 | refine below_set ?_ (IsS152.ge HI0.out) | refine below_set ?_ GE1356.out | refine below_set ?_ GE1366.out) | exact HB.out)); rintro e w19 ⟨rfl, hi, hb, hk⟩; refine ⟨_, rfl, ?_⟩; replace BK1356 := Aside0.mk (KeepBut.blk hk (g' := gb1356) (o := .cells #[.int .i64 0, .slice none 0 0, .int .i64 0, .int .i64 0, .int .i64 0] 67 (0, 0)) (by (with_reducible repeat (first | refine blk_drewN ?_ _ | refine blk_drew ?_ | refine blk_alloc ?_ _)); refine blk_far ?_ NB1356_1366.out _; (with_reducible repeat (first | refine blk_drewN ?_ _ | refine blk_drew ?_ | refine blk_alloc ?_ _)); refine blk_far ?_ NB1356_1366.out _; (with_reducible repeat (first | refine blk_drewN ?_ _ | refine blk_drew ?_ | refine blk_alloc ?_ _)); refine blk_far ?_ NB1356_1366.out _; (with_reducible repeat (first | refine blk_drewN ?_ _ | refine blk_drew ?_ | refine blk_alloc ?_ _)); refine blk_far ?_ NB1356_1366.out _; (with_reducible repeat (first | refine blk_drewN ?_ _ | refine blk_drew ?_ | refine blk_alloc ?_ _)); refine blk_far ?_ NB1356_1366.out _; (with_reducible repeat (first | refine blk_drewN ?_ _ | refine blk_drew ?_ | refine blk_alloc ?_ _)); exact BK1356.out) NB1356_0.out (by simp)); replace HO1365 := Aside0.mk (Kd.R_mono (Kd.R_keep (IsS152.apart (show IsS152 w0 _ g s0_0 t1361 t1362 from by repeat (first | (with_reducible first | exact HI0.out | apply IsS152.alloc | apply IsS152.drewN | apply IsS152.drew | apply IsS152.set_1 | apply IsS152.set_2 | refine IsS152.far ?_ NB0_1356.out _ | refine IsS152.far ?_ NB0_1366.out _) | exact HI0.out)) (rx_ ((Kd.R_mono (Kd.R_far (p := ⟨gb1366, 4, none⟩) (Kd.R_far (p := ⟨gb1366, 3, none⟩) (Kd.R_far (p := ⟨gb1366, 2, none⟩) (Kd.R_far (p := ⟨gb1366, 1, none⟩) (Kd.R_far (p := ⟨gb1366, 0, none⟩) (Kd.R_types HO1365.out BK1366.out (by decide)) (fun _ hk => hk.2) (.int .i64 (wrap64 (1 + t1357)))) (fun _ hk => hk.2) (.slice Ao12 t1363.length co12)) (fun _ hk => hk.2) (.int .i64 0)) (fun _ hk => hk.2) (.int .i64 0)) (fun _ hk => hk.2) (.int .i64 0)) (fun _ h_ => h_.1)))) (by decide)) hk (fun _ h => h.2)) (fun _ h => h.1)); replace BK1366 := Aside0.mk (KeepBut.blk hk (g' := gb1366) (o := .cells #[.int .i64 (wrap64 (1 + t1357)), .slice Ao12 t1363.length co12, .int .i64 0, .int .i64 0, .int .i64 0] 67 (0, 0)) (by (with_reducible repeat (first | refine blk_drewN ?_ _ | refine blk_drew ?_ | refine blk_alloc ?_ _)); refine blk_put (cs := #[.int .i64 (wrap64 (1 + t1357)), .slice Ao12 t1363.length co12, .int .i64 0, .int .i64 0, .int .i64 0]) ?_ 4 _ rfl; (with_reducible repeat (first | refine blk_drewN ?_ _ | refine blk_drew ?_ | refine blk_alloc ?_ _)); refine blk_put (cs := #[.int .i64 (wrap64 (1 + t1357)), .slice Ao12 t1363.length co12, .int .i64 0, .int .i64 0, .int .i64 0]) ?_ 3 _ rfl; (with_reducible repeat (first | refine blk_drewN ?_ _ | refine blk_drew ?_ | refine blk_alloc ?_ _)); refine blk_put (cs := #[.int .i64 (wrap64 (1 + t1357)), .slice Ao12 t1363.length co12, .int .i64 0, .int .i64 0, .int .i64 0]) ?_ 2 _ rfl; (with_reducible repeat (first | refine blk_drewN ?_ _ | refine blk_drew ?_ | refine blk_alloc ?_ _)); refine blk_put (cs := #[.int .i64 (wrap64 (1 + t1357)), .slice none 0 0, .int .i64 0, .int .i64 0, .int .i64 0]) ?_ 1 _ rfl; (with_reducible repeat (first | refine blk_drewN ?_ _ | refine blk_drew ?_ | refine blk_alloc ?_ _)); refine blk_put (cs := #[.int .i64 0, .slice none 0 0, .int .i64 0, .int .i64 0, .int .i64 0]) ?_ 0 _ rfl; (with_reducible repeat (first | refine blk_drewN ?_ _ | refine blk_drew ?_ | refine blk_alloc ?_ _)); exact BK1366.out) NB1366_0.out (by simp)); replace HK := Aside0.mk (KeepBut.trans (by repeat (first | (with_reducible first | exact HK.out | apply KeepBut.set_ | apply keep_drewN | apply keep_drew | apply keep_alloc | refine keep_far ?_ GW1356.out _ | refine keep_far ?_ GW1366.out _) | exact HK.out)) hk (.inl rfl)); replace HB := Aside0.mk (hb); replace HI0 := Aside0.mk (hi); (try clear hb); (try clear hb2); (try clear hk); (try clear hi); have hnb20 := NB1366_1356.out; have hnc20 := NB1356_1366.out; have hnb21 := NB1366_0.out; have hnc21 := NB0_1366.out; obtain ⟨hcz22_0, hcz22_1, hcz22_2, hcz22_3, hcz22_4, hfz22_0, hfz22_1, hfz22_2, hfz22_3, hfz22_4⟩ := bk5_ BK1366))
   go_meet
   case rel => exact ⟨_, (t1368), (t1369), (t1367), H', ⟨by first | omega | exact Nat.le_refl _⟩, ⟨rx_ (Kd.R_mono (Kd.R_far (p := ⟨gb1366, 2, none⟩) (Kd.R_types HO1365.out BK1366.out (by decide)) (fun _ hk => hk.2) (.int .i64 t1367)) (fun _ hk => trivial))⟩, ⟨by (with_reducible repeat (first | refine blk_drewN ?_ _ | refine blk_drew ?_ | refine blk_alloc ?_ _)); refine blk_far ?_ NB1356_1366.out _; (with_reducible repeat (first | refine blk_drewN ?_ _ | refine blk_drew ?_ | refine blk_alloc ?_ _)); exact BK1356.out⟩, ⟨by (with_reducible repeat (first | refine blk_drewN ?_ _ | refine blk_drew ?_ | refine blk_alloc ?_ _)); refine blk_put (cs := #[.int .i64 (wrap64 (1 + t1357)), .slice Ao12 t1363.length co12, .int .i64 0, .int .i64 0, .int .i64 0]) ?_ 2 _ rfl; (with_reducible repeat (first | refine blk_drewN ?_ _ | refine blk_drew ?_ | refine blk_alloc ?_ _)); exact BK1366.out⟩, ⟨by repeat (first | (with_reducible first | exact HI0.out | apply IsS152.alloc | apply IsS152.drewN | apply IsS152.drew | apply IsS152.set_1 | apply IsS152.set_2 | refine IsS152.far ?_ NB0_1356.out _ | refine IsS152.far ?_ NB0_1366.out _) | exact HI0.out)⟩, ⟨by repeat (first | (with_reducible first | exact HK.out | apply KeepBut.set_ | apply keep_drewN | apply keep_drew | apply keep_alloc | refine keep_far ?_ GW1356.out _ | refine keep_far ?_ GW1366.out _) | exact HK.out)⟩, ⟨by repeat (first | (with_reducible first | exact HB.out | apply below_alloc | apply pw_below_drewN | apply below_drew1 | refine below_set ?_ (IsS152.ge HI0.out) | refine below_set ?_ GE1356.out | refine below_set ?_ GE1366.out) | exact HB.out)⟩⟩
 case rest =>
  clear HC7
  try clear c1
  try clear c2
  try clear p2
  try clear p6
  try clear c11
  try clear c13
  try clear c14
  try clear c15
  try clear c17
  try clear c17b0
  try clear c17b1
  try clear c20
  try clear c21
  try clear hcz16_0
  try clear hcz16_1
  try clear hcz16_2
  try clear hcz16_3
  try clear hcz16_4
  try clear hcz22_0
  try clear hcz22_1
  try clear hcz22_2
  try clear hcz22_3
  try clear hcz22_4
  try clear hfz16_0
  try clear hfz16_1
  try clear hfz16_2
  try clear hfz16_3
  try clear hfz16_4
  try clear hfz22_0
  try clear hfz22_1
  try clear hfz22_2
  try clear hfz22_3
  try clear hfz22_4
  obtain ⟨kq, x1001_6, x1002_6, x1367002_6, HA, HJ6, HO_1367001, BK1356, BK1366, HI0, HK, HB⟩ := hcut
  cases kq with
  | zero => exact absurd HA.out (by simp [spec_l13Op.j0])
  | succ kj6 =>
   have H := HA.out
   clear HA
   simp only [spec_l13Op.j0] at H
   have HC23 := Aside0.mk H
   clear H
   have hnb24 := NB1366_1356.out
   have hnc24 := NB1356_1366.out
   have hnb25 := NB1366_0.out
   have hnc25 := NB0_1366.out
   have hcz26_0 : wc.cell? ⟨gb1366, 0, none⟩ = some (.int .i64 (wrap64 (1 + t1357))) := (blk_cell BK1366.out 0).trans rfl
   have hcz26_1 : wc.cell? ⟨gb1366, 1, none⟩ = some (.slice Ao12 t1363.length co12) := (blk_cell BK1366.out 1).trans rfl
   have hcz26_2 : wc.cell? ⟨gb1366, 2, none⟩ = some (.int .i64 x1367002_6) := (blk_cell BK1366.out 2).trans rfl
   have hcz26_3 : wc.cell? ⟨gb1366, 3, none⟩ = some (.int .i64 0) := (blk_cell BK1366.out 3).trans rfl
   have hcz26_4 : wc.cell? ⟨gb1366, 4, none⟩ = some (.int .i64 0) := (blk_cell BK1366.out 4).trans rfl
   have hfz26_0 := blk_frozen BK1366.out 0
   have hfz26_1 := blk_frozen BK1366.out 1
   have hfz26_2 := blk_frozen BK1366.out 2
   have hfz26_3 := blk_frozen BK1366.out 3
   have hfz26_4 := blk_frozen BK1366.out 4
   go_upto_if 26 with (fail)
   go_cut [] (fun wc => ∃ (kq : Nat) (x1001_22 : Int) (x1002_22 : Int) (x1367003_22 : Int) (x1367004_22 : Int), Aside0 (spec_l13Op.j1 kq s0_0 x1001_22 x1002_22 (wrap64 (1 + t1357)) t1363 x1367002_6 x1367003_22 x1367004_22 = some (r1, r2, r3, r4, r5, r6, r7)) ∧ Aside0 (kq ≤ kj6) ∧ Aside0 (Kd.R (Kd.int .i64) 3 wc w.heap.size (fun _ => True) (.slice Ao12 t1363.length co12) t1363) ∧ Aside0 (wc.heap[gb1356]? = some (.cells #[.int .i64 0, (.slice none 0 0), .int .i64 0, .int .i64 0, .int .i64 0] 67 (0, 0))) ∧ Aside0 (wc.heap[gb1366]? = some (.cells #[.int .i64 (wrap64 (1 + t1357)), (.slice Ao12 t1363.length co12), .int .i64 x1367002_6, .int .i64 x1367003_22, .int .i64 x1367004_22] 67 (0, 0))) ∧ Aside0 (IsS152 w0 wc g s0_0 x1001_22 x1002_22) ∧ Aside0 (KeepBut w wc g none) ∧ Aside0 (Below w0.heap.size w0 wc))
   case first =>
    have H := HC23.out
    clear HC23
    by_cases c27 : (wrap64 (1 + t1357)) = 3
    ·rw [if_pos c27] at H
     have c27b0 : ((wrap64 (1 + t1357)) == 3) = true := beq_iff_eq.mpr c27
     have c27b1 : ((wrap64 (1 + t1357)) != 3) = false := bne_eq_false_iff_eq.mpr c27
     clear c27
     (first | rw [c27b0] | (simp only [i64_w, i32_w]; rw [c27b0]) | skip)
     replace H := Option.bind_eq_some_iff.mp H
     obtain ⟨t1370, A280, H⟩ := H
     try dsimp only at H
     have A28 := Aside0.mk A280
     clear A280
     replace H := Option.bind_eq_some_iff.mp H
     obtain ⟨t1371, A290, H⟩ := H
     try dsimp only at H
     have A29 := Aside0.mk A290
     clear A290
     replace H := Option.bind_eq_some_iff.mp H
     obtain ⟨⟨t1374, t1375, t1376⟩, A300, H⟩ := H
     try dsimp only at H
     have A30 := Aside0.mk A300
     clear A300
     replace H := Option.bind_eq_some_iff.mp H
     obtain ⟨⟨t1377, t1378, t1379⟩, A310, H⟩ := H
     try dsimp only at H
     have A31 := Aside0.mk A310
     clear A310
     have H' := Aside0.mk H
     clear H
     have hnb32 := NB1366_1356.out
     have hnc32 := NB1356_1366.out
     have hnb33 := NB1366_0.out
     have hnc33 := NB0_1366.out
     have hcz34_0 : wc.cell? ⟨gb1366, 0, none⟩ = some (.int .i64 (wrap64 (1 + t1357))) := (blk_cell BK1366.out 0).trans rfl
     have hcz34_1 : wc.cell? ⟨gb1366, 1, none⟩ = some (.slice Ao12 t1363.length co12) := (blk_cell BK1366.out 1).trans rfl
     have hcz34_2 : wc.cell? ⟨gb1366, 2, none⟩ = some (.int .i64 x1367002_6) := (blk_cell BK1366.out 2).trans rfl
     have hcz34_3 : wc.cell? ⟨gb1366, 3, none⟩ = some (.int .i64 0) := (blk_cell BK1366.out 3).trans rfl
     have hcz34_4 : wc.cell? ⟨gb1366, 4, none⟩ = some (.int .i64 0) := (blk_cell BK1366.out 4).trans rfl
     have hfz34_0 := blk_frozen BK1366.out 0
     have hfz34_1 := blk_frozen BK1366.out 1
     have hfz34_2 := blk_frozen BK1366.out 2
     have hfz34_3 := blk_frozen BK1366.out 3
     have hfz34_4 := blk_frozen BK1366.out 4
     go_wp2_with (first | ((with_reducible refine gate_callee (f := 60) rfl ?_); refine gL_ (some 31) Try.func60 #[.slice A1 l1.length c1, .slice Ao12 t1363.length co12] ?_; (with_reducible refine (spec_NodeAt.calls kj6 _ _ l1 _ _ t1363 t1370 _ (Kd.C_foot_now HR1.out (by repeat (first | (with_reducible first | exact HK.out | apply KeepBut.set_ | apply keep_drewN | apply keep_drew | apply keep_alloc | refine keep_far ?_ GW1356.out _ | refine keep_far ?_ GW1366.out _) | exact HK.out))) HC1.out (cc_ (Kd.R_reads' HO_1367001.out).2.2) ((Kd.R_reads' HO_1367001.out).2.1) A28.out).mono ?_); rintro e w35 ⟨rfl, hb⟩; refine ⟨_, rfl, ?_⟩; replace HO_1367001 := tR_ HO_1367001 hb; replace BK1356 := tK_ BK1356 hb; replace BK1366 := tK_ BK1366 hb; replace HK := Aside0.mk (KeepBut.trans (by repeat (first | (with_reducible first | exact HK.out | apply KeepBut.set_ | apply keep_drewN | apply keep_drew | apply keep_alloc | refine keep_far ?_ GW1356.out _ | refine keep_far ?_ GW1366.out _) | exact HK.out)) (KeepBut.of_below hb g none) (.inl rfl)); replace HB := Aside0.mk (below_step (by repeat (first | (with_reducible first | exact HB.out | apply below_alloc | apply pw_below_drewN | apply below_drew1 | refine below_set ?_ (IsS152.ge HI0.out) | refine below_set ?_ GE1356.out | refine below_set ?_ GE1366.out) | exact HB.out)) hb); replace HI0 := Aside0.mk (IsS152.below (by repeat (first | (with_reducible first | exact HI0.out | apply IsS152.alloc | apply IsS152.drewN | apply IsS152.drew | apply IsS152.set_1 | apply IsS152.set_2 | refine IsS152.far ?_ NB0_1356.out _ | refine IsS152.far ?_ NB0_1366.out _) | exact HI0.out)) hb); (try clear hb)) | ((with_reducible refine gate_callee (f := 61) rfl ?_); refine gL_ (some 32) Try.func61 #[.slice A1 l1.length c1, .int .i64 t1370] ?_; (with_reducible refine (spec_KidsOf.calls kj6 _ _ l1 t1370 t1371 _ (Kd.C_foot_now HR1.out (by repeat (first | (with_reducible first | exact HK.out | apply KeepBut.set_ | apply keep_drewN | apply keep_drew | apply keep_alloc | refine keep_far ?_ GW1356.out _ | refine keep_far ?_ GW1366.out _) | exact HK.out))) HC1.out A29.out).mono ?_); rintro e w36 ⟨v1372, rfl, ho0, hb⟩; refine ⟨_, rfl, ?_⟩; have HO1373 := Aside0.mk (Kd.R_lower (Kd.R_new' ho0 (Kd.R_lt (rx_ HO_1367001.out))) (keep_size (w := w) (g := g) (row := none) (by repeat (first | (with_reducible first | exact HK.out | apply KeepBut.set_ | apply keep_drewN | apply keep_drew | apply keep_alloc | refine keep_far ?_ GW1356.out _ | refine keep_far ?_ GW1366.out _) | exact HK.out)))); replace HO_1367001 := Aside0.mk (Kd.R_elder' (rx_ HO_1367001.out) (Kd.R_base ho0) hb); replace BK1356 := tK_ BK1356 hb; replace BK1366 := tK_ BK1366 hb; replace HK := Aside0.mk (KeepBut.trans (by repeat (first | (with_reducible first | exact HK.out | apply KeepBut.set_ | apply keep_drewN | apply keep_drew | apply keep_alloc | refine keep_far ?_ GW1356.out _ | refine keep_far ?_ GW1366.out _) | exact HK.out)) (KeepBut.of_below hb g none) (.inl rfl)); replace HB := Aside0.mk (below_step (by repeat (first | (with_reducible first | exact HB.out | apply below_alloc | apply pw_below_drewN | apply below_drew1 | refine below_set ?_ (IsS152.ge HI0.out) | refine below_set ?_ GE1356.out | refine below_set ?_ GE1366.out) | exact HB.out)) hb); replace HI0 := Aside0.mk (IsS152.below (by repeat (first | (with_reducible first | exact HI0.out | apply IsS152.alloc | apply IsS152.drewN | apply IsS152.drew | apply IsS152.set_1 | apply IsS152.set_2 | refine IsS152.far ?_ NB0_1356.out _ | refine IsS152.far ?_ NB0_1366.out _) | exact HI0.out)) hb); (try clear hb); (try clear ho0); obtain ⟨Ao37, co37, eo37⟩ := Kd.R_slice HO1373.out; subst eo37) | ((with_reducible refine gate_callee (f := 135) rfl ?_); refine gL_ (some 37) Try.func135 #[.pointer (some ⟨g, 0, none⟩), .int .i64 (wrap64 ((t1371.length : Int) + 1))] ?_; (with_reducible refine (spec_l1Below.calls g s0_0 x1001_6 x1002_6 (wrap64 ((t1371.length : Int) + 1)) t1374 t1375 t1376 w0 _ ?side1 ?side2 A30.out).mono ?_); (case side1 => repeat (first | (with_reducible first | exact HI0.out | apply IsS152.alloc | apply IsS152.drewN | apply IsS152.drew | apply IsS152.set_1 | apply IsS152.set_2 | refine IsS152.far ?_ NB0_1356.out _ | refine IsS152.far ?_ NB0_1366.out _) | exact HI0.out)); (case side2 => repeat (first | (with_reducible first | exact HB.out | apply below_alloc | apply pw_below_drewN | apply below_drew1 | refine below_set ?_ (IsS152.ge HI0.out) | refine below_set ?_ GE1356.out | refine below_set ?_ GE1366.out) | exact HB.out)); rintro e w38 ⟨rfl, hi, hb, hk⟩; refine ⟨_, rfl, ?_⟩; replace HO_1367001 := Aside0.mk (Kd.R_mono (Kd.R_keep (IsS152.apart (show IsS152 w0 _ g s0_0 x1001_6 x1002_6 from by repeat (first | (with_reducible first | exact HI0.out | apply IsS152.alloc | apply IsS152.drewN | apply IsS152.drew | apply IsS152.set_1 | apply IsS152.set_2 | refine IsS152.far ?_ NB0_1356.out _ | refine IsS152.far ?_ NB0_1366.out _) | exact HI0.out)) (rx_ HO_1367001.out) (by decide)) hk (fun _ h => h.2)) (fun _ h => h.1)); replace BK1356 := Aside0.mk (KeepBut.blk hk (g' := gb1356) (o := .cells #[.int .i64 0, .slice none 0 0, .int .i64 0, .int .i64 0, .int .i64 0] 67 (0, 0)) (kx_ BK1356.out) NB1356_0.out (by simp)); replace BK1366 := Aside0.mk (KeepBut.blk hk (g' := gb1366) (o := .cells #[.int .i64 (wrap64 (1 + t1357)), .slice Ao12 t1363.length co12, .int .i64 x1367002_6, .int .i64 0, .int .i64 0] 67 (0, 0)) (kx_ BK1366.out) NB1366_0.out (by simp)); replace HO1373 := Aside0.mk (Kd.R_mono (Kd.R_keep (IsS152.apart (show IsS152 w0 _ g s0_0 x1001_6 x1002_6 from by repeat (first | (with_reducible first | exact HI0.out | apply IsS152.alloc | apply IsS152.drewN | apply IsS152.drew | apply IsS152.set_1 | apply IsS152.set_2 | refine IsS152.far ?_ NB0_1356.out _ | refine IsS152.far ?_ NB0_1366.out _) | exact HI0.out)) (rx_ HO1373.out) (by decide)) hk (fun _ h => h.2)) (fun _ h => h.1)); replace HK := Aside0.mk (KeepBut.trans (by repeat (first | (with_reducible first | exact HK.out | apply KeepBut.set_ | apply keep_drewN | apply keep_drew | apply keep_alloc | refine keep_far ?_ GW1356.out _ | refine keep_far ?_ GW1366.out _) | exact HK.out)) hk (.inl rfl)); replace HB := Aside0.mk (hb); replace HI0 := Aside0.mk (hi); (try clear hb); (try clear hk); (try clear hi); obtain ⟨hcz39_0, hcz39_1, hcz39_2, hcz39_3, hcz39_4, hfz39_0, hfz39_1, hfz39_2, hfz39_3, hfz39_4⟩ := bk5_ BK1366) | ((with_reducible refine gate_callee (f := 135) rfl ?_); refine gL_ (some 45) Try.func135 #[.pointer (some ⟨g, 0, none⟩), .int .i64 (wrap64 ((wrap64 ((t1371.length : Int) - t1374)) + 1))] ?_; (with_reducible refine (spec_l1Below.calls g s0_0 t1375 t1376 (wrap64 ((wrap64 ((t1371.length : Int) - t1374)) + 1)) t1377 t1378 t1379 w0 _ ?side1 ?side2 A31.out).mono ?_); (case side1 => repeat (first | (with_reducible first | exact HI0.out | apply IsS152.alloc | apply IsS152.drewN | apply IsS152.drew | apply IsS152.set_1 | apply IsS152.set_2 | refine IsS152.far ?_ NB0_1356.out _ | refine IsS152.far ?_ NB0_1366.out _) | exact HI0.out)); (case side2 => repeat (first | (with_reducible first | exact HB.out | apply below_alloc | apply pw_below_drewN | apply below_drew1 | refine below_set ?_ (IsS152.ge HI0.out) | refine below_set ?_ GE1356.out | refine below_set ?_ GE1366.out) | exact HB.out)); rintro e w40 ⟨rfl, hi, hb, hk⟩; refine ⟨_, rfl, ?_⟩; replace HO_1367001 := Aside0.mk (Kd.R_mono (Kd.R_keep (IsS152.apart (show IsS152 w0 _ g s0_0 t1375 t1376 from by repeat (first | (with_reducible first | exact HI0.out | apply IsS152.alloc | apply IsS152.drewN | apply IsS152.drew | apply IsS152.set_1 | apply IsS152.set_2 | refine IsS152.far ?_ NB0_1356.out _ | refine IsS152.far ?_ NB0_1366.out _) | exact HI0.out)) (rx_ ((Kd.R_mono (Kd.R_far (p := ⟨gb1366, 3, none⟩) (Kd.R_types HO_1367001.out BK1366.out (by decide)) (fun _ hk => hk.2) (.int .i64 t1374)) (fun _ h_ => h_.1)))) (by decide)) hk (fun _ h => h.2)) (fun _ h => h.1)); replace BK1356 := Aside0.mk (KeepBut.blk hk (g' := gb1356) (o := .cells #[.int .i64 0, .slice none 0 0, .int .i64 0, .int .i64 0, .int .i64 0] 67 (0, 0)) (by (with_reducible repeat (first | refine blk_drewN ?_ _ | refine blk_drew ?_ | refine blk_alloc ?_ _)); refine blk_far ?_ NB1356_1366.out _; (with_reducible repeat (first | refine blk_drewN ?_ _ | refine blk_drew ?_ | refine blk_alloc ?_ _)); exact BK1356.out) NB1356_0.out (by simp)); replace HO1373 := Aside0.mk (Kd.R_mono (Kd.R_keep (IsS152.apart (show IsS152 w0 _ g s0_0 t1375 t1376 from by repeat (first | (with_reducible first | exact HI0.out | apply IsS152.alloc | apply IsS152.drewN | apply IsS152.drew | apply IsS152.set_1 | apply IsS152.set_2 | refine IsS152.far ?_ NB0_1356.out _ | refine IsS152.far ?_ NB0_1366.out _) | exact HI0.out)) (rx_ ((Kd.R_mono (Kd.R_far (p := ⟨gb1366, 3, none⟩) (Kd.R_types HO1373.out BK1366.out (by decide)) (fun _ hk => hk.2) (.int .i64 t1374)) (fun _ h_ => h_.1)))) (by decide)) hk (fun _ h => h.2)) (fun _ h => h.1)); replace BK1366 := Aside0.mk (KeepBut.blk hk (g' := gb1366) (o := .cells #[.int .i64 (wrap64 (1 + t1357)), .slice Ao12 t1363.length co12, .int .i64 x1367002_6, .int .i64 t1374, .int .i64 0] 67 (0, 0)) (by (with_reducible repeat (first | refine blk_drewN ?_ _ | refine blk_drew ?_ | refine blk_alloc ?_ _)); refine blk_put (cs := #[.int .i64 (wrap64 (1 + t1357)), .slice Ao12 t1363.length co12, .int .i64 x1367002_6, .int .i64 0, .int .i64 0]) ?_ 3 _ rfl; (with_reducible repeat (first | refine blk_drewN ?_ _ | refine blk_drew ?_ | refine blk_alloc ?_ _)); exact BK1366.out) NB1366_0.out (by simp)); replace HK := Aside0.mk (KeepBut.trans (by repeat (first | (with_reducible first | exact HK.out | apply KeepBut.set_ | apply keep_drewN | apply keep_drew | apply keep_alloc | refine keep_far ?_ GW1356.out _ | refine keep_far ?_ GW1366.out _) | exact HK.out)) hk (.inl rfl)); replace HB := Aside0.mk (hb); replace HI0 := Aside0.mk (hi); (try clear hb); (try clear hb2); (try clear hk); (try clear hi); obtain ⟨hcz41_0, hcz41_1, hcz41_2, hcz41_3, hcz41_4, hfz41_0, hfz41_1, hfz41_2, hfz41_3, hfz41_4⟩ := bk5_ BK1366))
     go_meet
     case rel => exact ⟨_, (t1378), (t1379), (t1374), (t1377), H', ⟨by have := HJ6.out; first | omega | exact Nat.le_refl _⟩, ⟨rx_ (Kd.R_mono (Kd.R_far (p := ⟨gb1366, 4, none⟩) (Kd.R_types HO_1367001.out BK1366.out (by decide)) (fun _ hk => hk.2) (.int .i64 t1377)) (fun _ hk => trivial))⟩, ⟨by (with_reducible repeat (first | refine blk_drewN ?_ _ | refine blk_drew ?_ | refine blk_alloc ?_ _)); refine blk_far ?_ NB1356_1366.out _; (with_reducible repeat (first | refine blk_drewN ?_ _ | refine blk_drew ?_ | refine blk_alloc ?_ _)); exact BK1356.out⟩, ⟨by (with_reducible repeat (first | refine blk_drewN ?_ _ | refine blk_drew ?_ | refine blk_alloc ?_ _)); refine blk_put (cs := #[.int .i64 (wrap64 (1 + t1357)), .slice Ao12 t1363.length co12, .int .i64 x1367002_6, .int .i64 t1374, .int .i64 0]) ?_ 4 _ rfl; (with_reducible repeat (first | refine blk_drewN ?_ _ | refine blk_drew ?_ | refine blk_alloc ?_ _)); exact BK1366.out⟩, ⟨by repeat (first | (with_reducible first | exact HI0.out | apply IsS152.alloc | apply IsS152.drewN | apply IsS152.drew | apply IsS152.set_1 | apply IsS152.set_2 | refine IsS152.far ?_ NB0_1356.out _ | refine IsS152.far ?_ NB0_1366.out _) | exact HI0.out)⟩, ⟨by repeat (first | (with_reducible first | exact HK.out | apply KeepBut.set_ | apply keep_drewN | apply keep_drew | apply keep_alloc | refine keep_far ?_ GW1356.out _ | refine keep_far ?_ GW1366.out _) | exact HK.out)⟩, ⟨by repeat (first | (with_reducible first | exact HB.out | apply below_alloc | apply pw_below_drewN | apply below_drew1 | refine below_set ?_ (IsS152.ge HI0.out) | refine below_set ?_ GE1356.out | refine below_set ?_ GE1366.out) | exact HB.out)⟩⟩
    ·rw [if_neg c27] at H
     have c27b0 : ((wrap64 (1 + t1357)) == 3) = false := beq_eq_false_iff_ne.mpr c27
     have c27b1 : ((wrap64 (1 + t1357)) != 3) = true := bne_iff_ne.mpr c27
     (first | rw [c27b0] | (simp only [i64_w, i32_w]; rw [c27b0]) | skip)
     have H' := Aside0.mk H
     clear H
     go_wp2
     go_meet
     case rel => exact ⟨_, (x1001_6), (x1002_6), (0), (0), H', ⟨by have := HJ6.out; first | omega | exact Nat.le_refl _⟩, ⟨rx_ HO_1367001.out⟩, ⟨kx_ BK1356.out⟩, ⟨kx_ BK1366.out⟩, ⟨by repeat (first | (with_reducible first | exact HI0.out | apply IsS152.alloc | apply IsS152.drewN | apply IsS152.drew | apply IsS152.set_1 | apply IsS152.set_2 | refine IsS152.far ?_ NB0_1356.out _ | refine IsS152.far ?_ NB0_1366.out _) | exact HI0.out)⟩, ⟨by repeat (first | (with_reducible first | exact HK.out | apply KeepBut.set_ | apply keep_drewN | apply keep_drew | apply keep_alloc | refine keep_far ?_ GW1356.out _ | refine keep_far ?_ GW1366.out _) | exact HK.out)⟩, ⟨by repeat (first | (with_reducible first | exact HB.out | apply below_alloc | apply pw_below_drewN | apply below_drew1 | refine below_set ?_ (IsS152.ge HI0.out) | refine below_set ?_ GE1356.out | refine below_set ?_ GE1366.out) | exact HB.out)⟩⟩
   case rest =>
    clear HC23
    try clear c1
    try clear c2
    try clear p2
    try clear c3
    try clear c6
    try clear p6
    try clear c11
    try clear c13
    try clear c14
    try clear c15
    try clear c17
    try clear c17b0
    try clear c17b1
    try clear c20
    try clear c21
    try clear c24
    try clear c25
    try clear c27
    try clear c27b0
    try clear c27b1
    try clear c32
    try clear c33
    try clear hcz16_0
    try clear hcz16_1
    try clear hcz16_2
    try clear hcz16_3
    try clear hcz16_4
    try clear hcz22_0
    try clear hcz22_1
    try clear hcz22_2
    try clear hcz22_3
    try clear hcz22_4
    try clear hcz26_0
    try clear hcz26_1
    try clear hcz26_2
    try clear hcz26_3
    try clear hcz26_4
    try clear hcz34_0
    try clear hcz34_1
    try clear hcz34_2
    try clear hcz34_3
    try clear hcz34_4
    try clear hcz39_0
    try clear hcz39_1
    try clear hcz39_2
    try clear hcz39_3
    try clear hcz39_4
    try clear hcz41_0
    try clear hcz41_1
    try clear hcz41_2
    try clear hcz41_3
    try clear hcz41_4
    try clear hfz16_0
    try clear hfz16_1
    try clear hfz16_2
    try clear hfz16_3
    try clear hfz16_4
    try clear hfz22_0
    try clear hfz22_1
    try clear hfz22_2
    try clear hfz22_3
    try clear hfz22_4
    try clear hfz26_0
    try clear hfz26_1
    try clear hfz26_2
    try clear hfz26_3
    try clear hfz26_4
    try clear hfz34_0
    try clear hfz34_1
    try clear hfz34_2
    try clear hfz34_3
    try clear hfz34_4
    try clear hfz39_0
    try clear hfz39_1
    try clear hfz39_2
    try clear hfz39_3
    try clear hfz39_4
    try clear hfz41_0
    try clear hfz41_1
    try clear hfz41_2
    try clear hfz41_3
    try clear hfz41_4
    try clear p2
    try clear p6
    obtain ⟨kq, x1001_22, x1002_22, x1367003_22, x1367004_22, HA, HJ22, HO_1367001, BK1356, BK1366, HI0, HK, HB⟩ := hcut
    cases kq with
    | zero => exact absurd HA.out (by simp [spec_l13Op.j1])
    | succ kj22 =>
     have H := HA.out
     clear HA
     simp only [spec_l13Op.j1] at H
     replace H := Option.bind_eq_some_iff.mp H
     obtain ⟨⟨t1380, t1381, t1382⟩, A420, H⟩ := H
     try dsimp only at H
     have A42 := Aside0.mk A420
     clear A420
     by_cases c43 : t1380 = 0
     ·rw [if_pos c43] at H
      have c43b0 : (t1380 == 0) = true := beq_iff_eq.mpr c43
      have c43b1 : (t1380 != 0) = false := bne_eq_false_iff_eq.mpr c43
      clear c43
      replace H := Option.bind_eq_some_iff.mp H
      obtain ⟨⟨t1383, t1384, t1385⟩, A440, H⟩ := H
      try dsimp only at H
      have A44 := Aside0.mk A440
      clear A440
      simp only [Option.some.injEq, Prod.mk.injEq] at H
      obtain ⟨rfl, rfl, rfl, rfl, rfl, rfl, rfl⟩ := H
      go_wp2_with (first | ((with_reducible refine gate_callee (f := 135) rfl ?_); refine gL_ (some 48) Try.func135 #[.pointer (some ⟨g, 0, none⟩), .int .i64 14] ?_; (with_reducible refine (spec_l1Below.calls g s0_0 x1001_22 x1002_22 14 t1380 t1381 t1382 w0 _ ?side1 ?side2 A42.out).mono ?_); (case side1 => repeat (first | (with_reducible first | exact HI0.out | apply IsS152.alloc | apply IsS152.drewN | apply IsS152.drew | apply IsS152.set_1 | apply IsS152.set_2 | refine IsS152.far ?_ NB0_1356.out _ | refine IsS152.far ?_ NB0_1366.out _) | exact HI0.out)); (case side2 => repeat (first | (with_reducible first | exact HB.out | apply below_alloc | apply pw_below_drewN | apply below_drew1 | refine below_set ?_ (IsS152.ge HI0.out) | refine below_set ?_ GE1356.out | refine below_set ?_ GE1366.out) | exact HB.out)); rintro e w45 ⟨rfl, hi, hb, hk⟩; refine ⟨_, rfl, ?_⟩; replace HO_1367001 := Aside0.mk (Kd.R_mono (Kd.R_keep (IsS152.apart (show IsS152 w0 _ g s0_0 x1001_22 x1002_22 from by repeat (first | (with_reducible first | exact HI0.out | apply IsS152.alloc | apply IsS152.drewN | apply IsS152.drew | apply IsS152.set_1 | apply IsS152.set_2 | refine IsS152.far ?_ NB0_1356.out _ | refine IsS152.far ?_ NB0_1366.out _) | exact HI0.out)) (rx_ HO_1367001.out) (by decide)) hk (fun _ h => h.2)) (fun _ h => h.1)); replace BK1356 := Aside0.mk (KeepBut.blk hk (g' := gb1356) (o := .cells #[.int .i64 0, .slice none 0 0, .int .i64 0, .int .i64 0, .int .i64 0] 67 (0, 0)) (kx_ BK1356.out) NB1356_0.out (by simp)); replace BK1366 := Aside0.mk (KeepBut.blk hk (g' := gb1366) (o := .cells #[.int .i64 (wrap64 (1 + t1357)), .slice Ao12 t1363.length co12, .int .i64 x1367002_6, .int .i64 x1367003_22, .int .i64 x1367004_22] 67 (0, 0)) (kx_ BK1366.out) NB1366_0.out (by simp)); replace HK := Aside0.mk (KeepBut.trans (by repeat (first | (with_reducible first | exact HK.out | apply KeepBut.set_ | apply keep_drewN | apply keep_drew | apply keep_alloc | refine keep_far ?_ GW1356.out _ | refine keep_far ?_ GW1366.out _) | exact HK.out)) hk (.inl rfl)); replace HB := Aside0.mk (hb); replace HI0 := Aside0.mk (hi); (try clear hb); (try clear hk); (try clear hi)) | ((with_reducible refine gate_callee (f := 135) rfl ?_); refine gL_ (some 52) Try.func135 #[.pointer (some ⟨g, 0, none⟩), .int .i64 5] ?_; (with_reducible refine (spec_l1Below.calls g s0_0 t1381 t1382 5 t1383 t1384 t1385 w0 _ ?side1 ?side2 A44.out).mono ?_); (case side1 => repeat (first | (with_reducible first | exact HI0.out | apply IsS152.alloc | apply IsS152.drewN | apply IsS152.drew | apply IsS152.set_1 | apply IsS152.set_2 | refine IsS152.far ?_ NB0_1356.out _ | refine IsS152.far ?_ NB0_1366.out _) | exact HI0.out)); (case side2 => repeat (first | (with_reducible first | exact HB.out | apply below_alloc | apply pw_below_drewN | apply below_drew1 | refine below_set ?_ (IsS152.ge HI0.out) | refine below_set ?_ GE1356.out | refine below_set ?_ GE1366.out) | exact HB.out)); rintro e w46 ⟨rfl, hi, hb, hk⟩; refine ⟨_, rfl, ?_⟩; replace HO_1367001 := Aside0.mk (Kd.R_mono (Kd.R_keep (IsS152.apart (show IsS152 w0 _ g s0_0 t1381 t1382 from by repeat (first | (with_reducible first | exact HI0.out | apply IsS152.alloc | apply IsS152.drewN | apply IsS152.drew | apply IsS152.set_1 | apply IsS152.set_2 | refine IsS152.far ?_ NB0_1356.out _ | refine IsS152.far ?_ NB0_1366.out _) | exact HI0.out)) (rx_ HO_1367001.out) (by decide)) hk (fun _ h => h.2)) (fun _ h => h.1)); replace BK1356 := Aside0.mk (KeepBut.blk hk (g' := gb1356) (o := .cells #[.int .i64 0, .slice none 0 0, .int .i64 0, .int .i64 0, .int .i64 0] 67 (0, 0)) (kx_ BK1356.out) NB1356_0.out (by simp)); replace BK1366 := Aside0.mk (KeepBut.blk hk (g' := gb1366) (o := .cells #[.int .i64 (wrap64 (1 + t1357)), .slice Ao12 t1363.length co12, .int .i64 x1367002_6, .int .i64 x1367003_22, .int .i64 x1367004_22] 67 (0, 0)) (kx_ BK1366.out) NB1366_0.out (by simp)); replace HK := Aside0.mk (KeepBut.trans (by repeat (first | (with_reducible first | exact HK.out | apply KeepBut.set_ | apply keep_drewN | apply keep_drew | apply keep_alloc | refine keep_far ?_ GW1356.out _ | refine keep_far ?_ GW1366.out _) | exact HK.out)) hk (.inl rfl)); replace HB := Aside0.mk (hb); replace HI0 := Aside0.mk (hi); (try clear hb); (try clear hk); (try clear hi); have hnb47 := NB1366_1356.out; have hnc47 := NB1356_1366.out; have hnb48 := NB1366_0.out; have hnc48 := NB0_1366.out; obtain ⟨hcz49_0, hcz49_1, hcz49_2, hcz49_3, hcz49_4, hfz49_0, hfz49_1, hfz49_2, hfz49_3, hfz49_4⟩ := bk5_ BK1366; have hnb50 := NB1356_0.out; have hnc50 := NB0_1356.out; obtain ⟨hcz51_0, hcz51_1, hcz51_2, hcz51_3, hcz51_4, hfz51_0, hfz51_1, hfz51_2, hfz51_3, hfz51_4⟩ := bk5_ BK1356))
      refine bodyPost_ret (results_cell_row rfl _ _ gb1356 67 #[.int .i64 t1383, .slice Ao12 t1363.length co12, .int .i64 x1367002_6, .int .i64 x1367003_22, .int .i64 x1367004_22] (0, 0) _ rfl (by (with_reducible repeat (first | refine blk_drewN ?_ _ | refine blk_drew ?_ | refine blk_alloc ?_ _)); refine blk_put (cs := #[.int .i64 t1383, .slice Ao12 t1363.length co12, .int .i64 x1367002_6, .int .i64 x1367003_22, .int .i64 0]) ?_ 4 _ rfl; (with_reducible repeat (first | refine blk_drewN ?_ _ | refine blk_drew ?_ | refine blk_alloc ?_ _)); refine blk_put (cs := #[.int .i64 t1383, .slice Ao12 t1363.length co12, .int .i64 x1367002_6, .int .i64 0, .int .i64 0]) ?_ 3 _ rfl; (with_reducible repeat (first | refine blk_drewN ?_ _ | refine blk_drew ?_ | refine blk_alloc ?_ _)); refine blk_put (cs := #[.int .i64 t1383, .slice Ao12 t1363.length co12, .int .i64 0, .int .i64 0, .int .i64 0]) ?_ 2 _ rfl; (with_reducible repeat (first | refine blk_drewN ?_ _ | refine blk_drew ?_ | refine blk_alloc ?_ _)); refine blk_put (cs := #[.int .i64 t1383, .slice none 0 0, .int .i64 0, .int .i64 0, .int .i64 0]) ?_ 1 _ rfl; (with_reducible repeat (first | refine blk_drewN ?_ _ | refine blk_drew ?_ | refine blk_alloc ?_ _)); refine blk_put (cs := #[.int .i64 0, .slice none 0 0, .int .i64 0, .int .i64 0, .int .i64 0]) ?_ 0 _ rfl; (with_reducible repeat (first | refine blk_drewN ?_ _ | refine blk_drew ?_ | refine blk_alloc ?_ _)); refine blk_far ?_ NB1356_1366.out _; (with_reducible repeat (first | refine blk_drewN ?_ _ | refine blk_drew ?_ | refine blk_alloc ?_ _)); exact BK1356.out) Try.underlying67 rfl (by kernel_rfl)) rfl ?_
      exact ⟨_, by first | rfl | (simp [errW_none, errW_some] <;> rfl) | (simp only [← hji4]; first | rfl | (simp [errW_none, errW_some] <;> rfl)) | (simp [*, errW_none, errW_some] <;> rfl), rx_ (Kd.R_mono (Kd.R_far (p := ⟨gb1356, 4, none⟩) (Kd.R_far (p := ⟨gb1356, 3, none⟩) (Kd.R_far (p := ⟨gb1356, 2, none⟩) (Kd.R_far (p := ⟨gb1356, 1, none⟩) (Kd.R_far (p := ⟨gb1356, 0, none⟩) (Kd.R_far (p := ⟨gb1366, 0, none⟩) (Kd.R_types (Kd.R_types HO_1367001.out BK1366.out (by decide)) BK1356.out (by decide)) (fun _ hk => hk.1.2) (.int .i64 t1383)) (fun _ hk => hk.2) (.int .i64 t1383)) (fun _ hk => hk.2) (.slice Ao12 t1363.length co12)) (fun _ hk => hk.2) (.int .i64 x1367002_6)) (fun _ hk => hk.2) (.int .i64 x1367003_22)) (fun _ hk => hk.2) (.int .i64 x1367004_22)) (fun _ hk => trivial)), by repeat (first | (with_reducible first | exact HI0.out | apply IsS152.alloc | apply IsS152.drewN | apply IsS152.drew | apply IsS152.set_1 | apply IsS152.set_2 | refine IsS152.far ?_ NB0_1356.out _ | refine IsS152.far ?_ NB0_1366.out _) | exact HI0.out), by repeat (first | (with_reducible first | exact HB.out | apply below_alloc | apply pw_below_drewN | apply below_drew1 | refine below_set ?_ (IsS152.ge HI0.out) | refine below_set ?_ GE1356.out | refine below_set ?_ GE1366.out) | exact HB.out), by repeat (first | (with_reducible first | exact HK.out | apply KeepBut.set_ | apply keep_drewN | apply keep_drew | apply keep_alloc | refine keep_far ?_ GW1356.out _ | refine keep_far ?_ GW1366.out _) | exact HK.out)⟩
     ·rw [if_neg c43] at H
      have c43b0 : (t1380 == 0) = false := beq_eq_false_iff_ne.mpr c43
      have c43b1 : (t1380 != 0) = true := bne_iff_ne.mpr c43
      by_cases c52 : t1380 = 1
      ·rw [if_pos c52] at H
       have c52b0 : (t1380 == 1) = true := beq_iff_eq.mpr c52
       have c52b1 : (t1380 != 1) = false := bne_eq_false_iff_eq.mpr c52
       clear c52
       replace H := Option.bind_eq_some_iff.mp H
       obtain ⟨⟨t1386, t1387, t1388⟩, A530, H⟩ := H
       try dsimp only at H
       have A53 := Aside0.mk A530
       clear A530
       by_cases c54 : t1363.length < 17592186044416
       ·rw [if_pos c54] at H
        have LMc54 := Aside0.mk c54
        clear c54
        obtain ⟨y1389, hy1389⟩ : ∃ y_ : List Int, y_ = (t1363 ++ [wrap64 (t1386 - 1)]) := ⟨_, rfl⟩
        replace H : (some ((wrap64 (1 + t1357)), y1389, x1367002_6, x1367003_22, x1367004_22, t1387, t1388)) = some (r1, r2, r3, r4, r5, r6, r7) := by first | (rw [hy1389]; with_reducible exact H) | (have H2_ := (Option.bind_some _ _).symm.trans H; rw [hy1389]; with_reducible exact H2_) | (have H2_ := (Option.bind_some _ _).symm.trans H; with_reducible exact H2_) | with_reducible exact H | (rw [hy1389]; exact H) | exact H
        have Ny1389 := Aside0.mk hy1389
        clear hy1389
        simp only [Option.some.injEq, Prod.mk.injEq] at H
        obtain ⟨rfl, rfl, rfl, rfl, rfl, rfl, rfl⟩ := H
        try go_wp2_with (first | ((with_reducible refine gate_callee (f := 135) rfl ?_); refine gL_ (some 48) Try.func135 #[.pointer (some ⟨g, 0, none⟩), .int .i64 14] ?_; (with_reducible refine (spec_l1Below.calls g s0_0 x1001_22 x1002_22 14 t1380 t1381 t1382 w0 _ ?side1 ?side2 A42.out).mono ?_); (case side1 => repeat (first | (with_reducible first | exact HI0.out | apply IsS152.alloc | apply IsS152.drewN | apply IsS152.drew | apply IsS152.set_1 | apply IsS152.set_2 | refine IsS152.far ?_ NB0_1356.out _ | refine IsS152.far ?_ NB0_1366.out _) | exact HI0.out)); (case side2 => repeat (first | (with_reducible first | exact HB.out | apply below_alloc | apply pw_below_drewN | apply below_drew1 | refine below_set ?_ (IsS152.ge HI0.out) | refine below_set ?_ GE1356.out | refine below_set ?_ GE1366.out) | exact HB.out)); rintro e w55 ⟨rfl, hi, hb, hk⟩; refine ⟨_, rfl, ?_⟩; replace HO_1367001 := Aside0.mk (Kd.R_mono (Kd.R_keep (IsS152.apart (show IsS152 w0 _ g s0_0 x1001_22 x1002_22 from by repeat (first | (with_reducible first | exact HI0.out | apply IsS152.alloc | apply IsS152.drewN | apply IsS152.drew | apply IsS152.set_1 | apply IsS152.set_2 | refine IsS152.far ?_ NB0_1356.out _ | refine IsS152.far ?_ NB0_1366.out _) | exact HI0.out)) (rx_ HO_1367001.out) (by decide)) hk (fun _ h => h.2)) (fun _ h => h.1)); replace BK1356 := Aside0.mk (KeepBut.blk hk (g' := gb1356) (o := .cells #[.int .i64 0, .slice none 0 0, .int .i64 0, .int .i64 0, .int .i64 0] 67 (0, 0)) (kx_ BK1356.out) NB1356_0.out (by simp)); replace BK1366 := Aside0.mk (KeepBut.blk hk (g' := gb1366) (o := .cells #[.int .i64 (wrap64 (1 + t1357)), .slice Ao12 t1363.length co12, .int .i64 x1367002_6, .int .i64 x1367003_22, .int .i64 x1367004_22] 67 (0, 0)) (kx_ BK1366.out) NB1366_0.out (by simp)); replace HK := Aside0.mk (KeepBut.trans (by repeat (first | (with_reducible first | exact HK.out | apply KeepBut.set_ | apply keep_drewN | apply keep_drew | apply keep_alloc | refine keep_far ?_ GW1356.out _ | refine keep_far ?_ GW1366.out _) | exact HK.out)) hk (.inl rfl)); replace HB := Aside0.mk (hb); replace HI0 := Aside0.mk (hi); (try clear hb); (try clear hk); (try clear hi)))
        have n0_ := Aside0.mk (Kd.R_drew HO_1367001.out)
        have n1_ := Aside0.mk (blk_drew BK1356.out)
        have n2_ := Aside0.mk (blk_drew BK1366.out)
        have n3_ := Aside0.mk (IsS152.drew HI0.out)
        have n4_ := Aside0.mk (keep_drew HK.out)
        have n5_ := Aside0.mk (below_drew1 HB.out)
        clear HO_1367001
        clear BK1356
        clear BK1366
        clear HI0
        clear HK
        clear HB
        have HO_1367001 := n0_
        have BK1356 := n1_
        have BK1366 := n2_
        have HI0 := n3_
        have HK := n4_
        have HB := n5_
        clear n0_ n1_ n2_ n3_ n4_ n5_
        refine start_ (n := 9) (S := fun w' => w'.cell? ⟨gb1366, 0, none⟩ = some (.int .i64 (wrap64 (1 + t1357))) ∧ w'.cell? ⟨gb1366, 1, none⟩ = some (.slice Ao12 t1363.length co12) ∧ w'.cell? ⟨gb1366, 2, none⟩ = some (.int .i64 x1367002_6) ∧ w'.cell? ⟨gb1366, 3, none⟩ = some (.int .i64 x1367003_22) ∧ w'.cell? ⟨gb1366, 4, none⟩ = some (.int .i64 x1367004_22)) (ds := [8]) (ba_ 9 0) (by kernel_rfl) rfl rfl ⟨(blk_cell BK1366.out 0).trans rfl, (blk_cell BK1366.out 1).trans rfl, (blk_cell BK1366.out 2).trans rfl, (blk_cell BK1366.out 3).trans rfl, (blk_cell BK1366.out 4).trans rfl⟩ (fun hHeld => ?_); refine with_tabW spec_l13Op.tab12 spec_l13Op.bits12 (fun HT_ HW_ => ?_)
        generalize w55.drew = w56 at HO_1367001 BK1356 BK1366 HI0 HK HB hHeld ⊢
        refine pu_ 0 (some 56) (ba_ 9 1) rfl rfl (any_of HT_.out (by kernel_rfl)) ?_
        refine pu_ 2 (some 58) (ba_ 9 5) rfl rfl (any_of HT_.out (by kernel_rfl)) ?_
        refine ta_ 1 (some 57) (ba_ 9 7) rfl rfl (take_ofW HT_.out HW_.out (by kernel_rfl)) hHeld (by rintro w' ⟨s0, s1, s2, s3, s4⟩; go_simp; with_reducible rfl) ?_
        refine one_ (i := 3) (N := some 59) (ba_ 9 15) rfl rfl (one_of HT_.out (by kernel_rfl)) (by decide) (fun K hK => ?_)
        refine goes_ Try.func135 (by kernel_rfl) rfl #[.pointer (some ⟨g, 0, none⟩), .int .i64 3] (by rfl) rfl rfl (by (try simp only [List.map_toArray, List.map_cons, List.map_nil]); first | done | rfl | (simp only [List.length_drop, List.length_take]; rfl)) ?_
        with_reducible refine (spec_l1Below.calls g s0_0 t1381 t1382 3 t1386 t1387 t1388 w0 _ ?side1 ?side2 A53.out).mono ?_
        (case side1 => repeat (first | (with_reducible first | exact HI0.out | apply IsS152.alloc | apply IsS152.drewN | apply IsS152.drew | apply IsS152.set_1 | apply IsS152.set_2 | refine IsS152.far ?_ NB0_1356.out _ | refine IsS152.far ?_ NB0_1366.out _) | exact HI0.out))
        (case side2 => repeat (first | (with_reducible first | exact HB.out | apply below_alloc | apply pw_below_drewN | apply below_drew1 | refine below_set ?_ (IsS152.ge HI0.out) | refine below_set ?_ GE1356.out | refine below_set ?_ GE1366.out) | exact HB.out))
        rintro e w57 ⟨rfl, hi, hb, hk⟩
        refine ⟨_, rfl, ?_⟩
        have n0_ := Aside0.mk (Kd.R_mono (Kd.R_keep (IsS152.apart (show IsS152 w0 _ g s0_0 t1381 t1382 from by repeat (first | (with_reducible first | exact HI0.out | apply IsS152.alloc | apply IsS152.drewN | apply IsS152.drew | apply IsS152.set_1 | apply IsS152.set_2 | refine IsS152.far ?_ NB0_1356.out _ | refine IsS152.far ?_ NB0_1366.out _) | exact HI0.out)) (rx_ HO_1367001.out) (by decide)) hk (fun _ h => h.2)) (fun _ h => h.1))
        have n1_ := Aside0.mk (KeepBut.blk hk (g' := gb1356) (o := .cells #[.int .i64 0, .slice none 0 0, .int .i64 0, .int .i64 0, .int .i64 0] 67 (0, 0)) (kx_ BK1356.out) NB1356_0.out (by simp))
        have n2_ := Aside0.mk (KeepBut.blk hk (g' := gb1366) (o := .cells #[.int .i64 (wrap64 (1 + t1357)), .slice Ao12 t1363.length co12, .int .i64 x1367002_6, .int .i64 x1367003_22, .int .i64 x1367004_22] 67 (0, 0)) (kx_ BK1366.out) NB1366_0.out (by simp))
        have n3_ := Aside0.mk (KeepBut.trans (by repeat (first | (with_reducible first | exact HK.out | apply KeepBut.set_ | apply keep_drewN | apply keep_drew | apply keep_alloc | refine keep_far ?_ GW1356.out _ | refine keep_far ?_ GW1366.out _) | exact HK.out)) hk (.inl rfl))
        have n4_ := Aside0.mk (hb)
        have n5_ := Aside0.mk (hi)
        clear HO_1367001
        clear BK1356
        clear BK1366
        clear HK
        clear HB
        clear HI0
        have HO_1367001 := n0_
        have BK1356 := n1_
        have BK1366 := n2_
        have HK := n3_
        have HB := n4_
        have HI0 := n5_
        clear n0_ n1_ n2_ n3_ n4_ n5_
        (try clear hb)
        (try clear hb2)
        (try clear hk)
        (try clear hi)
        refine hK.out _ _ ⟨(blk_cell BK1366.out 0).trans rfl, (blk_cell BK1366.out 1).trans rfl, (blk_cell BK1366.out 2).trans rfl, (blk_cell BK1366.out 3).trans rfl, (blk_cell BK1366.out 4).trans rfl⟩ (fun hHeld => ?_)
        clear hK K
        refine norm_ (a' := ?_) ?_ ?_
        rotate_left
        ·show Act.put _ (some 59) _ = _
         simp only [Act.put, List.setIfInBounds_toArray, List.set_cons_zero, List.set_cons_succ, i64_w, i32_w]
         rfl
        refine pu_ 4 (some 60) (ba_ 9 31) rfl rfl (any_of HT_.out (by kernel_rfl)) ?_
        refine one_ (i := 5) (N := some 61) (ba_ 9 63) rfl rfl (one_of HT_.out (by kernel_rfl)) (by decide) (fun K hK => ?_)
        refine value_ (w1 := ?_) (v := ?_) (by rfl) rfl ?_ ?_
        rotate_left 2
        ·go_simp
         constructor
         ·rfl
         ·rfl
        refine hK.out _ _ ⟨(blk_cell (blk_alloc BK1366.out _) 0).trans rfl, (blk_cell (blk_alloc BK1366.out _) 1).trans rfl, (blk_cell (blk_alloc BK1366.out _) 2).trans rfl, (blk_cell (blk_alloc BK1366.out _) 3).trans rfl, (blk_cell (blk_alloc BK1366.out _) 4).trans rfl⟩ (fun hHeld => ?_)
        clear hK K
        refine norm_ (a' := ?_) ?_ ?_
        rotate_left
        ·show Act.put _ (some 61) _ = _
         simp only [Act.put, List.setIfInBounds_toArray, List.set_cons_zero, List.set_cons_succ, i64_w, i32_w]
         rfl
        refine one_ (i := 6) (N := some 62) (ba_ 9 127) rfl rfl (one_of HT_.out (by kernel_rfl)) (by decide) (fun K hK => ?_)
        refine Kd.R_append_step (Kd.int .i64) w.heap.size (by rfl) (.tmp 57) (.tmp 61) 39 3 (.int .i64 0) 8 rfl Try.underlying39 info3 rfl (by decide) (by omega) (.slice Ao12 t1363.length co12) t1363 (wrap64 (t1386 - 1)) [.int .i64 (wrap64 (t1386 - 1))] (fun _ => True) (fun _ => False) rfl rfl ?aP (fun _ hk => hk.elim) ?aF ?aO (Below.refl _ _) ?aS ?aL ?_
        (case aP => exact rfl)
        (case aF => exact (fun _ _ => trivial))
        (case aO => exact (rx_ HO_1367001.out))
        (case aS => exact (keep_size (w := w) (g := g) (row := none) (by repeat (first | (with_reducible first | exact HK.out | apply KeepBut.set_ | apply keep_drewN | apply keep_drew | apply keep_alloc | refine keep_far ?_ GW1356.out _ | refine keep_far ?_ GW1366.out _) | exact HK.out))))
        (case aL => have := LMc54.out; omega)
        intro v1390 w58 ho hb hg hat
        rw [← Ny1389.out] at ho
        have n0_ := Aside0.mk (blk_grown (g := gb1356) (o := .cells #[.int .i64 0, .slice none 0 0, .int .i64 0, .int .i64 0, .int .i64 0] 67 (0, 0)) (kx_ BK1356.out) hg (Kd.R_ne HO_1367001.out BK1356.out (by decide)))
        have n1_ := Aside0.mk (blk_grown (g := gb1366) (o := .cells #[.int .i64 (wrap64 (1 + t1357)), .slice Ao12 t1363.length co12, .int .i64 x1367002_6, .int .i64 x1367003_22, .int .i64 x1367004_22] 67 (0, 0)) (kx_ BK1366.out) hg (Kd.R_ne HO_1367001.out BK1366.out (by decide)))
        have n2_ := Aside0.mk (IsS152.grown (by repeat (first | (with_reducible first | exact HI0.out | apply IsS152.alloc | apply IsS152.drewN | apply IsS152.drew | apply IsS152.set_1 | apply IsS152.set_2 | refine IsS152.far ?_ NB0_1356.out _ | refine IsS152.far ?_ NB0_1366.out _) | exact HI0.out)) hg (IsS152.own_ne HI0.out HO_1367001.out (by decide)))
        have n3_ := Aside0.mk (below_weaken (by repeat (first | (with_reducible first | exact HB.out | apply below_alloc | apply pw_below_drewN | apply below_drew1 | refine below_set ?_ (IsS152.ge HI0.out) | refine below_set ?_ GE1356.out | refine below_set ?_ GE1366.out) | exact HB.out)) HL.out hb)
        have n4_ := Aside0.mk (KeepBut.trans (by repeat (first | (with_reducible first | exact HK.out | apply KeepBut.set_ | apply keep_drewN | apply keep_drew | apply keep_alloc | refine keep_far ?_ GW1356.out _ | refine keep_far ?_ GW1366.out _) | exact HK.out)) (KeepBut.of_grown hg g) (Kd.R_base2 HO_1367001.out))
        have n5_ := Aside0.mk (ho)
        clear BK1356
        clear BK1366
        clear HI0
        clear HB
        clear HK
        clear HO_1367001
        have BK1356 := n0_
        have BK1366 := n1_
        have HI0 := n2_
        have HB := n3_
        have HK := n4_
        have HO1391 := n5_
        clear n0_ n1_ n2_ n3_ n4_ n5_
        clear ho hb hg hat
        obtain ⟨Ao59, co59, eo59⟩ := Kd.R_slice HO1391.out
        (first | subst eo59 | (injection eo59 with f1_ f2_ f3_; have f4_ := f1_.symm; have f5_ := f3_.symm; clear f1_ f2_ f3_; subst f4_; subst f5_))
        refine hK.out _ _ ⟨(blk_cell BK1366.out 0).trans rfl, (blk_cell BK1366.out 1).trans rfl, (blk_cell BK1366.out 2).trans rfl, (blk_cell BK1366.out 3).trans rfl, (blk_cell BK1366.out 4).trans rfl⟩ (fun hHeld => ?_)
        clear hK K
        refine norm_ (a' := ?_) ?_ ?_
        rotate_left
        ·show Act.put _ (some 62) _ = _
         simp only [Act.put, List.setIfInBounds_toArray, List.set_cons_zero, List.set_cons_succ, i64_w, i32_w]
         rfl
        refine pu_ 7 (some 63) (ba_ 9 255) rfl rfl (any_of HT_.out (by kernel_rfl)) ?_
        refine last_ (i := 8) (N := none) (ba_ 9 511) rfl rfl (one_of HT_.out (by kernel_rfl)) (by decide) (fun K hK => ?_)
        have hs60 : w58.cell? ⟨gb1366, 1, none⟩ = some (.slice Ao12 t1363.length co12) := (blk_cell BK1366.out 1).trans rfl
        have hfs60 := blk_frozen BK1366.out 1
        have hns60_0 := NB1356_1366.out
        have hms60_0 := NB1366_1356.out
        refine skip_ (w1 := ?_) (by rfl) rfl ?_ ?_
        rotate_left
        ·go_simp
         rfl
        refine hK.out _ _ ?_
        clear hK K
        refine done_ (done_of HT_.out (by kernel_rfl)) ?_
        have hnb61 := NB1366_1356.out
        have hnc61 := NB1356_1366.out
        have hnb62 := NB1366_0.out
        have hnc62 := NB0_1366.out
        have hcz63_0 : w58.cell? ⟨gb1366, 0, none⟩ = some (.int .i64 (wrap64 (1 + t1357))) := (blk_cell BK1366.out 0).trans rfl
        have hcz63_1 : w58.cell? ⟨gb1366, 1, none⟩ = some (.slice Ao12 t1363.length co12) := (blk_cell BK1366.out 1).trans rfl
        have hcz63_2 : w58.cell? ⟨gb1366, 2, none⟩ = some (.int .i64 x1367002_6) := (blk_cell BK1366.out 2).trans rfl
        have hcz63_3 : w58.cell? ⟨gb1366, 3, none⟩ = some (.int .i64 x1367003_22) := (blk_cell BK1366.out 3).trans rfl
        have hcz63_4 : w58.cell? ⟨gb1366, 4, none⟩ = some (.int .i64 x1367004_22) := (blk_cell BK1366.out 4).trans rfl
        have hfz63_0 := blk_frozen BK1366.out 0
        have hfz63_1 := blk_frozen BK1366.out 1
        have hfz63_2 := blk_frozen BK1366.out 2
        have hfz63_3 := blk_frozen BK1366.out 3
        have hfz63_4 := blk_frozen BK1366.out 4
        have hnb64 := NB1356_0.out
        have hnc64 := NB0_1356.out
        have hcz65_0 : w58.cell? ⟨gb1356, 0, none⟩ = some (.int .i64 0) := (blk_cell BK1356.out 0).trans rfl
        have hcz65_1 : w58.cell? ⟨gb1356, 1, none⟩ = some (.slice none 0 0) := (blk_cell BK1356.out 1).trans rfl
        have hcz65_2 : w58.cell? ⟨gb1356, 2, none⟩ = some (.int .i64 0) := (blk_cell BK1356.out 2).trans rfl
        have hcz65_3 : w58.cell? ⟨gb1356, 3, none⟩ = some (.int .i64 0) := (blk_cell BK1356.out 3).trans rfl
        have hcz65_4 : w58.cell? ⟨gb1356, 4, none⟩ = some (.int .i64 0) := (blk_cell BK1356.out 4).trans rfl
        have hfz65_0 := blk_frozen BK1356.out 0
        have hfz65_1 := blk_frozen BK1356.out 1
        have hfz65_2 := blk_frozen BK1356.out 2
        have hfz65_3 := blk_frozen BK1356.out 3
        have hfz65_4 := blk_frozen BK1356.out 4
        try go_wp2
        refine bodyPost_ret (results_cell_row rfl _ _ gb1356 67 #[.int .i64 (wrap64 (1 + t1357)), .slice Ao59 y1389.length co59, .int .i64 x1367002_6, .int .i64 x1367003_22, .int .i64 x1367004_22] (0, 0) _ rfl (by (with_reducible repeat (first | refine blk_drewN ?_ _ | refine blk_drew ?_ | refine blk_alloc ?_ _)); refine blk_put (cs := #[.int .i64 (wrap64 (1 + t1357)), .slice Ao59 y1389.length co59, .int .i64 x1367002_6, .int .i64 x1367003_22, .int .i64 0]) ?_ 4 _ rfl; (with_reducible repeat (first | refine blk_drewN ?_ _ | refine blk_drew ?_ | refine blk_alloc ?_ _)); refine blk_put (cs := #[.int .i64 (wrap64 (1 + t1357)), .slice Ao59 y1389.length co59, .int .i64 x1367002_6, .int .i64 0, .int .i64 0]) ?_ 3 _ rfl; (with_reducible repeat (first | refine blk_drewN ?_ _ | refine blk_drew ?_ | refine blk_alloc ?_ _)); refine blk_put (cs := #[.int .i64 (wrap64 (1 + t1357)), .slice Ao59 y1389.length co59, .int .i64 0, .int .i64 0, .int .i64 0]) ?_ 2 _ rfl; (with_reducible repeat (first | refine blk_drewN ?_ _ | refine blk_drew ?_ | refine blk_alloc ?_ _)); refine blk_put (cs := #[.int .i64 (wrap64 (1 + t1357)), .slice none 0 0, .int .i64 0, .int .i64 0, .int .i64 0]) ?_ 1 _ rfl; (with_reducible repeat (first | refine blk_drewN ?_ _ | refine blk_drew ?_ | refine blk_alloc ?_ _)); refine blk_put (cs := #[.int .i64 0, .slice none 0 0, .int .i64 0, .int .i64 0, .int .i64 0]) ?_ 0 _ rfl; (with_reducible repeat (first | refine blk_drewN ?_ _ | refine blk_drew ?_ | refine blk_alloc ?_ _)); refine blk_far ?_ NB1356_1366.out _; (with_reducible repeat (first | refine blk_drewN ?_ _ | refine blk_drew ?_ | refine blk_alloc ?_ _)); exact BK1356.out) Try.underlying67 rfl (by kernel_rfl)) rfl ?_
        exact ⟨_, by first | rfl | (simp [errW_none, errW_some] <;> rfl) | (simp only [← hji4]; first | rfl | (simp [errW_none, errW_some] <;> rfl)) | (simp [*, errW_none, errW_some] <;> rfl), rx_ (Kd.R_mono (Kd.R_far (p := ⟨gb1356, 4, none⟩) (Kd.R_far (p := ⟨gb1356, 3, none⟩) (Kd.R_far (p := ⟨gb1356, 2, none⟩) (Kd.R_far (p := ⟨gb1356, 1, none⟩) (Kd.R_far (p := ⟨gb1356, 0, none⟩) (Kd.R_far (p := ⟨gb1366, 1, none⟩) (Kd.R_types (Kd.R_types HO1391.out BK1366.out (by decide)) BK1356.out (by decide)) (fun _ hk => hk.1.2) (.slice Ao59 y1389.length co59)) (fun _ hk => hk.2) (.int .i64 (wrap64 (1 + t1357)))) (fun _ hk => hk.2) (.slice Ao59 y1389.length co59)) (fun _ hk => hk.2) (.int .i64 x1367002_6)) (fun _ hk => hk.2) (.int .i64 x1367003_22)) (fun _ hk => hk.2) (.int .i64 x1367004_22)) (fun _ hk => trivial)), by repeat (first | (with_reducible first | exact HI0.out | apply IsS152.alloc | apply IsS152.drewN | apply IsS152.drew | apply IsS152.set_1 | apply IsS152.set_2 | refine IsS152.far ?_ NB0_1356.out _ | refine IsS152.far ?_ NB0_1366.out _) | exact HI0.out), by repeat (first | (with_reducible first | exact HB.out | apply below_alloc | apply pw_below_drewN | apply below_drew1 | refine below_set ?_ (IsS152.ge HI0.out) | refine below_set ?_ GE1356.out | refine below_set ?_ GE1366.out) | exact HB.out), by repeat (first | (with_reducible first | exact HK.out | apply KeepBut.set_ | apply keep_drewN | apply keep_drew | apply keep_alloc | refine keep_far ?_ GW1356.out _ | refine keep_far ?_ GW1366.out _) | exact HK.out)⟩
       ·rw [if_neg c54] at H
        exact absurd H (by simp)
      ·rw [if_neg c52] at H
       have c52b0 : (t1380 == 1) = false := beq_eq_false_iff_ne.mpr c52
       have c52b1 : (t1380 != 1) = true := bne_iff_ne.mpr c52
       by_cases c66 : t1380 = 2
       ·rw [if_pos c66] at H
        have c66b0 : (t1380 == 2) = true := beq_iff_eq.mpr c66
        have c66b1 : (t1380 != 2) = false := bne_eq_false_iff_eq.mpr c66
        clear c66
        replace H := Option.bind_eq_some_iff.mp H
        obtain ⟨⟨t1392, t1393, t1394⟩, A670, H⟩ := H
        try dsimp only at H
        have A67 := Aside0.mk A670
        clear A670
        simp only [Option.some.injEq, Prod.mk.injEq] at H
        obtain ⟨rfl, rfl, rfl, rfl, rfl, rfl, rfl⟩ := H
        go_wp2_with (first | ((with_reducible refine gate_callee (f := 135) rfl ?_); refine gL_ (some 48) Try.func135 #[.pointer (some ⟨g, 0, none⟩), .int .i64 14] ?_; (with_reducible refine (spec_l1Below.calls g s0_0 x1001_22 x1002_22 14 t1380 t1381 t1382 w0 _ ?side1 ?side2 A42.out).mono ?_); (case side1 => repeat (first | (with_reducible first | exact HI0.out | apply IsS152.alloc | apply IsS152.drewN | apply IsS152.drew | apply IsS152.set_1 | apply IsS152.set_2 | refine IsS152.far ?_ NB0_1356.out _ | refine IsS152.far ?_ NB0_1366.out _) | exact HI0.out)); (case side2 => repeat (first | (with_reducible first | exact HB.out | apply below_alloc | apply pw_below_drewN | apply below_drew1 | refine below_set ?_ (IsS152.ge HI0.out) | refine below_set ?_ GE1356.out | refine below_set ?_ GE1366.out) | exact HB.out)); rintro e w68 ⟨rfl, hi, hb, hk⟩; refine ⟨_, rfl, ?_⟩; replace HO_1367001 := Aside0.mk (Kd.R_mono (Kd.R_keep (IsS152.apart (show IsS152 w0 _ g s0_0 x1001_22 x1002_22 from by repeat (first | (with_reducible first | exact HI0.out | apply IsS152.alloc | apply IsS152.drewN | apply IsS152.drew | apply IsS152.set_1 | apply IsS152.set_2 | refine IsS152.far ?_ NB0_1356.out _ | refine IsS152.far ?_ NB0_1366.out _) | exact HI0.out)) (rx_ HO_1367001.out) (by decide)) hk (fun _ h => h.2)) (fun _ h => h.1)); replace BK1356 := Aside0.mk (KeepBut.blk hk (g' := gb1356) (o := .cells #[.int .i64 0, .slice none 0 0, .int .i64 0, .int .i64 0, .int .i64 0] 67 (0, 0)) (kx_ BK1356.out) NB1356_0.out (by simp)); replace BK1366 := Aside0.mk (KeepBut.blk hk (g' := gb1366) (o := .cells #[.int .i64 (wrap64 (1 + t1357)), .slice Ao12 t1363.length co12, .int .i64 x1367002_6, .int .i64 x1367003_22, .int .i64 x1367004_22] 67 (0, 0)) (kx_ BK1366.out) NB1366_0.out (by simp)); replace HK := Aside0.mk (KeepBut.trans (by repeat (first | (with_reducible first | exact HK.out | apply KeepBut.set_ | apply keep_drewN | apply keep_drew | apply keep_alloc | refine keep_far ?_ GW1356.out _ | refine keep_far ?_ GW1366.out _) | exact HK.out)) hk (.inl rfl)); replace HB := Aside0.mk (hb); replace HI0 := Aside0.mk (hi); (try clear hb); (try clear hk); (try clear hi)) | ((with_reducible refine gate_callee (f := 136) rfl ?_); refine gL_ (some 67) Try.func136 #[.pointer (some ⟨g, 0, none⟩)] ?_; (with_reducible refine (spec_l2Any.calls g s0_0 t1381 t1382 t1392 t1393 t1394 w0 _ ?side1 ?side2 A67.out).mono ?_); (case side1 => repeat (first | (with_reducible first | exact HI0.out | apply IsS152.alloc | apply IsS152.drewN | apply IsS152.drew | apply IsS152.set_1 | apply IsS152.set_2 | refine IsS152.far ?_ NB0_1356.out _ | refine IsS152.far ?_ NB0_1366.out _) | exact HI0.out)); (case side2 => repeat (first | (with_reducible first | exact HB.out | apply below_alloc | apply pw_below_drewN | apply below_drew1 | refine below_set ?_ (IsS152.ge HI0.out) | refine below_set ?_ GE1356.out | refine below_set ?_ GE1366.out) | exact HB.out)); rintro e w69 ⟨rfl, hi, hb, hk⟩; refine ⟨_, rfl, ?_⟩; replace HO_1367001 := Aside0.mk (Kd.R_mono (Kd.R_keep (IsS152.apart (show IsS152 w0 _ g s0_0 t1381 t1382 from by repeat (first | (with_reducible first | exact HI0.out | apply IsS152.alloc | apply IsS152.drewN | apply IsS152.drew | apply IsS152.set_1 | apply IsS152.set_2 | refine IsS152.far ?_ NB0_1356.out _ | refine IsS152.far ?_ NB0_1366.out _) | exact HI0.out)) (rx_ HO_1367001.out) (by decide)) hk (fun _ h => h.2)) (fun _ h => h.1)); replace BK1356 := Aside0.mk (KeepBut.blk hk (g' := gb1356) (o := .cells #[.int .i64 0, .slice none 0 0, .int .i64 0, .int .i64 0, .int .i64 0] 67 (0, 0)) (kx_ BK1356.out) NB1356_0.out (by simp)); replace BK1366 := Aside0.mk (KeepBut.blk hk (g' := gb1366) (o := .cells #[.int .i64 (wrap64 (1 + t1357)), .slice Ao12 t1363.length co12, .int .i64 x1367002_6, .int .i64 x1367003_22, .int .i64 x1367004_22] 67 (0, 0)) (kx_ BK1366.out) NB1366_0.out (by simp)); replace HK := Aside0.mk (KeepBut.trans (by repeat (first | (with_reducible first | exact HK.out | apply KeepBut.set_ | apply keep_drewN | apply keep_drew | apply keep_alloc | refine keep_far ?_ GW1356.out _ | refine keep_far ?_ GW1366.out _) | exact HK.out)) hk (.inl rfl)); replace HB := Aside0.mk (hb); replace HI0 := Aside0.mk (hi); (try clear hb); (try clear hk); (try clear hi); have hnb70 := NB1366_1356.out; have hnc70 := NB1356_1366.out; have hnb71 := NB1366_0.out; have hnc71 := NB0_1366.out; obtain ⟨hcz72_0, hcz72_1, hcz72_2, hcz72_3, hcz72_4, hfz72_0, hfz72_1, hfz72_2, hfz72_3, hfz72_4⟩ := bk5_ BK1366; have hnb73 := NB1356_0.out; have hnc73 := NB0_1356.out; obtain ⟨hcz74_0, hcz74_1, hcz74_2, hcz74_3, hcz74_4, hfz74_0, hfz74_1, hfz74_2, hfz74_3, hfz74_4⟩ := bk5_ BK1356))
        refine bodyPost_ret (results_cell_row rfl _ _ gb1356 67 #[.int .i64 (wrap64 (1 + t1357)), .slice Ao12 t1363.length co12, .int .i64 t1392, .int .i64 x1367003_22, .int .i64 x1367004_22] (0, 0) _ rfl (by (with_reducible repeat (first | refine blk_drewN ?_ _ | refine blk_drew ?_ | refine blk_alloc ?_ _)); refine blk_put (cs := #[.int .i64 (wrap64 (1 + t1357)), .slice Ao12 t1363.length co12, .int .i64 t1392, .int .i64 x1367003_22, .int .i64 0]) ?_ 4 _ rfl; (with_reducible repeat (first | refine blk_drewN ?_ _ | refine blk_drew ?_ | refine blk_alloc ?_ _)); refine blk_put (cs := #[.int .i64 (wrap64 (1 + t1357)), .slice Ao12 t1363.length co12, .int .i64 t1392, .int .i64 0, .int .i64 0]) ?_ 3 _ rfl; (with_reducible repeat (first | refine blk_drewN ?_ _ | refine blk_drew ?_ | refine blk_alloc ?_ _)); refine blk_put (cs := #[.int .i64 (wrap64 (1 + t1357)), .slice Ao12 t1363.length co12, .int .i64 0, .int .i64 0, .int .i64 0]) ?_ 2 _ rfl; (with_reducible repeat (first | refine blk_drewN ?_ _ | refine blk_drew ?_ | refine blk_alloc ?_ _)); refine blk_put (cs := #[.int .i64 (wrap64 (1 + t1357)), .slice none 0 0, .int .i64 0, .int .i64 0, .int .i64 0]) ?_ 1 _ rfl; (with_reducible repeat (first | refine blk_drewN ?_ _ | refine blk_drew ?_ | refine blk_alloc ?_ _)); refine blk_put (cs := #[.int .i64 0, .slice none 0 0, .int .i64 0, .int .i64 0, .int .i64 0]) ?_ 0 _ rfl; (with_reducible repeat (first | refine blk_drewN ?_ _ | refine blk_drew ?_ | refine blk_alloc ?_ _)); refine blk_far ?_ NB1356_1366.out _; (with_reducible repeat (first | refine blk_drewN ?_ _ | refine blk_drew ?_ | refine blk_alloc ?_ _)); exact BK1356.out) Try.underlying67 rfl (by kernel_rfl)) rfl ?_
        exact ⟨_, by first | rfl | (simp [errW_none, errW_some] <;> rfl) | (simp only [← hji4]; first | rfl | (simp [errW_none, errW_some] <;> rfl)) | (simp [*, errW_none, errW_some] <;> rfl), rx_ (Kd.R_mono (Kd.R_far (p := ⟨gb1356, 4, none⟩) (Kd.R_far (p := ⟨gb1356, 3, none⟩) (Kd.R_far (p := ⟨gb1356, 2, none⟩) (Kd.R_far (p := ⟨gb1356, 1, none⟩) (Kd.R_far (p := ⟨gb1356, 0, none⟩) (Kd.R_far (p := ⟨gb1366, 2, none⟩) (Kd.R_types (Kd.R_types HO_1367001.out BK1366.out (by decide)) BK1356.out (by decide)) (fun _ hk => hk.1.2) (.int .i64 t1392)) (fun _ hk => hk.2) (.int .i64 (wrap64 (1 + t1357)))) (fun _ hk => hk.2) (.slice Ao12 t1363.length co12)) (fun _ hk => hk.2) (.int .i64 t1392)) (fun _ hk => hk.2) (.int .i64 x1367003_22)) (fun _ hk => hk.2) (.int .i64 x1367004_22)) (fun _ hk => trivial)), by repeat (first | (with_reducible first | exact HI0.out | apply IsS152.alloc | apply IsS152.drewN | apply IsS152.drew | apply IsS152.set_1 | apply IsS152.set_2 | refine IsS152.far ?_ NB0_1356.out _ | refine IsS152.far ?_ NB0_1366.out _) | exact HI0.out), by repeat (first | (with_reducible first | exact HB.out | apply below_alloc | apply pw_below_drewN | apply below_drew1 | refine below_set ?_ (IsS152.ge HI0.out) | refine below_set ?_ GE1356.out | refine below_set ?_ GE1366.out) | exact HB.out), by repeat (first | (with_reducible first | exact HK.out | apply KeepBut.set_ | apply keep_drewN | apply keep_drew | apply keep_alloc | refine keep_far ?_ GW1356.out _ | refine keep_far ?_ GW1366.out _) | exact HK.out)⟩
       ·rw [if_neg c66] at H
        have c66b0 : (t1380 == 2) = false := beq_eq_false_iff_ne.mpr c66
        have c66b1 : (t1380 != 2) = true := bne_iff_ne.mpr c66
        by_cases c75 : t1380 = 3
        ·rw [if_pos c75] at H
         have c75b0 : (t1380 == 3) = true := beq_iff_eq.mpr c75
         have c75b1 : (t1380 != 3) = false := bne_eq_false_iff_eq.mpr c75
         clear c75
         obtain ⟨y1395, hy1395⟩ : ∃ y_ : List Int, y_ = (([(-1), 1, 9, 9223372036854775807] : List Int)) := ⟨_, rfl⟩
         replace H : ((spec_l1PickInt.f s0_0 t1381 t1382 y1395).bind fun bt1398 => (some ((wrap64 (1 + t1357)), t1363, x1367002_6, bt1398.1, x1367004_22, bt1398.2.1, bt1398.2.2))) = some (r1, r2, r3, r4, r5, r6, r7) := by first | (rw [hy1395]; with_reducible exact H) | (have H2_ := (Option.bind_some _ _).symm.trans H; rw [hy1395]; with_reducible exact H2_) | (have H2_ := (Option.bind_some _ _).symm.trans H; with_reducible exact H2_) | with_reducible exact H | (rw [hy1395]; exact H) | exact H
         have Ny1395 := Aside0.mk hy1395
         clear hy1395
         replace H := Option.bind_eq_some_iff.mp H
         obtain ⟨⟨t1398, t1399, t1400⟩, A760, H⟩ := H
         try dsimp only at H
         have A76 := Aside0.mk A760
         clear A760
         simp only [Option.some.injEq, Prod.mk.injEq] at H
         obtain ⟨rfl, rfl, rfl, rfl, rfl, rfl, rfl⟩ := H
         go_wp2_with (first | ((with_reducible refine gate_callee (f := 135) rfl ?_); refine gL_ (some 48) Try.func135 #[.pointer (some ⟨g, 0, none⟩), .int .i64 14] ?_; (with_reducible refine (spec_l1Below.calls g s0_0 x1001_22 x1002_22 14 t1380 t1381 t1382 w0 _ ?side1 ?side2 A42.out).mono ?_); (case side1 => repeat (first | (with_reducible first | exact HI0.out | apply IsS152.alloc | apply IsS152.drewN | apply IsS152.drew | apply IsS152.set_1 | apply IsS152.set_2 | refine IsS152.far ?_ NB0_1356.out _ | refine IsS152.far ?_ NB0_1366.out _) | exact HI0.out)); (case side2 => repeat (first | (with_reducible first | exact HB.out | apply below_alloc | apply pw_below_drewN | apply below_drew1 | refine below_set ?_ (IsS152.ge HI0.out) | refine below_set ?_ GE1356.out | refine below_set ?_ GE1366.out) | exact HB.out)); rintro e w77 ⟨rfl, hi, hb, hk⟩; refine ⟨_, rfl, ?_⟩; replace HO_1367001 := Aside0.mk (Kd.R_mono (Kd.R_keep (IsS152.apart (show IsS152 w0 _ g s0_0 x1001_22 x1002_22 from by repeat (first | (with_reducible first | exact HI0.out | apply IsS152.alloc | apply IsS152.drewN | apply IsS152.drew | apply IsS152.set_1 | apply IsS152.set_2 | refine IsS152.far ?_ NB0_1356.out _ | refine IsS152.far ?_ NB0_1366.out _) | exact HI0.out)) (rx_ HO_1367001.out) (by decide)) hk (fun _ h => h.2)) (fun _ h => h.1)); replace BK1356 := Aside0.mk (KeepBut.blk hk (g' := gb1356) (o := .cells #[.int .i64 0, .slice none 0 0, .int .i64 0, .int .i64 0, .int .i64 0] 67 (0, 0)) (kx_ BK1356.out) NB1356_0.out (by simp)); replace BK1366 := Aside0.mk (KeepBut.blk hk (g' := gb1366) (o := .cells #[.int .i64 (wrap64 (1 + t1357)), .slice Ao12 t1363.length co12, .int .i64 x1367002_6, .int .i64 x1367003_22, .int .i64 x1367004_22] 67 (0, 0)) (kx_ BK1366.out) NB1366_0.out (by simp)); replace HK := Aside0.mk (KeepBut.trans (by repeat (first | (with_reducible first | exact HK.out | apply KeepBut.set_ | apply keep_drewN | apply keep_drew | apply keep_alloc | refine keep_far ?_ GW1356.out _ | refine keep_far ?_ GW1366.out _) | exact HK.out)) hk (.inl rfl)); replace HB := Aside0.mk (hb); replace HI0 := Aside0.mk (hi); (try clear hb); (try clear hk); (try clear hi)) | ((with_reducible refine gate_dst (N := 72) rfl ?_); refine Kd.R_lit (Kd.int .i64) _ 3 ?hg (N := 72) ?hd (xs := ([(-1), 1, 9, 9223372036854775807] : List Int)) (inner := [.int .i64 (-1), .int .i64 1, .int .i64 9, .int .i64 9223372036854775807]) (ok := fun _ => True) (okp := fun _ => True) ?hr ?hp (fun _ hk => hk) trivial (Below.refl _ _) (Nat.le_refl _) (by simp) ?_; (case hd => rfl); (case hg => rfl); (case hr => first | (go_simp; done) | (go_simp; rfl)); (case hp => exact (Reps.one (show Kd.M (Kd.int .i64) _ _ _ (-1) [.int .i64 (-1)] from rfl) (Reps.one (show Kd.M (Kd.int .i64) _ _ _ 1 [.int .i64 1] from rfl) (Reps.one (show Kd.M (Kd.int .i64) _ _ _ 9 [.int .i64 9] from rfl) (Reps.one (show Kd.M (Kd.int .i64) _ _ _ 9223372036854775807 [.int .i64 9223372036854775807] from rfl) (Reps.none _ _)))))); intro v1396 w78 ho79 hb hg_ hnew_; clear hg_ hnew_; (first | rw [← Ny1395.out] at ho79 | (simp only [Int.reduceToNat] at ho79; rw [← Ny1395.out] at ho79)); have HO1397 := Aside0.mk (Kd.R_lower (Kd.R_new' ho79 (Kd.R_lt (rx_ HO_1367001.out))) (keep_size (w := w) (g := g) (row := none) (by repeat (first | (with_reducible first | exact HK.out | apply KeepBut.set_ | apply keep_drewN | apply keep_drew | apply keep_alloc | refine keep_far ?_ GW1356.out _ | refine keep_far ?_ GW1366.out _) | exact HK.out)))); replace HO_1367001 := Aside0.mk (Kd.R_elder' (rx_ HO_1367001.out) (Kd.R_base ho79) hb); replace BK1356 := tK_ BK1356 hb; replace BK1366 := tK_ BK1366 hb; replace HK := Aside0.mk (KeepBut.trans (by repeat (first | (with_reducible first | exact HK.out | apply KeepBut.set_ | apply keep_drewN | apply keep_drew | apply keep_alloc | refine keep_far ?_ GW1356.out _ | refine keep_far ?_ GW1366.out _) | exact HK.out)) (KeepBut.of_below hb g none) (.inl rfl)); replace HB := Aside0.mk (below_step (by repeat (first | (with_reducible first | exact HB.out | apply below_alloc | apply pw_below_drewN | apply below_drew1 | refine below_set ?_ (IsS152.ge HI0.out) | refine below_set ?_ GE1356.out | refine below_set ?_ GE1366.out) | exact HB.out)) hb); replace HI0 := Aside0.mk (IsS152.below (by repeat (first | (with_reducible first | exact HI0.out | apply IsS152.alloc | apply IsS152.drewN | apply IsS152.drew | apply IsS152.set_1 | apply IsS152.set_2 | refine IsS152.far ?_ NB0_1356.out _ | refine IsS152.far ?_ NB0_1366.out _) | exact HI0.out)) hb); clear hb ho79; obtain ⟨Ao80, co80, eo80⟩ := Kd.R_slice HO1397.out; subst eo80) | ((with_reducible refine gate_callee (f := 137) rfl ?_); refine gL_ (some 73) Try.func137 #[.pointer (some ⟨g, 0, none⟩), .slice Ao80 y1395.length co80] ?_; (with_reducible refine (spec_l1PickInt.calls g s0_0 t1381 t1382 _ _ y1395 t1398 t1399 t1400 w0 _ ?side1 ?side2 ?side3 ?side4 ?side5 A76.out).mono ?_); (case side1 => repeat (first | (with_reducible first | exact HI0.out | apply IsS152.alloc | apply IsS152.drewN | apply IsS152.drew | apply IsS152.set_1 | apply IsS152.set_2 | refine IsS152.far ?_ NB0_1356.out _ | refine IsS152.far ?_ NB0_1366.out _) | exact HI0.out)); (case side2 => repeat (first | (with_reducible first | exact HB.out | apply below_alloc | apply pw_below_drewN | apply below_drew1 | refine below_set ?_ (IsS152.ge HI0.out) | refine below_set ?_ GE1356.out | refine below_set ?_ GE1366.out) | exact HB.out)); (case side3 => exact cc_ (Kd.R_reads' HO1397.out).2.2); (case side4 => exact (Kd.R_reads' HO1397.out).2.1); (case side5 => exact far_slice (IsS152.own_ne HI0.out HO1397.out (by decide))); rintro e w81 ⟨rfl, hi, hb, hk⟩; refine ⟨_, rfl, ?_⟩; replace HO_1367001 := Aside0.mk (Kd.R_mono (Kd.R_keep (IsS152.apart (show IsS152 w0 _ g s0_0 t1381 t1382 from by repeat (first | (with_reducible first | exact HI0.out | apply IsS152.alloc | apply IsS152.drewN | apply IsS152.drew | apply IsS152.set_1 | apply IsS152.set_2 | refine IsS152.far ?_ NB0_1356.out _ | refine IsS152.far ?_ NB0_1366.out _) | exact HI0.out)) (rx_ HO_1367001.out) (by decide)) hk (fun _ h => h.2)) (fun _ h => h.1)); replace BK1356 := Aside0.mk (KeepBut.blk hk (g' := gb1356) (o := .cells #[.int .i64 0, .slice none 0 0, .int .i64 0, .int .i64 0, .int .i64 0] 67 (0, 0)) (kx_ BK1356.out) NB1356_0.out (by simp)); replace BK1366 := Aside0.mk (KeepBut.blk hk (g' := gb1366) (o := .cells #[.int .i64 (wrap64 (1 + t1357)), .slice Ao12 t1363.length co12, .int .i64 x1367002_6, .int .i64 x1367003_22, .int .i64 x1367004_22] 67 (0, 0)) (kx_ BK1366.out) NB1366_0.out (by simp)); replace HO1397 := Aside0.mk (Kd.R_mono (Kd.R_keep (IsS152.apart (show IsS152 w0 _ g s0_0 t1381 t1382 from by repeat (first | (with_reducible first | exact HI0.out | apply IsS152.alloc | apply IsS152.drewN | apply IsS152.drew | apply IsS152.set_1 | apply IsS152.set_2 | refine IsS152.far ?_ NB0_1356.out _ | refine IsS152.far ?_ NB0_1366.out _) | exact HI0.out)) (rx_ HO1397.out) (by decide)) hk (fun _ h => h.2)) (fun _ h => h.1)); replace HK := Aside0.mk (KeepBut.trans (by repeat (first | (with_reducible first | exact HK.out | apply KeepBut.set_ | apply keep_drewN | apply keep_drew | apply keep_alloc | refine keep_far ?_ GW1356.out _ | refine keep_far ?_ GW1366.out _) | exact HK.out)) hk (.inl rfl)); replace HB := Aside0.mk (hb); replace HI0 := Aside0.mk (hi); (try clear hb); (try clear hk); (try clear hi); have hnb82 := NB1366_1356.out; have hnc82 := NB1356_1366.out; have hnb83 := NB1366_0.out; have hnc83 := NB0_1366.out; obtain ⟨hcz84_0, hcz84_1, hcz84_2, hcz84_3, hcz84_4, hfz84_0, hfz84_1, hfz84_2, hfz84_3, hfz84_4⟩ := bk5_ BK1366; have hnb85 := NB1356_0.out; have hnc85 := NB0_1356.out; obtain ⟨hcz86_0, hcz86_1, hcz86_2, hcz86_3, hcz86_4, hfz86_0, hfz86_1, hfz86_2, hfz86_3, hfz86_4⟩ := bk5_ BK1356))
         refine bodyPost_ret (results_cell_row rfl _ _ gb1356 67 #[.int .i64 (wrap64 (1 + t1357)), .slice Ao12 t1363.length co12, .int .i64 x1367002_6, .int .i64 t1398, .int .i64 x1367004_22] (0, 0) _ rfl (by (with_reducible repeat (first | refine blk_drewN ?_ _ | refine blk_drew ?_ | refine blk_alloc ?_ _)); refine blk_put (cs := #[.int .i64 (wrap64 (1 + t1357)), .slice Ao12 t1363.length co12, .int .i64 x1367002_6, .int .i64 t1398, .int .i64 0]) ?_ 4 _ rfl; (with_reducible repeat (first | refine blk_drewN ?_ _ | refine blk_drew ?_ | refine blk_alloc ?_ _)); refine blk_put (cs := #[.int .i64 (wrap64 (1 + t1357)), .slice Ao12 t1363.length co12, .int .i64 x1367002_6, .int .i64 0, .int .i64 0]) ?_ 3 _ rfl; (with_reducible repeat (first | refine blk_drewN ?_ _ | refine blk_drew ?_ | refine blk_alloc ?_ _)); refine blk_put (cs := #[.int .i64 (wrap64 (1 + t1357)), .slice Ao12 t1363.length co12, .int .i64 0, .int .i64 0, .int .i64 0]) ?_ 2 _ rfl; (with_reducible repeat (first | refine blk_drewN ?_ _ | refine blk_drew ?_ | refine blk_alloc ?_ _)); refine blk_put (cs := #[.int .i64 (wrap64 (1 + t1357)), .slice none 0 0, .int .i64 0, .int .i64 0, .int .i64 0]) ?_ 1 _ rfl; (with_reducible repeat (first | refine blk_drewN ?_ _ | refine blk_drew ?_ | refine blk_alloc ?_ _)); refine blk_put (cs := #[.int .i64 0, .slice none 0 0, .int .i64 0, .int .i64 0, .int .i64 0]) ?_ 0 _ rfl; (with_reducible repeat (first | refine blk_drewN ?_ _ | refine blk_drew ?_ | refine blk_alloc ?_ _)); refine blk_far ?_ NB1356_1366.out _; (with_reducible repeat (first | refine blk_drewN ?_ _ | refine blk_drew ?_ | refine blk_alloc ?_ _)); exact BK1356.out) Try.underlying67 rfl (by kernel_rfl)) rfl ?_
         exact ⟨_, by first | rfl | (simp [errW_none, errW_some] <;> rfl) | (simp only [← hji4]; first | rfl | (simp [errW_none, errW_some] <;> rfl)) | (simp [*, errW_none, errW_some] <;> rfl), rx_ (Kd.R_mono (Kd.R_far (p := ⟨gb1356, 4, none⟩) (Kd.R_far (p := ⟨gb1356, 3, none⟩) (Kd.R_far (p := ⟨gb1356, 2, none⟩) (Kd.R_far (p := ⟨gb1356, 1, none⟩) (Kd.R_far (p := ⟨gb1356, 0, none⟩) (Kd.R_far (p := ⟨gb1366, 3, none⟩) (Kd.R_types (Kd.R_types HO_1367001.out BK1366.out (by decide)) BK1356.out (by decide)) (fun _ hk => hk.1.2) (.int .i64 t1398)) (fun _ hk => hk.2) (.int .i64 (wrap64 (1 + t1357)))) (fun _ hk => hk.2) (.slice Ao12 t1363.length co12)) (fun _ hk => hk.2) (.int .i64 x1367002_6)) (fun _ hk => hk.2) (.int .i64 t1398)) (fun _ hk => hk.2) (.int .i64 x1367004_22)) (fun _ hk => trivial)), by repeat (first | (with_reducible first | exact HI0.out | apply IsS152.alloc | apply IsS152.drewN | apply IsS152.drew | apply IsS152.set_1 | apply IsS152.set_2 | refine IsS152.far ?_ NB0_1356.out _ | refine IsS152.far ?_ NB0_1366.out _) | exact HI0.out), by repeat (first | (with_reducible first | exact HB.out | apply below_alloc | apply pw_below_drewN | apply below_drew1 | refine below_set ?_ (IsS152.ge HI0.out) | refine below_set ?_ GE1356.out | refine below_set ?_ GE1366.out) | exact HB.out), by repeat (first | (with_reducible first | exact HK.out | apply KeepBut.set_ | apply keep_drewN | apply keep_drew | apply keep_alloc | refine keep_far ?_ GW1356.out _ | refine keep_far ?_ GW1366.out _) | exact HK.out)⟩
        ·rw [if_neg c75] at H
         have c75b0 : (t1380 == 3) = false := beq_eq_false_iff_ne.mpr c75
         have c75b1 : (t1380 != 3) = true := bne_iff_ne.mpr c75
         by_cases c87 : t1380 = 4
         ·rw [if_pos c87] at H
          have c87b0 : (t1380 == 4) = true := beq_iff_eq.mpr c87
          have c87b1 : (t1380 != 4) = false := bne_eq_false_iff_eq.mpr c87
          clear c87
          obtain ⟨y1401, hy1401⟩ : ∃ y_ : List Int, y_ = (([(-1), 1, 9, 9223372036854775807] : List Int)) := ⟨_, rfl⟩
          replace H : ((spec_l1PickInt.f s0_0 t1381 t1382 y1401).bind fun bt1404 => (some ((wrap64 (1 + t1357)), t1363, x1367002_6, x1367003_22, bt1404.1, bt1404.2.1, bt1404.2.2))) = some (r1, r2, r3, r4, r5, r6, r7) := by first | (rw [hy1401]; with_reducible exact H) | (have H2_ := (Option.bind_some _ _).symm.trans H; rw [hy1401]; with_reducible exact H2_) | (have H2_ := (Option.bind_some _ _).symm.trans H; with_reducible exact H2_) | with_reducible exact H | (rw [hy1401]; exact H) | exact H
          have Ny1401 := Aside0.mk hy1401
          clear hy1401
          replace H := Option.bind_eq_some_iff.mp H
          obtain ⟨⟨t1404, t1405, t1406⟩, A880, H⟩ := H
          try dsimp only at H
          have A88 := Aside0.mk A880
          clear A880
          simp only [Option.some.injEq, Prod.mk.injEq] at H
          obtain ⟨rfl, rfl, rfl, rfl, rfl, rfl, rfl⟩ := H
          go_wp2_with (first | ((with_reducible refine gate_callee (f := 135) rfl ?_); refine gL_ (some 48) Try.func135 #[.pointer (some ⟨g, 0, none⟩), .int .i64 14] ?_; (with_reducible refine (spec_l1Below.calls g s0_0 x1001_22 x1002_22 14 t1380 t1381 t1382 w0 _ ?side1 ?side2 A42.out).mono ?_); (case side1 => repeat (first | (with_reducible first | exact HI0.out | apply IsS152.alloc | apply IsS152.drewN | apply IsS152.drew | apply IsS152.set_1 | apply IsS152.set_2 | refine IsS152.far ?_ NB0_1356.out _ | refine IsS152.far ?_ NB0_1366.out _) | exact HI0.out)); (case side2 => repeat (first | (with_reducible first | exact HB.out | apply below_alloc | apply pw_below_drewN | apply below_drew1 | refine below_set ?_ (IsS152.ge HI0.out) | refine below_set ?_ GE1356.out | refine below_set ?_ GE1366.out) | exact HB.out)); rintro e w89 ⟨rfl, hi, hb, hk⟩; refine ⟨_, rfl, ?_⟩; replace HO_1367001 := Aside0.mk (Kd.R_mono (Kd.R_keep (IsS152.apart (show IsS152 w0 _ g s0_0 x1001_22 x1002_22 from by repeat (first | (with_reducible first | exact HI0.out | apply IsS152.alloc | apply IsS152.drewN | apply IsS152.drew | apply IsS152.set_1 | apply IsS152.set_2 | refine IsS152.far ?_ NB0_1356.out _ | refine IsS152.far ?_ NB0_1366.out _) | exact HI0.out)) (rx_ HO_1367001.out) (by decide)) hk (fun _ h => h.2)) (fun _ h => h.1)); replace BK1356 := Aside0.mk (KeepBut.blk hk (g' := gb1356) (o := .cells #[.int .i64 0, .slice none 0 0, .int .i64 0, .int .i64 0, .int .i64 0] 67 (0, 0)) (kx_ BK1356.out) NB1356_0.out (by simp)); replace BK1366 := Aside0.mk (KeepBut.blk hk (g' := gb1366) (o := .cells #[.int .i64 (wrap64 (1 + t1357)), .slice Ao12 t1363.length co12, .int .i64 x1367002_6, .int .i64 x1367003_22, .int .i64 x1367004_22] 67 (0, 0)) (kx_ BK1366.out) NB1366_0.out (by simp)); replace HK := Aside0.mk (KeepBut.trans (by repeat (first | (with_reducible first | exact HK.out | apply KeepBut.set_ | apply keep_drewN | apply keep_drew | apply keep_alloc | refine keep_far ?_ GW1356.out _ | refine keep_far ?_ GW1366.out _) | exact HK.out)) hk (.inl rfl)); replace HB := Aside0.mk (hb); replace HI0 := Aside0.mk (hi); (try clear hb); (try clear hk); (try clear hi)) | ((with_reducible refine gate_dst (N := 78) rfl ?_); refine Kd.R_lit (Kd.int .i64) _ 3 ?hg (N := 78) ?hd (xs := ([(-1), 1, 9, 9223372036854775807] : List Int)) (inner := [.int .i64 (-1), .int .i64 1, .int .i64 9, .int .i64 9223372036854775807]) (ok := fun _ => True) (okp := fun _ => True) ?hr ?hp (fun _ hk => hk) trivial (Below.refl _ _) (Nat.le_refl _) (by simp) ?_; (case hd => rfl); (case hg => rfl); (case hr => first | (go_simp; done) | (go_simp; rfl)); (case hp => exact (Reps.one (show Kd.M (Kd.int .i64) _ _ _ (-1) [.int .i64 (-1)] from rfl) (Reps.one (show Kd.M (Kd.int .i64) _ _ _ 1 [.int .i64 1] from rfl) (Reps.one (show Kd.M (Kd.int .i64) _ _ _ 9 [.int .i64 9] from rfl) (Reps.one (show Kd.M (Kd.int .i64) _ _ _ 9223372036854775807 [.int .i64 9223372036854775807] from rfl) (Reps.none _ _)))))); intro v1402 w90 ho91 hb hg_ hnew_; clear hg_ hnew_; (first | rw [← Ny1401.out] at ho91 | (simp only [Int.reduceToNat] at ho91; rw [← Ny1401.out] at ho91)); have HO1403 := Aside0.mk (Kd.R_lower (Kd.R_new' ho91 (Kd.R_lt (rx_ HO_1367001.out))) (keep_size (w := w) (g := g) (row := none) (by repeat (first | (with_reducible first | exact HK.out | apply KeepBut.set_ | apply keep_drewN | apply keep_drew | apply keep_alloc | refine keep_far ?_ GW1356.out _ | refine keep_far ?_ GW1366.out _) | exact HK.out)))); replace HO_1367001 := Aside0.mk (Kd.R_elder' (rx_ HO_1367001.out) (Kd.R_base ho91) hb); replace BK1356 := tK_ BK1356 hb; replace BK1366 := tK_ BK1366 hb; replace HK := Aside0.mk (KeepBut.trans (by repeat (first | (with_reducible first | exact HK.out | apply KeepBut.set_ | apply keep_drewN | apply keep_drew | apply keep_alloc | refine keep_far ?_ GW1356.out _ | refine keep_far ?_ GW1366.out _) | exact HK.out)) (KeepBut.of_below hb g none) (.inl rfl)); replace HB := Aside0.mk (below_step (by repeat (first | (with_reducible first | exact HB.out | apply below_alloc | apply pw_below_drewN | apply below_drew1 | refine below_set ?_ (IsS152.ge HI0.out) | refine below_set ?_ GE1356.out | refine below_set ?_ GE1366.out) | exact HB.out)) hb); replace HI0 := Aside0.mk (IsS152.below (by repeat (first | (with_reducible first | exact HI0.out | apply IsS152.alloc | apply IsS152.drewN | apply IsS152.drew | apply IsS152.set_1 | apply IsS152.set_2 | refine IsS152.far ?_ NB0_1356.out _ | refine IsS152.far ?_ NB0_1366.out _) | exact HI0.out)) hb); clear hb ho91; obtain ⟨Ao92, co92, eo92⟩ := Kd.R_slice HO1403.out; subst eo92) | ((with_reducible refine gate_callee (f := 137) rfl ?_); refine gL_ (some 79) Try.func137 #[.pointer (some ⟨g, 0, none⟩), .slice Ao92 y1401.length co92] ?_; (with_reducible refine (spec_l1PickInt.calls g s0_0 t1381 t1382 _ _ y1401 t1404 t1405 t1406 w0 _ ?side1 ?side2 ?side3 ?side4 ?side5 A88.out).mono ?_); (case side1 => repeat (first | (with_reducible first | exact HI0.out | apply IsS152.alloc | apply IsS152.drewN | apply IsS152.drew | apply IsS152.set_1 | apply IsS152.set_2 | refine IsS152.far ?_ NB0_1356.out _ | refine IsS152.far ?_ NB0_1366.out _) | exact HI0.out)); (case side2 => repeat (first | (with_reducible first | exact HB.out | apply below_alloc | apply pw_below_drewN | apply below_drew1 | refine below_set ?_ (IsS152.ge HI0.out) | refine below_set ?_ GE1356.out | refine below_set ?_ GE1366.out) | exact HB.out)); (case side3 => exact cc_ (Kd.R_reads' HO1403.out).2.2); (case side4 => exact (Kd.R_reads' HO1403.out).2.1); (case side5 => exact far_slice (IsS152.own_ne HI0.out HO1403.out (by decide))); rintro e w93 ⟨rfl, hi, hb, hk⟩; refine ⟨_, rfl, ?_⟩; replace HO_1367001 := Aside0.mk (Kd.R_mono (Kd.R_keep (IsS152.apart (show IsS152 w0 _ g s0_0 t1381 t1382 from by repeat (first | (with_reducible first | exact HI0.out | apply IsS152.alloc | apply IsS152.drewN | apply IsS152.drew | apply IsS152.set_1 | apply IsS152.set_2 | refine IsS152.far ?_ NB0_1356.out _ | refine IsS152.far ?_ NB0_1366.out _) | exact HI0.out)) (rx_ HO_1367001.out) (by decide)) hk (fun _ h => h.2)) (fun _ h => h.1)); replace BK1356 := Aside0.mk (KeepBut.blk hk (g' := gb1356) (o := .cells #[.int .i64 0, .slice none 0 0, .int .i64 0, .int .i64 0, .int .i64 0] 67 (0, 0)) (kx_ BK1356.out) NB1356_0.out (by simp)); replace BK1366 := Aside0.mk (KeepBut.blk hk (g' := gb1366) (o := .cells #[.int .i64 (wrap64 (1 + t1357)), .slice Ao12 t1363.length co12, .int .i64 x1367002_6, .int .i64 x1367003_22, .int .i64 x1367004_22] 67 (0, 0)) (kx_ BK1366.out) NB1366_0.out (by simp)); replace HO1403 := Aside0.mk (Kd.R_mono (Kd.R_keep (IsS152.apart (show IsS152 w0 _ g s0_0 t1381 t1382 from by repeat (first | (with_reducible first | exact HI0.out | apply IsS152.alloc | apply IsS152.drewN | apply IsS152.drew | apply IsS152.set_1 | apply IsS152.set_2 | refine IsS152.far ?_ NB0_1356.out _ | refine IsS152.far ?_ NB0_1366.out _) | exact HI0.out)) (rx_ HO1403.out) (by decide)) hk (fun _ h => h.2)) (fun _ h => h.1)); replace HK := Aside0.mk (KeepBut.trans (by repeat (first | (with_reducible first | exact HK.out | apply KeepBut.set_ | apply keep_drewN | apply keep_drew | apply keep_alloc | refine keep_far ?_ GW1356.out _ | refine keep_far ?_ GW1366.out _) | exact HK.out)) hk (.inl rfl)); replace HB := Aside0.mk (hb); replace HI0 := Aside0.mk (hi); (try clear hb); (try clear hk); (try clear hi); have hnb94 := NB1366_1356.out; have hnc94 := NB1356_1366.out; have hnb95 := NB1366_0.out; have hnc95 := NB0_1366.out; obtain ⟨hcz96_0, hcz96_1, hcz96_2, hcz96_3, hcz96_4, hfz96_0, hfz96_1, hfz96_2, hfz96_3, hfz96_4⟩ := bk5_ BK1366; have hnb97 := NB1356_0.out; have hnc97 := NB0_1356.out; obtain ⟨hcz98_0, hcz98_1, hcz98_2, hcz98_3, hcz98_4, hfz98_0, hfz98_1, hfz98_2, hfz98_3, hfz98_4⟩ := bk5_ BK1356))
          refine bodyPost_ret (results_cell_row rfl _ _ gb1356 67 #[.int .i64 (wrap64 (1 + t1357)), .slice Ao12 t1363.length co12, .int .i64 x1367002_6, .int .i64 x1367003_22, .int .i64 t1404] (0, 0) _ rfl (by (with_reducible repeat (first | refine blk_drewN ?_ _ | refine blk_drew ?_ | refine blk_alloc ?_ _)); refine blk_put (cs := #[.int .i64 (wrap64 (1 + t1357)), .slice Ao12 t1363.length co12, .int .i64 x1367002_6, .int .i64 x1367003_22, .int .i64 0]) ?_ 4 _ rfl; (with_reducible repeat (first | refine blk_drewN ?_ _ | refine blk_drew ?_ | refine blk_alloc ?_ _)); refine blk_put (cs := #[.int .i64 (wrap64 (1 + t1357)), .slice Ao12 t1363.length co12, .int .i64 x1367002_6, .int .i64 0, .int .i64 0]) ?_ 3 _ rfl; (with_reducible repeat (first | refine blk_drewN ?_ _ | refine blk_drew ?_ | refine blk_alloc ?_ _)); refine blk_put (cs := #[.int .i64 (wrap64 (1 + t1357)), .slice Ao12 t1363.length co12, .int .i64 0, .int .i64 0, .int .i64 0]) ?_ 2 _ rfl; (with_reducible repeat (first | refine blk_drewN ?_ _ | refine blk_drew ?_ | refine blk_alloc ?_ _)); refine blk_put (cs := #[.int .i64 (wrap64 (1 + t1357)), .slice none 0 0, .int .i64 0, .int .i64 0, .int .i64 0]) ?_ 1 _ rfl; (with_reducible repeat (first | refine blk_drewN ?_ _ | refine blk_drew ?_ | refine blk_alloc ?_ _)); refine blk_put (cs := #[.int .i64 0, .slice none 0 0, .int .i64 0, .int .i64 0, .int .i64 0]) ?_ 0 _ rfl; (with_reducible repeat (first | refine blk_drewN ?_ _ | refine blk_drew ?_ | refine blk_alloc ?_ _)); refine blk_far ?_ NB1356_1366.out _; (with_reducible repeat (first | refine blk_drewN ?_ _ | refine blk_drew ?_ | refine blk_alloc ?_ _)); exact BK1356.out) Try.underlying67 rfl (by kernel_rfl)) rfl ?_
          exact ⟨_, by first | rfl | (simp [errW_none, errW_some] <;> rfl) | (simp only [← hji4]; first | rfl | (simp [errW_none, errW_some] <;> rfl)) | (simp [*, errW_none, errW_some] <;> rfl), rx_ (Kd.R_mono (Kd.R_far (p := ⟨gb1356, 4, none⟩) (Kd.R_far (p := ⟨gb1356, 3, none⟩) (Kd.R_far (p := ⟨gb1356, 2, none⟩) (Kd.R_far (p := ⟨gb1356, 1, none⟩) (Kd.R_far (p := ⟨gb1356, 0, none⟩) (Kd.R_far (p := ⟨gb1366, 4, none⟩) (Kd.R_types (Kd.R_types HO_1367001.out BK1366.out (by decide)) BK1356.out (by decide)) (fun _ hk => hk.1.2) (.int .i64 t1404)) (fun _ hk => hk.2) (.int .i64 (wrap64 (1 + t1357)))) (fun _ hk => hk.2) (.slice Ao12 t1363.length co12)) (fun _ hk => hk.2) (.int .i64 x1367002_6)) (fun _ hk => hk.2) (.int .i64 x1367003_22)) (fun _ hk => hk.2) (.int .i64 t1404)) (fun _ hk => trivial)), by repeat (first | (with_reducible first | exact HI0.out | apply IsS152.alloc | apply IsS152.drewN | apply IsS152.drew | apply IsS152.set_1 | apply IsS152.set_2 | refine IsS152.far ?_ NB0_1356.out _ | refine IsS152.far ?_ NB0_1366.out _) | exact HI0.out), by repeat (first | (with_reducible first | exact HB.out | apply below_alloc | apply pw_below_drewN | apply below_drew1 | refine below_set ?_ (IsS152.ge HI0.out) | refine below_set ?_ GE1356.out | refine below_set ?_ GE1366.out) | exact HB.out), by repeat (first | (with_reducible first | exact HK.out | apply KeepBut.set_ | apply keep_drewN | apply keep_drew | apply keep_alloc | refine keep_far ?_ GW1356.out _ | refine keep_far ?_ GW1366.out _) | exact HK.out)⟩
         ·rw [if_neg c87] at H
          have c87b0 : (t1380 == 4) = false := beq_eq_false_iff_ne.mpr c87
          have c87b1 : (t1380 != 4) = true := bne_iff_ne.mpr c87
          simp only [Option.some.injEq, Prod.mk.injEq] at H
          obtain ⟨rfl, rfl, rfl, rfl, rfl, rfl, rfl⟩ := H
          go_wp2_with (first | ((with_reducible refine gate_callee (f := 135) rfl ?_); refine gL_ (some 48) Try.func135 #[.pointer (some ⟨g, 0, none⟩), .int .i64 14] ?_; (with_reducible refine (spec_l1Below.calls g s0_0 x1001_22 x1002_22 14 t1380 t1381 t1382 w0 _ ?side1 ?side2 A42.out).mono ?_); (case side1 => repeat (first | (with_reducible first | exact HI0.out | apply IsS152.alloc | apply IsS152.drewN | apply IsS152.drew | apply IsS152.set_1 | apply IsS152.set_2 | refine IsS152.far ?_ NB0_1356.out _ | refine IsS152.far ?_ NB0_1366.out _) | exact HI0.out)); (case side2 => repeat (first | (with_reducible first | exact HB.out | apply below_alloc | apply pw_below_drewN | apply below_drew1 | refine below_set ?_ (IsS152.ge HI0.out) | refine below_set ?_ GE1356.out | refine below_set ?_ GE1366.out) | exact HB.out)); rintro e w99 ⟨rfl, hi, hb, hk⟩; refine ⟨_, rfl, ?_⟩; replace HO_1367001 := Aside0.mk (Kd.R_mono (Kd.R_keep (IsS152.apart (show IsS152 w0 _ g s0_0 x1001_22 x1002_22 from by repeat (first | (with_reducible first | exact HI0.out | apply IsS152.alloc | apply IsS152.drewN | apply IsS152.drew | apply IsS152.set_1 | apply IsS152.set_2 | refine IsS152.far ?_ NB0_1356.out _ | refine IsS152.far ?_ NB0_1366.out _) | exact HI0.out)) (rx_ HO_1367001.out) (by decide)) hk (fun _ h => h.2)) (fun _ h => h.1)); replace BK1356 := Aside0.mk (KeepBut.blk hk (g' := gb1356) (o := .cells #[.int .i64 0, .slice none 0 0, .int .i64 0, .int .i64 0, .int .i64 0] 67 (0, 0)) (kx_ BK1356.out) NB1356_0.out (by simp)); replace BK1366 := Aside0.mk (KeepBut.blk hk (g' := gb1366) (o := .cells #[.int .i64 (wrap64 (1 + t1357)), .slice Ao12 t1363.length co12, .int .i64 x1367002_6, .int .i64 x1367003_22, .int .i64 x1367004_22] 67 (0, 0)) (kx_ BK1366.out) NB1366_0.out (by simp)); replace HK := Aside0.mk (KeepBut.trans (by repeat (first | (with_reducible first | exact HK.out | apply KeepBut.set_ | apply keep_drewN | apply keep_drew | apply keep_alloc | refine keep_far ?_ GW1356.out _ | refine keep_far ?_ GW1366.out _) | exact HK.out)) hk (.inl rfl)); replace HB := Aside0.mk (hb); replace HI0 := Aside0.mk (hi); (try clear hb); (try clear hk); (try clear hi); have hnb100 := NB1366_1356.out; have hnc100 := NB1356_1366.out; have hnb101 := NB1366_0.out; have hnc101 := NB0_1366.out; obtain ⟨hcz102_0, hcz102_1, hcz102_2, hcz102_3, hcz102_4, hfz102_0, hfz102_1, hfz102_2, hfz102_3, hfz102_4⟩ := bk5_ BK1366; have hnb103 := NB1356_0.out; have hnc103 := NB0_1356.out; obtain ⟨hcz104_0, hcz104_1, hcz104_2, hcz104_3, hcz104_4, hfz104_0, hfz104_1, hfz104_2, hfz104_3, hfz104_4⟩ := bk5_ BK1356))
          refine bodyPost_ret (results_cell_row rfl _ _ gb1356 67 #[.int .i64 (wrap64 (1 + t1357)), .slice Ao12 t1363.length co12, .int .i64 x1367002_6, .int .i64 x1367003_22, .int .i64 x1367004_22] (0, 0) _ rfl (by (with_reducible repeat (first | refine blk_drewN ?_ _ | refine blk_drew ?_ | refine blk_alloc ?_ _)); refine blk_put (cs := #[.int .i64 (wrap64 (1 + t1357)), .slice Ao12 t1363.length co12, .int .i64 x1367002_6, .int .i64 x1367003_22, .int .i64 0]) ?_ 4 _ rfl; (with_reducible repeat (first | refine blk_drewN ?_ _ | refine blk_drew ?_ | refine blk_alloc ?_ _)); refine blk_put (cs := #[.int .i64 (wrap64 (1 + t1357)), .slice Ao12 t1363.length co12, .int .i64 x1367002_6, .int .i64 0, .int .i64 0]) ?_ 3 _ rfl; (with_reducible repeat (first | refine blk_drewN ?_ _ | refine blk_drew ?_ | refine blk_alloc ?_ _)); refine blk_put (cs := #[.int .i64 (wrap64 (1 + t1357)), .slice Ao12 t1363.length co12, .int .i64 0, .int .i64 0, .int .i64 0]) ?_ 2 _ rfl; (with_reducible repeat (first | refine blk_drewN ?_ _ | refine blk_drew ?_ | refine blk_alloc ?_ _)); refine blk_put (cs := #[.int .i64 (wrap64 (1 + t1357)), .slice none 0 0, .int .i64 0, .int .i64 0, .int .i64 0]) ?_ 1 _ rfl; (with_reducible repeat (first | refine blk_drewN ?_ _ | refine blk_drew ?_ | refine blk_alloc ?_ _)); refine blk_put (cs := #[.int .i64 0, .slice none 0 0, .int .i64 0, .int .i64 0, .int .i64 0]) ?_ 0 _ rfl; (with_reducible repeat (first | refine blk_drewN ?_ _ | refine blk_drew ?_ | refine blk_alloc ?_ _)); exact BK1356.out) Try.underlying67 rfl (by kernel_rfl)) rfl ?_
          exact ⟨_, by first | rfl | (simp [errW_none, errW_some] <;> rfl) | (simp only [← hji4]; first | rfl | (simp [errW_none, errW_some] <;> rfl)) | (simp [*, errW_none, errW_some] <;> rfl), rx_ (Kd.R_mono (Kd.R_far (p := ⟨gb1356, 4, none⟩) (Kd.R_far (p := ⟨gb1356, 3, none⟩) (Kd.R_far (p := ⟨gb1356, 2, none⟩) (Kd.R_far (p := ⟨gb1356, 1, none⟩) (Kd.R_far (p := ⟨gb1356, 0, none⟩) (Kd.R_types HO_1367001.out BK1356.out (by decide)) (fun _ hk => hk.2) (.int .i64 (wrap64 (1 + t1357)))) (fun _ hk => hk.2) (.slice Ao12 t1363.length co12)) (fun _ hk => hk.2) (.int .i64 x1367002_6)) (fun _ hk => hk.2) (.int .i64 x1367003_22)) (fun _ hk => hk.2) (.int .i64 x1367004_22)) (fun _ hk => trivial)), by repeat (first | (with_reducible first | exact HI0.out | apply IsS152.alloc | apply IsS152.drewN | apply IsS152.drew | apply IsS152.set_1 | apply IsS152.set_2 | refine IsS152.far ?_ NB0_1356.out _ | refine IsS152.far ?_ NB0_1366.out _) | exact HI0.out), by repeat (first | (with_reducible first | exact HB.out | apply below_alloc | apply pw_below_drewN | apply below_drew1 | refine below_set ?_ (IsS152.ge HI0.out) | refine below_set ?_ GE1356.out | refine below_set ?_ GE1366.out) | exact HB.out), by repeat (first | (with_reducible first | exact HK.out | apply KeepBut.set_ | apply keep_drewN | apply keep_drew | apply keep_alloc | refine keep_far ?_ GW1356.out _ | refine keep_far ?_ GW1366.out _) | exact HK.out)⟩
end Go.Proofs.Ytbifdckfglejkaa.X
namespace Go.Proofs.Ytbifdckfglejkaa.X
open Go.RowKit Go.Proofs.YtbifdckfglejkaaW.PrintWords Go.Proofs.YtbifdckfglejkaaW.PrintLast Go.Proofs.YtbifdckfglejkaaW.PrintMore
attribute [local go_sem] max2_int min2_int max_two min_two max_three min_three max_four min_four   -- for this text's walks alone
set_option linter.unusedVariables false
set_option linter.unusedSimpArgs false
mutual
def spec_l13Script.l0 : Nat → List (S67) → List (S90) → Int → List Int → Int → Int → Option ((List (S67)) × Int × Int)
 | 0, _, _, _, _, _, _ => none
 | k + 1, x7, x8, x9, x1000, x1001, x1002 => if x9 > 0 then ((spec_l13Op.f k x1000 x1001 x1002 x8).bind fun bt1500 => ((spec_ApplyOp.f k x8 bt1500.1 bt1500.2.1 bt1500.2.2.1 bt1500.2.2.2.1 bt1500.2.2.2.2.1).bind fun bt1510 => (if bt1510.2 = 0 then (spec_l13Script.j1 k x7 x8 x9 bt1510.1 bt1510.2 true x1000 bt1500.2.2.2.2.2.1 bt1500.2.2.2.2.2.2 bt1500.1 bt1500.2.1 bt1500.2.2.1 bt1500.2.2.2.1 bt1500.2.2.2.2.1) else ((spec_l1Once.f x1000 bt1500.2.2.2.2.2.1 bt1500.2.2.2.2.2.2 3).bind fun bt1514 => (spec_l13Script.j1 k x7 x8 x9 bt1510.1 bt1510.2 bt1514.1 x1000 bt1514.2.1 bt1514.2.2 bt1500.1 bt1500.2.1 bt1500.2.2.1 bt1500.2.2.2.1 bt1500.2.2.2.2.1))))) else (some (x7, x1001, x1002))
def spec_l13Script.j1 : Nat → List (S67) → List (S90) → Int → List (S90) → Int → Bool → List Int → Int → Int → Int → List Int → Int → Int → Int → Option ((List (S67)) × Int × Int)
 | 0, _, _, _, _, _, _, _, _, _, _, _, _, _, _ => none
 | k + 1, x7, x8, x9, x11, x12, x37, x1000, x1001, x1002, x1510000, x1510001, x1510002, x1510003, x1510004 => if x37 = true then (if x7.length < 2513169434916 then ((some (x7 ++ [(⟨x1510000, x1510001, x1510002, x1510003, x1510004⟩ : S67)] : List (S67))).bind fun y1517 => (if x12 = 0 then (spec_l13Script.l0 k y1517 x11 (wrap64 (x9 - 1)) x1000 x1001 x1002) else (spec_l13Script.l0 k y1517 x8 (wrap64 (x9 - 1)) x1000 x1001 x1002))) else (none)) else (if x12 = 0 then (spec_l13Script.l0 k x7 x11 (wrap64 (x9 - 1)) x1000 x1001 x1002) else (spec_l13Script.l0 k x7 x8 (wrap64 (x9 - 1)) x1000 x1001 x1002))
end
def spec_l13Script.f (k : Nat) (s0_0 : List Int) (s0_1 : Int) (s0_2 : Int) (l1 : List (S90)) (a2 : Int) : Option ((List (S67)) × Int × Int) := (spec_l3Copy.f l1).bind fun t1494 => ((spec_l1Below.f s0_0 s0_1 s0_2 a2).bind fun bt1497 => (spec_l13Script.l0 k (([] : List (S67))) t1494 bt1497.1 s0_0 bt1497.2.1 bt1497.2.2))
set_option maxHeartbeats 8000000 in
set_option maxRecDepth 100000 in
theorem spec_l13Script.calls (k : Nat) (g : Nat) (s0_0 : List Int) (s0_1 : Int) (s0_2 : Int) (A1 : Option Addr) (c1 : Nat) (l1 : List (S90)) (a2 : Int) (r1 : List (S67)) (r2 : Int) (r3 : Int) (w0 w : World) (hI : IsS152 w0 w g s0_0 s0_1 s0_2) (hB : Below w0.heap.size w0 w) (hr1 : ∀ W_, KeepBut w W_ g none → Kd.C k90 W_ A1 l1.length l1) (hc1 : l1.length ≤ c1) (h : spec_l13Script.f k s0_0 s0_1 s0_2 l1 a2 = some (r1, r2, r3)) :
  Calls Try.prog 115 #[.pointer (some ⟨g, 0, none⟩), .slice A1 l1.length c1, .int .i64 a2] w fun e w' => ∃ v0_ : Value, e = .returned (v0_) ∧ Kd.S k67 67 w' w.heap.size (fun _ => True) v0_ r1 ∧ IsS152 w0 w' g s0_0 r2 r3 ∧ Below w0.heap.size w0 w' ∧ KeepBut w w' g none := by
 have hu67 := Try.underlying67
 have HR1 := Aside0.mk hr1
 have HC1 := Aside0.mk hc1
 clear hr1 hc1
 have HI0 := Aside0.mk hI
 have HK := Aside0.mk (KeepBut.refl w g none)
 have HL := Aside0.mk hB.size
 clear hI
 have HW0 := Aside0.mk hB.size
 have HB := Aside0.mk hB
 clear hB
 have H : ((spec_l3Copy.f l1).bind fun t1494 => ((spec_l1Below.f s0_0 s0_1 s0_2 a2).bind fun bt1497 => (spec_l13Script.l0 k (([] : List (S67))) t1494 bt1497.1 s0_0 bt1497.2.1 bt1497.2.2))) = some (r1, r2, r3) := h
 clear h
 obtain ⟨y1491, hy1491⟩ : ∃ y_ : List (S67), y_ = (([] : List (S67))) := ⟨_, rfl⟩
 replace H : ((spec_l3Copy.f l1).bind fun t1494 => ((spec_l1Below.f s0_0 s0_1 s0_2 a2).bind fun bt1497 => (spec_l13Script.l0 k y1491 t1494 bt1497.1 s0_0 bt1497.2.1 bt1497.2.2))) = some (r1, r2, r3) := by first | (rw [hy1491]; with_reducible exact H) | (have H2_ := (Option.bind_some _ _).symm.trans H; rw [hy1491]; with_reducible exact H2_) | (have H2_ := (Option.bind_some _ _).symm.trans H; with_reducible exact H2_) | with_reducible exact H | (rw [hy1491]; exact H) | exact H
 have Ny1491 := Aside0.mk hy1491
 clear hy1491
 replace H := Option.bind_eq_some_iff.mp H
 obtain ⟨t1494, A40, H⟩ := H
 try dsimp only at H
 have A4 := Aside0.mk A40
 clear A40
 replace H := Option.bind_eq_some_iff.mp H
 obtain ⟨⟨t1497, t1498, t1499⟩, A50, H⟩ := H
 replace H : (spec_l13Script.l0 k y1491 t1494 t1497 s0_0 t1498 t1499) = some (r1, r2, r3) := H
 have A5 := Aside0.mk A50
 clear A50
 have H' := Aside0.mk H
 clear H
 go_enter Try.func115, Try.ntmps115
 go_wp2_with (first | ((with_reducible refine gate_dst (N := 13) rfl ?_); refine Kd.S_lit k67 _ 67 ?hg (N := 13) ?hd (xs := ([] : List (S67))) (inner := []) (ok := fun _ => True) (okp := fun _ => True) ?hr ?hp (fun _ hk => hk) trivial (Below.refl _ _) (Nat.le_refl _) (by simp) ?_; (case hd => rfl); (case hg => rfl); (case hr => first | (go_simp; done) | (go_simp; rfl)); (case hp => exact (Reps.none _ _)); intro v1492 w6 ho7 hb hg_ hnew_; clear hg_ hnew_; (first | rw [← Ny1491.out] at ho7 | (simp only [Int.reduceToNat] at ho7; rw [← Ny1491.out] at ho7)); have HO1493 := Aside0.mk (Kd.S_lower ho7 (keep_size (w := w) (g := g) (row := none) (by repeat (first | (with_reducible first | exact HK.out | apply KeepBut.set_ | apply keep_drewN | apply keep_drew | apply keep_alloc) | exact HK.out)))); replace HK := Aside0.mk (KeepBut.trans (by repeat (first | (with_reducible first | exact HK.out | apply KeepBut.set_ | apply keep_drewN | apply keep_drew | apply keep_alloc) | exact HK.out)) (KeepBut.of_below hb g none) (.inl rfl)); replace HB := Aside0.mk (below_step (by repeat (first | (with_reducible first | exact HB.out | apply below_alloc | apply pw_below_drewN | apply below_drew1 | refine below_set ?_ (IsS152.ge HI0.out)) | exact HB.out)) hb); replace HI0 := Aside0.mk (IsS152.below (by repeat (first | (with_reducible first | exact HI0.out | apply IsS152.alloc | apply IsS152.drewN | apply IsS152.drew | apply IsS152.set_1 | apply IsS152.set_2) | exact HI0.out)) hb); clear hb ho7) | ((with_reducible refine gate_callee (f := 98) rfl ?_); refine gL_ (some 15) Try.func98 #[.slice A1 l1.length c1] ?_; (with_reducible refine (spec_l3Copy.calls _ _ l1 t1494 _ (Kd.C_foot_now HR1.out (by repeat (first | (with_reducible first | exact HK.out | apply KeepBut.set_ | apply keep_drewN | apply keep_drew | apply keep_alloc) | exact HK.out))) HC1.out A4.out).mono ?_); rintro e w8 ⟨v1495, rfl, ho0, hb⟩; refine ⟨_, rfl, ?_⟩; replace HO1493 := Aside0.mk (Kd.S_below (sx_ HO1493.out) hb); have HO1496 := Aside0.mk (Kd.R_lower ho0 (keep_size (w := w) (g := g) (row := none) (by repeat (first | (with_reducible first | exact HK.out | apply KeepBut.set_ | apply keep_drewN | apply keep_drew | apply keep_alloc) | exact HK.out)))); replace HK := Aside0.mk (KeepBut.trans (by repeat (first | (with_reducible first | exact HK.out | apply KeepBut.set_ | apply keep_drewN | apply keep_drew | apply keep_alloc) | exact HK.out)) (KeepBut.of_below hb g none) (.inl rfl)); replace HB := Aside0.mk (below_step (by repeat (first | (with_reducible first | exact HB.out | apply below_alloc | apply pw_below_drewN | apply below_drew1 | refine below_set ?_ (IsS152.ge HI0.out)) | exact HB.out)) hb); replace HI0 := Aside0.mk (IsS152.below (by repeat (first | (with_reducible first | exact HI0.out | apply IsS152.alloc | apply IsS152.drewN | apply IsS152.drew | apply IsS152.set_1 | apply IsS152.set_2) | exact HI0.out)) hb); (try clear hb); (try clear ho0)) | ((with_reducible refine gate_callee (f := 135) rfl ?_); refine gL_ (some 18) Try.func135 #[.pointer (some ⟨g, 0, none⟩), .int .i64 a2] ?_; (with_reducible refine (spec_l1Below.calls g s0_0 s0_1 s0_2 a2 t1497 t1498 t1499 w0 _ ?side1 ?side2 A5.out).mono ?_); (case side1 => repeat (first | (with_reducible first | exact HI0.out | apply IsS152.alloc | apply IsS152.drewN | apply IsS152.drew | apply IsS152.set_1 | apply IsS152.set_2) | exact HI0.out)); (case side2 => repeat (first | (with_reducible first | exact HB.out | apply below_alloc | apply pw_below_drewN | apply below_drew1 | refine below_set ?_ (IsS152.ge HI0.out)) | exact HB.out)); rintro e w9 ⟨rfl, hi, hb, hk⟩; refine ⟨_, rfl, ?_⟩; replace HO1493 := Aside0.mk (Kd.S_mono (Kd.S_keep (IsS152.apartS (show IsS152 w0 _ g s0_0 s0_1 s0_2 from by repeat (first | (with_reducible first | exact HI0.out | apply IsS152.alloc | apply IsS152.drewN | apply IsS152.drew | apply IsS152.set_1 | apply IsS152.set_2) | exact HI0.out)) (sx_ HO1493.out) (by decide)) hk (fun _ h => h.2)) (fun _ h => h.1)); replace HO1496 := Aside0.mk (Kd.R_mono (Kd.R_keep (IsS152.apart (show IsS152 w0 _ g s0_0 s0_1 s0_2 from by repeat (first | (with_reducible first | exact HI0.out | apply IsS152.alloc | apply IsS152.drewN | apply IsS152.drew | apply IsS152.set_1 | apply IsS152.set_2) | exact HI0.out)) (rx_ HO1496.out) (by decide)) hk (fun _ h => h.2)) (fun _ h => h.1)); replace HK := Aside0.mk (KeepBut.trans (by repeat (first | (with_reducible first | exact HK.out | apply KeepBut.set_ | apply keep_drewN | apply keep_drew | apply keep_alloc) | exact HK.out)) hk (.inl rfl)); replace HB := Aside0.mk (hb); replace HI0 := Aside0.mk (hi); (try clear hb); (try clear hk); (try clear hi)))
 go_loopg [7, 8, 9] k (fun kq v7 v8 v9 w' => ∃ (x7_1 : List (S67)) (x8_1 : List (S90)) (x9_1 : Int) (x1001_1 : Int) (x1002_1 : Int), v9 = .int .i64 x9_1 ∧ Aside0 (spec_l13Script.l0 kq x7_1 x8_1 x9_1 s0_0 x1001_1 x1002_1 = some (r1, r2, r3)) ∧ Aside0 (kq ≤ k) ∧ Aside0 (Kd.S k67 67 w' w.heap.size (fun _ => True) v7 x7_1) ∧ Aside0 (Kd.R k90 90 w' w.heap.size (fun _ => True) v8 x8_1) ∧ Aside0 (IsS152 w0 w' g s0_0 x1001_1 x1002_1) ∧ Aside0 (KeepBut w w' g none) ∧ Aside0 (Below w0.heap.size w0 w'))
 case atStart => exact ⟨(y1491), (t1494), (t1497), (t1498), (t1499), eb_, H', ⟨Nat.le_refl _⟩, ⟨sx_ HO1493.out⟩, ⟨rx_ HO1496.out⟩, ⟨by repeat (first | (with_reducible first | exact HI0.out | apply IsS152.alloc | apply IsS152.drewN | apply IsS152.drew | apply IsS152.set_1 | apply IsS152.set_2) | exact HI0.out)⟩, ⟨by repeat (first | (with_reducible first | exact HK.out | apply KeepBut.set_ | apply keep_drewN | apply keep_drew | apply keep_alloc) | exact HK.out)⟩, ⟨by repeat (first | (with_reducible first | exact HB.out | apply below_alloc | apply pw_below_drewN | apply below_drew1 | refine below_set ?_ (IsS152.ge HI0.out)) | exact HB.out)⟩⟩
 case round =>
  clear H'
  try clear c1
  try clear p2
  try clear c9
  obtain ⟨x7_1, x8_1, x9_1, x1001_1, x1002_1, rfl, HA, HK1, HO_7, HO_8, HI0, HK, HB⟩ := hrel
  cases gk with
  | zero => exact absurd HA.out (by simp [spec_l13Script.l0])
  | succ k1 =>
   have H := HA.out
   clear HA
   simp only [spec_l13Script.l0] at H
   by_cases c10 : x9_1 > 0
   ·rw [if_pos c10] at H
    have c10b0 : decide (0 < x9_1) = true := decide_eq_true c10
    clear c10
    replace H := Option.bind_eq_some_iff.mp H
    obtain ⟨⟨t1500, t1501, t1504, t1505, t1506, t1507, t1508⟩, A110, H⟩ := H
    try dsimp only at H
    have A11 := Aside0.mk A110
    clear A110
    replace H := Option.bind_eq_some_iff.mp H
    obtain ⟨⟨t1510, t1513⟩, A120, H⟩ := H
    try dsimp only at H
    have A12 := Aside0.mk A120
    clear A120
    have HC13 := Aside0.mk H
    clear H
    obtain ⟨Ao14, co14, eo14⟩ := Kd.R_slice HO_8.out
    subst eo14
    go_upto_region 8 with (first | ((with_reducible refine gate_callee (f := 113) rfl ?_); refine gL_ (some 25) Try.func113 #[.pointer (some ⟨g, 0, none⟩), .slice Ao14 x8_1.length co14] ?_; (with_reducible refine (spec_l13Op.calls k1 g s0_0 x1001_1 x1002_1 _ _ x8_1 t1500 t1501 t1504 t1505 t1506 t1507 t1508 w0 _ ?side1 ?side2 ?side3 ?side4 A11.out).mono ?_); (case side1 => repeat (first | (with_reducible first | exact HI0.out | apply IsS152.alloc | apply IsS152.drewN | apply IsS152.drew | apply IsS152.set_1 | apply IsS152.set_2) | exact HI0.out)); (case side2 => repeat (first | (with_reducible first | exact HB.out | apply below_alloc | apply pw_below_drewN | apply below_drew1 | refine below_set ?_ (IsS152.ge HI0.out)) | exact HB.out)); (case side3 => exact Kd.C_foot_own (IsS152.apart (show IsS152 w0 _ g s0_0 x1001_1 x1002_1 from by repeat (first | (with_reducible first | exact HI0.out | apply IsS152.alloc | apply IsS152.drewN | apply IsS152.drew | apply IsS152.set_1 | apply IsS152.set_2) | exact HI0.out)) (rx_ HO_8.out) (by decide)) (fun _ h_ => h_.2)); (case side4 => exact (Kd.R_reads' HO_8.out).2.1); rintro e w15 ⟨v1502, rfl, ho0, hi, hb, hk⟩; refine ⟨_, rfl, ?_⟩; replace HO_7 := Aside0.mk (Kd.S_mono (Kd.S_told (Kd.S_oldK (IsS152.apartS (show IsS152 w0 _ g s0_0 x1001_1 x1002_1 from by repeat (first | (with_reducible first | exact HI0.out | apply IsS152.alloc | apply IsS152.drewN | apply IsS152.drew | apply IsS152.set_1 | apply IsS152.set_2) | exact HI0.out)) (sx_ HO_7.out) (by decide)) hk) (Kd.R_base ho0)) (fun _ h_ => h_.1)); replace HO_8 := Aside0.mk (Kd.R_mono (Kd.R_keep (IsS152.apart (show IsS152 w0 _ g s0_0 x1001_1 x1002_1 from by repeat (first | (with_reducible first | exact HI0.out | apply IsS152.alloc | apply IsS152.drewN | apply IsS152.drew | apply IsS152.set_1 | apply IsS152.set_2) | exact HI0.out)) (rx_ HO_8.out) (by decide)) hk (fun _ h => h.2)) (fun _ h => h.1)); have HO1503 := Aside0.mk (Kd.R_lower ho0 (keep_size (w := w) (g := g) (row := none) (by repeat (first | (with_reducible first | exact HK.out | apply KeepBut.set_ | apply keep_drewN | apply keep_drew | apply keep_alloc) | exact HK.out)))); replace HK := Aside0.mk (KeepBut.trans (by repeat (first | (with_reducible first | exact HK.out | apply KeepBut.set_ | apply keep_drewN | apply keep_drew | apply keep_alloc) | exact HK.out)) hk (.inl rfl)); replace HB := Aside0.mk (hb); replace HI0 := Aside0.mk (hi); (try clear hb); (try clear hk); (try clear hi); (try clear ho0)) | ((with_reducible refine gate_dst (N := 10) rfl ?_); refine bx_ 10 #[.int .i64 0, .slice none 0 0, .int .i64 0, .int .i64 0, .int .i64 0] 67 ?_; intro gb1509 hg w16 hbox hb; replace HO_7 := Aside0.mk (Kd.S_below (Kd.S_elderB (sx_ HO_7.out) gb1509 (Nat.le_of_eq hg.symm)) hb); replace HO_8 := tR_ HO_8 hb; replace HO1503 := tR_ HO1503 hb; replace HB := Aside0.mk (below_step (by repeat (first | (with_reducible first | exact HB.out | apply below_alloc | apply pw_below_drewN | apply below_drew1 | refine below_set ?_ (IsS152.ge HI0.out)) | exact HB.out)) hb); have BK1509 := Aside0.mk (hbox); have GW1509 := Aside0.mk ((by rw [hg]; exact (keep_size (w := w) (g := g) (row := none) (by repeat (first | (with_reducible first | exact HK.out | apply KeepBut.set_ | apply keep_drewN | apply keep_drew | apply keep_alloc) | exact HK.out))) : w.heap.size ≤ gb1509)); have GE1509 := Aside0.mk ((Nat.le_trans HW0.out (by rw [hg]; exact (keep_size (w := w) (g := g) (row := none) (by repeat (first | (with_reducible first | exact HK.out | apply KeepBut.set_ | apply keep_drewN | apply keep_drew | apply keep_alloc) | exact HK.out))) : w.heap.size ≤ gb1509) : w0.heap.size ≤ gb1509)); replace HK := Aside0.mk (KeepBut.trans (by repeat (first | (with_reducible first | exact HK.out | apply KeepBut.set_ | apply keep_drewN | apply keep_drew | apply keep_alloc) | exact HK.out)) (KeepBut.of_below hb g none) (.inl rfl)); have NB0_1509 := Aside0.mk ((by rw [hg]; exact Nat.ne_of_lt (IsS152.lt (show IsS152 w0 _ g s0_0 t1507 t1508 from by repeat (first | (with_reducible first | exact HI0.out | apply IsS152.alloc | apply IsS152.drewN | apply IsS152.drew | apply IsS152.set_1 | apply IsS152.set_2) | exact HI0.out))) : g ≠ gb1509)); have NB1509_0 := Aside0.mk ((by rw [hg]; exact Nat.ne_of_gt (IsS152.lt (show IsS152 w0 _ g s0_0 t1507 t1508 from by repeat (first | (with_reducible first | exact HI0.out | apply IsS152.alloc | apply IsS152.drewN | apply IsS152.drew | apply IsS152.set_1 | apply IsS152.set_2) | exact HI0.out))) : gb1509 ≠ g)); replace HI0 := Aside0.mk (IsS152.below (by repeat (first | (with_reducible first | exact HI0.out | apply IsS152.alloc | apply IsS152.drewN | apply IsS152.drew | apply IsS152.set_1 | apply IsS152.set_2) | exact HI0.out)) hb); clear hb hbox hg; have hnb17 := NB1509_0.out; have hnc17 := NB0_1509.out; obtain ⟨hcz18_0, hcz18_1, hcz18_2, hcz18_3, hcz18_4, hfz18_0, hfz18_1, hfz18_2, hfz18_3, hfz18_4⟩ := bk5_ BK1509; obtain ⟨Ao19, co19, eo19⟩ := Kd.R_slice HO1503.out; subst eo19) | ((with_reducible refine gate_callee (f := 44) rfl ?_); refine gL_ (some 29) Try.func44 #[.slice Ao14 x8_1.length co14, .agg #[.int .i64 t1500, .slice Ao19 t1501.length co19, .int .i64 t1504, .int .i64 t1505, .int .i64 t1506]] ?_; (with_reducible refine (spec_ApplyOp.calls k1 _ _ x8_1 t1500 _ _ t1501 t1504 t1505 t1506 t1510 t1513 _ ?side1 ?side2 ?side3 ?side4 A12.out).mono ?_); (case side1 => refine (Kd.R_reads' (e := 90) (base := w.heap.size) (ok := fun k_ => True) (n := x8_1.length) (c := co14) ?_).2.2; exact (rx_ ((Kd.R_mono (Kd.R_far (p := ⟨gb1509, 4, none⟩) (Kd.R_far (p := ⟨gb1509, 3, none⟩) (Kd.R_far (p := ⟨gb1509, 2, none⟩) (Kd.R_far (p := ⟨gb1509, 1, none⟩) (Kd.R_far (p := ⟨gb1509, 0, none⟩) (Kd.R_types HO_8.out BK1509.out (by decide)) (fun _ hk => hk.2) (.int .i64 t1500)) (fun _ hk => hk.2) (.slice Ao19 t1501.length co19)) (fun _ hk => hk.2) (.int .i64 t1504)) (fun _ hk => hk.2) (.int .i64 t1505)) (fun _ hk => hk.2) (.int .i64 t1506)) (fun _ h_ => h_.1))))); (case side2 => exact (Kd.R_reads' HO_8.out).2.1); (case side3 => refine (Kd.R_reads' (e := 3) (base := w.heap.size) (ok := fun k_ => True) (n := t1501.length) (c := co19) ?_).2.2; exact (rx_ ((Kd.R_mono (Kd.R_far (p := ⟨gb1509, 4, none⟩) (Kd.R_far (p := ⟨gb1509, 3, none⟩) (Kd.R_far (p := ⟨gb1509, 2, none⟩) (Kd.R_far (p := ⟨gb1509, 1, none⟩) (Kd.R_far (p := ⟨gb1509, 0, none⟩) (Kd.R_types HO1503.out BK1509.out (by decide)) (fun _ hk => hk.2) (.int .i64 t1500)) (fun _ hk => hk.2) (.slice Ao19 t1501.length co19)) (fun _ hk => hk.2) (.int .i64 t1504)) (fun _ hk => hk.2) (.int .i64 t1505)) (fun _ hk => hk.2) (.int .i64 t1506)) (fun _ h_ => h_.1))))); (case side4 => exact (Kd.R_reads' HO1503.out).2.1); rintro e w20 ⟨v1511, rfl, ho0, hb⟩; refine ⟨_, rfl, ?_⟩; replace HO_7 := Aside0.mk (Kd.S_below (sx_ ((Kd.S_mono (Kd.S_far (p := ⟨gb1509, 4, none⟩) (Kd.S_far (p := ⟨gb1509, 3, none⟩) (Kd.S_far (p := ⟨gb1509, 2, none⟩) (Kd.S_far (p := ⟨gb1509, 1, none⟩) (Kd.S_far (p := ⟨gb1509, 0, none⟩) (Kd.S_mono HO_7.out (fun k_ hk => (⟨hk, hk.2⟩ : _ ∧ k_ ≠ gb1509))) (fun _ hk => hk.2) (.int .i64 t1500)) (fun _ hk => hk.2) (.slice Ao19 t1501.length co19)) (fun _ hk => hk.2) (.int .i64 t1504)) (fun _ hk => hk.2) (.int .i64 t1505)) (fun _ hk => hk.2) (.int .i64 t1506)) (fun _ h_ => h_.1)))) hb); replace HO1503 := Aside0.mk (Kd.R_below (rx_ ((Kd.R_mono (Kd.R_far (p := ⟨gb1509, 4, none⟩) (Kd.R_far (p := ⟨gb1509, 3, none⟩) (Kd.R_far (p := ⟨gb1509, 2, none⟩) (Kd.R_far (p := ⟨gb1509, 1, none⟩) (Kd.R_far (p := ⟨gb1509, 0, none⟩) (Kd.R_types HO1503.out BK1509.out (by decide)) (fun _ hk => hk.2) (.int .i64 t1500)) (fun _ hk => hk.2) (.slice Ao19 t1501.length co19)) (fun _ hk => hk.2) (.int .i64 t1504)) (fun _ hk => hk.2) (.int .i64 t1505)) (fun _ hk => hk.2) (.int .i64 t1506)) (fun _ h_ => h_.1)))) hb); have HO1512 := Aside0.mk (Kd.R_lower (Kd.R_new' ho0 (Kd.R_lt (rx_ ((Kd.R_mono (Kd.R_far (p := ⟨gb1509, 4, none⟩) (Kd.R_far (p := ⟨gb1509, 3, none⟩) (Kd.R_far (p := ⟨gb1509, 2, none⟩) (Kd.R_far (p := ⟨gb1509, 1, none⟩) (Kd.R_far (p := ⟨gb1509, 0, none⟩) (Kd.R_types HO_8.out BK1509.out (by decide)) (fun _ hk => hk.2) (.int .i64 t1500)) (fun _ hk => hk.2) (.slice Ao19 t1501.length co19)) (fun _ hk => hk.2) (.int .i64 t1504)) (fun _ hk => hk.2) (.int .i64 t1505)) (fun _ hk => hk.2) (.int .i64 t1506)) (fun _ h_ => h_.1)))))) (keep_size (w := w) (g := g) (row := none) (by repeat (first | (with_reducible first | exact HK.out | apply KeepBut.set_ | apply keep_drewN | apply keep_drew | apply keep_alloc | refine keep_far ?_ GW1509.out _) | exact HK.out)))); replace HO_8 := Aside0.mk (Kd.R_elder' (rx_ ((Kd.R_mono (Kd.R_far (p := ⟨gb1509, 4, none⟩) (Kd.R_far (p := ⟨gb1509, 3, none⟩) (Kd.R_far (p := ⟨gb1509, 2, none⟩) (Kd.R_far (p := ⟨gb1509, 1, none⟩) (Kd.R_far (p := ⟨gb1509, 0, none⟩) (Kd.R_types HO_8.out BK1509.out (by decide)) (fun _ hk => hk.2) (.int .i64 t1500)) (fun _ hk => hk.2) (.slice Ao19 t1501.length co19)) (fun _ hk => hk.2) (.int .i64 t1504)) (fun _ hk => hk.2) (.int .i64 t1505)) (fun _ hk => hk.2) (.int .i64 t1506)) (fun _ h_ => h_.1)))) (Kd.R_base ho0) hb); replace BK1509 := Aside0.mk (blk_below (g := gb1509) (o := .cells #[.int .i64 t1500, .slice Ao19 t1501.length co19, .int .i64 t1504, .int .i64 t1505, .int .i64 t1506] 67 (0, 0)) (by (with_reducible repeat (first | refine blk_drewN ?_ _ | refine blk_drew ?_ | refine blk_alloc ?_ _)); refine blk_put (cs := #[.int .i64 t1500, .slice Ao19 t1501.length co19, .int .i64 t1504, .int .i64 t1505, .int .i64 0]) ?_ 4 _ rfl; (with_reducible repeat (first | refine blk_drewN ?_ _ | refine blk_drew ?_ | refine blk_alloc ?_ _)); refine blk_put (cs := #[.int .i64 t1500, .slice Ao19 t1501.length co19, .int .i64 t1504, .int .i64 0, .int .i64 0]) ?_ 3 _ rfl; (with_reducible repeat (first | refine blk_drewN ?_ _ | refine blk_drew ?_ | refine blk_alloc ?_ _)); refine blk_put (cs := #[.int .i64 t1500, .slice Ao19 t1501.length co19, .int .i64 0, .int .i64 0, .int .i64 0]) ?_ 2 _ rfl; (with_reducible repeat (first | refine blk_drewN ?_ _ | refine blk_drew ?_ | refine blk_alloc ?_ _)); refine blk_put (cs := #[.int .i64 t1500, .slice none 0 0, .int .i64 0, .int .i64 0, .int .i64 0]) ?_ 1 _ rfl; (with_reducible repeat (first | refine blk_drewN ?_ _ | refine blk_drew ?_ | refine blk_alloc ?_ _)); refine blk_put (cs := #[.int .i64 0, .slice none 0 0, .int .i64 0, .int .i64 0, .int .i64 0]) ?_ 0 _ rfl; (with_reducible repeat (first | refine blk_drewN ?_ _ | refine blk_drew ?_ | refine blk_alloc ?_ _)); exact BK1509.out) hb); replace HK := Aside0.mk (KeepBut.trans (by repeat (first | (with_reducible first | exact HK.out | apply KeepBut.set_ | apply keep_drewN | apply keep_drew | apply keep_alloc | refine keep_far ?_ GW1509.out _) | exact HK.out)) (KeepBut.of_below hb g none) (.inl rfl)); replace HB := Aside0.mk (below_step (by repeat (first | (with_reducible first | exact HB.out | apply below_alloc | apply pw_below_drewN | apply below_drew1 | refine below_set ?_ (IsS152.ge HI0.out) | refine below_set ?_ GE1509.out) | exact HB.out)) hb); replace HI0 := Aside0.mk (IsS152.below (show IsS152 w0 (((((w16.setCell ⟨gb1509, 0, none⟩ (.int .i64 t1500)).setCell ⟨gb1509, 1, none⟩ (.slice Ao19 t1501.length co19)).setCell ⟨gb1509, 2, none⟩ (.int .i64 t1504)).setCell ⟨gb1509, 3, none⟩ (.int .i64 t1505)).setCell ⟨gb1509, 4, none⟩ (.int .i64 t1506)) g s0_0 t1507 t1508 from by repeat (first | (with_reducible first | exact HI0.out | apply IsS152.alloc | apply IsS152.drewN | apply IsS152.drew | apply IsS152.set_1 | apply IsS152.set_2 | refine IsS152.far ?_ NB0_1509.out _) | exact HI0.out)) hb); (try clear hb); (try clear hb2); (try clear hk); (try clear hi); (try clear ho0)))
    (try simp only [Act.put, List.setIfInBounds_toArray, List.set_cons_zero, List.set_cons_succ])
    go_cut [37] (fun v37 wc => ∃ (kq : Nat) (x37_12 : Bool) (x1001_12 : Int) (x1002_12 : Int), v37 = .bool x37_12 ∧ Aside0 (spec_l13Script.j1 kq x7_1 x8_1 x9_1 t1510 t1513 x37_12 s0_0 x1001_12 x1002_12 t1500 t1501 t1504 t1505 t1506 = some (r1, r2, r3)) ∧ Aside0 (kq ≤ k1) ∧ Aside0 (Kd.S k67 67 wc w.heap.size (fun k_ => some k_ ≠ ((.slice Ao19 t1501.length co19) : Value).ownBlock ∧ k_ ≠ gb1509) u7 x7_1) ∧ Aside0 (Kd.R k90 90 wc w.heap.size (fun k_ => some k_ ≠ (v1511 : Value).ownBlock) (.slice Ao14 x8_1.length co14) x8_1) ∧ Aside0 (Kd.R k90 90 wc w.heap.size (fun k_ => some k_ ≠ ((.slice Ao14 x8_1.length co14) : Value).ownBlock) v1511 t1510) ∧ Aside0 (Kd.R (Kd.int .i64) 3 wc w.heap.size (fun _ => True) (.slice Ao19 t1501.length co19) t1501) ∧ Aside0 (wc.heap[gb1509]? = some (.cells #[.int .i64 t1500, (.slice Ao19 t1501.length co19), .int .i64 t1504, .int .i64 t1505, .int .i64 t1506] 67 (0, 0))) ∧ Aside0 (IsS152 w0 wc g s0_0 x1001_12 x1002_12) ∧ Aside0 (KeepBut w wc g none) ∧ Aside0 (Below w0.heap.size w0 wc))
    case first =>
     have H := HC13.out
     clear HC13
     by_cases c21 : t1513 = 0
     ·rw [if_pos c21] at H
      have c21b0 : (t1513 == 0) = true := beq_iff_eq.mpr c21
      have c21b1 : (t1513 != 0) = false := bne_eq_false_iff_eq.mpr c21
      clear c21
      (first | rw [c21b0] | (simp only [i64_w, i32_w]; rw [c21b0]) | skip)
      have H' := Aside0.mk H
      clear H
      go_wp2
      go_meet
      case rel => exact ⟨_, (true), (t1507), (t1508), eb_, H', ⟨by have := HK1.out; first | omega | exact Nat.le_refl _⟩, ⟨sx_ (Kd.S_mono HO_7.out (fun _ hk => ⟨hk.1.2, hk.2⟩))⟩, ⟨rx_ (Kd.R_mono HO_8.out (fun _ hk => hk.2))⟩, ⟨rx_ (Kd.R_mono HO1512.out (fun _ hk => hk.2))⟩, ⟨rx_ HO1503.out⟩, ⟨kx_ BK1509.out⟩, ⟨by repeat (first | (with_reducible first | exact HI0.out | apply IsS152.alloc | apply IsS152.drewN | apply IsS152.drew | apply IsS152.set_1 | apply IsS152.set_2 | refine IsS152.far ?_ NB0_1509.out _) | exact HI0.out)⟩, ⟨by repeat (first | (with_reducible first | exact HK.out | apply KeepBut.set_ | apply keep_drewN | apply keep_drew | apply keep_alloc | refine keep_far ?_ GW1509.out _) | exact HK.out)⟩, ⟨by repeat (first | (with_reducible first | exact HB.out | apply below_alloc | apply pw_below_drewN | apply below_drew1 | refine below_set ?_ (IsS152.ge HI0.out) | refine below_set ?_ GE1509.out) | exact HB.out)⟩⟩
     ·rw [if_neg c21] at H
      have c21b0 : (t1513 == 0) = false := beq_eq_false_iff_ne.mpr c21
      have c21b1 : (t1513 != 0) = true := bne_iff_ne.mpr c21
      (first | rw [c21b0] | (simp only [i64_w, i32_w]; rw [c21b0]) | skip)
      replace H := Option.bind_eq_some_iff.mp H
      obtain ⟨⟨t1514, t1515, t1516⟩, A220, H⟩ := H
      try dsimp only at H
      have A22 := Aside0.mk A220
      clear A220
      have H' := Aside0.mk H
      clear H
      go_wp2_with (first | (go_at_call 140; (with_reducible refine (spec_l1Once.calls g s0_0 t1507 t1508 3 t1514 t1515 t1516 w0 _ ?side1 ?side2 A22.out).mono ?_); (case side1 => repeat (first | (with_reducible first | exact HI0.out | apply IsS152.alloc | apply IsS152.drewN | apply IsS152.drew | apply IsS152.set_1 | apply IsS152.set_2 | refine IsS152.far ?_ NB0_1509.out _) | exact HI0.out)); (case side2 => repeat (first | (with_reducible first | exact HB.out | apply below_alloc | apply pw_below_drewN | apply below_drew1 | refine below_set ?_ (IsS152.ge HI0.out) | refine below_set ?_ GE1509.out) | exact HB.out)); rintro e w23 ⟨rfl, hi, hb, hk⟩; replace HO_7 := Aside0.mk (Kd.S_mono (Kd.S_keep (IsS152.apartS (show IsS152 w0 _ g s0_0 t1507 t1508 from by repeat (first | (with_reducible first | exact HI0.out | apply IsS152.alloc | apply IsS152.drewN | apply IsS152.drew | apply IsS152.set_1 | apply IsS152.set_2 | refine IsS152.far ?_ NB0_1509.out _) | exact HI0.out)) (sx_ HO_7.out) (by decide)) hk (fun _ h => h.2)) (fun _ h => h.1)); replace HO_8 := Aside0.mk (Kd.R_mono (Kd.R_keep (IsS152.apart (show IsS152 w0 _ g s0_0 t1507 t1508 from by repeat (first | (with_reducible first | exact HI0.out | apply IsS152.alloc | apply IsS152.drewN | apply IsS152.drew | apply IsS152.set_1 | apply IsS152.set_2 | refine IsS152.far ?_ NB0_1509.out _) | exact HI0.out)) (rx_ HO_8.out) (by decide)) hk (fun _ h => h.2)) (fun _ h => h.1)); replace HO1503 := Aside0.mk (Kd.R_mono (Kd.R_keep (IsS152.apart (show IsS152 w0 _ g s0_0 t1507 t1508 from by repeat (first | (with_reducible first | exact HI0.out | apply IsS152.alloc | apply IsS152.drewN | apply IsS152.drew | apply IsS152.set_1 | apply IsS152.set_2 | refine IsS152.far ?_ NB0_1509.out _) | exact HI0.out)) (rx_ HO1503.out) (by decide)) hk (fun _ h => h.2)) (fun _ h => h.1)); replace BK1509 := Aside0.mk (KeepBut.blk hk (g' := gb1509) (o := .cells #[.int .i64 t1500, .slice Ao19 t1501.length co19, .int .i64 t1504, .int .i64 t1505, .int .i64 t1506] 67 (0, 0)) (kx_ BK1509.out) NB1509_0.out (by simp)); replace HO1512 := Aside0.mk (Kd.R_mono (Kd.R_keep (IsS152.apart (show IsS152 w0 _ g s0_0 t1507 t1508 from by repeat (first | (with_reducible first | exact HI0.out | apply IsS152.alloc | apply IsS152.drewN | apply IsS152.drew | apply IsS152.set_1 | apply IsS152.set_2 | refine IsS152.far ?_ NB0_1509.out _) | exact HI0.out)) (rx_ HO1512.out) (by decide)) hk (fun _ h => h.2)) (fun _ h => h.1)); replace HK := Aside0.mk (KeepBut.trans (by repeat (first | (with_reducible first | exact HK.out | apply KeepBut.set_ | apply keep_drewN | apply keep_drew | apply keep_alloc | refine keep_far ?_ GW1509.out _) | exact HK.out)) hk (.inl rfl)); replace HB := Aside0.mk (hb); replace HI0 := Aside0.mk (hi); (try clear hb); (try clear hk); (try clear hi)))
      go_meet
      case rel => exact ⟨_, (t1514), (t1515), (t1516), eb_, H', ⟨by have := HK1.out; first | omega | exact Nat.le_refl _⟩, ⟨sx_ (Kd.S_mono HO_7.out (fun _ hk => ⟨hk.1.2, hk.2⟩))⟩, ⟨rx_ (Kd.R_mono HO_8.out (fun _ hk => hk.2))⟩, ⟨rx_ (Kd.R_mono HO1512.out (fun _ hk => hk.2))⟩, ⟨rx_ HO1503.out⟩, ⟨kx_ BK1509.out⟩, ⟨by repeat (first | (with_reducible first | exact HI0.out | apply IsS152.alloc | apply IsS152.drewN | apply IsS152.drew | apply IsS152.set_1 | apply IsS152.set_2 | refine IsS152.far ?_ NB0_1509.out _) | exact HI0.out)⟩, ⟨by repeat (first | (with_reducible first | exact HK.out | apply KeepBut.set_ | apply keep_drewN | apply keep_drew | apply keep_alloc | refine keep_far ?_ GW1509.out _) | exact HK.out)⟩, ⟨by repeat (first | (with_reducible first | exact HB.out | apply below_alloc | apply pw_below_drewN | apply below_drew1 | refine below_set ?_ (IsS152.ge HI0.out) | refine below_set ?_ GE1509.out) | exact HB.out)⟩⟩
    case rest =>
     clear HC13
     try clear c1
     try clear c2
     try clear p2
     try clear c4
     try clear c9
     try clear c10
     try clear c10b0
     try clear c11
     try clear c13
     try clear c17
     try clear c21
     try clear c21b0
     try clear c21b1
     try clear hcz18_0
     try clear hcz18_1
     try clear hcz18_2
     try clear hcz18_3
     try clear hcz18_4
     try clear hfz18_0
     try clear hfz18_1
     try clear hfz18_2
     try clear hfz18_3
     try clear hfz18_4
     try clear p2
     obtain ⟨kq, x37_12, x1001_12, x1002_12, rfl, HA, HJ12, HO_7, HO_8, HO_11, HO_1510001, BK1509, HI0, HK, HB⟩ := hcut
     cases kq with
     | zero => exact absurd HA.out (by simp [spec_l13Script.j1])
     | succ kj12 =>
      have H := HA.out
      clear HA
      simp only [spec_l13Script.j1] at H
      by_cases c24 : x37_12 = true
      ·subst c24
       have H1 : (if x7_1.length < 2513169434916 then ((some (x7_1 ++ [(⟨t1500, t1501, t1504, t1505, t1506⟩ : S67)] : List (S67))).bind fun y1517 => (if t1513 = 0 then (spec_l13Script.l0 kj12 y1517 t1510 (wrap64 (x9_1 - 1)) s0_0 x1001_12 x1002_12) else (spec_l13Script.l0 kj12 y1517 x8_1 (wrap64 (x9_1 - 1)) s0_0 x1001_12 x1002_12))) else (none)) = some (r1, r2, r3) := by rw [if_pos rfl] at H; exact H
       clear H
       have H := H1
       clear H1
       by_cases c25 : x7_1.length < 2513169434916
       ·rw [if_pos c25] at H
        have LMc25 := Aside0.mk c25
        clear c25
        obtain ⟨y1517, hy1517⟩ : ∃ y_ : List (S67), y_ = (x7_1 ++ [(⟨t1500, t1501, t1504, t1505, t1506⟩ : S67)]) := ⟨_, rfl⟩
        replace H : (if t1513 = 0 then (spec_l13Script.l0 kj12 y1517 t1510 (wrap64 (x9_1 - 1)) s0_0 x1001_12 x1002_12) else (spec_l13Script.l0 kj12 y1517 x8_1 (wrap64 (x9_1 - 1)) s0_0 x1001_12 x1002_12)) = some (r1, r2, r3) := by first | (rw [hy1517]; with_reducible exact H) | (have H2_ := (Option.bind_some _ _).symm.trans H; rw [hy1517]; with_reducible exact H2_) | (have H2_ := (Option.bind_some _ _).symm.trans H; with_reducible exact H2_) | with_reducible exact H | (rw [hy1517]; exact H) | exact H
        have Ny1517 := Aside0.mk hy1517
        clear hy1517
        by_cases c26 : t1513 = 0
        ·rw [if_pos c26] at H
         have c26b0 : (t1513 == 0) = true := beq_iff_eq.mpr c26
         have c26b1 : (t1513 != 0) = false := bne_eq_false_iff_eq.mpr c26
         clear c26
         have H' := Aside0.mk H
         clear H
         have hnb27 := NB1509_0.out
         have hnc27 := NB0_1509.out
         have hcz28_0 : wc.cell? ⟨gb1509, 0, none⟩ = some (.int .i64 t1500) := (blk_cell BK1509.out 0).trans rfl
         have hcz28_1 : wc.cell? ⟨gb1509, 1, none⟩ = some (.slice Ao19 t1501.length co19) := (blk_cell BK1509.out 1).trans rfl
         have hcz28_2 : wc.cell? ⟨gb1509, 2, none⟩ = some (.int .i64 t1504) := (blk_cell BK1509.out 2).trans rfl
         have hcz28_3 : wc.cell? ⟨gb1509, 3, none⟩ = some (.int .i64 t1505) := (blk_cell BK1509.out 3).trans rfl
         have hcz28_4 : wc.cell? ⟨gb1509, 4, none⟩ = some (.int .i64 t1506) := (blk_cell BK1509.out 4).trans rfl
         have hfz28_0 := blk_frozen BK1509.out 0
         have hfz28_1 := blk_frozen BK1509.out 1
         have hfz28_2 := blk_frozen BK1509.out 2
         have hfz28_3 := blk_frozen BK1509.out 3
         have hfz28_4 := blk_frozen BK1509.out 4
         go_wp2_with (first | ((with_reducible refine gate_builtin (b := .append) (xs := #[.tmp 38, .tmp 40]) rfl ?_); at_builtin; refine Kd.S_append k67 w.heap.size rfl (.tmp 38) (.tmp 40) 76 67 (.agg #[(.int .i64 0), (.slice none 0 0), (.int .i64 0), (.int .i64 0), (.int .i64 0)]) 56 rfl Try.underlying76 info67 rfl (by decide) (by omega) u7 x7_1 (⟨t1500, t1501, t1504, t1505, t1506⟩ : S67) [.int .i64 t1500, .slice Ao19 t1501.length co19, .int .i64 t1504, .int .i64 t1505, .int .i64 t1506] (fun k_ => k_ ≠ gb1509) (fun k_ => some k_ = (.slice Ao19 t1501.length co19 : Value).ownBlock) rfl rfl ?aP (fun k_ hk_ => ((Kd.R_mono (ok' := fun k_ => ((fun k_ => k_ ≠ gb1509)) k_ ∧ some k_ ≠ (u7 : Value).ownBlock) (Kd.R_types (Kd.R_apart' (HO_1510001.out) (Kd.S_typed HO_7.out) (by decide)) BK1509.out (by decide)) (fun k_ hk => ⟨hk.2, hk.1.2⟩))).1 k_ hk_.symm) ?aF ?aO (Below.refl _ _) ?aS ?aL ?_; (case aP => exact k67_mkM _ _ _ (⟨t1500, t1501, t1504, t1505, t1506⟩ : S67) (Kd.R_mono (Kd.R_tight rfl (Kd.R_mono (ok' := fun k_ => ((fun k_ => k_ ≠ gb1509)) k_ ∧ some k_ ≠ (u7 : Value).ownBlock) (Kd.R_types (Kd.R_apart' (HO_1510001.out) (Kd.S_typed HO_7.out) (by decide)) BK1509.out (by decide)) (fun k_ hk => ⟨hk.2, hk.1.2⟩))) (fun _ h_ => h_))); (case aF => exact (fun k_ hk => Kd.freshB (g := gb1509) (o := .cells #[.int .i64 t1500, .slice Ao19 t1501.length co19, .int .i64 t1504, .int .i64 t1505, .int .i64 t1506] 67 (0, 0)) (kx_ BK1509.out) k_ hk)); (case aO => exact (sx_ (Kd.S_mono HO_7.out (fun k_ hk => ⟨hk.2, fun e_ => hk.1 e_⟩)))); (case aS => exact (keep_size (w := w) (g := g) (row := none) (by repeat (first | (with_reducible first | exact HK.out | apply KeepBut.set_ | apply keep_drewN | apply keep_drew | apply keep_alloc | refine keep_far ?_ GW1509.out _) | exact HK.out)))); (case aL => have := LMc25.out; omega); intro v1518 w29 ho hb hg hat; rw [← Ny1517.out] at ho; replace HO_8 := Aside0.mk (Kd.R_over' (rx_ HO_8.out) (Kd.S_typed (sx_ HO_7.out)) (by decide) hg); replace HO_11 := Aside0.mk (Kd.R_over' (rx_ HO_11.out) (Kd.S_typed (sx_ HO_7.out)) (by decide) hg); replace BK1509 := Aside0.mk (blk_grown (g := gb1509) (o := .cells #[.int .i64 t1500, .slice Ao19 t1501.length co19, .int .i64 t1504, .int .i64 t1505, .int .i64 t1506] 67 (0, 0)) (kx_ BK1509.out) hg (Kd.S_away HO_7.out (fun _ hk => hk.2))); replace HB := Aside0.mk (below_weaken (by repeat (first | (with_reducible first | exact HB.out | apply below_alloc | apply pw_below_drewN | apply below_drew1 | refine below_set ?_ (IsS152.ge HI0.out) | refine below_set ?_ GE1509.out) | exact HB.out)) HL.out hb); replace HI0 := Aside0.mk (IsS152.grown (by repeat (first | (with_reducible first | exact HI0.out | apply IsS152.alloc | apply IsS152.drewN | apply IsS152.drew | apply IsS152.set_1 | apply IsS152.set_2 | refine IsS152.far ?_ NB0_1509.out _) | exact HI0.out)) hg (IsS152.own_neS HI0.out HO_7.out (by decide))); replace HK := Aside0.mk (KeepBut.trans (by repeat (first | (with_reducible first | exact HK.out | apply KeepBut.set_ | apply keep_drewN | apply keep_drew | apply keep_alloc | refine keep_far ?_ GW1509.out _) | exact HK.out)) (KeepBut.of_grown hg g) (Kd.S_base2 HO_7.out)); have HO1519 := Aside0.mk (ho); clear HO_7; clear HO_1510001; clear ho hb hg hat))
         go_roundg kj12
         case measure => have := HK1.out; have := HJ12.out; omega
         case rel => exact ⟨(y1517), (t1510), (wrap64 (x9_1 - 1)), (x1001_12), (x1002_12), eb_, H', ⟨by have := HK1.out; have := HJ12.out; omega⟩, ⟨sx_ (Kd.S_mono HO1519.out (fun _ hk => trivial))⟩, ⟨rx_ (Kd.R_mono HO_11.out (fun _ hk => trivial))⟩, ⟨by repeat (first | (with_reducible first | exact HI0.out | apply IsS152.alloc | apply IsS152.drewN | apply IsS152.drew | apply IsS152.set_1 | apply IsS152.set_2 | refine IsS152.far ?_ NB0_1509.out _) | exact HI0.out)⟩, ⟨by repeat (first | (with_reducible first | exact HK.out | apply KeepBut.set_ | apply keep_drewN | apply keep_drew | apply keep_alloc | refine keep_far ?_ GW1509.out _) | exact HK.out)⟩, ⟨by repeat (first | (with_reducible first | exact HB.out | apply below_alloc | apply pw_below_drewN | apply below_drew1 | refine below_set ?_ (IsS152.ge HI0.out) | refine below_set ?_ GE1509.out) | exact HB.out)⟩⟩
        ·rw [if_neg c26] at H
         have c26b0 : (t1513 == 0) = false := beq_eq_false_iff_ne.mpr c26
         have c26b1 : (t1513 != 0) = true := bne_iff_ne.mpr c26
         have H' := Aside0.mk H
         clear H
         have hnb30 := NB1509_0.out
         have hnc30 := NB0_1509.out
         have hcz31_0 : wc.cell? ⟨gb1509, 0, none⟩ = some (.int .i64 t1500) := (blk_cell BK1509.out 0).trans rfl
         have hcz31_1 : wc.cell? ⟨gb1509, 1, none⟩ = some (.slice Ao19 t1501.length co19) := (blk_cell BK1509.out 1).trans rfl
         have hcz31_2 : wc.cell? ⟨gb1509, 2, none⟩ = some (.int .i64 t1504) := (blk_cell BK1509.out 2).trans rfl
         have hcz31_3 : wc.cell? ⟨gb1509, 3, none⟩ = some (.int .i64 t1505) := (blk_cell BK1509.out 3).trans rfl
         have hcz31_4 : wc.cell? ⟨gb1509, 4, none⟩ = some (.int .i64 t1506) := (blk_cell BK1509.out 4).trans rfl
         have hfz31_0 := blk_frozen BK1509.out 0
         have hfz31_1 := blk_frozen BK1509.out 1
         have hfz31_2 := blk_frozen BK1509.out 2
         have hfz31_3 := blk_frozen BK1509.out 3
         have hfz31_4 := blk_frozen BK1509.out 4
         go_wp2_with (first | ((with_reducible refine gate_builtin (b := .append) (xs := #[.tmp 38, .tmp 40]) rfl ?_); at_builtin; refine Kd.S_append k67 w.heap.size rfl (.tmp 38) (.tmp 40) 76 67 (.agg #[(.int .i64 0), (.slice none 0 0), (.int .i64 0), (.int .i64 0), (.int .i64 0)]) 56 rfl Try.underlying76 info67 rfl (by decide) (by omega) u7 x7_1 (⟨t1500, t1501, t1504, t1505, t1506⟩ : S67) [.int .i64 t1500, .slice Ao19 t1501.length co19, .int .i64 t1504, .int .i64 t1505, .int .i64 t1506] (fun k_ => k_ ≠ gb1509) (fun k_ => some k_ = (.slice Ao19 t1501.length co19 : Value).ownBlock) rfl rfl ?aP (fun k_ hk_ => ((Kd.R_mono (ok' := fun k_ => ((fun k_ => k_ ≠ gb1509)) k_ ∧ some k_ ≠ (u7 : Value).ownBlock) (Kd.R_types (Kd.R_apart' (HO_1510001.out) (Kd.S_typed HO_7.out) (by decide)) BK1509.out (by decide)) (fun k_ hk => ⟨hk.2, hk.1.2⟩))).1 k_ hk_.symm) ?aF ?aO (Below.refl _ _) ?aS ?aL ?_; (case aP => exact k67_mkM _ _ _ (⟨t1500, t1501, t1504, t1505, t1506⟩ : S67) (Kd.R_mono (Kd.R_tight rfl (Kd.R_mono (ok' := fun k_ => ((fun k_ => k_ ≠ gb1509)) k_ ∧ some k_ ≠ (u7 : Value).ownBlock) (Kd.R_types (Kd.R_apart' (HO_1510001.out) (Kd.S_typed HO_7.out) (by decide)) BK1509.out (by decide)) (fun k_ hk => ⟨hk.2, hk.1.2⟩))) (fun _ h_ => h_))); (case aF => exact (fun k_ hk => Kd.freshB (g := gb1509) (o := .cells #[.int .i64 t1500, .slice Ao19 t1501.length co19, .int .i64 t1504, .int .i64 t1505, .int .i64 t1506] 67 (0, 0)) (kx_ BK1509.out) k_ hk)); (case aO => exact (sx_ (Kd.S_mono HO_7.out (fun k_ hk => ⟨hk.2, fun e_ => hk.1 e_⟩)))); (case aS => exact (keep_size (w := w) (g := g) (row := none) (by repeat (first | (with_reducible first | exact HK.out | apply KeepBut.set_ | apply keep_drewN | apply keep_drew | apply keep_alloc | refine keep_far ?_ GW1509.out _) | exact HK.out)))); (case aL => have := LMc25.out; omega); intro v1518 w32 ho hb hg hat; rw [← Ny1517.out] at ho; replace HO_8 := Aside0.mk (Kd.R_over' (rx_ HO_8.out) (Kd.S_typed (sx_ HO_7.out)) (by decide) hg); replace HO_11 := Aside0.mk (Kd.R_over' (rx_ HO_11.out) (Kd.S_typed (sx_ HO_7.out)) (by decide) hg); replace BK1509 := Aside0.mk (blk_grown (g := gb1509) (o := .cells #[.int .i64 t1500, .slice Ao19 t1501.length co19, .int .i64 t1504, .int .i64 t1505, .int .i64 t1506] 67 (0, 0)) (kx_ BK1509.out) hg (Kd.S_away HO_7.out (fun _ hk => hk.2))); replace HB := Aside0.mk (below_weaken (by repeat (first | (with_reducible first | exact HB.out | apply below_alloc | apply pw_below_drewN | apply below_drew1 | refine below_set ?_ (IsS152.ge HI0.out) | refine below_set ?_ GE1509.out) | exact HB.out)) HL.out hb); replace HI0 := Aside0.mk (IsS152.grown (by repeat (first | (with_reducible first | exact HI0.out | apply IsS152.alloc | apply IsS152.drewN | apply IsS152.drew | apply IsS152.set_1 | apply IsS152.set_2 | refine IsS152.far ?_ NB0_1509.out _) | exact HI0.out)) hg (IsS152.own_neS HI0.out HO_7.out (by decide))); replace HK := Aside0.mk (KeepBut.trans (by repeat (first | (with_reducible first | exact HK.out | apply KeepBut.set_ | apply keep_drewN | apply keep_drew | apply keep_alloc | refine keep_far ?_ GW1509.out _) | exact HK.out)) (KeepBut.of_grown hg g) (Kd.S_base2 HO_7.out)); have HO1519 := Aside0.mk (ho); clear HO_7; clear HO_1510001; clear ho hb hg hat))
         go_roundg kj12
         case measure => have := HK1.out; have := HJ12.out; omega
         case rel => exact ⟨(y1517), (x8_1), (wrap64 (x9_1 - 1)), (x1001_12), (x1002_12), eb_, H', ⟨by have := HK1.out; have := HJ12.out; omega⟩, ⟨sx_ (Kd.S_mono HO1519.out (fun _ hk => trivial))⟩, ⟨rx_ (Kd.R_mono HO_8.out (fun _ hk => trivial))⟩, ⟨by repeat (first | (with_reducible first | exact HI0.out | apply IsS152.alloc | apply IsS152.drewN | apply IsS152.drew | apply IsS152.set_1 | apply IsS152.set_2 | refine IsS152.far ?_ NB0_1509.out _) | exact HI0.out)⟩, ⟨by repeat (first | (with_reducible first | exact HK.out | apply KeepBut.set_ | apply keep_drewN | apply keep_drew | apply keep_alloc | refine keep_far ?_ GW1509.out _) | exact HK.out)⟩, ⟨by repeat (first | (with_reducible first | exact HB.out | apply below_alloc | apply pw_below_drewN | apply below_drew1 | refine below_set ?_ (IsS152.ge HI0.out) | refine below_set ?_ GE1509.out) | exact HB.out)⟩⟩
       ·rw [if_neg c25] at H
        exact absurd H (by simp)
      ·replace c24 := Bool.eq_false_iff.mpr c24
       subst c24
       have H1 : (if t1513 = 0 then (spec_l13Script.l0 kj12 x7_1 t1510 (wrap64 (x9_1 - 1)) s0_0 x1001_12 x1002_12) else (spec_l13Script.l0 kj12 x7_1 x8_1 (wrap64 (x9_1 - 1)) s0_0 x1001_12 x1002_12)) = some (r1, r2, r3) := by rw [if_neg (show ¬ (false = true) by decide)] at H; exact H
       clear H
       have H := H1
       clear H1
       by_cases c33 : t1513 = 0
       ·rw [if_pos c33] at H
        have c33b0 : (t1513 == 0) = true := beq_iff_eq.mpr c33
        have c33b1 : (t1513 != 0) = false := bne_eq_false_iff_eq.mpr c33
        clear c33
        have H' := Aside0.mk H
        clear H
        go_wp2
        go_roundg kj12
        case measure => have := HK1.out; have := HJ12.out; omega
        case rel => exact ⟨(x7_1), (t1510), (wrap64 (x9_1 - 1)), (x1001_12), (x1002_12), eb_, H', ⟨by have := HK1.out; have := HJ12.out; omega⟩, ⟨sx_ (Kd.S_mono HO_7.out (fun _ hk => trivial))⟩, ⟨rx_ (Kd.R_mono HO_11.out (fun _ hk => trivial))⟩, ⟨by repeat (first | (with_reducible first | exact HI0.out | apply IsS152.alloc | apply IsS152.drewN | apply IsS152.drew | apply IsS152.set_1 | apply IsS152.set_2 | refine IsS152.far ?_ NB0_1509.out _) | exact HI0.out)⟩, ⟨by repeat (first | (with_reducible first | exact HK.out | apply KeepBut.set_ | apply keep_drewN | apply keep_drew | apply keep_alloc | refine keep_far ?_ GW1509.out _) | exact HK.out)⟩, ⟨by repeat (first | (with_reducible first | exact HB.out | apply below_alloc | apply pw_below_drewN | apply below_drew1 | refine below_set ?_ (IsS152.ge HI0.out) | refine below_set ?_ GE1509.out) | exact HB.out)⟩⟩
       ·rw [if_neg c33] at H
        have c33b0 : (t1513 == 0) = false := beq_eq_false_iff_ne.mpr c33
        have c33b1 : (t1513 != 0) = true := bne_iff_ne.mpr c33
        have H' := Aside0.mk H
        clear H
        go_wp2
        go_roundg kj12
        case measure => have := HK1.out; have := HJ12.out; omega
        case rel => exact ⟨(x7_1), (x8_1), (wrap64 (x9_1 - 1)), (x1001_12), (x1002_12), eb_, H', ⟨by have := HK1.out; have := HJ12.out; omega⟩, ⟨sx_ (Kd.S_mono HO_7.out (fun _ hk => trivial))⟩, ⟨rx_ (Kd.R_mono HO_8.out (fun _ hk => trivial))⟩, ⟨by repeat (first | (with_reducible first | exact HI0.out | apply IsS152.alloc | apply IsS152.drewN | apply IsS152.drew | apply IsS152.set_1 | apply IsS152.set_2 | refine IsS152.far ?_ NB0_1509.out _) | exact HI0.out)⟩, ⟨by repeat (first | (with_reducible first | exact HK.out | apply KeepBut.set_ | apply keep_drewN | apply keep_drew | apply keep_alloc | refine keep_far ?_ GW1509.out _) | exact HK.out)⟩, ⟨by repeat (first | (with_reducible first | exact HB.out | apply below_alloc | apply pw_below_drewN | apply below_drew1 | refine below_set ?_ (IsS152.ge HI0.out) | refine below_set ?_ GE1509.out) | exact HB.out)⟩⟩
   ·rw [if_neg c10] at H
    have c10b0 : decide (0 < x9_1) = false := decide_eq_false c10
    clear c10
    simp only [Option.some.injEq, Prod.mk.injEq] at H
    obtain ⟨rfl, rfl, rfl⟩ := H
    go_wp2
    go_ret
    exact ⟨_, ea_, sx_ HO_7.out, by repeat (first | (with_reducible first | exact HI0.out | apply IsS152.alloc | apply IsS152.drewN | apply IsS152.drew | apply IsS152.set_1 | apply IsS152.set_2) | exact HI0.out), by repeat (first | (with_reducible first | exact HB.out | apply below_alloc | apply pw_below_drewN | apply below_drew1 | refine below_set ?_ (IsS152.ge HI0.out)) | exact HB.out), by repeat (first | (with_reducible first | exact HK.out | apply KeepBut.set_ | apply keep_drewN | apply keep_drew | apply keep_alloc) | exact HK.out)⟩
end Go.Proofs.Ytbifdckfglejkaa.X
namespace Go.Proofs.Ytbifdckfglejkaa.X
open Go.RowKit Go.Proofs.YtbifdckfglejkaaW.PrintWords Go.Proofs.YtbifdckfglejkaaW.PrintLast Go.Proofs.YtbifdckfglejkaaW.PrintMore
attribute [local go_sem] max2_int min2_int max_two min_two max_three min_three max_four min_four   -- for this text's walks alone
set_option linter.unusedVariables false
set_option linter.unusedSimpArgs false
def spec_DrawApplyAll.f (k : Nat) (l0 : List Int) : Option ((List (S90)) × (List (S67))) := (spec_l1New.f k l0).bind fun bt1520 => ((spec_l3Any.f k bt1520.1 bt1520.2.1 bt1520.2.2 8).bind fun bt1524 => ((spec_l13Script.f k bt1520.1 bt1524.2.1 bt1524.2.2 bt1524.1 7).bind fun bt1529 => (some (bt1524.1, bt1529.1))))
set_option maxHeartbeats 8000000 in
set_option maxRecDepth 100000 in
theorem spec_DrawApplyAll.calls (k : Nat) (A0 : Option Addr) (c0 : Nat) (l0 : List Int) (r1 : List (S90)) (r2 : List (S67)) (w : World) (hr0 : Kd.C (Kd.int .u8) w A0 l0.length l0) (hc0 : l0.length ≤ c0) (h : spec_DrawApplyAll.f k l0 = some (r1, r2)) :
  Calls Try.prog 63 #[.slice A0 l0.length c0] w fun e w' => ∃ v0_ v1_ : Value, e = .returned (.tuple #[v0_, v1_]) ∧ Kd.Q k90 90 w' w.heap.size (fun _ => True) v0_ r1 ∧ Kd.S k67 67 w' w.heap.size (fun _ => True) v1_ r2 ∧ Below w.heap.size w w' := by
 have HR0 := Aside0.mk hr0
 have HC0 := Aside0.mk hc0
 clear hr0 hc0
 have HB := Aside0.mk (Below.refl w.heap.size w)
 have H : ((spec_l1New.f k l0).bind fun bt1520 => ((spec_l3Any.f k bt1520.1 bt1520.2.1 bt1520.2.2 8).bind fun bt1524 => ((spec_l13Script.f k bt1520.1 bt1524.2.1 bt1524.2.2 bt1524.1 7).bind fun bt1529 => (some (bt1524.1, bt1529.1))))) = some (r1, r2) := h
 clear h
 replace H := Option.bind_eq_some_iff.mp H
 obtain ⟨⟨t1520, t1521, t1522⟩, A20, H⟩ := H
 try dsimp only at H
 have A2 := Aside0.mk A20
 clear A20
 replace H := Option.bind_eq_some_iff.mp H
 obtain ⟨⟨t1524, t1527, t1528⟩, A30, H⟩ := H
 replace H : ((spec_l13Script.f k t1520 t1527 t1528 t1524 7).bind fun bt1529 => (some (t1524, bt1529.1))) = some (r1, r2) := H
 have A3 := Aside0.mk A30
 clear A30
 replace H := Option.bind_eq_some_iff.mp H
 obtain ⟨⟨t1529, t1532, t1533⟩, A40, H⟩ := H
 replace H : (some (t1524, t1529)) = some (r1, r2) := H
 have A4 := Aside0.mk A40
 clear A40
 simp only [Option.some.injEq, Prod.mk.injEq] at H
 obtain ⟨rfl, rfl⟩ := H
 go_enter Try.func63, Try.ntmps63
 go_wp2_with (first | ((with_reducible refine gate_callee (f := 111) rfl ?_); refine gL_ (some 7) Try.func111 #[.slice A0 l0.length c0] ?_; (with_reducible refine (spec_l1New.calls k _ _ l0 t1520 t1521 t1522 w _ ?side1 ?side2 ?side3 A2.out).mono ?_); (case side1 => repeat (first | (with_reducible first | exact HB.out | apply below_alloc | apply pw_below_drewN | apply below_drew1) | exact HB.out)); (case side2 => exact HR0.out); (case side3 => exact HC0.out); rintro e w5 ⟨g1523, rfl, hi, hb, hb2⟩; refine ⟨_, rfl, ?_⟩; replace HB := Aside0.mk (hb); have HI1523 := Aside0.mk (hi); (try clear hb); (try clear hb2); (try clear hi)) | ((with_reducible refine gate_callee (f := 112) rfl ?_); refine gL_ (some 9) Try.func112 #[.pointer (some ⟨g1523, 0, none⟩), .int .i64 8] ?_; (with_reducible refine (spec_l3Any.calls k g1523 t1520 t1521 t1522 8 t1524 t1527 t1528 w _ ?side1 ?side2 A3.out).mono ?_); (case side1 => repeat (first | (with_reducible first | exact HI1523.out | apply IsS152.alloc | apply IsS152.drewN | apply IsS152.drew | apply IsS152.set_1 | apply IsS152.set_2) | exact HI1523.out)); (case side2 => repeat (first | (with_reducible first | exact HB.out | apply below_alloc | apply pw_below_drewN | apply below_drew1 | refine below_set ?_ (IsS152.ge HI1523.out)) | exact HB.out)); rintro e w6 ⟨v1525, rfl, ho0, hi, hb, hk⟩; refine ⟨_, rfl, ?_⟩; have HO1526 := Aside0.mk (Kd.Q_lower ho0 (below_size (by repeat (first | (with_reducible first | exact HB.out | apply below_alloc | apply pw_below_drewN | apply below_drew1 | refine below_set ?_ (IsS152.ge HI1523.out)) | exact HB.out)))); replace HB := Aside0.mk (hb); replace HI1523 := Aside0.mk (hi); (try clear hb); (try clear hk); (try clear hi); (try clear ho0); obtain ⟨Ao7, co7, eo7, _⟩ := Kd.Q_slice HO1526.out; subst eo7) | ((with_reducible refine gate_callee (f := 115) rfl ?_); refine gL_ (some 13) Try.func115 #[.pointer (some ⟨g1523, 0, none⟩), .slice Ao7 t1524.length co7, .int .i64 7] ?_; (with_reducible refine (spec_l13Script.calls k g1523 t1520 t1527 t1528 _ _ t1524 7 t1529 t1532 t1533 w _ ?side1 ?side2 ?side3 ?side4 A4.out).mono ?_); (case side1 => repeat (first | (with_reducible first | exact HI1523.out | apply IsS152.alloc | apply IsS152.drewN | apply IsS152.drew | apply IsS152.set_1 | apply IsS152.set_2) | exact HI1523.out)); (case side2 => repeat (first | (with_reducible first | exact HB.out | apply below_alloc | apply pw_below_drewN | apply below_drew1 | refine below_set ?_ (IsS152.ge HI1523.out)) | exact HB.out)); (case side3 => exact Kd.C_foot_ownQ (IsS152.apartQ (show IsS152 w _ g1523 t1520 t1527 t1528 from by repeat (first | (with_reducible first | exact HI1523.out | apply IsS152.alloc | apply IsS152.drewN | apply IsS152.drew | apply IsS152.set_1 | apply IsS152.set_2) | exact HI1523.out)) (qx_ HO1526.out) (by decide)) (fun _ h_ => h_.2)); (case side4 => exact (Kd.Q_reads' HO1526.out).2.1); rintro e w8 ⟨v1530, rfl, ho0, hi, hb, hk⟩; refine ⟨_, rfl, ?_⟩; replace HO1526 := Aside0.mk (Kd.Q_mono (Kd.Q_keep (IsS152.apartQ (show IsS152 w _ g1523 t1520 t1527 t1528 from by repeat (first | (with_reducible first | exact HI1523.out | apply IsS152.alloc | apply IsS152.drewN | apply IsS152.drew | apply IsS152.set_1 | apply IsS152.set_2) | exact HI1523.out)) (qx_ HO1526.out) (by decide)) hk (fun _ h => h.2)) (fun _ h => h.1)); have HO1531 := Aside0.mk (Kd.S_lower ho0 (below_size (by repeat (first | (with_reducible first | exact HB.out | apply below_alloc | apply pw_below_drewN | apply below_drew1 | refine below_set ?_ (IsS152.ge HI1523.out)) | exact HB.out)))); replace HB := Aside0.mk (hb); replace HI1523 := Aside0.mk (hi); (try clear hb); (try clear hk); (try clear hi); (try clear ho0)))
 go_ret2
 exact ⟨_, _, ea_, qx_ HO1526.out, sx_ HO1531.out, by repeat (first | (with_reducible first | exact HB.out | apply below_alloc | apply pw_below_drewN | apply below_drew1 | refine below_set ?_ (IsS152.ge HI1523.out)) | exact HB.out)⟩
end Go.Proofs.Ytbifdckfglejkaa.X
namespace Go.Proofs.Ytbifdckfglejkaa.X
open Go.RowKit Go.Proofs.YtbifdckfglejkaaW.PrintWords Go.Proofs.YtbifdckfglejkaaW.PrintLast Go.Proofs.YtbifdckfglejkaaW.PrintMore
attribute [local go_sem] max2_int min2_int max_two min_two max_three min_three max_four min_four   -- for this text's walks alone
set_option linter.unusedVariables false
set_option linter.unusedSimpArgs false
def laws_at.f (l0 : List Int) (a1 : Int) : Option (Int) := if a1 < (l0.length : Int) then (if 0 ≤ a1 then (some (wrap64 (rd l0 a1))) else (none)) else (some (Int.tmod (wrap64 ((wrap64 (a1 * 37)) + (wrap64 ((l0.length : Int) * 11)))) 256))
set_option maxHeartbeats 8000000 in
set_option maxRecDepth 100000 in
theorem laws_at.calls (A0 : Option Addr) (c0 : Nat) (l0 : List Int) (a1 : Int) (r : Int) (w : World) (hr0 : Kd.C (Kd.int .u8) w A0 l0.length l0) (hc0 : l0.length ≤ c0) (h : laws_at.f l0 a1 = some r) :
  Calls Try.prog 59 #[.slice A0 l0.length c0, .int .i64 a1] w fun e w' => e = .returned (.int .i64 r) ∧ Drawn0 w w' := by
 have HR0 := Aside0.mk hr0
 have HC0 := Aside0.mk hc0
 clear hr0 hc0
 have H : (if a1 < (l0.length : Int) then (if 0 ≤ a1 then (some (wrap64 (rd l0 a1))) else (none)) else (some (Int.tmod (wrap64 ((wrap64 (a1 * 37)) + (wrap64 ((l0.length : Int) * 11)))) 256))) = some r := h
 clear h
 by_cases c3 : a1 < (l0.length : Int)
 ·rw [if_pos c3] at H
  have c3b0 : decide (a1 < (l0.length : Int)) = true := decide_eq_true c3
  clear c3
  by_cases c4 : 0 ≤ a1
  ·rw [if_pos c4] at H
   have c4b0 : decide (0 ≤ a1) = true := decide_eq_true c4
   clear c4
   obtain rfl := Option.some.inj H
   have p1426 : 0 ≤ (a1 : Int) := od_
   have q1426 : a1 < (l0.length : Int) := od_
   obtain ⟨ad1426, e1426, hx1426_0⟩ := Kd.at_int HR0.out a1 p1426 q1426
   cases e1426
   replace p1426 := eq_true p1426
   replace q1426 := eq_true q1426
   go_enter Try.func59, Try.ntmps59
   go_wp2
   go_ret
   exact ⟨by first | rfl | (simp; done) | (simp [*]; done), by repeat (first | exact Drawn0.refl _ | apply Drawn0.step)⟩
  ·rw [if_neg c4] at H
   exact absurd H (by simp)
 ·rw [if_neg c3] at H
  have c3b0 : decide (a1 < (l0.length : Int)) = false := decide_eq_false c3
  clear c3
  obtain rfl := Option.some.inj H
  go_enter Try.func59, Try.ntmps59
  go_wp2
  go_ret
  exact ⟨by first | rfl | (simp; done) | (simp [*]; done), by repeat (first | exact Drawn0.refl _ | apply Drawn0.step)⟩
end Go.Proofs.Ytbifdckfglejkaa.X
namespace Go.Proofs.Ytbifdckfglejkaa.X
open Go.RowKit Go.Proofs.YtbifdckfglejkaaW.PrintWords Go.Proofs.YtbifdckfglejkaaW.PrintLast Go.Proofs.YtbifdckfglejkaaW.PrintMore
attribute [local go_sem] max2_int min2_int max_two min_two max_three min_three max_four min_four   -- for this text's walks alone
set_option linter.unusedVariables false
set_option linter.unusedSimpArgs false
def laws_cutAt.f (l0 : List Int) (a1 : Int) (a2 : Int) : Option (Int) := (laws_at.f l0 a1).bind fun t1534 => (some (wrap64 (Int.tdiv (wrap64 (t1534 * (wrap64 (a2 + 1)))) 256)))
set_option maxHeartbeats 8000000 in
set_option maxRecDepth 100000 in
theorem laws_cutAt.calls (A0 : Option Addr) (c0 : Nat) (l0 : List Int) (a1 : Int) (a2 : Int) (r : Int) (w : World) (hr0 : Kd.C (Kd.int .u8) w A0 l0.length l0) (hc0 : l0.length ≤ c0) (h : laws_cutAt.f l0 a1 a2 = some r) :
  Calls Try.prog 65 #[.slice A0 l0.length c0, .int .i64 a1, .int .i64 a2] w fun e w' => e = .returned (.int .i64 r) ∧ Drawn0 w w' := by
 have HR0 := Aside0.mk hr0
 have HC0 := Aside0.mk hc0
 clear hr0 hc0
 have H : ((laws_at.f l0 a1).bind fun t1534 => (some (wrap64 (Int.tdiv (wrap64 (t1534 * (wrap64 (a2 + 1)))) 256)))) = some r := h
 clear h
 replace H := Option.bind_eq_some_iff.mp H
 obtain ⟨t1534, A40, H⟩ := H
 replace H : (some (wrap64 (Int.tdiv (wrap64 (t1534 * (wrap64 (a2 + 1)))) 256))) = some r := H
 have A4 := Aside0.mk A40
 clear A40
 obtain rfl := Option.some.inj H
 go_enter Try.func65, Try.ntmps65
 go_wp2_with (first | ((with_reducible refine gate_callee (f := 59) rfl ?_); refine gL_ (some 9) Try.func59 #[.slice A0 l0.length c0, .int .i64 a1] ?_; (with_reducible refine (laws_at.calls _ _ l0 a1 t1534 _ (cc_ HR0.out) HC0.out A4.out).mono ?_); rintro e w' ⟨rfl, ⟨nd, rfl⟩⟩; refine ⟨_, rfl, ?_⟩))
 go_ret
 exact ⟨by first | rfl | (simp; done) | (simp [*]; done), by repeat (first | exact Drawn0.refl _ | apply Drawn0.step)⟩
end Go.Proofs.Ytbifdckfglejkaa.X
