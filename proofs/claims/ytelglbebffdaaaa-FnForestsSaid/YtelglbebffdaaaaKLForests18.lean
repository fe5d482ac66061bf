/- Part 18 of the proof of FnForests: what it needs. -/
import Derived.Deep.RegionHeld3
import Derived.Deep.QuietTactic
import Derived.BigQuiet
import Derived.Test.YtelglbebffdaaaaKLForests11
import Derived.Test.YtelglbebffdaaaaKLForests16
import Derived.Test.YtelglbebffdaaaaKLForests17
namespace Go.Proofs.Ytelglbebffdaaaa.X
open Go.RowKit Go.Proofs.YtelglbebffdaaaaW.PrintWords Go.Proofs.YtelglbebffdaaaaW.PrintLast Go.Proofs.YtelglbebffdaaaaW.PrintMore Go.Proofs.Ytelglbebffdaaaa.Q
set_option linter.unusedVariables false
set_option linter.unusedSimpArgs false
theorem Dn7.ar {w : World} {e : Ending} {w' : World} (h : Dn7 w e w') : ∃ (p : Ad) (a b : List NdI) (d i r : List Int) (x1 x2 x3 x4 : Int), e = .returned (.tuple #[.slice p.Aa a.length p.ca, .int .i64 x1, .int .i64 x2, .slice p.Ab b.length p.cb, .int .i64 x3, .int .i64 x4, .agg #[.slice p.A0 d.length p.c0, .slice p.A1 i.length p.c1, .slice p.A2 r.length p.c2]]) ∧ Ar w' p a b d i r ∧ Below w.heap.size w w' := by
 obtain ⟨va, vb, v0, v1, v2, a, b, d, i, r, x1, x2, x3, x4, he, h1, h2, h3, h4, h5, h6, h7, h8, h9⟩ := h
 obtain ⟨Aa, ca, rfl, la, ra⟩ := Kd.Q_reads h6
 obtain ⟨Ab, cb, rfl, lb, rb⟩ := Kd.Q_reads h7
 obtain ⟨A0, c0, rfl, l0, r0⟩ := Kd.Q_reads h8.a
 obtain ⟨A1, c1, rfl, l1, r1⟩ := Kd.Q_reads h8.b
 obtain ⟨A2, c2, rfl, l2, r2⟩ := Kd.Q_reads h8.c
 exact ⟨⟨Aa, ca, Ab, cb, A0, c0, A1, c1, A2, c2⟩, a, b, d, i, r, x1, x2, x3, x4, he, ⟨ra, la, rb, lb, r0, l0, r1, l1, r2, l2, h1, h2, h3, h4, h5⟩, h9⟩
structure Po (w : World) (g : Nat) (l : List NdI) : Prop where
 c : ∀ x, x < l.length → w.cell? ⟨g, x, none⟩ = some (.int .i64 (nodeN l x : Int))
theorem Po.below {w w' : World} {g : Nat} {l : List NdI} (h : Po w g l) (k : Below w.heap.size w w') : Po w' g l := ⟨fun x hx => pw_cell_below k (h.c x hx)⟩
set_option maxRecDepth 100000 in
set_option maxHeartbeats 4000000 in
theorem laws_FnForests.calls (A0 : Option Addr) (c0 : Nat) (l0 : List Int) (w : World) (hr0 : Kd.C (Kd.int .u8) w A0 l0.length l0) (hc0 : l0.length ≤ c0) :
  Calls Try.prog 9 #[.slice A0 l0.length c0] w fun e w' => e = .returned (.bool true) ∧ Below w.heap.size w w' := by
 have HC := Aside0.mk hr0
 clear hr0
 by_cases hbig : (l0.length : Int) > 1048576
 ·have hq : decide ((l0.length : Int) > 1048576) = true := decide_eq_true hbig
  have HV := Aside0.mk (fun W (c : Ch w W) => big_v (W1 := W) HC.out hc0)
  rw [hq] at HV
  clear hq hbig
  go_enter Try.func9, Try.ntmps9
  go_wp2_with (go_at_call 38; refine (HV.out _ inferInstance).mono ?_; rintro e w1 ⟨rfl, hb⟩; have HB := Aside0.mk hb; clear hb)
  go_ret
  exact ⟨rfl, HB.out⟩
 ·have hl : l0.length ≤ 1048576 := by omega
  have hq : decide ((l0.length : Int) > 1048576) = false := decide_eq_false hbig
  have HV := Aside0.mk (fun W (c : Ch w W) => big_v (W1 := W) HC.out hc0)
  rw [hq] at HV
  clear hq hbig
  have hu := Try.underlying31
  go_enter Try.func9, Try.ntmps9
  go_wp2_with (first | (go_at_call 38; refine (HV.out _ inferInstance).mono ?_; rintro e w1 ⟨rfl, hb⟩; have HB := Aside0.mk hb; clear hb) | (go_at_call 39; refine (DrawForestDist_r A0 c0 l0 w1 (Kd.C_below HC.out HB.out) hc0 hl).mono ?_; rintro e w2 hd; obtain ⟨p, a, b, d, i, r, x1, x2, x3, x4, rfl, har, hb⟩ := hd.ar; have HL := Aside0.mk (ls_new har (below_step HB.out hb)); clear hd har hb))
  obtain ⟨kx, hkx⟩ : ∃ kx, kx = w2.heap.size := ⟨_, rfl⟩
  rw [← hkx] at HL ⊢
  clear hkx HB HV HC
  refine (fd_v HL.out.ar x1 x2 x3 x4).mono ?_
  rintro e w3 ⟨rfl, hb⟩
  replace HL := Aside0.mk (HL.out.below hb)
  clear hb
  obtain ⟨y0, y1, y2, f0, f1, f2⟩ := HL.out.box
  by_cases hn : 0 ≤ fdB a b x1 x2 x3 x4 d i r
  ·obtain ⟨ta, tb, hco, s, t, k, m, rfl, rfl, rfl, rfl, h1, h2, h3, h4⟩ := fdB_ok hn
   have E0 := fdB_eq ta tb hco h1 h2 h3 h4
   have E1 := fdB_eq ta tb hco h1 h2 (Nat.le_refl k) (show k ≤ b.length by omega)
   have E2 := fdB_eq ta tb hco (Nat.le_refl s) (show s ≤ a.length by omega) h3 h4
   rw [Ted.D_onlyA] at E1
   rw [Ted.D_onlyB] at E2
   have E3 : s < t → fdB a b s ((t - 1 : Nat) : Int) k m d i r = Ted.D (msOf a b d i r) s (t - 1) k m := fun hlt => fdB_eq ta tb hco (by omega) (by omega) h3 h4
   have hs := msOf_small (a := a) (b := b) hco
   have d0 := D_small hs s t k m
   have d1 := D_small hs s (t - 1) k m
   have d2 := Ted.D_both (msOf a b d i r) s t k m
   have d3 : s < t → _ := fun hlt => Ted.D_step (msOf a b d i r) k m hlt
   have d4 := Ted.sm_nonneg (msOf a b d i r).del (fun x => (hs.del x).1) s t
   have d5 := Ted.sm_nonneg (msOf a b d i r).ins (fun x => (hs.ins x).1) k m
   have d6 : ∀ q, q ≤ 24 → Ted.sm (msOf a b d i r).del s q ≤ 24000000 := fun q hq => by have := sm_small (fun x => (hs.del x).2) s q; omega
   have d7 : ∀ q, q ≤ 24 → Ted.sm (msOf a b d i r).ins k q ≤ 24000000 := fun q hq => by have := sm_small (fun x => (hs.ins x).2) k q; omega
   have a24 := ta.len24
   have b24 := tb.len24
   obtain ⟨D1, hD1⟩ : ∃ D1 : Nat → Int, D1 = Ted.sm (msOf a b d i r).del s := ⟨_, rfl⟩
   obtain ⟨D2, hD2⟩ : ∃ D2 : Nat → Int, D2 = Ted.sm (msOf a b d i r).ins k := ⟨_, rfl⟩
   have HS0 : Aside0 (D1 s = 0) := ⟨by rw [hD1]; exact Ted.sm_none _ (Nat.le_refl _)⟩
   have HT0 : Aside0 (D2 k = 0) := ⟨by rw [hD2]; exact Ted.sm_none _ (Nat.le_refl _)⟩
   have HS1 : Aside0 (∀ q, s ≤ q → q < t → wrap64 (D1 q + d.getD (lab a (nodeN a q)).toNat 0) = D1 (q + 1)) := ⟨fun q h5 h6 => by
    have e := Ted.sm_last (msOf a b d i r).del (show s < q + 1 by omega)
    rw [Nat.add_sub_cancel] at e
    have x1 := Ted.sm_nonneg (msOf a b d i r).del (fun x => (hs.del x).1) s q
    have x2 := d6 q (by omega)
    have x3 := hs.del q
    rw [hD1, e]
    show wrap64 (Ted.sm (msOf a b d i r).del s q + (msOf a b d i r).del q) = _
    exact wid (by omega) (by omega)⟩
   have HS2 : Aside0 (∀ q, k ≤ q → q < m → wrap64 (D2 q + i.getD (lab b (nodeN b q)).toNat 0) = D2 (q + 1)) := ⟨fun q h5 h6 => by
    have e := Ted.sm_last (msOf a b d i r).ins (show k < q + 1 by omega)
    rw [Nat.add_sub_cancel] at e
    have x1 := Ted.sm_nonneg (msOf a b d i r).ins (fun x => (hs.ins x).1) k q
    have x2 := d7 q (by omega)
    have x3 := hs.ins q
    rw [hD2, e]
    show wrap64 (Ted.sm (msOf a b d i r).ins k q + (msOf a b d i r).ins q) = _
    exact wid (by omega) (by omega)⟩
   rw [← hD1] at E1 d2 d4
   rw [← hD2] at E2 d2 d5
   have d8 : D1 t ≤ 24000000 := by rw [hD1]; exact d6 t (by omega)
   have d9 : D2 m ≤ 24000000 := by rw [hD2]; exact d7 m (by omega)
   obtain ⟨z, hz⟩ : ∃ z, z = Ted.D (msOf a b d i r) s t k m := ⟨_, rfl⟩
   rw [← hz] at E0 d0 d2 d3
   rw [E0]
   obtain ⟨Aa, ca, Ab, cb, B0, k0, B1, k1, B2, k2⟩ := p
   obtain ⟨ada, hA, _⟩ := label_at HL.out.ar.ha (x := 0) ta.len1 rfl
   obtain ⟨adb, hB, _⟩ := label_at HL.out.ar.hb (x := 0) tb.len1 rfl
   change Aa = some ada at hA
   change Ab = some adb at hB
   subst hA hB
   dsimp only
   have q1 : (z != z) = false := by simp
   have q2 : (z < 0) = False := eq_false (by omega)
   have HCO := Aside0.mk hco
   have HTA := Aside0.mk ta
   have HTB := Aside0.mk tb
   have HE0 := Aside0.mk E0
   have HE1 := Aside0.mk E1
   have HE2 := Aside0.mk E2
   have HBD := Aside0.mk (show s ≤ t ∧ t ≤ a.length ∧ k ≤ m ∧ m ≤ b.length ∧ a.length ≤ 24 ∧ b.length ≤ 24 from ⟨h1, h2, h3, h4, a24, b24⟩)
   have HLT := Aside0.mk (fun hlt : s < t => And.intro (E3 hlt) (And.intro (d3 hlt) (And.intro d1 (hs.del (t - 1)))))
   have HZS := Aside0.mk (show z ≤ D1 t + D2 m ∧ 0 ≤ D1 t ∧ 0 ≤ D2 m ∧ D1 t ≤ 24000000 ∧ D2 m ≤ 24000000 from ⟨d2, d4, d5, d8, d9⟩)
   clear E0 E1 E2 E3 hs d0 d1 d2 d3 d4 d5 d6 d7 d8 d9 hD1 hD2 hz ta tb hco hn
   go_wp2_with (first | (go_at_call 14; refine (sfd_v HL.out.ar (s : Int) (t : Int) (k : Int) (m : Int)).mono ?_; rw [HE0.out]; rintro e w4 ⟨rfl, hb⟩; replace HL := Aside0.mk (HL.out.below hb); clear hb y0 y1 y2 f0 f1 f2) | (go_at_call 40; ((with_reducible refine (post_v HTA.out HL.out.ar.ha HL.out.ar.ka rfl).mono ?_)); rintro e w5 ⟨ga, kga, rfl, hpo, hb⟩; have HPa := Aside0.mk (Po.mk (w := w5) (g := ga) (l := a) hpo); replace HL := Aside0.mk (HL.out.below hb); clear hpo hb) | (go_at_call 40; ((with_reducible refine (post_v HTB.out HL.out.ar.hb HL.out.ar.kb rfl).mono ?_)); rintro e w6 ⟨gb, kgb, rfl, hpo, hb⟩; have HPb := Aside0.mk (Po.mk (w := w6) (g := gb) (l := b) hpo); replace HPa := Aside0.mk (HPa.out.below hb); replace HL := Aside0.mk (HL.out.below hb); clear hpo hb))
   go_loopg [13, 15] t (fun gg v13 v15 wr => ∃ q : Nat, v13 = .int .i64 (D1 q) ∧ v15 = .int .i64 (q : Int) ∧ s ≤ q ∧ q ≤ t ∧ t - q ≤ gg ∧ Aside0 (Ls w kx ⟨some ada, ca, some adb, cb, B0, k0, B1, k1, B2, k2⟩ a b d i r wr) ∧ Aside0 (Po wr ga a) ∧ Aside0 (Po wr gb b))
   case atStart => exact ⟨s, congrArg _ HS0.out.symm, rfl, Nat.le_refl _, by omega, by omega, HL, HPa, HPb⟩
   case round =>
    clear HL HPa HPb
    obtain ⟨q, rfl, rfl, hq1, hq2, hgg, HL, HPa, HPb⟩ := hrel
    by_cases hq : q < t
    ·have hx := nodeN_lt HTA.out (r := q) (by omega)
     obtain ⟨ad', hA, zl⟩ := label_at HL.out.ar.ha (x := nodeN a q) hx rfl
     obtain rfl : ada = ad' := Option.some.inj hA
     have zp := HPa.out.c q (by omega)
     have chk := HTA.out.chk _ hx
     have HK := Aside0.mk (And.intro chk.l0 chk.l5)
     obtain ⟨nx, hnx⟩ : ∃ z, z = nodeN a q := ⟨_, rfl⟩
     obtain ⟨lx, hlx⟩ : ∃ z, z = lab a nx := ⟨_, rfl⟩
     rw [← hnx] at hx zl zp HK
     rw [← hlx] at zl HK
     obtain ⟨pr, hpr⟩ : ∃ z, z = d.getD lx.toNat 0 := ⟨_, rfl⟩
     have g1 : IntKind.i64.wrap (D1 q + pr) = D1 (q + 1) := iw (by rw [hpr, hlx, hnx]; exact HS1.out q hq1 hq)
     have g2 : Vi (wrap64 ((q : Int) + 1)) ((q + 1 : Nat) : Int) := vi (w_inc (a := q) (b := q + 1) rfl (by have := HBD.out; omega))
     have b1 : ((q : Int) < (t : Int)) = True := eq_true (by omega)
     have b2 : (0 ≤ (q : Int)) = True := eq_true (by omega)
     have b3 : ((q : Int) < (a.length : Int)) = True := eq_true (by have := HBD.out; omega)
     have b4 : (0 ≤ (nx : Int)) = True := eq_true (by omega)
     have b5 : ((nx : Int) < (a.length : Int)) = True := eq_true (by omega)
     have HPR := Aside0.mk hpr
     have HQ := Aside0.mk (And.intro hq1 (And.intro hq2 (And.intro hgg hq)))
     clear hq1 hq2 hgg hq hx hA chk hnx hlx hpr
     obtain ⟨y0, y1, y2, f0, f1, f2⟩ := HL.out.box
     go_wp2
     go_region_held3 (fun w' => w'.cell? ⟨kx, 0, none⟩ = some (.slice B0 d.length k0) ∧ w'.cell? ⟨kx, 1, none⟩ = some (.slice B1 i.length k1) ∧ w'.cell? ⟨kx, 2, none⟩ = some (.slice B2 r.length k2) ∧ w'.cell? ⟨ga, q, none⟩ = some (.int .i64 (nx : Int)) ∧ w'.cell? (ada.add (nx * 2)) = some (.int .i64 lx)) (first | exact ⟨y0, y1, y2, zp, zl⟩) ((go_at_call 41; refine (del_v HL.out.ar HCO.out lx HK.out.1 HK.out.2).mono ?_; rw [← HPR.out]; rintro e w8 ⟨rfl, hb⟩; replace zp := pw_cell_below hb zp; replace zl := pw_cell_below hb zl; replace HL := Aside0.mk (HL.out.below hb); replace HPa := Aside0.mk (HPa.out.below hb); replace HPb := Aside0.mk (HPb.out.below hb); clear hb y0 y1 y2 f0 f1 f2; obtain ⟨y0, y1, y2, f0, f1, f2⟩ := HL.out.box))
     go_wp2
     obtain ⟨hq1, hq2, hgg, hq⟩ := HQ.out
     go_roundg (t - (q + 1))
     case measure => omega
     case rel => exact ⟨q + 1, rfl, (by first | rfl | exact g2 | exact (congrArg (Value.int .i64) (i64_w _)).trans g2), by omega, by omega, Nat.le_refl _, HL, HPa, HPb⟩
    ·obtain rfl : t = q := by omega
     have b1 : ((t : Int) < (t : Int)) = False := eq_false (by omega)
     clear hq1 hq2 hgg hq
     go_wp2
     clear b1
     go_loopg [14, 16] m (fun gg v13 v15 wr => ∃ q : Nat, v13 = .int .i64 (D2 q) ∧ v15 = .int .i64 (q : Int) ∧ k ≤ q ∧ q ≤ m ∧ m - q ≤ gg ∧ Aside0 (Ls w kx ⟨some ada, ca, some adb, cb, B0, k0, B1, k1, B2, k2⟩ a b d i r wr) ∧ Aside0 (Po wr ga a) ∧ Aside0 (Po wr gb b))
     case atStart => exact ⟨k, congrArg _ HT0.out.symm, rfl, Nat.le_refl _, by omega, by omega, HL, HPa, HPb⟩
     case round =>
      clear HL HPa HPb
      obtain ⟨q, rfl, rfl, hq1, hq2, hgg, HL, HPa, HPb⟩ := hrel
      by_cases hq : q < m
      ·have hx := nodeN_lt HTB.out (r := q) (by omega)
       obtain ⟨ad', hA, zl⟩ := label_at HL.out.ar.hb (x := nodeN b q) hx rfl
       obtain rfl : adb = ad' := Option.some.inj hA
       have zp := HPb.out.c q (by omega)
       have chk := HTB.out.chk _ hx
       have HK := Aside0.mk (And.intro chk.l0 chk.l5)
       obtain ⟨nx, hnx⟩ : ∃ z, z = nodeN b q := ⟨_, rfl⟩
       obtain ⟨lx, hlx⟩ : ∃ z, z = lab b nx := ⟨_, rfl⟩
       rw [← hnx] at hx zl zp HK
       rw [← hlx] at zl HK
       obtain ⟨pr, hpr⟩ : ∃ z, z = i.getD lx.toNat 0 := ⟨_, rfl⟩
       have g1 : IntKind.i64.wrap (D2 q + pr) = D2 (q + 1) := iw (by rw [hpr, hlx, hnx]; exact HS2.out q hq1 hq)
       have g2 : Vi (wrap64 ((q : Int) + 1)) ((q + 1 : Nat) : Int) := vi (w_inc (a := q) (b := q + 1) rfl (by have := HBD.out; omega))
       have b1 : ((q : Int) < (m : Int)) = True := eq_true (by omega)
       have b2 : (0 ≤ (q : Int)) = True := eq_true (by omega)
       have b3 : ((q : Int) < (b.length : Int)) = True := eq_true (by have := HBD.out; omega)
       have b4 : (0 ≤ (nx : Int)) = True := eq_true (by omega)
       have b5 : ((nx : Int) < (b.length : Int)) = True := eq_true (by omega)
       have HPR := Aside0.mk hpr
       have HQ := Aside0.mk (And.intro hq1 (And.intro hq2 (And.intro hgg hq)))
       clear hq1 hq2 hgg hq hx hA chk hnx hlx hpr
       obtain ⟨y0, y1, y2, f0, f1, f2⟩ := HL.out.box
       go_wp2
       go_region_held3 (fun w' => w'.cell? ⟨kx, 0, none⟩ = some (.slice B0 d.length k0) ∧ w'.cell? ⟨kx, 1, none⟩ = some (.slice B1 i.length k1) ∧ w'.cell? ⟨kx, 2, none⟩ = some (.slice B2 r.length k2) ∧ w'.cell? ⟨gb, q, none⟩ = some (.int .i64 (nx : Int)) ∧ w'.cell? (adb.add (nx * 2)) = some (.int .i64 lx)) (first | exact ⟨y0, y1, y2, zp, zl⟩) ((go_at_call 42; refine (ins_v HL.out.ar HCO.out lx HK.out.1 HK.out.2).mono ?_; rw [← HPR.out]; rintro e w8 ⟨rfl, hb⟩; replace zp := pw_cell_below hb zp; replace zl := pw_cell_below hb zl; replace HL := Aside0.mk (HL.out.below hb); replace HPa := Aside0.mk (HPa.out.below hb); replace HPb := Aside0.mk (HPb.out.below hb); clear hb y0 y1 y2 f0 f1 f2; obtain ⟨y0, y1, y2, f0, f1, f2⟩ := HL.out.box))
       go_wp2
       obtain ⟨hq1, hq2, hgg, hq⟩ := HQ.out
       go_roundg (m - (q + 1))
       case measure => omega
       case rel => exact ⟨q + 1, rfl, (by first | rfl | exact g2 | exact (congrArg (Value.int .i64) (i64_w _)).trans g2), by omega, by omega, Nat.le_refl _, HL, HPa, HPb⟩
      ·obtain rfl : m = q := by omega
       have b1 : ((m : Int) < (m : Int)) = False := eq_false (by omega)
       clear hq1 hq2 hgg hq
       obtain ⟨y0, y1, y2, f0, f1, f2⟩ := HL.out.box
       obtain ⟨zx, hzx⟩ : ∃ u, u = D1 t := ⟨_, rfl⟩
       obtain ⟨zy, hzy⟩ : ∃ u, u = D2 m := ⟨_, rfl⟩
       rw [← hzx] at HE1 HZS ⊢
       rw [← hzy] at HE2 HZS ⊢
       have hzs := HZS.out
       have q3 : (zx != zx) = false := by simp
       have q4 : (zy != zy) = false := by simp
       have q5 : Vi (wrap64 (zx + zy)) (zx + zy) := vi (wid (by omega) (by omega))
       have q6 : (zx + zy < z) = False := eq_false (by omega)
       have q7 : decide (zx + zy < z) = false := decide_eq_false (by omega)
       have q8 : wrap64 (zx + zy) = zx + zy := wid (by omega) (by omega)
       clear hzs hzx hzy q5
       go_wp2_with (first | (go_at_call 17; ((with_reducible refine (fd_v HL.out.ar (s : Int) (t : Int) (k : Int) (k : Int)).mono ?_)); rw [HE1.out]; rintro e w8 ⟨rfl, hb⟩; replace HL := Aside0.mk (HL.out.below hb); replace HPa := Aside0.mk (HPa.out.below hb); replace HPb := Aside0.mk (HPb.out.below hb); clear hb y0 y1 y2 f0 f1 f2; obtain ⟨y0, y1, y2, f0, f1, f2⟩ := HL.out.box) | (go_at_call 17; ((with_reducible refine (fd_v HL.out.ar (s : Int) (s : Int) (k : Int) (m : Int)).mono ?_)); rw [HE2.out]; rintro e w9 ⟨rfl, hb⟩; replace HL := Aside0.mk (HL.out.below hb); replace HPa := Aside0.mk (HPa.out.below hb); replace HPb := Aside0.mk (HPb.out.below hb); clear hb y0 y1 y2 f0 f1 f2; obtain ⟨y0, y1, y2, f0, f1, f2⟩ := HL.out.box))
       clear q3 q4 q6 q7 q8
       by_cases hst : s < t
       ·obtain ⟨e3, d3, d1, dd⟩ := HLT.out hst
        obtain ⟨t1, ht1⟩ : ∃ u, u = t - 1 := ⟨_, rfl⟩
        obtain ⟨z3, hz3⟩ : ∃ u, u = Ted.D (msOf a b d i r) s (t - 1) k m := ⟨_, rfl⟩
        rw [← hz3] at e3 d3 d1
        rw [← ht1] at e3 d3 dd
        have hbd := HBD.out
        have hx := nodeN_lt HTA.out (r := t1) (by omega)
        obtain ⟨ad', hA, zl⟩ := label_at HL.out.ar.ha (x := nodeN a t1) hx rfl
        obtain rfl : ada = ad' := Option.some.inj hA
        have zp := HPa.out.c t1 (by omega)
        have chk := HTA.out.chk _ hx
        have HK := Aside0.mk (And.intro chk.l0 chk.l5)
        obtain ⟨nx, hnx⟩ : ∃ z, z = nodeN a t1 := ⟨_, rfl⟩
        obtain ⟨lx, hlx⟩ : ∃ z, z = lab a nx := ⟨_, rfl⟩
        have hde : (msOf a b d i r).del t1 = d.getD lx.toNat 0 := by rw [hlx, hnx]; rfl
        rw [hde] at d3 dd
        rw [← hnx] at hx zl zp HK
        rw [← hlx] at zl HK
        obtain ⟨pr, hpr⟩ : ∃ z, z = d.getD lx.toNat 0 := ⟨_, rfl⟩
        rw [← hpr] at d3 dd
        have q3 : decide ((t : Int) = (s : Int)) = false := decide_eq_false (by omega)
        have q4 : ((t : Int) == (s : Int)) = false := beq_eq_false_iff_ne.2 (by omega)
        have q5 : ((t : Int) = (s : Int)) = False := eq_false (by omega)
        have g1 : IntKind.i64.wrap ((t : Int) - 1) = (t1 : Int) := iw (w_dec (a := t1) (b := t) (by omega) (by omega))
        have g2 : IntKind.i64.wrap (z3 + pr) = z3 + pr := iw (wid (by omega) (by omega))
        have g3 : (z ≤ z3 + pr) = True := eq_true (by omega)
        have g4 : decide (z ≤ z3 + pr) = true := decide_eq_true (by omega)
        have b2 : (0 ≤ (t1 : Int)) = True := eq_true (by omega)
        have b3 : ((t1 : Int) < (a.length : Int)) = True := eq_true (by omega)
        have b4 : (0 ≤ (nx : Int)) = True := eq_true (by omega)
        have b5 : ((nx : Int) < (a.length : Int)) = True := eq_true (by omega)
        have HPR := Aside0.mk hpr
        have HE3 := Aside0.mk e3
        clear e3 d3 d1 dd ht1 hz3 hbd hx hA chk hnx hlx hde hpr hst
        go_wp2
        go_region_held3 (fun w' => w'.cell? ⟨kx, 0, none⟩ = some (.slice B0 d.length k0) ∧ w'.cell? ⟨kx, 1, none⟩ = some (.slice B1 i.length k1) ∧ w'.cell? ⟨kx, 2, none⟩ = some (.slice B2 r.length k2) ∧ w'.cell? ⟨ga, t1, none⟩ = some (.int .i64 (nx : Int)) ∧ w'.cell? (ada.add (nx * 2)) = some (.int .i64 lx)) (first | exact ⟨y0, y1, y2, zp, zl⟩) ((first | (go_at_call 17; refine (fd_v HL.out.ar (s : Int) (t1 : Int) (k : Int) (m : Int)).mono ?_; rw [HE3.out]; rintro e w10 ⟨rfl, hb⟩; replace HL := Aside0.mk (HL.out.below hb); replace HPa := Aside0.mk (HPa.out.below hb); replace HPb := Aside0.mk (HPb.out.below hb); replace zp := pw_cell_below hb zp; replace zl := pw_cell_below hb zl; clear hb y0 y1 y2 f0 f1 f2; obtain ⟨y0, y1, y2, f0, f1, f2⟩ := HL.out.box) | (go_at_call 41; refine (del_v HL.out.ar HCO.out lx HK.out.1 HK.out.2).mono ?_; rw [← HPR.out]; rintro e w11 ⟨rfl, hb⟩; replace HL := Aside0.mk (HL.out.below hb); replace HPa := Aside0.mk (HPa.out.below hb); replace HPb := Aside0.mk (HPb.out.below hb); replace zp := pw_cell_below hb zp; replace zl := pw_cell_below hb zl; clear hb y0 y1 y2 f0 f1 f2; obtain ⟨y0, y1, y2, f0, f1, f2⟩ := HL.out.box)))
        go_wp2
        go_ret
        exact ⟨rfl, HL.out.bel⟩
       ·obtain rfl : s = t := by have := HBD.out; omega
        have q3 : decide ((s : Int) = (s : Int)) = true := by simp
        have q4 : ((s : Int) == (s : Int)) = true := by simp
        clear hst
        go_wp2
        go_quiet (fail)
        go_wp2
        go_ret
        exact ⟨rfl, pw_below_drewN HL.out.bel _⟩
  ·have hz := fdB_neg hn
   generalize hzz : fdB a b x1 x2 x3 x4 d i r = z at hz ⊢
   have HZ := Aside0.mk hzz
   have q1 : (z != z) = false := by simp
   have q2 : (z < 0) = True := eq_true hz
   have q3 : (z == z) = true := by simp
   clear hzz hn
   go_wp2_with (go_at_call 14; refine (sfd_v HL.out.ar x1 x2 x3 x4).mono ?_; rw [HZ.out]; rintro e w4 ⟨rfl, hb⟩; replace HL := Aside0.mk (HL.out.below hb); clear hb y0 y1 y2 f0 f1 f2; obtain ⟨y0, y1, y2, f0, f1, f2⟩ := HL.out.box)
   all_goals (go_ret; exact ⟨rfl, HL.out.bel⟩)
end Go.Proofs.Ytelglbebffdaaaa.X
