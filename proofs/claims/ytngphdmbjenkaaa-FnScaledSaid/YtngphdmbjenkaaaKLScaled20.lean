/- Part 20 of the proof of FnScaled: what it needs. -/
import Derived.Deep.RegionHeld3
import Derived.Test.YtngphdmbjenkaaaKLScaled10
import Derived.Test.YtngphdmbjenkaaaKLScaled17
import Derived.Test.YtngphdmbjenkaaaKLScaled19
namespace Go.Proofs.Ytngphdmbjenkaaa.X
open Go.RowKit Go.Proofs.YtngphdmbjenkaaaW.PrintWords Go.Proofs.YtngphdmbjenkaaaW.PrintLast Go.Proofs.YtngphdmbjenkaaaW.PrintMore Go.Proofs.Ytngphdmbjenkaaa.Q
set_option linter.unusedVariables false
set_option linter.unusedSimpArgs false
section
variable {w W1 : World} {p : Ad} {a b : List NdI} {d i r : List Int}
theorem ar_of (h : Ar w p a b d i r) {base g0 c0 g1 c1 g2 c2 : Nat} {D I R : List Int} (x : IX w base (.slice (some ⟨g0, 0, none⟩) 6 c0) D) (y : IX w base (.slice (some ⟨g1, 0, none⟩) 6 c1) I) (z : IX w base (.slice (some ⟨g2, 0, none⟩) 36 c2) R) :
  D.length = 6 ∧ I.length = 6 ∧ R.length = 36 ∧ Ar w ⟨p.Aa, p.ca, p.Ab, p.cb, some ⟨g0, 0, none⟩, c0, some ⟨g1, 0, none⟩, c1, some ⟨g2, 0, none⟩, c2⟩ a b D I R := by
 obtain ⟨x1, x2, x3⟩ := Kd.R_reads' x
 obtain ⟨y1, y2, y3⟩ := Kd.R_reads' y
 obtain ⟨z1, z2, z3⟩ := Kd.R_reads' z
 exact ⟨x1.symm, y1.symm, z1.symm, h.ha, h.ka, h.hb, h.kb, x3, (by show D.length ≤ c0; omega), y3, (by show I.length ≤ c1; omega), z3, (by show R.length ≤ c2; omega), h.la, h.lb, by omega, by omega, by omega⟩
theorem root6_v (h : Ar w p a b d i r) {base g0 c0 g1 c1 g2 c2 : Nat} {D I R : List Int} (x : IX w base (.slice (some ⟨g0, 0, none⟩) 6 c0) D) (y : IX w base (.slice (some ⟨g1, 0, none⟩) 6 c1) I) (z : IX w base (.slice (some ⟨g2, 0, none⟩) 36 c2) R) [c : Ch w W1] :
  Calls Try.prog 18 #[.slice p.Aa a.length p.ca, .slice p.Ab b.length p.cb, .agg #[.slice (some ⟨g0, 0, none⟩) 6 c0, .slice (some ⟨g1, 0, none⟩) 6 c1, .slice (some ⟨g2, 0, none⟩) 36 c2]] W1 fun e w' => e = .returned (.int .i64 (rdB a b D I R)) ∧ Below w.heap.size w w' := by
 obtain ⟨e0, e1, e2, k⟩ := ar_of h x y z
 have g := rootDist_v (W1 := W1) k
 rw [e0, e1, e2] at g
 exact g
theorem srd_v (h : Ar w p a b d i r) [c : Ch w W1] : Calls Try.prog 28 #[.slice p.Aa a.length p.ca, .slice p.Ab b.length p.cb, .agg #[.slice p.A0 d.length p.c0, .slice p.A1 i.length p.c1, .slice p.A2 r.length p.c2]] W1 fun e w' => e = .returned (.int .i64 (rdB a b d i r)) ∧ Below w.heap.size w w' := by
 have g := h.ch (W' := W1)
 have la := h.la
 have lb := h.lb
 have l0 := h.l0
 have l1 := h.l1
 have l2 := h.l2
 obtain ⟨k, hk⟩ := (spec_RootDist.ev (⟨by omega, by omega, by omega, by omega, by omega⟩ : Fit a b d i r)).rounds
 exact (spec_RootDist.calls k p.Aa p.ca a p.Ab p.cb b p.A0 p.c0 d p.A1 p.c1 i p.A2 p.c2 r _ W1 g.ha g.ka g.hb g.kb g.h0 g.k0 g.h1 g.k1 g.h2 g.k2 hk).mono fun e w' ⟨he, hb⟩ => ⟨he, below_step c.out hb⟩
end
set_option maxRecDepth 100000 in
set_option maxHeartbeats 4000000 in
theorem laws_FnScaled.calls (A0 : Option Addr) (c0 : Nat) (l0 : List Int) (w : World) (hr0 : Kd.C (Kd.int .u8) w A0 l0.length l0) (hc0 : l0.length ≤ c0) :
  Calls Try.prog 5 #[.slice A0 l0.length c0] w fun e w' => e = .returned (.bool true) ∧ Below w.heap.size w w' := by
 have HC := Aside0.mk hr0
 clear hr0
 by_cases hbig : (l0.length : Int) > 1048576
 ·have hq : decide ((l0.length : Int) > 1048576) = true := decide_eq_true hbig
  have HV := Aside0.mk (fun W (c : Ch w W) => big_v (W1 := W) HC.out hc0)
  rw [hq] at HV
  clear hq hbig
  go_enter Try.func5, Try.ntmps5
  go_wp2_with (go_at_call 12; refine (HV.out _ inferInstance).mono ?_; rintro e w1 ⟨rfl, hb⟩; have HB := Aside0.mk hb; clear hb)
  go_ret
  exact ⟨rfl, HB.out⟩
 ·have hl : l0.length ≤ 1048576 := by omega
  have hq : decide ((l0.length : Int) > 1048576) = false := decide_eq_false hbig
  have HV := Aside0.mk (fun W (c : Ch w W) => big_v (W1 := W) HC.out hc0)
  rw [hq] at HV
  clear hq hbig
  have hu := Try.underlying27
  go_enter Try.func5, Try.ntmps5
  go_wp2_with (first | (go_at_call 12; refine (HV.out _ inferInstance).mono ?_; rintro e w1 ⟨rfl, hb⟩; have HB := Aside0.mk hb; clear hb) | (go_at_call 26; refine (DrawTreeDist_r A0 c0 l0 w1 (Kd.C_below HC.out HB.out) hc0 hl).mono ?_; rintro e w2 hd; obtain ⟨p, a, b, d, i, r, rfl, har, hb⟩ := hd.ar; have HL := Aside0.mk (ls_new har (below_step HB.out hb)); clear hd har hb))
  obtain ⟨kx, hkx⟩ : ∃ kx, kx = w2.heap.size := ⟨_, rfl⟩
  rw [← hkx] at HL ⊢
  clear hkx HB HV HC
  generalize w2.alloc _ = wA at HL ⊢
  refine (unit_r _).mono ?_
  rintro e w3 ⟨v0, v1, v2, rfl, hc1, hb1⟩
  obtain ⟨g0, k0, rfl, _⟩ := hc1.a.form (n := 6) rfl (by decide)
  obtain ⟨g1, k1, rfl, _⟩ := hc1.b.form (n := 6) rfl (by decide)
  obtain ⟨g2, k2, rfl, _⟩ := hc1.c.form (n := 36) (by decide) (by decide)
  have HC1 := Aside0.mk hc1
  have HB1 := Aside0.mk hb1
  clear hc1 hb1
  go_wp2_with fail
  refine (unit_r _).mono ?_
  rintro e w4 ⟨u0, u1, u2, rfl, hc2, hb2⟩
  obtain ⟨h0, e0, rfl, _⟩ := hc2.a.form (n := 6) rfl (by decide)
  obtain ⟨h1, e1, rfl, _⟩ := hc2.b.form (n := 6) rfl (by decide)
  obtain ⟨h2, e2, rfl, _⟩ := hc2.c.form (n := 36) (by decide) (by decide)
  obtain ⟨_, _, _, _, _, _, _, _, _, _, _, _, q0, q1, q2, q3, q4, q5, hK⟩ := k6_new HC1.out HB1.out hc2 hb2
  cases q0; cases q1; cases q2; cases q3; cases q4; cases q5
  clear hc2 hb2 HC1 HB1
  obtain ⟨kb1, hkb1⟩ : ∃ kb, kb = w3.heap.size := ⟨_, rfl⟩
  obtain ⟨kb2, hkb2⟩ : ∃ kb, kb = w4.heap.size := ⟨_, rfl⟩
  rw [← hkb1, ← hkb2] at hK
  have HK := Aside0.mk hK
  clear hK
  go_wp2_with fail
  rw [← hkb1, ← hkb2]
  clear hkb1 hkb2
  generalize w4.alloc _ = w5 at HK ⊢
  replace HK : Aside0 (K6 wA kb1 kb2 g0 k0 g1 k1 g2 k2 h0 e0 h1 e1 h2 e2 (del3 0) (del3 0) (rel3 0) (del0 0) (del0 0) (rel0z 0) w5) := ⟨by rw [rel3_ends.1, rel3_ends.2.1, rel3_ends.2.2.2.2.1, rel3_ends.2.2.2.2.2.1]; exact HK.out⟩
  go_loopg [8] 36 (fun gg v8 wr => ∃ n : Nat, v8 = .int .i64 (n : Int) ∧ n ≤ 36 ∧ 36 - n ≤ gg ∧ Aside0 (K6 wA kb1 kb2 g0 k0 g1 k1 g2 k2 h0 e0 h1 e1 h2 e2 (del3 0) (del3 0) (rel3 n) (del0 0) (del0 0) (rel0z n) wr))
  case atStart => exact ⟨0, rfl, by omega, by omega, HK⟩
  case round =>
   clear HK
   obtain ⟨n, rfl, hn1, hgg, HK⟩ := hrel
   by_cases hn : n < 36
   ·obtain ⟨t1, t2, t3, t4, t5, t6, t7⟩ := rel3_step n hn
    obtain ⟨x, hx⟩ : ∃ x, x = unitRel.getD n 0 := ⟨_, rfl⟩
    rw [← hx] at t2 t3 t6 t7
    obtain ⟨y, hy⟩ : ∃ y, y = 3 * x := ⟨_, rfl⟩
    rw [← hy] at t3
    have g3 : IntKind.i64.wrap (3 * x) = y := iw (by rw [hy]; exact wid (by omega) (by omega))
    have g4 : Vi (wrap64 ((n : Int) + 1)) ((n + 1 : Nat) : Int) := vi (w_inc (a := n) (b := n + 1) rfl (by omega))
    obtain ⟨z1, f1⟩ := HK.out.r2.at_ hn
    rw [t2] at z1
    have HT := Aside0.mk (And.intro t3 t5)
    have b1 : (0 ≤ (n : Int)) = True := eq_true (by omega)
    have b2 : ((n : Int) < ((36 : Nat) : Int)) = True := eq_true (by omega)
    have b3 : ((n : Int) < (36 : Int)) = True := eq_true (by omega)
    have HN := Aside0.mk (And.intro hn1 (And.intro hgg hn))
    clear t1 t2 t3 t4 t5 t6 t7 hx hy hn1 hgg hn f1
    obtain ⟨y0, y1, y2, f0, f1, f2⟩ := bx_of HK.out.b1
    go_wp2
    go_still_tail 10, (by kernel_rfl)
    change wpList _ _ _ _ _ wr.drew
    replace HK := Aside0.mk (HK.out.below (w' := wr.drew) (below_drew (Below.refl _ _)))
    clear y0 y1 y2 f0 f1 f2 z1
    generalize wr.drew = w6 at HK ⊢
    obtain ⟨z1, f1⟩ := HK.out.r2.at_ HN.out.2.2
    replace HK := Aside0.mk (HK.out.put2 n y)
    rw [HT.out.1] at HK
    obtain ⟨z2, f2⟩ := HK.out.s2.at_ HN.out.2.2
    obtain ⟨y0, y1, y2, f3, f4, f5⟩ := bx_of HK.out.b2
    replace HK := Aside0.mk (HK.out.put5 n 0)
    rw [HT.out.2] at HK
    go_wp2
    obtain ⟨hn1, hgg, hn⟩ := HN.out
    go_roundg (36 - (n + 1))
    case measure => omega
    case rel => exact ⟨n + 1, (by first | rfl | exact g4 | exact (congrArg (Value.int .i64) (i64_w _)).trans g4), by omega, Nat.le_refl _, HK⟩
   ·obtain rfl : n = 36 := by omega
    clear hn hn1 hgg
    obtain ⟨y0, y1, y2, f0, f1, f2⟩ := bx_of HK.out.b1
    go_wp2
    clear y0 y1 y2 f0 f1 f2
    go_loopg [9] 6 (fun gg v9 wr => ∃ n : Nat, v9 = .int .i64 (n : Int) ∧ n ≤ 6 ∧ 6 - n ≤ gg ∧ Aside0 (K6 wA kb1 kb2 g0 k0 g1 k1 g2 k2 h0 e0 h1 e1 h2 e2 (del3 n) (del3 n) (rel3 36) (del0 n) (del0 n) (rel0z 36) wr))
    case atStart => exact ⟨0, rfl, by omega, by omega, HK⟩
    case round =>
     clear HK
     obtain ⟨n, rfl, hn1, hgg, HK⟩ := hrel
     by_cases hn : n < 6
     ·obtain ⟨_, t3, _, t5⟩ := del3_step n hn
      have g4 : Vi (wrap64 ((n : Int) + 1)) ((n + 1 : Nat) : Int) := vi (w_inc (a := n) (b := n + 1) rfl (by omega))
      have HT := Aside0.mk (And.intro t3 t5)
      have b1 : (0 ≤ (n : Int)) = True := eq_true (by omega)
      have b2 : ((n : Int) < ((6 : Nat) : Int)) = True := eq_true (by omega)
      have b3 : ((n : Int) < (6 : Int)) = True := eq_true (by omega)
      have HN := Aside0.mk (And.intro hn1 (And.intro hgg hn))
      clear t3 t5 hn1 hgg
      obtain ⟨p0, p1, p2, _, _, _⟩ := bx_of HK.out.b1
      obtain ⟨z0, f0⟩ := HK.out.r0.at_ hn
      replace HK := Aside0.mk (HK.out.put0 n 3)
      obtain ⟨p3, p4, p5, _, _, _⟩ := bx_of HK.out.b1
      obtain ⟨z1, f1⟩ := HK.out.r1.at_ hn
      replace HK := Aside0.mk (HK.out.put1 n 3)
      obtain ⟨p6, p7, p8, _, _, _⟩ := bx_of HK.out.b2
      obtain ⟨z2, f2⟩ := HK.out.s0.at_ hn
      replace HK := Aside0.mk (HK.out.put3 n 0)
      obtain ⟨p9, p10, p11, _, _, _⟩ := bx_of HK.out.b2
      obtain ⟨z3, f3⟩ := HK.out.s1.at_ hn
      replace HK := Aside0.mk (HK.out.put4 n 0)
      rw [HT.out.1, HT.out.2] at HK
      clear hn
      go_wp2
      obtain ⟨hn1, hgg, hn⟩ := HN.out
      go_roundg (6 - (n + 1))
      case measure => omega
      case rel => exact ⟨n + 1, (by first | rfl | exact g4 | exact (congrArg (Value.int .i64) (i64_w _)).trans g4), by omega, Nat.le_refl _, HK⟩
     ·obtain rfl : n = 6 := by omega
      clear hn hn1 hgg
      rw [rel3_ends.2.2.1, rel3_ends.2.2.2.1, rel3_ends.2.2.2.2.2.2.1, rel3_ends.2.2.2.2.2.2.2] at HK
      obtain ⟨y0, y1, y2, f0, f1, f2⟩ := bx_of HK.out.b1
      go_wp2_with (go_at_call 25; refine (iunit_r _).mono ?_; rintro e w7 ⟨v0, v1, v2, rfl, hc1, hb1⟩; obtain ⟨n0, m0, rfl, _⟩ := hc1.a.form (n := 6) rfl (by decide); obtain ⟨n1, m1, rfl, _⟩ := hc1.b.form (n := 6) rfl (by decide); obtain ⟨n2, m2, rfl, _⟩ := hc1.c.form (n := 36) (by decide) (by decide); have HC1 := Aside0.mk hc1; replace HK := Aside0.mk (HK.out.below hb1); clear hc1 hb1 y0 y1 y2 f0 f1 f2)
      replace HL := Aside0.mk (HL.out.below HK.out.bel)
      refine (root6_v HL.out.ar HC1.out.a HC1.out.b HC1.out.c).mono ?_
      rintro e w8 ⟨rfl, hb⟩
      replace HL := Aside0.mk (HL.out.below hb)
      replace HK := Aside0.mk (HK.out.below hb)
      clear hb HC1
      by_cases hT : trB a = true ∧ trB b = true
      ·have ta := (trB_iff a).1 hT.1
       have tb := (trB_iff b).1 hT.2
       have hd := rdB_unit_ge ta tb
       have H3 := Aside0.mk (rdB_three ta tb)
       have H0 := Aside0.mk (rdB_zero ta tb)
       generalize rdB a b one6 one6 unitRel = dd at hd H3 ⊢
       obtain ⟨d3, hd3⟩ : ∃ d3, d3 = 3 * dd := ⟨_, rfl⟩
       rw [← hd3] at H3
       generalize hrc : rdB a b d i r = rc
       have HRC := Aside0.mk hrc
       have g3 : IntKind.i64.wrap (3 * dd) = d3 := iw (by rw [hd3]; exact wid (by omega) (by omega))
       have j1 : (dd < 0) = False := eq_false (by omega)
       have j2 : (d3 == d3) = true := by simp
       have j3 : ((0 : Int) == 0) = true := by simp
       have j4 : (rc == rc) = true := by simp
       clear hd hd3 hrc hT ta tb
       obtain ⟨y0, y1, y2, f0, f1, f2⟩ := bx_of HK.out.b1
       obtain ⟨y3, y4, y5, f3, f4, f5⟩ := bx_of HK.out.b2
       obtain ⟨y6, y7, y8, f6, f7, f8⟩ := HL.out.box
       go_wp2
       go_region_held3 (fun w' => w'.cell? ⟨kb1, 0, none⟩ = some (.slice (some ⟨g0, 0, none⟩) 6 k0) ∧ w'.cell? ⟨kb1, 1, none⟩ = some (.slice (some ⟨g1, 0, none⟩) 6 k1) ∧ w'.cell? ⟨kb1, 2, none⟩ = some (.slice (some ⟨g2, 0, none⟩) 36 k2) ∧ w'.cell? ⟨kb2, 0, none⟩ = some (.slice (some ⟨h0, 0, none⟩) 6 e0) ∧ w'.cell? ⟨kb2, 1, none⟩ = some (.slice (some ⟨h1, 0, none⟩) 6 e1) ∧ w'.cell? ⟨kb2, 2, none⟩ = some (.slice (some ⟨h2, 0, none⟩) 36 e2) ∧ w'.cell? ⟨kx, 0, none⟩ = some (.slice p.A0 d.length p.c0) ∧ w'.cell? ⟨kx, 1, none⟩ = some (.slice p.A1 i.length p.c1) ∧ w'.cell? ⟨kx, 2, none⟩ = some (.slice p.A2 r.length p.c2)) (first | exact ⟨y0, y1, y2, y3, y4, y5, y6, y7, y8⟩) ((first | (go_at_call 18; ((with_reducible refine (root6_v HL.out.ar HK.out.r0 HK.out.r1 HK.out.r2).mono ?_)); rw [H3.out]; rintro e w9 ⟨rfl, hb⟩; replace HL := Aside0.mk (HL.out.below hb); replace HK := Aside0.mk (HK.out.below hb); clear hb y0 y1 y2 f0 f1 f2 y3 y4 y5 f3 f4 f5 y6 y7 y8 f6 f7 f8; obtain ⟨y0, y1, y2, f0, f1, f2⟩ := bx_of HK.out.b1; obtain ⟨y3, y4, y5, f3, f4, f5⟩ := bx_of HK.out.b2; obtain ⟨y6, y7, y8, f6, f7, f8⟩ := HL.out.box) | (go_at_call 18; ((with_reducible refine (root6_v HL.out.ar HK.out.s0 HK.out.s1 HK.out.s2).mono ?_)); rw [H0.out]; rintro e w10 ⟨rfl, hb⟩; replace HL := Aside0.mk (HL.out.below hb); replace HK := Aside0.mk (HK.out.below hb); clear hb y0 y1 y2 f0 f1 f2 y3 y4 y5 f3 f4 f5 y6 y7 y8 f6 f7 f8; obtain ⟨y0, y1, y2, f0, f1, f2⟩ := bx_of HK.out.b1; obtain ⟨y3, y4, y5, f3, f4, f5⟩ := bx_of HK.out.b2; obtain ⟨y6, y7, y8, f6, f7, f8⟩ := HL.out.box) | (go_at_call 18; ((with_reducible refine (rootDist_v HL.out.ar).mono ?_)); rw [HRC.out]; rintro e w11 ⟨rfl, hb⟩; replace HL := Aside0.mk (HL.out.below hb); replace HK := Aside0.mk (HK.out.below hb); clear hb y0 y1 y2 f0 f1 f2 y3 y4 y5 f3 f4 f5 y6 y7 y8 f6 f7 f8; obtain ⟨y0, y1, y2, f0, f1, f2⟩ := bx_of HK.out.b1; obtain ⟨y3, y4, y5, f3, f4, f5⟩ := bx_of HK.out.b2; obtain ⟨y6, y7, y8, f6, f7, f8⟩ := HL.out.box) | (go_at_call 28; ((with_reducible refine (srd_v HL.out.ar).mono ?_)); rw [HRC.out]; rintro e w12 ⟨rfl, hb⟩; replace HL := Aside0.mk (HL.out.below hb); replace HK := Aside0.mk (HK.out.below hb); clear hb y0 y1 y2 f0 f1 f2 y3 y4 y5 f3 f4 f5 y6 y7 y8 f6 f7 f8; obtain ⟨y0, y1, y2, f0, f1, f2⟩ := bx_of HK.out.b1; obtain ⟨y3, y4, y5, f3, f4, f5⟩ := bx_of HK.out.b2; obtain ⟨y6, y7, y8, f6, f7, f8⟩ := HL.out.box)))
       go_wp2
       go_ret
       exact ⟨rfl, HL.out.bel⟩
      ·have hn := rdB_no (d := one6) (i := one6) (r := unitRel) hT
       rw [hn]
       by_cases ta : trB a = true
       ·have tb : trB b = false := by
         cases hb : trB b with
         | false => rfl
         | true => exact absurd ⟨ta, hb⟩ hT
        clear hn hT
        go_wp2_with (first | (go_at_call 16; ((with_reducible refine (treeA_v HL.out.ar).mono ?_)); rw [ta]; rintro e v1 ⟨rfl, hb⟩; replace HL := Aside0.mk (HL.out.below hb); clear hb) | (go_at_call 16; ((with_reducible refine (treeB_v HL.out.ar).mono ?_)); rw [tb]; rintro e v2 ⟨rfl, hb⟩; replace HL := Aside0.mk (HL.out.below hb); clear hb))
        all_goals (go_ret; exact ⟨rfl, HL.out.bel⟩)
       ·replace ta : trB a = false := by simpa using ta
        clear hn hT
        go_wp2_with (go_at_call 16; ((with_reducible refine (treeA_v HL.out.ar).mono ?_)); rw [ta]; rintro e v1 ⟨rfl, hb⟩; replace HL := Aside0.mk (HL.out.below hb); clear hb)
        all_goals (go_ret; exact ⟨rfl, HL.out.bel⟩)
end Go.Proofs.Ytngphdmbjenkaaa.X
