/- Part 16 of the proof of FnTriangle: what it needs. -/
import Derived.Test.YtngphdmbjenkaaaKLTriangle3
import Derived.Test.YtngphdmbjenkaaaKLTriangle5
import Derived.Test.YtngphdmbjenkaaaKLTriangle9
import Derived.Test.YtngphdmbjenkaaaKLTriangle10
import Derived.Test.YtngphdmbjenkaaaKLTriangle15
namespace Go.Proofs.Ytngphdmbjenkaaa.X
open Go.RowKit Go.Proofs.YtngphdmbjenkaaaW.PrintWords Go.Proofs.YtngphdmbjenkaaaW.PrintLast Go.Proofs.YtngphdmbjenkaaaW.PrintMore Go.Proofs.Ytngphdmbjenkaaa.Q
set_option linter.unusedVariables false
set_option linter.unusedSimpArgs false
abbrev one6 : List Int := List.replicate 6 1
theorem unit_uco : UCo one6 one6 unitRel := by
 refine ⟨costB_iff.1 (by decide), fun x hx => ?_, fun x hx => ?_, fun x y hx hy => ?_⟩
 ·have : ∀ x, x < 6 → one6.getD x 0 = 1 := by decide
  exact this x hx
 ·have : ∀ x, x < 6 → one6.getD x 0 = 1 := by decide
  exact this x hx
 ·have : ∀ x, x < 6 → ∀ y, y < 6 → unitRel.getD (6 * x + y) 0 = if x = y then 0 else 1 := by decide
  exact this x hx y hy
theorem unit_low {a b : List NodeI} (ta : Tr a) (tb : Tr b) : (a.length : Int) - b.length ≤ rootDist a b one6 one6 unitRel ∧ (b.length : Int) - a.length ≤ rootDist a b one6 one6 unitRel ∧ rootDist a b one6 one6 unitRel ≤ (a.length : Int) + b.length - 1 := by
 have a1 := ta.len1
 have b1 := tb.len1
 have h := Ted.root_low (unit_ms ta tb unit_uco) (lfN_lam ta) (lfN_lam tb) (by omega) (by omega) (lfN_last ta) (lfN_last tb)
 have h2 := Ted.root_high (unit_ms ta tb unit_uco) (n := a.length) (m := b.length) (by omega) (by omega)
 exact ⟨h.1, h.2, h2⟩
theorem rdB_unit {a b : List NodeI} (ta : Tr a) (tb : Tr b) : rdB a b one6 one6 unitRel = rootDist a b one6 one6 unitRel := if_pos (okAB_iff.2 ⟨ta, tb, unit_uco.co⟩)
theorem rdB_no {a b : List NodeI} {d i r : List Int} (h : ¬ (trB a = true ∧ trB b = true)) : rdB a b d i r = -1 := by
 refine if_neg (fun hk => h ?_)
 obtain ⟨ta, tb, _⟩ := okAB_iff.1 hk
 exact ⟨(trB_iff _).2 ta, (trB_iff _).2 tb⟩
structure Us (w0 : World) (kx : Nat) (A0 : Option Addr) (c0 : Nat) (A1 : Option Addr) (c1 : Nat) (A2 : Option Addr) (c2 : Nat) (w : World) : Prop where
 bk : w.heap[kx]? = some (.cells #[.slice A0 6 c0, .slice A1 6 c1, .slice A2 36 c2] 27 (0, 0))
 h0 : Kd.C (Kd.int .i64) w A0 6 one6
 k0 : 6 ≤ c0
 h1 : Kd.C (Kd.int .i64) w A1 6 one6
 k1 : 6 ≤ c1
 h2 : Kd.C (Kd.int .i64) w A2 36 unitRel
 k2 : 36 ≤ c2
 bel : Below w0.heap.size w0 w
theorem Us.below {w0 w w' : World} {kx : Nat} {A0 A1 A2 : Option Addr} {c0 c1 c2 : Nat} (h : Us w0 kx A0 c0 A1 c1 A2 c2 w) (k : Below w.heap.size w w') : Us w0 kx A0 c0 A1 c1 A2 c2 w' :=
 ⟨blk_below h.bk k, Kd.C_below h.h0 k, h.k0, Kd.C_below h.h1 k, h.k1, Kd.C_below h.h2 k, h.k2, below_then h.bel h.bel.size k⟩
theorem us_new {w0 w : World} {v0 v1 v2 : Value} {base : Nat} (h : C3 w base v0 v1 v2 one6 one6 unitRel) (hb : Below w0.heap.size w0 w) : ∃ A0 c0 A1 c1 A2 c2, v0 = .slice A0 6 c0 ∧ v1 = .slice A1 6 c1 ∧ v2 = .slice A2 36 c2 ∧
  Us w0 w.heap.size A0 c0 A1 c1 A2 c2 (w.alloc (.cells #[.slice A0 6 c0, .slice A1 6 c1, .slice A2 36 c2] 27)) := by
 obtain ⟨A0, c0, rfl⟩ := Kd.R_slice h.a
 obtain ⟨A1, c1, rfl⟩ := Kd.R_slice h.b
 obtain ⟨A2, c2, rfl⟩ := Kd.R_slice h.c
 obtain ⟨_, k0, r0⟩ := Kd.R_reads' h.a
 obtain ⟨_, k1, r1⟩ := Kd.R_reads' h.b
 obtain ⟨_, k2, r2⟩ := Kd.R_reads' h.c
 have b : Below w.heap.size w (w.alloc (.cells #[.slice A0 6 c0, .slice A1 6 c1, .slice A2 36 c2] 27)) := below_alloc (Below.refl _ _) _
 exact ⟨A0, c0, A1, c1, A2, c2, rfl, rfl, rfl, blk_new _ _, Kd.C_below r0 b, k0, Kd.C_below r1 b, k1, Kd.C_below r2 b, k2, below_then hb hb.size b⟩
theorem Us.ar {w0 w : World} {kx : Nat} {A0 A1 A2 : Option Addr} {c0 c1 c2 : Nat} (h : Us w0 kx A0 c0 A1 c1 A2 c2 w) {Aa Ab : Option Addr} {ca cb : Nat} {a b : List NodeI} (ha : Kd.C k77 w Aa a.length a) (ka : a.length ≤ ca) (la : a.length ≤ 200) (hb : Kd.C k77 w Ab b.length b) (kb : b.length ≤ cb) (lb : b.length ≤ 200) :
  Ar w ⟨Aa, ca, Ab, cb, A0, c0, A1, c1, A2, c2⟩ a b one6 one6 unitRel := ⟨ha, ka, hb, kb, h.h0, h.k0, h.h1, h.k1, h.h2, h.k2, la, lb, by decide, by decide, by decide⟩
end Go.Proofs.Ytngphdmbjenkaaa.X
namespace Go.Proofs.Ytngphdmbjenkaaa.X
open Go.RowKit Go.Proofs.YtngphdmbjenkaaaW.PrintWords Go.Proofs.YtngphdmbjenkaaaW.PrintLast Go.Proofs.YtngphdmbjenkaaaW.PrintMore Go.Proofs.Ytngphdmbjenkaaa.Q
set_option linter.unusedVariables false
set_option linter.unusedSimpArgs false
variable {w W1 : World} {p : Ad} {a b : List NdI} {d i r : List Int}
theorem rootDist_v (h : Ar w p a b d i r) [c : Ch w W1] : Calls Try.prog 18 #[.slice p.Aa a.length p.ca, .slice p.Ab b.length p.cb, .agg #[.slice p.A0 d.length p.c0, .slice p.A1 i.length p.c1, .slice p.A2 r.length p.c2]] W1 fun e w' => e = .returned (.int .i64 (rdB a b d i r)) ∧ Below w.heap.size w w' := by
 obtain ⟨k, hk⟩ := (implRootDist_ev a b d i r).rounds
 have g := h.ch (W' := W1)
 exact (impl_RootDist.calls k p.Aa p.ca a p.Ab p.cb b p.A0 p.c0 d p.A1 p.c1 i p.A2 p.c2 r _ W1 g.ha g.ka g.hb g.kb g.h0 g.k0 g.h1 g.k1 g.h2 g.k2 hk).mono fun e w' ⟨he, hb⟩ => ⟨he, below_step c.out hb⟩
end Go.Proofs.Ytngphdmbjenkaaa.X
namespace Go.Proofs.Ytngphdmbjenkaaa.X
open Go.RowKit Go.Proofs.YtngphdmbjenkaaaW.PrintWords Go.Proofs.YtngphdmbjenkaaaW.PrintLast Go.Proofs.YtngphdmbjenkaaaW.PrintMore Go.Proofs.Ytngphdmbjenkaaa.Q
set_option linter.unusedVariables false
set_option linter.unusedSimpArgs false
theorem rootU_v {w0 w W1 : World} {kx : Nat} {A0 A1 A2 : Option Addr} {c0 c1 c2 : Nat} (h : Us w0 kx A0 c0 A1 c1 A2 c2 w) {Aa Ab : Option Addr} {ca cb : Nat} {a b : List NodeI} (ha : Kd.C k77 w Aa a.length a) (ka : a.length ≤ ca) (la : a.length ≤ 200) (hb : Kd.C k77 w Ab b.length b) (kb : b.length ≤ cb) (lb : b.length ≤ 200) [c : Ch w W1] :
  Calls Try.prog 18 #[.slice Aa a.length ca, .slice Ab b.length cb, .agg #[.slice A0 6 c0, .slice A1 6 c1, .slice A2 36 c2]] W1 fun e w' => e = .returned (.int .i64 (rdB a b one6 one6 unitRel)) ∧ Below w.heap.size w w' := by
 have g := rootDist_v (W1 := W1) (h.ar ha ka la hb kb lb)
 rw [show unitRel.length = 36 by decide, show one6.length = 6 by decide] at g
 exact g
end Go.Proofs.Ytngphdmbjenkaaa.X
namespace Go.Proofs.Ytngphdmbjenkaaa.X
open Go.RowKit Go.Proofs.YtngphdmbjenkaaaW.PrintWords Go.Proofs.YtngphdmbjenkaaaW.PrintLast Go.Proofs.YtngphdmbjenkaaaW.PrintMore Go.Proofs.Ytngphdmbjenkaaa.Q
set_option linter.unusedVariables false
set_option linter.unusedSimpArgs false
theorem fresh_l (c : List Int) (hc : c.length ≤ 1048576) (s : Int) (e : Nat) : ∀ (i : Nat) (out : List Int), i + e = 600 → out.length = i + 1 → ∃ l, Ev (fun k => laws_fresh.l0 k c s out (i : Int)) l ∧ l.length ≤ 601 := by
 induction e with
 | zero =>
  intro i out hi ho
  refine ⟨out, Ev.step (fun _ => rfl) ?_, by omega⟩
  simp only [laws_fresh.l0]
  by_cases h : (i : Int) < (c.length : Int)
  ·exact Ev.ifT h (Ev.ifF (by omega) (Ev.now _))
  ·exact Ev.ifF h (Ev.now _)
 | succ e ih =>
  intro i out hi ho
  by_cases h : (i : Int) < (c.length : Int)
  ·obtain ⟨l, hl, hn⟩ := ih (i + 1) (out ++ [(wrap64 ((wrap64 ((wrap64 (rd c i)) * 3)) + (wrap64 (s * (wrap64 ((Int.tmod i 7) + 1)))))) % 256]) (by omega) (by simp; omega)
   refine ⟨l, Ev.step (fun _ => rfl) ?_, hn⟩
   simp only [laws_fresh.l0]
   rw [wrap_succ (show i < c.length by omega) (by omega)]
   exact Ev.ifT h (Ev.ifT (by omega) (Ev.ifT (by omega) (Ev.ifT (by omega) hl)))
  ·refine ⟨out, Ev.step (fun _ => rfl) ?_, by omega⟩
   simp only [laws_fresh.l0]
   exact Ev.ifF h (Ev.now _)
theorem fresh_v {w W1 : World} {A : Option Addr} {c : Nat} {l : List Int} (hr : Kd.C (Kd.int .u8) w A l.length l) (hc : l.length ≤ c) (hl : l.length ≤ 1048576) (s : Int) [ch : Ch w W1] :
  Calls Try.prog 24 #[.slice A l.length c, .int .i64 s] W1 fun e w' => ∃ (A' : Option Addr) (c' : Nat) (l' : List Int), e = .returned (.slice A' l'.length c') ∧ Kd.C (Kd.int .u8) w' A' l'.length l' ∧ l'.length ≤ c' ∧ l'.length ≤ 1048576 ∧ Below w.heap.size w w' := by
 obtain ⟨l', hl', hn⟩ := fresh_l l hl s 600 0 [s % 256] rfl rfl
 obtain ⟨k, hk⟩ := hl'.rounds
 refine (laws_fresh.calls k A c l s l' W1 (Kd.C_below hr ch.out) hc hk).mono ?_
 rintro e w' ⟨v, rfl, h1, h2⟩
 obtain ⟨A', c', rfl⟩ := Kd.R_slice h1
 obtain ⟨_, k2, r2⟩ := Kd.R_reads' h1
 exact ⟨A', c', l', rfl, r2, k2, by omega, below_step ch.out h2⟩
set_option maxRecDepth 100000 in
set_option maxHeartbeats 2000000 in
theorem laws_FnTriangle.calls (A0 : Option Addr) (c0 : Nat) (l0 : List Int) (w : World) (hr0 : Kd.C (Kd.int .u8) w A0 l0.length l0) (hc0 : l0.length ≤ c0) :
  Calls Try.prog 4 #[.slice A0 l0.length c0] w fun e w' => e = .returned (.bool true) ∧ Below w.heap.size w w' := by
 have HC := Aside0.mk hr0
 clear hr0
 by_cases hbig : (l0.length : Int) > 1048576
 ·have hq : decide ((l0.length : Int) > 1048576) = true := decide_eq_true hbig
  have HV := Aside0.mk (fun W (c : Ch w W) => big_v (W1 := W) HC.out hc0)
  rw [hq] at HV
  clear hq hbig
  go_enter Try.func4, Try.ntmps4
  go_wp2_with (go_at_call 12; refine (HV.out _ inferInstance).mono ?_; rintro e w1 ⟨rfl, hb⟩; have HB := Aside0.mk hb; clear hb)
  go_ret
  exact ⟨rfl, HB.out⟩
 ·have hl : l0.length ≤ 1048576 := by omega
  have hq : decide ((l0.length : Int) > 1048576) = false := decide_eq_false hbig
  have HV := Aside0.mk (fun W (c : Ch w W) => big_v (W1 := W) HC.out hc0)
  rw [hq] at HV
  clear hq hbig
  have hu := Try.underlying27
  go_enter Try.func4, Try.ntmps4
  go_wp2_with (first | (go_at_call 12; refine (HV.out _ inferInstance).mono ?_; rintro e w1 ⟨rfl, hb⟩; have HB := Aside0.mk hb; clear hb) | (go_at_call 23; ((with_reducible refine (DrawTreeDists_r A0 c0 l0 w1 (Kd.C_below HC.out HB.out) hc0 hl).mono ?_)); rintro e w2 hd; obtain ⟨p, a, b, d, i, r, rfl, har, hb⟩ := hd.ar; have HA := Aside0.mk har; replace HB := Aside0.mk (below_step HB.out hb); clear hd har hb) | (go_at_call 24; refine (fresh_v (w := w2) (Kd.C_below HC.out HB.out) hc0 hl 3).mono ?_; rintro e w3 ⟨Af, cf, lf, rfl, hf, hcf, hlf, hb⟩; have HF := Aside0.mk hf; replace HA := Aside0.mk (HA.out.below hb); replace HB := Aside0.mk (below_step HB.out hb); clear hf hb) | (go_at_call 23; ((with_reducible refine (DrawTreeDists_r Af cf lf w3 HF.out hcf hlf).mono ?_)); rintro e w4 hd; obtain ⟨q, d', b', d2, i2, r2, rfl, har, hb⟩ := hd.ar; have HD := Aside0.mk har; replace HA := Aside0.mk (HA.out.below hb); replace HB := Aside0.mk (below_step HB.out hb); clear hd har hb HF) | (go_at_call 25; refine (iunit_r _).mono ?_; rintro e w5 ⟨v0, v1, v2, rfl, hc, hb⟩; replace HA := Aside0.mk ((HA.out.ch).below hb); replace HD := Aside0.mk ((HD.out.ch).below hb); replace HB := Aside0.mk (below_step (below_alloc HB.out _) hb); obtain ⟨B0, k0, B1, k1, B2, k2, rfl, rfl, rfl, hus⟩ := us_new hc HB.out; have HU := Aside0.mk hus; clear hc hb hus))
  obtain ⟨kx, hkx⟩ : ∃ kx, kx = w5.heap.size := ⟨_, rfl⟩
  rw [← hkx] at HU ⊢
  replace HA := Aside0.mk (HA.out.ch (W' := w5.alloc (.cells #[.slice B0 6 k0, .slice B1 6 k1, .slice B2 36 k2] 27)))
  replace HD := Aside0.mk (HD.out.ch (W' := w5.alloc (.cells #[.slice B0 6 k0, .slice B1 6 k1, .slice B2 36 k2] 27)))
  clear hkx HV HC HB
  generalize w5.alloc (.cells #[.slice B0 6 k0, .slice B1 6 k1, .slice B2 36 k2] 27) = w6 at HA HD HU ⊢
  obtain ⟨y0, y1, y2, f0, f1, f2⟩ := bx_of HU.out.bk
  go_wp2_with (first | (go_at_call 18; ((with_reducible refine (rootU_v HU.out HA.out.ha HA.out.ka HA.out.la HA.out.hb HA.out.kb HA.out.lb).mono ?_)); rintro e w7 ⟨rfl, hb⟩; replace HA := Aside0.mk (HA.out.below hb); replace HD := Aside0.mk (HD.out.below hb); replace HU := Aside0.mk (HU.out.below hb); clear hb y0 y1 y2 f0 f1 f2; obtain ⟨y0, y1, y2, f0, f1, f2⟩ := bx_of HU.out.bk) | (go_at_call 18; ((with_reducible refine (rootU_v HU.out HA.out.hb HA.out.kb HA.out.lb HD.out.ha HD.out.ka HD.out.la).mono ?_)); rintro e w8 ⟨rfl, hb⟩; replace HA := Aside0.mk (HA.out.below hb); replace HD := Aside0.mk (HD.out.below hb); replace HU := Aside0.mk (HU.out.below hb); clear hb y0 y1 y2 f0 f1 f2; obtain ⟨y0, y1, y2, f0, f1, f2⟩ := bx_of HU.out.bk))
  refine (rootU_v HU.out HA.out.ha HA.out.ka HA.out.la HD.out.ha HD.out.ka HD.out.la).mono ?_
  rintro e w9 ⟨rfl, hb⟩
  replace HA := Aside0.mk (HA.out.below hb)
  replace HD := Aside0.mk (HD.out.below hb)
  replace HU := Aside0.mk (HU.out.below hb)
  clear hb y0 y1 y2 f0 f1 f2
  by_cases ta : trB a = true
  ·have Ta := (trB_iff a).1 ta
   by_cases tb : trB b = true
   ·have Tb := (trB_iff b).1 tb
    rw [rdB_unit Ta Tb]
    have lx := unit_low Ta Tb
    have al := Ta.len24
    have bl := Tb.len24
    by_cases td : trB d' = true
    ·have Td := (trB_iff d').1 td
     rw [rdB_unit Tb Td, rdB_unit Ta Td]
     have ly := unit_low Tb Td
     have lz := unit_low Ta Td
     have dl := Td.len24
     have tri := rootDist_tri Ta Tb Td unit_uco
     generalize rootDist a b one6 one6 unitRel = x at lx tri ⊢
     generalize rootDist b d' one6 one6 unitRel = y at ly tri ⊢
     generalize rootDist a d' one6 one6 unitRel = z at lz tri ⊢
     obtain ⟨x1, x2, x3⟩ := lx
     have x0 : 0 ≤ x := by omega
     have y0 : 0 ≤ y := by omega
     have z0 : 0 ≤ z := by omega
     have x9 : x ≤ 100 := by omega
     have y9 : y ≤ 100 := by omega
     clear ly lz Ta Tb Td ta tb td
     go_wp2
     all_goals (go_ret; exact ⟨rfl, HU.out.bel⟩)
    ·rw [rdB_no (fun h => td h.2), rdB_no (fun h => td h.2)]
     replace td : trB d' = false := by simpa using td
     generalize rootDist a b one6 one6 unitRel = x at lx ⊢
     have x0 : ¬ x < 0 := by omega
     clear lx Ta Tb
     go_wp2_with (first | (go_at_call 16; ((with_reducible refine (treeOk_v HA.out.ha HA.out.ka HA.out.la rfl).mono ?_)); rw [ta]; rintro e v1 ⟨rfl, hb⟩; replace HA := Aside0.mk (HA.out.below hb); replace HD := Aside0.mk (HD.out.below hb); replace HU := Aside0.mk (HU.out.below hb); clear hb) | (go_at_call 16; ((with_reducible refine (treeOk_v HA.out.hb HA.out.kb HA.out.lb rfl).mono ?_)); rw [tb]; rintro e v2 ⟨rfl, hb⟩; replace HA := Aside0.mk (HA.out.below hb); replace HD := Aside0.mk (HD.out.below hb); replace HU := Aside0.mk (HU.out.below hb); clear hb) | (go_at_call 16; ((with_reducible refine (treeOk_v HD.out.ha HD.out.ka HD.out.la rfl).mono ?_)); rw [td]; rintro e v3 ⟨rfl, hb⟩; replace HA := Aside0.mk (HA.out.below hb); replace HD := Aside0.mk (HD.out.below hb); replace HU := Aside0.mk (HU.out.below hb); clear hb))
     all_goals (go_ret; exact ⟨rfl, HU.out.bel⟩)
   ·rw [rdB_no (fun h => tb h.2)]
    replace tb : trB b = false := by simpa using tb
    clear Ta
    generalize rdB b d' one6 one6 unitRel = y
    generalize rdB a d' one6 one6 unitRel = z
    go_wp2_with (first | (go_at_call 16; ((with_reducible refine (treeOk_v HA.out.ha HA.out.ka HA.out.la rfl).mono ?_)); rw [ta]; rintro e v1 ⟨rfl, hb⟩; replace HA := Aside0.mk (HA.out.below hb); replace HD := Aside0.mk (HD.out.below hb); replace HU := Aside0.mk (HU.out.below hb); clear hb) | (go_at_call 16; ((with_reducible refine (treeOk_v HA.out.hb HA.out.kb HA.out.lb rfl).mono ?_)); rw [tb]; rintro e v2 ⟨rfl, hb⟩; replace HA := Aside0.mk (HA.out.below hb); replace HD := Aside0.mk (HD.out.below hb); replace HU := Aside0.mk (HU.out.below hb); clear hb))
    all_goals (go_ret; exact ⟨rfl, HU.out.bel⟩)
  ·rw [rdB_no (fun h => ta h.1)]
   replace ta : trB a = false := by simpa using ta
   generalize rdB b d' one6 one6 unitRel = y
   generalize rdB a d' one6 one6 unitRel = z
   go_wp2_with (go_at_call 16; ((with_reducible refine (treeOk_v HA.out.ha HA.out.ka HA.out.la rfl).mono ?_)); rw [ta]; rintro e v1 ⟨rfl, hb⟩; replace HA := Aside0.mk (HA.out.below hb); replace HD := Aside0.mk (HD.out.below hb); replace HU := Aside0.mk (HU.out.below hb); clear hb)
   all_goals (go_ret; exact ⟨rfl, HU.out.bel⟩)
end Go.Proofs.Ytngphdmbjenkaaa.X
