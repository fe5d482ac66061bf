/- Part 15 of the proof of FnForests: what it needs. -/
import Derived.Carry
import Derived.Test.YtelglbebffdaaaaKLForests11
import Derived.Test.YtelglbebffdaaaaKLForests14
namespace Go.Proofs.Ytelglbebffdaaaa.X
open Go.RowKit Go.Proofs.YtelglbebffdaaaaW.PrintWords Go.Proofs.YtelglbebffdaaaaW.PrintLast Go.Proofs.YtelglbebffdaaaaW.PrintMore Go.Proofs.Ytelglbebffdaaaa.Q
set_option linter.unusedVariables false
set_option linter.unusedSimpArgs false
theorem row1_of {W : World} {A : Option Addr} {c b n : Nat} {f : Nat → Int} (hn : 0 < n) (hc : n ≤ c) (hb : W.heap.size ≤ b) (h : Kd.C (Kd.int .i64) W A n ((List.range n).map f)) : Row1 W b (.slice A n c) n f := by
 obtain ⟨ad, rfl, h0⟩ := Kd.at_int h 0 (by omega) (by omega)
 refine ⟨ad, c, rfl, hc, ?_, fun p hp => ?_⟩
 ·have := World.block_lt_of_cell? W _ h0
  rw [add_block] at this
  omega
 ·obtain ⟨ad', e, h1⟩ := Kd.at_int h (p : Int) (by omega) (by omega)
  cases e
  rw [Int.toNat_natCast, rd_map hp] at h1
  exact h1
theorem row2_of {W : World} {A : Option Addr} {c b n m : Nat} {f : Nat → Nat → Int} {e : Nat} (hn : 0 < n) (hm : 0 < m) (hc : n ≤ c) (hb : W.heap.size ≤ b) (h : Kd.C (Kd.slice e (Kd.int .i64)) W A n ((List.range n).map fun p => (List.range m).map (f p))) : Row2 W b (.slice A n c) n m f := by
 have key : ∀ p, p < n → ∃ ad u, A = some ad ∧ W.cell? (ad.add p) = some u ∧ Row1 W b u m (f p) := fun p hp => by
  obtain ⟨ad, cs, hA, hlen, hK, hcell⟩ := ReadsRow.get_ h [] (p : Int) (by omega) (by omega)
  obtain ⟨A', c', hcs, hc', hC⟩ := hK
  subst hcs
  have e1 : ((List.range n).map fun p => (List.range m).map (f p)).getD (p : Int).toNat [] = (List.range m).map (f p) := by
   rw [Int.toNat_natCast, List.getD_eq_getElem?_getD, List.getElem?_map, List.getElem?_range hp]; rfl
  rw [e1] at hcell hC hc'
  have hl : ((List.range m).map (f p)).length = m := by simp
  rw [hl] at hcell hC hc'
  have h1 := hcell 0 _ rfl
  refine ⟨ad, _, hA, ?_, row1_of hm hc' hb hC⟩
  have e2 : (p : Int).toNat * (Kd.slice e (Kd.int .i64)).sz + 0 = p := by
   rw [Int.toNat_natCast]
   show p * 1 + 0 = p
   omega
  rw [e2] at h1
  exact h1
 obtain ⟨ad, u, hA, hu, _⟩ := key 0 hn
 subst hA
 refine ⟨ad, c, rfl, hc, ?_, fun p hp => ?_⟩
 ·have := World.block_lt_of_cell? W _ hu
  rw [add_block] at this
  omega
 ·obtain ⟨ad', u', e, h1, h2⟩ := key p hp
  cases e
  exact ⟨u', h1, h2⟩
noncomputable def fdB (a b : List NodeI) (i j k m : Int) (d n r : List Int) : Int :=
 if okAB a b d n r = true ∧ 0 ≤ i ∧ i ≤ j ∧ j ≤ (a.length : Int) ∧ 0 ≤ k ∧ k ≤ m ∧ m ≤ (b.length : Int) then Ted.D (msOf a b d n r) i.toNat j.toNat k.toNat m.toNat else -1
noncomputable def impl_ForestDist.f (q : Nat) (a : List NodeI) (i j : Int) (b : List NodeI) (k m : Int) (d n r : List Int) : Option Int := (impl_measureOf.f q a b d n r).bind fun _ => some (fdB a b i j k m d n r)
theorem impl_ForestDist.ev (a : List NodeI) (i j : Int) (b : List NodeI) (k m : Int) (d n r : List Int) : Ev (fun q => impl_ForestDist.f q a i j b k m d n r) (fdB a b i j k m d n r) := by
 unfold impl_ForestDist.f
 exact Ev.bind (implMeasure_ev a b d n r) (Ev.now _)
theorem Row1.below {b : Nat} {W W1 : World} (h : Below W.heap.size W W1) {v : Value} {n : Nat} {f : Nat → Int} (r : Row1 W b v n f) : Row1 W1 b v n f := by
 obtain ⟨ad, c, e, hc, hb, hp⟩ := r.is
 exact ⟨ad, c, e, hc, hb, fun p hp' => (h.cell (World.block_lt_of_cell? _ _ (hp p hp'))).trans (hp p hp')⟩
theorem Row2.below {b : Nat} {W W1 : World} (h : Below W.heap.size W W1) {v : Value} {n m : Nat} {f : Nat → Nat → Int} (r : Row2 W b v n m f) : Row2 W1 b v n m f := by
 obtain ⟨ad, c, e, hc, hb, hp⟩ := r.is
 refine ⟨ad, c, e, hc, hb, fun p hp' => ?_⟩
 obtain ⟨u, hu, r1⟩ := hp p hp'
 exact ⟨u, (h.cell (World.block_lt_of_cell? _ _ hu)).trans hu, r1.below h⟩
theorem Mea.below {M : Ted.Ms} {A B : Nat} {b : Nat} {W W1 : World} (h : Below W.heap.size W W1) {v : Array Value} (r : Mea M A B W b v) : Mea M A B W1 b v := by
 obtain ⟨v0, v1, v2, v3, v4, v5, v6, e, h2, h3, h4, h5, h6⟩ := r.is
 exact ⟨v0, v1, v2, v3, v4, v5, v6, e, h2.below h, h3.below h, h4.below h, h5.below h, h6.below h⟩
theorem row1_R {W : World} {e base : Nat} {ok : Nat → Prop} {v : Value} {b n : Nat} {f : Nat → Int} (hn : 0 < n) (hb : W.heap.size ≤ b) (h : Kd.R (Kd.int .i64) e W base ok v ((List.range n).map f)) : Row1 W b v n f := by
 obtain ⟨A, c, rfl⟩ := Kd.R_slice h
 obtain ⟨_, h2, h3⟩ := Kd.R_reads' h
 have hl : ((List.range n).map f).length = n := by simp
 rw [hl] at h2 h3 ⊢
 exact row1_of hn h2 hb h3
theorem row2_S {W : World} {e e2 base : Nat} {ok : Nat → Prop} {v : Value} {b n m : Nat} {f : Nat → Nat → Int} (hn : 0 < n) (hm : 0 < m) (hb : W.heap.size ≤ b) (h : Kd.S (Kd.slice e2 (Kd.int .i64)) e W base ok v ((List.range n).map fun p => (List.range m).map (f p))) : Row2 W b v n m f := by
 obtain ⟨A, c, rfl, h2, h3⟩ := Kd.S_reads h
 have hl : ((List.range n).map fun p => (List.range m).map (f p)).length = n := by simp
 rw [hl] at h2 h3 ⊢
 exact row2_of hn hm h2 hb h3
def IsSl (v : Value) : Prop := ∃ A n c, v = .slice A n c
theorem sl_R {e base : Nat} {W : World} {ok : Nat → Prop} {v : Value} {xs : List Int} (h : Kd.R (Kd.int .i64) e W base ok v xs) : IsSl v := by
 obtain ⟨A, c, e⟩ := Kd.R_slice h
 exact ⟨_, _, _, e⟩
theorem mea_ok {q : Nat} {A0 : Option Addr} {c0 : Nat} {a : List NodeI} {A1 : Option Addr} {c1 : Nat} {b : List NodeI} {A2 : Option Addr} {c2 : Nat} {d : List Int} {A3 : Option Addr} {c3 : Nat} {i : List Int} {A4 : Option Addr} {c4 : Nat} {r : List Int} {t : _} {w : World}
  (hr0 : Kd.C k53 w A0 a.length a) (hc0 : a.length ≤ c0) (hr1 : Kd.C k53 w A1 b.length b) (hc1 : b.length ≤ c1) (hr2 : Kd.C (Kd.int .i64) w A2 d.length d) (hc2 : d.length ≤ c2) (hr3 : Kd.C (Kd.int .i64) w A3 i.length i) (hc3 : i.length ≤ c3) (hr4 : Kd.C (Kd.int .i64) w A4 r.length r) (hc4 : r.length ≤ c4)
  (ht : impl_measureOf.f q a b d i r = some t) :
  Calls Try.prog 57 #[.slice A0 a.length c0, .slice A1 b.length c1, .agg #[.slice A2 d.length c2, .slice A3 i.length c3, .slice A4 r.length c4]] w fun e w' =>
   ∃ v0 v1 v2 v3 v4 v5 v6 : Value, e = .returned (.tuple #[.agg #[v0, v1, v2, v3, v4, v5, v6], .bool (okAB a b d i r)]) ∧ Below w.heap.size w w' ∧ (IsSl v0 ∧ IsSl v1 ∧ IsSl v2 ∧ IsSl v3 ∧ IsSl v4 ∧ IsSl v5 ∧ IsSl v6) ∧ (okAB a b d i r = true → ∀ bk, w'.heap.size ≤ bk → Mea (msOf a b d i r) a.length b.length w' bk #[v0, v1, v2, v3, v4, v5, v6]) := by
 have he : t = _ := ev_uniq (Ev.of (impl_measureOf.mono a b d i r) ht) (implMeasure_ev a b d i r)
 obtain ⟨r1, r2, r3, r4, r5, r6, r7, r8⟩ := t
 refine (impl_measureOf.calls q A0 c0 a A1 c1 b A2 c2 d A3 c3 i A4 c4 r r1 r2 r3 r4 r5 r6 r7 r8 w hr0 hc0 hr1 hc1 hr2 hc2 hr3 hc3 hr4 hc4 ht).mono ?_
 rintro e w' ⟨v0, v1, v2, v3, v4, v5, v6, rfl, h0, h1, h2, h3, h4, h5, h6, hb⟩
 have hsl : IsSl v0 ∧ IsSl v1 ∧ IsSl v2 ∧ IsSl v3 ∧ IsSl v4 ∧ IsSl v5 ∧ IsSl v6 := ⟨sl_R h0, sl_R h1, sl_R h2, sl_R h3, sl_R h4, sl_R h5, by obtain ⟨A, c, e, _⟩ := Kd.S_reads h6; exact ⟨_, _, _, e⟩⟩
 by_cases hok : okAB a b d i r = true
 ·rw [if_pos hok] at he
  simp only [Prod.mk.injEq] at he
  obtain ⟨rfl, rfl, rfl, rfl, rfl, rfl, rfl, rfl⟩ := he
  have hok2 := hok
  unfold okAB at hok2
  rw [Bool.and_eq_true, Bool.and_eq_true] at hok2
  have ta := (trB_iff a).1 hok2.1.1
  have tb := (trB_iff b).1 hok2.1.2
  have la := ta.len1
  have lb := tb.len1
  refine ⟨v0, v1, v2, v3, v4, v5, v6, by rw [hok], hb, hsl, fun _ bk hbk => ⟨v0, v1, v2, v3, v4, v5, v6, rfl, ?_, ?_, ?_, ?_, ?_⟩⟩
  ·exact row1_R la hbk h2
  ·exact row1_R lb hbk h3
  ·exact row1_R la hbk h4
  ·exact row1_R lb hbk h5
  ·exact row2_S la lb hbk h6
 ·rw [if_neg hok] at he
  simp only [Prod.mk.injEq] at he
  obtain ⟨rfl, rfl, rfl, rfl, rfl, rfl, rfl, rfl⟩ := he
  have hf : okAB a b d i r = false := by simpa using hok
  exact ⟨v0, v1, v2, v3, v4, v5, v6, by rw [hf], hb, hsl, fun h => absurd h hok⟩
attribute [local go_sem] run_makeMap
set_option maxHeartbeats 4000000 in
set_option maxRecDepth 100000 in
theorem impl_ForestDist.calls (q : Nat) (A0 : Option Addr) (c0 : Nat) (l0 : List NodeI) (l1 l2 : Int) (A3 : Option Addr) (c3 : Nat) (l3 : List NodeI) (l4 l5 : Int) (A6 : Option Addr) (c6 : Nat) (d : List Int) (A7 : Option Addr) (c7 : Nat) (n : List Int) (A8 : Option Addr) (c8 : Nat) (r : List Int) (res : Int) (w : World)
  (hr0 : Kd.C k53 w A0 l0.length l0) (hc0 : l0.length ≤ c0) (hr3 : Kd.C k53 w A3 l3.length l3) (hc3 : l3.length ≤ c3) (hr6 : Kd.C (Kd.int .i64) w A6 d.length d) (hc6 : d.length ≤ c6) (hr7 : Kd.C (Kd.int .i64) w A7 n.length n) (hc7 : n.length ≤ c7) (hr8 : Kd.C (Kd.int .i64) w A8 r.length r) (hc8 : r.length ≤ c8)
  (h : impl_ForestDist.f q l0 l1 l2 l3 l4 l5 d n r = some res) :
  Calls Try.prog 17 #[.slice A0 l0.length c0, .int .i64 l1, .int .i64 l2, .slice A3 l3.length c3, .int .i64 l4, .int .i64 l5, .agg #[.slice A6 d.length c6, .slice A7 n.length c7, .slice A8 r.length c8]] w fun e w' => e = .returned (.int .i64 res) ∧ Below w.heap.size w w' := by
 unfold impl_ForestDist.f at h
 obtain ⟨t, ht, h⟩ := Option.bind_eq_some_iff.mp h
 obtain rfl := Option.some.inj h
 clear h
 have HM : Aside0 (∀ W, Below w.heap.size w W → _) := ⟨fun W hb => mea_ok (Kd.C_below hr0 hb) hc0 (Kd.C_below hr3 hb) hc3 (Kd.C_below hr6 hb) hc6 (Kd.C_below hr7 hb) hc7 (Kd.C_below hr8 hb) hc8 ht⟩
 clear hr0 hc0 hr3 hc3 hr6 hc6 hr7 hc7 hr8 hc8 ht
 by_cases hok : okAB l0 l3 d n r = true ∧ 0 ≤ l1 ∧ l1 ≤ l2 ∧ l2 ≤ (l0.length : Int) ∧ 0 ≤ l4 ∧ l4 ≤ l5 ∧ l5 ≤ (l3.length : Int)
 ·have HV := Aside0.mk (show fdB l0 l3 l1 l2 l4 l5 d n r = Ted.D (msOf l0 l3 d n r) l1.toNat l2.toNat l4.toNat l5.toNat from if_pos hok)
  obtain ⟨ho, h1, h2, h3, h4, h5, h6⟩ := hok
  have HOK := Aside0.mk ho
  rw [ho] at HM
  obtain ⟨i, rfl⟩ := Int.eq_ofNat_of_zero_le h1
  obtain ⟨j, rfl⟩ := Int.eq_ofNat_of_zero_le (Int.le_trans h1 h2)
  obtain ⟨k, rfl⟩ := Int.eq_ofNat_of_zero_le h4
  obtain ⟨m, rfl⟩ := Int.eq_ofNat_of_zero_le (Int.le_trans h4 h5)
  have z1 : ¬ (i : Int) < 0 := by omega
  have z2 : ¬ (j : Int) < (i : Int) := by omega
  have z3 : ¬ (l0.length : Int) < (j : Int) := by omega
  have z4 : ¬ (k : Int) < 0 := by omega
  have z5 : ¬ (m : Int) < (k : Int) := by omega
  have z6 : ¬ (l3.length : Int) < (m : Int) := by omega
  go_enter Try.func17, Try.ntmps17
  go_wp2_with (first | (go_at_call 57; refine (HM.out _ ((Below.refl _ _).alloc (Nat.le_refl _) _)).mono ?_; rintro e w6 ⟨v0, v1, v2, v3, v4, v5, v6, rfl, hb, ⟨⟨a0, n0, e0, rfl⟩, ⟨a1, n1, e1, rfl⟩, ⟨a2, n2, e2, rfl⟩, ⟨a3, n3, e3, rfl⟩, ⟨a4, n4, e4, rfl⟩, ⟨a5, n5, e5, rfl⟩, ⟨a6, n6, e6, rfl⟩⟩, hmea⟩))
  have hol0 : okAB l0 l3 d n r = true := HOK.out
  have hok2 := hol0
  unfold okAB at hok2
  rw [Bool.and_eq_true, Bool.and_eq_true] at hok2
  have ta := (trB_iff l0).1 hok2.1.1
  have tb := (trB_iff l3).1 hok2.1.2
  have hB6 := Aside0.mk (((Below.refl w.heap.size w).alloc (Nat.le_refl _) (.cells #[.slice A6 d.length c6, .slice A7 n.length c7, .slice A8 r.length c8] 31)).trans (hb.mono (by simp)))
  have hMemo := Memo.start (msOf l0 l3 d n r) (w6.alloc (Obj.cells #[.slice a0 n0 e0, .slice a1 n1 e1, .slice a2 n2 e2, .slice a3 n3 e3, .slice a4 n4 e4, .slice a5 n5 e5, .slice a6 n6 e6] 70))
  have hsz : (w6.alloc (Obj.cells #[.slice a0 n0 e0, .slice a1 n1 e1, .slice a2 n2 e2, .slice a3 n3 e3, .slice a4 n4 e4, .slice a5 n5 e5, .slice a6 n6 e6] 70)).heap.size = w6.heap.size + 1 := by simp
  rw [hsz] at hMemo
  have hMea := (hmea trivial (w6.heap.size + 1) (by omega)).below (((Below.refl w6.heap.size w6).alloc (Nat.le_refl _) (Obj.cells #[.slice a0 n0 e0, .slice a1 n1 e1, .slice a2 n2 e2, .slice a3 n3 e3, .slice a4 n4 e4, .slice a5 n5 e5, .slice a6 n6 e6] 70)).alloc (by simp) (.map #[] 0))
  refine (forest_calls (msOf_small (costB_iff.1 hok2.2)) ta.len24 tb.len24 (fun p hp => lfN_le ta hp) (fun p hp => lfN_le tb hp) _ i j k m rfl (by omega) (by omega) (by omega) (by omega) _ _ _ [] hMea hMemo).mono ?_
  rintro e w9 ⟨rfl, hol, _⟩
  go_wp2
  go_ret
  refine ⟨by rw [HV.out]; simp only [Int.toNat_natCast]; rfl, hB6.out.trans ?_⟩
  refine Below.mono ?_ (show w.heap.size ≤ w6.heap.size from hB6.out.size)
  refine (((Below.refl w6.heap.size w6).alloc (Nat.le_refl _) _).alloc (by simp) _).trans ⟨hol.os, hol.tape, hol.output, hol.size, fun x hx => hol.block x (by simp; omega) (by simp; omega)⟩
 ·have HV : fdB l0 l3 l1 l2 l4 l5 d n r = -1 := if_neg hok
  rw [HV]
  have hcase : okAB l0 l3 d n r = false ∨ (okAB l0 l3 d n r = true ∧ l1 < 0) ∨ (okAB l0 l3 d n r = true ∧ ¬ l1 < 0 ∧ l2 < l1) ∨ (okAB l0 l3 d n r = true ∧ ¬ l1 < 0 ∧ ¬ l2 < l1 ∧ (l0.length : Int) < l2) ∨ (okAB l0 l3 d n r = true ∧ ¬ l1 < 0 ∧ ¬ l2 < l1 ∧ ¬ (l0.length : Int) < l2 ∧ l4 < 0) ∨
    (okAB l0 l3 d n r = true ∧ ¬ l1 < 0 ∧ ¬ l2 < l1 ∧ ¬ (l0.length : Int) < l2 ∧ ¬ l4 < 0 ∧ l5 < l4) ∨ (okAB l0 l3 d n r = true ∧ ¬ l1 < 0 ∧ ¬ l2 < l1 ∧ ¬ (l0.length : Int) < l2 ∧ ¬ l4 < 0 ∧ ¬ l5 < l4 ∧ (l3.length : Int) < l5) := by
   cases ho : okAB l0 l3 d n r with
   | false => exact Or.inl rfl
   | true =>
    rw [ho] at hok
    simp only [true_and, Bool.true_eq_false, false_or] at hok ⊢
    omega
  clear hok HV
  rcases hcase with ho | ⟨ho, z1⟩ | ⟨ho, z1, z2⟩ | ⟨ho, z1, z2, z3⟩ | ⟨ho, z1, z2, z3, z4⟩ | ⟨ho, z1, z2, z3, z4, z5⟩ | ⟨ho, z1, z2, z3, z4, z5, z6⟩
  all_goals
   rw [ho] at HM
   clear ho
   go_enter Try.func17, Try.ntmps17
   go_wp2_with (first | (go_at_call 57; refine (HM.out _ ((Below.refl _ _).alloc (Nat.le_refl _) _)).mono ?_; rintro e w6 ⟨v0, v1, v2, v3, v4, v5, v6, rfl, hb, ⟨⟨a0, n0, e0, rfl⟩, ⟨a1, n1, e1, rfl⟩, ⟨a2, n2, e2, rfl⟩, ⟨a3, n3, e3, rfl⟩, ⟨a4, n4, e4, rfl⟩, ⟨a5, n5, e5, rfl⟩, ⟨a6, n6, e6, rfl⟩⟩, hmea⟩))
   go_ret
   have hB6 := ((Below.refl w.heap.size w).alloc (Nat.le_refl _) (.cells #[.slice A6 d.length c6, .slice A7 n.length c7, .slice A8 r.length c8] 31)).trans (hb.mono (by simp))
   exact ⟨rfl, hB6.trans (((Below.refl w6.heap.size w6).alloc (Nat.le_refl _) _).mono hB6.size)⟩
end Go.Proofs.Ytelglbebffdaaaa.X
namespace Go.Proofs.Ytelglbebffdaaaa.X
open Go.RowKit Go.Proofs.YtelglbebffdaaaaW.PrintWords Go.Proofs.YtelglbebffdaaaaW.PrintLast Go.Proofs.YtelglbebffdaaaaW.PrintMore Go.Proofs.Ytelglbebffdaaaa.Q
set_option linter.unusedVariables false
set_option linter.unusedSimpArgs false
theorem Row1.congr {W : World} {b n : Nat} {v : Value} {f g : Nat → Int} (h : Row1 W b v n f) (e : ∀ p, p < n → f p = g p) : Row1 W b v n g := by
 obtain ⟨ad, c, h1, h2, h3, h4⟩ := h.is
 exact ⟨ad, c, h1, h2, h3, fun p hp => by rw [← e p hp]; exact h4 p hp⟩
theorem list_getD (l : List Int) : (List.range l.length).map (fun x => l.getD x 0) = l := by
 apply List.ext_getElem?
 intro j
 by_cases h : j < l.length
 ·rw [List.getElem?_map, List.getElem?_range h, Option.map_some, List.getD_eq_getElem?_getD, List.getElem?_eq_getElem h]; rfl
 ·rw [List.getElem?_eq_none (by simp; omega), List.getElem?_eq_none (by omega)]
theorem row1_list {W : World} {A : Option Addr} {c b n : Nat} {l : List Int} (hl : l.length = n) (hn : 0 < n) (hc : n ≤ c) (hb : W.heap.size ≤ b) (h : Kd.C (Kd.int .i64) W A l.length l) : Row1 W b (.slice A l.length c) n (fun x => l.getD x 0) := by
 subst hl
 refine row1_of hn hc hb ?_
 rw [list_getD]
 exact h
theorem kn_start {M : Ted.Ms} {A B : Nat} {W : World} {b : Nat} (h : W.heap[b]? = some (.cells (nums .i64 (List.replicate (ksz A B) 0)).toArray 3 (0, 0))) : Kn M A B W b := by
 refine ⟨_, h, by simp, fun i j k m h1 h2 h3 h4 => Or.inl ?_⟩
 rw [List.getD_eq_getElem?_getD, List.getElem?_replicate]
 split <;> rfl
theorem mem_start {a b : List NodeI} {d n r : List Int} (ta : Tr a) (tb : Tr b) (hc : Co d n r) {w W : World} {A2 A3 A4 : Option Addr} {c2 c3 c4 g bk : Nat} {v0 v1 v2 v3 : Value} (hB : Below w.heap.size w W) (hgb : g ≠ bk) (hbk : w.heap.size ≤ bk)
  (hblk : W.heap[g]? = some (.cells #[v0, v1, v2, v3, .slice (some ⟨bk, 0, none⟩) (ksz a.length b.length) (ksz a.length b.length), .slice A2 d.length c2, .slice A3 n.length c3, .slice A4 r.length c4] 100 (0, 0)))
  (h0 : Row1 W bk v0 a.length (fun x => lab a (nodeN a x))) (h1 : Row1 W bk v1 b.length (fun x => lab b (nodeN b x))) (h2 : Row1 W bk v2 a.length (fun x => (lfN a x : Int))) (h3 : Row1 W bk v3 b.length (fun x => (lfN b x : Int)))
  (hr2 : Kd.C (Kd.int .i64) w A2 d.length d) (hc2 : d.length ≤ c2) (hr3 : Kd.C (Kd.int .i64) w A3 n.length n) (hc3 : n.length ≤ c3) (hr4 : Kd.C (Kd.int .i64) w A4 r.length r) (hc4 : r.length ≤ c4) :
  Mem (msOf a b d n r) a.length b.length (fun p => (lab a (nodeN a p)).toNat) (fun q => (lab b (nodeN b q)).toNat) W bk g := by
 have la : ∀ p, p < a.length → 0 ≤ lab a (nodeN a p) ∧ lab a (nodeN a p) ≤ 5 := fun p hp => ⟨(ta.chk _ (nodeN_lt ta hp)).l0, (ta.chk _ (nodeN_lt ta hp)).l5⟩
 have lb : ∀ p, p < b.length → 0 ≤ lab b (nodeN b p) ∧ lab b (nodeN b p) ≤ 5 := fun p hp => ⟨(tb.chk _ (nodeN_lt tb hp)).l0, (tb.chk _ (nodeN_lt tb hp)).l5⟩
 have hd := hc.dl
 have hi := hc.il
 have hr := hc.rl
 refine ⟨v0, v1, v2, v3, _, _, _, hblk, hgb, h0.congr fun p hp => ?_, h1.congr fun p hp => ?_, h2, h3, fun x => d.getD x 0, fun x => n.getD x 0, fun x => r.getD x 0, (row1_list hd (by omega) (by omega) hbk hr2).below hB, (row1_list hi (by omega) (by omega) hbk hr3).below hB, (row1_list hr (by omega) (by omega) hbk hr4).below hB, fun p hp => ⟨?_, rfl⟩, fun p hp => ⟨?_, rfl⟩, fun p q hp hq => rfl⟩
 ·have := la p hp; omega
 ·have := lb p hp; omega
 ·have := la p hp; omega
 ·have := lb p hp; omega
noncomputable def preF (q : Nat) (a b : List NodeI) (d n r : List Int) : Option Bool :=
 if Fit a b d n r then (spec_l8Three.f q a b d n r).bind fun t => if t = true then (spec_l8Labels.f q a).bind fun _ => (spec_l8Labels.f q b).bind fun _ => (spec_LeftLeaf.f q a).bind fun _ => (spec_LeftLeaf.f q b).bind fun _ => some true else some false else none
theorem preF_ev {a b : List NodeI} {d n r : List Int} (h : Fit a b d n r) : Ev (fun k => preF k a b d n r) (okAB a b d n r) := by
 unfold preF
 refine Ev.ifT h (Ev.bind (specThree_ev h) ?_)
 cases ho : okAB a b d n r with
 | false => exact Ev.ifF (by simp) (Ev.now _)
 | true =>
  obtain ⟨ta, tb, _⟩ := okAB_iff.1 ho
  exact Ev.ifT rfl (Ev.bind (specLabels_ev ta) (Ev.bind (specLabels_ev tb) (Ev.bind (specLeftLeaf_ev ta) (Ev.bind (specLeftLeaf_ev tb) (Ev.now _)))))
theorem preF_told {q : Nat} {a b : List NodeI} {d n r : List Int} {t : Bool} (h : preF q a b d n r = some t) : spec_l8Three.f q a b d n r = some t ∧ t = okAB a b d n r ∧
  (t = true → spec_l8Labels.f q a = some (labL a) ∧ spec_l8Labels.f q b = some (labL b) ∧ spec_LeftLeaf.f q a = some (lfL a) ∧ spec_LeftLeaf.f q b = some (lfL b)) := by
 unfold preF at h
 by_cases hf : Fit a b d n r
 ·rw [if_pos hf] at h
  obtain ⟨u, hu, h⟩ := Option.bind_eq_some_iff.mp h
  have eu : u = okAB a b d n r := ev_uniq (Ev.of (spec_l8Three.mono a b d n r) hu) (specThree_ev hf)
  by_cases c : u = true
  ·rw [if_pos c] at h
   obtain ⟨x1, h1, h⟩ := Option.bind_eq_some_iff.mp h
   obtain ⟨x2, h2, h⟩ := Option.bind_eq_some_iff.mp h
   obtain ⟨x3, h3, h⟩ := Option.bind_eq_some_iff.mp h
   obtain ⟨x4, h4, h⟩ := Option.bind_eq_some_iff.mp h
   obtain rfl := Option.some.inj h
   obtain ⟨ta, tb, _⟩ := okAB_iff.1 (eu.symm.trans c)
   refine ⟨by rw [hu, c], by rw [← eu, c], fun _ => ⟨?_, ?_, ?_, ?_⟩⟩
   ·rw [h1, ev_uniq (Ev.of (spec_l8Labels.mono a) h1) (specLabels_ev ta)]
   ·rw [h2, ev_uniq (Ev.of (spec_l8Labels.mono b) h2) (specLabels_ev tb)]
   ·rw [h3, ev_uniq (Ev.of (spec_LeftLeaf.mono a) h3) (specLeftLeaf_ev ta)]
   ·rw [h4, ev_uniq (Ev.of (spec_LeftLeaf.mono b) h4) (specLeftLeaf_ev tb)]
  ·rw [if_neg c] at h
   obtain rfl := Option.some.inj h
   have e : u = false := by simpa using c
   subst e
   exact ⟨hu, eu, fun h => by cases h⟩
 ·rw [if_neg hf] at h; cases h
noncomputable def spec_ForestDist.f (q : Nat) (a : List NodeI) (i j : Int) (b : List NodeI) (k m : Int) (d n r : List Int) : Option Int := (preF q a b d n r).bind fun _ => some (fdB a b i j k m d n r)
theorem spec_ForestDist.ev {a b : List NodeI} {d n r : List Int} (h : Fit a b d n r) (i j k m : Int) : Ev (fun q => spec_ForestDist.f q a i j b k m d n r) (fdB a b i j k m d n r) := by
 unfold spec_ForestDist.f
 exact Ev.bind (preF_ev h) (Ev.now _)
noncomputable def spec_SlowDist.f (q : Nat) (a b : List NodeI) (d n r : List Int) : Option Int := (preF q a b d n r).bind fun _ => some (rdB a b d n r)
theorem spec_SlowDist.ev {a b : List NodeI} {d n r : List Int} (h : Fit a b d n r) : Ev (fun q => spec_SlowDist.f q a b d n r) (rdB a b d n r) := by
 unfold spec_SlowDist.f
 exact Ev.bind (preF_ev h) (Ev.now _)
theorem NS.start' {w : World} {ty : TypeId} (x0 x1 x2 : Value) : NS w w.heap.size x0 x1 x2 (w.alloc (.cells #[x0, x1, x2] ty)) :=
 have h : (w.alloc (.cells #[x0, x1, x2] ty)).heap[w.heap.size]? = some (.cells #[x0, x1, x2] ty (0, 0)) := (MapKept.heap_alloc w _).1
 ⟨(blk_cell h 0).trans rfl, (blk_cell h 1).trans rfl, (blk_cell h 2).trans rfl, below_alloc (Below.refl _ _) _⟩
theorem l1In_t {a b c : Int} (h1 : b ≤ a) (h2 : a ≤ c) : spec_l1In.f a b c = some true := by
 rw [l1In_eq]; congr 1; exact decide_eq_true ⟨h1, h2⟩
theorem l1In_f {a b c : Int} (h : ¬ (b ≤ a ∧ a ≤ c)) : spec_l1In.f a b c = some false := by
 rw [l1In_eq]; congr 1; exact decide_eq_false h
theorem below_only {w W W1 : World} {b : Nat} (h : Below w.heap.size w W) (hb : w.heap.size ≤ b) (k : Only b W W1) : Below w.heap.size w W1 :=
 ⟨k.os.trans h.os, k.tape.trans h.tape, k.output.trans h.output, Nat.le_trans h.size k.size, fun x hx => (k.block x (Nat.lt_of_lt_of_le hx h.size) (by simp; omega)).trans (h.block x hx)⟩
set_option maxHeartbeats 4000000 in
set_option maxRecDepth 100000 in
theorem spec_ForestDist.calls (q : Nat) (A0 : Option Addr) (c0 : Nat) (l0 : List NodeI) (l1 l2 : Int) (A3 : Option Addr) (c3 : Nat) (l3 : List NodeI) (l4 l5 : Int) (A6 : Option Addr) (c6 : Nat) (d : List Int) (A7 : Option Addr) (c7 : Nat) (n : List Int) (A8 : Option Addr) (c8 : Nat) (r : List Int) (res : Int) (w : World)
  (hr0 : Kd.C k53 w A0 l0.length l0) (hc0 : l0.length ≤ c0) (hr3 : Kd.C k53 w A3 l3.length l3) (hc3 : l3.length ≤ c3) (hr6 : Kd.C (Kd.int .i64) w A6 d.length d) (hc6 : d.length ≤ c6) (hr7 : Kd.C (Kd.int .i64) w A7 n.length n) (hc7 : n.length ≤ c7) (hr8 : Kd.C (Kd.int .i64) w A8 r.length r) (hc8 : r.length ≤ c8)
  (h : spec_ForestDist.f q l0 l1 l2 l3 l4 l5 d n r = some res) :
  Calls Try.prog 14 #[.slice A0 l0.length c0, .int .i64 l1, .int .i64 l2, .slice A3 l3.length c3, .int .i64 l4, .int .i64 l5, .agg #[.slice A6 d.length c6, .slice A7 n.length c7, .slice A8 r.length c8]] w fun e w' => e = .returned (.int .i64 res) ∧ Below w.heap.size w w' := by
 unfold spec_ForestDist.f at h
 obtain ⟨t, ht, h⟩ := Option.bind_eq_some_iff.mp h
 obtain rfl := Option.some.inj h
 clear h
 obtain ⟨hth, eok, hpre⟩ := preF_told ht
 have HT : Aside0 (∀ W, Below w.heap.size w W → _) := ⟨fun W hb => spec_l8Three.calls q A0 c0 l0 A3 c3 l3 A6 c6 d A7 c7 n A8 c8 r t W (Kd.C_below hr0 hb) hc0 (Kd.C_below hr3 hb) hc3 (Kd.C_below hr6 hb) hc6 (Kd.C_below hr7 hb) hc7 (Kd.C_below hr8 hb) hc8 hth⟩
 clear ht hth
 have HN := Aside0.mk (NS.start' (w := w) (ty := 31) (.slice A6 d.length c6) (.slice A7 n.length c7) (.slice A8 r.length c8))
 by_cases hok : okAB l0 l3 d n r = true ∧ 0 ≤ l1 ∧ l1 ≤ l2 ∧ l2 ≤ (l0.length : Int) ∧ 0 ≤ l4 ∧ l4 ≤ l5 ∧ l5 ≤ (l3.length : Int)
 ·have HV := Aside0.mk (show fdB l0 l3 l1 l2 l4 l5 d n r = Ted.D (msOf l0 l3 d n r) l1.toNat l2.toNat l4.toNat l5.toNat from if_pos hok)
  obtain ⟨ho, h1, h2, h3, h4, h5, h6⟩ := hok
  obtain rfl : t = true := eok.trans ho
  obtain ⟨p1, p2, p3, p4⟩ := hpre rfl
  obtain ⟨ta, tb, hco⟩ := okAB_iff.1 ho
  obtain ⟨i, rfl⟩ := Int.eq_ofNat_of_zero_le h1
  obtain ⟨j, rfl⟩ := Int.eq_ofNat_of_zero_le (Int.le_trans h1 h2)
  obtain ⟨k, rfl⟩ := Int.eq_ofNat_of_zero_le h4
  obtain ⟨m, rfl⟩ := Int.eq_ofNat_of_zero_le (Int.le_trans h4 h5)
  have I1 := Aside0.mk (l1In_t h1 h2)
  have I2 := Aside0.mk (l1In_t h4 h5)
  have hij : i ≤ j := by omega
  have hja : j ≤ l0.length := by omega
  have hkm : k ≤ m := by omega
  have hmb : m ≤ l3.length := by omega
  have z3 : ¬ (l0.length : Int) < (j : Int) := by omega
  have z6 : ¬ (l3.length : Int) < (m : Int) := by omega
  have HNEW : Aside0 (∀ W, Below w.heap.size w W → _) := ⟨fun W hb => l9New_calls q A0 c0 l0 A3 c3 l3 A6 c6 d A7 c7 n A8 c8 r _ _ _ _ W ta.len1 tb.len1 ta.len24 tb.len24 (Kd.C_below hr0 hb) hc0 (Kd.C_below hr3 hb) hc3 p1 p2 p3 p4⟩
  clear p1 p2 p3 p4 h1 h2 h3 h4 h5 h6 eok hpre ho
  go_enter Try.func14, Try.ntmps14
  go_wp2_with (first | (go_at_call 51; refine (HT.out _ HN.out.bel).mono ?_; rintro e w6 ⟨rfl, hb⟩; replace HN := Aside0.mk (HN.out.step hb); clear hb) | (go_at_call 52; with_reducible refine (spec_l1In.calls (i : Int) 0 (j : Int) true _ I1.out).mono ?_; rintro e w7 ⟨rfl, hd⟩; replace HN := Aside0.mk (HN.out.step hd.below); clear hd) | (go_at_call 52; with_reducible refine (spec_l1In.calls (k : Int) 0 (m : Int) true _ I2.out).mono ?_; rintro e w8 ⟨rfl, hd⟩; replace HN := Aside0.mk (HN.out.step hd.below); have y0 := HN.out.c0; have y1 := HN.out.c1; have y2 := HN.out.c2; clear hd) | (go_at_call 54; refine (HNEW.out _ HN.out.bel).mono ?_; rintro e w9 ⟨g, bk, rfl, hb, hgb, hbk, hkn, v0, v1, v2, v3, hblk, e0, e1, e2, e3⟩; have hsz := HN.out.bel.size; replace HN := Aside0.mk (HN.out.step hb); have HM := Aside0.mk (mem_start ta tb hco HN.out.bel hgb (Nat.le_trans hsz hbk) hblk e0 e1 e2 e3 hr6 hc6 hr7 hc7 hr8 hc8); have HK := Aside0.mk (kn_start (M := msOf l0 l3 d n r) hkn); have HBK := Aside0.mk (Nat.le_trans hsz hbk); clear hb hgb hbk hkn hblk e0 e1 e2 e3 hsz))
  refine (dist_calls (msOf_small hco) ta.len24 tb.len24 (fun p hp => lfN_le ta hp) (fun p hp => lfN_le tb hp) _ i j k m rfl hij hja hkm hmb _ _ _ HM.out HK.out).mono ?_
  rintro e w10 ⟨rfl, hol, _⟩
  go_wp2
  go_ret
  exact ⟨by rw [HV.out]; simp only [Int.toNat_natCast]; rfl, below_only HN.out.bel HBK.out hol⟩
 ·have HV : fdB l0 l3 l1 l2 l4 l5 d n r = -1 := if_neg hok
  rw [HV]
  have hcase : okAB l0 l3 d n r = false ∨ (okAB l0 l3 d n r = true ∧ ¬ (0 ≤ l1 ∧ l1 ≤ l2)) ∨ (okAB l0 l3 d n r = true ∧ (0 ≤ l1 ∧ l1 ≤ l2) ∧ (l0.length : Int) < l2) ∨ (okAB l0 l3 d n r = true ∧ (0 ≤ l1 ∧ l1 ≤ l2) ∧ ¬ (l0.length : Int) < l2 ∧ ¬ (0 ≤ l4 ∧ l4 ≤ l5)) ∨ (okAB l0 l3 d n r = true ∧ (0 ≤ l1 ∧ l1 ≤ l2) ∧ ¬ (l0.length : Int) < l2 ∧ (0 ≤ l4 ∧ l4 ≤ l5) ∧ (l3.length : Int) < l5) := by
   cases ho : okAB l0 l3 d n r with
   | false => exact Or.inl rfl
   | true =>
    rw [ho] at hok
    simp only [true_and, Bool.true_eq_false, false_or] at hok ⊢
    omega
  clear hok HV hpre
  rcases hcase with ho | ⟨ho, z1⟩ | ⟨ho, z1, z3⟩ | ⟨ho, z1, z3, z4⟩ | ⟨ho, z1, z3, z4, z6⟩
  ·obtain rfl : t = false := eok.trans ho
   clear ho eok
   go_enter Try.func14, Try.ntmps14
   go_wp2_with (first | (go_at_call 51; refine (HT.out _ HN.out.bel).mono ?_; rintro e w6 ⟨rfl, hb⟩; replace HN := Aside0.mk (HN.out.step hb); clear hb))
   go_ret
   exact ⟨rfl, HN.out.bel⟩
  ·obtain rfl : t = true := eok.trans ho
   have I1 := Aside0.mk (l1In_f z1)
   clear ho eok z1
   go_enter Try.func14, Try.ntmps14
   go_wp2_with (first | (go_at_call 51; refine (HT.out _ HN.out.bel).mono ?_; rintro e w6 ⟨rfl, hb⟩; replace HN := Aside0.mk (HN.out.step hb); clear hb) | (go_at_call 52; with_reducible refine (spec_l1In.calls l1 0 l2 false _ I1.out).mono ?_; rintro e w7 ⟨rfl, hd⟩; replace HN := Aside0.mk (HN.out.step hd.below); clear hd))
   go_ret
   exact ⟨rfl, HN.out.bel⟩
  ·obtain rfl : t = true := eok.trans ho
   have I1 := Aside0.mk (l1In_t z1.1 z1.2)
   clear ho eok z1
   go_enter Try.func14, Try.ntmps14
   go_wp2_with (first | (go_at_call 51; refine (HT.out _ HN.out.bel).mono ?_; rintro e w6 ⟨rfl, hb⟩; replace HN := Aside0.mk (HN.out.step hb); clear hb) | (go_at_call 52; with_reducible refine (spec_l1In.calls l1 0 l2 true _ I1.out).mono ?_; rintro e w7 ⟨rfl, hd⟩; replace HN := Aside0.mk (HN.out.step hd.below); clear hd))
   go_ret
   exact ⟨rfl, HN.out.bel⟩
  ·obtain rfl : t = true := eok.trans ho
   have I1 := Aside0.mk (l1In_t z1.1 z1.2)
   have I2 := Aside0.mk (l1In_f z4)
   clear ho eok z1 z4
   go_enter Try.func14, Try.ntmps14
   go_wp2_with (first | (go_at_call 51; refine (HT.out _ HN.out.bel).mono ?_; rintro e w6 ⟨rfl, hb⟩; replace HN := Aside0.mk (HN.out.step hb); clear hb) | (go_at_call 52; with_reducible refine (spec_l1In.calls l1 0 l2 true _ I1.out).mono ?_; rintro e w7 ⟨rfl, hd⟩; replace HN := Aside0.mk (HN.out.step hd.below); clear hd) | (go_at_call 52; with_reducible refine (spec_l1In.calls l4 0 l5 false _ I2.out).mono ?_; rintro e w8 ⟨rfl, hd⟩; replace HN := Aside0.mk (HN.out.step hd.below); clear hd))
   go_ret
   exact ⟨rfl, HN.out.bel⟩
  ·obtain rfl : t = true := eok.trans ho
   have I1 := Aside0.mk (l1In_t z1.1 z1.2)
   have I2 := Aside0.mk (l1In_t z4.1 z4.2)
   clear ho eok z1 z4
   go_enter Try.func14, Try.ntmps14
   go_wp2_with (first | (go_at_call 51; refine (HT.out _ HN.out.bel).mono ?_; rintro e w6 ⟨rfl, hb⟩; replace HN := Aside0.mk (HN.out.step hb); clear hb) | (go_at_call 52; with_reducible refine (spec_l1In.calls l1 0 l2 true _ I1.out).mono ?_; rintro e w7 ⟨rfl, hd⟩; replace HN := Aside0.mk (HN.out.step hd.below); clear hd) | (go_at_call 52; with_reducible refine (spec_l1In.calls l4 0 l5 true _ I2.out).mono ?_; rintro e w8 ⟨rfl, hd⟩; replace HN := Aside0.mk (HN.out.step hd.below); clear hd))
   go_ret
   exact ⟨rfl, HN.out.bel⟩
end Go.Proofs.Ytelglbebffdaaaa.X
