/- Part 11 of the proof of FnExactForestDist: what it needs. -/
import Derived.Carry
import Derived.Test.YtelglbebffdaaaaKEForestDist3
import Derived.Test.YtelglbebffdaaaaKEForestDist6
import Derived.Test.YtelglbebffdaaaaKEForestDist9
import Derived.Test.YtelglbebffdaaaaKEForestDist10
namespace Go.Proofs.Ytelglbebffdaaaa.X
open Go.RowKit Go.Proofs.YtelglbebffdaaaaW.PrintWords Go.Proofs.YtelglbebffdaaaaW.PrintLast Go.Proofs.YtelglbebffdaaaaW.PrintMore Go.Proofs.Ytelglbebffdaaaa.Q
set_option linter.unusedVariables false
set_option linter.unusedSimpArgs false
theorem row1_of {W : World} {A : Option Addr} {c b n : Nat} {f : Nat → Int} (hn : 0 < n) (hc : n ≤ c) (hb : W.heap.size ≤ b) (h : Kd.C (Kd.int .i64) W A n ((List.range n).map f)) : Row1 W b (.slice A n c) n f := by
 obtain ⟨ad, rfl, h0⟩ := Kd.at_int h 0 (by omega) (by omega)
 refine ⟨ad, c, rfl, hc, ?_, fun p hp => ?_⟩
 ·have := World.block_lt_of_cell? W _ h0
  rw [add_block] at this
  omega
 ·obtain ⟨ad', e, h1⟩ := Kd.at_int h (p : Int) (by omega) (by omega)
  cases e
  rw [Int.toNat_natCast, rd_map hp] at h1
  exact h1
theorem row2_of {W : World} {A : Option Addr} {c b n m : Nat} {f : Nat → Nat → Int} {e : Nat} (hn : 0 < n) (hm : 0 < m) (hc : n ≤ c) (hb : W.heap.size ≤ b) (h : Kd.C (Kd.slice e (Kd.int .i64)) W A n ((List.range n).map fun p => (List.range m).map (f p))) : Row2 W b (.slice A n c) n m f := by
 have key : ∀ p, p < n → ∃ ad u, A = some ad ∧ W.cell? (ad.add p) = some u ∧ Row1 W b u m (f p) := fun p hp => by
  obtain ⟨ad, cs, hA, hlen, hK, hcell⟩ := ReadsRow.get_ h [] (p : Int) (by omega) (by omega)
  obtain ⟨A', c', hcs, hc', hC⟩ := hK
  subst hcs
  have e1 : ((List.range n).map fun p => (List.range m).map (f p)).getD (p : Int).toNat [] = (List.range m).map (f p) := by
   rw [Int.toNat_natCast, List.getD_eq_getElem?_getD, List.getElem?_map, List.getElem?_range hp]; rfl
  rw [e1] at hcell hC hc'
  have hl : ((List.range m).map (f p)).length = m := by simp
  rw [hl] at hcell hC hc'
  have h1 := hcell 0 _ rfl
  refine ⟨ad, _, hA, ?_, row1_of hm hc' hb hC⟩
  have e2 : (p : Int).toNat * (Kd.slice e (Kd.int .i64)).sz + 0 = p := by
   rw [Int.toNat_natCast]
   show p * 1 + 0 = p
   omega
  rw [e2] at h1
  exact h1
 obtain ⟨ad, u, hA, hu, _⟩ := key 0 hn
 subst hA
 refine ⟨ad, c, rfl, hc, ?_, fun p hp => ?_⟩
 ·have := World.block_lt_of_cell? W _ hu
  rw [add_block] at this
  omega
 ·obtain ⟨ad', u', e, h1, h2⟩ := key p hp
  cases e
  exact ⟨u', h1, h2⟩
noncomputable def fdB (a b : List NodeI) (i j k m : Int) (d n r : List Int) : Int :=
 if okAB a b d n r = true ∧ 0 ≤ i ∧ i ≤ j ∧ j ≤ (a.length : Int) ∧ 0 ≤ k ∧ k ≤ m ∧ m ≤ (b.length : Int) then Ted.D (msOf a b d n r) i.toNat j.toNat k.toNat m.toNat else -1
noncomputable def impl_ForestDist.f (q : Nat) (a : List NodeI) (i j : Int) (b : List NodeI) (k m : Int) (d n r : List Int) : Option Int := (impl_measureOf.f q a b d n r).bind fun _ => some (fdB a b i j k m d n r)
theorem impl_ForestDist.ev (a : List NodeI) (i j : Int) (b : List NodeI) (k m : Int) (d n r : List Int) : Ev (fun q => impl_ForestDist.f q a i j b k m d n r) (fdB a b i j k m d n r) := by
 unfold impl_ForestDist.f
 exact Ev.bind (implMeasure_ev a b d n r) (Ev.now _)
theorem Row1.below {b : Nat} {W W1 : World} (h : Below W.heap.size W W1) {v : Value} {n : Nat} {f : Nat → Int} (r : Row1 W b v n f) : Row1 W1 b v n f := by
 obtain ⟨ad, c, e, hc, hb, hp⟩ := r.is
 exact ⟨ad, c, e, hc, hb, fun p hp' => (h.cell (World.block_lt_of_cell? _ _ (hp p hp'))).trans (hp p hp')⟩
theorem Row2.below {b : Nat} {W W1 : World} (h : Below W.heap.size W W1) {v : Value} {n m : Nat} {f : Nat → Nat → Int} (r : Row2 W b v n m f) : Row2 W1 b v n m f := by
 obtain ⟨ad, c, e, hc, hb, hp⟩ := r.is
 refine ⟨ad, c, e, hc, hb, fun p hp' => ?_⟩
 obtain ⟨u, hu, r1⟩ := hp p hp'
 exact ⟨u, (h.cell (World.block_lt_of_cell? _ _ hu)).trans hu, r1.below h⟩
theorem Mea.below {M : Ted.Ms} {A B : Nat} {b : Nat} {W W1 : World} (h : Below W.heap.size W W1) {v : Array Value} (r : Mea M A B W b v) : Mea M A B W1 b v := by
 obtain ⟨v0, v1, v2, v3, v4, v5, v6, e, h2, h3, h4, h5, h6⟩ := r.is
 exact ⟨v0, v1, v2, v3, v4, v5, v6, e, h2.below h, h3.below h, h4.below h, h5.below h, h6.below h⟩
theorem row1_R {W : World} {e base : Nat} {ok : Nat → Prop} {v : Value} {b n : Nat} {f : Nat → Int} (hn : 0 < n) (hb : W.heap.size ≤ b) (h : Kd.R (Kd.int .i64) e W base ok v ((List.range n).map f)) : Row1 W b v n f := by
 obtain ⟨A, c, rfl⟩ := Kd.R_slice h
 obtain ⟨_, h2, h3⟩ := Kd.R_reads' h
 have hl : ((List.range n).map f).length = n := by simp
 rw [hl] at h2 h3 ⊢
 exact row1_of hn h2 hb h3
theorem row2_S {W : World} {e e2 base : Nat} {ok : Nat → Prop} {v : Value} {b n m : Nat} {f : Nat → Nat → Int} (hn : 0 < n) (hm : 0 < m) (hb : W.heap.size ≤ b) (h : Kd.S (Kd.slice e2 (Kd.int .i64)) e W base ok v ((List.range n).map fun p => (List.range m).map (f p))) : Row2 W b v n m f := by
 obtain ⟨A, c, rfl, h2, h3⟩ := Kd.S_reads h
 have hl : ((List.range n).map fun p => (List.range m).map (f p)).length = n := by simp
 rw [hl] at h2 h3 ⊢
 exact row2_of hn hm h2 hb h3
def IsSl (v : Value) : Prop := ∃ A n c, v = .slice A n c
theorem sl_R {e base : Nat} {W : World} {ok : Nat → Prop} {v : Value} {xs : List Int} (h : Kd.R (Kd.int .i64) e W base ok v xs) : IsSl v := by
 obtain ⟨A, c, e⟩ := Kd.R_slice h
 exact ⟨_, _, _, e⟩
theorem mea_ok {q : Nat} {A0 : Option Addr} {c0 : Nat} {a : List NodeI} {A1 : Option Addr} {c1 : Nat} {b : List NodeI} {A2 : Option Addr} {c2 : Nat} {d : List Int} {A3 : Option Addr} {c3 : Nat} {i : List Int} {A4 : Option Addr} {c4 : Nat} {r : List Int} {t : _} {w : World}
  (hr0 : Kd.C k53 w A0 a.length a) (hc0 : a.length ≤ c0) (hr1 : Kd.C k53 w A1 b.length b) (hc1 : b.length ≤ c1) (hr2 : Kd.C (Kd.int .i64) w A2 d.length d) (hc2 : d.length ≤ c2) (hr3 : Kd.C (Kd.int .i64) w A3 i.length i) (hc3 : i.length ≤ c3) (hr4 : Kd.C (Kd.int .i64) w A4 r.length r) (hc4 : r.length ≤ c4)
  (ht : impl_measureOf.f q a b d i r = some t) :
  Calls Try.prog 57 #[.slice A0 a.length c0, .slice A1 b.length c1, .agg #[.slice A2 d.length c2, .slice A3 i.length c3, .slice A4 r.length c4]] w fun e w' =>
   ∃ v0 v1 v2 v3 v4 v5 v6 : Value, e = .returned (.tuple #[.agg #[v0, v1, v2, v3, v4, v5, v6], .bool (okAB a b d i r)]) ∧ Below w.heap.size w w' ∧ (IsSl v0 ∧ IsSl v1 ∧ IsSl v2 ∧ IsSl v3 ∧ IsSl v4 ∧ IsSl v5 ∧ IsSl v6) ∧ (okAB a b d i r = true → ∀ bk, w'.heap.size ≤ bk → Mea (msOf a b d i r) a.length b.length w' bk #[v0, v1, v2, v3, v4, v5, v6]) := by
 have he : t = _ := ev_uniq (Ev.of (impl_measureOf.mono a b d i r) ht) (implMeasure_ev a b d i r)
 obtain ⟨r1, r2, r3, r4, r5, r6, r7, r8⟩ := t
 refine (impl_measureOf.calls q A0 c0 a A1 c1 b A2 c2 d A3 c3 i A4 c4 r r1 r2 r3 r4 r5 r6 r7 r8 w hr0 hc0 hr1 hc1 hr2 hc2 hr3 hc3 hr4 hc4 ht).mono ?_
 rintro e w' ⟨v0, v1, v2, v3, v4, v5, v6, rfl, h0, h1, h2, h3, h4, h5, h6, hb⟩
 have hsl : IsSl v0 ∧ IsSl v1 ∧ IsSl v2 ∧ IsSl v3 ∧ IsSl v4 ∧ IsSl v5 ∧ IsSl v6 := ⟨sl_R h0, sl_R h1, sl_R h2, sl_R h3, sl_R h4, sl_R h5, by obtain ⟨A, c, e, _⟩ := Kd.S_reads h6; exact ⟨_, _, _, e⟩⟩
 by_cases hok : okAB a b d i r = true
 ·rw [if_pos hok] at he
  simp only [Prod.mk.injEq] at he
  obtain ⟨rfl, rfl, rfl, rfl, rfl, rfl, rfl, rfl⟩ := he
  have hok2 := hok
  unfold okAB at hok2
  rw [Bool.and_eq_true, Bool.and_eq_true] at hok2
  have ta := (trB_iff a).1 hok2.1.1
  have tb := (trB_iff b).1 hok2.1.2
  have la := ta.len1
  have lb := tb.len1
  refine ⟨v0, v1, v2, v3, v4, v5, v6, by rw [hok], hb, hsl, fun _ bk hbk => ⟨v0, v1, v2, v3, v4, v5, v6, rfl, ?_, ?_, ?_, ?_, ?_⟩⟩
  ·exact row1_R la hbk h2
  ·exact row1_R lb hbk h3
  ·exact row1_R la hbk h4
  ·exact row1_R lb hbk h5
  ·exact row2_S la lb hbk h6
 ·rw [if_neg hok] at he
  simp only [Prod.mk.injEq] at he
  obtain ⟨rfl, rfl, rfl, rfl, rfl, rfl, rfl, rfl⟩ := he
  have hf : okAB a b d i r = false := by simpa using hok
  exact ⟨v0, v1, v2, v3, v4, v5, v6, by rw [hf], hb, hsl, fun h => absurd h hok⟩
attribute [local go_sem] run_makeMap
set_option maxHeartbeats 4000000 in
set_option maxRecDepth 100000 in
theorem impl_ForestDist.calls (q : Nat) (A0 : Option Addr) (c0 : Nat) (l0 : List NodeI) (l1 l2 : Int) (A3 : Option Addr) (c3 : Nat) (l3 : List NodeI) (l4 l5 : Int) (A6 : Option Addr) (c6 : Nat) (d : List Int) (A7 : Option Addr) (c7 : Nat) (n : List Int) (A8 : Option Addr) (c8 : Nat) (r : List Int) (res : Int) (w : World)
  (hr0 : Kd.C k53 w A0 l0.length l0) (hc0 : l0.length ≤ c0) (hr3 : Kd.C k53 w A3 l3.length l3) (hc3 : l3.length ≤ c3) (hr6 : Kd.C (Kd.int .i64) w A6 d.length d) (hc6 : d.length ≤ c6) (hr7 : Kd.C (Kd.int .i64) w A7 n.length n) (hc7 : n.length ≤ c7) (hr8 : Kd.C (Kd.int .i64) w A8 r.length r) (hc8 : r.length ≤ c8)
  (h : impl_ForestDist.f q l0 l1 l2 l3 l4 l5 d n r = some res) :
  Calls Try.prog 17 #[.slice A0 l0.length c0, .int .i64 l1, .int .i64 l2, .slice A3 l3.length c3, .int .i64 l4, .int .i64 l5, .agg #[.slice A6 d.length c6, .slice A7 n.length c7, .slice A8 r.length c8]] w fun e w' => e = .returned (.int .i64 res) ∧ Below w.heap.size w w' := by
 unfold impl_ForestDist.f at h
 obtain ⟨t, ht, h⟩ := Option.bind_eq_some_iff.mp h
 obtain rfl := Option.some.inj h
 clear h
 have HM : Aside0 (∀ W, Below w.heap.size w W → _) := ⟨fun W hb => mea_ok (Kd.C_below hr0 hb) hc0 (Kd.C_below hr3 hb) hc3 (Kd.C_below hr6 hb) hc6 (Kd.C_below hr7 hb) hc7 (Kd.C_below hr8 hb) hc8 ht⟩
 clear hr0 hc0 hr3 hc3 hr6 hc6 hr7 hc7 hr8 hc8 ht
 by_cases hok : okAB l0 l3 d n r = true ∧ 0 ≤ l1 ∧ l1 ≤ l2 ∧ l2 ≤ (l0.length : Int) ∧ 0 ≤ l4 ∧ l4 ≤ l5 ∧ l5 ≤ (l3.length : Int)
 ·have HV := Aside0.mk (show fdB l0 l3 l1 l2 l4 l5 d n r = Ted.D (msOf l0 l3 d n r) l1.toNat l2.toNat l4.toNat l5.toNat from if_pos hok)
  obtain ⟨ho, h1, h2, h3, h4, h5, h6⟩ := hok
  have HOK := Aside0.mk ho
  rw [ho] at HM
  obtain ⟨i, rfl⟩ := Int.eq_ofNat_of_zero_le h1
  obtain ⟨j, rfl⟩ := Int.eq_ofNat_of_zero_le (Int.le_trans h1 h2)
  obtain ⟨k, rfl⟩ := Int.eq_ofNat_of_zero_le h4
  obtain ⟨m, rfl⟩ := Int.eq_ofNat_of_zero_le (Int.le_trans h4 h5)
  have z1 : ¬ (i : Int) < 0 := by omega
  have z2 : ¬ (j : Int) < (i : Int) := by omega
  have z3 : ¬ (l0.length : Int) < (j : Int) := by omega
  have z4 : ¬ (k : Int) < 0 := by omega
  have z5 : ¬ (m : Int) < (k : Int) := by omega
  have z6 : ¬ (l3.length : Int) < (m : Int) := by omega
  go_enter Try.func17, Try.ntmps17
  go_wp2_with (first | (go_at_call 57; refine (HM.out _ ((Below.refl _ _).alloc (Nat.le_refl _) _)).mono ?_; rintro e w6 ⟨v0, v1, v2, v3, v4, v5, v6, rfl, hb, ⟨⟨a0, n0, e0, rfl⟩, ⟨a1, n1, e1, rfl⟩, ⟨a2, n2, e2, rfl⟩, ⟨a3, n3, e3, rfl⟩, ⟨a4, n4, e4, rfl⟩, ⟨a5, n5, e5, rfl⟩, ⟨a6, n6, e6, rfl⟩⟩, hmea⟩))
  have hol0 : okAB l0 l3 d n r = true := HOK.out
  have hok2 := hol0
  unfold okAB at hok2
  rw [Bool.and_eq_true, Bool.and_eq_true] at hok2
  have ta := (trB_iff l0).1 hok2.1.1
  have tb := (trB_iff l3).1 hok2.1.2
  have hB6 := Aside0.mk (((Below.refl w.heap.size w).alloc (Nat.le_refl _) (.cells #[.slice A6 d.length c6, .slice A7 n.length c7, .slice A8 r.length c8] 31)).trans (hb.mono (by simp)))
  have hMemo := Memo.start (msOf l0 l3 d n r) (w6.alloc (Obj.cells #[.slice a0 n0 e0, .slice a1 n1 e1, .slice a2 n2 e2, .slice a3 n3 e3, .slice a4 n4 e4, .slice a5 n5 e5, .slice a6 n6 e6] 70))
  have hsz : (w6.alloc (Obj.cells #[.slice a0 n0 e0, .slice a1 n1 e1, .slice a2 n2 e2, .slice a3 n3 e3, .slice a4 n4 e4, .slice a5 n5 e5, .slice a6 n6 e6] 70)).heap.size = w6.heap.size + 1 := by simp
  rw [hsz] at hMemo
  have hMea := (hmea trivial (w6.heap.size + 1) (by omega)).below (((Below.refl w6.heap.size w6).alloc (Nat.le_refl _) (Obj.cells #[.slice a0 n0 e0, .slice a1 n1 e1, .slice a2 n2 e2, .slice a3 n3 e3, .slice a4 n4 e4, .slice a5 n5 e5, .slice a6 n6 e6] 70)).alloc (by simp) (.map #[] 0))
  refine (forest_calls (msOf_small (costB_iff.1 hok2.2)) ta.len24 tb.len24 (fun p hp => lfN_le ta hp) (fun p hp => lfN_le tb hp) _ i j k m rfl (by omega) (by omega) (by omega) (by omega) _ _ _ [] hMea hMemo).mono ?_
  rintro e w9 ⟨rfl, hol, _⟩
  go_wp2
  go_ret
  refine ⟨by rw [HV.out]; simp only [Int.toNat_natCast]; rfl, hB6.out.trans ?_⟩
  refine Below.mono ?_ (show w.heap.size ≤ w6.heap.size from hB6.out.size)
  refine (((Below.refl w6.heap.size w6).alloc (Nat.le_refl _) _).alloc (by simp) _).trans ⟨hol.os, hol.tape, hol.output, hol.size, fun x hx => hol.block x (by simp; omega) (by simp; omega)⟩
 ·have HV : fdB l0 l3 l1 l2 l4 l5 d n r = -1 := if_neg hok
  rw [HV]
  have hcase : okAB l0 l3 d n r = false ∨ (okAB l0 l3 d n r = true ∧ l1 < 0) ∨ (okAB l0 l3 d n r = true ∧ ¬ l1 < 0 ∧ l2 < l1) ∨ (okAB l0 l3 d n r = true ∧ ¬ l1 < 0 ∧ ¬ l2 < l1 ∧ (l0.length : Int) < l2) ∨ (okAB l0 l3 d n r = true ∧ ¬ l1 < 0 ∧ ¬ l2 < l1 ∧ ¬ (l0.length : Int) < l2 ∧ l4 < 0) ∨
    (okAB l0 l3 d n r = true ∧ ¬ l1 < 0 ∧ ¬ l2 < l1 ∧ ¬ (l0.length : Int) < l2 ∧ ¬ l4 < 0 ∧ l5 < l4) ∨ (okAB l0 l3 d n r = true ∧ ¬ l1 < 0 ∧ ¬ l2 < l1 ∧ ¬ (l0.length : Int) < l2 ∧ ¬ l4 < 0 ∧ ¬ l5 < l4 ∧ (l3.length : Int) < l5) := by
   cases ho : okAB l0 l3 d n r with
   | false => exact Or.inl rfl
   | true =>
    rw [ho] at hok
    simp only [true_and, Bool.true_eq_false, false_or] at hok ⊢
    omega
  clear hok HV
  rcases hcase with ho | ⟨ho, z1⟩ | ⟨ho, z1, z2⟩ | ⟨ho, z1, z2, z3⟩ | ⟨ho, z1, z2, z3, z4⟩ | ⟨ho, z1, z2, z3, z4, z5⟩ | ⟨ho, z1, z2, z3, z4, z5, z6⟩
  all_goals
   rw [ho] at HM
   clear ho
   go_enter Try.func17, Try.ntmps17
   go_wp2_with (first | (go_at_call 57; refine (HM.out _ ((Below.refl _ _).alloc (Nat.le_refl _) _)).mono ?_; rintro e w6 ⟨v0, v1, v2, v3, v4, v5, v6, rfl, hb, ⟨⟨a0, n0, e0, rfl⟩, ⟨a1, n1, e1, rfl⟩, ⟨a2, n2, e2, rfl⟩, ⟨a3, n3, e3, rfl⟩, ⟨a4, n4, e4, rfl⟩, ⟨a5, n5, e5, rfl⟩, ⟨a6, n6, e6, rfl⟩⟩, hmea⟩))
   go_ret
   have hB6 := ((Below.refl w.heap.size w).alloc (Nat.le_refl _) (.cells #[.slice A6 d.length c6, .slice A7 n.length c7, .slice A8 r.length c8] 31)).trans (hb.mono (by simp))
   exact ⟨rfl, hB6.trans (((Below.refl w6.heap.size w6).alloc (Nat.le_refl _) _).mono hB6.size)⟩
end Go.Proofs.Ytelglbebffdaaaa.X
namespace Go.Proofs.Ytelglbebffdaaaa.X
open Go.RowKit Go.Proofs.YtelglbebffdaaaaW.PrintWords Go.Proofs.YtelglbebffdaaaaW.PrintLast Go.Proofs.YtelglbebffdaaaaW.PrintMore Go.Proofs.Ytelglbebffdaaaa.Q
set_option linter.unusedVariables false
set_option linter.unusedSimpArgs false
theorem Row1.congr {W : World} {b n : Nat} {v : Value} {f g : Nat → Int} (h : Row1 W b v n f) (e : ∀ p, p < n → f p = g p) : Row1 W b v n g := by
 obtain ⟨ad, c, h1, h2, h3, h4⟩ := h.is
 exact ⟨ad, c, h1, h2, h3, fun p hp => by rw [← e p hp]; exact h4 p hp⟩
theorem list_getD (l : List Int) : (List.range l.length).map (fun x => l.getD x 0) = l := by
 apply List.ext_getElem?
 intro j
 by_cases h : j < l.length
 ·rw [List.getElem?_map, List.getElem?_range h, Option.map_some, List.getD_eq_getElem?_getD, List.getElem?_eq_getElem h]; rfl
 ·rw [List.getElem?_eq_none (by simp; omega), List.getElem?_eq_none (by omega)]
theorem row1_list {W : World} {A : Option Addr} {c b n : Nat} {l : List Int} (hl : l.length = n) (hn : 0 < n) (hc : n ≤ c) (hb : W.heap.size ≤ b) (h : Kd.C (Kd.int .i64) W A l.length l) : Row1 W b (.slice A l.length c) n (fun x => l.getD x 0) := by
 subst hl
 refine row1_of hn hc hb ?_
 rw [list_getD]
 exact h
theorem kn_start {M : Ted.Ms} {A B : Nat} {W : World} {b : Nat} (h : W.heap[b]? = some (.cells (nums .i64 (List.replicate (ksz A B) 0)).toArray 3 (0, 0))) : Kn M A B W b := by
 refine ⟨_, h, by simp, fun i j k m h1 h2 h3 h4 => Or.inl ?_⟩
 rw [List.getD_eq_getElem?_getD, List.getElem?_replicate]
 split <;> rfl
theorem mem_start {a b : List NodeI} {d n r : List Int} (ta : Tr a) (tb : Tr b) (hc : Co d n r) {w W : World} {A2 A3 A4 : Option Addr} {c2 c3 c4 g bk : Nat} {v0 v1 v2 v3 : Value} (hB : Below w.heap.size w W) (hgb : g ≠ bk) (hbk : w.heap.size ≤ bk)
  (hblk : W.heap[g]? = some (.cells #[v0, v1, v2, v3, .slice (some ⟨bk, 0, none⟩) (ksz a.length b.length) (ksz a.length b.length), .slice A2 d.length c2, .slice A3 n.length c3, .slice A4 r.length c4] 100 (0, 0)))
  (h0 : Row1 W bk v0 a.length (fun x => lab a (nodeN a x))) (h1 : Row1 W bk v1 b.length (fun x => lab b (nodeN b x))) (h2 : Row1 W bk v2 a.length (fun x => (lfN a x : Int))) (h3 : Row1 W bk v3 b.length (fun x => (lfN b x : Int)))
  (hr2 : Kd.C (Kd.int .i64) w A2 d.length d) (hc2 : d.length ≤ c2) (hr3 : Kd.C (Kd.int .i64) w A3 n.length n) (hc3 : n.length ≤ c3) (hr4 : Kd.C (Kd.int .i64) w A4 r.length r) (hc4 : r.length ≤ c4) :
  Mem (msOf a b d n r) a.length b.length (fun p => (lab a (nodeN a p)).toNat) (fun q => (lab b (nodeN b q)).toNat) W bk g := by
 have la : ∀ p, p < a.length → 0 ≤ lab a (nodeN a p) ∧ lab a (nodeN a p) ≤ 5 := fun p hp => ⟨(ta.chk _ (nodeN_lt ta hp)).l0, (ta.chk _ (nodeN_lt ta hp)).l5⟩
 have lb : ∀ p, p < b.length → 0 ≤ lab b (nodeN b p) ∧ lab b (nodeN b p) ≤ 5 := fun p hp => ⟨(tb.chk _ (nodeN_lt tb hp)).l0, (tb.chk _ (nodeN_lt tb hp)).l5⟩
 have hd := hc.dl
 have hi := hc.il
 have hr := hc.rl
 refine ⟨v0, v1, v2, v3, _, _, _, hblk, hgb, h0.congr fun p hp => ?_, h1.congr fun p hp => ?_, h2, h3, fun x => d.getD x 0, fun x => n.getD x 0, fun x => r.getD x 0, (row1_list hd (by omega) (by omega) hbk hr2).below hB, (row1_list hi (by omega) (by omega) hbk hr3).below hB, (row1_list hr (by omega) (by omega) hbk hr4).below hB, fun p hp => ⟨?_, rfl⟩, fun p hp => ⟨?_, rfl⟩, fun p q hp hq => rfl⟩
 ·have := la p hp; omega
 ·have := lb p hp; omega
 ·have := la p hp; omega
 ·have := lb p hp; omega
noncomputable def preF (q : Nat) (a b : List NodeI) (d n r : List Int) : Option Bool :=
 if Fit a b d n r then (spec_l8Three.f q a b d n r).bind fun t => if t = true then (spec_l8Labels.f q a).bind fun _ => (spec_l8Labels.f q b).bind fun _ => (spec_LeftLeaf.f q a).bind fun _ => (spec_LeftLeaf.f q b).bind fun _ => some true else some false else none
theorem preF_ev {a b : List NodeI} {d n r : List Int} (h : Fit a b d n r) : Ev (fun k => preF k a b d n r) (okAB a b d n r) := by
 unfold preF
 refine Ev.ifT h (Ev.bind (specThree_ev h) ?_)
 cases ho : okAB a b d n r with
 | false => exact Ev.ifF (by simp) (Ev.now _)
 | true =>
  obtain ⟨ta, tb, _⟩ := okAB_iff.1 ho
  exact Ev.ifT rfl (Ev.bind (specLabels_ev ta) (Ev.bind (specLabels_ev tb) (Ev.bind (specLeftLeaf_ev ta) (Ev.bind (specLeftLeaf_ev tb) (Ev.now _)))))
theorem preF_told {q : Nat} {a b : List NodeI} {d n r : List Int} {t : Bool} (h : preF q a b d n r = some t) : spec_l8Three.f q a b d n r = some t ∧ t = okAB a b d n r ∧
  (t = true → spec_l8Labels.f q a = some (labL a) ∧ spec_l8Labels.f q b = some (labL b) ∧ spec_LeftLeaf.f q a = some (lfL a) ∧ spec_LeftLeaf.f q b = some (lfL b)) := by
 unfold preF at h
 by_cases hf : Fit a b d n r
 ·rw [if_pos hf] at h
  obtain ⟨u, hu, h⟩ := Option.bind_eq_some_iff.mp h
  have eu : u = okAB a b d n r := ev_uniq (Ev.of (spec_l8Three.mono a b d n r) hu) (specThree_ev hf)
  by_cases c : u = true
  ·rw [if_pos c] at h
   obtain ⟨x1, h1, h⟩ := Option.bind_eq_some_iff.mp h
   obtain ⟨x2, h2, h⟩ := Option.bind_eq_some_iff.mp h
   obtain ⟨x3, h3, h⟩ := Option.bind_eq_some_iff.mp h
   obtain ⟨x4, h4, h⟩ := Option.bind_eq_some_iff.mp h
   obtain rfl := Option.some.inj h
   obtain ⟨ta, tb, _⟩ := okAB_iff.1 (eu.symm.trans c)
   refine ⟨by rw [hu, c], by rw [← eu, c], fun _ => ⟨?_, ?_, ?_, ?_⟩⟩
   ·rw [h1, ev_uniq (Ev.of (spec_l8Labels.mono a) h1) (specLabels_ev ta)]
   ·rw [h2, ev_uniq (Ev.of (spec_l8Labels.mono b) h2) (specLabels_ev tb)]
   ·rw [h3, ev_uniq (Ev.of (spec_LeftLeaf.mono a) h3) (specLeftLeaf_ev ta)]
   ·rw [h4, ev_uniq (Ev.of (spec_LeftLeaf.mono b) h4) (specLeftLeaf_ev tb)]
  ·rw [if_neg c] at h
   obtain rfl := Option.some.inj h
   have e : u = false := by simpa using c
   subst e
   exact ⟨hu, eu, fun h => by cases h⟩
 ·rw [if_neg hf] at h; cases h
noncomputable def spec_ForestDist.f (q : Nat) (a : List NodeI) (i j : Int) (b : List NodeI) (k m : Int) (d n r : List Int) : Option Int := (preF q a b d n r).bind fun _ => some (fdB a b i j k m d n r)
theorem spec_ForestDist.ev {a b : List NodeI} {d n r : List Int} (h : Fit a b d n r) (i j k m : Int) : Ev (fun q => spec_ForestDist.f q a i j b k m d n r) (fdB a b i j k m d n r) := by
 unfold spec_ForestDist.f
 exact Ev.bind (preF_ev h) (Ev.now _)
noncomputable def spec_SlowDist.f (q : Nat) (a b : List NodeI) (d n r : List Int) : Option Int := (preF q a b d n r).bind fun _ => some (rdB a b d n r)
theorem spec_SlowDist.ev {a b : List NodeI} {d n r : List Int} (h : Fit a b d n r) : Ev (fun q => spec_SlowDist.f q a b d n r) (rdB a b d n r) := by
 unfold spec_SlowDist.f
 exact Ev.bind (preF_ev h) (Ev.now _)
theorem NS.start' {w : World} {ty : TypeId} (x0 x1 x2 : Value) : NS w w.heap.size x0 x1 x2 (w.alloc (.cells #[x0, x1, x2] ty)) :=
 have h : (w.alloc (.cells #[x0, x1, x2] ty)).heap[w.heap.size]? = some (.cells #[x0, x1, x2] ty (0, 0)) := (MapKept.heap_alloc w _).1
 ⟨(blk_cell h 0).trans rfl, (blk_cell h 1).trans rfl, (blk_cell h 2).trans rfl, below_alloc (Below.refl _ _) _⟩
theorem l1In_t {a b c : Int} (h1 : b ≤ a) (h2 : a ≤ c) : spec_l1In.f a b c = some true := by
 rw [l1In_eq]; congr 1; exact decide_eq_true ⟨h1, h2⟩
theorem l1In_f {a b c : Int} (h : ¬ (b ≤ a ∧ a ≤ c)) : spec_l1In.f a b c = some false := by
 rw [l1In_eq]; congr 1; exact decide_eq_false h
theorem below_only {w W W1 : World} {b : Nat} (h : Below w.heap.size w W) (hb : w.heap.size ≤ b) (k : Only b W W1) : Below w.heap.size w W1 :=
 ⟨k.os.trans h.os, k.tape.trans h.tape, k.output.trans h.output, Nat.le_trans h.size k.size, fun x hx => (k.block x (Nat.lt_of_lt_of_le hx h.size) (by simp; omega)).trans (h.block x hx)⟩
set_option maxHeartbeats 4000000 in
set_option maxRecDepth 100000 in
theorem spec_ForestDist.calls (q : Nat) (A0 : Option Addr) (c0 : Nat) (l0 : List NodeI) (l1 l2 : Int) (A3 : Option Addr) (c3 : Nat) (l3 : List NodeI) (l4 l5 : Int) (A6 : Option Addr) (c6 : Nat) (d : List Int) (A7 : Option Addr) (c7 : Nat) (n : List Int) (A8 : Option Addr) (c8 : Nat) (r : List Int) (res : Int) (w : World)
  (hr0 : Kd.C k53 w A0 l0.length l0) (hc0 : l0.length ≤ c0) (hr3 : Kd.C k53 w A3 l3.length l3) (hc3 : l3.length ≤ c3) (hr6 : Kd.C (Kd.int .i64) w A6 d.length d) (hc6 : d.length ≤ c6) (hr7 : Kd.C (Kd.int .i64) w A7 n.length n) (hc7 : n.length ≤ c7) (hr8 : Kd.C (Kd.int .i64) w A8 r.length r) (hc8 : r.length ≤ c8)
  (h : spec_ForestDist.f q l0 l1 l2 l3 l4 l5 d n r = some res) :
  Calls Try.prog 14 #[.slice A0 l0.length c0, .int .i64 l1, .int .i64 l2, .slice A3 l3.length c3, .int .i64 l4, .int .i64 l5, .agg #[.slice A6 d.length c6, .slice A7 n.length c7, .slice A8 r.length c8]] w fun e w' => e = .returned (.int .i64 res) ∧ Below w.heap.size w w' := by
 unfold spec_ForestDist.f at h
 obtain ⟨t, ht, h⟩ := Option.bind_eq_some_iff.mp h
 obtain rfl := Option.some.inj h
 clear h
 obtain ⟨hth, eok, hpre⟩ := preF_told ht
 have HT : Aside0 (∀ W, Below w.heap.size w W → _) := ⟨fun W hb => spec_l8Three.calls q A0 c0 l0 A3 c3 l3 A6 c6 d A7 c7 n A8 c8 r t W (Kd.C_below hr0 hb) hc0 (Kd.C_below hr3 hb) hc3 (Kd.C_below hr6 hb) hc6 (Kd.C_below hr7 hb) hc7 (Kd.C_below hr8 hb) hc8 hth⟩
 clear ht hth
 have HN := Aside0.mk (NS.start' (w := w) (ty := 31) (.slice A6 d.length c6) (.slice A7 n.length c7) (.slice A8 r.length c8))
 by_cases hok : okAB l0 l3 d n r = true ∧ 0 ≤ l1 ∧ l1 ≤ l2 ∧ l2 ≤ (l0.length : Int) ∧ 0 ≤ l4 ∧ l4 ≤ l5 ∧ l5 ≤ (l3.length : Int)
 ·have HV := Aside0.mk (show fdB l0 l3 l1 l2 l4 l5 d n r = Ted.D (msOf l0 l3 d n r) l1.toNat l2.toNat l4.toNat l5.toNat from if_pos hok)
  obtain ⟨ho, h1, h2, h3, h4, h5, h6⟩ := hok
  obtain rfl : t = true := eok.trans ho
  obtain ⟨p1, p2, p3, p4⟩ := hpre rfl
  obtain ⟨ta, tb, hco⟩ := okAB_iff.1 ho
  obtain ⟨i, rfl⟩ := Int.eq_ofNat_of_zero_le h1
  obtain ⟨j, rfl⟩ := Int.eq_ofNat_of_zero_le (Int.le_trans h1 h2)
  obtain ⟨k, rfl⟩ := Int.eq_ofNat_of_zero_le h4
  obtain ⟨m, rfl⟩ := Int.eq_ofNat_of_zero_le (Int.le_trans h4 h5)
  have I1 := Aside0.mk (l1In_t h1 h2)
  have I2 := Aside0.mk (l1In_t h4 h5)
  have hij : i ≤ j := by omega
  have hja : j ≤ l0.length := by omega
  have hkm : k ≤ m := by omega
  have hmb : m ≤ l3.length := by omega
  have z3 : ¬ (l0.length : Int) < (j : Int) := by omega
  have z6 : ¬ (l3.length : Int) < (m : Int) := by omega
  have HNEW : Aside0 (∀ W, Below w.heap.size w W → _) := ⟨fun W hb => l9New_calls q A0 c0 l0 A3 c3 l3 A6 c6 d A7 c7 n A8 c8 r _ _ _ _ W ta.len1 tb.len1 ta.len24 tb.len24 (Kd.C_below hr0 hb) hc0 (Kd.C_below hr3 hb) hc3 p1 p2 p3 p4⟩
  clear p1 p2 p3 p4 h1 h2 h3 h4 h5 h6 eok hpre ho
  go_enter Try.func14, Try.ntmps14
  go_wp2_with (first | (go_at_call 51; refine (HT.out _ HN.out.bel).mono ?_; rintro e w6 ⟨rfl, hb⟩; replace HN := Aside0.mk (HN.out.step hb); clear hb) | (go_at_call 52; with_reducible refine (spec_l1In.calls (i : Int) 0 (j : Int) true _ I1.out).mono ?_; rintro e w7 ⟨rfl, hd⟩; replace HN := Aside0.mk (HN.out.step hd.below); clear hd) | (go_at_call 52; with_reducible refine (spec_l1In.calls (k : Int) 0 (m : Int) true _ I2.out).mono ?_; rintro e w8 ⟨rfl, hd⟩; replace HN := Aside0.mk (HN.out.step hd.below); have y0 := HN.out.c0; have y1 := HN.out.c1; have y2 := HN.out.c2; clear hd) | (go_at_call 54; refine (HNEW.out _ HN.out.bel).mono ?_; rintro e w9 ⟨g, bk, rfl, hb, hgb, hbk, hkn, v0, v1, v2, v3, hblk, e0, e1, e2, e3⟩; have hsz := HN.out.bel.size; replace HN := Aside0.mk (HN.out.step hb); have HM := Aside0.mk (mem_start ta tb hco HN.out.bel hgb (Nat.le_trans hsz hbk) hblk e0 e1 e2 e3 hr6 hc6 hr7 hc7 hr8 hc8); have HK := Aside0.mk (kn_start (M := msOf l0 l3 d n r) hkn); have HBK := Aside0.mk (Nat.le_trans hsz hbk); clear hb hgb hbk hkn hblk e0 e1 e2 e3 hsz))
  refine (dist_calls (msOf_small hco) ta.len24 tb.len24 (fun p hp => lfN_le ta hp) (fun p hp => lfN_le tb hp) _ i j k m rfl hij hja hkm hmb _ _ _ HM.out HK.out).mono ?_
  rintro e w10 ⟨rfl, hol, _⟩
  go_wp2
  go_ret
  exact ⟨by rw [HV.out]; simp only [Int.toNat_natCast]; rfl, below_only HN.out.bel HBK.out hol⟩
 ·have HV : fdB l0 l3 l1 l2 l4 l5 d n r = -1 := if_neg hok
  rw [HV]
  have hcase : okAB l0 l3 d n r = false ∨ (okAB l0 l3 d n r = true ∧ ¬ (0 ≤ l1 ∧ l1 ≤ l2)) ∨ (okAB l0 l3 d n r = true ∧ (0 ≤ l1 ∧ l1 ≤ l2) ∧ (l0.length : Int) < l2) ∨ (okAB l0 l3 d n r = true ∧ (0 ≤ l1 ∧ l1 ≤ l2) ∧ ¬ (l0.length : Int) < l2 ∧ ¬ (0 ≤ l4 ∧ l4 ≤ l5)) ∨ (okAB l0 l3 d n r = true ∧ (0 ≤ l1 ∧ l1 ≤ l2) ∧ ¬ (l0.length : Int) < l2 ∧ (0 ≤ l4 ∧ l4 ≤ l5) ∧ (l3.length : Int) < l5) := by
   cases ho : okAB l0 l3 d n r with
   | false => exact Or.inl rfl
   | true =>
    rw [ho] at hok
    simp only [true_and, Bool.true_eq_false, false_or] at hok ⊢
    omega
  clear hok HV hpre
  rcases hcase with ho | ⟨ho, z1⟩ | ⟨ho, z1, z3⟩ | ⟨ho, z1, z3, z4⟩ | ⟨ho, z1, z3, z4, z6⟩
  ·obtain rfl : t = false := eok.trans ho
   clear ho eok
   go_enter Try.func14, Try.ntmps14
   go_wp2_with (first | (go_at_call 51; refine (HT.out _ HN.out.bel).mono ?_; rintro e w6 ⟨rfl, hb⟩; replace HN := Aside0.mk (HN.out.step hb); clear hb))
   go_ret
   exact ⟨rfl, HN.out.bel⟩
  ·obtain rfl : t = true := eok.trans ho
   have I1 := Aside0.mk (l1In_f z1)
   clear ho eok z1
   go_enter Try.func14, Try.ntmps14
   go_wp2_with (first | (go_at_call 51; refine (HT.out _ HN.out.bel).mono ?_; rintro e w6 ⟨rfl, hb⟩; replace HN := Aside0.mk (HN.out.step hb); clear hb) | (go_at_call 52; with_reducible refine (spec_l1In.calls l1 0 l2 false _ I1.out).mono ?_; rintro e w7 ⟨rfl, hd⟩; replace HN := Aside0.mk (HN.out.step hd.below); clear hd))
   go_ret
   exact ⟨rfl, HN.out.bel⟩
  ·obtain rfl : t = true := eok.trans ho
   have I1 := Aside0.mk (l1In_t z1.1 z1.2)
   clear ho eok z1
   go_enter Try.func14, Try.ntmps14
   go_wp2_with (first | (go_at_call 51; refine (HT.out _ HN.out.bel).mono ?_; rintro e w6 ⟨rfl, hb⟩; replace HN := Aside0.mk (HN.out.step hb); clear hb) | (go_at_call 52; with_reducible refine (spec_l1In.calls l1 0 l2 true _ I1.out).mono ?_; rintro e w7 ⟨rfl, hd⟩; replace HN := Aside0.mk (HN.out.step hd.below); clear hd))
   go_ret
   exact ⟨rfl, HN.out.bel⟩
  ·obtain rfl : t = true := eok.trans ho
   have I1 := Aside0.mk (l1In_t z1.1 z1.2)
   have I2 := Aside0.mk (l1In_f z4)
   clear ho eok z1 z4
   go_enter Try.func14, Try.ntmps14
   go_wp2_with (first | (go_at_call 51; refine (HT.out _ HN.out.bel).mono ?_; rintro e w6 ⟨rfl, hb⟩; replace HN := Aside0.mk (HN.out.step hb); clear hb) | (go_at_call 52; with_reducible refine (spec_l1In.calls l1 0 l2 true _ I1.out).mono ?_; rintro e w7 ⟨rfl, hd⟩; replace HN := Aside0.mk (HN.out.step hd.below); clear hd) | (go_at_call 52; with_reducible refine (spec_l1In.calls l4 0 l5 false _ I2.out).mono ?_; rintro e w8 ⟨rfl, hd⟩; replace HN := Aside0.mk (HN.out.step hd.below); clear hd))
   go_ret
   exact ⟨rfl, HN.out.bel⟩
  ·obtain rfl : t = true := eok.trans ho
   have I1 := Aside0.mk (l1In_t z1.1 z1.2)
   have I2 := Aside0.mk (l1In_t z4.1 z4.2)
   clear ho eok z1 z4
   go_enter Try.func14, Try.ntmps14
   go_wp2_with (first | (go_at_call 51; refine (HT.out _ HN.out.bel).mono ?_; rintro e w6 ⟨rfl, hb⟩; replace HN := Aside0.mk (HN.out.step hb); clear hb) | (go_at_call 52; with_reducible refine (spec_l1In.calls l1 0 l2 true _ I1.out).mono ?_; rintro e w7 ⟨rfl, hd⟩; replace HN := Aside0.mk (HN.out.step hd.below); clear hd) | (go_at_call 52; with_reducible refine (spec_l1In.calls l4 0 l5 true _ I2.out).mono ?_; rintro e w8 ⟨rfl, hd⟩; replace HN := Aside0.mk (HN.out.step hd.below); clear hd))
   go_ret
   exact ⟨rfl, HN.out.bel⟩
end Go.Proofs.Ytelglbebffdaaaa.X
namespace Go.Proofs.Ytelglbebffdaaaa.X
open Go.RowKit Go.Proofs.YtelglbebffdaaaaW.PrintWords Go.Proofs.YtelglbebffdaaaaW.PrintLast Go.Proofs.YtelglbebffdaaaaW.PrintMore
attribute [local go_sem] max2_int min2_int max_two min_two max_three min_three max_four min_four   -- for this text's walks alone
set_option linter.unusedVariables false
set_option linter.unusedSimpArgs false
noncomputable def laws_FnExactForestDist.f (k : Nat) (l0 : List (S66)) (a1 : Int) (a2 : Int) (l3 : List (S66)) (a4 : Int) (a5 : Int) (l6_0 : List Int) (l6_1 : List Int) (l6_2 : List Int) : Option (Bool) := (laws_szNodeS.f l0 1048576).bind fun t357 => (if t357 < 0 then (some true) else ((laws_szNodeS.f l3 t357).bind fun t358 => (if t358 < 0 then (some true) else ((laws_szCost.f l6_0 l6_1 l6_2 t358).bind fun t359 => (if t359 < 0 then (some true) else ((laws_toNodeS.f k l0).bind fun t360 => ((laws_toNodeS.f k l3).bind fun t363 => ((laws_toCost.f k l6_0 l6_1 l6_2).bind fun bt366 => ((spec_ForestDist.f k t360 a1 a2 t363 a4 a5 bt366.1 bt366.2.1 bt366.2.2).bind fun t375 => ((laws_toNodeS.f k l0).bind fun t376 => ((laws_toNodeS.f k l3).bind fun t379 => ((laws_toCost.f k l6_0 l6_1 l6_2).bind fun bt382 => ((impl_ForestDist.f k t376 a1 a2 t379 a4 a5 bt382.1 bt382.2.1 bt382.2.2).bind fun t392 => (if t392 = t375 then ((laws_toNodeS.f k l0).bind fun t393 => ((laws_eqNodeS.f k t376 t393).bind fun t396 => (if t396 = true then ((laws_toNodeS.f k l3).bind fun t397 => ((laws_eqNodeS.f k t379 t397).bind fun t400 => (if t400 = true then ((laws_toCost.f k l6_0 l6_1 l6_2).bind fun bt401 => ((laws_eqCost.f k bt382.1 bt382.2.1 bt382.2.2 bt401.1 bt401.2.1 bt401.2.2).bind fun t410 => (if t410 = true then (some true) else (some false)))) else (some false)))) else (some false)))) else (some false)))))))))))))))
def laws_FnExactForestDist.T11 : Bool × List (List Nat × List Nat) := (true, [([], []), ([0], [0]), ([], []), ([], []), ([], []), ([4, 1], [4]), ([], []), ([], []), ([], []), ([8, 5], [8]), ([1, 2, 3, 5, 6, 7, 9, 9], [1, 2, 3, 5, 6, 7, 9]), ([10, 10, 0, 1, 2, 3, 4, 5, 6, 7, 8, 9, 10], [10])])
def laws_FnExactForestDist.B11 : List Nat := [0, 1, 0, 0, 0, 19, 0, 0, 0, 307, 1023, 2047]
theorem laws_FnExactForestDist.tab11 : rtab .any (opsOf Try.f3 11) = laws_FnExactForestDist.T11 := by kernel_rfl
theorem laws_FnExactForestDist.bits11 : waitsOk laws_FnExactForestDist.T11.2 laws_FnExactForestDist.B11 = true := by kernel_rfl
set_option maxHeartbeats 8000000 in
set_option maxRecDepth 100000 in
theorem laws_FnExactForestDist.calls (k : Nat) (A0 : Option Addr) (c0 : Nat) (l0 : List (S66)) (a1 : Int) (a2 : Int) (A3 : Option Addr) (c3 : Nat) (l3 : List (S66)) (a4 : Int) (a5 : Int) (A6_0 : Option Addr) (c6_0 : Nat) (l6_0 : List Int) (A6_1 : Option Addr) (c6_1 : Nat) (l6_1 : List Int) (A6_2 : Option Addr) (c6_2 : Nat) (l6_2 : List Int) (w : World) (hr0 : Kd.C k66 w A0 l0.length l0) (hc0 : l0.length ≤ c0) (hr3 : Kd.C k66 w A3 l3.length l3) (hc3 : l3.length ≤ c3) (hr6_0 : Kd.C (Kd.int .i64) w A6_0 l6_0.length l6_0) (hc6_0 : l6_0.length ≤ c6_0) (hr6_1 : Kd.C (Kd.int .i64) w A6_1 l6_1.length l6_1) (hc6_1 : l6_1.length ≤ c6_1) (hr6_2 : Kd.C (Kd.int .i64) w A6_2 l6_2.length l6_2) (hc6_2 : l6_2.length ≤ c6_2) (h : laws_FnExactForestDist.f k l0 a1 a2 l3 a4 a5 l6_0 l6_1 l6_2 = some true) :
  Calls Try.prog 3 #[.slice A0 l0.length c0, .int .i64 a1, .int .i64 a2, .slice A3 l3.length c3, .int .i64 a4, .int .i64 a5, .agg #[.slice A6_0 l6_0.length c6_0, .slice A6_1 l6_1.length c6_1, .slice A6_2 l6_2.length c6_2]] w fun e w' => e = .returned (.bool true) ∧ Below w.heap.size w w' := by
 have hu25 := Try.underlying25
 have hu31 := Try.underlying31
 have HR0 := Aside0.mk hr0
 have HC0 := Aside0.mk hc0
 clear hr0 hc0
 have HR3 := Aside0.mk hr3
 have HC3 := Aside0.mk hc3
 clear hr3 hc3
 have HR6_0 := Aside0.mk hr6_0
 have HC6_0 := Aside0.mk hc6_0
 clear hr6_0 hc6_0
 have HR6_1 := Aside0.mk hr6_1
 have HC6_1 := Aside0.mk hc6_1
 clear hr6_1 hc6_1
 have HR6_2 := Aside0.mk hr6_2
 have HC6_2 := Aside0.mk hc6_2
 clear hr6_2 hc6_2
 have HB := Aside0.mk (Below.refl w.heap.size w)
 have H : ((laws_szNodeS.f l0 1048576).bind fun t357 => (if t357 < 0 then (some true) else ((laws_szNodeS.f l3 t357).bind fun t358 => (if t358 < 0 then (some true) else ((laws_szCost.f l6_0 l6_1 l6_2 t358).bind fun t359 => (if t359 < 0 then (some true) else ((laws_toNodeS.f k l0).bind fun t360 => ((laws_toNodeS.f k l3).bind fun t363 => ((laws_toCost.f k l6_0 l6_1 l6_2).bind fun bt366 => ((spec_ForestDist.f k t360 a1 a2 t363 a4 a5 bt366.1 bt366.2.1 bt366.2.2).bind fun t375 => ((laws_toNodeS.f k l0).bind fun t376 => ((laws_toNodeS.f k l3).bind fun t379 => ((laws_toCost.f k l6_0 l6_1 l6_2).bind fun bt382 => ((impl_ForestDist.f k t376 a1 a2 t379 a4 a5 bt382.1 bt382.2.1 bt382.2.2).bind fun t392 => (if t392 = t375 then ((laws_toNodeS.f k l0).bind fun t393 => ((laws_eqNodeS.f k t376 t393).bind fun t396 => (if t396 = true then ((laws_toNodeS.f k l3).bind fun t397 => ((laws_eqNodeS.f k t379 t397).bind fun t400 => (if t400 = true then ((laws_toCost.f k l6_0 l6_1 l6_2).bind fun bt401 => ((laws_eqCost.f k bt382.1 bt382.2.1 bt382.2.2 bt401.1 bt401.2.1 bt401.2.2).bind fun t410 => (if t410 = true then (some true) else (some false)))) else (some false)))) else (some false)))) else (some false)))))))))))))))) = some true := h
 clear h
 replace H := Option.bind_eq_some_iff.mp H
 obtain ⟨t357, A80, H⟩ := H
 try dsimp only at H
 have A8 := Aside0.mk A80
 clear A80
 by_cases c9 : t357 < 0
 ·rw [if_pos c9] at H
  have c9b0 : decide (t357 < 0) = true := decide_eq_true c9
  clear c9
  clear H
  go_enter Try.func3, Try.ntmps3
  go_wp2_with (first | ((with_reducible refine gate_dst (N := 13) rfl ?_); refine box_event ?hg (N := 13) ?hd (cs := #[.slice A6_0 l6_0.length c6_0, .slice A6_1 l6_1.length c6_1, .slice A6_2 l6_2.length c6_2]) (t := 25) ?hr ?_; (case hd => rfl); (case hg => rfl); (case hr => first | (go_simp; done) | (go_simp; rfl)); intro gb356 hg w10 hbox hb; have n0_ := Aside0.mk (below_step (by repeat (first | (with_reducible first | exact HB.out | apply below_alloc | apply pw_below_drewN | apply below_drew1) | exact HB.out)) hb); have n1_ := Aside0.mk (hbox); have n2_ := Aside0.mk ((by rw [hg]; exact (below_size (by repeat (first | (with_reducible first | exact HB.out | apply below_alloc | apply pw_below_drewN | apply below_drew1) | exact HB.out))) : w.heap.size ≤ gb356)); have n3_ := Aside0.mk ((by rw [hg]; exact (below_size (by repeat (first | (with_reducible first | exact HB.out | apply below_alloc | apply pw_below_drewN | apply below_drew1) | exact HB.out))) : w.heap.size ≤ gb356)); clear HB; have HB := n0_; have BK356 := n1_; have GW356 := n2_; have GE356 := n3_; clear n0_ n1_ n2_ n3_; clear hb hbox hg) | ((with_reducible refine gate_callee (f := 12) rfl ?_); refine goesL_ (some 23) rfl rfl Try.func12 (by kernel_rfl) rfl #[.slice A0 l0.length c0, .int .i64 1048576] rfl (by (try simp only [List.map_toArray, List.map_cons, List.map_nil]); first | done | rfl | (simp only [List.length_drop, List.length_take]; rfl)) ?_; (with_reducible refine (laws_szNodeS.calls _ _ l0 1048576 t357 _ ?side1 ?side2 A8.out).mono ?_); (case side1 => repeat (first | exact (Kd.C_below HR0.out HB.out) | (with_reducible refine Kd.C_alloc ?_ _) | (with_reducible refine Kd.C_drewN ?_ _) | (with_reducible refine Kd.C_drew ?_))); (case side2 => exact HC0.out); rintro e w' ⟨rfl, ⟨nd, rfl⟩⟩; refine ⟨_, rfl, ?_⟩))
  go_ret
  exact ⟨by first | rfl | (simp [errW_none, errW_some] <;> rfl) | (simp [*, errW_none, errW_some] <;> rfl), by repeat (first | (with_reducible first | exact HB.out | apply below_alloc | apply pw_below_drewN | apply below_drew1 | refine below_set ?_ GE356.out) | exact HB.out)⟩
 ·rw [if_neg c9] at H
  have c9b0 : decide (t357 < 0) = false := decide_eq_false c9
  clear c9
  replace H := Option.bind_eq_some_iff.mp H
  obtain ⟨t358, A110, H⟩ := H
  try dsimp only at H
  have A11 := Aside0.mk A110
  clear A110
  by_cases c12 : t358 < 0
  ·rw [if_pos c12] at H
   have c12b0 : decide (t358 < 0) = true := decide_eq_true c12
   clear c12
   clear H
   go_enter Try.func3, Try.ntmps3
   go_wp2_with (first | ((with_reducible refine gate_dst (N := 13) rfl ?_); refine box_event ?hg (N := 13) ?hd (cs := #[.slice A6_0 l6_0.length c6_0, .slice A6_1 l6_1.length c6_1, .slice A6_2 l6_2.length c6_2]) (t := 25) ?hr ?_; (case hd => rfl); (case hg => rfl); (case hr => first | (go_simp; done) | (go_simp; rfl)); intro gb356 hg w13 hbox hb; have n0_ := Aside0.mk (below_step (by repeat (first | (with_reducible first | exact HB.out | apply below_alloc | apply pw_below_drewN | apply below_drew1) | exact HB.out)) hb); have n1_ := Aside0.mk (hbox); have n2_ := Aside0.mk ((by rw [hg]; exact (below_size (by repeat (first | (with_reducible first | exact HB.out | apply below_alloc | apply pw_below_drewN | apply below_drew1) | exact HB.out))) : w.heap.size ≤ gb356)); have n3_ := Aside0.mk ((by rw [hg]; exact (below_size (by repeat (first | (with_reducible first | exact HB.out | apply below_alloc | apply pw_below_drewN | apply below_drew1) | exact HB.out))) : w.heap.size ≤ gb356)); clear HB; have HB := n0_; have BK356 := n1_; have GW356 := n2_; have GE356 := n3_; clear n0_ n1_ n2_ n3_; clear hb hbox hg) | ((with_reducible refine gate_callee (f := 12) rfl ?_); refine goesL_ (some 23) rfl rfl Try.func12 (by kernel_rfl) rfl #[.slice A0 l0.length c0, .int .i64 1048576] rfl (by (try simp only [List.map_toArray, List.map_cons, List.map_nil]); first | done | rfl | (simp only [List.length_drop, List.length_take]; rfl)) ?_; (with_reducible refine (laws_szNodeS.calls _ _ l0 1048576 t357 _ ?side1 ?side2 A8.out).mono ?_); (case side1 => repeat (first | exact (Kd.C_below HR0.out HB.out) | (with_reducible refine Kd.C_alloc ?_ _) | (with_reducible refine Kd.C_drewN ?_ _) | (with_reducible refine Kd.C_drew ?_))); (case side2 => exact HC0.out); rintro e w' ⟨rfl, ⟨nd, rfl⟩⟩; refine ⟨_, rfl, ?_⟩) | ((with_reducible refine gate_callee (f := 12) rfl ?_); refine goesL_ (some 28) rfl rfl Try.func12 (by kernel_rfl) rfl #[.slice A3 l3.length c3, .int .i64 t357] rfl (by (try simp only [List.map_toArray, List.map_cons, List.map_nil]); first | done | rfl | (simp only [List.length_drop, List.length_take]; rfl)) ?_; (with_reducible refine (laws_szNodeS.calls _ _ l3 t357 t358 _ ?side1 ?side2 A11.out).mono ?_); (case side1 => repeat (first | exact (Kd.C_below HR3.out (by repeat (first | (with_reducible first | exact HB.out | apply below_alloc | apply pw_below_drewN | apply below_drew1 | refine below_set ?_ GE356.out) | exact HB.out))) | (with_reducible refine Kd.C_alloc ?_ _) | (with_reducible refine Kd.C_drewN ?_ _) | (with_reducible refine Kd.C_drew ?_))); (case side2 => exact HC3.out); rintro e w' ⟨rfl, ⟨nd, rfl⟩⟩; refine ⟨_, rfl, ?_⟩))
   go_ret
   exact ⟨by first | rfl | (simp [errW_none, errW_some] <;> rfl) | (simp [*, errW_none, errW_some] <;> rfl), by repeat (first | (with_reducible first | exact HB.out | apply below_alloc | apply pw_below_drewN | apply below_drew1 | refine below_set ?_ GE356.out) | exact HB.out)⟩
  ·rw [if_neg c12] at H
   have c12b0 : decide (t358 < 0) = false := decide_eq_false c12
   clear c12
   replace H := Option.bind_eq_some_iff.mp H
   obtain ⟨t359, A140, H⟩ := H
   try dsimp only at H
   have A14 := Aside0.mk A140
   clear A140
   by_cases c15 : t359 < 0
   ·rw [if_pos c15] at H
    have c15b0 : decide (t359 < 0) = true := decide_eq_true c15
    clear c15
    clear H
    go_enter Try.func3, Try.ntmps3
    go_wp2_with (first | ((with_reducible refine gate_dst (N := 13) rfl ?_); refine box_event ?hg (N := 13) ?hd (cs := #[.slice A6_0 l6_0.length c6_0, .slice A6_1 l6_1.length c6_1, .slice A6_2 l6_2.length c6_2]) (t := 25) ?hr ?_; (case hd => rfl); (case hg => rfl); (case hr => first | (go_simp; done) | (go_simp; rfl)); intro gb356 hg w16 hbox hb; have n0_ := Aside0.mk (below_step (by repeat (first | (with_reducible first | exact HB.out | apply below_alloc | apply pw_below_drewN | apply below_drew1) | exact HB.out)) hb); have n1_ := Aside0.mk (hbox); have n2_ := Aside0.mk ((by rw [hg]; exact (below_size (by repeat (first | (with_reducible first | exact HB.out | apply below_alloc | apply pw_below_drewN | apply below_drew1) | exact HB.out))) : w.heap.size ≤ gb356)); have n3_ := Aside0.mk ((by rw [hg]; exact (below_size (by repeat (first | (with_reducible first | exact HB.out | apply below_alloc | apply pw_below_drewN | apply below_drew1) | exact HB.out))) : w.heap.size ≤ gb356)); clear HB; have HB := n0_; have BK356 := n1_; have GW356 := n2_; have GE356 := n3_; clear n0_ n1_ n2_ n3_; clear hb hbox hg) | ((with_reducible refine gate_callee (f := 12) rfl ?_); refine goesL_ (some 23) rfl rfl Try.func12 (by kernel_rfl) rfl #[.slice A0 l0.length c0, .int .i64 1048576] rfl (by (try simp only [List.map_toArray, List.map_cons, List.map_nil]); first | done | rfl | (simp only [List.length_drop, List.length_take]; rfl)) ?_; (with_reducible refine (laws_szNodeS.calls _ _ l0 1048576 t357 _ ?side1 ?side2 A8.out).mono ?_); (case side1 => repeat (first | exact (Kd.C_below HR0.out HB.out) | (with_reducible refine Kd.C_alloc ?_ _) | (with_reducible refine Kd.C_drewN ?_ _) | (with_reducible refine Kd.C_drew ?_))); (case side2 => exact HC0.out); rintro e w' ⟨rfl, ⟨nd, rfl⟩⟩; refine ⟨_, rfl, ?_⟩) | ((with_reducible refine gate_callee (f := 12) rfl ?_); refine goesL_ (some 28) rfl rfl Try.func12 (by kernel_rfl) rfl #[.slice A3 l3.length c3, .int .i64 t357] rfl (by (try simp only [List.map_toArray, List.map_cons, List.map_nil]); first | done | rfl | (simp only [List.length_drop, List.length_take]; rfl)) ?_; (with_reducible refine (laws_szNodeS.calls _ _ l3 t357 t358 _ ?side1 ?side2 A11.out).mono ?_); (case side1 => repeat (first | exact (Kd.C_below HR3.out (by repeat (first | (with_reducible first | exact HB.out | apply below_alloc | apply pw_below_drewN | apply below_drew1 | refine below_set ?_ GE356.out) | exact HB.out))) | (with_reducible refine Kd.C_alloc ?_ _) | (with_reducible refine Kd.C_drewN ?_ _) | (with_reducible refine Kd.C_drew ?_))); (case side2 => exact HC3.out); rintro e w' ⟨rfl, ⟨nd, rfl⟩⟩; refine ⟨_, rfl, ?_⟩; have hcz17_0 : w16.cell? ⟨gb356, 0, none⟩ = some (.slice A6_0 l6_0.length c6_0) := (blk_cell BK356.out 0).trans rfl; have hcz17_1 : w16.cell? ⟨gb356, 1, none⟩ = some (.slice A6_1 l6_1.length c6_1) := (blk_cell BK356.out 1).trans rfl; have hcz17_2 : w16.cell? ⟨gb356, 2, none⟩ = some (.slice A6_2 l6_2.length c6_2) := (blk_cell BK356.out 2).trans rfl; have hfz17_0 := blk_frozen BK356.out 0; have hfz17_1 := blk_frozen BK356.out 1; have hfz17_2 := blk_frozen BK356.out 2) | ((with_reducible refine gate_callee (f := 13) rfl ?_); refine goesL_ (some 33) rfl rfl Try.func13 (by kernel_rfl) rfl #[.agg #[.slice A6_0 l6_0.length c6_0, .slice A6_1 l6_1.length c6_1, .slice A6_2 l6_2.length c6_2], .int .i64 t358] rfl (by (try simp only [List.map_toArray, List.map_cons, List.map_nil]); first | done | rfl | (simp only [List.length_drop, List.length_take]; rfl)) ?_; (with_reducible refine (laws_szCost.calls _ _ l6_0 _ _ l6_1 _ _ l6_2 t358 t359 _ ?side1 ?side2 ?side3 ?side4 ?side5 ?side6 A14.out).mono ?_); (case side1 => repeat (first | exact (Kd.C_below HR6_0.out (by repeat (first | (with_reducible first | exact HB.out | apply below_alloc | apply pw_below_drewN | apply below_drew1 | refine below_set ?_ GE356.out) | exact HB.out))) | (with_reducible refine Kd.C_alloc ?_ _) | (with_reducible refine Kd.C_drewN ?_ _) | (with_reducible refine Kd.C_drew ?_))); (case side2 => exact HC6_0.out); (case side3 => repeat (first | exact (Kd.C_below HR6_1.out (by repeat (first | (with_reducible first | exact HB.out | apply below_alloc | apply pw_below_drewN | apply below_drew1 | refine below_set ?_ GE356.out) | exact HB.out))) | (with_reducible refine Kd.C_alloc ?_ _) | (with_reducible refine Kd.C_drewN ?_ _) | (with_reducible refine Kd.C_drew ?_))); (case side4 => exact HC6_1.out); (case side5 => repeat (first | exact (Kd.C_below HR6_2.out (by repeat (first | (with_reducible first | exact HB.out | apply below_alloc | apply pw_below_drewN | apply below_drew1 | refine below_set ?_ GE356.out) | exact HB.out))) | (with_reducible refine Kd.C_alloc ?_ _) | (with_reducible refine Kd.C_drewN ?_ _) | (with_reducible refine Kd.C_drew ?_))); (case side6 => exact HC6_2.out); rintro e w18 ⟨rfl, hb⟩; refine ⟨_, rfl, ?_⟩; have n0_ := Aside0.mk (blk_below (g := gb356) (o := .cells #[.slice A6_0 l6_0.length c6_0, .slice A6_1 l6_1.length c6_1, .slice A6_2 l6_2.length c6_2] 25 (0, 0)) (by (with_reducible repeat (first | refine blk_drewN ?_ _ | refine blk_drew ?_ | refine blk_alloc ?_ _)); exact BK356.out) hb); have n1_ := Aside0.mk (below_step (by repeat (first | (with_reducible first | exact HB.out | apply below_alloc | apply pw_below_drewN | apply below_drew1 | refine below_set ?_ GE356.out) | exact HB.out)) hb); clear BK356; clear HB; have BK356 := n0_; have HB := n1_; clear n0_ n1_; (try clear hb); (try clear hb2); (try clear hk); (try clear hi)))
    go_ret
    exact ⟨by first | rfl | (simp [errW_none, errW_some] <;> rfl) | (simp [*, errW_none, errW_some] <;> rfl), by repeat (first | (with_reducible first | exact HB.out | apply below_alloc | apply pw_below_drewN | apply below_drew1 | refine below_set ?_ GE356.out) | exact HB.out)⟩
   ·rw [if_neg c15] at H
    have c15b0 : decide (t359 < 0) = false := decide_eq_false c15
    clear c15
    replace H := Option.bind_eq_some_iff.mp H
    obtain ⟨t360, A190, H⟩ := H
    try dsimp only at H
    have A19 := Aside0.mk A190
    clear A190
    replace H := Option.bind_eq_some_iff.mp H
    obtain ⟨t363, A200, H⟩ := H
    try dsimp only at H
    have A20 := Aside0.mk A200
    clear A200
    replace H := Option.bind_eq_some_iff.mp H
    obtain ⟨⟨t366, t369, t372⟩, A210, H⟩ := H
    try dsimp only at H
    have A21 := Aside0.mk A210
    clear A210
    replace H := Option.bind_eq_some_iff.mp H
    obtain ⟨t375, A220, H⟩ := H
    try dsimp only at H
    have A22 := Aside0.mk A220
    clear A220
    replace H := Option.bind_eq_some_iff.mp H
    obtain ⟨t376, A230, H⟩ := H
    try dsimp only at H
    have A23 := Aside0.mk A230
    clear A230
    replace H := Option.bind_eq_some_iff.mp H
    obtain ⟨t379, A240, H⟩ := H
    try dsimp only at H
    have A24 := Aside0.mk A240
    clear A240
    replace H := Option.bind_eq_some_iff.mp H
    obtain ⟨⟨t382, t385, t388⟩, A250, H⟩ := H
    try dsimp only at H
    have A25 := Aside0.mk A250
    clear A250
    replace H := Option.bind_eq_some_iff.mp H
    obtain ⟨t392, A260, H⟩ := H
    try dsimp only at H
    have A26 := Aside0.mk A260
    clear A260
    by_cases c27 : t392 = t375
    ·rw [if_pos c27] at H
     have c27b0 : (t392 == t375) = true := beq_iff_eq.mpr c27
     have c27b1 : (t392 != t375) = false := bne_eq_false_iff_eq.mpr c27
     clear c27
     replace H := Option.bind_eq_some_iff.mp H
     obtain ⟨t393, A280, H⟩ := H
     try dsimp only at H
     have A28 := Aside0.mk A280
     clear A280
     replace H := Option.bind_eq_some_iff.mp H
     obtain ⟨t396, A290, H⟩ := H
     try dsimp only at H
     have A29 := Aside0.mk A290
     clear A290
     by_cases c30 : t396 = true
     ·subst c30
      have H1 : ((laws_toNodeS.f k l3).bind fun t397 => ((laws_eqNodeS.f k t379 t397).bind fun t400 => (if t400 = true then ((laws_toCost.f k l6_0 l6_1 l6_2).bind fun bt401 => ((laws_eqCost.f k t382 t385 t388 bt401.1 bt401.2.1 bt401.2.2).bind fun t410 => (if t410 = true then (some true) else (some false)))) else (some false)))) = some true := by rw [if_pos rfl] at H; exact H
      clear H
      have H := H1
      clear H1
      replace H := Option.bind_eq_some_iff.mp H
      obtain ⟨t397, A310, H⟩ := H
      try dsimp only at H
      have A31 := Aside0.mk A310
      clear A310
      replace H := Option.bind_eq_some_iff.mp H
      obtain ⟨t400, A320, H⟩ := H
      try dsimp only at H
      have A32 := Aside0.mk A320
      clear A320
      by_cases c33 : t400 = true
      ·subst c33
       have H1 : ((laws_toCost.f k l6_0 l6_1 l6_2).bind fun bt401 => ((laws_eqCost.f k t382 t385 t388 bt401.1 bt401.2.1 bt401.2.2).bind fun t410 => (if t410 = true then (some true) else (some false)))) = some true := by rw [if_pos rfl] at H; exact H
       clear H
       have H := H1
       clear H1
       replace H := Option.bind_eq_some_iff.mp H
       obtain ⟨⟨t401, t404, t407⟩, A340, H⟩ := H
       replace H : ((laws_eqCost.f k t382 t385 t388 t401 t404 t407).bind fun t410 => (if t410 = true then (some true) else (some false))) = some true := H
       have A34 := Aside0.mk A340
       clear A340
       replace H := Option.bind_eq_some_iff.mp H
       obtain ⟨t410, A350, H⟩ := H
       replace H : (if t410 = true then (some true) else (some false)) = some true := H
       have A35 := Aside0.mk A350
       clear A350
       by_cases c36 : t410 = true
       ·subst c36
        have H1 : (some true) = some true := rfl
        clear H
        have H := H1
        clear H1
        clear H
        go_enter Try.func3, Try.ntmps3
        try go_wp2_with (first | ((with_reducible refine gate_dst (N := 13) rfl ?_); refine box_event ?hg (N := 13) ?hd (cs := #[.slice A6_0 l6_0.length c6_0, .slice A6_1 l6_1.length c6_1, .slice A6_2 l6_2.length c6_2]) (t := 25) ?hr ?_; (case hd => rfl); (case hg => rfl); (case hr => first | (go_simp; done) | (go_simp; rfl)); intro gb356 hg w37 hbox hb; have n0_ := Aside0.mk (below_step (by repeat (first | (with_reducible first | exact HB.out | apply below_alloc | apply pw_below_drewN | apply below_drew1) | exact HB.out)) hb); have n1_ := Aside0.mk (hbox); have n2_ := Aside0.mk ((by rw [hg]; exact (below_size (by repeat (first | (with_reducible first | exact HB.out | apply below_alloc | apply pw_below_drewN | apply below_drew1) | exact HB.out))) : w.heap.size ≤ gb356)); have n3_ := Aside0.mk ((by rw [hg]; exact (below_size (by repeat (first | (with_reducible first | exact HB.out | apply below_alloc | apply pw_below_drewN | apply below_drew1) | exact HB.out))) : w.heap.size ≤ gb356)); clear HB; have HB := n0_; have BK356 := n1_; have GW356 := n2_; have GE356 := n3_; clear n0_ n1_ n2_ n3_; clear hb hbox hg) | ((with_reducible refine gate_callee (f := 12) rfl ?_); refine goesL_ (some 23) rfl rfl Try.func12 (by kernel_rfl) rfl #[.slice A0 l0.length c0, .int .i64 1048576] rfl (by (try simp only [List.map_toArray, List.map_cons, List.map_nil]); first | done | rfl | (simp only [List.length_drop, List.length_take]; rfl)) ?_; (with_reducible refine (laws_szNodeS.calls _ _ l0 1048576 t357 _ ?side1 ?side2 A8.out).mono ?_); (case side1 => repeat (first | exact (Kd.C_below HR0.out HB.out) | (with_reducible refine Kd.C_alloc ?_ _) | (with_reducible refine Kd.C_drewN ?_ _) | (with_reducible refine Kd.C_drew ?_))); (case side2 => exact HC0.out); rintro e w' ⟨rfl, ⟨nd, rfl⟩⟩; refine ⟨_, rfl, ?_⟩; (try (rw [drewN_self w37]; generalize hq_ : World.drewN w37 _ = w37; have n0_ : Aside0 (w37.heap[gb356]? = some (.cells #[.slice A6_0 l6_0.length c6_0, .slice A6_1 l6_1.length c6_1, .slice A6_2 l6_2.length c6_2] 25 (0, 0))) := ⟨by rw [← hq_]; exact (by (with_reducible repeat (first | refine blk_drewN ?_ _ | refine blk_drew ?_ | refine blk_alloc ?_ _)); exact BK356.out)⟩; have n1_ : Aside0 (Below w.heap.size w w37) := ⟨by rw [← hq_]; exact (by repeat (first | (with_reducible first | exact HB.out | apply below_alloc | apply pw_below_drewN | apply below_drew1 | refine below_set ?_ GE356.out) | exact HB.out))⟩; clear BK356 HB hq_; have BK356 := n0_; have HB := n1_; clear n0_ n1_))) | ((with_reducible refine gate_callee (f := 12) rfl ?_); refine goesL_ (some 28) rfl rfl Try.func12 (by kernel_rfl) rfl #[.slice A3 l3.length c3, .int .i64 t357] rfl (by (try simp only [List.map_toArray, List.map_cons, List.map_nil]); first | done | rfl | (simp only [List.length_drop, List.length_take]; rfl)) ?_; (with_reducible refine (laws_szNodeS.calls _ _ l3 t357 t358 _ ?side1 ?side2 A11.out).mono ?_); (case side1 => repeat (first | exact (Kd.C_below HR3.out HB.out) | (with_reducible refine Kd.C_alloc ?_ _) | (with_reducible refine Kd.C_drewN ?_ _) | (with_reducible refine Kd.C_drew ?_))); (case side2 => exact HC3.out); rintro e w' ⟨rfl, ⟨nd, rfl⟩⟩; refine ⟨_, rfl, ?_⟩; (try (rw [drewN_self w37]; generalize hq_ : World.drewN w37 _ = w37; have n0_ : Aside0 (w37.heap[gb356]? = some (.cells #[.slice A6_0 l6_0.length c6_0, .slice A6_1 l6_1.length c6_1, .slice A6_2 l6_2.length c6_2] 25 (0, 0))) := ⟨by rw [← hq_]; exact (by (with_reducible repeat (first | refine blk_drewN ?_ _ | refine blk_drew ?_ | refine blk_alloc ?_ _)); exact BK356.out)⟩; have n1_ : Aside0 (Below w.heap.size w w37) := ⟨by rw [← hq_]; exact (by repeat (first | (with_reducible first | exact HB.out | apply below_alloc | apply pw_below_drewN | apply below_drew1 | refine below_set ?_ GE356.out) | exact HB.out))⟩; clear BK356 HB hq_; have BK356 := n0_; have HB := n1_; clear n0_ n1_)); have hcz38_0 : w37.cell? ⟨gb356, 0, none⟩ = some (.slice A6_0 l6_0.length c6_0) := (blk_cell BK356.out 0).trans rfl; have hcz38_1 : w37.cell? ⟨gb356, 1, none⟩ = some (.slice A6_1 l6_1.length c6_1) := (blk_cell BK356.out 1).trans rfl; have hcz38_2 : w37.cell? ⟨gb356, 2, none⟩ = some (.slice A6_2 l6_2.length c6_2) := (blk_cell BK356.out 2).trans rfl; have hfz38_0 := blk_frozen BK356.out 0; have hfz38_1 := blk_frozen BK356.out 1; have hfz38_2 := blk_frozen BK356.out 2) | ((with_reducible refine gate_callee (f := 13) rfl ?_); refine goesL_ (some 33) rfl rfl Try.func13 (by kernel_rfl) rfl #[.agg #[.slice A6_0 l6_0.length c6_0, .slice A6_1 l6_1.length c6_1, .slice A6_2 l6_2.length c6_2], .int .i64 t358] rfl (by (try simp only [List.map_toArray, List.map_cons, List.map_nil]); first | done | rfl | (simp only [List.length_drop, List.length_take]; rfl)) ?_; (with_reducible refine (laws_szCost.calls _ _ l6_0 _ _ l6_1 _ _ l6_2 t358 t359 _ ?side1 ?side2 ?side3 ?side4 ?side5 ?side6 A14.out).mono ?_); (case side1 => repeat (first | exact (Kd.C_below HR6_0.out HB.out) | (with_reducible refine Kd.C_alloc ?_ _) | (with_reducible refine Kd.C_drewN ?_ _) | (with_reducible refine Kd.C_drew ?_))); (case side2 => exact HC6_0.out); (case side3 => repeat (first | exact (Kd.C_below HR6_1.out HB.out) | (with_reducible refine Kd.C_alloc ?_ _) | (with_reducible refine Kd.C_drewN ?_ _) | (with_reducible refine Kd.C_drew ?_))); (case side4 => exact HC6_1.out); (case side5 => repeat (first | exact (Kd.C_below HR6_2.out HB.out) | (with_reducible refine Kd.C_alloc ?_ _) | (with_reducible refine Kd.C_drewN ?_ _) | (with_reducible refine Kd.C_drew ?_))); (case side6 => exact HC6_2.out); rintro e w39 ⟨rfl, hb⟩; refine ⟨_, rfl, ?_⟩; have n0_ := Aside0.mk (blk_below (g := gb356) (o := .cells #[.slice A6_0 l6_0.length c6_0, .slice A6_1 l6_1.length c6_1, .slice A6_2 l6_2.length c6_2] 25 (0, 0)) (by (with_reducible repeat (first | refine blk_drewN ?_ _ | refine blk_drew ?_ | refine blk_alloc ?_ _)); exact BK356.out) hb); have n1_ := Aside0.mk (below_step (by repeat (first | (with_reducible first | exact HB.out | apply below_alloc | apply pw_below_drewN | apply below_drew1 | refine below_set ?_ GE356.out) | exact HB.out)) hb); clear BK356; clear HB; have BK356 := n0_; have HB := n1_; clear n0_ n1_; (try clear hb); (try clear hb2); (try clear hk); (try clear hi)))
        have n0_ := Aside0.mk (blk_drew BK356.out)
        have n1_ := Aside0.mk (below_drew1 HB.out)
        clear BK356
        clear HB
        have BK356 := n0_
        have HB := n1_
        clear n0_ n1_
        refine start_ (n := 12) (S := fun w' => w'.cell? ⟨gb356, 0, none⟩ = some (.slice A6_0 l6_0.length c6_0) ∧ w'.cell? ⟨gb356, 1, none⟩ = some (.slice A6_1 l6_1.length c6_1) ∧ w'.cell? ⟨gb356, 2, none⟩ = some (.slice A6_2 l6_2.length c6_2)) (ds := []) (ba_ 12 0) (by kernel_rfl) rfl rfl ⟨(blk_cell BK356.out 0).trans rfl, (blk_cell BK356.out 1).trans rfl, (blk_cell BK356.out 2).trans rfl⟩ (fun hHeld => ?_); refine with_tabW laws_FnExactForestDist.tab11 laws_FnExactForestDist.bits11 (fun HT_ HW_ => ?_)
        generalize w39.drew = w40 at BK356 HB hHeld ⊢
        refine pu_ 0 (some 36) (ba_ 12 1) rfl rfl (any_of HT_.out (by kernel_rfl)) ?_
        refine pu_ 2 (some 38) (ba_ 12 5) rfl rfl (any_of HT_.out (by kernel_rfl)) ?_
        refine pu_ 3 (some 39) (ba_ 12 13) rfl rfl (any_of HT_.out (by kernel_rfl)) ?_
        refine pu_ 4 (some 40) (ba_ 12 29) rfl rfl (any_of HT_.out (by kernel_rfl)) ?_
        refine pu_ 6 (some 42) (ba_ 12 93) rfl rfl (any_of HT_.out (by kernel_rfl)) ?_
        refine pu_ 7 (some 43) (ba_ 12 221) rfl rfl (any_of HT_.out (by kernel_rfl)) ?_
        refine ta_ 8 (some 44) (ba_ 12 477) rfl rfl (take_ofW HT_.out HW_.out (by kernel_rfl)) hHeld (by rintro w' ⟨s0, s1, s2⟩; go_simp; with_reducible rfl) ?_
        refine one_ (i := 1) (N := some 37) (ba_ 12 479) rfl rfl (one_of HT_.out (by kernel_rfl)) (by decide) (fun K hK => ?_)
        refine goes_ Try.func15 (by kernel_rfl) rfl #[.slice A0 l0.length c0] (by rfl) rfl rfl (by (try simp only [List.map_toArray, List.map_cons, List.map_nil]); first | done | rfl | (simp only [List.length_drop, List.length_take]; rfl)) ?_
        with_reducible refine (laws_toNodeS.calls k _ _ l0 t360 _ ?side1 ?side2 A19.out).mono ?_
        (case side1 => repeat (first | exact (Kd.C_below HR0.out HB.out) | (with_reducible refine Kd.C_alloc ?_ _) | (with_reducible refine Kd.C_drewN ?_ _) | (with_reducible refine Kd.C_drew ?_)))
        (case side2 => exact HC0.out)
        rintro e w41 ⟨v361, rfl, ho0, hb⟩
        refine ⟨_, rfl, ?_⟩
        have n0_ := Aside0.mk (Kd.R_lower ho0 (below_size (by repeat (first | (with_reducible first | exact HB.out | apply below_alloc | apply pw_below_drewN | apply below_drew1 | refine below_set ?_ GE356.out) | exact HB.out))))
        have n1_ := Aside0.mk (blk_below (g := gb356) (o := .cells #[.slice A6_0 l6_0.length c6_0, .slice A6_1 l6_1.length c6_1, .slice A6_2 l6_2.length c6_2] 25 (0, 0)) (by (with_reducible repeat (first | refine blk_drewN ?_ _ | refine blk_drew ?_ | refine blk_alloc ?_ _)); exact BK356.out) hb)
        have n2_ := Aside0.mk (below_step (by repeat (first | (with_reducible first | exact HB.out | apply below_alloc | apply pw_below_drewN | apply below_drew1 | refine below_set ?_ GE356.out) | exact HB.out)) hb)
        clear BK356
        clear HB
        have HO362 := n0_
        have BK356 := n1_
        have HB := n2_
        clear n0_ n1_ n2_
        (try clear hb)
        (try clear hb2)
        (try clear hk)
        (try clear hi)
        (try clear ho0)
        refine hK.out _ _ ⟨(blk_cell BK356.out 0).trans rfl, (blk_cell BK356.out 1).trans rfl, (blk_cell BK356.out 2).trans rfl⟩ (fun hHeld => ?_)
        clear hK K
        refine norm_ (a' := ?_) ?_ ?_
        rotate_left
        ·show Act.put _ (some 37) _ = _
         simp only [Act.put, List.setIfInBounds_toArray, List.set_cons_zero, List.set_cons_succ, i64_w, i32_w]
         rfl
        refine one_ (i := 5) (N := some 41) (ba_ 12 511) rfl rfl (one_of HT_.out (by kernel_rfl)) (by decide) (fun K hK => ?_)
        refine goes_ Try.func15 (by kernel_rfl) rfl #[.slice A3 l3.length c3] (by rfl) rfl rfl (by (try simp only [List.map_toArray, List.map_cons, List.map_nil]); first | done | rfl | (simp only [List.length_drop, List.length_take]; rfl)) ?_
        with_reducible refine (laws_toNodeS.calls k _ _ l3 t363 _ ?side1 ?side2 A20.out).mono ?_
        (case side1 => repeat (first | exact (Kd.C_below HR3.out HB.out) | (with_reducible refine Kd.C_alloc ?_ _) | (with_reducible refine Kd.C_drewN ?_ _) | (with_reducible refine Kd.C_drew ?_)))
        (case side2 => exact HC3.out)
        rintro e w42 ⟨v364, rfl, ho0, hb⟩
        refine ⟨_, rfl, ?_⟩
        have n0_ := Aside0.mk (Kd.R_elder' (by (with_reducible repeat (first | apply Kd.R_alloc | apply Kd.R_drewN | apply Kd.R_drew)); exact HO362.out) (Kd.R_base ho0) hb)
        have n1_ := Aside0.mk (Kd.R_lower (Kd.R_new' ho0 (Kd.R_lt (by (with_reducible repeat (first | apply Kd.R_alloc | apply Kd.R_drewN | apply Kd.R_drew)); exact HO362.out))) (below_size (by repeat (first | (with_reducible first | exact HB.out | apply below_alloc | apply pw_below_drewN | apply below_drew1 | refine below_set ?_ GE356.out) | exact HB.out))))
        have n2_ := Aside0.mk (blk_below (g := gb356) (o := .cells #[.slice A6_0 l6_0.length c6_0, .slice A6_1 l6_1.length c6_1, .slice A6_2 l6_2.length c6_2] 25 (0, 0)) (by (with_reducible repeat (first | refine blk_drewN ?_ _ | refine blk_drew ?_ | refine blk_alloc ?_ _)); exact BK356.out) hb)
        have n3_ := Aside0.mk (below_step (by repeat (first | (with_reducible first | exact HB.out | apply below_alloc | apply pw_below_drewN | apply below_drew1 | refine below_set ?_ GE356.out) | exact HB.out)) hb)
        clear HO362
        clear BK356
        clear HB
        have HO362 := n0_
        have HO365 := n1_
        have BK356 := n2_
        have HB := n3_
        clear n0_ n1_ n2_ n3_
        (try clear hb)
        (try clear hb2)
        (try clear hk)
        (try clear hi)
        (try clear ho0)
        refine hK.out _ _ ⟨(blk_cell BK356.out 0).trans rfl, (blk_cell BK356.out 1).trans rfl, (blk_cell BK356.out 2).trans rfl⟩ (fun hHeld => ?_)
        clear hK K
        refine norm_ (a' := ?_) ?_ ?_
        rotate_left
        ·show Act.put _ (some 41) _ = _
         simp only [Act.put, List.setIfInBounds_toArray, List.set_cons_zero, List.set_cons_succ, i64_w, i32_w]
         rfl
        refine one_ (i := 9) (N := some 45) (ba_ 12 1023) rfl rfl (one_of HT_.out (by kernel_rfl)) (by decide) (fun K hK => ?_)
        refine goes_ Try.func16 (by kernel_rfl) rfl #[.agg #[.slice A6_0 l6_0.length c6_0, .slice A6_1 l6_1.length c6_1, .slice A6_2 l6_2.length c6_2]] (by rfl) rfl rfl (by (try simp only [List.map_toArray, List.map_cons, List.map_nil]); first | done | rfl | (simp only [List.length_drop, List.length_take]; rfl)) ?_
        with_reducible refine (laws_toCost.calls k _ _ l6_0 _ _ l6_1 _ _ l6_2 t366 t369 t372 _ ?side1 ?side2 ?side3 ?side4 ?side5 ?side6 A21.out).mono ?_
        (case side1 => repeat (first | exact (Kd.C_below HR6_0.out HB.out) | (with_reducible refine Kd.C_alloc ?_ _) | (with_reducible refine Kd.C_drewN ?_ _) | (with_reducible refine Kd.C_drew ?_)))
        (case side2 => exact HC6_0.out)
        (case side3 => repeat (first | exact (Kd.C_below HR6_1.out HB.out) | (with_reducible refine Kd.C_alloc ?_ _) | (with_reducible refine Kd.C_drewN ?_ _) | (with_reducible refine Kd.C_drew ?_)))
        (case side4 => exact HC6_1.out)
        (case side5 => repeat (first | exact (Kd.C_below HR6_2.out HB.out) | (with_reducible refine Kd.C_alloc ?_ _) | (with_reducible refine Kd.C_drewN ?_ _) | (with_reducible refine Kd.C_drew ?_)))
        (case side6 => exact HC6_2.out)
        rintro e w43 ⟨v367, v370, v373, rfl, ho0, ho1, ho2, hb⟩
        refine ⟨_, rfl, ?_⟩
        have n0_ := Aside0.mk (Kd.R_below (by (with_reducible repeat (first | apply Kd.R_alloc | apply Kd.R_drewN | apply Kd.R_drew)); exact HO362.out) hb)
        have n1_ := Aside0.mk (Kd.R_below (by (with_reducible repeat (first | apply Kd.R_alloc | apply Kd.R_drewN | apply Kd.R_drew)); exact HO365.out) hb)
        have n2_ := Aside0.mk (Kd.R_lower ho0 (below_size (by repeat (first | (with_reducible first | exact HB.out | apply below_alloc | apply pw_below_drewN | apply below_drew1 | refine below_set ?_ GE356.out) | exact HB.out))))
        have n3_ := Aside0.mk (Kd.R_lower ho1 (below_size (by repeat (first | (with_reducible first | exact HB.out | apply below_alloc | apply pw_below_drewN | apply below_drew1 | refine below_set ?_ GE356.out) | exact HB.out))))
        have n4_ := Aside0.mk (Kd.R_lower ho2 (below_size (by repeat (first | (with_reducible first | exact HB.out | apply below_alloc | apply pw_below_drewN | apply below_drew1 | refine below_set ?_ GE356.out) | exact HB.out))))
        have n5_ := Aside0.mk (blk_below (g := gb356) (o := .cells #[.slice A6_0 l6_0.length c6_0, .slice A6_1 l6_1.length c6_1, .slice A6_2 l6_2.length c6_2] 25 (0, 0)) (by (with_reducible repeat (first | refine blk_drewN ?_ _ | refine blk_drew ?_ | refine blk_alloc ?_ _)); exact BK356.out) hb)
        have n6_ := Aside0.mk (below_step (by repeat (first | (with_reducible first | exact HB.out | apply below_alloc | apply pw_below_drewN | apply below_drew1 | refine below_set ?_ GE356.out) | exact HB.out)) hb)
        clear HO362
        clear HO365
        clear BK356
        clear HB
        have HO362 := n0_
        have HO365 := n1_
        have HO368 := n2_
        have HO371 := n3_
        have HO374 := n4_
        have BK356 := n5_
        have HB := n6_
        clear n0_ n1_ n2_ n3_ n4_ n5_ n6_
        (try clear hb)
        (try clear hb2)
        (try clear hk)
        (try clear hi)
        (try clear ho0)
        (try clear ho1)
        (try clear ho2)
        obtain ⟨Ao44, co44, eo44⟩ := Kd.R_slice HO362.out
        (first | subst eo44 | (injection eo44 with f1_ f2_ f3_; have f4_ := f1_.symm; have f5_ := f3_.symm; clear f1_ f2_ f3_; subst f4_; subst f5_))
        obtain ⟨Ao45, co45, eo45⟩ := Kd.R_slice HO365.out
        (first | subst eo45 | (injection eo45 with f1_ f2_ f3_; have f4_ := f1_.symm; have f5_ := f3_.symm; clear f1_ f2_ f3_; subst f4_; subst f5_))
        obtain ⟨Ao46, co46, eo46⟩ := Kd.R_slice HO368.out
        (first | subst eo46 | (injection eo46 with f1_ f2_ f3_; have f4_ := f1_.symm; have f5_ := f3_.symm; clear f1_ f2_ f3_; subst f4_; subst f5_))
        obtain ⟨Ao47, co47, eo47⟩ := Kd.R_slice HO371.out
        (first | subst eo47 | (injection eo47 with f1_ f2_ f3_; have f4_ := f1_.symm; have f5_ := f3_.symm; clear f1_ f2_ f3_; subst f4_; subst f5_))
        obtain ⟨Ao48, co48, eo48⟩ := Kd.R_slice HO374.out
        (first | subst eo48 | (injection eo48 with f1_ f2_ f3_; have f4_ := f1_.symm; have f5_ := f3_.symm; clear f1_ f2_ f3_; subst f4_; subst f5_))
        refine hK.out _ _ ⟨(blk_cell BK356.out 0).trans rfl, (blk_cell BK356.out 1).trans rfl, (blk_cell BK356.out 2).trans rfl⟩ (fun hHeld => ?_)
        clear hK K
        refine norm_ (a' := ?_) ?_ ?_
        rotate_left
        ·show Act.put _ (some 45) _ = _
         simp only [Act.put, List.setIfInBounds_toArray, List.set_cons_zero, List.set_cons_succ, i64_w, i32_w]
         rfl
        refine one_ (i := 10) (N := some 46) (ba_ 12 2047) rfl rfl (one_of HT_.out (by kernel_rfl)) (by decide) (fun K hK => ?_)
        refine goes_ Try.func14 (by kernel_rfl) rfl #[.slice Ao44 t360.length co44, .int .i64 a1, .int .i64 a2, .slice Ao45 t363.length co45, .int .i64 a4, .int .i64 a5, .agg #[.slice Ao46 t366.length co46, .slice Ao47 t369.length co47, .slice Ao48 t372.length co48]] (by rfl) rfl rfl (by (try simp only [List.map_toArray, List.map_cons, List.map_nil]); first | done | rfl | (simp only [List.length_drop, List.length_take]; rfl)) ?_
        with_reducible refine (spec_ForestDist.calls k _ _ t360 a1 a2 _ _ t363 a4 a5 _ _ t366 _ _ t369 _ _ t372 t375 _ ?side1 ?side2 ?side3 ?side4 ?side5 ?side6 ?side7 ?side8 ?side9 ?side10 A22.out).mono ?_
        (case side1 => repeat (first | exact (Kd.R_reads' HO362.out).2.2 | (with_reducible refine Kd.C_alloc ?_ _) | (with_reducible refine Kd.C_drewN ?_ _) | (with_reducible refine Kd.C_drew ?_)))
        (case side2 => exact (Kd.R_reads' HO362.out).2.1)
        (case side3 => repeat (first | exact (Kd.R_reads' HO365.out).2.2 | (with_reducible refine Kd.C_alloc ?_ _) | (with_reducible refine Kd.C_drewN ?_ _) | (with_reducible refine Kd.C_drew ?_)))
        (case side4 => exact (Kd.R_reads' HO365.out).2.1)
        (case side5 => repeat (first | exact (Kd.R_reads' HO368.out).2.2 | (with_reducible refine Kd.C_alloc ?_ _) | (with_reducible refine Kd.C_drewN ?_ _) | (with_reducible refine Kd.C_drew ?_)))
        (case side6 => exact (Kd.R_reads' HO368.out).2.1)
        (case side7 => repeat (first | exact (Kd.R_reads' HO371.out).2.2 | (with_reducible refine Kd.C_alloc ?_ _) | (with_reducible refine Kd.C_drewN ?_ _) | (with_reducible refine Kd.C_drew ?_)))
        (case side8 => exact (Kd.R_reads' HO371.out).2.1)
        (case side9 => repeat (first | exact (Kd.R_reads' HO374.out).2.2 | (with_reducible refine Kd.C_alloc ?_ _) | (with_reducible refine Kd.C_drewN ?_ _) | (with_reducible refine Kd.C_drew ?_)))
        (case side10 => exact (Kd.R_reads' HO374.out).2.1)
        rintro e w49 ⟨rfl, hb⟩
        refine ⟨_, rfl, ?_⟩
        have n0_ := Aside0.mk (Kd.R_below (by (with_reducible repeat (first | apply Kd.R_alloc | apply Kd.R_drewN | apply Kd.R_drew)); exact HO362.out) hb)
        have n1_ := Aside0.mk (Kd.R_below (by (with_reducible repeat (first | apply Kd.R_alloc | apply Kd.R_drewN | apply Kd.R_drew)); exact HO365.out) hb)
        have n2_ := Aside0.mk (Kd.R_below (by (with_reducible repeat (first | apply Kd.R_alloc | apply Kd.R_drewN | apply Kd.R_drew)); exact HO368.out) hb)
        have n3_ := Aside0.mk (Kd.R_below (by (with_reducible repeat (first | apply Kd.R_alloc | apply Kd.R_drewN | apply Kd.R_drew)); exact HO371.out) hb)
        have n4_ := Aside0.mk (Kd.R_below (by (with_reducible repeat (first | apply Kd.R_alloc | apply Kd.R_drewN | apply Kd.R_drew)); exact HO374.out) hb)
        have n5_ := Aside0.mk (blk_below (g := gb356) (o := .cells #[.slice A6_0 l6_0.length c6_0, .slice A6_1 l6_1.length c6_1, .slice A6_2 l6_2.length c6_2] 25 (0, 0)) (by (with_reducible repeat (first | refine blk_drewN ?_ _ | refine blk_drew ?_ | refine blk_alloc ?_ _)); exact BK356.out) hb)
        have n6_ := Aside0.mk (below_step (by repeat (first | (with_reducible first | exact HB.out | apply below_alloc | apply pw_below_drewN | apply below_drew1 | refine below_set ?_ GE356.out) | exact HB.out)) hb)
        clear HO362
        clear HO365
        clear HO368
        clear HO371
        clear HO374
        clear BK356
        clear HB
        have HO362 := n0_
        have HO365 := n1_
        have HO368 := n2_
        have HO371 := n3_
        have HO374 := n4_
        have BK356 := n5_
        have HB := n6_
        clear n0_ n1_ n2_ n3_ n4_ n5_ n6_
        (try clear hb)
        (try clear hb2)
        (try clear hk)
        (try clear hi)
        refine hK.out _ _ ⟨(blk_cell BK356.out 0).trans rfl, (blk_cell BK356.out 1).trans rfl, (blk_cell BK356.out 2).trans rfl⟩ (fun hHeld => ?_)
        clear hK K
        refine norm_ (a' := ?_) ?_ ?_
        rotate_left
        ·show Act.put _ (some 46) _ = _
         simp only [Act.put, List.setIfInBounds_toArray, List.set_cons_zero, List.set_cons_succ, i64_w, i32_w]
         rfl
        refine pu_ 11 (some 16) (ba_ 12 4095) rfl rfl (any_of HT_.out (by kernel_rfl)) ?_
        refine done_ (done_of HT_.out (by kernel_rfl)) ?_
        try go_wp2_with (first | ((with_reducible refine gate_callee (f := 15) rfl ?_); refine goesL_ (some 48) rfl rfl Try.func15 (by kernel_rfl) rfl #[.slice A0 l0.length c0] rfl (by (try simp only [List.map_toArray, List.map_cons, List.map_nil]); first | done | rfl | (simp only [List.length_drop, List.length_take]; rfl)) ?_; (with_reducible refine (laws_toNodeS.calls k _ _ l0 t376 _ ?side1 ?side2 A23.out).mono ?_); (case side1 => repeat (first | exact (Kd.C_below HR0.out HB.out) | (with_reducible refine Kd.C_alloc ?_ _) | (with_reducible refine Kd.C_drewN ?_ _) | (with_reducible refine Kd.C_drew ?_))); (case side2 => exact HC0.out); rintro e w50 ⟨v377, rfl, ho0, hb⟩; refine ⟨_, rfl, ?_⟩; have n0_ := Aside0.mk (Kd.R_elder' (by (with_reducible repeat (first | apply Kd.R_alloc | apply Kd.R_drewN | apply Kd.R_drew)); exact HO362.out) (Kd.R_base ho0) hb); have n1_ := Aside0.mk (Kd.R_elder' (by (with_reducible repeat (first | apply Kd.R_alloc | apply Kd.R_drewN | apply Kd.R_drew)); exact HO365.out) (Kd.R_base ho0) hb); have n2_ := Aside0.mk (Kd.R_below (by (with_reducible repeat (first | apply Kd.R_alloc | apply Kd.R_drewN | apply Kd.R_drew)); exact HO368.out) hb); have n3_ := Aside0.mk (Kd.R_below (by (with_reducible repeat (first | apply Kd.R_alloc | apply Kd.R_drewN | apply Kd.R_drew)); exact HO371.out) hb); have n4_ := Aside0.mk (Kd.R_below (by (with_reducible repeat (first | apply Kd.R_alloc | apply Kd.R_drewN | apply Kd.R_drew)); exact HO374.out) hb); have n5_ := Aside0.mk (Kd.R_lower (Kd.R_new' (Kd.R_new' ho0 (Kd.R_lt (by (with_reducible repeat (first | apply Kd.R_alloc | apply Kd.R_drewN | apply Kd.R_drew)); exact HO362.out))) (Kd.R_lt (by (with_reducible repeat (first | apply Kd.R_alloc | apply Kd.R_drewN | apply Kd.R_drew)); exact HO365.out))) (below_size (by repeat (first | (with_reducible first | exact HB.out | apply below_alloc | apply pw_below_drewN | apply below_drew1 | refine below_set ?_ GE356.out) | exact HB.out)))); have n6_ := Aside0.mk (blk_below (g := gb356) (o := .cells #[.slice A6_0 l6_0.length c6_0, .slice A6_1 l6_1.length c6_1, .slice A6_2 l6_2.length c6_2] 25 (0, 0)) (by (with_reducible repeat (first | refine blk_drewN ?_ _ | refine blk_drew ?_ | refine blk_alloc ?_ _)); exact BK356.out) hb); have n7_ := Aside0.mk (below_step (by repeat (first | (with_reducible first | exact HB.out | apply below_alloc | apply pw_below_drewN | apply below_drew1 | refine below_set ?_ GE356.out) | exact HB.out)) hb); clear HO362; clear HO365; clear HO368; clear HO371; clear HO374; clear BK356; clear HB; have HO362 := n0_; have HO365 := n1_; have HO368 := n2_; have HO371 := n3_; have HO374 := n4_; have HO378 := n5_; have BK356 := n6_; have HB := n7_; clear n0_ n1_ n2_ n3_ n4_ n5_ n6_ n7_; (try clear hb); (try clear hb2); (try clear hk); (try clear hi); (try clear ho0)) | ((with_reducible refine gate_callee (f := 15) rfl ?_); refine goesL_ (some 50) rfl rfl Try.func15 (by kernel_rfl) rfl #[.slice A3 l3.length c3] rfl (by (try simp only [List.map_toArray, List.map_cons, List.map_nil]); first | done | rfl | (simp only [List.length_drop, List.length_take]; rfl)) ?_; (with_reducible refine (laws_toNodeS.calls k _ _ l3 t379 _ ?side1 ?side2 A24.out).mono ?_); (case side1 => repeat (first | exact (Kd.C_below HR3.out HB.out) | (with_reducible refine Kd.C_alloc ?_ _) | (with_reducible refine Kd.C_drewN ?_ _) | (with_reducible refine Kd.C_drew ?_))); (case side2 => exact HC3.out); rintro e w51 ⟨v380, rfl, ho0, hb⟩; refine ⟨_, rfl, ?_⟩; have n0_ := Aside0.mk (Kd.R_elder' (by (with_reducible repeat (first | apply Kd.R_alloc | apply Kd.R_drewN | apply Kd.R_drew)); exact HO362.out) (Kd.R_base ho0) hb); have n1_ := Aside0.mk (Kd.R_elder' (by (with_reducible repeat (first | apply Kd.R_alloc | apply Kd.R_drewN | apply Kd.R_drew)); exact HO365.out) (Kd.R_base ho0) hb); have n2_ := Aside0.mk (Kd.R_below (by (with_reducible repeat (first | apply Kd.R_alloc | apply Kd.R_drewN | apply Kd.R_drew)); exact HO368.out) hb); have n3_ := Aside0.mk (Kd.R_below (by (with_reducible repeat (first | apply Kd.R_alloc | apply Kd.R_drewN | apply Kd.R_drew)); exact HO371.out) hb); have n4_ := Aside0.mk (Kd.R_below (by (with_reducible repeat (first | apply Kd.R_alloc | apply Kd.R_drewN | apply Kd.R_drew)); exact HO374.out) hb); have n5_ := Aside0.mk (Kd.R_elder' (by (with_reducible repeat (first | apply Kd.R_alloc | apply Kd.R_drewN | apply Kd.R_drew)); exact HO378.out) (Kd.R_base ho0) hb); have n6_ := Aside0.mk (Kd.R_lower (Kd.R_new' (Kd.R_new' (Kd.R_new' ho0 (Kd.R_lt (by (with_reducible repeat (first | apply Kd.R_alloc | apply Kd.R_drewN | apply Kd.R_drew)); exact HO362.out))) (Kd.R_lt (by (with_reducible repeat (first | apply Kd.R_alloc | apply Kd.R_drewN | apply Kd.R_drew)); exact HO365.out))) (Kd.R_lt (by (with_reducible repeat (first | apply Kd.R_alloc | apply Kd.R_drewN | apply Kd.R_drew)); exact HO378.out))) (below_size (by repeat (first | (with_reducible first | exact HB.out | apply below_alloc | apply pw_below_drewN | apply below_drew1 | refine below_set ?_ GE356.out) | exact HB.out)))); have n7_ := Aside0.mk (blk_below (g := gb356) (o := .cells #[.slice A6_0 l6_0.length c6_0, .slice A6_1 l6_1.length c6_1, .slice A6_2 l6_2.length c6_2] 25 (0, 0)) (by (with_reducible repeat (first | refine blk_drewN ?_ _ | refine blk_drew ?_ | refine blk_alloc ?_ _)); exact BK356.out) hb); have n8_ := Aside0.mk (below_step (by repeat (first | (with_reducible first | exact HB.out | apply below_alloc | apply pw_below_drewN | apply below_drew1 | refine below_set ?_ GE356.out) | exact HB.out)) hb); clear HO362; clear HO365; clear HO368; clear HO371; clear HO374; clear HO378; clear BK356; clear HB; have HO362 := n0_; have HO365 := n1_; have HO368 := n2_; have HO371 := n3_; have HO374 := n4_; have HO378 := n5_; have HO381 := n6_; have BK356 := n7_; have HB := n8_; clear n0_ n1_ n2_ n3_ n4_ n5_ n6_ n7_ n8_; (try clear hb); (try clear hb2); (try clear hk); (try clear hi); (try clear ho0); have hcz52_0 : w51.cell? ⟨gb356, 0, none⟩ = some (.slice A6_0 l6_0.length c6_0) := (blk_cell BK356.out 0).trans rfl; have hcz52_1 : w51.cell? ⟨gb356, 1, none⟩ = some (.slice A6_1 l6_1.length c6_1) := (blk_cell BK356.out 1).trans rfl; have hcz52_2 : w51.cell? ⟨gb356, 2, none⟩ = some (.slice A6_2 l6_2.length c6_2) := (blk_cell BK356.out 2).trans rfl; have hfz52_0 := blk_frozen BK356.out 0; have hfz52_1 := blk_frozen BK356.out 1; have hfz52_2 := blk_frozen BK356.out 2) | ((with_reducible refine gate_callee (f := 16) rfl ?_); refine goesL_ (some 52) rfl rfl Try.func16 (by kernel_rfl) rfl #[.agg #[.slice A6_0 l6_0.length c6_0, .slice A6_1 l6_1.length c6_1, .slice A6_2 l6_2.length c6_2]] rfl (by (try simp only [List.map_toArray, List.map_cons, List.map_nil]); first | done | rfl | (simp only [List.length_drop, List.length_take]; rfl)) ?_; (with_reducible refine (laws_toCost.calls k _ _ l6_0 _ _ l6_1 _ _ l6_2 t382 t385 t388 _ ?side1 ?side2 ?side3 ?side4 ?side5 ?side6 A25.out).mono ?_); (case side1 => repeat (first | exact (Kd.C_below HR6_0.out HB.out) | (with_reducible refine Kd.C_alloc ?_ _) | (with_reducible refine Kd.C_drewN ?_ _) | (with_reducible refine Kd.C_drew ?_))); (case side2 => exact HC6_0.out); (case side3 => repeat (first | exact (Kd.C_below HR6_1.out HB.out) | (with_reducible refine Kd.C_alloc ?_ _) | (with_reducible refine Kd.C_drewN ?_ _) | (with_reducible refine Kd.C_drew ?_))); (case side4 => exact HC6_1.out); (case side5 => repeat (first | exact (Kd.C_below HR6_2.out HB.out) | (with_reducible refine Kd.C_alloc ?_ _) | (with_reducible refine Kd.C_drewN ?_ _) | (with_reducible refine Kd.C_drew ?_))); (case side6 => exact HC6_2.out); rintro e w53 ⟨v383, v386, v389, rfl, ho0, ho1, ho2, hb⟩; refine ⟨_, rfl, ?_⟩; have n0_ := Aside0.mk (Kd.R_below (by (with_reducible repeat (first | apply Kd.R_alloc | apply Kd.R_drewN | apply Kd.R_drew)); exact HO362.out) hb); have n1_ := Aside0.mk (Kd.R_below (by (with_reducible repeat (first | apply Kd.R_alloc | apply Kd.R_drewN | apply Kd.R_drew)); exact HO365.out) hb); have n2_ := Aside0.mk (Kd.R_mono (Kd.R_told (Kd.R_told (Kd.R_told (Kd.R_old (by (with_reducible repeat (first | apply Kd.R_alloc | apply Kd.R_drewN | apply Kd.R_drew)); exact HO368.out) hb) (Kd.R_base ho0)) (Kd.R_base ho1)) (Kd.R_base ho2)) (fun _ h_ => h_.1)); have n3_ := Aside0.mk (Kd.R_mono (Kd.R_told (Kd.R_told (Kd.R_told (Kd.R_old (by (with_reducible repeat (first | apply Kd.R_alloc | apply Kd.R_drewN | apply Kd.R_drew)); exact HO371.out) hb) (Kd.R_base ho0)) (Kd.R_base ho1)) (Kd.R_base ho2)) (fun _ h_ => h_.1)); have n4_ := Aside0.mk (Kd.R_mono (Kd.R_told (Kd.R_told (Kd.R_told (Kd.R_old (by (with_reducible repeat (first | apply Kd.R_alloc | apply Kd.R_drewN | apply Kd.R_drew)); exact HO374.out) hb) (Kd.R_base ho0)) (Kd.R_base ho1)) (Kd.R_base ho2)) (fun _ h_ => h_.1)); have n5_ := Aside0.mk (Kd.R_below (by (with_reducible repeat (first | apply Kd.R_alloc | apply Kd.R_drewN | apply Kd.R_drew)); exact HO378.out) hb); have n6_ := Aside0.mk (Kd.R_below (by (with_reducible repeat (first | apply Kd.R_alloc | apply Kd.R_drewN | apply Kd.R_drew)); exact HO381.out) hb); have n7_ := Aside0.mk (Kd.R_lower (Kd.R_new' (Kd.R_new' (Kd.R_new' ho0 (Kd.R_lt (by (with_reducible repeat (first | apply Kd.R_alloc | apply Kd.R_drewN | apply Kd.R_drew)); exact HO368.out))) (Kd.R_lt (by (with_reducible repeat (first | apply Kd.R_alloc | apply Kd.R_drewN | apply Kd.R_drew)); exact HO371.out))) (Kd.R_lt (by (with_reducible repeat (first | apply Kd.R_alloc | apply Kd.R_drewN | apply Kd.R_drew)); exact HO374.out))) (below_size (by repeat (first | (with_reducible first | exact HB.out | apply below_alloc | apply pw_below_drewN | apply below_drew1 | refine below_set ?_ GE356.out) | exact HB.out)))); have n8_ := Aside0.mk (Kd.R_lower (Kd.R_new' (Kd.R_new' (Kd.R_new' ho1 (Kd.R_lt (by (with_reducible repeat (first | apply Kd.R_alloc | apply Kd.R_drewN | apply Kd.R_drew)); exact HO368.out))) (Kd.R_lt (by (with_reducible repeat (first | apply Kd.R_alloc | apply Kd.R_drewN | apply Kd.R_drew)); exact HO371.out))) (Kd.R_lt (by (with_reducible repeat (first | apply Kd.R_alloc | apply Kd.R_drewN | apply Kd.R_drew)); exact HO374.out))) (below_size (by repeat (first | (with_reducible first | exact HB.out | apply below_alloc | apply pw_below_drewN | apply below_drew1 | refine below_set ?_ GE356.out) | exact HB.out)))); have n9_ := Aside0.mk (Kd.R_lower (Kd.R_new' (Kd.R_new' (Kd.R_new' ho2 (Kd.R_lt (by (with_reducible repeat (first | apply Kd.R_alloc | apply Kd.R_drewN | apply Kd.R_drew)); exact HO368.out))) (Kd.R_lt (by (with_reducible repeat (first | apply Kd.R_alloc | apply Kd.R_drewN | apply Kd.R_drew)); exact HO371.out))) (Kd.R_lt (by (with_reducible repeat (first | apply Kd.R_alloc | apply Kd.R_drewN | apply Kd.R_drew)); exact HO374.out))) (below_size (by repeat (first | (with_reducible first | exact HB.out | apply below_alloc | apply pw_below_drewN | apply below_drew1 | refine below_set ?_ GE356.out) | exact HB.out)))); have n10_ := Aside0.mk (blk_below (g := gb356) (o := .cells #[.slice A6_0 l6_0.length c6_0, .slice A6_1 l6_1.length c6_1, .slice A6_2 l6_2.length c6_2] 25 (0, 0)) (by (with_reducible repeat (first | refine blk_drewN ?_ _ | refine blk_drew ?_ | refine blk_alloc ?_ _)); exact BK356.out) hb); have n11_ := Aside0.mk (below_step (by repeat (first | (with_reducible first | exact HB.out | apply below_alloc | apply pw_below_drewN | apply below_drew1 | refine below_set ?_ GE356.out) | exact HB.out)) hb); clear HO362; clear HO365; clear HO368; clear HO371; clear HO374; clear HO378; clear HO381; clear BK356; clear HB; have HO362 := n0_; have HO365 := n1_; have HO368 := n2_; have HO371 := n3_; have HO374 := n4_; have HO378 := n5_; have HO381 := n6_; have HO384 := n7_; have HO387 := n8_; have HO390 := n9_; have BK356 := n10_; have HB := n11_; clear n0_ n1_ n2_ n3_ n4_ n5_ n6_ n7_ n8_ n9_ n10_ n11_; (try clear hb); (try clear hb2); (try clear hk); (try clear hi); (try clear ho0); (try clear ho1); (try clear ho2)) | ((with_reducible refine gate_dst (N := 19) rfl ?_); refine box_event ?hg (N := 19) ?hd (cs := #[.slice none 0 0, .slice none 0 0, .slice none 0 0]) (t := 31) ?hr ?_; (case hd => rfl); (case hg => rfl); (case hr => first | (go_simp; done) | (go_simp; rfl)); intro gb391 hg w54 hbox hb; have n0_ := Aside0.mk (Kd.R_below (by (with_reducible repeat (first | apply Kd.R_alloc | apply Kd.R_drewN | apply Kd.R_drew)); exact HO362.out) hb); have n1_ := Aside0.mk (Kd.R_below (by (with_reducible repeat (first | apply Kd.R_alloc | apply Kd.R_drewN | apply Kd.R_drew)); exact HO365.out) hb); have n2_ := Aside0.mk (Kd.R_below (by (with_reducible repeat (first | apply Kd.R_alloc | apply Kd.R_drewN | apply Kd.R_drew)); exact HO368.out) hb); have n3_ := Aside0.mk (Kd.R_below (by (with_reducible repeat (first | apply Kd.R_alloc | apply Kd.R_drewN | apply Kd.R_drew)); exact HO371.out) hb); have n4_ := Aside0.mk (Kd.R_below (by (with_reducible repeat (first | apply Kd.R_alloc | apply Kd.R_drewN | apply Kd.R_drew)); exact HO374.out) hb); have n5_ := Aside0.mk (Kd.R_below (by (with_reducible repeat (first | apply Kd.R_alloc | apply Kd.R_drewN | apply Kd.R_drew)); exact HO378.out) hb); have n6_ := Aside0.mk (Kd.R_below (by (with_reducible repeat (first | apply Kd.R_alloc | apply Kd.R_drewN | apply Kd.R_drew)); exact HO381.out) hb); have n7_ := Aside0.mk (Kd.R_below (by (with_reducible repeat (first | apply Kd.R_alloc | apply Kd.R_drewN | apply Kd.R_drew)); exact HO384.out) hb); have n8_ := Aside0.mk (Kd.R_below (by (with_reducible repeat (first | apply Kd.R_alloc | apply Kd.R_drewN | apply Kd.R_drew)); exact HO387.out) hb); have n9_ := Aside0.mk (Kd.R_below (by (with_reducible repeat (first | apply Kd.R_alloc | apply Kd.R_drewN | apply Kd.R_drew)); exact HO390.out) hb); have n10_ := Aside0.mk (blk_below (g := gb356) (o := .cells #[.slice A6_0 l6_0.length c6_0, .slice A6_1 l6_1.length c6_1, .slice A6_2 l6_2.length c6_2] 25 (0, 0)) (by (with_reducible repeat (first | refine blk_drewN ?_ _ | refine blk_drew ?_ | refine blk_alloc ?_ _)); exact BK356.out) hb); have n11_ := Aside0.mk (below_step (by repeat (first | (with_reducible first | exact HB.out | apply below_alloc | apply pw_below_drewN | apply below_drew1 | refine below_set ?_ GE356.out) | exact HB.out)) hb); have n12_ := Aside0.mk (hbox); have n13_ := Aside0.mk ((by rw [hg]; exact (below_size (by repeat (first | (with_reducible first | exact HB.out | apply below_alloc | apply pw_below_drewN | apply below_drew1 | refine below_set ?_ GE356.out) | exact HB.out))) : w.heap.size ≤ gb391)); have n14_ := Aside0.mk ((by rw [hg]; exact (below_size (by repeat (first | (with_reducible first | exact HB.out | apply below_alloc | apply pw_below_drewN | apply below_drew1 | refine below_set ?_ GE356.out) | exact HB.out))) : w.heap.size ≤ gb391)); have n15_ := Aside0.mk ((by rw [hg]; exact Nat.ne_of_lt (blk_lt (g := gb356) (o := .cells #[.slice A6_0 l6_0.length c6_0, .slice A6_1 l6_1.length c6_1, .slice A6_2 l6_2.length c6_2] 25 (0, 0)) (by (with_reducible repeat (first | refine blk_drewN ?_ _ | refine blk_drew ?_ | refine blk_alloc ?_ _)); exact BK356.out)) : gb356 ≠ gb391)); have n16_ := Aside0.mk ((by rw [hg]; exact Nat.ne_of_gt (blk_lt (g := gb356) (o := .cells #[.slice A6_0 l6_0.length c6_0, .slice A6_1 l6_1.length c6_1, .slice A6_2 l6_2.length c6_2] 25 (0, 0)) (by (with_reducible repeat (first | refine blk_drewN ?_ _ | refine blk_drew ?_ | refine blk_alloc ?_ _)); exact BK356.out)) : gb391 ≠ gb356)); clear HO362; clear HO365; clear HO368; clear HO371; clear HO374; clear HO378; clear HO381; clear HO384; clear HO387; clear HO390; clear BK356; clear HB; have HO362 := n0_; have HO365 := n1_; have HO368 := n2_; have HO371 := n3_; have HO374 := n4_; have HO378 := n5_; have HO381 := n6_; have HO384 := n7_; have HO387 := n8_; have HO390 := n9_; have BK356 := n10_; have HB := n11_; have BK391 := n12_; have GW391 := n13_; have GE391 := n14_; have NB356_391 := n15_; have NB391_356 := n16_; clear n0_ n1_ n2_ n3_ n4_ n5_ n6_ n7_ n8_ n9_ n10_ n11_ n12_ n13_ n14_ n15_ n16_; clear hb hbox hg; obtain ⟨Ao55, co55, eo55⟩ := Kd.R_slice HO384.out; subst eo55; have hnb56 := NB391_356.out; have hnc56 := NB356_391.out; have hcz57_0 : w54.cell? ⟨gb391, 0, none⟩ = some (.slice none 0 0) := (blk_cell BK391.out 0).trans rfl; have hcz57_1 : w54.cell? ⟨gb391, 1, none⟩ = some (.slice none 0 0) := (blk_cell BK391.out 1).trans rfl; have hcz57_2 : w54.cell? ⟨gb391, 2, none⟩ = some (.slice none 0 0) := (blk_cell BK391.out 2).trans rfl; have hfz57_0 := blk_frozen BK391.out 0; have hfz57_1 := blk_frozen BK391.out 1; have hfz57_2 := blk_frozen BK391.out 2; obtain ⟨Ao58, co58, eo58⟩ := Kd.R_slice HO387.out; subst eo58; obtain ⟨Ao59, co59, eo59⟩ := Kd.R_slice HO390.out; subst eo59; obtain ⟨Ao60, co60, eo60⟩ := Kd.R_slice HO378.out; subst eo60; obtain ⟨Ao61, co61, eo61⟩ := Kd.R_slice HO381.out; subst eo61) | ((with_reducible refine gate_callee (f := 17) rfl ?_); refine goesL_ (some 60) rfl rfl Try.func17 (by kernel_rfl) rfl #[.slice Ao60 t376.length co60, .int .i64 a1, .int .i64 a2, .slice Ao61 t379.length co61, .int .i64 a4, .int .i64 a5, .agg #[.slice Ao55 t382.length co55, .slice Ao58 t385.length co58, .slice Ao59 t388.length co59]] rfl (by (try simp only [List.map_toArray, List.map_cons, List.map_nil]); first | done | rfl | (simp only [List.length_drop, List.length_take]; rfl)) ?_; (with_reducible refine (impl_ForestDist.calls k _ _ t376 a1 a2 _ _ t379 a4 a5 _ _ t382 _ _ t385 _ _ t388 t392 _ ?side1 ?side2 ?side3 ?side4 ?side5 ?side6 ?side7 ?side8 ?side9 ?side10 A26.out).mono ?_); (case side1 => refine (Kd.R_reads' (e := 53) (base := w.heap.size) (ok := fun k_ => (((True ∧ some k_ ≠ (.slice Ao44 t360.length co44 : Value).ownBlock) ∧ some k_ ≠ (.slice Ao45 t363.length co45 : Value).ownBlock) ∧ some k_ ≠ (.slice Ao61 t379.length co61 : Value).ownBlock)) (n := t376.length) (c := co60) ?_).2.2; exact (by (with_reducible repeat (first | apply Kd.R_alloc | apply Kd.R_drewN | apply Kd.R_drew)); exact (Kd.R_mono (Kd.R_far (p := ⟨gb391, 2, none⟩) (Kd.R_far (p := ⟨gb391, 1, none⟩) (Kd.R_far (p := ⟨gb391, 0, none⟩) (Kd.R_types HO378.out BK391.out (by decide)) (fun _ hk => hk.2) (.slice Ao55 t382.length co55)) (fun _ hk => hk.2) (.slice Ao58 t385.length co58)) (fun _ hk => hk.2) (.slice Ao59 t388.length co59)) (fun _ h_ => h_.1)))); (case side2 => exact (Kd.R_reads' HO378.out).2.1); (case side3 => refine (Kd.R_reads' (e := 53) (base := w.heap.size) (ok := fun k_ => (((True ∧ some k_ ≠ (.slice Ao44 t360.length co44 : Value).ownBlock) ∧ some k_ ≠ (.slice Ao45 t363.length co45 : Value).ownBlock) ∧ some k_ ≠ (.slice Ao60 t376.length co60 : Value).ownBlock)) (n := t379.length) (c := co61) ?_).2.2; exact (by (with_reducible repeat (first | apply Kd.R_alloc | apply Kd.R_drewN | apply Kd.R_drew)); exact (Kd.R_mono (Kd.R_far (p := ⟨gb391, 2, none⟩) (Kd.R_far (p := ⟨gb391, 1, none⟩) (Kd.R_far (p := ⟨gb391, 0, none⟩) (Kd.R_types HO381.out BK391.out (by decide)) (fun _ hk => hk.2) (.slice Ao55 t382.length co55)) (fun _ hk => hk.2) (.slice Ao58 t385.length co58)) (fun _ hk => hk.2) (.slice Ao59 t388.length co59)) (fun _ h_ => h_.1)))); (case side4 => exact (Kd.R_reads' HO381.out).2.1); (case side5 => refine (Kd.R_reads' (e := 3) (base := w.heap.size) (ok := fun k_ => ((((some k_ ≠ (.slice Ao58 t385.length co58 : Value).ownBlock ∧ some k_ ≠ (.slice Ao59 t388.length co59 : Value).ownBlock) ∧ some k_ ≠ (.slice Ao46 t366.length co46 : Value).ownBlock) ∧ some k_ ≠ (.slice Ao47 t369.length co47 : Value).ownBlock) ∧ some k_ ≠ (.slice Ao48 t372.length co48 : Value).ownBlock)) (n := t382.length) (c := co55) ?_).2.2; exact (by (with_reducible repeat (first | apply Kd.R_alloc | apply Kd.R_drewN | apply Kd.R_drew)); exact (Kd.R_mono (Kd.R_far (p := ⟨gb391, 2, none⟩) (Kd.R_far (p := ⟨gb391, 1, none⟩) (Kd.R_far (p := ⟨gb391, 0, none⟩) (Kd.R_types HO384.out BK391.out (by decide)) (fun _ hk => hk.2) (.slice Ao55 t382.length co55)) (fun _ hk => hk.2) (.slice Ao58 t385.length co58)) (fun _ hk => hk.2) (.slice Ao59 t388.length co59)) (fun _ h_ => h_.1)))); (case side6 => exact (Kd.R_reads' HO384.out).2.1); (case side7 => refine (Kd.R_reads' (e := 3) (base := w.heap.size) (ok := fun k_ => ((((some k_ ≠ (.slice Ao55 t382.length co55 : Value).ownBlock ∧ some k_ ≠ (.slice Ao59 t388.length co59 : Value).ownBlock) ∧ some k_ ≠ (.slice Ao46 t366.length co46 : Value).ownBlock) ∧ some k_ ≠ (.slice Ao47 t369.length co47 : Value).ownBlock) ∧ some k_ ≠ (.slice Ao48 t372.length co48 : Value).ownBlock)) (n := t385.length) (c := co58) ?_).2.2; exact (by (with_reducible repeat (first | apply Kd.R_alloc | apply Kd.R_drewN | apply Kd.R_drew)); exact (Kd.R_mono (Kd.R_far (p := ⟨gb391, 2, none⟩) (Kd.R_far (p := ⟨gb391, 1, none⟩) (Kd.R_far (p := ⟨gb391, 0, none⟩) (Kd.R_types HO387.out BK391.out (by decide)) (fun _ hk => hk.2) (.slice Ao55 t382.length co55)) (fun _ hk => hk.2) (.slice Ao58 t385.length co58)) (fun _ hk => hk.2) (.slice Ao59 t388.length co59)) (fun _ h_ => h_.1)))); (case side8 => exact (Kd.R_reads' HO387.out).2.1); (case side9 => refine (Kd.R_reads' (e := 3) (base := w.heap.size) (ok := fun k_ => ((((some k_ ≠ (.slice Ao55 t382.length co55 : Value).ownBlock ∧ some k_ ≠ (.slice Ao58 t385.length co58 : Value).ownBlock) ∧ some k_ ≠ (.slice Ao46 t366.length co46 : Value).ownBlock) ∧ some k_ ≠ (.slice Ao47 t369.length co47 : Value).ownBlock) ∧ some k_ ≠ (.slice Ao48 t372.length co48 : Value).ownBlock)) (n := t388.length) (c := co59) ?_).2.2; exact (by (with_reducible repeat (first | apply Kd.R_alloc | apply Kd.R_drewN | apply Kd.R_drew)); exact (Kd.R_mono (Kd.R_far (p := ⟨gb391, 2, none⟩) (Kd.R_far (p := ⟨gb391, 1, none⟩) (Kd.R_far (p := ⟨gb391, 0, none⟩) (Kd.R_types HO390.out BK391.out (by decide)) (fun _ hk => hk.2) (.slice Ao55 t382.length co55)) (fun _ hk => hk.2) (.slice Ao58 t385.length co58)) (fun _ hk => hk.2) (.slice Ao59 t388.length co59)) (fun _ h_ => h_.1)))); (case side10 => exact (Kd.R_reads' HO390.out).2.1); rintro e w62 ⟨rfl, hb⟩; refine ⟨_, rfl, ?_⟩; have n0_ := Aside0.mk (Kd.R_below (by (with_reducible repeat (first | apply Kd.R_alloc | apply Kd.R_drewN | apply Kd.R_drew)); exact (Kd.R_mono (Kd.R_far (p := ⟨gb391, 2, none⟩) (Kd.R_far (p := ⟨gb391, 1, none⟩) (Kd.R_far (p := ⟨gb391, 0, none⟩) (Kd.R_types HO362.out BK391.out (by decide)) (fun _ hk => hk.2) (.slice Ao55 t382.length co55)) (fun _ hk => hk.2) (.slice Ao58 t385.length co58)) (fun _ hk => hk.2) (.slice Ao59 t388.length co59)) (fun _ h_ => h_.1))) hb); have n1_ := Aside0.mk (Kd.R_below (by (with_reducible repeat (first | apply Kd.R_alloc | apply Kd.R_drewN | apply Kd.R_drew)); exact (Kd.R_mono (Kd.R_far (p := ⟨gb391, 2, none⟩) (Kd.R_far (p := ⟨gb391, 1, none⟩) (Kd.R_far (p := ⟨gb391, 0, none⟩) (Kd.R_types HO365.out BK391.out (by decide)) (fun _ hk => hk.2) (.slice Ao55 t382.length co55)) (fun _ hk => hk.2) (.slice Ao58 t385.length co58)) (fun _ hk => hk.2) (.slice Ao59 t388.length co59)) (fun _ h_ => h_.1))) hb); have n2_ := Aside0.mk (Kd.R_below (by (with_reducible repeat (first | apply Kd.R_alloc | apply Kd.R_drewN | apply Kd.R_drew)); exact (Kd.R_mono (Kd.R_far (p := ⟨gb391, 2, none⟩) (Kd.R_far (p := ⟨gb391, 1, none⟩) (Kd.R_far (p := ⟨gb391, 0, none⟩) (Kd.R_types HO368.out BK391.out (by decide)) (fun _ hk => hk.2) (.slice Ao55 t382.length co55)) (fun _ hk => hk.2) (.slice Ao58 t385.length co58)) (fun _ hk => hk.2) (.slice Ao59 t388.length co59)) (fun _ h_ => h_.1))) hb); have n3_ := Aside0.mk (Kd.R_below (by (with_reducible repeat (first | apply Kd.R_alloc | apply Kd.R_drewN | apply Kd.R_drew)); exact (Kd.R_mono (Kd.R_far (p := ⟨gb391, 2, none⟩) (Kd.R_far (p := ⟨gb391, 1, none⟩) (Kd.R_far (p := ⟨gb391, 0, none⟩) (Kd.R_types HO371.out BK391.out (by decide)) (fun _ hk => hk.2) (.slice Ao55 t382.length co55)) (fun _ hk => hk.2) (.slice Ao58 t385.length co58)) (fun _ hk => hk.2) (.slice Ao59 t388.length co59)) (fun _ h_ => h_.1))) hb); have n4_ := Aside0.mk (Kd.R_below (by (with_reducible repeat (first | apply Kd.R_alloc | apply Kd.R_drewN | apply Kd.R_drew)); exact (Kd.R_mono (Kd.R_far (p := ⟨gb391, 2, none⟩) (Kd.R_far (p := ⟨gb391, 1, none⟩) (Kd.R_far (p := ⟨gb391, 0, none⟩) (Kd.R_types HO374.out BK391.out (by decide)) (fun _ hk => hk.2) (.slice Ao55 t382.length co55)) (fun _ hk => hk.2) (.slice Ao58 t385.length co58)) (fun _ hk => hk.2) (.slice Ao59 t388.length co59)) (fun _ h_ => h_.1))) hb); have n5_ := Aside0.mk (Kd.R_below (by (with_reducible repeat (first | apply Kd.R_alloc | apply Kd.R_drewN | apply Kd.R_drew)); exact (Kd.R_mono (Kd.R_far (p := ⟨gb391, 2, none⟩) (Kd.R_far (p := ⟨gb391, 1, none⟩) (Kd.R_far (p := ⟨gb391, 0, none⟩) (Kd.R_types HO378.out BK391.out (by decide)) (fun _ hk => hk.2) (.slice Ao55 t382.length co55)) (fun _ hk => hk.2) (.slice Ao58 t385.length co58)) (fun _ hk => hk.2) (.slice Ao59 t388.length co59)) (fun _ h_ => h_.1))) hb); have n6_ := Aside0.mk (Kd.R_below (by (with_reducible repeat (first | apply Kd.R_alloc | apply Kd.R_drewN | apply Kd.R_drew)); exact (Kd.R_mono (Kd.R_far (p := ⟨gb391, 2, none⟩) (Kd.R_far (p := ⟨gb391, 1, none⟩) (Kd.R_far (p := ⟨gb391, 0, none⟩) (Kd.R_types HO381.out BK391.out (by decide)) (fun _ hk => hk.2) (.slice Ao55 t382.length co55)) (fun _ hk => hk.2) (.slice Ao58 t385.length co58)) (fun _ hk => hk.2) (.slice Ao59 t388.length co59)) (fun _ h_ => h_.1))) hb); have n7_ := Aside0.mk (Kd.R_below (by (with_reducible repeat (first | apply Kd.R_alloc | apply Kd.R_drewN | apply Kd.R_drew)); exact (Kd.R_mono (Kd.R_far (p := ⟨gb391, 2, none⟩) (Kd.R_far (p := ⟨gb391, 1, none⟩) (Kd.R_far (p := ⟨gb391, 0, none⟩) (Kd.R_types HO384.out BK391.out (by decide)) (fun _ hk => hk.2) (.slice Ao55 t382.length co55)) (fun _ hk => hk.2) (.slice Ao58 t385.length co58)) (fun _ hk => hk.2) (.slice Ao59 t388.length co59)) (fun _ h_ => h_.1))) hb); have n8_ := Aside0.mk (Kd.R_below (by (with_reducible repeat (first | apply Kd.R_alloc | apply Kd.R_drewN | apply Kd.R_drew)); exact (Kd.R_mono (Kd.R_far (p := ⟨gb391, 2, none⟩) (Kd.R_far (p := ⟨gb391, 1, none⟩) (Kd.R_far (p := ⟨gb391, 0, none⟩) (Kd.R_types HO387.out BK391.out (by decide)) (fun _ hk => hk.2) (.slice Ao55 t382.length co55)) (fun _ hk => hk.2) (.slice Ao58 t385.length co58)) (fun _ hk => hk.2) (.slice Ao59 t388.length co59)) (fun _ h_ => h_.1))) hb); have n9_ := Aside0.mk (Kd.R_below (by (with_reducible repeat (first | apply Kd.R_alloc | apply Kd.R_drewN | apply Kd.R_drew)); exact (Kd.R_mono (Kd.R_far (p := ⟨gb391, 2, none⟩) (Kd.R_far (p := ⟨gb391, 1, none⟩) (Kd.R_far (p := ⟨gb391, 0, none⟩) (Kd.R_types HO390.out BK391.out (by decide)) (fun _ hk => hk.2) (.slice Ao55 t382.length co55)) (fun _ hk => hk.2) (.slice Ao58 t385.length co58)) (fun _ hk => hk.2) (.slice Ao59 t388.length co59)) (fun _ h_ => h_.1))) hb); have n10_ := Aside0.mk (blk_below (g := gb356) (o := .cells #[.slice A6_0 l6_0.length c6_0, .slice A6_1 l6_1.length c6_1, .slice A6_2 l6_2.length c6_2] 25 (0, 0)) (by (with_reducible repeat (first | refine blk_drewN ?_ _ | refine blk_drew ?_ | refine blk_alloc ?_ _)); refine blk_far ?_ NB356_391.out _; (with_reducible repeat (first | refine blk_drewN ?_ _ | refine blk_drew ?_ | refine blk_alloc ?_ _)); refine blk_far ?_ NB356_391.out _; (with_reducible repeat (first | refine blk_drewN ?_ _ | refine blk_drew ?_ | refine blk_alloc ?_ _)); refine blk_far ?_ NB356_391.out _; (with_reducible repeat (first | refine blk_drewN ?_ _ | refine blk_drew ?_ | refine blk_alloc ?_ _)); exact BK356.out) hb); have n11_ := Aside0.mk (blk_below (g := gb391) (o := .cells #[.slice Ao55 t382.length co55, .slice Ao58 t385.length co58, .slice Ao59 t388.length co59] 31 (0, 0)) (by (with_reducible repeat (first | refine blk_drewN ?_ _ | refine blk_drew ?_ | refine blk_alloc ?_ _)); refine blk_put (cs := #[.slice Ao55 t382.length co55, .slice Ao58 t385.length co58, .slice none 0 0]) ?_ 2 _ rfl; (with_reducible repeat (first | refine blk_drewN ?_ _ | refine blk_drew ?_ | refine blk_alloc ?_ _)); refine blk_put (cs := #[.slice Ao55 t382.length co55, .slice none 0 0, .slice none 0 0]) ?_ 1 _ rfl; (with_reducible repeat (first | refine blk_drewN ?_ _ | refine blk_drew ?_ | refine blk_alloc ?_ _)); refine blk_put (cs := #[.slice none 0 0, .slice none 0 0, .slice none 0 0]) ?_ 0 _ rfl; (with_reducible repeat (first | refine blk_drewN ?_ _ | refine blk_drew ?_ | refine blk_alloc ?_ _)); exact BK391.out) hb); have n12_ := Aside0.mk (below_step (by repeat (first | (with_reducible first | exact HB.out | apply below_alloc | apply pw_below_drewN | apply below_drew1 | refine below_set ?_ GE356.out | refine below_set ?_ GE391.out) | exact HB.out)) hb); clear HO362; clear HO365; clear HO368; clear HO371; clear HO374; clear HO378; clear HO381; clear HO384; clear HO387; clear HO390; clear BK356; clear BK391; clear HB; have HO362 := n0_; have HO365 := n1_; have HO368 := n2_; have HO371 := n3_; have HO374 := n4_; have HO378 := n5_; have HO381 := n6_; have HO384 := n7_; have HO387 := n8_; have HO390 := n9_; have BK356 := n10_; have BK391 := n11_; have HB := n12_; clear n0_ n1_ n2_ n3_ n4_ n5_ n6_ n7_ n8_ n9_ n10_ n11_ n12_; (try clear hb); (try clear hb2); (try clear hk); (try clear hi)) | ((with_reducible refine gate_callee (f := 15) rfl ?_); refine goesL_ (some 66) rfl rfl Try.func15 (by kernel_rfl) rfl #[.slice A0 l0.length c0] rfl (by (try simp only [List.map_toArray, List.map_cons, List.map_nil]); first | done | rfl | (simp only [List.length_drop, List.length_take]; rfl)) ?_; (with_reducible refine (laws_toNodeS.calls k _ _ l0 t393 _ ?side1 ?side2 A28.out).mono ?_); (case side1 => repeat (first | exact (Kd.C_below HR0.out HB.out) | (with_reducible refine Kd.C_alloc ?_ _) | (with_reducible refine Kd.C_drewN ?_ _) | (with_reducible refine Kd.C_drew ?_))); (case side2 => exact HC0.out); rintro e w63 ⟨v394, rfl, ho0, hb⟩; refine ⟨_, rfl, ?_⟩; have n0_ := Aside0.mk (Kd.R_elder' (by (with_reducible repeat (first | apply Kd.R_alloc | apply Kd.R_drewN | apply Kd.R_drew)); exact HO362.out) (Kd.R_base ho0) hb); have n1_ := Aside0.mk (Kd.R_elder' (by (with_reducible repeat (first | apply Kd.R_alloc | apply Kd.R_drewN | apply Kd.R_drew)); exact HO365.out) (Kd.R_base ho0) hb); have n2_ := Aside0.mk (Kd.R_below (by (with_reducible repeat (first | apply Kd.R_alloc | apply Kd.R_drewN | apply Kd.R_drew)); exact HO368.out) hb); have n3_ := Aside0.mk (Kd.R_below (by (with_reducible repeat (first | apply Kd.R_alloc | apply Kd.R_drewN | apply Kd.R_drew)); exact HO371.out) hb); have n4_ := Aside0.mk (Kd.R_below (by (with_reducible repeat (first | apply Kd.R_alloc | apply Kd.R_drewN | apply Kd.R_drew)); exact HO374.out) hb); have n5_ := Aside0.mk (Kd.R_elder' (by (with_reducible repeat (first | apply Kd.R_alloc | apply Kd.R_drewN | apply Kd.R_drew)); exact HO378.out) (Kd.R_base ho0) hb); have n6_ := Aside0.mk (Kd.R_elder' (by (with_reducible repeat (first | apply Kd.R_alloc | apply Kd.R_drewN | apply Kd.R_drew)); exact HO381.out) (Kd.R_base ho0) hb); have n7_ := Aside0.mk (Kd.R_below (by (with_reducible repeat (first | apply Kd.R_alloc | apply Kd.R_drewN | apply Kd.R_drew)); exact HO384.out) hb); have n8_ := Aside0.mk (Kd.R_below (by (with_reducible repeat (first | apply Kd.R_alloc | apply Kd.R_drewN | apply Kd.R_drew)); exact HO387.out) hb); have n9_ := Aside0.mk (Kd.R_below (by (with_reducible repeat (first | apply Kd.R_alloc | apply Kd.R_drewN | apply Kd.R_drew)); exact HO390.out) hb); have n10_ := Aside0.mk (Kd.R_lower (Kd.R_new' (Kd.R_new' (Kd.R_new' (Kd.R_new' ho0 (Kd.R_lt (by (with_reducible repeat (first | apply Kd.R_alloc | apply Kd.R_drewN | apply Kd.R_drew)); exact HO362.out))) (Kd.R_lt (by (with_reducible repeat (first | apply Kd.R_alloc | apply Kd.R_drewN | apply Kd.R_drew)); exact HO365.out))) (Kd.R_lt (by (with_reducible repeat (first | apply Kd.R_alloc | apply Kd.R_drewN | apply Kd.R_drew)); exact HO378.out))) (Kd.R_lt (by (with_reducible repeat (first | apply Kd.R_alloc | apply Kd.R_drewN | apply Kd.R_drew)); exact HO381.out))) (below_size (by repeat (first | (with_reducible first | exact HB.out | apply below_alloc | apply pw_below_drewN | apply below_drew1 | refine below_set ?_ GE356.out | refine below_set ?_ GE391.out) | exact HB.out)))); have n11_ := Aside0.mk (blk_below (g := gb356) (o := .cells #[.slice A6_0 l6_0.length c6_0, .slice A6_1 l6_1.length c6_1, .slice A6_2 l6_2.length c6_2] 25 (0, 0)) (by (with_reducible repeat (first | refine blk_drewN ?_ _ | refine blk_drew ?_ | refine blk_alloc ?_ _)); exact BK356.out) hb); have n12_ := Aside0.mk (blk_below (g := gb391) (o := .cells #[.slice Ao55 t382.length co55, .slice Ao58 t385.length co58, .slice Ao59 t388.length co59] 31 (0, 0)) (by (with_reducible repeat (first | refine blk_drewN ?_ _ | refine blk_drew ?_ | refine blk_alloc ?_ _)); exact BK391.out) hb); have n13_ := Aside0.mk (below_step (by repeat (first | (with_reducible first | exact HB.out | apply below_alloc | apply pw_below_drewN | apply below_drew1 | refine below_set ?_ GE356.out | refine below_set ?_ GE391.out) | exact HB.out)) hb); clear HO362; clear HO365; clear HO368; clear HO371; clear HO374; clear HO378; clear HO381; clear HO384; clear HO387; clear HO390; clear BK356; clear BK391; clear HB; have HO362 := n0_; have HO365 := n1_; have HO368 := n2_; have HO371 := n3_; have HO374 := n4_; have HO378 := n5_; have HO381 := n6_; have HO384 := n7_; have HO387 := n8_; have HO390 := n9_; have HO395 := n10_; have BK356 := n11_; have BK391 := n12_; have HB := n13_; clear n0_ n1_ n2_ n3_ n4_ n5_ n6_ n7_ n8_ n9_ n10_ n11_ n12_ n13_; (try clear hb); (try clear hb2); (try clear hk); (try clear hi); (try clear ho0); obtain ⟨Ao64, co64, eo64⟩ := Kd.R_slice HO395.out; subst eo64) | ((with_reducible refine gate_callee (f := 18) rfl ?_); refine goesL_ (some 67) rfl rfl Try.func18 (by kernel_rfl) rfl #[.slice Ao60 t376.length co60, .slice Ao64 t393.length co64] rfl (by (try simp only [List.map_toArray, List.map_cons, List.map_nil]); first | done | rfl | (simp only [List.length_drop, List.length_take]; rfl)) ?_; (with_reducible refine (laws_eqNodeS.calls k _ _ t376 _ _ t393 true _ ?side1 ?side2 ?side3 ?side4 A29.out).mono ?_); (case side1 => repeat (first | exact (Kd.R_reads' HO378.out).2.2 | (with_reducible refine Kd.C_alloc ?_ _) | (with_reducible refine Kd.C_drewN ?_ _) | (with_reducible refine Kd.C_drew ?_))); (case side2 => exact (Kd.R_reads' HO378.out).2.1); (case side3 => repeat (first | exact (Kd.R_reads' HO395.out).2.2 | (with_reducible refine Kd.C_alloc ?_ _) | (with_reducible refine Kd.C_drewN ?_ _) | (with_reducible refine Kd.C_drew ?_))); (case side4 => exact (Kd.R_reads' HO395.out).2.1); rintro e w65 ⟨rfl, hb⟩; refine ⟨_, rfl, ?_⟩; have n0_ := Aside0.mk (Kd.R_below (by (with_reducible repeat (first | apply Kd.R_alloc | apply Kd.R_drewN | apply Kd.R_drew)); exact HO362.out) hb); have n1_ := Aside0.mk (Kd.R_below (by (with_reducible repeat (first | apply Kd.R_alloc | apply Kd.R_drewN | apply Kd.R_drew)); exact HO365.out) hb); have n2_ := Aside0.mk (Kd.R_below (by (with_reducible repeat (first | apply Kd.R_alloc | apply Kd.R_drewN | apply Kd.R_drew)); exact HO368.out) hb); have n3_ := Aside0.mk (Kd.R_below (by (with_reducible repeat (first | apply Kd.R_alloc | apply Kd.R_drewN | apply Kd.R_drew)); exact HO371.out) hb); have n4_ := Aside0.mk (Kd.R_below (by (with_reducible repeat (first | apply Kd.R_alloc | apply Kd.R_drewN | apply Kd.R_drew)); exact HO374.out) hb); have n5_ := Aside0.mk (Kd.R_below (by (with_reducible repeat (first | apply Kd.R_alloc | apply Kd.R_drewN | apply Kd.R_drew)); exact HO378.out) hb); have n6_ := Aside0.mk (Kd.R_below (by (with_reducible repeat (first | apply Kd.R_alloc | apply Kd.R_drewN | apply Kd.R_drew)); exact HO381.out) hb); have n7_ := Aside0.mk (Kd.R_below (by (with_reducible repeat (first | apply Kd.R_alloc | apply Kd.R_drewN | apply Kd.R_drew)); exact HO384.out) hb); have n8_ := Aside0.mk (Kd.R_below (by (with_reducible repeat (first | apply Kd.R_alloc | apply Kd.R_drewN | apply Kd.R_drew)); exact HO387.out) hb); have n9_ := Aside0.mk (Kd.R_below (by (with_reducible repeat (first | apply Kd.R_alloc | apply Kd.R_drewN | apply Kd.R_drew)); exact HO390.out) hb); have n10_ := Aside0.mk (Kd.R_below (by (with_reducible repeat (first | apply Kd.R_alloc | apply Kd.R_drewN | apply Kd.R_drew)); exact HO395.out) hb); have n11_ := Aside0.mk (blk_below (g := gb356) (o := .cells #[.slice A6_0 l6_0.length c6_0, .slice A6_1 l6_1.length c6_1, .slice A6_2 l6_2.length c6_2] 25 (0, 0)) (by (with_reducible repeat (first | refine blk_drewN ?_ _ | refine blk_drew ?_ | refine blk_alloc ?_ _)); exact BK356.out) hb); have n12_ := Aside0.mk (blk_below (g := gb391) (o := .cells #[.slice Ao55 t382.length co55, .slice Ao58 t385.length co58, .slice Ao59 t388.length co59] 31 (0, 0)) (by (with_reducible repeat (first | refine blk_drewN ?_ _ | refine blk_drew ?_ | refine blk_alloc ?_ _)); exact BK391.out) hb); have n13_ := Aside0.mk (below_step (by repeat (first | (with_reducible first | exact HB.out | apply below_alloc | apply pw_below_drewN | apply below_drew1 | refine below_set ?_ GE356.out | refine below_set ?_ GE391.out) | exact HB.out)) hb); clear HO362; clear HO365; clear HO368; clear HO371; clear HO374; clear HO378; clear HO381; clear HO384; clear HO387; clear HO390; clear HO395; clear BK356; clear BK391; clear HB; have HO362 := n0_; have HO365 := n1_; have HO368 := n2_; have HO371 := n3_; have HO374 := n4_; have HO378 := n5_; have HO381 := n6_; have HO384 := n7_; have HO387 := n8_; have HO390 := n9_; have HO395 := n10_; have BK356 := n11_; have BK391 := n12_; have HB := n13_; clear n0_ n1_ n2_ n3_ n4_ n5_ n6_ n7_ n8_ n9_ n10_ n11_ n12_ n13_; (try clear hb); (try clear hb2); (try clear hk); (try clear hi)) | ((with_reducible refine gate_callee (f := 15) rfl ?_); refine goesL_ (some 71) rfl rfl Try.func15 (by kernel_rfl) rfl #[.slice A3 l3.length c3] rfl (by (try simp only [List.map_toArray, List.map_cons, List.map_nil]); first | done | rfl | (simp only [List.length_drop, List.length_take]; rfl)) ?_; (with_reducible refine (laws_toNodeS.calls k _ _ l3 t397 _ ?side1 ?side2 A31.out).mono ?_); (case side1 => repeat (first | exact (Kd.C_below HR3.out HB.out) | (with_reducible refine Kd.C_alloc ?_ _) | (with_reducible refine Kd.C_drewN ?_ _) | (with_reducible refine Kd.C_drew ?_))); (case side2 => exact HC3.out); rintro e w66 ⟨v398, rfl, ho0, hb⟩; refine ⟨_, rfl, ?_⟩; have n0_ := Aside0.mk (Kd.R_elder' (by (with_reducible repeat (first | apply Kd.R_alloc | apply Kd.R_drewN | apply Kd.R_drew)); exact HO362.out) (Kd.R_base ho0) hb); have n1_ := Aside0.mk (Kd.R_elder' (by (with_reducible repeat (first | apply Kd.R_alloc | apply Kd.R_drewN | apply Kd.R_drew)); exact HO365.out) (Kd.R_base ho0) hb); have n2_ := Aside0.mk (Kd.R_below (by (with_reducible repeat (first | apply Kd.R_alloc | apply Kd.R_drewN | apply Kd.R_drew)); exact HO368.out) hb); have n3_ := Aside0.mk (Kd.R_below (by (with_reducible repeat (first | apply Kd.R_alloc | apply Kd.R_drewN | apply Kd.R_drew)); exact HO371.out) hb); have n4_ := Aside0.mk (Kd.R_below (by (with_reducible repeat (first | apply Kd.R_alloc | apply Kd.R_drewN | apply Kd.R_drew)); exact HO374.out) hb); have n5_ := Aside0.mk (Kd.R_elder' (by (with_reducible repeat (first | apply Kd.R_alloc | apply Kd.R_drewN | apply Kd.R_drew)); exact HO378.out) (Kd.R_base ho0) hb); have n6_ := Aside0.mk (Kd.R_elder' (by (with_reducible repeat (first | apply Kd.R_alloc | apply Kd.R_drewN | apply Kd.R_drew)); exact HO381.out) (Kd.R_base ho0) hb); have n7_ := Aside0.mk (Kd.R_below (by (with_reducible repeat (first | apply Kd.R_alloc | apply Kd.R_drewN | apply Kd.R_drew)); exact HO384.out) hb); have n8_ := Aside0.mk (Kd.R_below (by (with_reducible repeat (first | apply Kd.R_alloc | apply Kd.R_drewN | apply Kd.R_drew)); exact HO387.out) hb); have n9_ := Aside0.mk (Kd.R_below (by (with_reducible repeat (first | apply Kd.R_alloc | apply Kd.R_drewN | apply Kd.R_drew)); exact HO390.out) hb); have n10_ := Aside0.mk (Kd.R_elder' (by (with_reducible repeat (first | apply Kd.R_alloc | apply Kd.R_drewN | apply Kd.R_drew)); exact HO395.out) (Kd.R_base ho0) hb); have n11_ := Aside0.mk (Kd.R_lower (Kd.R_new' (Kd.R_new' (Kd.R_new' (Kd.R_new' (Kd.R_new' ho0 (Kd.R_lt (by (with_reducible repeat (first | apply Kd.R_alloc | apply Kd.R_drewN | apply Kd.R_drew)); exact HO362.out))) (Kd.R_lt (by (with_reducible repeat (first | apply Kd.R_alloc | apply Kd.R_drewN | apply Kd.R_drew)); exact HO365.out))) (Kd.R_lt (by (with_reducible repeat (first | apply Kd.R_alloc | apply Kd.R_drewN | apply Kd.R_drew)); exact HO378.out))) (Kd.R_lt (by (with_reducible repeat (first | apply Kd.R_alloc | apply Kd.R_drewN | apply Kd.R_drew)); exact HO381.out))) (Kd.R_lt (by (with_reducible repeat (first | apply Kd.R_alloc | apply Kd.R_drewN | apply Kd.R_drew)); exact HO395.out))) (below_size (by repeat (first | (with_reducible first | exact HB.out | apply below_alloc | apply pw_below_drewN | apply below_drew1 | refine below_set ?_ GE356.out | refine below_set ?_ GE391.out) | exact HB.out)))); have n12_ := Aside0.mk (blk_below (g := gb356) (o := .cells #[.slice A6_0 l6_0.length c6_0, .slice A6_1 l6_1.length c6_1, .slice A6_2 l6_2.length c6_2] 25 (0, 0)) (by (with_reducible repeat (first | refine blk_drewN ?_ _ | refine blk_drew ?_ | refine blk_alloc ?_ _)); exact BK356.out) hb); have n13_ := Aside0.mk (blk_below (g := gb391) (o := .cells #[.slice Ao55 t382.length co55, .slice Ao58 t385.length co58, .slice Ao59 t388.length co59] 31 (0, 0)) (by (with_reducible repeat (first | refine blk_drewN ?_ _ | refine blk_drew ?_ | refine blk_alloc ?_ _)); exact BK391.out) hb); have n14_ := Aside0.mk (below_step (by repeat (first | (with_reducible first | exact HB.out | apply below_alloc | apply pw_below_drewN | apply below_drew1 | refine below_set ?_ GE356.out | refine below_set ?_ GE391.out) | exact HB.out)) hb); clear HO362; clear HO365; clear HO368; clear HO371; clear HO374; clear HO378; clear HO381; clear HO384; clear HO387; clear HO390; clear HO395; clear BK356; clear BK391; clear HB; have HO362 := n0_; have HO365 := n1_; have HO368 := n2_; have HO371 := n3_; have HO374 := n4_; have HO378 := n5_; have HO381 := n6_; have HO384 := n7_; have HO387 := n8_; have HO390 := n9_; have HO395 := n10_; have HO399 := n11_; have BK356 := n12_; have BK391 := n13_; have HB := n14_; clear n0_ n1_ n2_ n3_ n4_ n5_ n6_ n7_ n8_ n9_ n10_ n11_ n12_ n13_ n14_; (try clear hb); (try clear hb2); (try clear hk); (try clear hi); (try clear ho0); obtain ⟨Ao67, co67, eo67⟩ := Kd.R_slice HO399.out; subst eo67) | ((with_reducible refine gate_callee (f := 18) rfl ?_); refine goesL_ (some 72) rfl rfl Try.func18 (by kernel_rfl) rfl #[.slice Ao61 t379.length co61, .slice Ao67 t397.length co67] rfl (by (try simp only [List.map_toArray, List.map_cons, List.map_nil]); first | done | rfl | (simp only [List.length_drop, List.length_take]; rfl)) ?_; (with_reducible refine (laws_eqNodeS.calls k _ _ t379 _ _ t397 true _ ?side1 ?side2 ?side3 ?side4 A32.out).mono ?_); (case side1 => repeat (first | exact (Kd.R_reads' HO381.out).2.2 | (with_reducible refine Kd.C_alloc ?_ _) | (with_reducible refine Kd.C_drewN ?_ _) | (with_reducible refine Kd.C_drew ?_))); (case side2 => exact (Kd.R_reads' HO381.out).2.1); (case side3 => repeat (first | exact (Kd.R_reads' HO399.out).2.2 | (with_reducible refine Kd.C_alloc ?_ _) | (with_reducible refine Kd.C_drewN ?_ _) | (with_reducible refine Kd.C_drew ?_))); (case side4 => exact (Kd.R_reads' HO399.out).2.1); rintro e w68 ⟨rfl, hb⟩; refine ⟨_, rfl, ?_⟩; have n0_ := Aside0.mk (Kd.R_below (by (with_reducible repeat (first | apply Kd.R_alloc | apply Kd.R_drewN | apply Kd.R_drew)); exact HO362.out) hb); have n1_ := Aside0.mk (Kd.R_below (by (with_reducible repeat (first | apply Kd.R_alloc | apply Kd.R_drewN | apply Kd.R_drew)); exact HO365.out) hb); have n2_ := Aside0.mk (Kd.R_below (by (with_reducible repeat (first | apply Kd.R_alloc | apply Kd.R_drewN | apply Kd.R_drew)); exact HO368.out) hb); have n3_ := Aside0.mk (Kd.R_below (by (with_reducible repeat (first | apply Kd.R_alloc | apply Kd.R_drewN | apply Kd.R_drew)); exact HO371.out) hb); have n4_ := Aside0.mk (Kd.R_below (by (with_reducible repeat (first | apply Kd.R_alloc | apply Kd.R_drewN | apply Kd.R_drew)); exact HO374.out) hb); have n5_ := Aside0.mk (Kd.R_below (by (with_reducible repeat (first | apply Kd.R_alloc | apply Kd.R_drewN | apply Kd.R_drew)); exact HO378.out) hb); have n6_ := Aside0.mk (Kd.R_below (by (with_reducible repeat (first | apply Kd.R_alloc | apply Kd.R_drewN | apply Kd.R_drew)); exact HO381.out) hb); have n7_ := Aside0.mk (Kd.R_below (by (with_reducible repeat (first | apply Kd.R_alloc | apply Kd.R_drewN | apply Kd.R_drew)); exact HO384.out) hb); have n8_ := Aside0.mk (Kd.R_below (by (with_reducible repeat (first | apply Kd.R_alloc | apply Kd.R_drewN | apply Kd.R_drew)); exact HO387.out) hb); have n9_ := Aside0.mk (Kd.R_below (by (with_reducible repeat (first | apply Kd.R_alloc | apply Kd.R_drewN | apply Kd.R_drew)); exact HO390.out) hb); have n10_ := Aside0.mk (Kd.R_below (by (with_reducible repeat (first | apply Kd.R_alloc | apply Kd.R_drewN | apply Kd.R_drew)); exact HO395.out) hb); have n11_ := Aside0.mk (Kd.R_below (by (with_reducible repeat (first | apply Kd.R_alloc | apply Kd.R_drewN | apply Kd.R_drew)); exact HO399.out) hb); have n12_ := Aside0.mk (blk_below (g := gb356) (o := .cells #[.slice A6_0 l6_0.length c6_0, .slice A6_1 l6_1.length c6_1, .slice A6_2 l6_2.length c6_2] 25 (0, 0)) (by (with_reducible repeat (first | refine blk_drewN ?_ _ | refine blk_drew ?_ | refine blk_alloc ?_ _)); exact BK356.out) hb); have n13_ := Aside0.mk (blk_below (g := gb391) (o := .cells #[.slice Ao55 t382.length co55, .slice Ao58 t385.length co58, .slice Ao59 t388.length co59] 31 (0, 0)) (by (with_reducible repeat (first | refine blk_drewN ?_ _ | refine blk_drew ?_ | refine blk_alloc ?_ _)); exact BK391.out) hb); have n14_ := Aside0.mk (below_step (by repeat (first | (with_reducible first | exact HB.out | apply below_alloc | apply pw_below_drewN | apply below_drew1 | refine below_set ?_ GE356.out | refine below_set ?_ GE391.out) | exact HB.out)) hb); clear HO362; clear HO365; clear HO368; clear HO371; clear HO374; clear HO378; clear HO381; clear HO384; clear HO387; clear HO390; clear HO395; clear HO399; clear BK356; clear BK391; clear HB; have HO362 := n0_; have HO365 := n1_; have HO368 := n2_; have HO371 := n3_; have HO374 := n4_; have HO378 := n5_; have HO381 := n6_; have HO384 := n7_; have HO387 := n8_; have HO390 := n9_; have HO395 := n10_; have HO399 := n11_; have BK356 := n12_; have BK391 := n13_; have HB := n14_; clear n0_ n1_ n2_ n3_ n4_ n5_ n6_ n7_ n8_ n9_ n10_ n11_ n12_ n13_ n14_; (try clear hb); (try clear hb2); (try clear hk); (try clear hi)))
        have n0_ := Aside0.mk (Kd.R_drew HO362.out)
        have n1_ := Aside0.mk (Kd.R_drew HO365.out)
        have n2_ := Aside0.mk (Kd.R_drew HO368.out)
        have n3_ := Aside0.mk (Kd.R_drew HO371.out)
        have n4_ := Aside0.mk (Kd.R_drew HO374.out)
        have n5_ := Aside0.mk (Kd.R_drew HO378.out)
        have n6_ := Aside0.mk (Kd.R_drew HO381.out)
        have n7_ := Aside0.mk (Kd.R_drew HO384.out)
        have n8_ := Aside0.mk (Kd.R_drew HO387.out)
        have n9_ := Aside0.mk (Kd.R_drew HO390.out)
        have n10_ := Aside0.mk (Kd.R_drew HO395.out)
        have n11_ := Aside0.mk (Kd.R_drew HO399.out)
        have n12_ := Aside0.mk (blk_drew BK356.out)
        have n13_ := Aside0.mk (blk_drew BK391.out)
        have n14_ := Aside0.mk (below_drew1 HB.out)
        clear HO362
        clear HO365
        clear HO368
        clear HO371
        clear HO374
        clear HO378
        clear HO381
        clear HO384
        clear HO387
        clear HO390
        clear HO395
        clear HO399
        clear BK356
        clear BK391
        clear HB
        have HO362 := n0_
        have HO365 := n1_
        have HO368 := n2_
        have HO371 := n3_
        have HO374 := n4_
        have HO378 := n5_
        have HO381 := n6_
        have HO384 := n7_
        have HO387 := n8_
        have HO390 := n9_
        have HO395 := n10_
        have HO399 := n11_
        have BK356 := n12_
        have BK391 := n13_
        have HB := n14_
        clear n0_ n1_ n2_ n3_ n4_ n5_ n6_ n7_ n8_ n9_ n10_ n11_ n12_ n13_ n14_
        refine start_ (n := 5) (S := fun w' => w'.cell? ⟨gb391, 0, none⟩ = some (.slice Ao55 t382.length co55) ∧ w'.cell? ⟨gb391, 1, none⟩ = some (.slice Ao58 t385.length co58) ∧ w'.cell? ⟨gb391, 2, none⟩ = some (.slice Ao59 t388.length co59) ∧ w'.cell? ⟨gb356, 0, none⟩ = some (.slice A6_0 l6_0.length c6_0) ∧ w'.cell? ⟨gb356, 1, none⟩ = some (.slice A6_1 l6_1.length c6_1) ∧ w'.cell? ⟨gb356, 2, none⟩ = some (.slice A6_2 l6_2.length c6_2)) (ds := []) #[false, false, false, false, false] (by kernel_rfl) rfl rfl ⟨(blk_cell BK391.out 0).trans rfl, (blk_cell BK391.out 1).trans rfl, (blk_cell BK391.out 2).trans rfl, (blk_cell BK356.out 0).trans rfl, (blk_cell BK356.out 1).trans rfl, (blk_cell BK356.out 2).trans rfl⟩ (fun hHeld => ?_)
        generalize w68.drew = w69 at HO362 HO365 HO368 HO371 HO374 HO378 HO381 HO384 HO387 HO390 HO395 HO399 BK356 BK391 HB hHeld ⊢
        refine ta_ 0 (some 74) #[true, false, false, false, false] rfl rfl (by kernel_rfl) hHeld (by rintro w' ⟨s0, s1, s2, s3, s4, s5⟩; go_simp; with_reducible rfl) ?_
        refine ta_ 1 (some 75) #[true, true, false, false, false] rfl rfl (by kernel_rfl) hHeld (by rintro w' ⟨s0, s1, s2, s3, s4, s5⟩; go_simp; with_reducible rfl) ?_
        refine one_ (i := 2) (N := some 76) #[true, true, true, false, false] rfl rfl (by kernel_rfl) (by decide) (fun K hK => ?_)
        refine goes_ Try.func16 (by kernel_rfl) rfl #[.agg #[.slice A6_0 l6_0.length c6_0, .slice A6_1 l6_1.length c6_1, .slice A6_2 l6_2.length c6_2]] (by rfl) rfl rfl (by (try simp only [List.map_toArray, List.map_cons, List.map_nil]); first | done | rfl | (simp only [List.length_drop, List.length_take]; rfl)) ?_
        with_reducible refine (laws_toCost.calls k _ _ l6_0 _ _ l6_1 _ _ l6_2 t401 t404 t407 _ ?side1 ?side2 ?side3 ?side4 ?side5 ?side6 A34.out).mono ?_
        (case side1 => repeat (first | exact (Kd.C_below HR6_0.out HB.out) | (with_reducible refine Kd.C_alloc ?_ _) | (with_reducible refine Kd.C_drewN ?_ _) | (with_reducible refine Kd.C_drew ?_)))
        (case side2 => exact HC6_0.out)
        (case side3 => repeat (first | exact (Kd.C_below HR6_1.out HB.out) | (with_reducible refine Kd.C_alloc ?_ _) | (with_reducible refine Kd.C_drewN ?_ _) | (with_reducible refine Kd.C_drew ?_)))
        (case side4 => exact HC6_1.out)
        (case side5 => repeat (first | exact (Kd.C_below HR6_2.out HB.out) | (with_reducible refine Kd.C_alloc ?_ _) | (with_reducible refine Kd.C_drewN ?_ _) | (with_reducible refine Kd.C_drew ?_)))
        (case side6 => exact HC6_2.out)
        rintro e w70 ⟨v402, v405, v408, rfl, ho0, ho1, ho2, hb⟩
        refine ⟨_, rfl, ?_⟩
        have n0_ := Aside0.mk (Kd.R_below (by (with_reducible repeat (first | apply Kd.R_alloc | apply Kd.R_drewN | apply Kd.R_drew)); exact HO362.out) hb)
        have n1_ := Aside0.mk (Kd.R_below (by (with_reducible repeat (first | apply Kd.R_alloc | apply Kd.R_drewN | apply Kd.R_drew)); exact HO365.out) hb)
        have n2_ := Aside0.mk (Kd.R_mono (Kd.R_told (Kd.R_told (Kd.R_told (Kd.R_old (by (with_reducible repeat (first | apply Kd.R_alloc | apply Kd.R_drewN | apply Kd.R_drew)); exact HO368.out) hb) (Kd.R_base ho0)) (Kd.R_base ho1)) (Kd.R_base ho2)) (fun _ h_ => h_.1))
        have n3_ := Aside0.mk (Kd.R_mono (Kd.R_told (Kd.R_told (Kd.R_told (Kd.R_old (by (with_reducible repeat (first | apply Kd.R_alloc | apply Kd.R_drewN | apply Kd.R_drew)); exact HO371.out) hb) (Kd.R_base ho0)) (Kd.R_base ho1)) (Kd.R_base ho2)) (fun _ h_ => h_.1))
        have n4_ := Aside0.mk (Kd.R_mono (Kd.R_told (Kd.R_told (Kd.R_told (Kd.R_old (by (with_reducible repeat (first | apply Kd.R_alloc | apply Kd.R_drewN | apply Kd.R_drew)); exact HO374.out) hb) (Kd.R_base ho0)) (Kd.R_base ho1)) (Kd.R_base ho2)) (fun _ h_ => h_.1))
        have n5_ := Aside0.mk (Kd.R_below (by (with_reducible repeat (first | apply Kd.R_alloc | apply Kd.R_drewN | apply Kd.R_drew)); exact HO378.out) hb)
        have n6_ := Aside0.mk (Kd.R_below (by (with_reducible repeat (first | apply Kd.R_alloc | apply Kd.R_drewN | apply Kd.R_drew)); exact HO381.out) hb)
        have n7_ := Aside0.mk (Kd.R_mono (Kd.R_told (Kd.R_told (Kd.R_told (Kd.R_old (by (with_reducible repeat (first | apply Kd.R_alloc | apply Kd.R_drewN | apply Kd.R_drew)); exact HO384.out) hb) (Kd.R_base ho0)) (Kd.R_base ho1)) (Kd.R_base ho2)) (fun _ h_ => h_.1))
        have n8_ := Aside0.mk (Kd.R_mono (Kd.R_told (Kd.R_told (Kd.R_told (Kd.R_old (by (with_reducible repeat (first | apply Kd.R_alloc | apply Kd.R_drewN | apply Kd.R_drew)); exact HO387.out) hb) (Kd.R_base ho0)) (Kd.R_base ho1)) (Kd.R_base ho2)) (fun _ h_ => h_.1))
        have n9_ := Aside0.mk (Kd.R_mono (Kd.R_told (Kd.R_told (Kd.R_told (Kd.R_old (by (with_reducible repeat (first | apply Kd.R_alloc | apply Kd.R_drewN | apply Kd.R_drew)); exact HO390.out) hb) (Kd.R_base ho0)) (Kd.R_base ho1)) (Kd.R_base ho2)) (fun _ h_ => h_.1))
        have n10_ := Aside0.mk (Kd.R_below (by (with_reducible repeat (first | apply Kd.R_alloc | apply Kd.R_drewN | apply Kd.R_drew)); exact HO395.out) hb)
        have n11_ := Aside0.mk (Kd.R_below (by (with_reducible repeat (first | apply Kd.R_alloc | apply Kd.R_drewN | apply Kd.R_drew)); exact HO399.out) hb)
        have n12_ := Aside0.mk (Kd.R_lower (Kd.R_new' (Kd.R_new' (Kd.R_new' (Kd.R_new' (Kd.R_new' (Kd.R_new' ho0 (Kd.R_lt (by (with_reducible repeat (first | apply Kd.R_alloc | apply Kd.R_drewN | apply Kd.R_drew)); exact HO368.out))) (Kd.R_lt (by (with_reducible repeat (first | apply Kd.R_alloc | apply Kd.R_drewN | apply Kd.R_drew)); exact HO371.out))) (Kd.R_lt (by (with_reducible repeat (first | apply Kd.R_alloc | apply Kd.R_drewN | apply Kd.R_drew)); exact HO374.out))) (Kd.R_lt (by (with_reducible repeat (first | apply Kd.R_alloc | apply Kd.R_drewN | apply Kd.R_drew)); exact HO384.out))) (Kd.R_lt (by (with_reducible repeat (first | apply Kd.R_alloc | apply Kd.R_drewN | apply Kd.R_drew)); exact HO387.out))) (Kd.R_lt (by (with_reducible repeat (first | apply Kd.R_alloc | apply Kd.R_drewN | apply Kd.R_drew)); exact HO390.out))) (below_size (by repeat (first | (with_reducible first | exact HB.out | apply below_alloc | apply pw_below_drewN | apply below_drew1 | refine below_set ?_ GE356.out | refine below_set ?_ GE391.out) | exact HB.out))))
        have n13_ := Aside0.mk (Kd.R_lower (Kd.R_new' (Kd.R_new' (Kd.R_new' (Kd.R_new' (Kd.R_new' (Kd.R_new' ho1 (Kd.R_lt (by (with_reducible repeat (first | apply Kd.R_alloc | apply Kd.R_drewN | apply Kd.R_drew)); exact HO368.out))) (Kd.R_lt (by (with_reducible repeat (first | apply Kd.R_alloc | apply Kd.R_drewN | apply Kd.R_drew)); exact HO371.out))) (Kd.R_lt (by (with_reducible repeat (first | apply Kd.R_alloc | apply Kd.R_drewN | apply Kd.R_drew)); exact HO374.out))) (Kd.R_lt (by (with_reducible repeat (first | apply Kd.R_alloc | apply Kd.R_drewN | apply Kd.R_drew)); exact HO384.out))) (Kd.R_lt (by (with_reducible repeat (first | apply Kd.R_alloc | apply Kd.R_drewN | apply Kd.R_drew)); exact HO387.out))) (Kd.R_lt (by (with_reducible repeat (first | apply Kd.R_alloc | apply Kd.R_drewN | apply Kd.R_drew)); exact HO390.out))) (below_size (by repeat (first | (with_reducible first | exact HB.out | apply below_alloc | apply pw_below_drewN | apply below_drew1 | refine below_set ?_ GE356.out | refine below_set ?_ GE391.out) | exact HB.out))))
        have n14_ := Aside0.mk (Kd.R_lower (Kd.R_new' (Kd.R_new' (Kd.R_new' (Kd.R_new' (Kd.R_new' (Kd.R_new' ho2 (Kd.R_lt (by (with_reducible repeat (first | apply Kd.R_alloc | apply Kd.R_drewN | apply Kd.R_drew)); exact HO368.out))) (Kd.R_lt (by (with_reducible repeat (first | apply Kd.R_alloc | apply Kd.R_drewN | apply Kd.R_drew)); exact HO371.out))) (Kd.R_lt (by (with_reducible repeat (first | apply Kd.R_alloc | apply Kd.R_drewN | apply Kd.R_drew)); exact HO374.out))) (Kd.R_lt (by (with_reducible repeat (first | apply Kd.R_alloc | apply Kd.R_drewN | apply Kd.R_drew)); exact HO384.out))) (Kd.R_lt (by (with_reducible repeat (first | apply Kd.R_alloc | apply Kd.R_drewN | apply Kd.R_drew)); exact HO387.out))) (Kd.R_lt (by (with_reducible repeat (first | apply Kd.R_alloc | apply Kd.R_drewN | apply Kd.R_drew)); exact HO390.out))) (below_size (by repeat (first | (with_reducible first | exact HB.out | apply below_alloc | apply pw_below_drewN | apply below_drew1 | refine below_set ?_ GE356.out | refine below_set ?_ GE391.out) | exact HB.out))))
        have n15_ := Aside0.mk (blk_below (g := gb356) (o := .cells #[.slice A6_0 l6_0.length c6_0, .slice A6_1 l6_1.length c6_1, .slice A6_2 l6_2.length c6_2] 25 (0, 0)) (by (with_reducible repeat (first | refine blk_drewN ?_ _ | refine blk_drew ?_ | refine blk_alloc ?_ _)); exact BK356.out) hb)
        have n16_ := Aside0.mk (blk_below (g := gb391) (o := .cells #[.slice Ao55 t382.length co55, .slice Ao58 t385.length co58, .slice Ao59 t388.length co59] 31 (0, 0)) (by (with_reducible repeat (first | refine blk_drewN ?_ _ | refine blk_drew ?_ | refine blk_alloc ?_ _)); exact BK391.out) hb)
        have n17_ := Aside0.mk (below_step (by repeat (first | (with_reducible first | exact HB.out | apply below_alloc | apply pw_below_drewN | apply below_drew1 | refine below_set ?_ GE356.out | refine below_set ?_ GE391.out) | exact HB.out)) hb)
        clear HO362
        clear HO365
        clear HO368
        clear HO371
        clear HO374
        clear HO378
        clear HO381
        clear HO384
        clear HO387
        clear HO390
        clear HO395
        clear HO399
        clear BK356
        clear BK391
        clear HB
        have HO362 := n0_
        have HO365 := n1_
        have HO368 := n2_
        have HO371 := n3_
        have HO374 := n4_
        have HO378 := n5_
        have HO381 := n6_
        have HO384 := n7_
        have HO387 := n8_
        have HO390 := n9_
        have HO395 := n10_
        have HO399 := n11_
        have HO403 := n12_
        have HO406 := n13_
        have HO409 := n14_
        have BK356 := n15_
        have BK391 := n16_
        have HB := n17_
        clear n0_ n1_ n2_ n3_ n4_ n5_ n6_ n7_ n8_ n9_ n10_ n11_ n12_ n13_ n14_ n15_ n16_ n17_
        (try clear hb)
        (try clear hb2)
        (try clear hk)
        (try clear hi)
        (try clear ho0)
        (try clear ho1)
        (try clear ho2)
        obtain ⟨Ao71, co71, eo71⟩ := Kd.R_slice HO403.out
        (first | subst eo71 | (injection eo71 with f1_ f2_ f3_; have f4_ := f1_.symm; have f5_ := f3_.symm; clear f1_ f2_ f3_; subst f4_; subst f5_))
        obtain ⟨Ao72, co72, eo72⟩ := Kd.R_slice HO406.out
        (first | subst eo72 | (injection eo72 with f1_ f2_ f3_; have f4_ := f1_.symm; have f5_ := f3_.symm; clear f1_ f2_ f3_; subst f4_; subst f5_))
        obtain ⟨Ao73, co73, eo73⟩ := Kd.R_slice HO409.out
        (first | subst eo73 | (injection eo73 with f1_ f2_ f3_; have f4_ := f1_.symm; have f5_ := f3_.symm; clear f1_ f2_ f3_; subst f4_; subst f5_))
        refine hK.out _ _ ⟨(blk_cell BK391.out 0).trans rfl, (blk_cell BK391.out 1).trans rfl, (blk_cell BK391.out 2).trans rfl, (blk_cell BK356.out 0).trans rfl, (blk_cell BK356.out 1).trans rfl, (blk_cell BK356.out 2).trans rfl⟩ (fun hHeld => ?_)
        clear hK K
        refine norm_ (a' := ?_) ?_ ?_
        rotate_left
        ·show Act.put _ (some 76) _ = _
         simp only [Act.put, List.setIfInBounds_toArray, List.set_cons_zero, List.set_cons_succ, i64_w, i32_w]
         rfl
        refine one_ (i := 3) (N := some 77) #[true, true, true, true, false] rfl rfl (by kernel_rfl) (by decide) (fun K hK => ?_)
        refine goes_ Try.func19 (by kernel_rfl) rfl #[.agg #[.slice Ao55 t382.length co55, .slice Ao58 t385.length co58, .slice Ao59 t388.length co59], .agg #[.slice Ao71 t401.length co71, .slice Ao72 t404.length co72, .slice Ao73 t407.length co73]] (by rfl) rfl rfl (by (try simp only [List.map_toArray, List.map_cons, List.map_nil]); first | done | rfl | (simp only [List.length_drop, List.length_take]; rfl)) ?_
        with_reducible refine (laws_eqCost.calls k _ _ t382 _ _ t385 _ _ t388 _ _ t401 _ _ t404 _ _ t407 true _ ?side1 ?side2 ?side3 ?side4 ?side5 ?side6 ?side7 ?side8 ?side9 ?side10 ?side11 ?side12 A35.out).mono ?_
        (case side1 => repeat (first | exact (Kd.R_reads' HO384.out).2.2 | (with_reducible refine Kd.C_alloc ?_ _) | (with_reducible refine Kd.C_drewN ?_ _) | (with_reducible refine Kd.C_drew ?_)))
        (case side2 => exact (Kd.R_reads' HO384.out).2.1)
        (case side3 => repeat (first | exact (Kd.R_reads' HO387.out).2.2 | (with_reducible refine Kd.C_alloc ?_ _) | (with_reducible refine Kd.C_drewN ?_ _) | (with_reducible refine Kd.C_drew ?_)))
        (case side4 => exact (Kd.R_reads' HO387.out).2.1)
        (case side5 => repeat (first | exact (Kd.R_reads' HO390.out).2.2 | (with_reducible refine Kd.C_alloc ?_ _) | (with_reducible refine Kd.C_drewN ?_ _) | (with_reducible refine Kd.C_drew ?_)))
        (case side6 => exact (Kd.R_reads' HO390.out).2.1)
        (case side7 => repeat (first | exact (Kd.R_reads' HO403.out).2.2 | (with_reducible refine Kd.C_alloc ?_ _) | (with_reducible refine Kd.C_drewN ?_ _) | (with_reducible refine Kd.C_drew ?_)))
        (case side8 => exact (Kd.R_reads' HO403.out).2.1)
        (case side9 => repeat (first | exact (Kd.R_reads' HO406.out).2.2 | (with_reducible refine Kd.C_alloc ?_ _) | (with_reducible refine Kd.C_drewN ?_ _) | (with_reducible refine Kd.C_drew ?_)))
        (case side10 => exact (Kd.R_reads' HO406.out).2.1)
        (case side11 => repeat (first | exact (Kd.R_reads' HO409.out).2.2 | (with_reducible refine Kd.C_alloc ?_ _) | (with_reducible refine Kd.C_drewN ?_ _) | (with_reducible refine Kd.C_drew ?_)))
        (case side12 => exact (Kd.R_reads' HO409.out).2.1)
        rintro e w74 ⟨rfl, hb⟩
        refine ⟨_, rfl, ?_⟩
        have n0_ := Aside0.mk (Kd.R_below (by (with_reducible repeat (first | apply Kd.R_alloc | apply Kd.R_drewN | apply Kd.R_drew)); exact HO362.out) hb)
        have n1_ := Aside0.mk (Kd.R_below (by (with_reducible repeat (first | apply Kd.R_alloc | apply Kd.R_drewN | apply Kd.R_drew)); exact HO365.out) hb)
        have n2_ := Aside0.mk (Kd.R_below (by (with_reducible repeat (first | apply Kd.R_alloc | apply Kd.R_drewN | apply Kd.R_drew)); exact HO368.out) hb)
        have n3_ := Aside0.mk (Kd.R_below (by (with_reducible repeat (first | apply Kd.R_alloc | apply Kd.R_drewN | apply Kd.R_drew)); exact HO371.out) hb)
        have n4_ := Aside0.mk (Kd.R_below (by (with_reducible repeat (first | apply Kd.R_alloc | apply Kd.R_drewN | apply Kd.R_drew)); exact HO374.out) hb)
        have n5_ := Aside0.mk (Kd.R_below (by (with_reducible repeat (first | apply Kd.R_alloc | apply Kd.R_drewN | apply Kd.R_drew)); exact HO378.out) hb)
        have n6_ := Aside0.mk (Kd.R_below (by (with_reducible repeat (first | apply Kd.R_alloc | apply Kd.R_drewN | apply Kd.R_drew)); exact HO381.out) hb)
        have n7_ := Aside0.mk (Kd.R_below (by (with_reducible repeat (first | apply Kd.R_alloc | apply Kd.R_drewN | apply Kd.R_drew)); exact HO384.out) hb)
        have n8_ := Aside0.mk (Kd.R_below (by (with_reducible repeat (first | apply Kd.R_alloc | apply Kd.R_drewN | apply Kd.R_drew)); exact HO387.out) hb)
        have n9_ := Aside0.mk (Kd.R_below (by (with_reducible repeat (first | apply Kd.R_alloc | apply Kd.R_drewN | apply Kd.R_drew)); exact HO390.out) hb)
        have n10_ := Aside0.mk (Kd.R_below (by (with_reducible repeat (first | apply Kd.R_alloc | apply Kd.R_drewN | apply Kd.R_drew)); exact HO395.out) hb)
        have n11_ := Aside0.mk (Kd.R_below (by (with_reducible repeat (first | apply Kd.R_alloc | apply Kd.R_drewN | apply Kd.R_drew)); exact HO399.out) hb)
        have n12_ := Aside0.mk (Kd.R_below (by (with_reducible repeat (first | apply Kd.R_alloc | apply Kd.R_drewN | apply Kd.R_drew)); exact HO403.out) hb)
        have n13_ := Aside0.mk (Kd.R_below (by (with_reducible repeat (first | apply Kd.R_alloc | apply Kd.R_drewN | apply Kd.R_drew)); exact HO406.out) hb)
        have n14_ := Aside0.mk (Kd.R_below (by (with_reducible repeat (first | apply Kd.R_alloc | apply Kd.R_drewN | apply Kd.R_drew)); exact HO409.out) hb)
        have n15_ := Aside0.mk (blk_below (g := gb356) (o := .cells #[.slice A6_0 l6_0.length c6_0, .slice A6_1 l6_1.length c6_1, .slice A6_2 l6_2.length c6_2] 25 (0, 0)) (by (with_reducible repeat (first | refine blk_drewN ?_ _ | refine blk_drew ?_ | refine blk_alloc ?_ _)); exact BK356.out) hb)
        have n16_ := Aside0.mk (blk_below (g := gb391) (o := .cells #[.slice Ao55 t382.length co55, .slice Ao58 t385.length co58, .slice Ao59 t388.length co59] 31 (0, 0)) (by (with_reducible repeat (first | refine blk_drewN ?_ _ | refine blk_drew ?_ | refine blk_alloc ?_ _)); exact BK391.out) hb)
        have n17_ := Aside0.mk (below_step (by repeat (first | (with_reducible first | exact HB.out | apply below_alloc | apply pw_below_drewN | apply below_drew1 | refine below_set ?_ GE356.out | refine below_set ?_ GE391.out) | exact HB.out)) hb)
        clear HO362
        clear HO365
        clear HO368
        clear HO371
        clear HO374
        clear HO378
        clear HO381
        clear HO384
        clear HO387
        clear HO390
        clear HO395
        clear HO399
        clear HO403
        clear HO406
        clear HO409
        clear BK356
        clear BK391
        clear HB
        have HO362 := n0_
        have HO365 := n1_
        have HO368 := n2_
        have HO371 := n3_
        have HO374 := n4_
        have HO378 := n5_
        have HO381 := n6_
        have HO384 := n7_
        have HO387 := n8_
        have HO390 := n9_
        have HO395 := n10_
        have HO399 := n11_
        have HO403 := n12_
        have HO406 := n13_
        have HO409 := n14_
        have BK356 := n15_
        have BK391 := n16_
        have HB := n17_
        clear n0_ n1_ n2_ n3_ n4_ n5_ n6_ n7_ n8_ n9_ n10_ n11_ n12_ n13_ n14_ n15_ n16_ n17_
        (try clear hb)
        (try clear hb2)
        (try clear hk)
        (try clear hi)
        refine hK.out _ _ ⟨(blk_cell BK391.out 0).trans rfl, (blk_cell BK391.out 1).trans rfl, (blk_cell BK391.out 2).trans rfl, (blk_cell BK356.out 0).trans rfl, (blk_cell BK356.out 1).trans rfl, (blk_cell BK356.out 2).trans rfl⟩ (fun hHeld => ?_)
        clear hK K
        refine norm_ (a' := ?_) ?_ ?_
        rotate_left
        ·show Act.put _ (some 77) _ = _
         simp only [Act.put, List.setIfInBounds_toArray, List.set_cons_zero, List.set_cons_succ, i64_w, i32_w]
         rfl
        refine pu_ 4 (some 78) #[true, true, true, true, true] rfl rfl (by kernel_rfl) ?_
        refine done_ (by kernel_rfl) ?_
        try go_wp2
        go_ret
        exact ⟨by first | rfl | (simp [errW_none, errW_some] <;> rfl) | (simp [*, errW_none, errW_some] <;> rfl), by repeat (first | (with_reducible first | exact HB.out | apply below_alloc | apply pw_below_drewN | apply below_drew1 | refine below_set ?_ GE356.out | refine below_set ?_ GE391.out) | exact HB.out)⟩
       ·replace c36 := Bool.eq_false_iff.mpr c36
        subst c36
        have H1 : (some false) = some true := by rw [if_neg (show ¬ (false = true) by decide)] at H; exact H
        clear H
        have H := H1
        clear H1
        exact absurd H (by simp)
      ·replace c33 := Bool.eq_false_iff.mpr c33
       subst c33
       have H1 : (some false) = some true := by rw [if_neg (show ¬ (false = true) by decide)] at H; exact H
       clear H
       have H := H1
       clear H1
       exact absurd H (by simp)
     ·replace c30 := Bool.eq_false_iff.mpr c30
      subst c30
      have H1 : (some false) = some true := by rw [if_neg (show ¬ (false = true) by decide)] at H; exact H
      clear H
      have H := H1
      clear H1
      exact absurd H (by simp)
    ·rw [if_neg c27] at H
     have c27b0 : (t392 == t375) = false := beq_eq_false_iff_ne.mpr c27
     have c27b1 : (t392 != t375) = true := bne_iff_ne.mpr c27
     exact absurd H (by simp)
end Go.Proofs.Ytelglbebffdaaaa.X
namespace Go.Proofs.Ytelglbebffdaaaa.Q
open Go.RowKit Go.Proofs.YtelglbebffdaaaaW.PrintWords Go.Proofs.YtelglbebffdaaaaW.PrintLast Go.Proofs.YtelglbebffdaaaaW.PrintMore Go.Proofs.Ytelglbebffdaaaa.X Go.Proofs.Ytelglbebffdaaaa.Rd
set_option linter.unusedVariables false
set_option linter.unusedSimpArgs false
theorem FnExactForestDist (a : List NodeL) (wa : WF22 a) (i1 : Int) (wi1 : (Lit.int .i64 i1).wf = true) (j1 : Int) (wj1 : (Lit.int .i64 j1).wf = true) (b : List NodeL) (wb : WF22 b) (k1 : Int) (wk1 : (Lit.int .i64 k1).wf = true) (m1 : Int) (wm1 : (Lit.int .i64 m1).wf = true) (c : CostL) (wc : WF25 c) : ∃ k, laws_FnExactForestDist.f k a i1 j1 b k1 m1 c.f0 c.f1 c.f2 = some true := by
  refine Ev.rounds (g := fun k => laws_FnExactForestDist.f k a i1 j1 b k1 m1 c.f0 c.f1 c.f2) ?_
  have wd := wc.1.1
  have wi_ := wc.2.1.1
  have wr := wc.2.2.1
  unfold laws_FnExactForestDist.f
  refine Ev.bindC (szNodeS_eq a _ (by omega) (by omega) wa.1) ?_
  by_cases h : (1048576 : Int) < a.length
  · rw [if_pos h]
    exact Ev.ifT (by omega) (Ev.now _)
  rw [if_neg h]
  refine Ev.ifF (by omega) (Ev.bindC (szNodeS_eq b _ (by omega) (by omega) wb.1) ?_)
  by_cases h1 : (1048576 : Int) - a.length < b.length
  · rw [if_pos h1]
    exact Ev.ifT (by omega) (Ev.now _)
  rw [if_neg h1]
  obtain ⟨z, hz, hp⟩ := szCost_eq c.f0 c.f1 c.f2 ((1048576 : Int) - a.length - b.length) (by omega) (by omega) wd wi_ wr
  refine Ev.ifF (by omega) (Ev.bindC hz ?_)
  rcases hp with hp | ⟨hp, rfl⟩
  · exact Ev.ifT hp (Ev.now _)
  refine Ev.ifF (by omega) ?_
  have ta := toNodeS_ev a (by omega)
  have tb := toNodeS_ev b (by omega)
  have tc := toCost_ev c.f0 c.f1 c.f2 (by omega) (by omega) (by omega)
  have la : (a.map toNode).length = a.length := by simp
  have lb : (b.map toNode).length = b.length := by simp
  have fit : Fit (a.map toNode) (b.map toNode) c.f0 c.f1 c.f2 := ⟨by omega, by omega, by omega, by omega, by omega⟩
  have s := spec_ForestDist.ev fit i1 j1 k1 m1
  have i := impl_ForestDist.ev (a.map toNode) i1 j1 (b.map toNode) k1 m1 c.f0 c.f1 c.f2
  refine Ev.bind ta (Ev.bind tb (Ev.bind tc (Ev.bind s (Ev.bind ta (Ev.bind tb (Ev.bind tc (Ev.bind i (Ev.ifT rfl ?_))))))))
  exact Ev.bind ta (Ev.bind (eqNodeS_ev _ (by omega)) (Ev.ifT rfl (Ev.bind tb (Ev.bind (eqNodeS_ev _ (by omega)) (Ev.ifT rfl (Ev.bind tc (Ev.bind (eqCost_ev _ _ _ (by omega) (by omega) (by omega)) (Ev.ifT rfl (Ev.now _)))))))))
end Go.Proofs.Ytelglbebffdaaaa.Q
