/- Part 11 of the proof of FnExactSlowDist: what it needs. -/
import Derived.Carry
import Derived.Test.YtelglbebffdaaaaKESlowDist3
import Derived.Test.YtelglbebffdaaaaKESlowDist6
import Derived.Test.YtelglbebffdaaaaKESlowDist9
import Derived.Test.YtelglbebffdaaaaKESlowDist10
namespace Go.Proofs.Ytelglbebffdaaaa.X
open Go.RowKit Go.Proofs.YtelglbebffdaaaaW.PrintWords Go.Proofs.YtelglbebffdaaaaW.PrintLast Go.Proofs.YtelglbebffdaaaaW.PrintMore Go.Proofs.Ytelglbebffdaaaa.Q
set_option linter.unusedVariables false
set_option linter.unusedSimpArgs false
theorem row1_of {W : World} {A : Option Addr} {c b n : Nat} {f : Nat → Int} (hn : 0 < n) (hc : n ≤ c) (hb : W.heap.size ≤ b) (h : Kd.C (Kd.int .i64) W A n ((List.range n).map f)) : Row1 W b (.slice A n c) n f := by
 obtain ⟨ad, rfl, h0⟩ := Kd.at_int h 0 (by omega) (by omega)
 refine ⟨ad, c, rfl, hc, ?_, fun p hp => ?_⟩
 ·have := World.block_lt_of_cell? W _ h0
  rw [add_block] at this
  omega
 ·obtain ⟨ad', e, h1⟩ := Kd.at_int h (p : Int) (by omega) (by omega)
  cases e
  rw [Int.toNat_natCast, rd_map hp] at h1
  exact h1
theorem row2_of {W : World} {A : Option Addr} {c b n m : Nat} {f : Nat → Nat → Int} {e : Nat} (hn : 0 < n) (hm : 0 < m) (hc : n ≤ c) (hb : W.heap.size ≤ b) (h : Kd.C (Kd.slice e (Kd.int .i64)) W A n ((List.range n).map fun p => (List.range m).map (f p))) : Row2 W b (.slice A n c) n m f := by
 have key : ∀ p, p < n → ∃ ad u, A = some ad ∧ W.cell? (ad.add p) = some u ∧ Row1 W b u m (f p) := fun p hp => by
  obtain ⟨ad, cs, hA, hlen, hK, hcell⟩ := ReadsRow.get_ h [] (p : Int) (by omega) (by omega)
  obtain ⟨A', c', hcs, hc', hC⟩ := hK
  subst hcs
  have e1 : ((List.range n).map fun p => (List.range m).map (f p)).getD (p : Int).toNat [] = (List.range m).map (f p) := by
   rw [Int.toNat_natCast, List.getD_eq_getElem?_getD, List.getElem?_map, List.getElem?_range hp]; rfl
  rw [e1] at hcell hC hc'
  have hl : ((List.range m).map (f p)).length = m := by simp
  rw [hl] at hcell hC hc'
  have h1 := hcell 0 _ rfl
  refine ⟨ad, _, hA, ?_, row1_of hm hc' hb hC⟩
  have e2 : (p : Int).toNat * (Kd.slice e (Kd.int .i64)).sz + 0 = p := by
   rw [Int.toNat_natCast]
   show p * 1 + 0 = p
   omega
  rw [e2] at h1
  exact h1
 obtain ⟨ad, u, hA, hu, _⟩ := key 0 hn
 subst hA
 refine ⟨ad, c, rfl, hc, ?_, fun p hp => ?_⟩
 ·have := World.block_lt_of_cell? W _ hu
  rw [add_block] at this
  omega
 ·obtain ⟨ad', u', e, h1, h2⟩ := key p hp
  cases e
  exact ⟨u', h1, h2⟩
noncomputable def fdB (a b : List NodeI) (i j k m : Int) (d n r : List Int) : Int :=
 if okAB a b d n r = true ∧ 0 ≤ i ∧ i ≤ j ∧ j ≤ (a.length : Int) ∧ 0 ≤ k ∧ k ≤ m ∧ m ≤ (b.length : Int) then Ted.D (msOf a b d n r) i.toNat j.toNat k.toNat m.toNat else -1
noncomputable def impl_ForestDist.f (q : Nat) (a : List NodeI) (i j : Int) (b : List NodeI) (k m : Int) (d n r : List Int) : Option Int := (impl_measureOf.f q a b d n r).bind fun _ => some (fdB a b i j k m d n r)
theorem impl_ForestDist.ev (a : List NodeI) (i j : Int) (b : List NodeI) (k m : Int) (d n r : List Int) : Ev (fun q => impl_ForestDist.f q a i j b k m d n r) (fdB a b i j k m d n r) := by
 unfold impl_ForestDist.f
 exact Ev.bind (implMeasure_ev a b d n r) (Ev.now _)
theorem Row1.below {b : Nat} {W W1 : World} (h : Below W.heap.size W W1) {v : Value} {n : Nat} {f : Nat → Int} (r : Row1 W b v n f) : Row1 W1 b v n f := by
 obtain ⟨ad, c, e, hc, hb, hp⟩ := r.is
 exact ⟨ad, c, e, hc, hb, fun p hp' => (h.cell (World.block_lt_of_cell? _ _ (hp p hp'))).trans (hp p hp')⟩
theorem Row2.below {b : Nat} {W W1 : World} (h : Below W.heap.size W W1) {v : Value} {n m : Nat} {f : Nat → Nat → Int} (r : Row2 W b v n m f) : Row2 W1 b v n m f := by
 obtain ⟨ad, c, e, hc, hb, hp⟩ := r.is
 refine ⟨ad, c, e, hc, hb, fun p hp' => ?_⟩
 obtain ⟨u, hu, r1⟩ := hp p hp'
 exact ⟨u, (h.cell (World.block_lt_of_cell? _ _ hu)).trans hu, r1.below h⟩
theorem Mea.below {M : Ted.Ms} {A B : Nat} {b : Nat} {W W1 : World} (h : Below W.heap.size W W1) {v : Array Value} (r : Mea M A B W b v) : Mea M A B W1 b v := by
 obtain ⟨v0, v1, v2, v3, v4, v5, v6, e, h2, h3, h4, h5, h6⟩ := r.is
 exact ⟨v0, v1, v2, v3, v4, v5, v6, e, h2.below h, h3.below h, h4.below h, h5.below h, h6.below h⟩
theorem row1_R {W : World} {e base : Nat} {ok : Nat → Prop} {v : Value} {b n : Nat} {f : Nat → Int} (hn : 0 < n) (hb : W.heap.size ≤ b) (h : Kd.R (Kd.int .i64) e W base ok v ((List.range n).map f)) : Row1 W b v n f := by
 obtain ⟨A, c, rfl⟩ := Kd.R_slice h
 obtain ⟨_, h2, h3⟩ := Kd.R_reads' h
 have hl : ((List.range n).map f).length = n := by simp
 rw [hl] at h2 h3 ⊢
 exact row1_of hn h2 hb h3
theorem row2_S {W : World} {e e2 base : Nat} {ok : Nat → Prop} {v : Value} {b n m : Nat} {f : Nat → Nat → Int} (hn : 0 < n) (hm : 0 < m) (hb : W.heap.size ≤ b) (h : Kd.S (Kd.slice e2 (Kd.int .i64)) e W base ok v ((List.range n).map fun p => (List.range m).map (f p))) : Row2 W b v n m f := by
 obtain ⟨A, c, rfl, h2, h3⟩ := Kd.S_reads h
 have hl : ((List.range n).map fun p => (List.range m).map (f p)).length = n := by simp
 rw [hl] at h2 h3 ⊢
 exact row2_of hn hm h2 hb h3
def IsSl (v : Value) : Prop := ∃ A n c, v = .slice A n c
theorem sl_R {e base : Nat} {W : World} {ok : Nat → Prop} {v : Value} {xs : List Int} (h : Kd.R (Kd.int .i64) e W base ok v xs) : IsSl v := by
 obtain ⟨A, c, e⟩ := Kd.R_slice h
 exact ⟨_, _, _, e⟩
theorem mea_ok {q : Nat} {A0 : Option Addr} {c0 : Nat} {a : List NodeI} {A1 : Option Addr} {c1 : Nat} {b : List NodeI} {A2 : Option Addr} {c2 : Nat} {d : List Int} {A3 : Option Addr} {c3 : Nat} {i : List Int} {A4 : Option Addr} {c4 : Nat} {r : List Int} {t : _} {w : World}
  (hr0 : Kd.C k53 w A0 a.length a) (hc0 : a.length ≤ c0) (hr1 : Kd.C k53 w A1 b.length b) (hc1 : b.length ≤ c1) (hr2 : Kd.C (Kd.int .i64) w A2 d.length d) (hc2 : d.length ≤ c2) (hr3 : Kd.C (Kd.int .i64) w A3 i.length i) (hc3 : i.length ≤ c3) (hr4 : Kd.C (Kd.int .i64) w A4 r.length r) (hc4 : r.length ≤ c4)
  (ht : impl_measureOf.f q a b d i r = some t) :
  Calls Try.prog 57 #[.slice A0 a.length c0, .slice A1 b.length c1, .agg #[.slice A2 d.length c2, .slice A3 i.length c3, .slice A4 r.length c4]] w fun e w' =>
   ∃ v0 v1 v2 v3 v4 v5 v6 : Value, e = .returned (.tuple #[.agg #[v0, v1, v2, v3, v4, v5, v6], .bool (okAB a b d i r)]) ∧ Below w.heap.size w w' ∧ (IsSl v0 ∧ IsSl v1 ∧ IsSl v2 ∧ IsSl v3 ∧ IsSl v4 ∧ IsSl v5 ∧ IsSl v6) ∧ (okAB a b d i r = true → ∀ bk, w'.heap.size ≤ bk → Mea (msOf a b d i r) a.length b.length w' bk #[v0, v1, v2, v3, v4, v5, v6]) := by
 have he : t = _ := ev_uniq (Ev.of (impl_measureOf.mono a b d i r) ht) (implMeasure_ev a b d i r)
 obtain ⟨r1, r2, r3, r4, r5, r6, r7, r8⟩ := t
 refine (impl_measureOf.calls q A0 c0 a A1 c1 b A2 c2 d A3 c3 i A4 c4 r r1 r2 r3 r4 r5 r6 r7 r8 w hr0 hc0 hr1 hc1 hr2 hc2 hr3 hc3 hr4 hc4 ht).mono ?_
 rintro e w' ⟨v0, v1, v2, v3, v4, v5, v6, rfl, h0, h1, h2, h3, h4, h5, h6, hb⟩
 have hsl : IsSl v0 ∧ IsSl v1 ∧ IsSl v2 ∧ IsSl v3 ∧ IsSl v4 ∧ IsSl v5 ∧ IsSl v6 := ⟨sl_R h0, sl_R h1, sl_R h2, sl_R h3, sl_R h4, sl_R h5, by obtain ⟨A, c, e, _⟩ := Kd.S_reads h6; exact ⟨_, _, _, e⟩⟩
 by_cases hok : okAB a b d i r = true
 ·rw [if_pos hok] at he
  simp only [Prod.mk.injEq] at he
  obtain ⟨rfl, rfl, rfl, rfl, rfl, rfl, rfl, rfl⟩ := he
  have hok2 := hok
  unfold okAB at hok2
  rw [Bool.and_eq_true, Bool.and_eq_true] at hok2
  have ta := (trB_iff a).1 hok2.1.1
  have tb := (trB_iff b).1 hok2.1.2
  have la := ta.len1
  have lb := tb.len1
  refine ⟨v0, v1, v2, v3, v4, v5, v6, by rw [hok], hb, hsl, fun _ bk hbk => ⟨v0, v1, v2, v3, v4, v5, v6, rfl, ?_, ?_, ?_, ?_, ?_⟩⟩
  ·exact row1_R la hbk h2
  ·exact row1_R lb hbk h3
  ·exact row1_R la hbk h4
  ·exact row1_R lb hbk h5
  ·exact row2_S la lb hbk h6
 ·rw [if_neg hok] at he
  simp only [Prod.mk.injEq] at he
  obtain ⟨rfl, rfl, rfl, rfl, rfl, rfl, rfl, rfl⟩ := he
  have hf : okAB a b d i r = false := by simpa using hok
  exact ⟨v0, v1, v2, v3, v4, v5, v6, by rw [hf], hb, hsl, fun h => absurd h hok⟩
attribute [local go_sem] run_makeMap
set_option maxHeartbeats 4000000 in
set_option maxRecDepth 100000 in
theorem impl_ForestDist.calls (q : Nat) (A0 : Option Addr) (c0 : Nat) (l0 : List NodeI) (l1 l2 : Int) (A3 : Option Addr) (c3 : Nat) (l3 : List NodeI) (l4 l5 : Int) (A6 : Option Addr) (c6 : Nat) (d : List Int) (A7 : Option Addr) (c7 : Nat) (n : List Int) (A8 : Option Addr) (c8 : Nat) (r : List Int) (res : Int) (w : World)
  (hr0 : Kd.C k53 w A0 l0.length l0) (hc0 : l0.length ≤ c0) (hr3 : Kd.C k53 w A3 l3.length l3) (hc3 : l3.length ≤ c3) (hr6 : Kd.C (Kd.int .i64) w A6 d.length d) (hc6 : d.length ≤ c6) (hr7 : Kd.C (Kd.int .i64) w A7 n.length n) (hc7 : n.length ≤ c7) (hr8 : Kd.C (Kd.int .i64) w A8 r.length r) (hc8 : r.length ≤ c8)
  (h : impl_ForestDist.f q l0 l1 l2 l3 l4 l5 d n r = some res) :
  Calls Try.prog 17 #[.slice A0 l0.length c0, .int .i64 l1, .int .i64 l2, .slice A3 l3.length c3, .int .i64 l4, .int .i64 l5, .agg #[.slice A6 d.length c6, .slice A7 n.length c7, .slice A8 r.length c8]] w fun e w' => e = .returned (.int .i64 res) ∧ Below w.heap.size w w' := by
 unfold impl_ForestDist.f at h
 obtain ⟨t, ht, h⟩ := Option.bind_eq_some_iff.mp h
 obtain rfl := Option.some.inj h
 clear h
 have HM : Aside0 (∀ W, Below w.heap.size w W → _) := ⟨fun W hb => mea_ok (Kd.C_below hr0 hb) hc0 (Kd.C_below hr3 hb) hc3 (Kd.C_below hr6 hb) hc6 (Kd.C_below hr7 hb) hc7 (Kd.C_below hr8 hb) hc8 ht⟩
 clear hr0 hc0 hr3 hc3 hr6 hc6 hr7 hc7 hr8 hc8 ht
 by_cases hok : okAB l0 l3 d n r = true ∧ 0 ≤ l1 ∧ l1 ≤ l2 ∧ l2 ≤ (l0.length : Int) ∧ 0 ≤ l4 ∧ l4 ≤ l5 ∧ l5 ≤ (l3.length : Int)
 ·have HV := Aside0.mk (show fdB l0 l3 l1 l2 l4 l5 d n r = Ted.D (msOf l0 l3 d n r) l1.toNat l2.toNat l4.toNat l5.toNat from if_pos hok)
  obtain ⟨ho, h1, h2, h3, h4, h5, h6⟩ := hok
  have HOK := Aside0.mk ho
  rw [ho] at HM
  obtain ⟨i, rfl⟩ := Int.eq_ofNat_of_zero_le h1
  obtain ⟨j, rfl⟩ := Int.eq_ofNat_of_zero_le (Int.le_trans h1 h2)
  obtain ⟨k, rfl⟩ := Int.eq_ofNat_of_zero_le h4
  obtain ⟨m, rfl⟩ := Int.eq_ofNat_of_zero_le (Int.le_trans h4 h5)
  have z1 : ¬ (i : Int) < 0 := by omega
  have z2 : ¬ (j : Int) < (i : Int) := by omega
  have z3 : ¬ (l0.length : Int) < (j : Int) := by omega
  have z4 : ¬ (k : Int) < 0 := by omega
  have z5 : ¬ (m : Int) < (k : Int) := by omega
  have z6 : ¬ (l3.length : Int) < (m : Int) := by omega
  go_enter Try.func17, Try.ntmps17
  go_wp2_with (first | (go_at_call 57; refine (HM.out _ ((Below.refl _ _).alloc (Nat.le_refl _) _)).mono ?_; rintro e w6 ⟨v0, v1, v2, v3, v4, v5, v6, rfl, hb, ⟨⟨a0, n0, e0, rfl⟩, ⟨a1, n1, e1, rfl⟩, ⟨a2, n2, e2, rfl⟩, ⟨a3, n3, e3, rfl⟩, ⟨a4, n4, e4, rfl⟩, ⟨a5, n5, e5, rfl⟩, ⟨a6, n6, e6, rfl⟩⟩, hmea⟩))
  have hol0 : okAB l0 l3 d n r = true := HOK.out
  have hok2 := hol0
  unfold okAB at hok2
  rw [Bool.and_eq_true, Bool.and_eq_true] at hok2
  have ta := (trB_iff l0).1 hok2.1.1
  have tb := (trB_iff l3).1 hok2.1.2
  have hB6 := Aside0.mk (((Below.refl w.heap.size w).alloc (Nat.le_refl _) (.cells #[.slice A6 d.length c6, .slice A7 n.length c7, .slice A8 r.length c8] 31)).trans (hb.mono (by simp)))
  have hMemo := Memo.start (msOf l0 l3 d n r) (w6.alloc (Obj.cells #[.slice a0 n0 e0, .slice a1 n1 e1, .slice a2 n2 e2, .slice a3 n3 e3, .slice a4 n4 e4, .slice a5 n5 e5, .slice a6 n6 e6] 70))
  have hsz : (w6.alloc (Obj.cells #[.slice a0 n0 e0, .slice a1 n1 e1, .slice a2 n2 e2, .slice a3 n3 e3, .slice a4 n4 e4, .slice a5 n5 e5, .slice a6 n6 e6] 70)).heap.size = w6.heap.size + 1 := by simp
  rw [hsz] at hMemo
  have hMea := (hmea trivial (w6.heap.size + 1) (by omega)).below (((Below.refl w6.heap.size w6).alloc (Nat.le_refl _) (Obj.cells #[.slice a0 n0 e0, .slice a1 n1 e1, .slice a2 n2 e2, .slice a3 n3 e3, .slice a4 n4 e4, .slice a5 n5 e5, .slice a6 n6 e6] 70)).alloc (by simp) (.map #[] 0))
  refine (forest_calls (msOf_small (costB_iff.1 hok2.2)) ta.len24 tb.len24 (fun p hp => lfN_le ta hp) (fun p hp => lfN_le tb hp) _ i j k m rfl (by omega) (by omega) (by omega) (by omega) _ _ _ [] hMea hMemo).mono ?_
  rintro e w9 ⟨rfl, hol, _⟩
  go_wp2
  go_ret
  refine ⟨by rw [HV.out]; simp only [Int.toNat_natCast]; rfl, hB6.out.trans ?_⟩
  refine Below.mono ?_ (show w.heap.size ≤ w6.heap.size from hB6.out.size)
  refine (((Below.refl w6.heap.size w6).alloc (Nat.le_refl _) _).alloc (by simp) _).trans ⟨hol.os, hol.tape, hol.output, hol.size, fun x hx => hol.block x (by simp; omega) (by simp; omega)⟩
 ·have HV : fdB l0 l3 l1 l2 l4 l5 d n r = -1 := if_neg hok
  rw [HV]
  have hcase : okAB l0 l3 d n r = false ∨ (okAB l0 l3 d n r = true ∧ l1 < 0) ∨ (okAB l0 l3 d n r = true ∧ ¬ l1 < 0 ∧ l2 < l1) ∨ (okAB l0 l3 d n r = true ∧ ¬ l1 < 0 ∧ ¬ l2 < l1 ∧ (l0.length : Int) < l2) ∨ (okAB l0 l3 d n r = true ∧ ¬ l1 < 0 ∧ ¬ l2 < l1 ∧ ¬ (l0.length : Int) < l2 ∧ l4 < 0) ∨
    (okAB l0 l3 d n r = true ∧ ¬ l1 < 0 ∧ ¬ l2 < l1 ∧ ¬ (l0.length : Int) < l2 ∧ ¬ l4 < 0 ∧ l5 < l4) ∨ (okAB l0 l3 d n r = true ∧ ¬ l1 < 0 ∧ ¬ l2 < l1 ∧ ¬ (l0.length : Int) < l2 ∧ ¬ l4 < 0 ∧ ¬ l5 < l4 ∧ (l3.length : Int) < l5) := by
   cases ho : okAB l0 l3 d n r with
   | false => exact Or.inl rfl
   | true =>
    rw [ho] at hok
    simp only [true_and, Bool.true_eq_false, false_or] at hok ⊢
    omega
  clear hok HV
  rcases hcase with ho | ⟨ho, z1⟩ | ⟨ho, z1, z2⟩ | ⟨ho, z1, z2, z3⟩ | ⟨ho, z1, z2, z3, z4⟩ | ⟨ho, z1, z2, z3, z4, z5⟩ | ⟨ho, z1, z2, z3, z4, z5, z6⟩
  all_goals
   rw [ho] at HM
   clear ho
   go_enter Try.func17, Try.ntmps17
   go_wp2_with (first | (go_at_call 57; refine (HM.out _ ((Below.refl _ _).alloc (Nat.le_refl _) _)).mono ?_; rintro e w6 ⟨v0, v1, v2, v3, v4, v5, v6, rfl, hb, ⟨⟨a0, n0, e0, rfl⟩, ⟨a1, n1, e1, rfl⟩, ⟨a2, n2, e2, rfl⟩, ⟨a3, n3, e3, rfl⟩, ⟨a4, n4, e4, rfl⟩, ⟨a5, n5, e5, rfl⟩, ⟨a6, n6, e6, rfl⟩⟩, hmea⟩))
   go_ret
   have hB6 := ((Below.refl w.heap.size w).alloc (Nat.le_refl _) (.cells #[.slice A6 d.length c6, .slice A7 n.length c7, .slice A8 r.length c8] 31)).trans (hb.mono (by simp))
   exact ⟨rfl, hB6.trans (((Below.refl w6.heap.size w6).alloc (Nat.le_refl _) _).mono hB6.size)⟩
end Go.Proofs.Ytelglbebffdaaaa.X
namespace Go.Proofs.Ytelglbebffdaaaa.X
open Go.RowKit Go.Proofs.YtelglbebffdaaaaW.PrintWords Go.Proofs.YtelglbebffdaaaaW.PrintLast Go.Proofs.YtelglbebffdaaaaW.PrintMore
attribute [local go_sem] max2_int min2_int max_two min_two max_three min_three max_four min_four   -- for this text's walks alone
set_option linter.unusedVariables false
set_option linter.unusedSimpArgs false
noncomputable def impl_RootDist.f (k : Nat) (l0 : List (S53)) (l1 : List (S53)) (l2_0 : List Int) (l2_1 : List Int) (l2_2 : List Int) : Option (Int) := (impl_ForestDist.f k l0 0 (wrap64 ((l0.length : Int) - 1)) l1 0 (wrap64 ((l1.length : Int) - 1)) l2_0 l2_1 l2_2).bind fun t417 => (if t417 < 0 then (some (-1)) else (if 0 < (l0.length : Int) then (if 0 < (l1.length : Int) then ((impl_RelCost.f k l2_0 l2_1 l2_2 ((rd_T53 l0 0).f0) ((rd_T53 l1 0).f0)).bind fun t420 => (some (wrap64 (t417 + t420)))) else (none)) else (none)))
def impl_RootDist.T4 : Bool × List (List Nat × List Nat) := (true, [([], []), ([], []), ([], []), ([2], [2]), ([3], [3]), ([4], [4]), ([], []), ([6], [6]), ([7], [7]), ([8], [8]), ([1, 5, 9], [1, 5, 9]), ([0, 10], [0, 10]), ([11, 10, 0, 1, 2, 3, 4, 5, 6, 7, 8, 9, 10, 11], [11])])
def impl_RootDist.B4 : List Nat := [0, 0, 0, 4, 12, 28, 0, 64, 192, 448, 1022, 2047, 4095]
theorem impl_RootDist.tab4 : rtab .any (opsOf Try.f23 4) = impl_RootDist.T4 := by kernel_rfl
theorem impl_RootDist.bits4 : waitsOk impl_RootDist.T4.2 impl_RootDist.B4 = true := by kernel_rfl
set_option maxHeartbeats 8000000 in
set_option maxRecDepth 100000 in
theorem impl_RootDist.calls (k : Nat) (A0 : Option Addr) (c0 : Nat) (l0 : List (S53)) (A1 : Option Addr) (c1 : Nat) (l1 : List (S53)) (A2_0 : Option Addr) (c2_0 : Nat) (l2_0 : List Int) (A2_1 : Option Addr) (c2_1 : Nat) (l2_1 : List Int) (A2_2 : Option Addr) (c2_2 : Nat) (l2_2 : List Int) (r : Int) (w : World) (hr0 : Kd.C k53 w A0 l0.length l0) (hc0 : l0.length ≤ c0) (hr1 : Kd.C k53 w A1 l1.length l1) (hc1 : l1.length ≤ c1) (hr2_0 : Kd.C (Kd.int .i64) w A2_0 l2_0.length l2_0) (hc2_0 : l2_0.length ≤ c2_0) (hr2_1 : Kd.C (Kd.int .i64) w A2_1 l2_1.length l2_1) (hc2_1 : l2_1.length ≤ c2_1) (hr2_2 : Kd.C (Kd.int .i64) w A2_2 l2_2.length l2_2) (hc2_2 : l2_2.length ≤ c2_2) (h : impl_RootDist.f k l0 l1 l2_0 l2_1 l2_2 = some r) :
  Calls Try.prog 23 #[.slice A0 l0.length c0, .slice A1 l1.length c1, .agg #[.slice A2_0 l2_0.length c2_0, .slice A2_1 l2_1.length c2_1, .slice A2_2 l2_2.length c2_2]] w fun e w' => e = .returned (.int .i64 r) ∧ Below w.heap.size w w' := by
 have hu31 := Try.underlying31
 have HR0 := Aside0.mk hr0
 have HC0 := Aside0.mk hc0
 clear hr0 hc0
 have HR1 := Aside0.mk hr1
 have HC1 := Aside0.mk hc1
 clear hr1 hc1
 have HR2_0 := Aside0.mk hr2_0
 have HC2_0 := Aside0.mk hc2_0
 clear hr2_0 hc2_0
 have HR2_1 := Aside0.mk hr2_1
 have HC2_1 := Aside0.mk hc2_1
 clear hr2_1 hc2_1
 have HR2_2 := Aside0.mk hr2_2
 have HC2_2 := Aside0.mk hc2_2
 clear hr2_2 hc2_2
 have HB := Aside0.mk (Below.refl w.heap.size w)
 have H : ((impl_ForestDist.f k l0 0 (wrap64 ((l0.length : Int) - 1)) l1 0 (wrap64 ((l1.length : Int) - 1)) l2_0 l2_1 l2_2).bind fun t417 => (if t417 < 0 then (some (-1)) else (if 0 < (l0.length : Int) then (if 0 < (l1.length : Int) then ((impl_RelCost.f k l2_0 l2_1 l2_2 ((rd_T53 l0 0).f0) ((rd_T53 l1 0).f0)).bind fun t420 => (some (wrap64 (t417 + t420)))) else (none)) else (none)))) = some r := h
 clear h
 replace H := Option.bind_eq_some_iff.mp H
 obtain ⟨t417, A40, H⟩ := H
 try dsimp only at H
 have A4 := Aside0.mk A40
 clear A40
 by_cases c5 : t417 < 0
 ·rw [if_pos c5] at H
  have c5b0 : decide (t417 < 0) = true := decide_eq_true c5
  clear c5
  obtain rfl := Option.some.inj H
  go_enter Try.func23, Try.ntmps23
  go_wp2_with (first | ((with_reducible refine gate_dst (N := 5) rfl ?_); refine bx_ 5 #[.slice A2_0 l2_0.length c2_0, .slice A2_1 l2_1.length c2_1, .slice A2_2 l2_2.length c2_2] 31 ?_; intro gb416 hg w6 hbox hb; have BK416 := Aside0.mk (hbox); have GW416 := Aside0.mk ((by rw [hg]; exact (bs_ HB) : w.heap.size ≤ gb416)); have GE416 := Aside0.mk ((by rw [hg]; exact (bs_ HB) : w.heap.size ≤ gb416)); replace HB := tB_ HB hb; clear hb hbox hg; obtain ⟨hcz7_0, hcz7_1, hcz7_2, hfz7_0, hfz7_1, hfz7_2⟩ := bk3_ BK416) | ((with_reducible refine gate_callee (f := 17) rfl ?_); refine gL_ (some 17) Try.func17 #[.slice A0 l0.length c0, .int .i64 0, .int .i64 (wrap64 ((l0.length : Int) - 1)), .slice A1 l1.length c1, .int .i64 0, .int .i64 (wrap64 ((l1.length : Int) - 1)), .agg #[.slice A2_0 l2_0.length c2_0, .slice A2_1 l2_1.length c2_1, .slice A2_2 l2_2.length c2_2]] ?_; (with_reducible refine (impl_ForestDist.calls k _ _ l0 0 (wrap64 ((l0.length : Int) - 1)) _ _ l1 0 (wrap64 ((l1.length : Int) - 1)) _ _ l2_0 _ _ l2_1 _ _ l2_2 t417 _ (cx_ HR0 HB) HC0.out (cx_ HR1 HB) HC1.out (cx_ HR2_0 HB) HC2_0.out (cx_ HR2_1 HB) HC2_1.out (cx_ HR2_2 HB) HC2_2.out A4.out).mono ?_); rintro e w8 ⟨rfl, hb⟩; refine ⟨_, rfl, ?_⟩; replace BK416 := tK_ BK416 hb; replace HB := tB_ HB hb; (try clear hb)))
  go_ret
  exact ⟨ea_, (bl_ HB).out⟩
 ·rw [if_neg c5] at H
  have c5b0 : decide (t417 < 0) = false := decide_eq_false c5
  clear c5
  by_cases c9 : 0 < (l0.length : Int)
  ·rw [if_pos c9] at H
   have c9b0 : decide (0 < (l0.length : Int)) = true := decide_eq_true c9
   have c9b1 : decide (0 < l0.length) = true := decide_eq_true (by omega)
   clear c9
   by_cases c10 : 0 < (l1.length : Int)
   ·rw [if_pos c10] at H
    have c10b0 : decide (0 < (l1.length : Int)) = true := decide_eq_true c10
    have c10b1 : decide (0 < l1.length) = true := decide_eq_true (by omega)
    clear c10
    replace H := Option.bind_eq_some_iff.mp H
    obtain ⟨t420, A110, H⟩ := H
    replace H : (some (wrap64 (t417 + t420))) = some r := H
    have A11 := Aside0.mk A110
    clear A110
    obtain rfl := Option.some.inj H
    go_enter Try.func23, Try.ntmps23
    try go_wp2_with (first | ((with_reducible refine gate_dst (N := 5) rfl ?_); refine bx_ 5 #[.slice A2_0 l2_0.length c2_0, .slice A2_1 l2_1.length c2_1, .slice A2_2 l2_2.length c2_2] 31 ?_; intro gb416 hg w12 hbox hb; have BK416 := Aside0.mk (hbox); have GW416 := Aside0.mk ((by rw [hg]; exact (bs_ HB) : w.heap.size ≤ gb416)); have GE416 := Aside0.mk ((by rw [hg]; exact (bs_ HB) : w.heap.size ≤ gb416)); replace HB := tB_ HB hb; clear hb hbox hg; obtain ⟨hcz13_0, hcz13_1, hcz13_2, hfz13_0, hfz13_1, hfz13_2⟩ := bk3_ BK416) | ((with_reducible refine gate_callee (f := 17) rfl ?_); refine gL_ (some 17) Try.func17 #[.slice A0 l0.length c0, .int .i64 0, .int .i64 (wrap64 ((l0.length : Int) - 1)), .slice A1 l1.length c1, .int .i64 0, .int .i64 (wrap64 ((l1.length : Int) - 1)), .agg #[.slice A2_0 l2_0.length c2_0, .slice A2_1 l2_1.length c2_1, .slice A2_2 l2_2.length c2_2]] ?_; (with_reducible refine (impl_ForestDist.calls k _ _ l0 0 (wrap64 ((l0.length : Int) - 1)) _ _ l1 0 (wrap64 ((l1.length : Int) - 1)) _ _ l2_0 _ _ l2_1 _ _ l2_2 t417 _ (cx_ HR0 HB) HC0.out (cx_ HR1 HB) HC1.out (cx_ HR2_0 HB) HC2_0.out (cx_ HR2_1 HB) HC2_1.out (cx_ HR2_2 HB) HC2_2.out A4.out).mono ?_); rintro e w14 ⟨rfl, hb⟩; refine ⟨_, rfl, ?_⟩; replace BK416 := tK_ BK416 hb; replace HB := tB_ HB hb; (try clear hb)))
    have n0_ := Aside0.mk (blk_drew BK416.out)
    have n1_ := Aside0.mk (below_drew1 HB.out)
    clear BK416
    clear HB
    have BK416 := n0_
    have HB := n1_
    clear n0_ n1_
    have p418 : 0 ≤ (0 : Int) := (by omega)
    have q418 : 0 < (l0.length : Int) := od_
    obtain ⟨ad418, e418, hx418_0, hx418_1⟩ := at_T53 HR0.out 0 p418 q418
    have hw418_1 := hx418_1
    (try rw [show ((0 : Int)).toNat = 0 from rfl] at hw418_1)
    (try rw [show 0 * 2 = 0 from rfl] at hw418_1)
    (try rw [Addr.add_zero'] at hw418_1)
    have hw418_0 := hx418_0
    (try rw [show ((0 : Int)).toNat = 0 from rfl] at hw418_0)
    (try rw [show 0 * 2 = 0 from rfl] at hw418_0)
    (try rw [Addr.add_zero'] at hw418_0)
    cases e418
    have qi418 : (0 < l0.length) = True := eq_true (by omega)
    (try rw [show ((0 : Int)).toNat = 0 from rfl] at hx418_0)
    (try rw [show 0 * 2 = 0 from rfl] at hx418_0)
    (try rw [Addr.add_zero'] at hx418_0)
    (try rw [show ((0 : Int)).toNat = 0 from rfl] at hx418_1)
    (try rw [show 0 * 2 = 0 from rfl] at hx418_1)
    (try rw [Addr.add_zero'] at hx418_1)
    replace hx418_0 := ce_ HB hx418_0
    replace hx418_1 := ce_ HB hx418_1
    replace p418 := eq_true p418
    replace q418 := eq_true q418
    have p419 : 0 ≤ (0 : Int) := (by omega)
    have q419 : 0 < (l1.length : Int) := od_
    obtain ⟨ad419, e419, hx419_0, hx419_1⟩ := at_T53 HR1.out 0 p419 q419
    have hw419_1 := hx419_1
    (try rw [show ((0 : Int)).toNat = 0 from rfl] at hw419_1)
    (try rw [show 0 * 2 = 0 from rfl] at hw419_1)
    (try rw [Addr.add_zero'] at hw419_1)
    have hw419_0 := hx419_0
    (try rw [show ((0 : Int)).toNat = 0 from rfl] at hw419_0)
    (try rw [show 0 * 2 = 0 from rfl] at hw419_0)
    (try rw [Addr.add_zero'] at hw419_0)
    cases e419
    have qi419 : (0 < l1.length) = True := eq_true (by omega)
    (try rw [show ((0 : Int)).toNat = 0 from rfl] at hx419_0)
    (try rw [show 0 * 2 = 0 from rfl] at hx419_0)
    (try rw [Addr.add_zero'] at hx419_0)
    (try rw [show ((0 : Int)).toNat = 0 from rfl] at hx419_1)
    (try rw [show 0 * 2 = 0 from rfl] at hx419_1)
    (try rw [Addr.add_zero'] at hx419_1)
    replace hx419_0 := ce_ HB hx419_0
    replace hx419_1 := ce_ HB hx419_1
    replace p419 := eq_true p419
    replace q419 := eq_true q419
    refine start_ (n := 13) (S := fun w' => w'.cell? ⟨gb416, 0, none⟩ = some (.slice A2_0 l2_0.length c2_0) ∧ w'.cell? ⟨gb416, 1, none⟩ = some (.slice A2_1 l2_1.length c2_1) ∧ w'.cell? ⟨gb416, 2, none⟩ = some (.slice A2_2 l2_2.length c2_2) ∧ w'.cell? ad418 = some (.int .i64 ((rd_T53 l0 0).f0)) ∧ w'.cell? ⟨ad418.block, ad418.off + 1, none⟩ = some (.int .i64 ((rd_T53 l0 0).f1)) ∧ w'.cell? ad419 = some (.int .i64 ((rd_T53 l1 0).f0)) ∧ w'.cell? ⟨ad419.block, ad419.off + 1, none⟩ = some (.int .i64 ((rd_T53 l1 0).f1))) (ds := []) (ba_ 13 0) (by kernel_rfl) rfl rfl ⟨(blk_cell BK416.out 0).trans rfl, (blk_cell BK416.out 1).trans rfl, (blk_cell BK416.out 2).trans rfl, (ce_ HB hw418_0), (ce_ HB hw418_1), (ce_ HB hw419_0), (ce_ HB hw419_1)⟩ (fun hHeld => ?_); refine with_tabW impl_RootDist.tab4 impl_RootDist.bits4 (fun HT_ HW_ => ?_)
    generalize w14.drew = w15 at BK416 HB hx418_0 hx418_1 hx419_0 hx419_1 hHeld ⊢
    refine pu_ 0 (some 20) (ba_ 13 1) rfl rfl (any_of HT_.out (by kernel_rfl)) ?_
    refine pu_ 2 (some 22) (ba_ 13 5) rfl rfl (any_of HT_.out (by kernel_rfl)) ?_
    refine pu_ 3 (some 23) (ba_ 13 13) rfl rfl (any_of HT_.out (by kernel_rfl)) ?_
    refine pu_ 4 (some 24) (ba_ 13 29) rfl rfl (any_of HT_.out (by kernel_rfl)) ?_
    refine pu_ 6 (some 26) (ba_ 13 93) rfl rfl (any_of HT_.out (by kernel_rfl)) ?_
    refine pu_ 7 (some 27) (ba_ 13 221) rfl rfl (any_of HT_.out (by kernel_rfl)) ?_
    refine pu_ 8 (some 28) (ba_ 13 477) rfl rfl (any_of HT_.out (by kernel_rfl)) ?_
    refine ta_ 1 (some 21) (ba_ 13 479) rfl rfl (take_ofW HT_.out HW_.out (by kernel_rfl)) hHeld (by rintro w' ⟨s0, s1, s2, s3, s4, s5, s6⟩; go_simp; with_reducible rfl) ?_
    refine ta_ 5 (some 25) (ba_ 13 511) rfl rfl (take_ofW HT_.out HW_.out (by kernel_rfl)) hHeld (by rintro w' ⟨s0, s1, s2, s3, s4, s5, s6⟩; go_simp; with_reducible rfl) ?_
    refine ta_ 9 (some 29) (ba_ 13 1023) rfl rfl (take_ofW HT_.out HW_.out (by kernel_rfl)) hHeld (by rintro w' ⟨s0, s1, s2, s3, s4, s5, s6⟩; go_simp; with_reducible rfl) ?_
    refine one_ (i := 10) (N := some 30) (ba_ 13 2047) rfl rfl (one_of HT_.out (by kernel_rfl)) (by decide) (fun K hK => ?_)
    refine goes_ Try.func63 (by kernel_rfl) rfl #[.agg #[.slice A2_0 l2_0.length c2_0, .slice A2_1 l2_1.length c2_1, .slice A2_2 l2_2.length c2_2], .int .i64 ((rd_T53 l0 0).f0), .int .i64 ((rd_T53 l1 0).f0)] (by rfl) rfl rfl (by (try simp only [List.map_toArray, List.map_cons, List.map_nil]); first | done | rfl | (simp only [List.length_drop, List.length_take]; rfl)) ?_
    with_reducible refine (impl_RelCost.calls k _ _ l2_0 _ _ l2_1 _ _ l2_2 ((rd_T53 l0 0).f0) ((rd_T53 l1 0).f0) t420 _ ?side1 ?side2 ?side3 ?side4 ?side5 ?side6 A11.out).mono ?_
    (case side1 => exact cx_ HR2_0 HB)
    (case side2 => exact HC2_0.out)
    (case side3 => exact cx_ HR2_1 HB)
    (case side4 => exact HC2_1.out)
    (case side5 => exact cx_ HR2_2 HB)
    (case side6 => exact HC2_2.out)
    rintro e w16 ⟨rfl, hb⟩
    refine ⟨_, rfl, ?_⟩
    have n0_ := tK_ BK416 hb
    have n1_ := tB_ HB hb
    clear BK416
    clear HB
    have BK416 := n0_
    have HB := n1_
    clear n0_ n1_
    (try clear hb)
    (try clear hb2)
    (try clear hk)
    (try clear hi)
    refine hK.out _ _ ⟨(blk_cell BK416.out 0).trans rfl, (blk_cell BK416.out 1).trans rfl, (blk_cell BK416.out 2).trans rfl, (ce_ HB hw418_0), (ce_ HB hw418_1), (ce_ HB hw419_0), (ce_ HB hw419_1)⟩ (fun hHeld => ?_)
    clear hK K
    refine norm_ (a' := ?_) ?_ ?_
    rotate_left
    ·show Act.put _ (some 30) _ = _
     simp only [Act.put, List.setIfInBounds_toArray, List.set_cons_zero, List.set_cons_succ, i64_w, i32_w]
     rfl
    refine pu_ 11 (some 31) (ba_ 13 4095) rfl rfl (any_of HT_.out (by kernel_rfl)) ?_
    refine pu_ 12 (some 6) (ba_ 13 8191) rfl rfl (any_of HT_.out (by kernel_rfl)) ?_
    refine done_ (done_of HT_.out (by kernel_rfl)) ?_
    try go_wp2
    go_ret
    exact ⟨ea_, (bl_ HB).out⟩
   ·rw [if_neg c10] at H
    exact absurd H (by simp)
  ·rw [if_neg c9] at H
   exact absurd H (by simp)
end Go.Proofs.Ytelglbebffdaaaa.X
namespace Go.Proofs.Ytelglbebffdaaaa.X
open Go.RowKit Go.Proofs.YtelglbebffdaaaaW.PrintWords Go.Proofs.YtelglbebffdaaaaW.PrintLast Go.Proofs.YtelglbebffdaaaaW.PrintMore
attribute [local go_sem] max2_int min2_int max_two min_two max_three min_three max_four min_four   -- for this text's walks alone
set_option linter.unusedVariables false
set_option linter.unusedSimpArgs false
noncomputable def impl_SlowDist.f (k : Nat) (l0 : List (S53)) (l1 : List (S53)) (l2_0 : List Int) (l2_1 : List Int) (l2_2 : List Int) : Option (Int) := (impl_RootDist.f k l0 l1 l2_0 l2_1 l2_2).bind fun t422 => (some t422)
set_option maxHeartbeats 8000000 in
set_option maxRecDepth 100000 in
theorem impl_SlowDist.calls (k : Nat) (A0 : Option Addr) (c0 : Nat) (l0 : List (S53)) (A1 : Option Addr) (c1 : Nat) (l1 : List (S53)) (A2_0 : Option Addr) (c2_0 : Nat) (l2_0 : List Int) (A2_1 : Option Addr) (c2_1 : Nat) (l2_1 : List Int) (A2_2 : Option Addr) (c2_2 : Nat) (l2_2 : List Int) (r : Int) (w : World) (hr0 : Kd.C k53 w A0 l0.length l0) (hc0 : l0.length ≤ c0) (hr1 : Kd.C k53 w A1 l1.length l1) (hc1 : l1.length ≤ c1) (hr2_0 : Kd.C (Kd.int .i64) w A2_0 l2_0.length l2_0) (hc2_0 : l2_0.length ≤ c2_0) (hr2_1 : Kd.C (Kd.int .i64) w A2_1 l2_1.length l2_1) (hc2_1 : l2_1.length ≤ c2_1) (hr2_2 : Kd.C (Kd.int .i64) w A2_2 l2_2.length l2_2) (hc2_2 : l2_2.length ≤ c2_2) (h : impl_SlowDist.f k l0 l1 l2_0 l2_1 l2_2 = some r) :
  Calls Try.prog 21 #[.slice A0 l0.length c0, .slice A1 l1.length c1, .agg #[.slice A2_0 l2_0.length c2_0, .slice A2_1 l2_1.length c2_1, .slice A2_2 l2_2.length c2_2]] w fun e w' => e = .returned (.int .i64 r) ∧ Below w.heap.size w w' := by
 have hu31 := Try.underlying31
 have HR0 := Aside0.mk hr0
 have HC0 := Aside0.mk hc0
 clear hr0 hc0
 have HR1 := Aside0.mk hr1
 have HC1 := Aside0.mk hc1
 clear hr1 hc1
 have HR2_0 := Aside0.mk hr2_0
 have HC2_0 := Aside0.mk hc2_0
 clear hr2_0 hc2_0
 have HR2_1 := Aside0.mk hr2_1
 have HC2_1 := Aside0.mk hc2_1
 clear hr2_1 hc2_1
 have HR2_2 := Aside0.mk hr2_2
 have HC2_2 := Aside0.mk hc2_2
 clear hr2_2 hc2_2
 have HB := Aside0.mk (Below.refl w.heap.size w)
 have H : ((impl_RootDist.f k l0 l1 l2_0 l2_1 l2_2).bind fun t422 => (some t422)) = some r := h
 clear h
 replace H := Option.bind_eq_some_iff.mp H
 obtain ⟨t422, A40, H⟩ := H
 replace H : (some t422) = some r := H
 have A4 := Aside0.mk A40
 clear A40
 obtain rfl := Option.some.inj H
 go_enter Try.func21, Try.ntmps21
 go_wp2_with (first | ((with_reducible refine gate_dst (N := 5) rfl ?_); refine bx_ 5 #[.slice A2_0 l2_0.length c2_0, .slice A2_1 l2_1.length c2_1, .slice A2_2 l2_2.length c2_2] 31 ?_; intro gb421 hg w5 hbox hb; have BK421 := Aside0.mk (hbox); have GW421 := Aside0.mk ((by rw [hg]; exact (bs_ HB) : w.heap.size ≤ gb421)); have GE421 := Aside0.mk ((by rw [hg]; exact (bs_ HB) : w.heap.size ≤ gb421)); replace HB := tB_ HB hb; clear hb hbox hg; obtain ⟨hcz6_0, hcz6_1, hcz6_2, hfz6_0, hfz6_1, hfz6_2⟩ := bk3_ BK421) | ((with_reducible refine gate_callee (f := 23) rfl ?_); refine gL_ (some 10) Try.func23 #[.slice A0 l0.length c0, .slice A1 l1.length c1, .agg #[.slice A2_0 l2_0.length c2_0, .slice A2_1 l2_1.length c2_1, .slice A2_2 l2_2.length c2_2]] ?_; (with_reducible refine (impl_RootDist.calls k _ _ l0 _ _ l1 _ _ l2_0 _ _ l2_1 _ _ l2_2 t422 _ (cx_ HR0 HB) HC0.out (cx_ HR1 HB) HC1.out (cx_ HR2_0 HB) HC2_0.out (cx_ HR2_1 HB) HC2_1.out (cx_ HR2_2 HB) HC2_2.out A4.out).mono ?_); rintro e w7 ⟨rfl, hb⟩; refine ⟨_, rfl, ?_⟩; replace BK421 := tK_ BK421 hb; replace HB := tB_ HB hb; (try clear hb)))
 go_ret
 exact ⟨ea_, (bl_ HB).out⟩
end Go.Proofs.Ytelglbebffdaaaa.X
namespace Go.Proofs.Ytelglbebffdaaaa.X
open Go.RowKit Go.Proofs.YtelglbebffdaaaaW.PrintWords Go.Proofs.YtelglbebffdaaaaW.PrintLast Go.Proofs.YtelglbebffdaaaaW.PrintMore Go.Proofs.Ytelglbebffdaaaa.Q
set_option linter.unusedVariables false
set_option linter.unusedSimpArgs false
theorem Row1.congr {W : World} {b n : Nat} {v : Value} {f g : Nat → Int} (h : Row1 W b v n f) (e : ∀ p, p < n → f p = g p) : Row1 W b v n g := by
 obtain ⟨ad, c, h1, h2, h3, h4⟩ := h.is
 exact ⟨ad, c, h1, h2, h3, fun p hp => by rw [← e p hp]; exact h4 p hp⟩
theorem list_getD (l : List Int) : (List.range l.length).map (fun x => l.getD x 0) = l := by
 apply List.ext_getElem?
 intro j
 by_cases h : j < l.length
 ·rw [List.getElem?_map, List.getElem?_range h, Option.map_some, List.getD_eq_getElem?_getD, List.getElem?_eq_getElem h]; rfl
 ·rw [List.getElem?_eq_none (by simp; omega), List.getElem?_eq_none (by omega)]
theorem row1_list {W : World} {A : Option Addr} {c b n : Nat} {l : List Int} (hl : l.length = n) (hn : 0 < n) (hc : n ≤ c) (hb : W.heap.size ≤ b) (h : Kd.C (Kd.int .i64) W A l.length l) : Row1 W b (.slice A l.length c) n (fun x => l.getD x 0) := by
 subst hl
 refine row1_of hn hc hb ?_
 rw [list_getD]
 exact h
theorem kn_start {M : Ted.Ms} {A B : Nat} {W : World} {b : Nat} (h : W.heap[b]? = some (.cells (nums .i64 (List.replicate (ksz A B) 0)).toArray 3 (0, 0))) : Kn M A B W b := by
 refine ⟨_, h, by simp, fun i j k m h1 h2 h3 h4 => Or.inl ?_⟩
 rw [List.getD_eq_getElem?_getD, List.getElem?_replicate]
 split <;> rfl
theorem mem_start {a b : List NodeI} {d n r : List Int} (ta : Tr a) (tb : Tr b) (hc : Co d n r) {w W : World} {A2 A3 A4 : Option Addr} {c2 c3 c4 g bk : Nat} {v0 v1 v2 v3 : Value} (hB : Below w.heap.size w W) (hgb : g ≠ bk) (hbk : w.heap.size ≤ bk)
  (hblk : W.heap[g]? = some (.cells #[v0, v1, v2, v3, .slice (some ⟨bk, 0, none⟩) (ksz a.length b.length) (ksz a.length b.length), .slice A2 d.length c2, .slice A3 n.length c3, .slice A4 r.length c4] 100 (0, 0)))
  (h0 : Row1 W bk v0 a.length (fun x => lab a (nodeN a x))) (h1 : Row1 W bk v1 b.length (fun x => lab b (nodeN b x))) (h2 : Row1 W bk v2 a.length (fun x => (lfN a x : Int))) (h3 : Row1 W bk v3 b.length (fun x => (lfN b x : Int)))
  (hr2 : Kd.C (Kd.int .i64) w A2 d.length d) (hc2 : d.length ≤ c2) (hr3 : Kd.C (Kd.int .i64) w A3 n.length n) (hc3 : n.length ≤ c3) (hr4 : Kd.C (Kd.int .i64) w A4 r.length r) (hc4 : r.length ≤ c4) :
  Mem (msOf a b d n r) a.length b.length (fun p => (lab a (nodeN a p)).toNat) (fun q => (lab b (nodeN b q)).toNat) W bk g := by
 have la : ∀ p, p < a.length → 0 ≤ lab a (nodeN a p) ∧ lab a (nodeN a p) ≤ 5 := fun p hp => ⟨(ta.chk _ (nodeN_lt ta hp)).l0, (ta.chk _ (nodeN_lt ta hp)).l5⟩
 have lb : ∀ p, p < b.length → 0 ≤ lab b (nodeN b p) ∧ lab b (nodeN b p) ≤ 5 := fun p hp => ⟨(tb.chk _ (nodeN_lt tb hp)).l0, (tb.chk _ (nodeN_lt tb hp)).l5⟩
 have hd := hc.dl
 have hi := hc.il
 have hr := hc.rl
 refine ⟨v0, v1, v2, v3, _, _, _, hblk, hgb, h0.congr fun p hp => ?_, h1.congr fun p hp => ?_, h2, h3, fun x => d.getD x 0, fun x => n.getD x 0, fun x => r.getD x 0, (row1_list hd (by omega) (by omega) hbk hr2).below hB, (row1_list hi (by omega) (by omega) hbk hr3).below hB, (row1_list hr (by omega) (by omega) hbk hr4).below hB, fun p hp => ⟨?_, rfl⟩, fun p hp => ⟨?_, rfl⟩, fun p q hp hq => rfl⟩
 ·have := la p hp; omega
 ·have := lb p hp; omega
 ·have := la p hp; omega
 ·have := lb p hp; omega
noncomputable def preF (q : Nat) (a b : List NodeI) (d n r : List Int) : Option Bool :=
 if Fit a b d n r then (spec_l8Three.f q a b d n r).bind fun t => if t = true then (spec_l8Labels.f q a).bind fun _ => (spec_l8Labels.f q b).bind fun _ => (spec_LeftLeaf.f q a).bind fun _ => (spec_LeftLeaf.f q b).bind fun _ => some true else some false else none
theorem preF_ev {a b : List NodeI} {d n r : List Int} (h : Fit a b d n r) : Ev (fun k => preF k a b d n r) (okAB a b d n r) := by
 unfold preF
 refine Ev.ifT h (Ev.bind (specThree_ev h) ?_)
 cases ho : okAB a b d n r with
 | false => exact Ev.ifF (by simp) (Ev.now _)
 | true =>
  obtain ⟨ta, tb, _⟩ := okAB_iff.1 ho
  exact Ev.ifT rfl (Ev.bind (specLabels_ev ta) (Ev.bind (specLabels_ev tb) (Ev.bind (specLeftLeaf_ev ta) (Ev.bind (specLeftLeaf_ev tb) (Ev.now _)))))
theorem preF_told {q : Nat} {a b : List NodeI} {d n r : List Int} {t : Bool} (h : preF q a b d n r = some t) : spec_l8Three.f q a b d n r = some t ∧ t = okAB a b d n r ∧
  (t = true → spec_l8Labels.f q a = some (labL a) ∧ spec_l8Labels.f q b = some (labL b) ∧ spec_LeftLeaf.f q a = some (lfL a) ∧ spec_LeftLeaf.f q b = some (lfL b)) := by
 unfold preF at h
 by_cases hf : Fit a b d n r
 ·rw [if_pos hf] at h
  obtain ⟨u, hu, h⟩ := Option.bind_eq_some_iff.mp h
  have eu : u = okAB a b d n r := ev_uniq (Ev.of (spec_l8Three.mono a b d n r) hu) (specThree_ev hf)
  by_cases c : u = true
  ·rw [if_pos c] at h
   obtain ⟨x1, h1, h⟩ := Option.bind_eq_some_iff.mp h
   obtain ⟨x2, h2, h⟩ := Option.bind_eq_some_iff.mp h
   obtain ⟨x3, h3, h⟩ := Option.bind_eq_some_iff.mp h
   obtain ⟨x4, h4, h⟩ := Option.bind_eq_some_iff.mp h
   obtain rfl := Option.some.inj h
   obtain ⟨ta, tb, _⟩ := okAB_iff.1 (eu.symm.trans c)
   refine ⟨by rw [hu, c], by rw [← eu, c], fun _ => ⟨?_, ?_, ?_, ?_⟩⟩
   ·rw [h1, ev_uniq (Ev.of (spec_l8Labels.mono a) h1) (specLabels_ev ta)]
   ·rw [h2, ev_uniq (Ev.of (spec_l8Labels.mono b) h2) (specLabels_ev tb)]
   ·rw [h3, ev_uniq (Ev.of (spec_LeftLeaf.mono a) h3) (specLeftLeaf_ev ta)]
   ·rw [h4, ev_uniq (Ev.of (spec_LeftLeaf.mono b) h4) (specLeftLeaf_ev tb)]
  ·rw [if_neg c] at h
   obtain rfl := Option.some.inj h
   have e : u = false := by simpa using c
   subst e
   exact ⟨hu, eu, fun h => by cases h⟩
 ·rw [if_neg hf] at h; cases h
noncomputable def spec_ForestDist.f (q : Nat) (a : List NodeI) (i j : Int) (b : List NodeI) (k m : Int) (d n r : List Int) : Option Int := (preF q a b d n r).bind fun _ => some (fdB a b i j k m d n r)
theorem spec_ForestDist.ev {a b : List NodeI} {d n r : List Int} (h : Fit a b d n r) (i j k m : Int) : Ev (fun q => spec_ForestDist.f q a i j b k m d n r) (fdB a b i j k m d n r) := by
 unfold spec_ForestDist.f
 exact Ev.bind (preF_ev h) (Ev.now _)
noncomputable def spec_SlowDist.f (q : Nat) (a b : List NodeI) (d n r : List Int) : Option Int := (preF q a b d n r).bind fun _ => some (rdB a b d n r)
theorem spec_SlowDist.ev {a b : List NodeI} {d n r : List Int} (h : Fit a b d n r) : Ev (fun q => spec_SlowDist.f q a b d n r) (rdB a b d n r) := by
 unfold spec_SlowDist.f
 exact Ev.bind (preF_ev h) (Ev.now _)
theorem NS.start' {w : World} {ty : TypeId} (x0 x1 x2 : Value) : NS w w.heap.size x0 x1 x2 (w.alloc (.cells #[x0, x1, x2] ty)) :=
 have h : (w.alloc (.cells #[x0, x1, x2] ty)).heap[w.heap.size]? = some (.cells #[x0, x1, x2] ty (0, 0)) := (MapKept.heap_alloc w _).1
 ⟨(blk_cell h 0).trans rfl, (blk_cell h 1).trans rfl, (blk_cell h 2).trans rfl, below_alloc (Below.refl _ _) _⟩
theorem below_only {w W W1 : World} {b : Nat} (h : Below w.heap.size w W) (hb : w.heap.size ≤ b) (k : Only b W W1) : Below w.heap.size w W1 :=
 ⟨k.os.trans h.os, k.tape.trans h.tape, k.output.trans h.output, Nat.le_trans h.size k.size, fun x hx => (k.block x (Nat.lt_of_lt_of_le hx h.size) (by simp; omega)).trans (h.block x hx)⟩
theorem slow_value {a b : List NodeI} (ta : Tr a) (tb : Tr b) (d n r : List Int) {p q : Nat} (hp : a.length = p + 1) (hq : b.length = q + 1) :
  Ted.D (msOf a b d n r) 0 (Ted.cut (msOf a b d n r).la 0 (p + 1)) 0 (Ted.cut (msOf a b d n r).lb 0 (q + 1)) + Ted.D (msOf a b d n r) (Ted.cut (msOf a b d n r).la 0 (p + 1)) p (Ted.cut (msOf a b d n r).lb 0 (q + 1)) q + (msOf a b d n r).rel p q = Ted.rootD (msOf a b d n r) a.length b.length := by
 have la := lfN_last ta
 have lb := lfN_last tb
 rw [hp, Nat.add_sub_cancel] at la
 rw [hq, Nat.add_sub_cancel] at lb
 have c1 : Ted.cut (msOf a b d n r).la 0 (p + 1) = 0 := by simp only [Ted.cut, Nat.add_sub_cancel]; show max 0 (min (lfN a p) p) = 0; omega
 have c2 : Ted.cut (msOf a b d n r).lb 0 (q + 1) = 0 := by simp only [Ted.cut, Nat.add_sub_cancel]; show max 0 (min (lfN b q) q) = 0; omega
 rw [c1, c2, Ted.D_none _ (i := 0) (j := 0) (k := 0) (m := 0) (by omega) (by omega), hp, hq]
 unfold Ted.rootD
 simp only [Nat.add_sub_cancel]
 omega
set_option maxHeartbeats 4000000 in
set_option maxRecDepth 100000 in
theorem spec_SlowDist.calls (q : Nat) (A0 : Option Addr) (c0 : Nat) (l0 : List NodeI) (A3 : Option Addr) (c3 : Nat) (l3 : List NodeI) (A6 : Option Addr) (c6 : Nat) (d : List Int) (A7 : Option Addr) (c7 : Nat) (n : List Int) (A8 : Option Addr) (c8 : Nat) (r : List Int) (res : Int) (w : World)
  (hr0 : Kd.C k53 w A0 l0.length l0) (hc0 : l0.length ≤ c0) (hr3 : Kd.C k53 w A3 l3.length l3) (hc3 : l3.length ≤ c3) (hr6 : Kd.C (Kd.int .i64) w A6 d.length d) (hc6 : d.length ≤ c6) (hr7 : Kd.C (Kd.int .i64) w A7 n.length n) (hc7 : n.length ≤ c7) (hr8 : Kd.C (Kd.int .i64) w A8 r.length r) (hc8 : r.length ≤ c8)
  (h : spec_SlowDist.f q l0 l3 d n r = some res) :
  Calls Try.prog 20 #[.slice A0 l0.length c0, .slice A3 l3.length c3, .agg #[.slice A6 d.length c6, .slice A7 n.length c7, .slice A8 r.length c8]] w fun e w' => e = .returned (.int .i64 res) ∧ Below w.heap.size w w' := by
 unfold spec_SlowDist.f at h
 obtain ⟨t, ht, h⟩ := Option.bind_eq_some_iff.mp h
 obtain rfl := Option.some.inj h
 clear h
 obtain ⟨hth, eok, hpre⟩ := preF_told ht
 have HT : Aside0 (∀ W, Below w.heap.size w W → _) := ⟨fun W hb => spec_l8Three.calls q A0 c0 l0 A3 c3 l3 A6 c6 d A7 c7 n A8 c8 r t W (Kd.C_below hr0 hb) hc0 (Kd.C_below hr3 hb) hc3 (Kd.C_below hr6 hb) hc6 (Kd.C_below hr7 hb) hc7 (Kd.C_below hr8 hb) hc8 hth⟩
 clear ht hth
 have HN := Aside0.mk (NS.start' (w := w) (ty := 31) (.slice A6 d.length c6) (.slice A7 n.length c7) (.slice A8 r.length c8))
 cases ho : okAB l0 l3 d n r with
 | false =>
  have HV : rdB l0 l3 d n r = -1 := if_neg (by rw [ho]; simp)
  rw [HV]
  obtain rfl : t = false := eok.trans ho
  clear ho eok HV hpre
  go_enter Try.func20, Try.ntmps20
  go_wp2_with (first | (go_at_call 51; refine (HT.out _ HN.out.bel).mono ?_; rintro e w6 ⟨rfl, hb⟩; replace HN := Aside0.mk (HN.out.step hb); clear hb))
  go_ret
  exact ⟨rfl, HN.out.bel⟩
 | true =>
  obtain rfl : t = true := eok.trans ho
  obtain ⟨p1, p2, p3, p4⟩ := hpre rfl
  obtain ⟨ta, tb, hco⟩ := okAB_iff.1 ho
  obtain ⟨pa, hpa⟩ : ∃ p, l0.length = p + 1 := ⟨l0.length - 1, by have := ta.len1; omega⟩
  obtain ⟨qb, hqb⟩ : ∃ p, l3.length = p + 1 := ⟨l3.length - 1, by have := tb.len1; omega⟩
  have HV := Aside0.mk ((show rdB l0 l3 d n r = Ted.rootD (msOf l0 l3 d n r) l0.length l3.length from if_pos ho).trans (slow_value ta tb d n r hpa hqb).symm)
  rw [HV.out]
  have HNEW : Aside0 (∀ W, Below w.heap.size w W → _) := ⟨fun W hb => l9New_calls q A0 c0 l0 A3 c3 l3 A6 c6 d A7 c7 n A8 c8 r _ _ _ _ W ta.len1 tb.len1 ta.len24 tb.len24 (Kd.C_below hr0 hb) hc0 (Kd.C_below hr3 hb) hc3 p1 p2 p3 p4⟩
  have HPA := Aside0.mk hpa
  have HQB := Aside0.mk hqb
  clear p1 p2 p3 p4 eok hpre ho hpa hqb
  go_enter Try.func20, Try.ntmps20
  go_wp2_with (first | (go_at_call 51; refine (HT.out _ HN.out.bel).mono ?_; rintro e w6 ⟨rfl, hb⟩; replace HN := Aside0.mk (HN.out.step hb); have y0 := HN.out.c0; have y1 := HN.out.c1; have y2 := HN.out.c2; clear hb) | (go_at_call 54; refine (HNEW.out _ HN.out.bel).mono ?_; rintro e w9 ⟨g, bk, rfl, hb, hgb, hbk, hkn, v0, v1, v2, v3, hblk, e0, e1, e2, e3⟩; have hsz := HN.out.bel.size; replace HN := Aside0.mk (HN.out.step hb); have HM := Aside0.mk (mem_start ta tb hco HN.out.bel hgb (Nat.le_trans hsz hbk) hblk e0 e1 e2 e3 hr6 hc6 hr7 hc7 hr8 hc8); have HK := Aside0.mk (kn_start (M := msOf l0 l3 d n r) hkn); have HBK := Aside0.mk (Nat.le_trans hsz hbk); clear hb hgb hbk hkn hblk e0 e1 e2 e3 hsz))
  have hm := l9match (i := 0) (p := pa) (k := 0) (q := qb) (msOf_small hco) ta.len24 tb.len24 (fun N' _ => dist_calls (msOf_small hco) ta.len24 tb.len24 (fun p hp => lfN_le ta hp) (fun p hp => lfN_le tb hp) N') rfl (Nat.zero_le _) (by rw [HPA.out]; exact Nat.le_refl _) (Nat.zero_le _) (by rw [HQB.out]; exact Nat.le_refl _) (lfN_le ta (by rw [HPA.out]; omega)) (lfN_le tb (by rw [HQB.out]; omega)) _ _ _ HM.out HK.out
  rw [← HPA.out, ← HQB.out, show ((0 : Nat) : Int) = 0 from rfl] at hm
  refine hm.mono ?_
  rintro e w10 ⟨rfl, hol, _⟩
  go_wp2
  go_ret
  exact ⟨by rw [HPA.out, HQB.out]; rfl, below_only HN.out.bel HBK.out hol⟩
end Go.Proofs.Ytelglbebffdaaaa.X
namespace Go.Proofs.Ytelglbebffdaaaa.X
open Go.RowKit Go.Proofs.YtelglbebffdaaaaW.PrintWords Go.Proofs.YtelglbebffdaaaaW.PrintLast Go.Proofs.YtelglbebffdaaaaW.PrintMore
attribute [local go_sem] max2_int min2_int max_two min_two max_three min_three max_four min_four   -- for this text's walks alone
set_option linter.unusedVariables false
set_option linter.unusedSimpArgs false
noncomputable def laws_FnExactSlowDist.f (k : Nat) (l0 : List (S66)) (l1 : List (S66)) (l2_0 : List Int) (l2_1 : List Int) (l2_2 : List Int) : Option (Bool) := (laws_szNodeS.f l0 1048576).bind fun t424 => (if t424 < 0 then (some true) else ((laws_szNodeS.f l1 t424).bind fun t425 => (if t425 < 0 then (some true) else ((laws_szCost.f l2_0 l2_1 l2_2 t425).bind fun t426 => (if t426 < 0 then (some true) else ((laws_toNodeS.f k l0).bind fun t427 => ((laws_toNodeS.f k l1).bind fun t430 => ((laws_toCost.f k l2_0 l2_1 l2_2).bind fun bt433 => ((spec_SlowDist.f k t427 t430 bt433.1 bt433.2.1 bt433.2.2).bind fun t442 => ((laws_toNodeS.f k l0).bind fun t443 => ((laws_toNodeS.f k l1).bind fun t446 => ((laws_toCost.f k l2_0 l2_1 l2_2).bind fun bt449 => ((impl_SlowDist.f k t443 t446 bt449.1 bt449.2.1 bt449.2.2).bind fun t459 => (if t459 = t442 then ((laws_toNodeS.f k l0).bind fun t460 => ((laws_eqNodeS.f k t443 t460).bind fun t463 => (if t463 = true then ((laws_toNodeS.f k l1).bind fun t464 => ((laws_eqNodeS.f k t446 t464).bind fun t467 => (if t467 = true then ((laws_toCost.f k l2_0 l2_1 l2_2).bind fun bt468 => ((laws_eqCost.f k bt449.1 bt449.2.1 bt449.2.2 bt468.1 bt468.2.1 bt468.2.2).bind fun t477 => (if t477 = true then (some true) else (some false)))) else (some false)))) else (some false)))) else (some false)))))))))))))))
def laws_FnExactSlowDist.T11 : Bool × List (List Nat × List Nat) := (true, [([], []), ([0], [0]), ([], []), ([2, 1], [2]), ([], []), ([4, 3], [4]), ([1, 3, 5, 5], [1, 3, 5]), ([6, 6, 0, 1, 2, 3, 4, 5, 6], [6])])
def laws_FnExactSlowDist.B11 : List Nat := [0, 1, 0, 7, 0, 31, 63, 127]
theorem laws_FnExactSlowDist.tab11 : rtab .any (opsOf Try.f4 11) = laws_FnExactSlowDist.T11 := by kernel_rfl
theorem laws_FnExactSlowDist.bits11 : waitsOk laws_FnExactSlowDist.T11.2 laws_FnExactSlowDist.B11 = true := by kernel_rfl
set_option maxHeartbeats 8000000 in
set_option maxRecDepth 100000 in
theorem laws_FnExactSlowDist.calls (k : Nat) (A0 : Option Addr) (c0 : Nat) (l0 : List (S66)) (A1 : Option Addr) (c1 : Nat) (l1 : List (S66)) (A2_0 : Option Addr) (c2_0 : Nat) (l2_0 : List Int) (A2_1 : Option Addr) (c2_1 : Nat) (l2_1 : List Int) (A2_2 : Option Addr) (c2_2 : Nat) (l2_2 : List Int) (w : World) (hr0 : Kd.C k66 w A0 l0.length l0) (hc0 : l0.length ≤ c0) (hr1 : Kd.C k66 w A1 l1.length l1) (hc1 : l1.length ≤ c1) (hr2_0 : Kd.C (Kd.int .i64) w A2_0 l2_0.length l2_0) (hc2_0 : l2_0.length ≤ c2_0) (hr2_1 : Kd.C (Kd.int .i64) w A2_1 l2_1.length l2_1) (hc2_1 : l2_1.length ≤ c2_1) (hr2_2 : Kd.C (Kd.int .i64) w A2_2 l2_2.length l2_2) (hc2_2 : l2_2.length ≤ c2_2) (h : laws_FnExactSlowDist.f k l0 l1 l2_0 l2_1 l2_2 = some true) :
  Calls Try.prog 4 #[.slice A0 l0.length c0, .slice A1 l1.length c1, .agg #[.slice A2_0 l2_0.length c2_0, .slice A2_1 l2_1.length c2_1, .slice A2_2 l2_2.length c2_2]] w fun e w' => e = .returned (.bool true) ∧ Below w.heap.size w w' := by
 have hu25 := Try.underlying25
 have hu31 := Try.underlying31
 have HR0 := Aside0.mk hr0
 have HC0 := Aside0.mk hc0
 clear hr0 hc0
 have HR1 := Aside0.mk hr1
 have HC1 := Aside0.mk hc1
 clear hr1 hc1
 have HR2_0 := Aside0.mk hr2_0
 have HC2_0 := Aside0.mk hc2_0
 clear hr2_0 hc2_0
 have HR2_1 := Aside0.mk hr2_1
 have HC2_1 := Aside0.mk hc2_1
 clear hr2_1 hc2_1
 have HR2_2 := Aside0.mk hr2_2
 have HC2_2 := Aside0.mk hc2_2
 clear hr2_2 hc2_2
 have HB := Aside0.mk (Below.refl w.heap.size w)
 have H : ((laws_szNodeS.f l0 1048576).bind fun t424 => (if t424 < 0 then (some true) else ((laws_szNodeS.f l1 t424).bind fun t425 => (if t425 < 0 then (some true) else ((laws_szCost.f l2_0 l2_1 l2_2 t425).bind fun t426 => (if t426 < 0 then (some true) else ((laws_toNodeS.f k l0).bind fun t427 => ((laws_toNodeS.f k l1).bind fun t430 => ((laws_toCost.f k l2_0 l2_1 l2_2).bind fun bt433 => ((spec_SlowDist.f k t427 t430 bt433.1 bt433.2.1 bt433.2.2).bind fun t442 => ((laws_toNodeS.f k l0).bind fun t443 => ((laws_toNodeS.f k l1).bind fun t446 => ((laws_toCost.f k l2_0 l2_1 l2_2).bind fun bt449 => ((impl_SlowDist.f k t443 t446 bt449.1 bt449.2.1 bt449.2.2).bind fun t459 => (if t459 = t442 then ((laws_toNodeS.f k l0).bind fun t460 => ((laws_eqNodeS.f k t443 t460).bind fun t463 => (if t463 = true then ((laws_toNodeS.f k l1).bind fun t464 => ((laws_eqNodeS.f k t446 t464).bind fun t467 => (if t467 = true then ((laws_toCost.f k l2_0 l2_1 l2_2).bind fun bt468 => ((laws_eqCost.f k bt449.1 bt449.2.1 bt449.2.2 bt468.1 bt468.2.1 bt468.2.2).bind fun t477 => (if t477 = true then (some true) else (some false)))) else (some false)))) else (some false)))) else (some false)))))))))))))))) = some true := h
 clear h
 replace H := Option.bind_eq_some_iff.mp H
 obtain ⟨t424, A40, H⟩ := H
 try dsimp only at H
 have A4 := Aside0.mk A40
 clear A40
 by_cases c5 : t424 < 0
 ·rw [if_pos c5] at H
  have c5b0 : decide (t424 < 0) = true := decide_eq_true c5
  clear c5
  clear H
  go_enter Try.func4, Try.ntmps4
  go_wp2_with (first | ((with_reducible refine gate_dst (N := 5) rfl ?_); refine box_event ?hg (N := 5) ?hd (cs := #[.slice A2_0 l2_0.length c2_0, .slice A2_1 l2_1.length c2_1, .slice A2_2 l2_2.length c2_2]) (t := 25) ?hr ?_; (case hd => rfl); (case hg => rfl); (case hr => first | (go_simp; done) | (go_simp; rfl)); intro gb423 hg w6 hbox hb; have n0_ := Aside0.mk (below_step (by repeat (first | (with_reducible first | exact HB.out | apply below_alloc | apply pw_below_drewN | apply below_drew1) | exact HB.out)) hb); have n1_ := Aside0.mk (hbox); have n2_ := Aside0.mk ((by rw [hg]; exact (below_size (by repeat (first | (with_reducible first | exact HB.out | apply below_alloc | apply pw_below_drewN | apply below_drew1) | exact HB.out))) : w.heap.size ≤ gb423)); have n3_ := Aside0.mk ((by rw [hg]; exact (below_size (by repeat (first | (with_reducible first | exact HB.out | apply below_alloc | apply pw_below_drewN | apply below_drew1) | exact HB.out))) : w.heap.size ≤ gb423)); clear HB; have HB := n0_; have BK423 := n1_; have GW423 := n2_; have GE423 := n3_; clear n0_ n1_ n2_ n3_; clear hb hbox hg) | ((with_reducible refine gate_callee (f := 12) rfl ?_); refine goesL_ (some 15) rfl rfl Try.func12 (by kernel_rfl) rfl #[.slice A0 l0.length c0, .int .i64 1048576] rfl (by (try simp only [List.map_toArray, List.map_cons, List.map_nil]); first | done | rfl | (simp only [List.length_drop, List.length_take]; rfl)) ?_; (with_reducible refine (laws_szNodeS.calls _ _ l0 1048576 t424 _ ?side1 ?side2 A4.out).mono ?_); (case side1 => repeat (first | exact (Kd.C_below HR0.out HB.out) | (with_reducible refine Kd.C_alloc ?_ _) | (with_reducible refine Kd.C_drewN ?_ _) | (with_reducible refine Kd.C_drew ?_))); (case side2 => exact HC0.out); rintro e w' ⟨rfl, ⟨nd, rfl⟩⟩; refine ⟨_, rfl, ?_⟩))
  go_ret
  exact ⟨by first | rfl | (simp [errW_none, errW_some] <;> rfl) | (simp [*, errW_none, errW_some] <;> rfl), by repeat (first | (with_reducible first | exact HB.out | apply below_alloc | apply pw_below_drewN | apply below_drew1 | refine below_set ?_ GE423.out) | exact HB.out)⟩
 ·rw [if_neg c5] at H
  have c5b0 : decide (t424 < 0) = false := decide_eq_false c5
  clear c5
  replace H := Option.bind_eq_some_iff.mp H
  obtain ⟨t425, A70, H⟩ := H
  try dsimp only at H
  have A7 := Aside0.mk A70
  clear A70
  by_cases c8 : t425 < 0
  ·rw [if_pos c8] at H
   have c8b0 : decide (t425 < 0) = true := decide_eq_true c8
   clear c8
   clear H
   go_enter Try.func4, Try.ntmps4
   go_wp2_with (first | ((with_reducible refine gate_dst (N := 5) rfl ?_); refine box_event ?hg (N := 5) ?hd (cs := #[.slice A2_0 l2_0.length c2_0, .slice A2_1 l2_1.length c2_1, .slice A2_2 l2_2.length c2_2]) (t := 25) ?hr ?_; (case hd => rfl); (case hg => rfl); (case hr => first | (go_simp; done) | (go_simp; rfl)); intro gb423 hg w9 hbox hb; have n0_ := Aside0.mk (below_step (by repeat (first | (with_reducible first | exact HB.out | apply below_alloc | apply pw_below_drewN | apply below_drew1) | exact HB.out)) hb); have n1_ := Aside0.mk (hbox); have n2_ := Aside0.mk ((by rw [hg]; exact (below_size (by repeat (first | (with_reducible first | exact HB.out | apply below_alloc | apply pw_below_drewN | apply below_drew1) | exact HB.out))) : w.heap.size ≤ gb423)); have n3_ := Aside0.mk ((by rw [hg]; exact (below_size (by repeat (first | (with_reducible first | exact HB.out | apply below_alloc | apply pw_below_drewN | apply below_drew1) | exact HB.out))) : w.heap.size ≤ gb423)); clear HB; have HB := n0_; have BK423 := n1_; have GW423 := n2_; have GE423 := n3_; clear n0_ n1_ n2_ n3_; clear hb hbox hg) | ((with_reducible refine gate_callee (f := 12) rfl ?_); refine goesL_ (some 15) rfl rfl Try.func12 (by kernel_rfl) rfl #[.slice A0 l0.length c0, .int .i64 1048576] rfl (by (try simp only [List.map_toArray, List.map_cons, List.map_nil]); first | done | rfl | (simp only [List.length_drop, List.length_take]; rfl)) ?_; (with_reducible refine (laws_szNodeS.calls _ _ l0 1048576 t424 _ ?side1 ?side2 A4.out).mono ?_); (case side1 => repeat (first | exact (Kd.C_below HR0.out HB.out) | (with_reducible refine Kd.C_alloc ?_ _) | (with_reducible refine Kd.C_drewN ?_ _) | (with_reducible refine Kd.C_drew ?_))); (case side2 => exact HC0.out); rintro e w' ⟨rfl, ⟨nd, rfl⟩⟩; refine ⟨_, rfl, ?_⟩) | ((with_reducible refine gate_callee (f := 12) rfl ?_); refine goesL_ (some 20) rfl rfl Try.func12 (by kernel_rfl) rfl #[.slice A1 l1.length c1, .int .i64 t424] rfl (by (try simp only [List.map_toArray, List.map_cons, List.map_nil]); first | done | rfl | (simp only [List.length_drop, List.length_take]; rfl)) ?_; (with_reducible refine (laws_szNodeS.calls _ _ l1 t424 t425 _ ?side1 ?side2 A7.out).mono ?_); (case side1 => repeat (first | exact (Kd.C_below HR1.out (by repeat (first | (with_reducible first | exact HB.out | apply below_alloc | apply pw_below_drewN | apply below_drew1 | refine below_set ?_ GE423.out) | exact HB.out))) | (with_reducible refine Kd.C_alloc ?_ _) | (with_reducible refine Kd.C_drewN ?_ _) | (with_reducible refine Kd.C_drew ?_))); (case side2 => exact HC1.out); rintro e w' ⟨rfl, ⟨nd, rfl⟩⟩; refine ⟨_, rfl, ?_⟩))
   go_ret
   exact ⟨by first | rfl | (simp [errW_none, errW_some] <;> rfl) | (simp [*, errW_none, errW_some] <;> rfl), by repeat (first | (with_reducible first | exact HB.out | apply below_alloc | apply pw_below_drewN | apply below_drew1 | refine below_set ?_ GE423.out) | exact HB.out)⟩
  ·rw [if_neg c8] at H
   have c8b0 : decide (t425 < 0) = false := decide_eq_false c8
   clear c8
   replace H := Option.bind_eq_some_iff.mp H
   obtain ⟨t426, A100, H⟩ := H
   try dsimp only at H
   have A10 := Aside0.mk A100
   clear A100
   by_cases c11 : t426 < 0
   ·rw [if_pos c11] at H
    have c11b0 : decide (t426 < 0) = true := decide_eq_true c11
    clear c11
    clear H
    go_enter Try.func4, Try.ntmps4
    go_wp2_with (first | ((with_reducible refine gate_dst (N := 5) rfl ?_); refine box_event ?hg (N := 5) ?hd (cs := #[.slice A2_0 l2_0.length c2_0, .slice A2_1 l2_1.length c2_1, .slice A2_2 l2_2.length c2_2]) (t := 25) ?hr ?_; (case hd => rfl); (case hg => rfl); (case hr => first | (go_simp; done) | (go_simp; rfl)); intro gb423 hg w12 hbox hb; have n0_ := Aside0.mk (below_step (by repeat (first | (with_reducible first | exact HB.out | apply below_alloc | apply pw_below_drewN | apply below_drew1) | exact HB.out)) hb); have n1_ := Aside0.mk (hbox); have n2_ := Aside0.mk ((by rw [hg]; exact (below_size (by repeat (first | (with_reducible first | exact HB.out | apply below_alloc | apply pw_below_drewN | apply below_drew1) | exact HB.out))) : w.heap.size ≤ gb423)); have n3_ := Aside0.mk ((by rw [hg]; exact (below_size (by repeat (first | (with_reducible first | exact HB.out | apply below_alloc | apply pw_below_drewN | apply below_drew1) | exact HB.out))) : w.heap.size ≤ gb423)); clear HB; have HB := n0_; have BK423 := n1_; have GW423 := n2_; have GE423 := n3_; clear n0_ n1_ n2_ n3_; clear hb hbox hg) | ((with_reducible refine gate_callee (f := 12) rfl ?_); refine goesL_ (some 15) rfl rfl Try.func12 (by kernel_rfl) rfl #[.slice A0 l0.length c0, .int .i64 1048576] rfl (by (try simp only [List.map_toArray, List.map_cons, List.map_nil]); first | done | rfl | (simp only [List.length_drop, List.length_take]; rfl)) ?_; (with_reducible refine (laws_szNodeS.calls _ _ l0 1048576 t424 _ ?side1 ?side2 A4.out).mono ?_); (case side1 => repeat (first | exact (Kd.C_below HR0.out HB.out) | (with_reducible refine Kd.C_alloc ?_ _) | (with_reducible refine Kd.C_drewN ?_ _) | (with_reducible refine Kd.C_drew ?_))); (case side2 => exact HC0.out); rintro e w' ⟨rfl, ⟨nd, rfl⟩⟩; refine ⟨_, rfl, ?_⟩) | ((with_reducible refine gate_callee (f := 12) rfl ?_); refine goesL_ (some 20) rfl rfl Try.func12 (by kernel_rfl) rfl #[.slice A1 l1.length c1, .int .i64 t424] rfl (by (try simp only [List.map_toArray, List.map_cons, List.map_nil]); first | done | rfl | (simp only [List.length_drop, List.length_take]; rfl)) ?_; (with_reducible refine (laws_szNodeS.calls _ _ l1 t424 t425 _ ?side1 ?side2 A7.out).mono ?_); (case side1 => repeat (first | exact (Kd.C_below HR1.out (by repeat (first | (with_reducible first | exact HB.out | apply below_alloc | apply pw_below_drewN | apply below_drew1 | refine below_set ?_ GE423.out) | exact HB.out))) | (with_reducible refine Kd.C_alloc ?_ _) | (with_reducible refine Kd.C_drewN ?_ _) | (with_reducible refine Kd.C_drew ?_))); (case side2 => exact HC1.out); rintro e w' ⟨rfl, ⟨nd, rfl⟩⟩; refine ⟨_, rfl, ?_⟩; have hcz13_0 : w12.cell? ⟨gb423, 0, none⟩ = some (.slice A2_0 l2_0.length c2_0) := (blk_cell BK423.out 0).trans rfl; have hcz13_1 : w12.cell? ⟨gb423, 1, none⟩ = some (.slice A2_1 l2_1.length c2_1) := (blk_cell BK423.out 1).trans rfl; have hcz13_2 : w12.cell? ⟨gb423, 2, none⟩ = some (.slice A2_2 l2_2.length c2_2) := (blk_cell BK423.out 2).trans rfl; have hfz13_0 := blk_frozen BK423.out 0; have hfz13_1 := blk_frozen BK423.out 1; have hfz13_2 := blk_frozen BK423.out 2) | ((with_reducible refine gate_callee (f := 13) rfl ?_); refine goesL_ (some 25) rfl rfl Try.func13 (by kernel_rfl) rfl #[.agg #[.slice A2_0 l2_0.length c2_0, .slice A2_1 l2_1.length c2_1, .slice A2_2 l2_2.length c2_2], .int .i64 t425] rfl (by (try simp only [List.map_toArray, List.map_cons, List.map_nil]); first | done | rfl | (simp only [List.length_drop, List.length_take]; rfl)) ?_; (with_reducible refine (laws_szCost.calls _ _ l2_0 _ _ l2_1 _ _ l2_2 t425 t426 _ ?side1 ?side2 ?side3 ?side4 ?side5 ?side6 A10.out).mono ?_); (case side1 => repeat (first | exact (Kd.C_below HR2_0.out (by repeat (first | (with_reducible first | exact HB.out | apply below_alloc | apply pw_below_drewN | apply below_drew1 | refine below_set ?_ GE423.out) | exact HB.out))) | (with_reducible refine Kd.C_alloc ?_ _) | (with_reducible refine Kd.C_drewN ?_ _) | (with_reducible refine Kd.C_drew ?_))); (case side2 => exact HC2_0.out); (case side3 => repeat (first | exact (Kd.C_below HR2_1.out (by repeat (first | (with_reducible first | exact HB.out | apply below_alloc | apply pw_below_drewN | apply below_drew1 | refine below_set ?_ GE423.out) | exact HB.out))) | (with_reducible refine Kd.C_alloc ?_ _) | (with_reducible refine Kd.C_drewN ?_ _) | (with_reducible refine Kd.C_drew ?_))); (case side4 => exact HC2_1.out); (case side5 => repeat (first | exact (Kd.C_below HR2_2.out (by repeat (first | (with_reducible first | exact HB.out | apply below_alloc | apply pw_below_drewN | apply below_drew1 | refine below_set ?_ GE423.out) | exact HB.out))) | (with_reducible refine Kd.C_alloc ?_ _) | (with_reducible refine Kd.C_drewN ?_ _) | (with_reducible refine Kd.C_drew ?_))); (case side6 => exact HC2_2.out); rintro e w14 ⟨rfl, hb⟩; refine ⟨_, rfl, ?_⟩; have n0_ := Aside0.mk (blk_below (g := gb423) (o := .cells #[.slice A2_0 l2_0.length c2_0, .slice A2_1 l2_1.length c2_1, .slice A2_2 l2_2.length c2_2] 25 (0, 0)) (by (with_reducible repeat (first | refine blk_drewN ?_ _ | refine blk_drew ?_ | refine blk_alloc ?_ _)); exact BK423.out) hb); have n1_ := Aside0.mk (below_step (by repeat (first | (with_reducible first | exact HB.out | apply below_alloc | apply pw_below_drewN | apply below_drew1 | refine below_set ?_ GE423.out) | exact HB.out)) hb); clear BK423; clear HB; have BK423 := n0_; have HB := n1_; clear n0_ n1_; (try clear hb); (try clear hb2); (try clear hk); (try clear hi)))
    go_ret
    exact ⟨ea_, (bl_ HB).out⟩
   ·rw [if_neg c11] at H
    have c11b0 : decide (t426 < 0) = false := decide_eq_false c11
    clear c11
    replace H := Option.bind_eq_some_iff.mp H
    obtain ⟨t427, A150, H⟩ := H
    try dsimp only at H
    have A15 := Aside0.mk A150
    clear A150
    replace H := Option.bind_eq_some_iff.mp H
    obtain ⟨t430, A160, H⟩ := H
    try dsimp only at H
    have A16 := Aside0.mk A160
    clear A160
    replace H := Option.bind_eq_some_iff.mp H
    obtain ⟨⟨t433, t436, t439⟩, A170, H⟩ := H
    try dsimp only at H
    have A17 := Aside0.mk A170
    clear A170
    replace H := Option.bind_eq_some_iff.mp H
    obtain ⟨t442, A180, H⟩ := H
    try dsimp only at H
    have A18 := Aside0.mk A180
    clear A180
    replace H := Option.bind_eq_some_iff.mp H
    obtain ⟨t443, A190, H⟩ := H
    try dsimp only at H
    have A19 := Aside0.mk A190
    clear A190
    replace H := Option.bind_eq_some_iff.mp H
    obtain ⟨t446, A200, H⟩ := H
    try dsimp only at H
    have A20 := Aside0.mk A200
    clear A200
    replace H := Option.bind_eq_some_iff.mp H
    obtain ⟨⟨t449, t452, t455⟩, A210, H⟩ := H
    try dsimp only at H
    have A21 := Aside0.mk A210
    clear A210
    replace H := Option.bind_eq_some_iff.mp H
    obtain ⟨t459, A220, H⟩ := H
    try dsimp only at H
    have A22 := Aside0.mk A220
    clear A220
    by_cases c23 : t459 = t442
    ·rw [if_pos c23] at H
     have c23b0 : (t459 == t442) = true := beq_iff_eq.mpr c23
     have c23b1 : (t459 != t442) = false := bne_eq_false_iff_eq.mpr c23
     clear c23
     replace H := Option.bind_eq_some_iff.mp H
     obtain ⟨t460, A240, H⟩ := H
     try dsimp only at H
     have A24 := Aside0.mk A240
     clear A240
     replace H := Option.bind_eq_some_iff.mp H
     obtain ⟨t463, A250, H⟩ := H
     try dsimp only at H
     have A25 := Aside0.mk A250
     clear A250
     by_cases c26 : t463 = true
     ·subst c26
      have H1 : ((laws_toNodeS.f k l1).bind fun t464 => ((laws_eqNodeS.f k t446 t464).bind fun t467 => (if t467 = true then ((laws_toCost.f k l2_0 l2_1 l2_2).bind fun bt468 => ((laws_eqCost.f k t449 t452 t455 bt468.1 bt468.2.1 bt468.2.2).bind fun t477 => (if t477 = true then (some true) else (some false)))) else (some false)))) = some true := by rw [if_pos rfl] at H; exact H
      clear H
      have H := H1
      clear H1
      replace H := Option.bind_eq_some_iff.mp H
      obtain ⟨t464, A270, H⟩ := H
      try dsimp only at H
      have A27 := Aside0.mk A270
      clear A270
      replace H := Option.bind_eq_some_iff.mp H
      obtain ⟨t467, A280, H⟩ := H
      try dsimp only at H
      have A28 := Aside0.mk A280
      clear A280
      by_cases c29 : t467 = true
      ·subst c29
       have H1 : ((laws_toCost.f k l2_0 l2_1 l2_2).bind fun bt468 => ((laws_eqCost.f k t449 t452 t455 bt468.1 bt468.2.1 bt468.2.2).bind fun t477 => (if t477 = true then (some true) else (some false)))) = some true := by rw [if_pos rfl] at H; exact H
       clear H
       have H := H1
       clear H1
       replace H := Option.bind_eq_some_iff.mp H
       obtain ⟨⟨t468, t471, t474⟩, A300, H⟩ := H
       try dsimp only at H
       have A30 := Aside0.mk A300
       clear A300
       replace H := Option.bind_eq_some_iff.mp H
       obtain ⟨t477, A310, H⟩ := H
       replace H : (if t477 = true then (some true) else (some false)) = some true := H
       have A31 := Aside0.mk A310
       clear A310
       by_cases c32 : t477 = true
       ·subst c32
        have H1 : (some true) = some true := rfl
        clear H
        have H := H1
        clear H1
        clear H
        go_enter Try.func4, Try.ntmps4
        try go_wp2_with (first | ((with_reducible refine gate_dst (N := 5) rfl ?_); refine bx_ 5 #[.slice A2_0 l2_0.length c2_0, .slice A2_1 l2_1.length c2_1, .slice A2_2 l2_2.length c2_2] 25 ?_; intro gb423 hg w33 hbox hb; have BK423 := Aside0.mk (hbox); have GW423 := Aside0.mk ((by rw [hg]; exact (bs_ HB) : w.heap.size ≤ gb423)); have GE423 := Aside0.mk ((by rw [hg]; exact (bs_ HB) : w.heap.size ≤ gb423)); replace HB := tB_ HB hb; clear hb hbox hg) | ((with_reducible refine gate_callee (f := 12) rfl ?_); refine gL_ (some 15) Try.func12 #[.slice A0 l0.length c0, .int .i64 1048576] ?_; (with_reducible refine (laws_szNodeS.calls _ _ l0 1048576 t424 _ (cx_ HR0 HB) HC0.out A4.out).mono ?_); rintro e w' ⟨rfl, ⟨nd, rfl⟩⟩; refine ⟨_, rfl, ?_⟩; (try (rw [drewN_self w33]; generalize hq_ : World.drewN w33 _ = w33; have n0_ : Aside0 (w33.heap[gb423]? = some (.cells #[.slice A2_0 l2_0.length c2_0, .slice A2_1 l2_1.length c2_1, .slice A2_2 l2_2.length c2_2] 25 (0, 0))) := ⟨by rw [← hq_]; exact (kx_ BK423.out)⟩; have n1_ : Aside0 (Below w.heap.size w w33) := ⟨by rw [← hq_]; exact ((bl_ HB).out)⟩; clear BK423 HB hq_; have BK423 := n0_; have HB := n1_; clear n0_ n1_))) | ((with_reducible refine gate_callee (f := 12) rfl ?_); refine gL_ (some 20) Try.func12 #[.slice A1 l1.length c1, .int .i64 t424] ?_; (with_reducible refine (laws_szNodeS.calls _ _ l1 t424 t425 _ (cx_ HR1 HB) HC1.out A7.out).mono ?_); rintro e w' ⟨rfl, ⟨nd, rfl⟩⟩; refine ⟨_, rfl, ?_⟩; (try (rw [drewN_self w33]; generalize hq_ : World.drewN w33 _ = w33; have n0_ : Aside0 (w33.heap[gb423]? = some (.cells #[.slice A2_0 l2_0.length c2_0, .slice A2_1 l2_1.length c2_1, .slice A2_2 l2_2.length c2_2] 25 (0, 0))) := ⟨by rw [← hq_]; exact (kx_ BK423.out)⟩; have n1_ : Aside0 (Below w.heap.size w w33) := ⟨by rw [← hq_]; exact ((bl_ HB).out)⟩; clear BK423 HB hq_; have BK423 := n0_; have HB := n1_; clear n0_ n1_)); obtain ⟨hcz34_0, hcz34_1, hcz34_2, hfz34_0, hfz34_1, hfz34_2⟩ := bk3_ BK423) | ((with_reducible refine gate_callee (f := 13) rfl ?_); refine gL_ (some 25) Try.func13 #[.agg #[.slice A2_0 l2_0.length c2_0, .slice A2_1 l2_1.length c2_1, .slice A2_2 l2_2.length c2_2], .int .i64 t425] ?_; (with_reducible refine (laws_szCost.calls _ _ l2_0 _ _ l2_1 _ _ l2_2 t425 t426 _ (cx_ HR2_0 HB) HC2_0.out (cx_ HR2_1 HB) HC2_1.out (cx_ HR2_2 HB) HC2_2.out A10.out).mono ?_); rintro e w35 ⟨rfl, hb⟩; refine ⟨_, rfl, ?_⟩; replace BK423 := tK_ BK423 hb; replace HB := tB_ HB hb; (try clear hb)))
        have n0_ := Aside0.mk (blk_drew BK423.out)
        have n1_ := Aside0.mk (below_drew1 HB.out)
        clear BK423
        clear HB
        have BK423 := n0_
        have HB := n1_
        clear n0_ n1_
        refine start_ (n := 8) (S := fun w' => w'.cell? ⟨gb423, 0, none⟩ = some (.slice A2_0 l2_0.length c2_0) ∧ w'.cell? ⟨gb423, 1, none⟩ = some (.slice A2_1 l2_1.length c2_1) ∧ w'.cell? ⟨gb423, 2, none⟩ = some (.slice A2_2 l2_2.length c2_2)) (ds := []) (ba_ 8 0) (by kernel_rfl) rfl rfl ⟨(blk_cell BK423.out 0).trans rfl, (blk_cell BK423.out 1).trans rfl, (blk_cell BK423.out 2).trans rfl⟩ (fun hHeld => ?_); refine with_tabW laws_FnExactSlowDist.tab11 laws_FnExactSlowDist.bits11 (fun HT_ HW_ => ?_)
        generalize w35.drew = w36 at BK423 HB hHeld ⊢
        refine pu_ 0 (some 28) (ba_ 8 1) rfl rfl (any_of HT_.out (by kernel_rfl)) ?_
        refine pu_ 2 (some 30) (ba_ 8 5) rfl rfl (any_of HT_.out (by kernel_rfl)) ?_
        refine ta_ 4 (some 32) (ba_ 8 21) rfl rfl (take_ofW HT_.out HW_.out (by kernel_rfl)) hHeld (by rintro w' ⟨s0, s1, s2⟩; go_simp; with_reducible rfl) ?_
        refine one_ (i := 1) (N := some 29) (ba_ 8 23) rfl rfl (one_of HT_.out (by kernel_rfl)) (by decide) (fun K hK => ?_)
        refine goes_ Try.func15 (by kernel_rfl) rfl #[.slice A0 l0.length c0] (by rfl) rfl rfl (by (try simp only [List.map_toArray, List.map_cons, List.map_nil]); first | done | rfl | (simp only [List.length_drop, List.length_take]; rfl)) ?_
        with_reducible refine (laws_toNodeS.calls k _ _ l0 t427 _ ?side1 ?side2 A15.out).mono ?_
        (case side1 => exact cx_ HR0 HB)
        (case side2 => exact HC0.out)
        rintro e w37 ⟨v428, rfl, ho0, hb⟩
        refine ⟨_, rfl, ?_⟩
        have n0_ := Aside0.mk (Kd.R_lower ho0 (bs_ HB))
        have n1_ := tK_ BK423 hb
        have n2_ := tB_ HB hb
        clear BK423
        clear HB
        have HO429 := n0_
        have BK423 := n1_
        have HB := n2_
        clear n0_ n1_ n2_
        (try clear hb)
        (try clear hb2)
        (try clear hk)
        (try clear hi)
        (try clear ho0)
        refine hK.out _ _ ⟨(blk_cell BK423.out 0).trans rfl, (blk_cell BK423.out 1).trans rfl, (blk_cell BK423.out 2).trans rfl⟩ (fun hHeld => ?_)
        clear hK K
        refine norm_ (a' := ?_) ?_ ?_
        rotate_left
        ·show Act.put _ (some 29) _ = _
         simp only [Act.put, List.setIfInBounds_toArray, List.set_cons_zero, List.set_cons_succ, i64_w, i32_w]
         rfl
        refine one_ (i := 3) (N := some 31) (ba_ 8 31) rfl rfl (one_of HT_.out (by kernel_rfl)) (by decide) (fun K hK => ?_)
        refine goes_ Try.func15 (by kernel_rfl) rfl #[.slice A1 l1.length c1] (by rfl) rfl rfl (by (try simp only [List.map_toArray, List.map_cons, List.map_nil]); first | done | rfl | (simp only [List.length_drop, List.length_take]; rfl)) ?_
        with_reducible refine (laws_toNodeS.calls k _ _ l1 t430 _ ?side1 ?side2 A16.out).mono ?_
        (case side1 => exact cx_ HR1 HB)
        (case side2 => exact HC1.out)
        rintro e w38 ⟨v431, rfl, ho0, hb⟩
        refine ⟨_, rfl, ?_⟩
        have n0_ := Aside0.mk (Kd.R_elder' (rx_ HO429.out) (Kd.R_base ho0) hb)
        have n1_ := Aside0.mk (Kd.R_lower (Kd.R_new' ho0 (Kd.R_lt (rx_ HO429.out))) (bs_ HB))
        have n2_ := tK_ BK423 hb
        have n3_ := tB_ HB hb
        clear HO429
        clear BK423
        clear HB
        have HO429 := n0_
        have HO432 := n1_
        have BK423 := n2_
        have HB := n3_
        clear n0_ n1_ n2_ n3_
        (try clear hb)
        (try clear hb2)
        (try clear hk)
        (try clear hi)
        (try clear ho0)
        refine hK.out _ _ ⟨(blk_cell BK423.out 0).trans rfl, (blk_cell BK423.out 1).trans rfl, (blk_cell BK423.out 2).trans rfl⟩ (fun hHeld => ?_)
        clear hK K
        refine norm_ (a' := ?_) ?_ ?_
        rotate_left
        ·show Act.put _ (some 31) _ = _
         simp only [Act.put, List.setIfInBounds_toArray, List.set_cons_zero, List.set_cons_succ, i64_w, i32_w]
         rfl
        refine one_ (i := 5) (N := some 33) (ba_ 8 63) rfl rfl (one_of HT_.out (by kernel_rfl)) (by decide) (fun K hK => ?_)
        refine goes_ Try.func16 (by kernel_rfl) rfl #[.agg #[.slice A2_0 l2_0.length c2_0, .slice A2_1 l2_1.length c2_1, .slice A2_2 l2_2.length c2_2]] (by rfl) rfl rfl (by (try simp only [List.map_toArray, List.map_cons, List.map_nil]); first | done | rfl | (simp only [List.length_drop, List.length_take]; rfl)) ?_
        with_reducible refine (laws_toCost.calls k _ _ l2_0 _ _ l2_1 _ _ l2_2 t433 t436 t439 _ ?side1 ?side2 ?side3 ?side4 ?side5 ?side6 A17.out).mono ?_
        (case side1 => exact cx_ HR2_0 HB)
        (case side2 => exact HC2_0.out)
        (case side3 => exact cx_ HR2_1 HB)
        (case side4 => exact HC2_1.out)
        (case side5 => exact cx_ HR2_2 HB)
        (case side6 => exact HC2_2.out)
        rintro e w39 ⟨v434, v437, v440, rfl, ho0, ho1, ho2, hb⟩
        refine ⟨_, rfl, ?_⟩
        have n0_ := tR_ HO429 hb
        have n1_ := tR_ HO432 hb
        have n2_ := Aside0.mk (Kd.R_lower ho0 (bs_ HB))
        have n3_ := Aside0.mk (Kd.R_lower ho1 (bs_ HB))
        have n4_ := Aside0.mk (Kd.R_lower ho2 (bs_ HB))
        have n5_ := Aside0.mk (blk_below (g := gb423) (o := .cells #[.slice A2_0 l2_0.length c2_0, .slice A2_1 l2_1.length c2_1, .slice A2_2 l2_2.length c2_2] 25 (0, 0)) (by (with_reducible repeat (first | refine blk_drewN ?_ _ | refine blk_drew ?_ | refine blk_alloc ?_ _)); exact BK423.out) hb)
        have n6_ := Aside0.mk (below_step (by repeat (first | (with_reducible first | exact HB.out | apply below_alloc | apply pw_below_drewN | apply below_drew1 | refine below_set ?_ GE423.out) | exact HB.out)) hb)
        clear HO429
        clear HO432
        clear BK423
        clear HB
        have HO429 := n0_
        have HO432 := n1_
        have HO435 := n2_
        have HO438 := n3_
        have HO441 := n4_
        have BK423 := n5_
        have HB := n6_
        clear n0_ n1_ n2_ n3_ n4_ n5_ n6_
        (try clear hb)
        (try clear hb2)
        (try clear hk)
        (try clear hi)
        (try clear ho0)
        (try clear ho1)
        (try clear ho2)
        obtain ⟨Ao40, co40, eo40⟩ := Kd.R_slice HO429.out
        (first | subst eo40 | (injection eo40 with f1_ f2_ f3_; have f4_ := f1_.symm; have f5_ := f3_.symm; clear f1_ f2_ f3_; subst f4_; subst f5_))
        obtain ⟨Ao41, co41, eo41⟩ := Kd.R_slice HO432.out
        (first | subst eo41 | (injection eo41 with f1_ f2_ f3_; have f4_ := f1_.symm; have f5_ := f3_.symm; clear f1_ f2_ f3_; subst f4_; subst f5_))
        obtain ⟨Ao42, co42, eo42⟩ := Kd.R_slice HO435.out
        (first | subst eo42 | (injection eo42 with f1_ f2_ f3_; have f4_ := f1_.symm; have f5_ := f3_.symm; clear f1_ f2_ f3_; subst f4_; subst f5_))
        obtain ⟨Ao43, co43, eo43⟩ := Kd.R_slice HO438.out
        (first | subst eo43 | (injection eo43 with f1_ f2_ f3_; have f4_ := f1_.symm; have f5_ := f3_.symm; clear f1_ f2_ f3_; subst f4_; subst f5_))
        obtain ⟨Ao44, co44, eo44⟩ := Kd.R_slice HO441.out
        (first | subst eo44 | (injection eo44 with f1_ f2_ f3_; have f4_ := f1_.symm; have f5_ := f3_.symm; clear f1_ f2_ f3_; subst f4_; subst f5_))
        refine hK.out _ _ ⟨(blk_cell BK423.out 0).trans rfl, (blk_cell BK423.out 1).trans rfl, (blk_cell BK423.out 2).trans rfl⟩ (fun hHeld => ?_)
        clear hK K
        refine norm_ (a' := ?_) ?_ ?_
        rotate_left
        ·show Act.put _ (some 33) _ = _
         simp only [Act.put, List.setIfInBounds_toArray, List.set_cons_zero, List.set_cons_succ, i64_w, i32_w]
         rfl
        refine one_ (i := 6) (N := some 34) (ba_ 8 127) rfl rfl (one_of HT_.out (by kernel_rfl)) (by decide) (fun K hK => ?_)
        refine goes_ Try.func20 (by kernel_rfl) rfl #[.slice Ao40 t427.length co40, .slice Ao41 t430.length co41, .agg #[.slice Ao42 t433.length co42, .slice Ao43 t436.length co43, .slice Ao44 t439.length co44]] (by rfl) rfl rfl (by (try simp only [List.map_toArray, List.map_cons, List.map_nil]); first | done | rfl | (simp only [List.length_drop, List.length_take]; rfl)) ?_
        with_reducible refine (spec_SlowDist.calls k _ _ t427 _ _ t430 _ _ t433 _ _ t436 _ _ t439 t442 _ ?side1 ?side2 ?side3 ?side4 ?side5 ?side6 ?side7 ?side8 ?side9 ?side10 A18.out).mono ?_
        (case side1 => exact cc_ (Kd.R_reads' HO429.out).2.2)
        (case side2 => exact (Kd.R_reads' HO429.out).2.1)
        (case side3 => exact cc_ (Kd.R_reads' HO432.out).2.2)
        (case side4 => exact (Kd.R_reads' HO432.out).2.1)
        (case side5 => exact cc_ (Kd.R_reads' HO435.out).2.2)
        (case side6 => exact (Kd.R_reads' HO435.out).2.1)
        (case side7 => exact cc_ (Kd.R_reads' HO438.out).2.2)
        (case side8 => exact (Kd.R_reads' HO438.out).2.1)
        (case side9 => exact cc_ (Kd.R_reads' HO441.out).2.2)
        (case side10 => exact (Kd.R_reads' HO441.out).2.1)
        rintro e w45 ⟨rfl, hb⟩
        refine ⟨_, rfl, ?_⟩
        have n0_ := tR_ HO429 hb
        have n1_ := tR_ HO432 hb
        have n2_ := tR_ HO435 hb
        have n3_ := tR_ HO438 hb
        have n4_ := tR_ HO441 hb
        have n5_ := Aside0.mk (blk_below (g := gb423) (o := .cells #[.slice A2_0 l2_0.length c2_0, .slice A2_1 l2_1.length c2_1, .slice A2_2 l2_2.length c2_2] 25 (0, 0)) (by (with_reducible repeat (first | refine blk_drewN ?_ _ | refine blk_drew ?_ | refine blk_alloc ?_ _)); exact BK423.out) hb)
        have n6_ := Aside0.mk (below_step (by repeat (first | (with_reducible first | exact HB.out | apply below_alloc | apply pw_below_drewN | apply below_drew1 | refine below_set ?_ GE423.out) | exact HB.out)) hb)
        clear HO429
        clear HO432
        clear HO435
        clear HO438
        clear HO441
        clear BK423
        clear HB
        have HO429 := n0_
        have HO432 := n1_
        have HO435 := n2_
        have HO438 := n3_
        have HO441 := n4_
        have BK423 := n5_
        have HB := n6_
        clear n0_ n1_ n2_ n3_ n4_ n5_ n6_
        (try clear hb)
        (try clear hb2)
        (try clear hk)
        (try clear hi)
        refine hK.out _ _ ⟨(blk_cell BK423.out 0).trans rfl, (blk_cell BK423.out 1).trans rfl, (blk_cell BK423.out 2).trans rfl⟩ (fun hHeld => ?_)
        clear hK K
        refine norm_ (a' := ?_) ?_ ?_
        rotate_left
        ·show Act.put _ (some 34) _ = _
         simp only [Act.put, List.setIfInBounds_toArray, List.set_cons_zero, List.set_cons_succ, i64_w, i32_w]
         rfl
        refine pu_ 7 (some 8) (ba_ 8 255) rfl rfl (any_of HT_.out (by kernel_rfl)) ?_
        refine done_ (done_of HT_.out (by kernel_rfl)) ?_
        try go_wp2_with (first | ((with_reducible refine gate_callee (f := 15) rfl ?_); refine goesL_ (some 36) rfl rfl Try.func15 (by kernel_rfl) rfl #[.slice A0 l0.length c0] rfl (by (try simp only [List.map_toArray, List.map_cons, List.map_nil]); first | done | rfl | (simp only [List.length_drop, List.length_take]; rfl)) ?_; (with_reducible refine (laws_toNodeS.calls k _ _ l0 t443 _ ?side1 ?side2 A19.out).mono ?_); (case side1 => repeat (first | exact (Kd.C_below HR0.out HB.out) | (with_reducible refine Kd.C_alloc ?_ _) | (with_reducible refine Kd.C_drewN ?_ _) | (with_reducible refine Kd.C_drew ?_))); (case side2 => exact HC0.out); rintro e w46 ⟨v444, rfl, ho0, hb⟩; refine ⟨_, rfl, ?_⟩; have n0_ := Aside0.mk (Kd.R_elder' (by (with_reducible repeat (first | apply Kd.R_alloc | apply Kd.R_drewN | apply Kd.R_drew)); exact HO429.out) (Kd.R_base ho0) hb); have n1_ := Aside0.mk (Kd.R_elder' (by (with_reducible repeat (first | apply Kd.R_alloc | apply Kd.R_drewN | apply Kd.R_drew)); exact HO432.out) (Kd.R_base ho0) hb); have n2_ := Aside0.mk (Kd.R_below (by (with_reducible repeat (first | apply Kd.R_alloc | apply Kd.R_drewN | apply Kd.R_drew)); exact HO435.out) hb); have n3_ := Aside0.mk (Kd.R_below (by (with_reducible repeat (first | apply Kd.R_alloc | apply Kd.R_drewN | apply Kd.R_drew)); exact HO438.out) hb); have n4_ := Aside0.mk (Kd.R_below (by (with_reducible repeat (first | apply Kd.R_alloc | apply Kd.R_drewN | apply Kd.R_drew)); exact HO441.out) hb); have n5_ := Aside0.mk (Kd.R_lower (Kd.R_new' (Kd.R_new' ho0 (Kd.R_lt (by (with_reducible repeat (first | apply Kd.R_alloc | apply Kd.R_drewN | apply Kd.R_drew)); exact HO429.out))) (Kd.R_lt (by (with_reducible repeat (first | apply Kd.R_alloc | apply Kd.R_drewN | apply Kd.R_drew)); exact HO432.out))) (below_size (by repeat (first | (with_reducible first | exact HB.out | apply below_alloc | apply pw_below_drewN | apply below_drew1 | refine below_set ?_ GE423.out) | exact HB.out)))); have n6_ := Aside0.mk (blk_below (g := gb423) (o := .cells #[.slice A2_0 l2_0.length c2_0, .slice A2_1 l2_1.length c2_1, .slice A2_2 l2_2.length c2_2] 25 (0, 0)) (by (with_reducible repeat (first | refine blk_drewN ?_ _ | refine blk_drew ?_ | refine blk_alloc ?_ _)); exact BK423.out) hb); have n7_ := Aside0.mk (below_step (by repeat (first | (with_reducible first | exact HB.out | apply below_alloc | apply pw_below_drewN | apply below_drew1 | refine below_set ?_ GE423.out) | exact HB.out)) hb); clear HO429; clear HO432; clear HO435; clear HO438; clear HO441; clear BK423; clear HB; have HO429 := n0_; have HO432 := n1_; have HO435 := n2_; have HO438 := n3_; have HO441 := n4_; have HO445 := n5_; have BK423 := n6_; have HB := n7_; clear n0_ n1_ n2_ n3_ n4_ n5_ n6_ n7_; (try clear hb); (try clear hb2); (try clear hk); (try clear hi); (try clear ho0)) | ((with_reducible refine gate_callee (f := 15) rfl ?_); refine goesL_ (some 38) rfl rfl Try.func15 (by kernel_rfl) rfl #[.slice A1 l1.length c1] rfl (by (try simp only [List.map_toArray, List.map_cons, List.map_nil]); first | done | rfl | (simp only [List.length_drop, List.length_take]; rfl)) ?_; (with_reducible refine (laws_toNodeS.calls k _ _ l1 t446 _ ?side1 ?side2 A20.out).mono ?_); (case side1 => repeat (first | exact (Kd.C_below HR1.out HB.out) | (with_reducible refine Kd.C_alloc ?_ _) | (with_reducible refine Kd.C_drewN ?_ _) | (with_reducible refine Kd.C_drew ?_))); (case side2 => exact HC1.out); rintro e w47 ⟨v447, rfl, ho0, hb⟩; refine ⟨_, rfl, ?_⟩; have n0_ := Aside0.mk (Kd.R_elder' (by (with_reducible repeat (first | apply Kd.R_alloc | apply Kd.R_drewN | apply Kd.R_drew)); exact HO429.out) (Kd.R_base ho0) hb); have n1_ := Aside0.mk (Kd.R_elder' (by (with_reducible repeat (first | apply Kd.R_alloc | apply Kd.R_drewN | apply Kd.R_drew)); exact HO432.out) (Kd.R_base ho0) hb); have n2_ := Aside0.mk (Kd.R_below (by (with_reducible repeat (first | apply Kd.R_alloc | apply Kd.R_drewN | apply Kd.R_drew)); exact HO435.out) hb); have n3_ := Aside0.mk (Kd.R_below (by (with_reducible repeat (first | apply Kd.R_alloc | apply Kd.R_drewN | apply Kd.R_drew)); exact HO438.out) hb); have n4_ := Aside0.mk (Kd.R_below (by (with_reducible repeat (first | apply Kd.R_alloc | apply Kd.R_drewN | apply Kd.R_drew)); exact HO441.out) hb); have n5_ := Aside0.mk (Kd.R_elder' (by (with_reducible repeat (first | apply Kd.R_alloc | apply Kd.R_drewN | apply Kd.R_drew)); exact HO445.out) (Kd.R_base ho0) hb); have n6_ := Aside0.mk (Kd.R_lower (Kd.R_new' (Kd.R_new' (Kd.R_new' ho0 (Kd.R_lt (by (with_reducible repeat (first | apply Kd.R_alloc | apply Kd.R_drewN | apply Kd.R_drew)); exact HO429.out))) (Kd.R_lt (by (with_reducible repeat (first | apply Kd.R_alloc | apply Kd.R_drewN | apply Kd.R_drew)); exact HO432.out))) (Kd.R_lt (by (with_reducible repeat (first | apply Kd.R_alloc | apply Kd.R_drewN | apply Kd.R_drew)); exact HO445.out))) (below_size (by repeat (first | (with_reducible first | exact HB.out | apply below_alloc | apply pw_below_drewN | apply below_drew1 | refine below_set ?_ GE423.out) | exact HB.out)))); have n7_ := Aside0.mk (blk_below (g := gb423) (o := .cells #[.slice A2_0 l2_0.length c2_0, .slice A2_1 l2_1.length c2_1, .slice A2_2 l2_2.length c2_2] 25 (0, 0)) (by (with_reducible repeat (first | refine blk_drewN ?_ _ | refine blk_drew ?_ | refine blk_alloc ?_ _)); exact BK423.out) hb); have n8_ := Aside0.mk (below_step (by repeat (first | (with_reducible first | exact HB.out | apply below_alloc | apply pw_below_drewN | apply below_drew1 | refine below_set ?_ GE423.out) | exact HB.out)) hb); clear HO429; clear HO432; clear HO435; clear HO438; clear HO441; clear HO445; clear BK423; clear HB; have HO429 := n0_; have HO432 := n1_; have HO435 := n2_; have HO438 := n3_; have HO441 := n4_; have HO445 := n5_; have HO448 := n6_; have BK423 := n7_; have HB := n8_; clear n0_ n1_ n2_ n3_ n4_ n5_ n6_ n7_ n8_; (try clear hb); (try clear hb2); (try clear hk); (try clear hi); (try clear ho0); have hcz48_0 : w47.cell? ⟨gb423, 0, none⟩ = some (.slice A2_0 l2_0.length c2_0) := (blk_cell BK423.out 0).trans rfl; have hcz48_1 : w47.cell? ⟨gb423, 1, none⟩ = some (.slice A2_1 l2_1.length c2_1) := (blk_cell BK423.out 1).trans rfl; have hcz48_2 : w47.cell? ⟨gb423, 2, none⟩ = some (.slice A2_2 l2_2.length c2_2) := (blk_cell BK423.out 2).trans rfl; have hfz48_0 := blk_frozen BK423.out 0; have hfz48_1 := blk_frozen BK423.out 1; have hfz48_2 := blk_frozen BK423.out 2) | ((with_reducible refine gate_callee (f := 16) rfl ?_); refine goesL_ (some 40) rfl rfl Try.func16 (by kernel_rfl) rfl #[.agg #[.slice A2_0 l2_0.length c2_0, .slice A2_1 l2_1.length c2_1, .slice A2_2 l2_2.length c2_2]] rfl (by (try simp only [List.map_toArray, List.map_cons, List.map_nil]); first | done | rfl | (simp only [List.length_drop, List.length_take]; rfl)) ?_; (with_reducible refine (laws_toCost.calls k _ _ l2_0 _ _ l2_1 _ _ l2_2 t449 t452 t455 _ ?side1 ?side2 ?side3 ?side4 ?side5 ?side6 A21.out).mono ?_); (case side1 => repeat (first | exact (Kd.C_below HR2_0.out HB.out) | (with_reducible refine Kd.C_alloc ?_ _) | (with_reducible refine Kd.C_drewN ?_ _) | (with_reducible refine Kd.C_drew ?_))); (case side2 => exact HC2_0.out); (case side3 => repeat (first | exact (Kd.C_below HR2_1.out HB.out) | (with_reducible refine Kd.C_alloc ?_ _) | (with_reducible refine Kd.C_drewN ?_ _) | (with_reducible refine Kd.C_drew ?_))); (case side4 => exact HC2_1.out); (case side5 => repeat (first | exact (Kd.C_below HR2_2.out HB.out) | (with_reducible refine Kd.C_alloc ?_ _) | (with_reducible refine Kd.C_drewN ?_ _) | (with_reducible refine Kd.C_drew ?_))); (case side6 => exact HC2_2.out); rintro e w49 ⟨v450, v453, v456, rfl, ho0, ho1, ho2, hb⟩; refine ⟨_, rfl, ?_⟩; have n0_ := Aside0.mk (Kd.R_below (by (with_reducible repeat (first | apply Kd.R_alloc | apply Kd.R_drewN | apply Kd.R_drew)); exact HO429.out) hb); have n1_ := Aside0.mk (Kd.R_below (by (with_reducible repeat (first | apply Kd.R_alloc | apply Kd.R_drewN | apply Kd.R_drew)); exact HO432.out) hb); have n2_ := Aside0.mk (Kd.R_mono (Kd.R_told (Kd.R_told (Kd.R_told (Kd.R_old (by (with_reducible repeat (first | apply Kd.R_alloc | apply Kd.R_drewN | apply Kd.R_drew)); exact HO435.out) hb) (Kd.R_base ho0)) (Kd.R_base ho1)) (Kd.R_base ho2)) (fun _ h_ => h_.1)); have n3_ := Aside0.mk (Kd.R_mono (Kd.R_told (Kd.R_told (Kd.R_told (Kd.R_old (by (with_reducible repeat (first | apply Kd.R_alloc | apply Kd.R_drewN | apply Kd.R_drew)); exact HO438.out) hb) (Kd.R_base ho0)) (Kd.R_base ho1)) (Kd.R_base ho2)) (fun _ h_ => h_.1)); have n4_ := Aside0.mk (Kd.R_mono (Kd.R_told (Kd.R_told (Kd.R_told (Kd.R_old (by (with_reducible repeat (first | apply Kd.R_alloc | apply Kd.R_drewN | apply Kd.R_drew)); exact HO441.out) hb) (Kd.R_base ho0)) (Kd.R_base ho1)) (Kd.R_base ho2)) (fun _ h_ => h_.1)); have n5_ := Aside0.mk (Kd.R_below (by (with_reducible repeat (first | apply Kd.R_alloc | apply Kd.R_drewN | apply Kd.R_drew)); exact HO445.out) hb); have n6_ := Aside0.mk (Kd.R_below (by (with_reducible repeat (first | apply Kd.R_alloc | apply Kd.R_drewN | apply Kd.R_drew)); exact HO448.out) hb); have n7_ := Aside0.mk (Kd.R_lower (Kd.R_new' (Kd.R_new' (Kd.R_new' ho0 (Kd.R_lt (by (with_reducible repeat (first | apply Kd.R_alloc | apply Kd.R_drewN | apply Kd.R_drew)); exact HO435.out))) (Kd.R_lt (by (with_reducible repeat (first | apply Kd.R_alloc | apply Kd.R_drewN | apply Kd.R_drew)); exact HO438.out))) (Kd.R_lt (by (with_reducible repeat (first | apply Kd.R_alloc | apply Kd.R_drewN | apply Kd.R_drew)); exact HO441.out))) (below_size (by repeat (first | (with_reducible first | exact HB.out | apply below_alloc | apply pw_below_drewN | apply below_drew1 | refine below_set ?_ GE423.out) | exact HB.out)))); have n8_ := Aside0.mk (Kd.R_lower (Kd.R_new' (Kd.R_new' (Kd.R_new' ho1 (Kd.R_lt (by (with_reducible repeat (first | apply Kd.R_alloc | apply Kd.R_drewN | apply Kd.R_drew)); exact HO435.out))) (Kd.R_lt (by (with_reducible repeat (first | apply Kd.R_alloc | apply Kd.R_drewN | apply Kd.R_drew)); exact HO438.out))) (Kd.R_lt (by (with_reducible repeat (first | apply Kd.R_alloc | apply Kd.R_drewN | apply Kd.R_drew)); exact HO441.out))) (below_size (by repeat (first | (with_reducible first | exact HB.out | apply below_alloc | apply pw_below_drewN | apply below_drew1 | refine below_set ?_ GE423.out) | exact HB.out)))); have n9_ := Aside0.mk (Kd.R_lower (Kd.R_new' (Kd.R_new' (Kd.R_new' ho2 (Kd.R_lt (by (with_reducible repeat (first | apply Kd.R_alloc | apply Kd.R_drewN | apply Kd.R_drew)); exact HO435.out))) (Kd.R_lt (by (with_reducible repeat (first | apply Kd.R_alloc | apply Kd.R_drewN | apply Kd.R_drew)); exact HO438.out))) (Kd.R_lt (by (with_reducible repeat (first | apply Kd.R_alloc | apply Kd.R_drewN | apply Kd.R_drew)); exact HO441.out))) (below_size (by repeat (first | (with_reducible first | exact HB.out | apply below_alloc | apply pw_below_drewN | apply below_drew1 | refine below_set ?_ GE423.out) | exact HB.out)))); have n10_ := Aside0.mk (blk_below (g := gb423) (o := .cells #[.slice A2_0 l2_0.length c2_0, .slice A2_1 l2_1.length c2_1, .slice A2_2 l2_2.length c2_2] 25 (0, 0)) (by (with_reducible repeat (first | refine blk_drewN ?_ _ | refine blk_drew ?_ | refine blk_alloc ?_ _)); exact BK423.out) hb); have n11_ := Aside0.mk (below_step (by repeat (first | (with_reducible first | exact HB.out | apply below_alloc | apply pw_below_drewN | apply below_drew1 | refine below_set ?_ GE423.out) | exact HB.out)) hb); clear HO429; clear HO432; clear HO435; clear HO438; clear HO441; clear HO445; clear HO448; clear BK423; clear HB; have HO429 := n0_; have HO432 := n1_; have HO435 := n2_; have HO438 := n3_; have HO441 := n4_; have HO445 := n5_; have HO448 := n6_; have HO451 := n7_; have HO454 := n8_; have HO457 := n9_; have BK423 := n10_; have HB := n11_; clear n0_ n1_ n2_ n3_ n4_ n5_ n6_ n7_ n8_ n9_ n10_ n11_; (try clear hb); (try clear hb2); (try clear hk); (try clear hi); (try clear ho0); (try clear ho1); (try clear ho2)) | ((with_reducible refine gate_dst (N := 11) rfl ?_); refine box_event ?hg (N := 11) ?hd (cs := #[.slice none 0 0, .slice none 0 0, .slice none 0 0]) (t := 31) ?hr ?_; (case hd => rfl); (case hg => rfl); (case hr => first | (go_simp; done) | (go_simp; rfl)); intro gb458 hg w50 hbox hb; have n0_ := Aside0.mk (Kd.R_below (by (with_reducible repeat (first | apply Kd.R_alloc | apply Kd.R_drewN | apply Kd.R_drew)); exact HO429.out) hb); have n1_ := Aside0.mk (Kd.R_below (by (with_reducible repeat (first | apply Kd.R_alloc | apply Kd.R_drewN | apply Kd.R_drew)); exact HO432.out) hb); have n2_ := Aside0.mk (Kd.R_below (by (with_reducible repeat (first | apply Kd.R_alloc | apply Kd.R_drewN | apply Kd.R_drew)); exact HO435.out) hb); have n3_ := Aside0.mk (Kd.R_below (by (with_reducible repeat (first | apply Kd.R_alloc | apply Kd.R_drewN | apply Kd.R_drew)); exact HO438.out) hb); have n4_ := Aside0.mk (Kd.R_below (by (with_reducible repeat (first | apply Kd.R_alloc | apply Kd.R_drewN | apply Kd.R_drew)); exact HO441.out) hb); have n5_ := Aside0.mk (Kd.R_below (by (with_reducible repeat (first | apply Kd.R_alloc | apply Kd.R_drewN | apply Kd.R_drew)); exact HO445.out) hb); have n6_ := Aside0.mk (Kd.R_below (by (with_reducible repeat (first | apply Kd.R_alloc | apply Kd.R_drewN | apply Kd.R_drew)); exact HO448.out) hb); have n7_ := Aside0.mk (Kd.R_below (by (with_reducible repeat (first | apply Kd.R_alloc | apply Kd.R_drewN | apply Kd.R_drew)); exact HO451.out) hb); have n8_ := Aside0.mk (Kd.R_below (by (with_reducible repeat (first | apply Kd.R_alloc | apply Kd.R_drewN | apply Kd.R_drew)); exact HO454.out) hb); have n9_ := Aside0.mk (Kd.R_below (by (with_reducible repeat (first | apply Kd.R_alloc | apply Kd.R_drewN | apply Kd.R_drew)); exact HO457.out) hb); have n10_ := Aside0.mk (blk_below (g := gb423) (o := .cells #[.slice A2_0 l2_0.length c2_0, .slice A2_1 l2_1.length c2_1, .slice A2_2 l2_2.length c2_2] 25 (0, 0)) (by (with_reducible repeat (first | refine blk_drewN ?_ _ | refine blk_drew ?_ | refine blk_alloc ?_ _)); exact BK423.out) hb); have n11_ := Aside0.mk (below_step (by repeat (first | (with_reducible first | exact HB.out | apply below_alloc | apply pw_below_drewN | apply below_drew1 | refine below_set ?_ GE423.out) | exact HB.out)) hb); have n12_ := Aside0.mk (hbox); have n13_ := Aside0.mk ((by rw [hg]; exact (below_size (by repeat (first | (with_reducible first | exact HB.out | apply below_alloc | apply pw_below_drewN | apply below_drew1 | refine below_set ?_ GE423.out) | exact HB.out))) : w.heap.size ≤ gb458)); have n14_ := Aside0.mk ((by rw [hg]; exact (below_size (by repeat (first | (with_reducible first | exact HB.out | apply below_alloc | apply pw_below_drewN | apply below_drew1 | refine below_set ?_ GE423.out) | exact HB.out))) : w.heap.size ≤ gb458)); have n15_ := Aside0.mk ((by rw [hg]; exact Nat.ne_of_lt (blk_lt (g := gb423) (o := .cells #[.slice A2_0 l2_0.length c2_0, .slice A2_1 l2_1.length c2_1, .slice A2_2 l2_2.length c2_2] 25 (0, 0)) (by (with_reducible repeat (first | refine blk_drewN ?_ _ | refine blk_drew ?_ | refine blk_alloc ?_ _)); exact BK423.out)) : gb423 ≠ gb458)); have n16_ := Aside0.mk ((by rw [hg]; exact Nat.ne_of_gt (blk_lt (g := gb423) (o := .cells #[.slice A2_0 l2_0.length c2_0, .slice A2_1 l2_1.length c2_1, .slice A2_2 l2_2.length c2_2] 25 (0, 0)) (by (with_reducible repeat (first | refine blk_drewN ?_ _ | refine blk_drew ?_ | refine blk_alloc ?_ _)); exact BK423.out)) : gb458 ≠ gb423)); clear HO429; clear HO432; clear HO435; clear HO438; clear HO441; clear HO445; clear HO448; clear HO451; clear HO454; clear HO457; clear BK423; clear HB; have HO429 := n0_; have HO432 := n1_; have HO435 := n2_; have HO438 := n3_; have HO441 := n4_; have HO445 := n5_; have HO448 := n6_; have HO451 := n7_; have HO454 := n8_; have HO457 := n9_; have BK423 := n10_; have HB := n11_; have BK458 := n12_; have GW458 := n13_; have GE458 := n14_; have NB423_458 := n15_; have NB458_423 := n16_; clear n0_ n1_ n2_ n3_ n4_ n5_ n6_ n7_ n8_ n9_ n10_ n11_ n12_ n13_ n14_ n15_ n16_; clear hb hbox hg; obtain ⟨Ao51, co51, eo51⟩ := Kd.R_slice HO451.out; subst eo51; have hnb52 := NB458_423.out; have hnc52 := NB423_458.out; have hcz53_0 : w50.cell? ⟨gb458, 0, none⟩ = some (.slice none 0 0) := (blk_cell BK458.out 0).trans rfl; have hcz53_1 : w50.cell? ⟨gb458, 1, none⟩ = some (.slice none 0 0) := (blk_cell BK458.out 1).trans rfl; have hcz53_2 : w50.cell? ⟨gb458, 2, none⟩ = some (.slice none 0 0) := (blk_cell BK458.out 2).trans rfl; have hfz53_0 := blk_frozen BK458.out 0; have hfz53_1 := blk_frozen BK458.out 1; have hfz53_2 := blk_frozen BK458.out 2; obtain ⟨Ao54, co54, eo54⟩ := Kd.R_slice HO454.out; subst eo54; obtain ⟨Ao55, co55, eo55⟩ := Kd.R_slice HO457.out; subst eo55; obtain ⟨Ao56, co56, eo56⟩ := Kd.R_slice HO445.out; subst eo56; obtain ⟨Ao57, co57, eo57⟩ := Kd.R_slice HO448.out; subst eo57) | ((with_reducible refine gate_callee (f := 21) rfl ?_); refine goesL_ (some 44) rfl rfl Try.func21 (by kernel_rfl) rfl #[.slice Ao56 t443.length co56, .slice Ao57 t446.length co57, .agg #[.slice Ao51 t449.length co51, .slice Ao54 t452.length co54, .slice Ao55 t455.length co55]] rfl (by (try simp only [List.map_toArray, List.map_cons, List.map_nil]); first | done | rfl | (simp only [List.length_drop, List.length_take]; rfl)) ?_; (with_reducible refine (impl_SlowDist.calls k _ _ t443 _ _ t446 _ _ t449 _ _ t452 _ _ t455 t459 _ ?side1 ?side2 ?side3 ?side4 ?side5 ?side6 ?side7 ?side8 ?side9 ?side10 A22.out).mono ?_); (case side1 => refine (Kd.R_reads' (e := 53) (base := w.heap.size) (ok := fun k_ => (((True ∧ some k_ ≠ (.slice Ao40 t427.length co40 : Value).ownBlock) ∧ some k_ ≠ (.slice Ao41 t430.length co41 : Value).ownBlock) ∧ some k_ ≠ (.slice Ao57 t446.length co57 : Value).ownBlock)) (n := t443.length) (c := co56) ?_).2.2; exact (by (with_reducible repeat (first | apply Kd.R_alloc | apply Kd.R_drewN | apply Kd.R_drew)); exact (Kd.R_mono (Kd.R_far (p := ⟨gb458, 2, none⟩) (Kd.R_far (p := ⟨gb458, 1, none⟩) (Kd.R_far (p := ⟨gb458, 0, none⟩) (Kd.R_types HO445.out BK458.out (by decide)) (fun _ hk => hk.2) (.slice Ao51 t449.length co51)) (fun _ hk => hk.2) (.slice Ao54 t452.length co54)) (fun _ hk => hk.2) (.slice Ao55 t455.length co55)) (fun _ h_ => h_.1)))); (case side2 => exact (Kd.R_reads' HO445.out).2.1); (case side3 => refine (Kd.R_reads' (e := 53) (base := w.heap.size) (ok := fun k_ => (((True ∧ some k_ ≠ (.slice Ao40 t427.length co40 : Value).ownBlock) ∧ some k_ ≠ (.slice Ao41 t430.length co41 : Value).ownBlock) ∧ some k_ ≠ (.slice Ao56 t443.length co56 : Value).ownBlock)) (n := t446.length) (c := co57) ?_).2.2; exact (by (with_reducible repeat (first | apply Kd.R_alloc | apply Kd.R_drewN | apply Kd.R_drew)); exact (Kd.R_mono (Kd.R_far (p := ⟨gb458, 2, none⟩) (Kd.R_far (p := ⟨gb458, 1, none⟩) (Kd.R_far (p := ⟨gb458, 0, none⟩) (Kd.R_types HO448.out BK458.out (by decide)) (fun _ hk => hk.2) (.slice Ao51 t449.length co51)) (fun _ hk => hk.2) (.slice Ao54 t452.length co54)) (fun _ hk => hk.2) (.slice Ao55 t455.length co55)) (fun _ h_ => h_.1)))); (case side4 => exact (Kd.R_reads' HO448.out).2.1); (case side5 => refine (Kd.R_reads' (e := 3) (base := w.heap.size) (ok := fun k_ => ((((some k_ ≠ (.slice Ao54 t452.length co54 : Value).ownBlock ∧ some k_ ≠ (.slice Ao55 t455.length co55 : Value).ownBlock) ∧ some k_ ≠ (.slice Ao42 t433.length co42 : Value).ownBlock) ∧ some k_ ≠ (.slice Ao43 t436.length co43 : Value).ownBlock) ∧ some k_ ≠ (.slice Ao44 t439.length co44 : Value).ownBlock)) (n := t449.length) (c := co51) ?_).2.2; exact (by (with_reducible repeat (first | apply Kd.R_alloc | apply Kd.R_drewN | apply Kd.R_drew)); exact (Kd.R_mono (Kd.R_far (p := ⟨gb458, 2, none⟩) (Kd.R_far (p := ⟨gb458, 1, none⟩) (Kd.R_far (p := ⟨gb458, 0, none⟩) (Kd.R_types HO451.out BK458.out (by decide)) (fun _ hk => hk.2) (.slice Ao51 t449.length co51)) (fun _ hk => hk.2) (.slice Ao54 t452.length co54)) (fun _ hk => hk.2) (.slice Ao55 t455.length co55)) (fun _ h_ => h_.1)))); (case side6 => exact (Kd.R_reads' HO451.out).2.1); (case side7 => refine (Kd.R_reads' (e := 3) (base := w.heap.size) (ok := fun k_ => ((((some k_ ≠ (.slice Ao51 t449.length co51 : Value).ownBlock ∧ some k_ ≠ (.slice Ao55 t455.length co55 : Value).ownBlock) ∧ some k_ ≠ (.slice Ao42 t433.length co42 : Value).ownBlock) ∧ some k_ ≠ (.slice Ao43 t436.length co43 : Value).ownBlock) ∧ some k_ ≠ (.slice Ao44 t439.length co44 : Value).ownBlock)) (n := t452.length) (c := co54) ?_).2.2; exact (by (with_reducible repeat (first | apply Kd.R_alloc | apply Kd.R_drewN | apply Kd.R_drew)); exact (Kd.R_mono (Kd.R_far (p := ⟨gb458, 2, none⟩) (Kd.R_far (p := ⟨gb458, 1, none⟩) (Kd.R_far (p := ⟨gb458, 0, none⟩) (Kd.R_types HO454.out BK458.out (by decide)) (fun _ hk => hk.2) (.slice Ao51 t449.length co51)) (fun _ hk => hk.2) (.slice Ao54 t452.length co54)) (fun _ hk => hk.2) (.slice Ao55 t455.length co55)) (fun _ h_ => h_.1)))); (case side8 => exact (Kd.R_reads' HO454.out).2.1); (case side9 => refine (Kd.R_reads' (e := 3) (base := w.heap.size) (ok := fun k_ => ((((some k_ ≠ (.slice Ao51 t449.length co51 : Value).ownBlock ∧ some k_ ≠ (.slice Ao54 t452.length co54 : Value).ownBlock) ∧ some k_ ≠ (.slice Ao42 t433.length co42 : Value).ownBlock) ∧ some k_ ≠ (.slice Ao43 t436.length co43 : Value).ownBlock) ∧ some k_ ≠ (.slice Ao44 t439.length co44 : Value).ownBlock)) (n := t455.length) (c := co55) ?_).2.2; exact (by (with_reducible repeat (first | apply Kd.R_alloc | apply Kd.R_drewN | apply Kd.R_drew)); exact (Kd.R_mono (Kd.R_far (p := ⟨gb458, 2, none⟩) (Kd.R_far (p := ⟨gb458, 1, none⟩) (Kd.R_far (p := ⟨gb458, 0, none⟩) (Kd.R_types HO457.out BK458.out (by decide)) (fun _ hk => hk.2) (.slice Ao51 t449.length co51)) (fun _ hk => hk.2) (.slice Ao54 t452.length co54)) (fun _ hk => hk.2) (.slice Ao55 t455.length co55)) (fun _ h_ => h_.1)))); (case side10 => exact (Kd.R_reads' HO457.out).2.1); rintro e w58 ⟨rfl, hb⟩; refine ⟨_, rfl, ?_⟩; have n0_ := Aside0.mk (Kd.R_below (by (with_reducible repeat (first | apply Kd.R_alloc | apply Kd.R_drewN | apply Kd.R_drew)); exact (Kd.R_mono (Kd.R_far (p := ⟨gb458, 2, none⟩) (Kd.R_far (p := ⟨gb458, 1, none⟩) (Kd.R_far (p := ⟨gb458, 0, none⟩) (Kd.R_types HO429.out BK458.out (by decide)) (fun _ hk => hk.2) (.slice Ao51 t449.length co51)) (fun _ hk => hk.2) (.slice Ao54 t452.length co54)) (fun _ hk => hk.2) (.slice Ao55 t455.length co55)) (fun _ h_ => h_.1))) hb); have n1_ := Aside0.mk (Kd.R_below (by (with_reducible repeat (first | apply Kd.R_alloc | apply Kd.R_drewN | apply Kd.R_drew)); exact (Kd.R_mono (Kd.R_far (p := ⟨gb458, 2, none⟩) (Kd.R_far (p := ⟨gb458, 1, none⟩) (Kd.R_far (p := ⟨gb458, 0, none⟩) (Kd.R_types HO432.out BK458.out (by decide)) (fun _ hk => hk.2) (.slice Ao51 t449.length co51)) (fun _ hk => hk.2) (.slice Ao54 t452.length co54)) (fun _ hk => hk.2) (.slice Ao55 t455.length co55)) (fun _ h_ => h_.1))) hb); have n2_ := Aside0.mk (Kd.R_below (by (with_reducible repeat (first | apply Kd.R_alloc | apply Kd.R_drewN | apply Kd.R_drew)); exact (Kd.R_mono (Kd.R_far (p := ⟨gb458, 2, none⟩) (Kd.R_far (p := ⟨gb458, 1, none⟩) (Kd.R_far (p := ⟨gb458, 0, none⟩) (Kd.R_types HO435.out BK458.out (by decide)) (fun _ hk => hk.2) (.slice Ao51 t449.length co51)) (fun _ hk => hk.2) (.slice Ao54 t452.length co54)) (fun _ hk => hk.2) (.slice Ao55 t455.length co55)) (fun _ h_ => h_.1))) hb); have n3_ := Aside0.mk (Kd.R_below (by (with_reducible repeat (first | apply Kd.R_alloc | apply Kd.R_drewN | apply Kd.R_drew)); exact (Kd.R_mono (Kd.R_far (p := ⟨gb458, 2, none⟩) (Kd.R_far (p := ⟨gb458, 1, none⟩) (Kd.R_far (p := ⟨gb458, 0, none⟩) (Kd.R_types HO438.out BK458.out (by decide)) (fun _ hk => hk.2) (.slice Ao51 t449.length co51)) (fun _ hk => hk.2) (.slice Ao54 t452.length co54)) (fun _ hk => hk.2) (.slice Ao55 t455.length co55)) (fun _ h_ => h_.1))) hb); have n4_ := Aside0.mk (Kd.R_below (by (with_reducible repeat (first | apply Kd.R_alloc | apply Kd.R_drewN | apply Kd.R_drew)); exact (Kd.R_mono (Kd.R_far (p := ⟨gb458, 2, none⟩) (Kd.R_far (p := ⟨gb458, 1, none⟩) (Kd.R_far (p := ⟨gb458, 0, none⟩) (Kd.R_types HO441.out BK458.out (by decide)) (fun _ hk => hk.2) (.slice Ao51 t449.length co51)) (fun _ hk => hk.2) (.slice Ao54 t452.length co54)) (fun _ hk => hk.2) (.slice Ao55 t455.length co55)) (fun _ h_ => h_.1))) hb); have n5_ := Aside0.mk (Kd.R_below (by (with_reducible repeat (first | apply Kd.R_alloc | apply Kd.R_drewN | apply Kd.R_drew)); exact (Kd.R_mono (Kd.R_far (p := ⟨gb458, 2, none⟩) (Kd.R_far (p := ⟨gb458, 1, none⟩) (Kd.R_far (p := ⟨gb458, 0, none⟩) (Kd.R_types HO445.out BK458.out (by decide)) (fun _ hk => hk.2) (.slice Ao51 t449.length co51)) (fun _ hk => hk.2) (.slice Ao54 t452.length co54)) (fun _ hk => hk.2) (.slice Ao55 t455.length co55)) (fun _ h_ => h_.1))) hb); have n6_ := Aside0.mk (Kd.R_below (by (with_reducible repeat (first | apply Kd.R_alloc | apply Kd.R_drewN | apply Kd.R_drew)); exact (Kd.R_mono (Kd.R_far (p := ⟨gb458, 2, none⟩) (Kd.R_far (p := ⟨gb458, 1, none⟩) (Kd.R_far (p := ⟨gb458, 0, none⟩) (Kd.R_types HO448.out BK458.out (by decide)) (fun _ hk => hk.2) (.slice Ao51 t449.length co51)) (fun _ hk => hk.2) (.slice Ao54 t452.length co54)) (fun _ hk => hk.2) (.slice Ao55 t455.length co55)) (fun _ h_ => h_.1))) hb); have n7_ := Aside0.mk (Kd.R_below (by (with_reducible repeat (first | apply Kd.R_alloc | apply Kd.R_drewN | apply Kd.R_drew)); exact (Kd.R_mono (Kd.R_far (p := ⟨gb458, 2, none⟩) (Kd.R_far (p := ⟨gb458, 1, none⟩) (Kd.R_far (p := ⟨gb458, 0, none⟩) (Kd.R_types HO451.out BK458.out (by decide)) (fun _ hk => hk.2) (.slice Ao51 t449.length co51)) (fun _ hk => hk.2) (.slice Ao54 t452.length co54)) (fun _ hk => hk.2) (.slice Ao55 t455.length co55)) (fun _ h_ => h_.1))) hb); have n8_ := Aside0.mk (Kd.R_below (by (with_reducible repeat (first | apply Kd.R_alloc | apply Kd.R_drewN | apply Kd.R_drew)); exact (Kd.R_mono (Kd.R_far (p := ⟨gb458, 2, none⟩) (Kd.R_far (p := ⟨gb458, 1, none⟩) (Kd.R_far (p := ⟨gb458, 0, none⟩) (Kd.R_types HO454.out BK458.out (by decide)) (fun _ hk => hk.2) (.slice Ao51 t449.length co51)) (fun _ hk => hk.2) (.slice Ao54 t452.length co54)) (fun _ hk => hk.2) (.slice Ao55 t455.length co55)) (fun _ h_ => h_.1))) hb); have n9_ := Aside0.mk (Kd.R_below (by (with_reducible repeat (first | apply Kd.R_alloc | apply Kd.R_drewN | apply Kd.R_drew)); exact (Kd.R_mono (Kd.R_far (p := ⟨gb458, 2, none⟩) (Kd.R_far (p := ⟨gb458, 1, none⟩) (Kd.R_far (p := ⟨gb458, 0, none⟩) (Kd.R_types HO457.out BK458.out (by decide)) (fun _ hk => hk.2) (.slice Ao51 t449.length co51)) (fun _ hk => hk.2) (.slice Ao54 t452.length co54)) (fun _ hk => hk.2) (.slice Ao55 t455.length co55)) (fun _ h_ => h_.1))) hb); have n10_ := Aside0.mk (blk_below (g := gb423) (o := .cells #[.slice A2_0 l2_0.length c2_0, .slice A2_1 l2_1.length c2_1, .slice A2_2 l2_2.length c2_2] 25 (0, 0)) (by (with_reducible repeat (first | refine blk_drewN ?_ _ | refine blk_drew ?_ | refine blk_alloc ?_ _)); refine blk_far ?_ NB423_458.out _; (with_reducible repeat (first | refine blk_drewN ?_ _ | refine blk_drew ?_ | refine blk_alloc ?_ _)); refine blk_far ?_ NB423_458.out _; (with_reducible repeat (first | refine blk_drewN ?_ _ | refine blk_drew ?_ | refine blk_alloc ?_ _)); refine blk_far ?_ NB423_458.out _; (with_reducible repeat (first | refine blk_drewN ?_ _ | refine blk_drew ?_ | refine blk_alloc ?_ _)); exact BK423.out) hb); have n11_ := Aside0.mk (blk_below (g := gb458) (o := .cells #[.slice Ao51 t449.length co51, .slice Ao54 t452.length co54, .slice Ao55 t455.length co55] 31 (0, 0)) (by (with_reducible repeat (first | refine blk_drewN ?_ _ | refine blk_drew ?_ | refine blk_alloc ?_ _)); refine blk_put (cs := #[.slice Ao51 t449.length co51, .slice Ao54 t452.length co54, .slice none 0 0]) ?_ 2 _ rfl; (with_reducible repeat (first | refine blk_drewN ?_ _ | refine blk_drew ?_ | refine blk_alloc ?_ _)); refine blk_put (cs := #[.slice Ao51 t449.length co51, .slice none 0 0, .slice none 0 0]) ?_ 1 _ rfl; (with_reducible repeat (first | refine blk_drewN ?_ _ | refine blk_drew ?_ | refine blk_alloc ?_ _)); refine blk_put (cs := #[.slice none 0 0, .slice none 0 0, .slice none 0 0]) ?_ 0 _ rfl; (with_reducible repeat (first | refine blk_drewN ?_ _ | refine blk_drew ?_ | refine blk_alloc ?_ _)); exact BK458.out) hb); have n12_ := Aside0.mk (below_step (by repeat (first | (with_reducible first | exact HB.out | apply below_alloc | apply pw_below_drewN | apply below_drew1 | refine below_set ?_ GE423.out | refine below_set ?_ GE458.out) | exact HB.out)) hb); clear HO429; clear HO432; clear HO435; clear HO438; clear HO441; clear HO445; clear HO448; clear HO451; clear HO454; clear HO457; clear BK423; clear BK458; clear HB; have HO429 := n0_; have HO432 := n1_; have HO435 := n2_; have HO438 := n3_; have HO441 := n4_; have HO445 := n5_; have HO448 := n6_; have HO451 := n7_; have HO454 := n8_; have HO457 := n9_; have BK423 := n10_; have BK458 := n11_; have HB := n12_; clear n0_ n1_ n2_ n3_ n4_ n5_ n6_ n7_ n8_ n9_ n10_ n11_ n12_; (try clear hb); (try clear hb2); (try clear hk); (try clear hi)) | ((with_reducible refine gate_callee (f := 15) rfl ?_); refine goesL_ (some 50) rfl rfl Try.func15 (by kernel_rfl) rfl #[.slice A0 l0.length c0] rfl (by (try simp only [List.map_toArray, List.map_cons, List.map_nil]); first | done | rfl | (simp only [List.length_drop, List.length_take]; rfl)) ?_; (with_reducible refine (laws_toNodeS.calls k _ _ l0 t460 _ ?side1 ?side2 A24.out).mono ?_); (case side1 => repeat (first | exact (Kd.C_below HR0.out HB.out) | (with_reducible refine Kd.C_alloc ?_ _) | (with_reducible refine Kd.C_drewN ?_ _) | (with_reducible refine Kd.C_drew ?_))); (case side2 => exact HC0.out); rintro e w59 ⟨v461, rfl, ho0, hb⟩; refine ⟨_, rfl, ?_⟩; have n0_ := Aside0.mk (Kd.R_elder' (by (with_reducible repeat (first | apply Kd.R_alloc | apply Kd.R_drewN | apply Kd.R_drew)); exact HO429.out) (Kd.R_base ho0) hb); have n1_ := Aside0.mk (Kd.R_elder' (by (with_reducible repeat (first | apply Kd.R_alloc | apply Kd.R_drewN | apply Kd.R_drew)); exact HO432.out) (Kd.R_base ho0) hb); have n2_ := Aside0.mk (Kd.R_below (by (with_reducible repeat (first | apply Kd.R_alloc | apply Kd.R_drewN | apply Kd.R_drew)); exact HO435.out) hb); have n3_ := Aside0.mk (Kd.R_below (by (with_reducible repeat (first | apply Kd.R_alloc | apply Kd.R_drewN | apply Kd.R_drew)); exact HO438.out) hb); have n4_ := Aside0.mk (Kd.R_below (by (with_reducible repeat (first | apply Kd.R_alloc | apply Kd.R_drewN | apply Kd.R_drew)); exact HO441.out) hb); have n5_ := Aside0.mk (Kd.R_elder' (by (with_reducible repeat (first | apply Kd.R_alloc | apply Kd.R_drewN | apply Kd.R_drew)); exact HO445.out) (Kd.R_base ho0) hb); have n6_ := Aside0.mk (Kd.R_elder' (by (with_reducible repeat (first | apply Kd.R_alloc | apply Kd.R_drewN | apply Kd.R_drew)); exact HO448.out) (Kd.R_base ho0) hb); have n7_ := Aside0.mk (Kd.R_below (by (with_reducible repeat (first | apply Kd.R_alloc | apply Kd.R_drewN | apply Kd.R_drew)); exact HO451.out) hb); have n8_ := Aside0.mk (Kd.R_below (by (with_reducible repeat (first | apply Kd.R_alloc | apply Kd.R_drewN | apply Kd.R_drew)); exact HO454.out) hb); have n9_ := Aside0.mk (Kd.R_below (by (with_reducible repeat (first | apply Kd.R_alloc | apply Kd.R_drewN | apply Kd.R_drew)); exact HO457.out) hb); have n10_ := Aside0.mk (Kd.R_lower (Kd.R_new' (Kd.R_new' (Kd.R_new' (Kd.R_new' ho0 (Kd.R_lt (by (with_reducible repeat (first | apply Kd.R_alloc | apply Kd.R_drewN | apply Kd.R_drew)); exact HO429.out))) (Kd.R_lt (by (with_reducible repeat (first | apply Kd.R_alloc | apply Kd.R_drewN | apply Kd.R_drew)); exact HO432.out))) (Kd.R_lt (by (with_reducible repeat (first | apply Kd.R_alloc | apply Kd.R_drewN | apply Kd.R_drew)); exact HO445.out))) (Kd.R_lt (by (with_reducible repeat (first | apply Kd.R_alloc | apply Kd.R_drewN | apply Kd.R_drew)); exact HO448.out))) (below_size (by repeat (first | (with_reducible first | exact HB.out | apply below_alloc | apply pw_below_drewN | apply below_drew1 | refine below_set ?_ GE423.out | refine below_set ?_ GE458.out) | exact HB.out)))); have n11_ := Aside0.mk (blk_below (g := gb423) (o := .cells #[.slice A2_0 l2_0.length c2_0, .slice A2_1 l2_1.length c2_1, .slice A2_2 l2_2.length c2_2] 25 (0, 0)) (by (with_reducible repeat (first | refine blk_drewN ?_ _ | refine blk_drew ?_ | refine blk_alloc ?_ _)); exact BK423.out) hb); have n12_ := Aside0.mk (blk_below (g := gb458) (o := .cells #[.slice Ao51 t449.length co51, .slice Ao54 t452.length co54, .slice Ao55 t455.length co55] 31 (0, 0)) (by (with_reducible repeat (first | refine blk_drewN ?_ _ | refine blk_drew ?_ | refine blk_alloc ?_ _)); exact BK458.out) hb); have n13_ := Aside0.mk (below_step (by repeat (first | (with_reducible first | exact HB.out | apply below_alloc | apply pw_below_drewN | apply below_drew1 | refine below_set ?_ GE423.out | refine below_set ?_ GE458.out) | exact HB.out)) hb); clear HO429; clear HO432; clear HO435; clear HO438; clear HO441; clear HO445; clear HO448; clear HO451; clear HO454; clear HO457; clear BK423; clear BK458; clear HB; have HO429 := n0_; have HO432 := n1_; have HO435 := n2_; have HO438 := n3_; have HO441 := n4_; have HO445 := n5_; have HO448 := n6_; have HO451 := n7_; have HO454 := n8_; have HO457 := n9_; have HO462 := n10_; have BK423 := n11_; have BK458 := n12_; have HB := n13_; clear n0_ n1_ n2_ n3_ n4_ n5_ n6_ n7_ n8_ n9_ n10_ n11_ n12_ n13_; (try clear hb); (try clear hb2); (try clear hk); (try clear hi); (try clear ho0); obtain ⟨Ao60, co60, eo60⟩ := Kd.R_slice HO462.out; subst eo60) | ((with_reducible refine gate_callee (f := 18) rfl ?_); refine goesL_ (some 51) rfl rfl Try.func18 (by kernel_rfl) rfl #[.slice Ao56 t443.length co56, .slice Ao60 t460.length co60] rfl (by (try simp only [List.map_toArray, List.map_cons, List.map_nil]); first | done | rfl | (simp only [List.length_drop, List.length_take]; rfl)) ?_; (with_reducible refine (laws_eqNodeS.calls k _ _ t443 _ _ t460 true _ ?side1 ?side2 ?side3 ?side4 A25.out).mono ?_); (case side1 => repeat (first | exact (Kd.R_reads' HO445.out).2.2 | (with_reducible refine Kd.C_alloc ?_ _) | (with_reducible refine Kd.C_drewN ?_ _) | (with_reducible refine Kd.C_drew ?_))); (case side2 => exact (Kd.R_reads' HO445.out).2.1); (case side3 => repeat (first | exact (Kd.R_reads' HO462.out).2.2 | (with_reducible refine Kd.C_alloc ?_ _) | (with_reducible refine Kd.C_drewN ?_ _) | (with_reducible refine Kd.C_drew ?_))); (case side4 => exact (Kd.R_reads' HO462.out).2.1); rintro e w61 ⟨rfl, hb⟩; refine ⟨_, rfl, ?_⟩; have n0_ := Aside0.mk (Kd.R_below (by (with_reducible repeat (first | apply Kd.R_alloc | apply Kd.R_drewN | apply Kd.R_drew)); exact HO429.out) hb); have n1_ := Aside0.mk (Kd.R_below (by (with_reducible repeat (first | apply Kd.R_alloc | apply Kd.R_drewN | apply Kd.R_drew)); exact HO432.out) hb); have n2_ := Aside0.mk (Kd.R_below (by (with_reducible repeat (first | apply Kd.R_alloc | apply Kd.R_drewN | apply Kd.R_drew)); exact HO435.out) hb); have n3_ := Aside0.mk (Kd.R_below (by (with_reducible repeat (first | apply Kd.R_alloc | apply Kd.R_drewN | apply Kd.R_drew)); exact HO438.out) hb); have n4_ := Aside0.mk (Kd.R_below (by (with_reducible repeat (first | apply Kd.R_alloc | apply Kd.R_drewN | apply Kd.R_drew)); exact HO441.out) hb); have n5_ := Aside0.mk (Kd.R_below (by (with_reducible repeat (first | apply Kd.R_alloc | apply Kd.R_drewN | apply Kd.R_drew)); exact HO445.out) hb); have n6_ := Aside0.mk (Kd.R_below (by (with_reducible repeat (first | apply Kd.R_alloc | apply Kd.R_drewN | apply Kd.R_drew)); exact HO448.out) hb); have n7_ := Aside0.mk (Kd.R_below (by (with_reducible repeat (first | apply Kd.R_alloc | apply Kd.R_drewN | apply Kd.R_drew)); exact HO451.out) hb); have n8_ := Aside0.mk (Kd.R_below (by (with_reducible repeat (first | apply Kd.R_alloc | apply Kd.R_drewN | apply Kd.R_drew)); exact HO454.out) hb); have n9_ := Aside0.mk (Kd.R_below (by (with_reducible repeat (first | apply Kd.R_alloc | apply Kd.R_drewN | apply Kd.R_drew)); exact HO457.out) hb); have n10_ := Aside0.mk (Kd.R_below (by (with_reducible repeat (first | apply Kd.R_alloc | apply Kd.R_drewN | apply Kd.R_drew)); exact HO462.out) hb); have n11_ := Aside0.mk (blk_below (g := gb423) (o := .cells #[.slice A2_0 l2_0.length c2_0, .slice A2_1 l2_1.length c2_1, .slice A2_2 l2_2.length c2_2] 25 (0, 0)) (by (with_reducible repeat (first | refine blk_drewN ?_ _ | refine blk_drew ?_ | refine blk_alloc ?_ _)); exact BK423.out) hb); have n12_ := Aside0.mk (blk_below (g := gb458) (o := .cells #[.slice Ao51 t449.length co51, .slice Ao54 t452.length co54, .slice Ao55 t455.length co55] 31 (0, 0)) (by (with_reducible repeat (first | refine blk_drewN ?_ _ | refine blk_drew ?_ | refine blk_alloc ?_ _)); exact BK458.out) hb); have n13_ := Aside0.mk (below_step (by repeat (first | (with_reducible first | exact HB.out | apply below_alloc | apply pw_below_drewN | apply below_drew1 | refine below_set ?_ GE423.out | refine below_set ?_ GE458.out) | exact HB.out)) hb); clear HO429; clear HO432; clear HO435; clear HO438; clear HO441; clear HO445; clear HO448; clear HO451; clear HO454; clear HO457; clear HO462; clear BK423; clear BK458; clear HB; have HO429 := n0_; have HO432 := n1_; have HO435 := n2_; have HO438 := n3_; have HO441 := n4_; have HO445 := n5_; have HO448 := n6_; have HO451 := n7_; have HO454 := n8_; have HO457 := n9_; have HO462 := n10_; have BK423 := n11_; have BK458 := n12_; have HB := n13_; clear n0_ n1_ n2_ n3_ n4_ n5_ n6_ n7_ n8_ n9_ n10_ n11_ n12_ n13_; (try clear hb); (try clear hb2); (try clear hk); (try clear hi)) | ((with_reducible refine gate_callee (f := 15) rfl ?_); refine goesL_ (some 55) rfl rfl Try.func15 (by kernel_rfl) rfl #[.slice A1 l1.length c1] rfl (by (try simp only [List.map_toArray, List.map_cons, List.map_nil]); first | done | rfl | (simp only [List.length_drop, List.length_take]; rfl)) ?_; (with_reducible refine (laws_toNodeS.calls k _ _ l1 t464 _ ?side1 ?side2 A27.out).mono ?_); (case side1 => repeat (first | exact (Kd.C_below HR1.out HB.out) | (with_reducible refine Kd.C_alloc ?_ _) | (with_reducible refine Kd.C_drewN ?_ _) | (with_reducible refine Kd.C_drew ?_))); (case side2 => exact HC1.out); rintro e w62 ⟨v465, rfl, ho0, hb⟩; refine ⟨_, rfl, ?_⟩; have n0_ := Aside0.mk (Kd.R_elder' (by (with_reducible repeat (first | apply Kd.R_alloc | apply Kd.R_drewN | apply Kd.R_drew)); exact HO429.out) (Kd.R_base ho0) hb); have n1_ := Aside0.mk (Kd.R_elder' (by (with_reducible repeat (first | apply Kd.R_alloc | apply Kd.R_drewN | apply Kd.R_drew)); exact HO432.out) (Kd.R_base ho0) hb); have n2_ := Aside0.mk (Kd.R_below (by (with_reducible repeat (first | apply Kd.R_alloc | apply Kd.R_drewN | apply Kd.R_drew)); exact HO435.out) hb); have n3_ := Aside0.mk (Kd.R_below (by (with_reducible repeat (first | apply Kd.R_alloc | apply Kd.R_drewN | apply Kd.R_drew)); exact HO438.out) hb); have n4_ := Aside0.mk (Kd.R_below (by (with_reducible repeat (first | apply Kd.R_alloc | apply Kd.R_drewN | apply Kd.R_drew)); exact HO441.out) hb); have n5_ := Aside0.mk (Kd.R_elder' (by (with_reducible repeat (first | apply Kd.R_alloc | apply Kd.R_drewN | apply Kd.R_drew)); exact HO445.out) (Kd.R_base ho0) hb); have n6_ := Aside0.mk (Kd.R_elder' (by (with_reducible repeat (first | apply Kd.R_alloc | apply Kd.R_drewN | apply Kd.R_drew)); exact HO448.out) (Kd.R_base ho0) hb); have n7_ := Aside0.mk (Kd.R_below (by (with_reducible repeat (first | apply Kd.R_alloc | apply Kd.R_drewN | apply Kd.R_drew)); exact HO451.out) hb); have n8_ := Aside0.mk (Kd.R_below (by (with_reducible repeat (first | apply Kd.R_alloc | apply Kd.R_drewN | apply Kd.R_drew)); exact HO454.out) hb); have n9_ := Aside0.mk (Kd.R_below (by (with_reducible repeat (first | apply Kd.R_alloc | apply Kd.R_drewN | apply Kd.R_drew)); exact HO457.out) hb); have n10_ := Aside0.mk (Kd.R_elder' (by (with_reducible repeat (first | apply Kd.R_alloc | apply Kd.R_drewN | apply Kd.R_drew)); exact HO462.out) (Kd.R_base ho0) hb); have n11_ := Aside0.mk (Kd.R_lower (Kd.R_new' (Kd.R_new' (Kd.R_new' (Kd.R_new' (Kd.R_new' ho0 (Kd.R_lt (by (with_reducible repeat (first | apply Kd.R_alloc | apply Kd.R_drewN | apply Kd.R_drew)); exact HO429.out))) (Kd.R_lt (by (with_reducible repeat (first | apply Kd.R_alloc | apply Kd.R_drewN | apply Kd.R_drew)); exact HO432.out))) (Kd.R_lt (by (with_reducible repeat (first | apply Kd.R_alloc | apply Kd.R_drewN | apply Kd.R_drew)); exact HO445.out))) (Kd.R_lt (by (with_reducible repeat (first | apply Kd.R_alloc | apply Kd.R_drewN | apply Kd.R_drew)); exact HO448.out))) (Kd.R_lt (by (with_reducible repeat (first | apply Kd.R_alloc | apply Kd.R_drewN | apply Kd.R_drew)); exact HO462.out))) (below_size (by repeat (first | (with_reducible first | exact HB.out | apply below_alloc | apply pw_below_drewN | apply below_drew1 | refine below_set ?_ GE423.out | refine below_set ?_ GE458.out) | exact HB.out)))); have n12_ := Aside0.mk (blk_below (g := gb423) (o := .cells #[.slice A2_0 l2_0.length c2_0, .slice A2_1 l2_1.length c2_1, .slice A2_2 l2_2.length c2_2] 25 (0, 0)) (by (with_reducible repeat (first | refine blk_drewN ?_ _ | refine blk_drew ?_ | refine blk_alloc ?_ _)); exact BK423.out) hb); have n13_ := Aside0.mk (blk_below (g := gb458) (o := .cells #[.slice Ao51 t449.length co51, .slice Ao54 t452.length co54, .slice Ao55 t455.length co55] 31 (0, 0)) (by (with_reducible repeat (first | refine blk_drewN ?_ _ | refine blk_drew ?_ | refine blk_alloc ?_ _)); exact BK458.out) hb); have n14_ := Aside0.mk (below_step (by repeat (first | (with_reducible first | exact HB.out | apply below_alloc | apply pw_below_drewN | apply below_drew1 | refine below_set ?_ GE423.out | refine below_set ?_ GE458.out) | exact HB.out)) hb); clear HO429; clear HO432; clear HO435; clear HO438; clear HO441; clear HO445; clear HO448; clear HO451; clear HO454; clear HO457; clear HO462; clear BK423; clear BK458; clear HB; have HO429 := n0_; have HO432 := n1_; have HO435 := n2_; have HO438 := n3_; have HO441 := n4_; have HO445 := n5_; have HO448 := n6_; have HO451 := n7_; have HO454 := n8_; have HO457 := n9_; have HO462 := n10_; have HO466 := n11_; have BK423 := n12_; have BK458 := n13_; have HB := n14_; clear n0_ n1_ n2_ n3_ n4_ n5_ n6_ n7_ n8_ n9_ n10_ n11_ n12_ n13_ n14_; (try clear hb); (try clear hb2); (try clear hk); (try clear hi); (try clear ho0); obtain ⟨Ao63, co63, eo63⟩ := Kd.R_slice HO466.out; subst eo63) | ((with_reducible refine gate_callee (f := 18) rfl ?_); refine goesL_ (some 56) rfl rfl Try.func18 (by kernel_rfl) rfl #[.slice Ao57 t446.length co57, .slice Ao63 t464.length co63] rfl (by (try simp only [List.map_toArray, List.map_cons, List.map_nil]); first | done | rfl | (simp only [List.length_drop, List.length_take]; rfl)) ?_; (with_reducible refine (laws_eqNodeS.calls k _ _ t446 _ _ t464 true _ ?side1 ?side2 ?side3 ?side4 A28.out).mono ?_); (case side1 => repeat (first | exact (Kd.R_reads' HO448.out).2.2 | (with_reducible refine Kd.C_alloc ?_ _) | (with_reducible refine Kd.C_drewN ?_ _) | (with_reducible refine Kd.C_drew ?_))); (case side2 => exact (Kd.R_reads' HO448.out).2.1); (case side3 => repeat (first | exact (Kd.R_reads' HO466.out).2.2 | (with_reducible refine Kd.C_alloc ?_ _) | (with_reducible refine Kd.C_drewN ?_ _) | (with_reducible refine Kd.C_drew ?_))); (case side4 => exact (Kd.R_reads' HO466.out).2.1); rintro e w64 ⟨rfl, hb⟩; refine ⟨_, rfl, ?_⟩; have n0_ := Aside0.mk (Kd.R_below (by (with_reducible repeat (first | apply Kd.R_alloc | apply Kd.R_drewN | apply Kd.R_drew)); exact HO429.out) hb); have n1_ := Aside0.mk (Kd.R_below (by (with_reducible repeat (first | apply Kd.R_alloc | apply Kd.R_drewN | apply Kd.R_drew)); exact HO432.out) hb); have n2_ := Aside0.mk (Kd.R_below (by (with_reducible repeat (first | apply Kd.R_alloc | apply Kd.R_drewN | apply Kd.R_drew)); exact HO435.out) hb); have n3_ := Aside0.mk (Kd.R_below (by (with_reducible repeat (first | apply Kd.R_alloc | apply Kd.R_drewN | apply Kd.R_drew)); exact HO438.out) hb); have n4_ := Aside0.mk (Kd.R_below (by (with_reducible repeat (first | apply Kd.R_alloc | apply Kd.R_drewN | apply Kd.R_drew)); exact HO441.out) hb); have n5_ := Aside0.mk (Kd.R_below (by (with_reducible repeat (first | apply Kd.R_alloc | apply Kd.R_drewN | apply Kd.R_drew)); exact HO445.out) hb); have n6_ := Aside0.mk (Kd.R_below (by (with_reducible repeat (first | apply Kd.R_alloc | apply Kd.R_drewN | apply Kd.R_drew)); exact HO448.out) hb); have n7_ := Aside0.mk (Kd.R_below (by (with_reducible repeat (first | apply Kd.R_alloc | apply Kd.R_drewN | apply Kd.R_drew)); exact HO451.out) hb); have n8_ := Aside0.mk (Kd.R_below (by (with_reducible repeat (first | apply Kd.R_alloc | apply Kd.R_drewN | apply Kd.R_drew)); exact HO454.out) hb); have n9_ := Aside0.mk (Kd.R_below (by (with_reducible repeat (first | apply Kd.R_alloc | apply Kd.R_drewN | apply Kd.R_drew)); exact HO457.out) hb); have n10_ := Aside0.mk (Kd.R_below (by (with_reducible repeat (first | apply Kd.R_alloc | apply Kd.R_drewN | apply Kd.R_drew)); exact HO462.out) hb); have n11_ := Aside0.mk (Kd.R_below (by (with_reducible repeat (first | apply Kd.R_alloc | apply Kd.R_drewN | apply Kd.R_drew)); exact HO466.out) hb); have n12_ := Aside0.mk (blk_below (g := gb423) (o := .cells #[.slice A2_0 l2_0.length c2_0, .slice A2_1 l2_1.length c2_1, .slice A2_2 l2_2.length c2_2] 25 (0, 0)) (by (with_reducible repeat (first | refine blk_drewN ?_ _ | refine blk_drew ?_ | refine blk_alloc ?_ _)); exact BK423.out) hb); have n13_ := Aside0.mk (blk_below (g := gb458) (o := .cells #[.slice Ao51 t449.length co51, .slice Ao54 t452.length co54, .slice Ao55 t455.length co55] 31 (0, 0)) (by (with_reducible repeat (first | refine blk_drewN ?_ _ | refine blk_drew ?_ | refine blk_alloc ?_ _)); exact BK458.out) hb); have n14_ := Aside0.mk (below_step (by repeat (first | (with_reducible first | exact HB.out | apply below_alloc | apply pw_below_drewN | apply below_drew1 | refine below_set ?_ GE423.out | refine below_set ?_ GE458.out) | exact HB.out)) hb); clear HO429; clear HO432; clear HO435; clear HO438; clear HO441; clear HO445; clear HO448; clear HO451; clear HO454; clear HO457; clear HO462; clear HO466; clear BK423; clear BK458; clear HB; have HO429 := n0_; have HO432 := n1_; have HO435 := n2_; have HO438 := n3_; have HO441 := n4_; have HO445 := n5_; have HO448 := n6_; have HO451 := n7_; have HO454 := n8_; have HO457 := n9_; have HO462 := n10_; have HO466 := n11_; have BK423 := n12_; have BK458 := n13_; have HB := n14_; clear n0_ n1_ n2_ n3_ n4_ n5_ n6_ n7_ n8_ n9_ n10_ n11_ n12_ n13_ n14_; (try clear hb); (try clear hb2); (try clear hk); (try clear hi)))
        have n0_ := Aside0.mk (Kd.R_drew HO429.out)
        have n1_ := Aside0.mk (Kd.R_drew HO432.out)
        have n2_ := Aside0.mk (Kd.R_drew HO435.out)
        have n3_ := Aside0.mk (Kd.R_drew HO438.out)
        have n4_ := Aside0.mk (Kd.R_drew HO441.out)
        have n5_ := Aside0.mk (Kd.R_drew HO445.out)
        have n6_ := Aside0.mk (Kd.R_drew HO448.out)
        have n7_ := Aside0.mk (Kd.R_drew HO451.out)
        have n8_ := Aside0.mk (Kd.R_drew HO454.out)
        have n9_ := Aside0.mk (Kd.R_drew HO457.out)
        have n10_ := Aside0.mk (Kd.R_drew HO462.out)
        have n11_ := Aside0.mk (Kd.R_drew HO466.out)
        have n12_ := Aside0.mk (blk_drew BK423.out)
        have n13_ := Aside0.mk (blk_drew BK458.out)
        have n14_ := Aside0.mk (below_drew1 HB.out)
        clear HO429
        clear HO432
        clear HO435
        clear HO438
        clear HO441
        clear HO445
        clear HO448
        clear HO451
        clear HO454
        clear HO457
        clear HO462
        clear HO466
        clear BK423
        clear BK458
        clear HB
        have HO429 := n0_
        have HO432 := n1_
        have HO435 := n2_
        have HO438 := n3_
        have HO441 := n4_
        have HO445 := n5_
        have HO448 := n6_
        have HO451 := n7_
        have HO454 := n8_
        have HO457 := n9_
        have HO462 := n10_
        have HO466 := n11_
        have BK423 := n12_
        have BK458 := n13_
        have HB := n14_
        clear n0_ n1_ n2_ n3_ n4_ n5_ n6_ n7_ n8_ n9_ n10_ n11_ n12_ n13_ n14_
        refine start_ (n := 5) (S := fun w' => w'.cell? ⟨gb458, 0, none⟩ = some (.slice Ao51 t449.length co51) ∧ w'.cell? ⟨gb458, 1, none⟩ = some (.slice Ao54 t452.length co54) ∧ w'.cell? ⟨gb458, 2, none⟩ = some (.slice Ao55 t455.length co55) ∧ w'.cell? ⟨gb423, 0, none⟩ = some (.slice A2_0 l2_0.length c2_0) ∧ w'.cell? ⟨gb423, 1, none⟩ = some (.slice A2_1 l2_1.length c2_1) ∧ w'.cell? ⟨gb423, 2, none⟩ = some (.slice A2_2 l2_2.length c2_2)) (ds := []) #[false, false, false, false, false] (by kernel_rfl) rfl rfl ⟨(blk_cell BK458.out 0).trans rfl, (blk_cell BK458.out 1).trans rfl, (blk_cell BK458.out 2).trans rfl, (blk_cell BK423.out 0).trans rfl, (blk_cell BK423.out 1).trans rfl, (blk_cell BK423.out 2).trans rfl⟩ (fun hHeld => ?_)
        generalize w64.drew = w65 at HO429 HO432 HO435 HO438 HO441 HO445 HO448 HO451 HO454 HO457 HO462 HO466 BK423 BK458 HB hHeld ⊢
        refine ta_ 0 (some 58) #[true, false, false, false, false] rfl rfl (by kernel_rfl) hHeld (by rintro w' ⟨s0, s1, s2, s3, s4, s5⟩; go_simp; with_reducible rfl) ?_
        refine ta_ 1 (some 59) #[true, true, false, false, false] rfl rfl (by kernel_rfl) hHeld (by rintro w' ⟨s0, s1, s2, s3, s4, s5⟩; go_simp; with_reducible rfl) ?_
        refine one_ (i := 2) (N := some 60) #[true, true, true, false, false] rfl rfl (by kernel_rfl) (by decide) (fun K hK => ?_)
        refine goes_ Try.func16 (by kernel_rfl) rfl #[.agg #[.slice A2_0 l2_0.length c2_0, .slice A2_1 l2_1.length c2_1, .slice A2_2 l2_2.length c2_2]] (by rfl) rfl rfl (by (try simp only [List.map_toArray, List.map_cons, List.map_nil]); first | done | rfl | (simp only [List.length_drop, List.length_take]; rfl)) ?_
        with_reducible refine (laws_toCost.calls k _ _ l2_0 _ _ l2_1 _ _ l2_2 t468 t471 t474 _ ?side1 ?side2 ?side3 ?side4 ?side5 ?side6 A30.out).mono ?_
        (case side1 => exact cx_ HR2_0 HB)
        (case side2 => exact HC2_0.out)
        (case side3 => exact cx_ HR2_1 HB)
        (case side4 => exact HC2_1.out)
        (case side5 => exact cx_ HR2_2 HB)
        (case side6 => exact HC2_2.out)
        rintro e w66 ⟨v469, v472, v475, rfl, ho0, ho1, ho2, hb⟩
        refine ⟨_, rfl, ?_⟩
        have n0_ := tR_ HO429 hb
        have n1_ := tR_ HO432 hb
        have n2_ := Aside0.mk (Kd.R_mono (Kd.R_told (Kd.R_told (Kd.R_told (Kd.R_old (rx_ HO435.out) hb) (Kd.R_base ho0)) (Kd.R_base ho1)) (Kd.R_base ho2)) (fun _ h_ => h_.1))
        have n3_ := Aside0.mk (Kd.R_mono (Kd.R_told (Kd.R_told (Kd.R_told (Kd.R_old (rx_ HO438.out) hb) (Kd.R_base ho0)) (Kd.R_base ho1)) (Kd.R_base ho2)) (fun _ h_ => h_.1))
        have n4_ := Aside0.mk (Kd.R_mono (Kd.R_told (Kd.R_told (Kd.R_told (Kd.R_old (rx_ HO441.out) hb) (Kd.R_base ho0)) (Kd.R_base ho1)) (Kd.R_base ho2)) (fun _ h_ => h_.1))
        have n5_ := tR_ HO445 hb
        have n6_ := tR_ HO448 hb
        have n7_ := Aside0.mk (Kd.R_mono (Kd.R_told (Kd.R_told (Kd.R_told (Kd.R_old (rx_ HO451.out) hb) (Kd.R_base ho0)) (Kd.R_base ho1)) (Kd.R_base ho2)) (fun _ h_ => h_.1))
        have n8_ := Aside0.mk (Kd.R_mono (Kd.R_told (Kd.R_told (Kd.R_told (Kd.R_old (rx_ HO454.out) hb) (Kd.R_base ho0)) (Kd.R_base ho1)) (Kd.R_base ho2)) (fun _ h_ => h_.1))
        have n9_ := Aside0.mk (Kd.R_mono (Kd.R_told (Kd.R_told (Kd.R_told (Kd.R_old (rx_ HO457.out) hb) (Kd.R_base ho0)) (Kd.R_base ho1)) (Kd.R_base ho2)) (fun _ h_ => h_.1))
        have n10_ := tR_ HO462 hb
        have n11_ := tR_ HO466 hb
        have n12_ := Aside0.mk (Kd.R_lower (Kd.R_new' (Kd.R_new' (Kd.R_new' (Kd.R_new' (Kd.R_new' (Kd.R_new' ho0 (Kd.R_lt (rx_ HO435.out))) (Kd.R_lt (rx_ HO438.out))) (Kd.R_lt (rx_ HO441.out))) (Kd.R_lt (rx_ HO451.out))) (Kd.R_lt (rx_ HO454.out))) (Kd.R_lt (rx_ HO457.out))) (bs_ HB))
        have n13_ := Aside0.mk (Kd.R_lower (Kd.R_new' (Kd.R_new' (Kd.R_new' (Kd.R_new' (Kd.R_new' (Kd.R_new' ho1 (Kd.R_lt (rx_ HO435.out))) (Kd.R_lt (rx_ HO438.out))) (Kd.R_lt (rx_ HO441.out))) (Kd.R_lt (rx_ HO451.out))) (Kd.R_lt (rx_ HO454.out))) (Kd.R_lt (rx_ HO457.out))) (bs_ HB))
        have n14_ := Aside0.mk (Kd.R_lower (Kd.R_new' (Kd.R_new' (Kd.R_new' (Kd.R_new' (Kd.R_new' (Kd.R_new' ho2 (Kd.R_lt (rx_ HO435.out))) (Kd.R_lt (rx_ HO438.out))) (Kd.R_lt (rx_ HO441.out))) (Kd.R_lt (rx_ HO451.out))) (Kd.R_lt (rx_ HO454.out))) (Kd.R_lt (rx_ HO457.out))) (bs_ HB))
        have n15_ := tK_ BK423 hb
        have n16_ := tK_ BK458 hb
        have n17_ := tB_ HB hb
        clear HO429
        clear HO432
        clear HO435
        clear HO438
        clear HO441
        clear HO445
        clear HO448
        clear HO451
        clear HO454
        clear HO457
        clear HO462
        clear HO466
        clear BK423
        clear BK458
        clear HB
        have HO429 := n0_
        have HO432 := n1_
        have HO435 := n2_
        have HO438 := n3_
        have HO441 := n4_
        have HO445 := n5_
        have HO448 := n6_
        have HO451 := n7_
        have HO454 := n8_
        have HO457 := n9_
        have HO462 := n10_
        have HO466 := n11_
        have HO470 := n12_
        have HO473 := n13_
        have HO476 := n14_
        have BK423 := n15_
        have BK458 := n16_
        have HB := n17_
        clear n0_ n1_ n2_ n3_ n4_ n5_ n6_ n7_ n8_ n9_ n10_ n11_ n12_ n13_ n14_ n15_ n16_ n17_
        (try clear hb)
        (try clear hb2)
        (try clear hk)
        (try clear hi)
        (try clear ho0)
        (try clear ho1)
        (try clear ho2)
        obtain ⟨Ao67, co67, eo67⟩ := Kd.R_slice HO470.out
        (first | subst eo67 | (injection eo67 with f1_ f2_ f3_; have f4_ := f1_.symm; have f5_ := f3_.symm; clear f1_ f2_ f3_; subst f4_; subst f5_))
        obtain ⟨Ao68, co68, eo68⟩ := Kd.R_slice HO473.out
        (first | subst eo68 | (injection eo68 with f1_ f2_ f3_; have f4_ := f1_.symm; have f5_ := f3_.symm; clear f1_ f2_ f3_; subst f4_; subst f5_))
        obtain ⟨Ao69, co69, eo69⟩ := Kd.R_slice HO476.out
        (first | subst eo69 | (injection eo69 with f1_ f2_ f3_; have f4_ := f1_.symm; have f5_ := f3_.symm; clear f1_ f2_ f3_; subst f4_; subst f5_))
        refine hK.out _ _ ⟨(blk_cell BK458.out 0).trans rfl, (blk_cell BK458.out 1).trans rfl, (blk_cell BK458.out 2).trans rfl, (blk_cell BK423.out 0).trans rfl, (blk_cell BK423.out 1).trans rfl, (blk_cell BK423.out 2).trans rfl⟩ (fun hHeld => ?_)
        clear hK K
        refine norm_ (a' := ?_) ?_ ?_
        rotate_left
        ·show Act.put _ (some 60) _ = _
         simp only [Act.put, List.setIfInBounds_toArray, List.set_cons_zero, List.set_cons_succ, i64_w, i32_w]
         rfl
        refine one_ (i := 3) (N := some 61) #[true, true, true, true, false] rfl rfl (by kernel_rfl) (by decide) (fun K hK => ?_)
        refine goes_ Try.func19 (by kernel_rfl) rfl #[.agg #[.slice Ao51 t449.length co51, .slice Ao54 t452.length co54, .slice Ao55 t455.length co55], .agg #[.slice Ao67 t468.length co67, .slice Ao68 t471.length co68, .slice Ao69 t474.length co69]] (by rfl) rfl rfl (by (try simp only [List.map_toArray, List.map_cons, List.map_nil]); first | done | rfl | (simp only [List.length_drop, List.length_take]; rfl)) ?_
        with_reducible refine (laws_eqCost.calls k _ _ t449 _ _ t452 _ _ t455 _ _ t468 _ _ t471 _ _ t474 true _ ?side1 ?side2 ?side3 ?side4 ?side5 ?side6 ?side7 ?side8 ?side9 ?side10 ?side11 ?side12 A31.out).mono ?_
        (case side1 => exact cc_ (Kd.R_reads' HO451.out).2.2)
        (case side2 => exact (Kd.R_reads' HO451.out).2.1)
        (case side3 => exact cc_ (Kd.R_reads' HO454.out).2.2)
        (case side4 => exact (Kd.R_reads' HO454.out).2.1)
        (case side5 => exact cc_ (Kd.R_reads' HO457.out).2.2)
        (case side6 => exact (Kd.R_reads' HO457.out).2.1)
        (case side7 => exact cc_ (Kd.R_reads' HO470.out).2.2)
        (case side8 => exact (Kd.R_reads' HO470.out).2.1)
        (case side9 => exact cc_ (Kd.R_reads' HO473.out).2.2)
        (case side10 => exact (Kd.R_reads' HO473.out).2.1)
        (case side11 => exact cc_ (Kd.R_reads' HO476.out).2.2)
        (case side12 => exact (Kd.R_reads' HO476.out).2.1)
        rintro e w70 ⟨rfl, hb⟩
        refine ⟨_, rfl, ?_⟩
        have n0_ := tR_ HO429 hb
        have n1_ := tR_ HO432 hb
        have n2_ := tR_ HO435 hb
        have n3_ := tR_ HO438 hb
        have n4_ := tR_ HO441 hb
        have n5_ := tR_ HO445 hb
        have n6_ := tR_ HO448 hb
        have n7_ := tR_ HO451 hb
        have n8_ := tR_ HO454 hb
        have n9_ := tR_ HO457 hb
        have n10_ := tR_ HO462 hb
        have n11_ := tR_ HO466 hb
        have n12_ := tR_ HO470 hb
        have n13_ := tR_ HO473 hb
        have n14_ := tR_ HO476 hb
        have n15_ := tK_ BK423 hb
        have n16_ := tK_ BK458 hb
        have n17_ := tB_ HB hb
        clear HO429
        clear HO432
        clear HO435
        clear HO438
        clear HO441
        clear HO445
        clear HO448
        clear HO451
        clear HO454
        clear HO457
        clear HO462
        clear HO466
        clear HO470
        clear HO473
        clear HO476
        clear BK423
        clear BK458
        clear HB
        have HO429 := n0_
        have HO432 := n1_
        have HO435 := n2_
        have HO438 := n3_
        have HO441 := n4_
        have HO445 := n5_
        have HO448 := n6_
        have HO451 := n7_
        have HO454 := n8_
        have HO457 := n9_
        have HO462 := n10_
        have HO466 := n11_
        have HO470 := n12_
        have HO473 := n13_
        have HO476 := n14_
        have BK423 := n15_
        have BK458 := n16_
        have HB := n17_
        clear n0_ n1_ n2_ n3_ n4_ n5_ n6_ n7_ n8_ n9_ n10_ n11_ n12_ n13_ n14_ n15_ n16_ n17_
        (try clear hb)
        (try clear hb2)
        (try clear hk)
        (try clear hi)
        refine hK.out _ _ ⟨(blk_cell BK458.out 0).trans rfl, (blk_cell BK458.out 1).trans rfl, (blk_cell BK458.out 2).trans rfl, (blk_cell BK423.out 0).trans rfl, (blk_cell BK423.out 1).trans rfl, (blk_cell BK423.out 2).trans rfl⟩ (fun hHeld => ?_)
        clear hK K
        refine norm_ (a' := ?_) ?_ ?_
        rotate_left
        ·show Act.put _ (some 61) _ = _
         simp only [Act.put, List.setIfInBounds_toArray, List.set_cons_zero, List.set_cons_succ, i64_w, i32_w]
         rfl
        refine pu_ 4 (some 62) #[true, true, true, true, true] rfl rfl (by kernel_rfl) ?_
        refine done_ (by kernel_rfl) ?_
        try go_wp2
        go_ret
        exact ⟨ea_, (bl_ HB).out⟩
       ·replace c32 := Bool.eq_false_iff.mpr c32
        subst c32
        have H1 : (some false) = some true := by rw [if_neg (show ¬ (false = true) by decide)] at H; exact H
        clear H
        have H := H1
        clear H1
        exact absurd H (by simp)
      ·replace c29 := Bool.eq_false_iff.mpr c29
       subst c29
       have H1 : (some false) = some true := by rw [if_neg (show ¬ (false = true) by decide)] at H; exact H
       clear H
       have H := H1
       clear H1
       exact absurd H (by simp)
     ·replace c26 := Bool.eq_false_iff.mpr c26
      subst c26
      have H1 : (some false) = some true := by rw [if_neg (show ¬ (false = true) by decide)] at H; exact H
      clear H
      have H := H1
      clear H1
      exact absurd H (by simp)
    ·rw [if_neg c23] at H
     have c23b0 : (t459 == t442) = false := beq_eq_false_iff_ne.mpr c23
     have c23b1 : (t459 != t442) = true := bne_iff_ne.mpr c23
     exact absurd H (by simp)
end Go.Proofs.Ytelglbebffdaaaa.X
namespace Go.Proofs.Ytelglbebffdaaaa.Q
open Go.RowKit Go.Proofs.YtelglbebffdaaaaW.PrintWords Go.Proofs.YtelglbebffdaaaaW.PrintLast Go.Proofs.YtelglbebffdaaaaW.PrintMore Go.Proofs.Ytelglbebffdaaaa.X Go.Proofs.Ytelglbebffdaaaa.Rd Go.Proofs.Ytelglbebffdaaaa
set_option linter.unusedVariables false
set_option linter.unusedSimpArgs false
theorem implRootDist_ev (a b : List NodeI) (d i r : List Int) : Ev (fun k => impl_RootDist.f k a b d i r) (rdB a b d i r) := by
  unfold impl_RootDist.f
  refine Ev.bind (impl_ForestDist.ev a 0 (wrap64 ((a.length : Int) - 1)) b 0 (wrap64 ((b.length : Int) - 1)) d i r) ?_
  by_cases hok : okAB a b d i r = true
  · obtain ⟨ta, tb, hc⟩ := okAB_iff.1 hok
    have a1 := ta.len1
    have a2 := ta.len24
    have b1 := tb.len1
    have b2 := tb.len24
    have wa : wrap64 ((a.length : Int) - 1) = ((a.length - 1 : Nat) : Int) := by rw [wrap_id (by omega) (by omega)]; omega
    have wb : wrap64 ((b.length : Int) - 1) = ((b.length - 1 : Nat) : Int) := by rw [wrap_id (by omega) (by omega)]; omega
    have hf : fdB a b 0 ((a.length - 1 : Nat) : Int) 0 ((b.length - 1 : Nat) : Int) d i r = Ted.D (msOf a b d i r) 0 (a.length - 1) 0 (b.length - 1) := by
      unfold fdB
      rw [if_pos ⟨hok, by omega, by omega, by omega, by omega, by omega, by omega⟩]
      rfl
    rw [wa, wb, hf]
    have hD := D_small (msOf_small (a := a) (b := b) hc) 0 (a.length - 1) 0 (b.length - 1)
    have ca := ta.chk 0 (by omega)
    have cb := tb.chk 0 (by omega)
    have hr := price_at hc.rp (6 * (lab a 0).toNat + (lab b 0).toNat)
    have e1 : (rd_T53 a 0).f0 = lab a 0 := rd_lab a 0
    have e2 : (rd_T53 b 0).f0 = lab b 0 := rd_lab b 0
    have er : (msOf a b d i r).rel (a.length - 1) (b.length - 1) = r.getD (6 * (lab a 0).toNat + (lab b 0).toNat) 0 := by
      simp only [msOf, nodeN_last ta, nodeN_last tb]
    refine Ev.ifF (by omega) (Ev.ifT (by omega) (Ev.ifT (by omega) ?_))
    rw [e1, e2]
    refine Ev.bind (implRel_ev hc ca.l0 ca.l5 cb.l0 cb.l5) ?_
    unfold rdB
    rw [if_pos hok, Ted.rootD, er]
    rw [wrap_id (x := Ted.D (msOf a b d i r) 0 (a.length - 1) 0 (b.length - 1) + r.getD (6 * (lab a 0).toNat + (lab b 0).toNat) 0) (by omega) (by omega)]
    exact Ev.now _
  · have hf : fdB a b 0 (wrap64 ((a.length : Int) - 1)) 0 (wrap64 ((b.length : Int) - 1)) d i r = -1 := if_neg (fun h => hok h.1)
    rw [hf]
    unfold rdB
    rw [if_neg hok]
    exact Ev.ifT (by omega) (Ev.now _)
end Go.Proofs.Ytelglbebffdaaaa.Q
namespace Go.Proofs.Ytelglbebffdaaaa.Q
open Go.RowKit Go.Proofs.YtelglbebffdaaaaW.PrintWords Go.Proofs.YtelglbebffdaaaaW.PrintLast Go.Proofs.YtelglbebffdaaaaW.PrintMore Go.Proofs.Ytelglbebffdaaaa.X Go.Proofs.Ytelglbebffdaaaa.Rd
set_option linter.unusedVariables false
set_option linter.unusedSimpArgs false
theorem FnExactSlowDist (a : List NodeL) (wa : WF22 a) (b : List NodeL) (wb : WF22 b) (c : CostL) (wc : WF25 c) : ∃ k, laws_FnExactSlowDist.f k a b c.f0 c.f1 c.f2 = some true := by
  refine Ev.rounds (g := fun k => laws_FnExactSlowDist.f k a b c.f0 c.f1 c.f2) ?_
  have wd := wc.1.1
  have wi_ := wc.2.1.1
  have wr := wc.2.2.1
  unfold laws_FnExactSlowDist.f
  refine Ev.bindC (szNodeS_eq a _ (by omega) (by omega) wa.1) ?_
  by_cases h : (1048576 : Int) < a.length
  · rw [if_pos h]
    exact Ev.ifT (by omega) (Ev.now _)
  rw [if_neg h]
  refine Ev.ifF (by omega) (Ev.bindC (szNodeS_eq b _ (by omega) (by omega) wb.1) ?_)
  by_cases h1 : (1048576 : Int) - a.length < b.length
  · rw [if_pos h1]
    exact Ev.ifT (by omega) (Ev.now _)
  rw [if_neg h1]
  obtain ⟨z, hz, hp⟩ := szCost_eq c.f0 c.f1 c.f2 ((1048576 : Int) - a.length - b.length) (by omega) (by omega) wd wi_ wr
  refine Ev.ifF (by omega) (Ev.bindC hz ?_)
  rcases hp with hp | ⟨hp, rfl⟩
  · exact Ev.ifT hp (Ev.now _)
  refine Ev.ifF (by omega) ?_
  have ta := toNodeS_ev a (by omega)
  have tb := toNodeS_ev b (by omega)
  have tc := toCost_ev c.f0 c.f1 c.f2 (by omega) (by omega) (by omega)
  have la : (a.map toNode).length = a.length := by simp
  have lb : (b.map toNode).length = b.length := by simp
  have fit : Fit (a.map toNode) (b.map toNode) c.f0 c.f1 c.f2 := ⟨by omega, by omega, by omega, by omega, by omega⟩
  have s := spec_SlowDist.ev fit
  have i := (show Ev (fun k => impl_SlowDist.f k (a.map toNode) (b.map toNode) c.f0 c.f1 c.f2) _ from by unfold impl_SlowDist.f; exact Ev.bind (implRootDist_ev (a.map toNode) (b.map toNode) c.f0 c.f1 c.f2) (Ev.now _))
  refine Ev.bind ta (Ev.bind tb (Ev.bind tc (Ev.bind s (Ev.bind ta (Ev.bind tb (Ev.bind tc (Ev.bind i (Ev.ifT rfl ?_))))))))
  exact Ev.bind ta (Ev.bind (eqNodeS_ev _ (by omega)) (Ev.ifT rfl (Ev.bind tb (Ev.bind (eqNodeS_ev _ (by omega)) (Ev.ifT rfl (Ev.bind tc (Ev.bind (eqCost_ev _ _ _ (by omega) (by omega) (by omega)) (Ev.ifT rfl (Ev.now _)))))))))
end Go.Proofs.Ytelglbebffdaaaa.Q
