/- Part 16 of the proof of FnBothWays: what it needs. -/
import Derived.Carry
import Derived.Test.YtngphdmbjenkaaaKLBothWays3
import Derived.Test.YtngphdmbjenkaaaKLBothWays6
import Derived.Test.YtngphdmbjenkaaaKLBothWays13
import Derived.Test.YtngphdmbjenkaaaKLBothWays14
import Derived.Test.YtngphdmbjenkaaaKLBothWays15
namespace Go.Proofs.Ytngphdmbjenkaaa.X
open Go.RowKit Go.Proofs.YtngphdmbjenkaaaW.PrintWords Go.Proofs.YtngphdmbjenkaaaW.PrintLast Go.Proofs.YtngphdmbjenkaaaW.PrintMore Go.Proofs.Ytngphdmbjenkaaa.Q
set_option linter.unusedVariables false
set_option linter.unusedSimpArgs false
noncomputable def fdB (a b : List NodeI) (i j k m : Int) (d n r : List Int) : Int :=
 if okAB a b d n r = true ∧ 0 ≤ i ∧ i ≤ j ∧ j ≤ (a.length : Int) ∧ 0 ≤ k ∧ k ≤ m ∧ m ≤ (b.length : Int) then Ted.D (msOf a b d n r) i.toNat j.toNat k.toNat m.toNat else -1
noncomputable def impl_ForestDist.f (q : Nat) (a : List NodeI) (i j : Int) (b : List NodeI) (k m : Int) (d n r : List Int) : Option Int := (impl_measureOf.f q a b d n r).bind fun _ => some (fdB a b i j k m d n r)
theorem impl_ForestDist.ev (a : List NodeI) (i j : Int) (b : List NodeI) (k m : Int) (d n r : List Int) : Ev (fun q => impl_ForestDist.f q a i j b k m d n r) (fdB a b i j k m d n r) := by
 unfold impl_ForestDist.f
 exact Ev.bind (implMeasure_ev a b d n r) (Ev.now _)
attribute [local go_sem] run_makeMap
set_option maxHeartbeats 4000000 in
set_option maxRecDepth 100000 in
theorem impl_ForestDist.calls (q : Nat) (A0 : Option Addr) (c0 : Nat) (l0 : List NodeI) (l1 l2 : Int) (A3 : Option Addr) (c3 : Nat) (l3 : List NodeI) (l4 l5 : Int) (A6 : Option Addr) (c6 : Nat) (d : List Int) (A7 : Option Addr) (c7 : Nat) (n : List Int) (A8 : Option Addr) (c8 : Nat) (r : List Int) (res : Int) (w : World)
  (hr0 : Kd.C k77 w A0 l0.length l0) (hc0 : l0.length ≤ c0) (hr3 : Kd.C k77 w A3 l3.length l3) (hc3 : l3.length ≤ c3) (hr6 : Kd.C (Kd.int .i64) w A6 d.length d) (hc6 : d.length ≤ c6) (hr7 : Kd.C (Kd.int .i64) w A7 n.length n) (hc7 : n.length ≤ c7) (hr8 : Kd.C (Kd.int .i64) w A8 r.length r) (hc8 : r.length ≤ c8)
  (h : impl_ForestDist.f q l0 l1 l2 l3 l4 l5 d n r = some res) :
  Calls Try.prog 64 #[.slice A0 l0.length c0,.int .i64 l1,.int .i64 l2,.slice A3 l3.length c3,.int .i64 l4,.int .i64 l5,.agg #[.slice A6 d.length c6,.slice A7 n.length c7,.slice A8 r.length c8]] w fun e w' => e = .returned (.int .i64 res) ∧ Below w.heap.size w w' := by
 unfold impl_ForestDist.f at h
 obtain ⟨t,ht,h⟩ := Option.bind_eq_some_iff.mp h
 obtain rfl := Option.some.inj h
 clear h
 have HM : Aside0 (∀ W,Below w.heap.size w W → _) := ⟨fun W hb => mea_ok (Kd.C_below hr0 hb) hc0 (Kd.C_below hr3 hb) hc3 (Kd.C_below hr6 hb) hc6 (Kd.C_below hr7 hb) hc7 (Kd.C_below hr8 hb) hc8 ht⟩
 clear hr0 hc0 hr3 hc3 hr6 hc6 hr7 hc7 hr8 hc8 ht
 by_cases hok : okAB l0 l3 d n r = true ∧ 0 ≤ l1 ∧ l1 ≤ l2 ∧ l2 ≤ (l0.length : Int) ∧ 0 ≤ l4 ∧ l4 ≤ l5 ∧ l5 ≤ (l3.length : Int)
 ·have HV := Aside0.mk (show fdB l0 l3 l1 l2 l4 l5 d n r = Ted.D (msOf l0 l3 d n r) l1.toNat l2.toNat l4.toNat l5.toNat from if_pos hok)
  obtain ⟨ho,h1,h2,h3,h4,h5,h6⟩ := hok
  have HOK := Aside0.mk ho
  rw [ho] at HM
  obtain ⟨i,rfl⟩ := Int.eq_ofNat_of_zero_le h1
  obtain ⟨j,rfl⟩ := Int.eq_ofNat_of_zero_le (Int.le_trans h1 h2)
  obtain ⟨k,rfl⟩ := Int.eq_ofNat_of_zero_le h4
  obtain ⟨m,rfl⟩ := Int.eq_ofNat_of_zero_le (Int.le_trans h4 h5)
  have z1 : ¬ (i : Int) < 0 := by omega
  have z2 : ¬ (j : Int) < (i : Int) := by omega
  have z3 : ¬ (l0.length : Int) < (j : Int) := by omega
  have z4 : ¬ (k : Int) < 0 := by omega
  have z5 : ¬ (m : Int) < (k : Int) := by omega
  have z6 : ¬ (l3.length : Int) < (m : Int) := by omega
  go_enter Try.func64,Try.ntmps64
  go_wp2_with (first | (go_at_call 77;refine (HM.out _ ((Below.refl _ _).alloc (Nat.le_refl _) _)).mono ?_;rintro e w6 ⟨v0,v1,v2,v3,v4,v5,v6,rfl,hb,⟨⟨a0,n0,e0,rfl⟩,⟨a1,n1,e1,rfl⟩,⟨a2,n2,e2,rfl⟩,⟨a3,n3,e3,rfl⟩,⟨a4,n4,e4,rfl⟩,⟨a5,n5,e5,rfl⟩,⟨a6,n6,e6,rfl⟩⟩,hmea⟩))
  have hol0 : okAB l0 l3 d n r = true := HOK.out
  have hok2 := hol0
  unfold okAB at hok2
  rw [Bool.and_eq_true,Bool.and_eq_true] at hok2
  have ta := (trB_iff l0).1 hok2.1.1
  have tb := (trB_iff l3).1 hok2.1.2
  have hB6 := Aside0.mk (((Below.refl w.heap.size w).alloc (Nat.le_refl _) (.cells #[.slice A6 d.length c6,.slice A7 n.length c7,.slice A8 r.length c8] 27)).trans (hb.mono (by simp)))
  have hMemo := Memo.start (msOf l0 l3 d n r) (w6.alloc (Obj.cells #[.slice a0 n0 e0,.slice a1 n1 e1,.slice a2 n2 e2,.slice a3 n3 e3,.slice a4 n4 e4,.slice a5 n5 e5,.slice a6 n6 e6] 92))
  have hsz : (w6.alloc (Obj.cells #[.slice a0 n0 e0,.slice a1 n1 e1,.slice a2 n2 e2,.slice a3 n3 e3,.slice a4 n4 e4,.slice a5 n5 e5,.slice a6 n6 e6] 92)).heap.size = w6.heap.size + 1 := by simp
  rw [hsz] at hMemo
  have hMea := (hmea trivial (w6.heap.size + 1) (by omega)).below (((Below.refl w6.heap.size w6).alloc (Nat.le_refl _) (Obj.cells #[.slice a0 n0 e0,.slice a1 n1 e1,.slice a2 n2 e2,.slice a3 n3 e3,.slice a4 n4 e4,.slice a5 n5 e5,.slice a6 n6 e6] 92)).alloc (by simp) (.map #[] 0))
  refine (forest_calls (msOf_small (costB_iff.1 hok2.2)) ta.len24 tb.len24 (fun p hp => lfN_le ta hp) (fun p hp => lfN_le tb hp) _ i j k m rfl (by omega) (by omega) (by omega) (by omega) _ _ _ [] hMea hMemo).mono ?_
  rintro e w9 ⟨rfl,hol,_⟩
  go_wp2
  go_ret
  refine ⟨by rw [HV.out];simp only [Int.toNat_natCast];rfl,hB6.out.trans ?_⟩
  refine Below.mono ?_ (show w.heap.size ≤ w6.heap.size from hB6.out.size)
  refine (((Below.refl w6.heap.size w6).alloc (Nat.le_refl _) _).alloc (by simp) _).trans ⟨hol.os,hol.tape,hol.output,hol.size,fun x hx => hol.block x (by simp;omega) (by simp;omega)⟩
 ·have HV : fdB l0 l3 l1 l2 l4 l5 d n r = -1 := if_neg hok
  rw [HV]
  have hcase : okAB l0 l3 d n r = false ∨ (okAB l0 l3 d n r = true ∧ l1 < 0) ∨ (okAB l0 l3 d n r = true ∧ ¬ l1 < 0 ∧ l2 < l1) ∨ (okAB l0 l3 d n r = true ∧ ¬ l1 < 0 ∧ ¬ l2 < l1 ∧ (l0.length : Int) < l2) ∨ (okAB l0 l3 d n r = true ∧ ¬ l1 < 0 ∧ ¬ l2 < l1 ∧ ¬ (l0.length : Int) < l2 ∧ l4 < 0) ∨
    (okAB l0 l3 d n r = true ∧ ¬ l1 < 0 ∧ ¬ l2 < l1 ∧ ¬ (l0.length : Int) < l2 ∧ ¬ l4 < 0 ∧ l5 < l4) ∨ (okAB l0 l3 d n r = true ∧ ¬ l1 < 0 ∧ ¬ l2 < l1 ∧ ¬ (l0.length : Int) < l2 ∧ ¬ l4 < 0 ∧ ¬ l5 < l4 ∧ (l3.length : Int) < l5) := by
   cases ho : okAB l0 l3 d n r with
   | false => exact Or.inl rfl
   | true =>
    rw [ho] at hok
    simp only [true_and,Bool.true_eq_false,false_or] at hok ⊢
    omega
  clear hok HV
  rcases hcase with ho | ⟨ho,z1⟩ | ⟨ho,z1,z2⟩ | ⟨ho,z1,z2,z3⟩ | ⟨ho,z1,z2,z3,z4⟩ | ⟨ho,z1,z2,z3,z4,z5⟩ | ⟨ho,z1,z2,z3,z4,z5,z6⟩
  all_goals
   rw [ho] at HM
   clear ho
   go_enter Try.func64,Try.ntmps64
   go_wp2_with (first | (go_at_call 77;refine (HM.out _ ((Below.refl _ _).alloc (Nat.le_refl _) _)).mono ?_;rintro e w6 ⟨v0,v1,v2,v3,v4,v5,v6,rfl,hb,⟨⟨a0,n0,e0,rfl⟩,⟨a1,n1,e1,rfl⟩,⟨a2,n2,e2,rfl⟩,⟨a3,n3,e3,rfl⟩,⟨a4,n4,e4,rfl⟩,⟨a5,n5,e5,rfl⟩,⟨a6,n6,e6,rfl⟩⟩,hmea⟩))
   go_ret
   have hB6 := ((Below.refl w.heap.size w).alloc (Nat.le_refl _) (.cells #[.slice A6 d.length c6,.slice A7 n.length c7,.slice A8 r.length c8] 27)).trans (hb.mono (by simp))
   exact ⟨rfl,hB6.trans (((Below.refl w6.heap.size w6).alloc (Nat.le_refl _) _).mono hB6.size)⟩
end Go.Proofs.Ytngphdmbjenkaaa.X
namespace Go.Proofs.Ytngphdmbjenkaaa.X
open Go.RowKit Go.Proofs.YtngphdmbjenkaaaW.PrintWords Go.Proofs.YtngphdmbjenkaaaW.PrintLast Go.Proofs.YtngphdmbjenkaaaW.PrintMore
attribute [local go_sem] max2_int min2_int max_two min_two max_three min_three max_four min_four   -- for this text's walks alone
set_option linter.unusedVariables false
set_option linter.unusedSimpArgs false
noncomputable def impl_RootDist.f (k : Nat) (l0 : List (S77)) (l1 : List (S77)) (l2_0 : List Int) (l2_1 : List Int) (l2_2 : List Int) : Option (Int) := (impl_ForestDist.f k l0 0 (wrap64 ((l0.length : Int) - 1)) l1 0 (wrap64 ((l1.length : Int) - 1)) l2_0 l2_1 l2_2).bind fun t597 => (if t597 < 0 then (some (-1)) else (if 0 < (l0.length : Int) then (if 0 < (l1.length : Int) then ((impl_RelCost.f k l2_0 l2_1 l2_2 ((rd_T77 l0 0).f0) ((rd_T77 l1 0).f0)).bind fun t600 => (some (wrap64 (t597 + t600)))) else (none)) else (none)))
def impl_RootDist.T4 : Bool × List (List Nat × List Nat) := (true,[([],[]),([],[]),([],[]),([2],[2]),([3],[3]),([4],[4]),([],[]),([6],[6]),([7],[7]),([8],[8]),([1,5,9],[1,5,9]),([0,10],[0,10]),([11,10,0,1,2,3,4,5,6,7,8,9,10,11],[11])])
def impl_RootDist.B4 : List Nat := [0,0,0,4,12,28,0,64,192,448,1022,2047,4095]
theorem impl_RootDist.tab4 : rtab .any (opsOf Try.f18 4) = impl_RootDist.T4 := by kernel_rfl
theorem impl_RootDist.bits4 : waitsOk impl_RootDist.T4.2 impl_RootDist.B4 = true := by kernel_rfl
set_option maxHeartbeats 8000000 in
set_option maxRecDepth 100000 in
theorem impl_RootDist.calls (k : Nat) (A0 : Option Addr) (c0 : Nat) (l0 : List (S77)) (A1 : Option Addr) (c1 : Nat) (l1 : List (S77)) (A2_0 : Option Addr) (c2_0 : Nat) (l2_0 : List Int) (A2_1 : Option Addr) (c2_1 : Nat) (l2_1 : List Int) (A2_2 : Option Addr) (c2_2 : Nat) (l2_2 : List Int) (r : Int) (w : World) (hr0 : Kd.C k77 w A0 l0.length l0) (hc0 : l0.length ≤ c0) (hr1 : Kd.C k77 w A1 l1.length l1) (hc1 : l1.length ≤ c1) (hr2_0 : Kd.C (Kd.int .i64) w A2_0 l2_0.length l2_0) (hc2_0 : l2_0.length ≤ c2_0) (hr2_1 : Kd.C (Kd.int .i64) w A2_1 l2_1.length l2_1) (hc2_1 : l2_1.length ≤ c2_1) (hr2_2 : Kd.C (Kd.int .i64) w A2_2 l2_2.length l2_2) (hc2_2 : l2_2.length ≤ c2_2) (h : impl_RootDist.f k l0 l1 l2_0 l2_1 l2_2 = some r) :
  Calls Try.prog 18 #[.slice A0 l0.length c0,.slice A1 l1.length c1,.agg #[.slice A2_0 l2_0.length c2_0,.slice A2_1 l2_1.length c2_1,.slice A2_2 l2_2.length c2_2]] w fun e w' => e = .returned (.int .i64 r) ∧ Below w.heap.size w w' := by
 have hu27 := Try.underlying27
 have HR0 := Aside0.mk hr0
 have HC0 := Aside0.mk hc0
 clear hr0 hc0
 have HR1 := Aside0.mk hr1
 have HC1 := Aside0.mk hc1
 clear hr1 hc1
 have HR2_0 := Aside0.mk hr2_0
 have HC2_0 := Aside0.mk hc2_0
 clear hr2_0 hc2_0
 have HR2_1 := Aside0.mk hr2_1
 have HC2_1 := Aside0.mk hc2_1
 clear hr2_1 hc2_1
 have HR2_2 := Aside0.mk hr2_2
 have HC2_2 := Aside0.mk hc2_2
 clear hr2_2 hc2_2
 have HB := Aside0.mk (Below.refl w.heap.size w)
 have H : ((impl_ForestDist.f k l0 0 (wrap64 ((l0.length : Int) - 1)) l1 0 (wrap64 ((l1.length : Int) - 1)) l2_0 l2_1 l2_2).bind fun t597 => (if t597 < 0 then (some (-1)) else (if 0 < (l0.length : Int) then (if 0 < (l1.length : Int) then ((impl_RelCost.f k l2_0 l2_1 l2_2 ((rd_T77 l0 0).f0) ((rd_T77 l1 0).f0)).bind fun t600 => (some (wrap64 (t597 + t600)))) else (none)) else (none)))) = some r := h
 clear h
 replace H := Option.bind_eq_some_iff.mp H
 obtain ⟨t597,A40,H⟩ := H
 try dsimp only at H
 have A4 := Aside0.mk A40
 clear A40
 by_cases c5 : t597 < 0
 ·rw [if_pos c5] at H
  have c5b0 : decide (t597 < 0) = true := decide_eq_true c5
  clear c5
  obtain rfl := Option.some.inj H
  go_enter Try.func18,Try.ntmps18
  go_wp2_with (first | ((with_reducible refine gate_dst (N := 5) rfl ?_);refine bx_ 5 #[.slice A2_0 l2_0.length c2_0,.slice A2_1 l2_1.length c2_1,.slice A2_2 l2_2.length c2_2] 27 ?_;intro gb596 hg w6 hbox hb;have BK596 := Aside0.mk (hbox);have GW596 := Aside0.mk ((by rw [hg];exact (bs_ HB) : w.heap.size ≤ gb596));have GE596 := Aside0.mk ((by rw [hg];exact (bs_ HB) : w.heap.size ≤ gb596));replace HB := tB_ HB hb;clear hb hbox hg;obtain ⟨hcz7_0,hcz7_1,hcz7_2,hfz7_0,hfz7_1,hfz7_2⟩ := bk3_ BK596) | ((with_reducible refine gate_callee (f := 64) rfl ?_);refine gL_ (some 17) Try.func64 #[.slice A0 l0.length c0,.int .i64 0,.int .i64 (wrap64 ((l0.length : Int) - 1)),.slice A1 l1.length c1,.int .i64 0,.int .i64 (wrap64 ((l1.length : Int) - 1)),.agg #[.slice A2_0 l2_0.length c2_0,.slice A2_1 l2_1.length c2_1,.slice A2_2 l2_2.length c2_2]] ?_;(with_reducible refine (impl_ForestDist.calls k _ _ l0 0 (wrap64 ((l0.length : Int) - 1)) _ _ l1 0 (wrap64 ((l1.length : Int) - 1)) _ _ l2_0 _ _ l2_1 _ _ l2_2 t597 _ (cx_ HR0 HB) HC0.out (cx_ HR1 HB) HC1.out (cx_ HR2_0 HB) HC2_0.out (cx_ HR2_1 HB) HC2_1.out (cx_ HR2_2 HB) HC2_2.out A4.out).mono ?_);rintro e w8 ⟨rfl,hb⟩;refine ⟨_,rfl,?_⟩;replace BK596 := tK_ BK596 hb;replace HB := tB_ HB hb;(try clear hb)))
  go_ret
  exact ⟨ea_,(bl_ HB).out⟩
 ·rw [if_neg c5] at H
  have c5b0 : decide (t597 < 0) = false := decide_eq_false c5
  clear c5
  by_cases c9 : 0 < (l0.length : Int)
  ·rw [if_pos c9] at H
   have c9b0 : decide (0 < (l0.length : Int)) = true := decide_eq_true c9
   have c9b1 : decide (0 < l0.length) = true := decide_eq_true (by omega)
   clear c9
   by_cases c10 : 0 < (l1.length : Int)
   ·rw [if_pos c10] at H
    have c10b0 : decide (0 < (l1.length : Int)) = true := decide_eq_true c10
    have c10b1 : decide (0 < l1.length) = true := decide_eq_true (by omega)
    clear c10
    replace H := Option.bind_eq_some_iff.mp H
    obtain ⟨t600,A110,H⟩ := H
    replace H : (some (wrap64 (t597 + t600))) = some r := H
    have A11 := Aside0.mk A110
    clear A110
    obtain rfl := Option.some.inj H
    go_enter Try.func18,Try.ntmps18
    try go_wp2_with (first | ((with_reducible refine gate_dst (N := 5) rfl ?_);refine bx_ 5 #[.slice A2_0 l2_0.length c2_0,.slice A2_1 l2_1.length c2_1,.slice A2_2 l2_2.length c2_2] 27 ?_;intro gb596 hg w12 hbox hb;have BK596 := Aside0.mk (hbox);have GW596 := Aside0.mk ((by rw [hg];exact (bs_ HB) : w.heap.size ≤ gb596));have GE596 := Aside0.mk ((by rw [hg];exact (bs_ HB) : w.heap.size ≤ gb596));replace HB := tB_ HB hb;clear hb hbox hg;obtain ⟨hcz13_0,hcz13_1,hcz13_2,hfz13_0,hfz13_1,hfz13_2⟩ := bk3_ BK596) | ((with_reducible refine gate_callee (f := 64) rfl ?_);refine gL_ (some 17) Try.func64 #[.slice A0 l0.length c0,.int .i64 0,.int .i64 (wrap64 ((l0.length : Int) - 1)),.slice A1 l1.length c1,.int .i64 0,.int .i64 (wrap64 ((l1.length : Int) - 1)),.agg #[.slice A2_0 l2_0.length c2_0,.slice A2_1 l2_1.length c2_1,.slice A2_2 l2_2.length c2_2]] ?_;(with_reducible refine (impl_ForestDist.calls k _ _ l0 0 (wrap64 ((l0.length : Int) - 1)) _ _ l1 0 (wrap64 ((l1.length : Int) - 1)) _ _ l2_0 _ _ l2_1 _ _ l2_2 t597 _ (cx_ HR0 HB) HC0.out (cx_ HR1 HB) HC1.out (cx_ HR2_0 HB) HC2_0.out (cx_ HR2_1 HB) HC2_1.out (cx_ HR2_2 HB) HC2_2.out A4.out).mono ?_);rintro e w14 ⟨rfl,hb⟩;refine ⟨_,rfl,?_⟩;replace BK596 := tK_ BK596 hb;replace HB := tB_ HB hb;(try clear hb)))
    have n0_ := Aside0.mk (blk_drew BK596.out)
    have n1_ := Aside0.mk (below_drew1 HB.out)
    clear BK596
    clear HB
    have BK596 := n0_
    have HB := n1_
    clear n0_ n1_
    have p598 : 0 ≤ (0 : Int) := (by omega)
    have q598 : 0 < (l0.length : Int) := od_
    obtain ⟨ad598,e598,hx598_0,hx598_1⟩ := at_T77 HR0.out 0 p598 q598
    have hw598_1 := hx598_1
    (try rw [show ((0 : Int)).toNat = 0 from rfl] at hw598_1)
    (try rw [show 0 * 2 = 0 from rfl] at hw598_1)
    (try rw [Addr.add_zero'] at hw598_1)
    have hw598_0 := hx598_0
    (try rw [show ((0 : Int)).toNat = 0 from rfl] at hw598_0)
    (try rw [show 0 * 2 = 0 from rfl] at hw598_0)
    (try rw [Addr.add_zero'] at hw598_0)
    cases e598
    have qi598 : (0 < l0.length) = True := eq_true (by omega)
    (try rw [show ((0 : Int)).toNat = 0 from rfl] at hx598_0)
    (try rw [show 0 * 2 = 0 from rfl] at hx598_0)
    (try rw [Addr.add_zero'] at hx598_0)
    (try rw [show ((0 : Int)).toNat = 0 from rfl] at hx598_1)
    (try rw [show 0 * 2 = 0 from rfl] at hx598_1)
    (try rw [Addr.add_zero'] at hx598_1)
    replace hx598_0 := ce_ HB hx598_0
    replace hx598_1 := ce_ HB hx598_1
    replace p598 := eq_true p598
    replace q598 := eq_true q598
    have p599 : 0 ≤ (0 : Int) := (by omega)
    have q599 : 0 < (l1.length : Int) := od_
    obtain ⟨ad599,e599,hx599_0,hx599_1⟩ := at_T77 HR1.out 0 p599 q599
    have hw599_1 := hx599_1
    (try rw [show ((0 : Int)).toNat = 0 from rfl] at hw599_1)
    (try rw [show 0 * 2 = 0 from rfl] at hw599_1)
    (try rw [Addr.add_zero'] at hw599_1)
    have hw599_0 := hx599_0
    (try rw [show ((0 : Int)).toNat = 0 from rfl] at hw599_0)
    (try rw [show 0 * 2 = 0 from rfl] at hw599_0)
    (try rw [Addr.add_zero'] at hw599_0)
    cases e599
    have qi599 : (0 < l1.length) = True := eq_true (by omega)
    (try rw [show ((0 : Int)).toNat = 0 from rfl] at hx599_0)
    (try rw [show 0 * 2 = 0 from rfl] at hx599_0)
    (try rw [Addr.add_zero'] at hx599_0)
    (try rw [show ((0 : Int)).toNat = 0 from rfl] at hx599_1)
    (try rw [show 0 * 2 = 0 from rfl] at hx599_1)
    (try rw [Addr.add_zero'] at hx599_1)
    replace hx599_0 := ce_ HB hx599_0
    replace hx599_1 := ce_ HB hx599_1
    replace p599 := eq_true p599
    replace q599 := eq_true q599
    refine start_ (n := 13) (S := fun w' => w'.cell? ⟨gb596,0,none⟩ = some (.slice A2_0 l2_0.length c2_0) ∧ w'.cell? ⟨gb596,1,none⟩ = some (.slice A2_1 l2_1.length c2_1) ∧ w'.cell? ⟨gb596,2,none⟩ = some (.slice A2_2 l2_2.length c2_2) ∧ w'.cell? ad598 = some (.int .i64 ((rd_T77 l0 0).f0)) ∧ w'.cell? ⟨ad598.block,ad598.off + 1,none⟩ = some (.int .i64 ((rd_T77 l0 0).f1)) ∧ w'.cell? ad599 = some (.int .i64 ((rd_T77 l1 0).f0)) ∧ w'.cell? ⟨ad599.block,ad599.off + 1,none⟩ = some (.int .i64 ((rd_T77 l1 0).f1))) (ds := []) (ba_ 13 0) (by kernel_rfl) rfl rfl ⟨(blk_cell BK596.out 0).trans rfl,(blk_cell BK596.out 1).trans rfl,(blk_cell BK596.out 2).trans rfl,(ce_ HB hw598_0),(ce_ HB hw598_1),(ce_ HB hw599_0),(ce_ HB hw599_1)⟩ (fun hHeld => ?_);refine with_tabW impl_RootDist.tab4 impl_RootDist.bits4 (fun HT_ HW_ => ?_)
    generalize w14.drew = w15 at BK596 HB hx598_0 hx598_1 hx599_0 hx599_1 hHeld ⊢
    refine pu_ 0 (some 20) (ba_ 13 1) rfl rfl (any_of HT_.out (by kernel_rfl)) ?_
    refine pu_ 2 (some 22) (ba_ 13 5) rfl rfl (any_of HT_.out (by kernel_rfl)) ?_
    refine pu_ 3 (some 23) (ba_ 13 13) rfl rfl (any_of HT_.out (by kernel_rfl)) ?_
    refine pu_ 4 (some 24) (ba_ 13 29) rfl rfl (any_of HT_.out (by kernel_rfl)) ?_
    refine pu_ 6 (some 26) (ba_ 13 93) rfl rfl (any_of HT_.out (by kernel_rfl)) ?_
    refine pu_ 7 (some 27) (ba_ 13 221) rfl rfl (any_of HT_.out (by kernel_rfl)) ?_
    refine pu_ 8 (some 28) (ba_ 13 477) rfl rfl (any_of HT_.out (by kernel_rfl)) ?_
    refine ta_ 1 (some 21) (ba_ 13 479) rfl rfl (take_ofW HT_.out HW_.out (by kernel_rfl)) hHeld (by rintro w' ⟨s0,s1,s2,s3,s4,s5,s6⟩;go_simp;with_reducible rfl) ?_
    refine ta_ 5 (some 25) (ba_ 13 511) rfl rfl (take_ofW HT_.out HW_.out (by kernel_rfl)) hHeld (by rintro w' ⟨s0,s1,s2,s3,s4,s5,s6⟩;go_simp;with_reducible rfl) ?_
    refine ta_ 9 (some 29) (ba_ 13 1023) rfl rfl (take_ofW HT_.out HW_.out (by kernel_rfl)) hHeld (by rintro w' ⟨s0,s1,s2,s3,s4,s5,s6⟩;go_simp;with_reducible rfl) ?_
    refine one_ (i := 10) (N := some 30) (ba_ 13 2047) rfl rfl (one_of HT_.out (by kernel_rfl)) (by decide) (fun K hK => ?_)
    refine goes_ Try.func65 (by kernel_rfl) rfl #[.agg #[.slice A2_0 l2_0.length c2_0,.slice A2_1 l2_1.length c2_1,.slice A2_2 l2_2.length c2_2],.int .i64 ((rd_T77 l0 0).f0),.int .i64 ((rd_T77 l1 0).f0)] (by rfl) rfl rfl (by (try simp only [List.map_toArray,List.map_cons,List.map_nil]);first | done | rfl | (simp only [List.length_drop,List.length_take];rfl)) ?_
    with_reducible refine (impl_RelCost.calls k _ _ l2_0 _ _ l2_1 _ _ l2_2 ((rd_T77 l0 0).f0) ((rd_T77 l1 0).f0) t600 _ ?side1 ?side2 ?side3 ?side4 ?side5 ?side6 A11.out).mono ?_
    (case side1 => exact cx_ HR2_0 HB)
    (case side2 => exact HC2_0.out)
    (case side3 => exact cx_ HR2_1 HB)
    (case side4 => exact HC2_1.out)
    (case side5 => exact cx_ HR2_2 HB)
    (case side6 => exact HC2_2.out)
    rintro e w16 ⟨rfl,hb⟩
    refine ⟨_,rfl,?_⟩
    have n0_ := tK_ BK596 hb
    have n1_ := tB_ HB hb
    clear BK596
    clear HB
    have BK596 := n0_
    have HB := n1_
    clear n0_ n1_
    (try clear hb)
    (try clear hb2)
    (try clear hk)
    (try clear hi)
    refine hK.out _ _ ⟨(blk_cell BK596.out 0).trans rfl,(blk_cell BK596.out 1).trans rfl,(blk_cell BK596.out 2).trans rfl,(ce_ HB hw598_0),(ce_ HB hw598_1),(ce_ HB hw599_0),(ce_ HB hw599_1)⟩ (fun hHeld => ?_)
    clear hK K
    refine norm_ (a' := ?_) ?_ ?_
    rotate_left
    ·show Act.put _ (some 30) _ = _
     simp only [Act.put,List.setIfInBounds_toArray,List.set_cons_zero,List.set_cons_succ,i64_w,i32_w]
     rfl
    refine pu_ 11 (some 31) (ba_ 13 4095) rfl rfl (any_of HT_.out (by kernel_rfl)) ?_
    refine pu_ 12 (some 6) (ba_ 13 8191) rfl rfl (any_of HT_.out (by kernel_rfl)) ?_
    refine done_ (done_of HT_.out (by kernel_rfl)) ?_
    try go_wp2
    go_ret
    exact ⟨ea_,(bl_ HB).out⟩
   ·rw [if_neg c10] at H
    exact absurd H (by simp)
  ·rw [if_neg c9] at H
   exact absurd H (by simp)
end Go.Proofs.Ytngphdmbjenkaaa.X
namespace Go.Proofs.Ytngphdmbjenkaaa.Q
open Go.RowKit Go.Proofs.YtngphdmbjenkaaaW.PrintWords Go.Proofs.YtngphdmbjenkaaaW.PrintLast Go.Proofs.YtngphdmbjenkaaaW.PrintMore Go.Proofs.Ytngphdmbjenkaaa.X Go.Proofs.Ytngphdmbjenkaaa.Rd Go.Proofs.Ytngphdmbjenkaaa
set_option linter.unusedVariables false
set_option linter.unusedSimpArgs false
theorem implRootDist_ev (a b : List NodeI) (d i r : List Int) : Ev (fun k => impl_RootDist.f k a b d i r) (rdB a b d i r) := by
  unfold impl_RootDist.f
  refine Ev.bind (impl_ForestDist.ev a 0 (wrap64 ((a.length : Int) - 1)) b 0 (wrap64 ((b.length : Int) - 1)) d i r) ?_
  by_cases hok : okAB a b d i r = true
  · obtain ⟨ta,tb,hc⟩ := okAB_iff.1 hok
    have a1 := ta.len1
    have a2 := ta.len24
    have b1 := tb.len1
    have b2 := tb.len24
    have wa : wrap64 ((a.length : Int) - 1) = ((a.length - 1 : Nat) : Int) := by rw [wrap_id (by omega) (by omega)];omega
    have wb : wrap64 ((b.length : Int) - 1) = ((b.length - 1 : Nat) : Int) := by rw [wrap_id (by omega) (by omega)];omega
    have hf : fdB a b 0 ((a.length - 1 : Nat) : Int) 0 ((b.length - 1 : Nat) : Int) d i r = Ted.D (msOf a b d i r) 0 (a.length - 1) 0 (b.length - 1) := by
      unfold fdB
      rw [if_pos ⟨hok,by omega,by omega,by omega,by omega,by omega,by omega⟩]
      rfl
    rw [wa,wb,hf]
    have hD := D_small (msOf_small (a := a) (b := b) hc) 0 (a.length - 1) 0 (b.length - 1)
    have ca := ta.chk 0 (by omega)
    have cb := tb.chk 0 (by omega)
    have hr := price_at hc.rp (6 * (lab a 0).toNat + (lab b 0).toNat)
    have e1 : (rd_T77 a 0).f0 = lab a 0 := rd_lab a 0
    have e2 : (rd_T77 b 0).f0 = lab b 0 := rd_lab b 0
    have er : (msOf a b d i r).rel (a.length - 1) (b.length - 1) = r.getD (6 * (lab a 0).toNat + (lab b 0).toNat) 0 := by
      simp only [msOf,nodeN_last ta,nodeN_last tb]
    refine Ev.ifF (by omega) (Ev.ifT (by omega) (Ev.ifT (by omega) ?_))
    rw [e1,e2]
    refine Ev.bind (implRel_ev hc ca.l0 ca.l5 cb.l0 cb.l5) ?_
    unfold rdB
    rw [if_pos hok,Ted.rootD,er]
    rw [wrap_id (x := Ted.D (msOf a b d i r) 0 (a.length - 1) 0 (b.length - 1) + r.getD (6 * (lab a 0).toNat + (lab b 0).toNat) 0) (by omega) (by omega)]
    exact Ev.now _
  · have hf : fdB a b 0 (wrap64 ((a.length : Int) - 1)) 0 (wrap64 ((b.length : Int) - 1)) d i r = -1 := if_neg (fun h => hok h.1)
    rw [hf]
    unfold rdB
    rw [if_neg hok]
    exact Ev.ifT (by omega) (Ev.now _)
end Go.Proofs.Ytngphdmbjenkaaa.Q
namespace Go.Proofs.Ytngphdmbjenkaaa.X
open Go.RowKit Go.Proofs.YtngphdmbjenkaaaW.PrintWords Go.Proofs.YtngphdmbjenkaaaW.PrintLast Go.Proofs.YtngphdmbjenkaaaW.PrintMore Go.Proofs.Ytngphdmbjenkaaa.Q
set_option linter.unusedVariables false
set_option linter.unusedSimpArgs false
theorem Row1.congr {W : World} {b n : Nat} {v : Value} {f g : Nat → Int} (h : Row1 W b v n f) (e : ∀ p,p < n → f p = g p) : Row1 W b v n g := by
 obtain ⟨ad,c,h1,h2,h3,h4⟩ := h.is
 exact ⟨ad,c,h1,h2,h3,fun p hp => by rw [← e p hp];exact h4 p hp⟩
noncomputable def preF (q : Nat) (a b : List NodeI) (d n r : List Int) : Option Bool :=
 if Fit a b d n r then (spec_l8Three.f q a b d n r).bind fun t => if t = true then (spec_l8Labels.f q a).bind fun _ => (spec_l8Labels.f q b).bind fun _ => (spec_LeftLeaf.f q a).bind fun _ => (spec_LeftLeaf.f q b).bind fun _ => some true else some false else none
theorem preF_ev {a b : List NodeI} {d n r : List Int} (h : Fit a b d n r) : Ev (fun k => preF k a b d n r) (okAB a b d n r) := by
 unfold preF
 refine Ev.ifT h (Ev.bind (specThree_ev h) ?_)
 cases ho : okAB a b d n r with
 | false => exact Ev.ifF (by simp) (Ev.now _)
 | true =>
  obtain ⟨ta,tb,_⟩ := okAB_iff.1 ho
  exact Ev.ifT rfl (Ev.bind (specLabels_ev ta) (Ev.bind (specLabels_ev tb) (Ev.bind (specLeftLeaf_ev ta) (Ev.bind (specLeftLeaf_ev tb) (Ev.now _)))))
theorem preF_told {q : Nat} {a b : List NodeI} {d n r : List Int} {t : Bool} (h : preF q a b d n r = some t) : spec_l8Three.f q a b d n r = some t ∧ t = okAB a b d n r ∧
  (t = true → spec_l8Labels.f q a = some (labL a) ∧ spec_l8Labels.f q b = some (labL b) ∧ spec_LeftLeaf.f q a = some (lfL a) ∧ spec_LeftLeaf.f q b = some (lfL b)) := by
 unfold preF at h
 by_cases hf : Fit a b d n r
 ·rw [if_pos hf] at h
  obtain ⟨u,hu,h⟩ := Option.bind_eq_some_iff.mp h
  have eu : u = okAB a b d n r := ev_uniq (Ev.of (spec_l8Three.mono a b d n r) hu) (specThree_ev hf)
  by_cases c : u = true
  ·rw [if_pos c] at h
   obtain ⟨x1,h1,h⟩ := Option.bind_eq_some_iff.mp h
   obtain ⟨x2,h2,h⟩ := Option.bind_eq_some_iff.mp h
   obtain ⟨x3,h3,h⟩ := Option.bind_eq_some_iff.mp h
   obtain ⟨x4,h4,h⟩ := Option.bind_eq_some_iff.mp h
   obtain rfl := Option.some.inj h
   obtain ⟨ta,tb,_⟩ := okAB_iff.1 (eu.symm.trans c)
   refine ⟨by rw [hu,c],by rw [← eu,c],fun _ => ⟨?_,?_,?_,?_⟩⟩
   ·rw [h1,ev_uniq (Ev.of (spec_l8Labels.mono a) h1) (specLabels_ev ta)]
   ·rw [h2,ev_uniq (Ev.of (spec_l8Labels.mono b) h2) (specLabels_ev tb)]
   ·rw [h3,ev_uniq (Ev.of (spec_LeftLeaf.mono a) h3) (specLeftLeaf_ev ta)]
   ·rw [h4,ev_uniq (Ev.of (spec_LeftLeaf.mono b) h4) (specLeftLeaf_ev tb)]
  ·rw [if_neg c] at h
   obtain rfl := Option.some.inj h
   have e : u = false := by simpa using c
   subst e
   exact ⟨hu,eu,fun h => by cases h⟩
 ·rw [if_neg hf] at h;cases h
theorem NS.start' {w : World} {ty : TypeId} (x0 x1 x2 : Value) : NS w w.heap.size x0 x1 x2 (w.alloc (.cells #[x0,x1,x2] ty)) :=
 have h : (w.alloc (.cells #[x0,x1,x2] ty)).heap[w.heap.size]? = some (.cells #[x0,x1,x2] ty (0,0)) := (MapKept.heap_alloc w _).1
 ⟨(blk_cell h 0).trans rfl,(blk_cell h 1).trans rfl,(blk_cell h 2).trans rfl,below_alloc (Below.refl _ _) _⟩
end Go.Proofs.Ytngphdmbjenkaaa.X
