/- Part 5 of the proof of FnExactBestMap: what it needs. -/
import Derived.Test.YtelglbebffdaaaaKEBestMap3
namespace Go.Proofs.Ytelglbebffdaaaa.X
open Go.RowKit Go.Proofs.YtelglbebffdaaaaW.PrintWords Go.Proofs.YtelglbebffdaaaaW.PrintLast Go.Proofs.YtelglbebffdaaaaW.PrintMore
attribute [local go_sem] max2_int min2_int max_two min_two max_three min_three max_four min_four   -- for this text's walks alone
set_option linter.unusedVariables false
set_option linter.unusedSimpArgs false
def impl_endOf.l0 : Nat → List (S53) → Int → Int → Option (Int)
 | 0,_,_,_ => none
 | k + 1,x0,x1,x5 => if x5 < (x0.length : Int) then (if 0 ≤ x5 then (if 0 ≤ x1 then (if x1 < (x0.length : Int) then (if ((rd_T53 x0 x5).f1) > ((rd_T53 x0 x1).f1) then (impl_endOf.l0 k x0 x1 (wrap64 (x5 + 1))) else (some x5)) else (none)) else (none)) else (none)) else (some x5)
def impl_endOf.f (k : Nat) (l0 : List (S53)) (a1 : Int) : Option (Int):=impl_endOf.l0 k l0 a1 (wrap64 (a1 + 1))
theorem impl_endOf.mono_l : ∀ k,(∀ y0 y1 y2,LeO (impl_endOf.l0 k y0 y1 y2) (impl_endOf.l0 (k + 1) y0 y1 y2))
 | 0 => fun _ _ _ r h => by simp [impl_endOf.l0] at h
 | k + 1 => by
  have ih0:=impl_endOf.mono_l k
  ·intro y0 y1 y2
   unfold impl_endOf.l0
   repeat' first
   | (with_reducible exact ih0 _ _ _)
   | (with_reducible exact LeO.refl _)
   | (with_reducible exact LeO.none _)
   | (with_reducible refine LeO.ite ?_ ?_)
   | (with_reducible refine LeO.bind ?_ (fun _ => ?_))
   | exact ih0 _ _ _
   | exact LeO.none _
   | refine LeO.ite ?_ ?_
   | refine LeO.bind ?_ (fun _ => ?_)
theorem impl_endOf.mono : ∀ a0 a1 k,LeO (impl_endOf.f k a0 a1) (impl_endOf.f (k + 1) a0 a1):=by
 intro a0 a1 k
 have ih0:=impl_endOf.mono_l k
 unfold impl_endOf.f
 repeat' first
   | (with_reducible exact ih0 _ _ _)
   | (with_reducible exact LeO.refl _)
   | (with_reducible exact LeO.none _)
   | (with_reducible refine LeO.ite ?_ ?_)
   | (with_reducible refine LeO.bind ?_ (fun _ => ?_))
   | exact ih0 _ _ _
   | exact LeO.none _
   | refine LeO.ite ?_ ?_
   | refine LeO.bind ?_ (fun _ => ?_)
set_option maxHeartbeats 8000000 in
set_option maxRecDepth 100000 in
theorem impl_endOf.calls (k : Nat) (A0 : Option Addr) (c0 : Nat) (l0 : List (S53)) (a1 : Int) (r : Int) (w : World) (hr0 : Kd.C k53 w A0 l0.length l0) (hc0 : l0.length ≤ c0) (h : impl_endOf.f k l0 a1 = some r) :
  Calls Try.prog 104 #[.slice A0 l0.length c0,.int .i64 a1] w fun e w' => e = .returned (.int .i64 r) ∧ Drawn0 w w':=by
 have HR0:=Aside0.mk hr0
 have HC0:=Aside0.mk hc0
 clear hr0 hc0
 have H : (impl_endOf.l0 k l0 a1 (wrap64 (a1 + 1))) = some r:=h
 clear h
 have H':=Aside0.mk H
 clear H
 go_enter Try.func104,Try.ntmps104
 go_wp2
 repeat (go_quiet (fail);try go_wp2)
 go_loopg [5] k (fun kq v5 w' => ∃ (x5_1 : Int),v5 = .int .i64 x5_1 ∧ Aside0 (impl_endOf.l0 kq l0 a1 x5_1 = some r) ∧ Aside0 (kq ≤ k) ∧ Drawn0 w w')
 case atStart => exact ⟨(wrap64 (a1 + 1)),eb_,H',⟨Nat.le_refl _⟩,by repeat (first | exact Drawn0.refl _ | apply Drawn0.step)⟩
 case round =>
  clear H'
  try clear c1
  try clear p2
  obtain ⟨x5_1,rfl,HA,HK1,⟨m1,rfl⟩⟩:=hrel
  cases gk with
  | zero => exact absurd HA.out (by simp [impl_endOf.l0])
  | succ k1 =>
   have H:=HA.out
   clear HA
   simp only [impl_endOf.l0] at H
   by_cases c3 : x5_1 < (l0.length : Int)
   ·rw [if_pos c3] at H
    have c3b0 : decide (x5_1 < (l0.length : Int)) = true:=decide_eq_true c3
    clear c3
    by_cases c4 : 0 ≤ x5_1
    ·rw [if_pos c4] at H
     have c4b0 : decide (0 ≤ x5_1) = true:=decide_eq_true c4
     clear c4
     by_cases c5 : 0 ≤ a1
     ·rw [if_pos c5] at H
      have c5b0 : decide (0 ≤ a1) = true:=decide_eq_true c5
      clear c5
      by_cases c6 : a1 < (l0.length : Int)
      ·rw [if_pos c6] at H
       have c6b0 : decide (a1 < (l0.length : Int)) = true:=decide_eq_true c6
       clear c6
       by_cases c7 : ((rd_T53 l0 x5_1).f1) > ((rd_T53 l0 a1).f1)
       ·rw [if_pos c7] at H
        have c7b0 : decide (((rd_T53 l0 a1).f1) < ((rd_T53 l0 x5_1).f1)) = true:=decide_eq_true c7
        clear c7
        have H':=Aside0.mk H
        clear H
        have p276 : 0 ≤ (x5_1 : Int):=od_
        have q276 : x5_1 < (l0.length : Int):=od_
        obtain ⟨ad276,e276,hx276_0,hx276_1⟩:=at_T53 HR0.out x5_1 p276 q276
        cases e276
        replace p276:=eq_true p276
        replace q276:=eq_true q276
        have p277 : 0 ≤ (a1 : Int):=od_
        have q277 : a1 < (l0.length : Int):=od_
        obtain ⟨ad277,e277,hx277_0,hx277_1⟩:=at_T53 HR0.out a1 p277 q277
        obtain rfl : ad276 = ad277:=(by injection e277)
        replace p277:=eq_true p277
        replace q277:=eq_true q277
        go_wp2
        repeat (go_quiet (fail);try go_wp2)
        go_roundg k1
        case measure => have:=HK1.out;omega
        case rel => exact ⟨(wrap64 (x5_1 + 1)),eb_,H',⟨by have:=HK1.out;omega⟩,by repeat (first | exact Drawn0.refl _ | apply Drawn0.step)⟩
       ·rw [if_neg c7] at H
        have c7b0 : decide (((rd_T53 l0 a1).f1) < ((rd_T53 l0 x5_1).f1)) = false:=decide_eq_false c7
        clear c7
        obtain rfl:=Option.some.inj H
        have p276 : 0 ≤ (x5_1 : Int):=od_
        have q276 : x5_1 < (l0.length : Int):=od_
        obtain ⟨ad276,e276,hx276_0,hx276_1⟩:=at_T53 HR0.out x5_1 p276 q276
        cases e276
        replace p276:=eq_true p276
        replace q276:=eq_true q276
        have p277 : 0 ≤ (a1 : Int):=od_
        have q277 : a1 < (l0.length : Int):=od_
        obtain ⟨ad277,e277,hx277_0,hx277_1⟩:=at_T53 HR0.out a1 p277 q277
        obtain rfl : ad276 = ad277:=(by injection e277)
        replace p277:=eq_true p277
        replace q277:=eq_true q277
        go_wp2
        repeat (go_quiet (fail);try go_wp2)
        go_ret
        exact ⟨by first | rfl | (simp;done) | (simp [*];done),by repeat (first | exact Drawn0.refl _ | apply Drawn0.step)⟩
      ·rw [if_neg c6] at H
       exact absurd H (by simp)
     ·rw [if_neg c5] at H
      exact absurd H (by simp)
    ·rw [if_neg c4] at H
     exact absurd H (by simp)
   ·rw [if_neg c3] at H
    have c3b0 : decide (x5_1 < (l0.length : Int)) = false:=decide_eq_false c3
    clear c3
    obtain rfl:=Option.some.inj H
    go_wp2
    repeat (go_quiet (fail);try go_wp2)
    go_ret
    exact ⟨by first | rfl | (simp;done) | (simp [*];done),by repeat (first | exact Drawn0.refl _ | apply Drawn0.step)⟩
end Go.Proofs.Ytelglbebffdaaaa.X
namespace Go.Proofs.Ytelglbebffdaaaa.X
open Go.RowKit Go.Proofs.YtelglbebffdaaaaW.PrintWords Go.Proofs.YtelglbebffdaaaaW.PrintLast Go.Proofs.YtelglbebffdaaaaW.PrintMore
attribute [local go_sem] max2_int min2_int max_two min_two max_three min_three max_four min_four   -- for this text's walks alone
set_option linter.unusedVariables false
set_option linter.unusedSimpArgs false
def spec_l3At.f (k : Nat) (l0 : List (S53)) (a1 : Int) : Option (Bool):=(spec_TreeOk.f k l0).bind fun t135 => (if t135 = true then ((spec_l1In.f a1 0 (wrap64 ((l0.length : Int) - 1))).bind fun t136 => (some t136)) else (some false))
theorem spec_l3At.mono : ∀ a0 a1 k,LeO (spec_l3At.f k a0 a1) (spec_l3At.f (k + 1) a0 a1):=by
 intro a0 a1 k
 unfold spec_l3At.f
 repeat' first
   | (with_reducible exact spec_TreeOk.mono _ _)
   | (with_reducible exact LeO.refl _)
   | (with_reducible exact LeO.none _)
   | (with_reducible refine LeO.ite ?_ ?_)
   | (with_reducible refine LeO.bind ?_ (fun _ => ?_))
   | exact spec_TreeOk.mono _ _
   | exact LeO.none _
   | refine LeO.ite ?_ ?_
   | refine LeO.bind ?_ (fun _ => ?_)
set_option maxHeartbeats 8000000 in
set_option maxRecDepth 100000 in
theorem spec_l3At.calls (k : Nat) (A0 : Option Addr) (c0 : Nat) (l0 : List (S53)) (a1 : Int) (r : Bool) (w : World) (hr0 : Kd.C k53 w A0 l0.length l0) (hc0 : l0.length ≤ c0) (h : spec_l3At.f k l0 a1 = some r) :
  Calls Try.prog 80 #[.slice A0 l0.length c0,.int .i64 a1] w fun e w' => e = .returned (.bool r) ∧ Below w.heap.size w w':=by
 have HR0:=Aside0.mk hr0
 have HC0:=Aside0.mk hc0
 clear hr0 hc0
 have HB:=Aside0.mk (Below.refl w.heap.size w)
 have H : ((spec_TreeOk.f k l0).bind fun t135 => (if t135 = true then ((spec_l1In.f a1 0 (wrap64 ((l0.length : Int) - 1))).bind fun t136 => (some t136)) else (some false))) = some r:=h
 clear h
 replace H:=Option.bind_eq_some_iff.mp H
 obtain ⟨t135,A30,H⟩:=H
 try dsimp only at H
 have A3:=Aside0.mk A30
 clear A30
 by_cases c4 : t135 = true
 ·subst c4
  have H1 : ((spec_l1In.f a1 0 (wrap64 ((l0.length : Int) - 1))).bind fun t136 => (some t136)) = some r:=by rw [if_pos rfl] at H;exact H
  clear H
  have H:=H1
  clear H1
  replace H:=Option.bind_eq_some_iff.mp H
  obtain ⟨t136,A50,H⟩:=H
  replace H : (some t136) = some r:=H
  have A5:=Aside0.mk A50
  clear A50
  obtain rfl:=Option.some.inj H
  go_enter Try.func80,Try.ntmps80
  go_wp2_with (first | ((with_reducible refine gate_callee (f:=45) rfl ?_);refine gL_ (some 6) Try.func45 #[.slice A0 l0.length c0] ?_;(with_reducible refine (spec_TreeOk.calls k _ _ l0 true _ (cc_ HR0.out) HC0.out A3.out).mono ?_);rintro e w6 ⟨rfl,hb⟩;refine ⟨_,rfl,?_⟩;replace HB:=tB_ HB hb;(try clear hb)) | (go_at_call 52;(with_reducible refine (spec_l1In.calls a1 0 (wrap64 ((l0.length : Int) - 1)) t136 _ A5.out).mono ?_);rintro e w' ⟨rfl,⟨nd,rfl⟩⟩))
  go_ret
  exact ⟨ea_,(bl_ HB).out⟩
 ·replace c4:=Bool.eq_false_iff.mpr c4
  subst c4
  have H1 : (some false) = some r:=by rw [if_neg (show ¬ (false = true) by decide)] at H;exact H
  clear H
  have H:=H1
  clear H1
  obtain rfl:=Option.some.inj H
  go_enter Try.func80,Try.ntmps80
  go_wp2_with (first | ((with_reducible refine gate_callee (f:=45) rfl ?_);refine gL_ (some 6) Try.func45 #[.slice A0 l0.length c0] ?_;(with_reducible refine (spec_TreeOk.calls k _ _ l0 false _ (cc_ HR0.out) HC0.out A3.out).mono ?_);rintro e w7 ⟨rfl,hb⟩;refine ⟨_,rfl,?_⟩;replace HB:=tB_ HB hb;(try clear hb)))
  go_ret
  exact ⟨ea_,(bl_ HB).out⟩
end Go.Proofs.Ytelglbebffdaaaa.X
namespace Go.Proofs.Ytelglbebffdaaaa.X
open Go.RowKit Go.Proofs.YtelglbebffdaaaaW.PrintWords Go.Proofs.YtelglbebffdaaaaW.PrintLast Go.Proofs.YtelglbebffdaaaaW.PrintMore
attribute [local go_sem] max2_int min2_int max_two min_two max_three min_three max_four min_four   -- for this text's walks alone
set_option linter.unusedVariables false
set_option linter.unusedSimpArgs false
def spec_EndOf.l0 : Nat → List (S53) → Int → Int → Option (Int)
 | 0,_,_,_ => none
 | k + 1,x0,x1,x5 => if x5 < (x0.length : Int) then (if 0 ≤ x5 then (if 0 ≤ x1 then (if x1 < (x0.length : Int) then (if ((rd_T53 x0 x5).f1) > ((rd_T53 x0 x1).f1) then (spec_EndOf.l0 k x0 x1 (wrap64 (x5 + 1))) else (some x5)) else (none)) else (none)) else (none)) else (some x5)
def spec_EndOf.f (k : Nat) (l0 : List (S53)) (a1 : Int) : Option (Int):=(spec_l3At.f k l0 a1).bind fun t137 => (if t137 = true then (spec_EndOf.l0 k l0 a1 (wrap64 (a1 + 1))) else (some (-1)))
theorem spec_EndOf.mono_l : ∀ k,(∀ y0 y1 y2,LeO (spec_EndOf.l0 k y0 y1 y2) (spec_EndOf.l0 (k + 1) y0 y1 y2))
 | 0 => fun _ _ _ r h => by simp [spec_EndOf.l0] at h
 | k + 1 => by
  have ih0:=spec_EndOf.mono_l k
  ·intro y0 y1 y2
   unfold spec_EndOf.l0
   repeat' first
   | (with_reducible exact ih0 _ _ _)
   | (with_reducible exact spec_l3At.mono _ _ _)
   | (with_reducible exact LeO.refl _)
   | (with_reducible exact LeO.none _)
   | (with_reducible refine LeO.ite ?_ ?_)
   | (with_reducible refine LeO.bind ?_ (fun _ => ?_))
   | exact ih0 _ _ _
   | exact spec_l3At.mono _ _ _
   | exact LeO.none _
   | refine LeO.ite ?_ ?_
   | refine LeO.bind ?_ (fun _ => ?_)
theorem spec_EndOf.mono : ∀ a0 a1 k,LeO (spec_EndOf.f k a0 a1) (spec_EndOf.f (k + 1) a0 a1):=by
 intro a0 a1 k
 have ih0:=spec_EndOf.mono_l k
 unfold spec_EndOf.f
 repeat' first
   | (with_reducible exact ih0 _ _ _)
   | (with_reducible exact spec_l3At.mono _ _ _)
   | (with_reducible exact LeO.refl _)
   | (with_reducible exact LeO.none _)
   | (with_reducible refine LeO.ite ?_ ?_)
   | (with_reducible refine LeO.bind ?_ (fun _ => ?_))
   | exact ih0 _ _ _
   | exact spec_l3At.mono _ _ _
   | exact LeO.none _
   | refine LeO.ite ?_ ?_
   | refine LeO.bind ?_ (fun _ => ?_)
set_option maxHeartbeats 8000000 in
set_option maxRecDepth 100000 in
theorem spec_EndOf.calls (k : Nat) (A0 : Option Addr) (c0 : Nat) (l0 : List (S53)) (a1 : Int) (r : Int) (w : World) (hr0 : Kd.C k53 w A0 l0.length l0) (hc0 : l0.length ≤ c0) (h : spec_EndOf.f k l0 a1 = some r) :
  Calls Try.prog 79 #[.slice A0 l0.length c0,.int .i64 a1] w fun e w' => e = .returned (.int .i64 r) ∧ Below w.heap.size w w':=by
 have HR0:=Aside0.mk hr0
 have HC0:=Aside0.mk hc0
 clear hr0 hc0
 have HB:=Aside0.mk (Below.refl w.heap.size w)
 have H : ((spec_l3At.f k l0 a1).bind fun t137 => (if t137 = true then (spec_EndOf.l0 k l0 a1 (wrap64 (a1 + 1))) else (some (-1)))) = some r:=h
 clear h
 replace H:=Option.bind_eq_some_iff.mp H
 obtain ⟨t137,A30,H⟩:=H
 replace H : (if t137 = true then (spec_EndOf.l0 k l0 a1 (wrap64 (a1 + 1))) else (some (-1))) = some r:=H
 have A3:=Aside0.mk A30
 clear A30
 by_cases c4 : t137 = true
 ·subst c4
  have H1 : (spec_EndOf.l0 k l0 a1 (wrap64 (a1 + 1))) = some r:=by rw [if_pos rfl] at H;exact H
  clear H
  have H:=H1
  clear H1
  have H':=Aside0.mk H
  clear H
  go_enter Try.func79,Try.ntmps79
  go_wp2_with (first | (go_at_call 80;(with_reducible refine (spec_l3At.calls k _ _ l0 a1 true _ (cc_ HR0.out) HC0.out A3.out).mono ?_);rintro e w5 ⟨rfl,hb⟩;replace HB:=tB_ HB hb;(try clear hb)))
  repeat (go_quiet (first | (go_at_call 80;(with_reducible refine (spec_l3At.calls k _ _ l0 a1 true _ (cc_ HR0.out) HC0.out A3.out).mono ?_);rintro e w5 ⟨rfl,hb⟩;replace HB:=tB_ HB hb;(try clear hb)));try go_wp2_with (first | (go_at_call 80;(with_reducible refine (spec_l3At.calls k _ _ l0 a1 true _ (cc_ HR0.out) HC0.out A3.out).mono ?_);rintro e w5 ⟨rfl,hb⟩;replace HB:=tB_ HB hb;(try clear hb))))
  go_loopg [5] k (fun kq v5 w' => ∃ (x5_1 : Int),v5 = .int .i64 x5_1 ∧ Aside0 (spec_EndOf.l0 kq l0 a1 x5_1 = some r) ∧ Aside0 (kq ≤ k) ∧ Aside0 (Below w.heap.size w w'))
  case atStart => exact ⟨(wrap64 (a1 + 1)),eb_,H',⟨Nat.le_refl _⟩,bl_ HB⟩
  case round =>
   clear H'
   try clear p2
   try clear c4
   obtain ⟨x5_1,rfl,HA,HK1,HB⟩:=hrel
   cases gk with
   | zero => exact absurd HA.out (by simp [spec_EndOf.l0])
   | succ k1 =>
    have H:=HA.out
    clear HA
    simp only [spec_EndOf.l0] at H
    by_cases c6 : x5_1 < (l0.length : Int)
    ·rw [if_pos c6] at H
     have c6b0 : decide (x5_1 < (l0.length : Int)) = true:=decide_eq_true c6
     clear c6
     by_cases c7 : 0 ≤ x5_1
     ·rw [if_pos c7] at H
      have c7b0 : decide (0 ≤ x5_1) = true:=decide_eq_true c7
      clear c7
      by_cases c8 : 0 ≤ a1
      ·rw [if_pos c8] at H
       have c8b0 : decide (0 ≤ a1) = true:=decide_eq_true c8
       clear c8
       by_cases c9 : a1 < (l0.length : Int)
       ·rw [if_pos c9] at H
        have c9b0 : decide (a1 < (l0.length : Int)) = true:=decide_eq_true c9
        clear c9
        by_cases c10 : ((rd_T53 l0 x5_1).f1) > ((rd_T53 l0 a1).f1)
        ·rw [if_pos c10] at H
         have c10b0 : decide (((rd_T53 l0 a1).f1) < ((rd_T53 l0 x5_1).f1)) = true:=decide_eq_true c10
         clear c10
         have H':=Aside0.mk H
         clear H
         have p138 : 0 ≤ (x5_1 : Int):=od_
         have q138 : x5_1 < (l0.length : Int):=od_
         obtain ⟨ad138,e138,hx138_0,hx138_1⟩:=at_T53 HR0.out x5_1 p138 q138
         cases e138
         replace hx138_0:=ce_ HB hx138_0
         replace hx138_1:=ce_ HB hx138_1
         replace p138:=eq_true p138
         replace q138:=eq_true q138
         have p139 : 0 ≤ (a1 : Int):=od_
         have q139 : a1 < (l0.length : Int):=od_
         obtain ⟨ad139,e139,hx139_0,hx139_1⟩:=at_T53 HR0.out a1 p139 q139
         obtain rfl : ad138 = ad139:=(by injection e139)
         replace hx139_0:=ce_ HB hx139_0
         replace hx139_1:=ce_ HB hx139_1
         replace p139:=eq_true p139
         replace q139:=eq_true q139
         go_wp2
         repeat (go_quiet (fail);try go_wp2)
         go_roundg k1
         case measure => have:=HK1.out;omega
         case rel => exact ⟨(wrap64 (x5_1 + 1)),eb_,H',⟨by have:=HK1.out;omega⟩,bl_ HB⟩
        ·rw [if_neg c10] at H
         have c10b0 : decide (((rd_T53 l0 a1).f1) < ((rd_T53 l0 x5_1).f1)) = false:=decide_eq_false c10
         clear c10
         obtain rfl:=Option.some.inj H
         have p138 : 0 ≤ (x5_1 : Int):=od_
         have q138 : x5_1 < (l0.length : Int):=od_
         obtain ⟨ad138,e138,hx138_0,hx138_1⟩:=at_T53 HR0.out x5_1 p138 q138
         cases e138
         replace hx138_0:=ce_ HB hx138_0
         replace hx138_1:=ce_ HB hx138_1
         replace p138:=eq_true p138
         replace q138:=eq_true q138
         have p139 : 0 ≤ (a1 : Int):=od_
         have q139 : a1 < (l0.length : Int):=od_
         obtain ⟨ad139,e139,hx139_0,hx139_1⟩:=at_T53 HR0.out a1 p139 q139
         obtain rfl : ad138 = ad139:=(by injection e139)
         replace hx139_0:=ce_ HB hx139_0
         replace hx139_1:=ce_ HB hx139_1
         replace p139:=eq_true p139
         replace q139:=eq_true q139
         go_wp2
         repeat (go_quiet (fail);try go_wp2)
         go_ret
         exact ⟨ea_,(bl_ HB).out⟩
       ·rw [if_neg c9] at H
        exact absurd H (by simp)
      ·rw [if_neg c8] at H
       exact absurd H (by simp)
     ·rw [if_neg c7] at H
      exact absurd H (by simp)
    ·rw [if_neg c6] at H
     have c6b0 : decide (x5_1 < (l0.length : Int)) = false:=decide_eq_false c6
     clear c6
     obtain rfl:=Option.some.inj H
     go_wp2
     repeat (go_quiet (fail);try go_wp2)
     go_ret
     exact ⟨ea_,(bl_ HB).out⟩
 ·replace c4:=Bool.eq_false_iff.mpr c4
  subst c4
  have H1 : (some (-1)) = some r:=by rw [if_neg (show ¬ (false = true) by decide)] at H;exact H
  clear H
  have H:=H1
  clear H1
  obtain rfl:=Option.some.inj H
  go_enter Try.func79,Try.ntmps79
  go_wp2_with (first | (go_at_call 80;(with_reducible refine (spec_l3At.calls k _ _ l0 a1 false _ (cc_ HR0.out) HC0.out A3.out).mono ?_);rintro e w11 ⟨rfl,hb⟩;replace HB:=tB_ HB hb;(try clear hb)))
  repeat (go_quiet (first | (go_at_call 80;(with_reducible refine (spec_l3At.calls k _ _ l0 a1 false _ (cc_ HR0.out) HC0.out A3.out).mono ?_);rintro e w11 ⟨rfl,hb⟩;replace HB:=tB_ HB hb;(try clear hb)));try go_wp2_with (first | (go_at_call 80;(with_reducible refine (spec_l3At.calls k _ _ l0 a1 false _ (cc_ HR0.out) HC0.out A3.out).mono ?_);rintro e w11 ⟨rfl,hb⟩;replace HB:=tB_ HB hb;(try clear hb))))
  go_ret
  exact ⟨ea_,(bl_ HB).out⟩
end Go.Proofs.Ytelglbebffdaaaa.X
namespace Go.Proofs.Ytelglbebffdaaaa.X
open Go.RowKit Go.Proofs.YtelglbebffdaaaaW.PrintWords Go.Proofs.YtelglbebffdaaaaW.PrintLast Go.Proofs.YtelglbebffdaaaaW.PrintMore
set_option linter.unusedVariables false
set_option linter.unusedSimpArgs false
def PredB {α : Type} (P : Program) (g : Nat) (lb : Array Value) (enc : α → Value) (p : α → Bool) (w : World) : Prop :=
 ∀ (W : World),Below w.heap.size w W → ∀ x,Calls P g (#[enc x] ++ lb) W fun e w' => e = .returned (.bool (p x)) ∧ Below W.heap.size W w'
set_option maxHeartbeats 2000000 in
theorem indexFunc_int (g : Nat) (lb : Array Value) (p : Int → Bool) (eg : ∀ args w,(callFunc g args).run Try.prog w = .ok (.enter g args) w)
  (A0 : Option Addr) (c0 : Nat) (l0 : List Int) (w : World) (hp : PredB Try.prog g lb (Value.int .i64) p w) (hr0 : Kd.C (Kd.int .i64) w A0 l0.length l0) (hc0 : l0.length ≤ c0) :
  Calls Try.prog 117 #[.slice A0 l0.length c0,.func (.func g) #[] lb] w fun e w' => ∃ n : Int,e = .returned (.int .i64 n) ∧ Aside0 (decide (0 ≤ n) = l0.any p) ∧ Below w.heap.size w w':=by
 have HR0:=Aside0.mk hr0
 have HP:=Aside0.mk hp
 have hm:=hr0.2.1
 clear hr0 hc0 hp
 go_enter Try.func117,Try.ntmps117
 go_wp2
 go_loopg [5,8] l0.length (fun gg _ s8 wr => ∃ kk : Nat,kk ≤ l0.length ∧ l0.length - kk ≤ gg ∧ s8 = .int .i64 kk ∧ Aside0 ((l0.take kk).any p = false) ∧ Aside0 (Below w.heap.size w wr))
 case atStart => exact ⟨0,Nat.zero_le _,by omega,rfl,⟨by simp⟩,⟨Below.refl _ _⟩⟩
 case round =>
  obtain ⟨kk,hkk,hg,rfl,AN,HB⟩:=hrel
  by_cases hlt : kk < l0.length
  ·have hcl:=HP.out wr HB.out (rd l0 kk)
   have HC:=Aside0.mk hcl
   clear hcl
   obtain ⟨ad,e,hx⟩:=Kd.at_int (Kd.C_below HR0.out HB.out) kk (by omega) (by omega)
   cases e
   have hany : (l0.take (kk + 1)).any p = ((l0.take kk).any p || p (rd l0 kk)):=by
    rw [List.take_succ_eq_append_getElem hlt,List.any_append]
    simp [rd,List.getD_eq_getElem?_getD,List.getElem?_eq_getElem hlt]
   have HN:=Aside0.mk hany
   clear hany
   have hltz : (kk : Int) < (l0.length : Int):=by omega
   rw [Int.toNat_natCast] at hx
   cases hq : p (rd l0 kk) with
   | true =>
    have HQ:=Aside0.mk hq
    clear hq
    go_wp2_with fail
    refine HC.out.mono ?_
    rintro e w' ⟨rfl,hb⟩
    have HBB:=Aside0.mk (HB.out.trans (hb.mono (below_size HB.out)))
    clear hb
    rw [HQ.out]
    go_wp2
    go_ret
    refine ⟨_,rfl,⟨?_⟩,HBB.out⟩
    have h1:=HN.out
    rw [HQ.out,Bool.or_true] at h1
    rw [← List.take_append_drop (kk + 1) l0,List.any_append,h1]
    simp
   | false =>
    have HQ:=Aside0.mk hq
    clear hq
    go_wp2_with fail
    refine HC.out.mono ?_
    rintro e w' ⟨rfl,hb⟩
    have HBB:=Aside0.mk (HB.out.trans (hb.mono (below_size HB.out)))
    clear hb
    rw [HQ.out]
    go_wp2
    go_roundg (l0.length - (kk + 1))
    case measure => omega
    case rel => exact ⟨kk + 1,by omega,by omega,by go_num,⟨by rw [HN.out,AN.out,HQ.out];rfl⟩,HBB⟩
  ·have hltz : ¬ (kk : Int) < (l0.length : Int):=by omega
   have e : kk = l0.length:=by omega
   have AN2 : Aside0 (l0.any p = false):=⟨by have:=AN.out;rw [e,List.take_length] at this;exact this⟩
   clear AN e
   go_wp2
   go_ret
   exact ⟨-1,rfl,⟨by rw [AN2.out];decide⟩,HB.out⟩
set_option maxHeartbeats 2000000 in
theorem containsFunc_int (g : Nat) (lb : Array Value) (p : Int → Bool) (eg : ∀ args w,(callFunc g args).run Try.prog w = .ok (.enter g args) w)
  (A0 : Option Addr) (c0 : Nat) (l0 : List Int) (w : World) (hp : PredB Try.prog g lb (Value.int .i64) p w) (hr0 : Kd.C (Kd.int .i64) w A0 l0.length l0) (hc0 : l0.length ≤ c0) :
  Calls Try.prog 112 #[.slice A0 l0.length c0,.func (.func g) #[] lb] w fun e w' => e = .returned (.bool (l0.any p)) ∧ Below w.heap.size w w':=by
 have HX:=Aside0.mk (indexFunc_int g lb p eg A0 c0 l0 w hp hr0 hc0)
 clear hr0 hc0 hp
 go_enter Try.func112,Try.ntmps112
 go_wp2_with (go_at_call 117;refine HX.out.mono ?_;rintro e w' ⟨n,rfl,hn,HB⟩)
 go_ret
 exact ⟨by rw [← hn.out];rfl,HB⟩
end Go.Proofs.Ytelglbebffdaaaa.X
namespace Go.Proofs.Ytelglbebffdaaaa.X
open Go.RowKit Go.Proofs.YtelglbebffdaaaaW.PrintWords Go.Proofs.YtelglbebffdaaaaW.PrintLast Go.Proofs.YtelglbebffdaaaaW.PrintMore
set_option linter.unusedVariables false
set_option linter.unusedSimpArgs false
def outP (hi : Int) (x : Int) : Bool:=!(decide (0 ≤ x ∧ x ≤ hi))
theorem within_out (x hi : Int) : impl_within.f x 0 hi = some (!outP hi x):=by
 unfold impl_within.f outP
 by_cases h : 0 ≤ x
 ·rw [if_pos h];simp [h]
 ·rw [if_neg h];simp [h]
end Go.Proofs.Ytelglbebffdaaaa.X
namespace Go.Proofs.Ytelglbebffdaaaa.X
open Go.RowKit Go.Proofs.YtelglbebffdaaaaW.PrintWords Go.Proofs.YtelglbebffdaaaaW.PrintLast Go.Proofs.YtelglbebffdaaaaW.PrintMore
set_option linter.unusedVariables false
set_option linter.unusedSimpArgs false
theorem pricesLit (x : Int) (W : World) : Calls Try.prog 113 #[.int .i64 x] W fun e w' => e = .returned (.bool (outP 1000 x)) ∧ Below W.heap.size W w':=by
 have H:=Aside0.mk (impl_within.calls x 0 1000 _ W (within_out x 1000))
 generalize hb : outP 1000 x = b at H
 clear hb
 go_enter Try.func113,Try.ntmps113
 go_wp2_with (go_at_call 100;refine H.out.mono ?_;rintro e w' ⟨rfl,⟨n,rfl⟩⟩)
 go_ret
 exact ⟨by simp,pw_below_drewN (Below.refl _ _) _⟩
def impl_pricesOk.f (l0 : List Int) (a1 : Int) : Option Bool:=some (decide ((l0.length : Int) = a1) && !(l0.any (outP 1000)))
set_option maxHeartbeats 2000000 in
theorem impl_pricesOk.calls (A0 : Option Addr) (c0 : Nat) (l0 : List Int) (a1 : Int) (r : Bool) (w : World) (hr0 : Kd.C (Kd.int .i64) w A0 l0.length l0) (hc0 : l0.length ≤ c0) (h : impl_pricesOk.f l0 a1 = some r) :
  Calls Try.prog 99 #[.slice A0 l0.length c0,.int .i64 a1] w fun e w' => e = .returned (.bool r) ∧ Below w.heap.size w w':=by
 obtain rfl:=Option.some.inj h
 clear h
 have HX:=Aside0.mk (containsFunc_int 113 #[] (outP 1000) (fun args w => enters_ Try.func113 (by kernel_rfl) rfl args w) A0 c0 l0 w (fun W _ x => pricesLit x W) hr0 hc0)
 clear hr0 hc0
 by_cases c : (l0.length : Int) = a1
 ·have c1 : ((l0.length : Int) == a1) = true:=by simpa using c
  have C:=Aside0.mk c
  clear c
  go_enter Try.func99,Try.ntmps99
  go_wp2_with (go_at_call 112;refine HX.out.mono ?_;rintro e w' ⟨rfl,HB⟩)
  go_ret
  exact ⟨by simp [C.out],HB⟩
 ·have c1 : ((l0.length : Int) == a1) = false:=by simpa using c
  have C:=Aside0.mk c
  clear c
  go_enter Try.func99,Try.ntmps99
  go_wp2
  go_ret
  exact ⟨by simp [C.out],Below.refl _ _⟩
end Go.Proofs.Ytelglbebffdaaaa.X
namespace Go.Proofs.Ytelglbebffdaaaa.X
open Go.RowKit Go.Proofs.YtelglbebffdaaaaW.PrintWords Go.Proofs.YtelglbebffdaaaaW.PrintLast Go.Proofs.YtelglbebffdaaaaW.PrintMore
attribute [local go_sem] max2_int min2_int max_two min_two max_three min_three max_four min_four   -- for this text's walks alone
set_option linter.unusedVariables false
set_option linter.unusedSimpArgs false
def spec_l7In.l0 : Nat → List Int → Int → Int → Option (Bool)
 | 0,_,_,_ => none
 | k + 1,x0,x1,x5 => if x5 < (x0.length : Int) then (if 0 ≤ x5 then ((spec_l1In.f (rd x0 x5) 0 1000).bind fun t115 => (if t115 = true then (spec_l7In.l0 k x0 x1 (wrap64 (x5 + 1))) else (some false))) else (none)) else (some ((x0.length : Int) == x1))
def spec_l7In.f (k : Nat) (l0 : List Int) (a1 : Int) : Option (Bool):=spec_l7In.l0 k l0 a1 0
theorem spec_l7In.mono_l : ∀ k,(∀ y0 y1 y2,LeO (spec_l7In.l0 k y0 y1 y2) (spec_l7In.l0 (k + 1) y0 y1 y2))
 | 0 => fun _ _ _ r h => by simp [spec_l7In.l0] at h
 | k + 1 => by
  have ih0:=spec_l7In.mono_l k
  ·intro y0 y1 y2
   unfold spec_l7In.l0
   repeat' first
   | (with_reducible exact ih0 _ _ _)
   | (with_reducible exact LeO.refl _)
   | (with_reducible exact LeO.none _)
   | (with_reducible refine LeO.ite ?_ ?_)
   | (with_reducible refine LeO.bind ?_ (fun _ => ?_))
   | exact ih0 _ _ _
   | exact LeO.none _
   | refine LeO.ite ?_ ?_
   | refine LeO.bind ?_ (fun _ => ?_)
theorem spec_l7In.mono : ∀ a0 a1 k,LeO (spec_l7In.f k a0 a1) (spec_l7In.f (k + 1) a0 a1):=by
 intro a0 a1 k
 have ih0:=spec_l7In.mono_l k
 unfold spec_l7In.f
 repeat' first
   | (with_reducible exact ih0 _ _ _)
   | (with_reducible exact LeO.refl _)
   | (with_reducible exact LeO.none _)
   | (with_reducible refine LeO.ite ?_ ?_)
   | (with_reducible refine LeO.bind ?_ (fun _ => ?_))
   | exact ih0 _ _ _
   | exact LeO.none _
   | refine LeO.ite ?_ ?_
   | refine LeO.bind ?_ (fun _ => ?_)
set_option maxHeartbeats 8000000 in
set_option maxRecDepth 100000 in
theorem spec_l7In.calls (k : Nat) (A0 : Option Addr) (c0 : Nat) (l0 : List Int) (a1 : Int) (r : Bool) (w : World) (hr0 : Kd.C (Kd.int .i64) w A0 l0.length l0) (hc0 : l0.length ≤ c0) (h : spec_l7In.f k l0 a1 = some r) :
  Calls Try.prog 77 #[.slice A0 l0.length c0,.int .i64 a1] w fun e w' => e = .returned (.bool r) ∧ Drawn0 w w':=by
 have HR0:=Aside0.mk hr0
 have HC0:=Aside0.mk hc0
 clear hr0 hc0
 have H : (spec_l7In.l0 k l0 a1 0) = some r:=h
 clear h
 have H':=Aside0.mk H
 clear H
 go_enter Try.func77,Try.ntmps77
 go_wp2
 go_loopg [5] k (fun kq v5 w' => ∃ (x5_1 : Int),v5 = .int .i64 x5_1 ∧ Aside0 (spec_l7In.l0 kq l0 a1 x5_1 = some r) ∧ Aside0 (kq ≤ k) ∧ Drawn0 w w')
 case atStart => exact ⟨(0),eb_,H',⟨Nat.le_refl _⟩,by repeat (first | exact Drawn0.refl _ | apply Drawn0.step)⟩
 case round =>
  clear H'
  try clear p2
  obtain ⟨x5_1,rfl,HA,HK1,⟨m1,rfl⟩⟩:=hrel
  cases gk with
  | zero => exact absurd HA.out (by simp [spec_l7In.l0])
  | succ k1 =>
   have H:=HA.out
   clear HA
   simp only [spec_l7In.l0] at H
   by_cases c3 : x5_1 < (l0.length : Int)
   ·rw [if_pos c3] at H
    have c3b0 : decide (x5_1 < (l0.length : Int)) = true:=decide_eq_true c3
    clear c3
    by_cases c4 : 0 ≤ x5_1
    ·rw [if_pos c4] at H
     have c4b0 : decide (0 ≤ x5_1) = true:=decide_eq_true c4
     clear c4
     replace H:=Option.bind_eq_some_iff.mp H
     obtain ⟨t115,A50,H⟩:=H
     replace H : (if t115 = true then (spec_l7In.l0 k1 l0 a1 (wrap64 (x5_1 + 1))) else (some false)) = some r:=H
     have A5:=Aside0.mk A50
     clear A50
     by_cases c6 : t115 = true
     ·subst c6
      have H1 : (spec_l7In.l0 k1 l0 a1 (wrap64 (x5_1 + 1))) = some r:=by rw [if_pos rfl] at H;exact H
      clear H
      have H:=H1
      clear H1
      have H':=Aside0.mk H
      clear H
      have p114 : 0 ≤ (x5_1 : Int):=od_
      have q114 : x5_1 < (l0.length : Int):=od_
      obtain ⟨ad114,e114,hx114_0⟩:=Kd.at_int HR0.out x5_1 p114 q114
      cases e114
      replace p114:=eq_true p114
      replace q114:=eq_true q114
      go_wp2_with (first | ((with_reducible refine gate_callee (f:=52) rfl ?_);refine gL_ (some 16) Try.func52 #[.int .i64 (rd l0 x5_1),.int .i64 0,.int .i64 1000] ?_;(with_reducible refine (spec_l1In.calls (rd l0 x5_1) 0 1000 true _ A5.out).mono ?_);rintro e w' ⟨rfl,⟨nd,rfl⟩⟩;refine ⟨_,rfl,?_⟩))
      go_roundg k1
      case measure => have:=HK1.out;omega
      case rel => exact ⟨(wrap64 (x5_1 + 1)),eb_,H',⟨by have:=HK1.out;omega⟩,by repeat (first | exact Drawn0.refl _ | apply Drawn0.step)⟩
     ·replace c6:=Bool.eq_false_iff.mpr c6
      subst c6
      have H1 : (some false) = some r:=by rw [if_neg (show ¬ (false = true) by decide)] at H;exact H
      clear H
      have H:=H1
      clear H1
      obtain rfl:=Option.some.inj H
      have p114 : 0 ≤ (x5_1 : Int):=od_
      have q114 : x5_1 < (l0.length : Int):=od_
      obtain ⟨ad114,e114,hx114_0⟩:=Kd.at_int HR0.out x5_1 p114 q114
      cases e114
      replace p114:=eq_true p114
      replace q114:=eq_true q114
      go_wp2_with (first | ((with_reducible refine gate_callee (f:=52) rfl ?_);refine gL_ (some 16) Try.func52 #[.int .i64 (rd l0 x5_1),.int .i64 0,.int .i64 1000] ?_;(with_reducible refine (spec_l1In.calls (rd l0 x5_1) 0 1000 false _ A5.out).mono ?_);rintro e w' ⟨rfl,⟨nd,rfl⟩⟩;refine ⟨_,rfl,?_⟩))
      go_ret
      exact ⟨by first | rfl | (simp;done) | (simp [*];done),by repeat (first | exact Drawn0.refl _ | apply Drawn0.step)⟩
    ·rw [if_neg c4] at H
     exact absurd H (by simp)
   ·rw [if_neg c3] at H
    have c3b0 : decide (x5_1 < (l0.length : Int)) = false:=decide_eq_false c3
    clear c3
    obtain rfl:=Option.some.inj H
    go_wp2
    go_ret
    exact ⟨by first | rfl | (simp;done) | (simp [*];done),by repeat (first | exact Drawn0.refl _ | apply Drawn0.step)⟩
end Go.Proofs.Ytelglbebffdaaaa.X
namespace Go.Proofs.Ytelglbebffdaaaa.X
open Go.RowKit Go.Proofs.YtelglbebffdaaaaW.PrintWords Go.Proofs.YtelglbebffdaaaaW.PrintLast Go.Proofs.YtelglbebffdaaaaW.PrintMore
attribute [local go_sem] max2_int min2_int max_two min_two max_three min_three max_four min_four   -- for this text's walks alone
set_option linter.unusedVariables false
set_option linter.unusedSimpArgs false
mutual
def spec_CostOk.j0 : Nat → Bool → List Int → List Int → List Int → Option (Bool)
 | 0,_,_,_,_ => none
 | k + 1,x19,x117000,x117001,x117002 => if x19 = true then (some false) else (spec_CostOk.l0 k 0 x117000 x117001 x117002)
def spec_CostOk.l0 : Nat → Int → List Int → List Int → List Int → Option (Bool)
 | 0,_,_,_,_ => none
 | k + 1,x3,x117000,x117001,x117002 => if x3 < 6 then (if 0 ≤ (wrap64 ((wrap64 (x3 * 6)) + x3)) then (if (wrap64 ((wrap64 (x3 * 6)) + x3)) < (x117002.length : Int) then (if (rd x117002 (wrap64 ((wrap64 (x3 * 6)) + x3))) = 0 then (spec_CostOk.l0 k (wrap64 (x3 + 1)) x117000 x117001 x117002) else (some false)) else (none)) else (none)) else (some true)
end
def spec_CostOk.f (k : Nat) (l0_0 : List Int) (l0_1 : List Int) (l0_2 : List Int) : Option (Bool):=(spec_l7In.f k l0_0 6).bind fun t117 => (if t117 = true then ((spec_l7In.f k l0_1 6).bind fun t118 => (if t118 = true then ((spec_l7In.f k l0_2 36).bind fun t119 => (spec_CostOk.j0 k (!t119) l0_0 l0_1 l0_2)) else (spec_CostOk.j0 k true l0_0 l0_1 l0_2))) else (spec_CostOk.j0 k true l0_0 l0_1 l0_2))
theorem spec_CostOk.mono_l : ∀ k,(∀ y0 y1 y2 y3,LeO (spec_CostOk.j0 k y0 y1 y2 y3) (spec_CostOk.j0 (k + 1) y0 y1 y2 y3)) ∧ (∀ y0 y1 y2 y3,LeO (spec_CostOk.l0 k y0 y1 y2 y3) (spec_CostOk.l0 (k + 1) y0 y1 y2 y3))
 | 0 => ⟨fun _ _ _ _ r h => by simp [spec_CostOk.j0] at h,fun _ _ _ _ r h => by simp [spec_CostOk.l0] at h⟩
 | k + 1 => by
  obtain ⟨ih0,ih1⟩:=spec_CostOk.mono_l k
  refine ⟨?_,?_⟩
  ·intro y0 y1 y2 y3
   unfold spec_CostOk.j0
   repeat' first
   | (with_reducible exact ih0 _ _ _ _)
   | (with_reducible exact ih1 _ _ _ _)
   | (with_reducible exact spec_l7In.mono _ _ _)
   | (with_reducible exact LeO.refl _)
   | (with_reducible exact LeO.none _)
   | (with_reducible refine LeO.ite ?_ ?_)
   | (with_reducible refine LeO.bind ?_ (fun _ => ?_))
   | exact ih0 _ _ _ _
   | exact ih1 _ _ _ _
   | exact spec_l7In.mono _ _ _
   | exact LeO.none _
   | refine LeO.ite ?_ ?_
   | refine LeO.bind ?_ (fun _ => ?_)
  ·intro y0 y1 y2 y3
   unfold spec_CostOk.l0
   repeat' first
   | (with_reducible exact ih0 _ _ _ _)
   | (with_reducible exact ih1 _ _ _ _)
   | (with_reducible exact spec_l7In.mono _ _ _)
   | (with_reducible exact LeO.refl _)
   | (with_reducible exact LeO.none _)
   | (with_reducible refine LeO.ite ?_ ?_)
   | (with_reducible refine LeO.bind ?_ (fun _ => ?_))
   | exact ih0 _ _ _ _
   | exact ih1 _ _ _ _
   | exact spec_l7In.mono _ _ _
   | exact LeO.none _
   | refine LeO.ite ?_ ?_
   | refine LeO.bind ?_ (fun _ => ?_)
theorem spec_CostOk.mono : ∀ a0 a1 a2 k,LeO (spec_CostOk.f k a0 a1 a2) (spec_CostOk.f (k + 1) a0 a1 a2):=by
 intro a0 a1 a2 k
 obtain ⟨ih0,ih1⟩:=spec_CostOk.mono_l k
 unfold spec_CostOk.f
 repeat' first
   | (with_reducible exact ih0 _ _ _ _)
   | (with_reducible exact ih1 _ _ _ _)
   | (with_reducible exact spec_l7In.mono _ _ _)
   | (with_reducible exact LeO.refl _)
   | (with_reducible exact LeO.none _)
   | (with_reducible refine LeO.ite ?_ ?_)
   | (with_reducible refine LeO.bind ?_ (fun _ => ?_))
   | exact ih0 _ _ _ _
   | exact ih1 _ _ _ _
   | exact spec_l7In.mono _ _ _
   | exact LeO.none _
   | refine LeO.ite ?_ ?_
   | refine LeO.bind ?_ (fun _ => ?_)
set_option maxHeartbeats 8000000 in
set_option maxRecDepth 100000 in
theorem spec_CostOk.calls (k : Nat) (A0_0 : Option Addr) (c0_0 : Nat) (l0_0 : List Int) (A0_1 : Option Addr) (c0_1 : Nat) (l0_1 : List Int) (A0_2 : Option Addr) (c0_2 : Nat) (l0_2 : List Int) (r : Bool) (w : World) (hr0_0 : Kd.C (Kd.int .i64) w A0_0 l0_0.length l0_0) (hc0_0 : l0_0.length ≤ c0_0) (hr0_1 : Kd.C (Kd.int .i64) w A0_1 l0_1.length l0_1) (hc0_1 : l0_1.length ≤ c0_1) (hr0_2 : Kd.C (Kd.int .i64) w A0_2 l0_2.length l0_2) (hc0_2 : l0_2.length ≤ c0_2) (h : spec_CostOk.f k l0_0 l0_1 l0_2 = some r) :
  Calls Try.prog 46 #[.agg #[.slice A0_0 l0_0.length c0_0,.slice A0_1 l0_1.length c0_1,.slice A0_2 l0_2.length c0_2]] w fun e w' => e = .returned (.bool r) ∧ Below w.heap.size w w':=by
 have hu31:=Try.underlying31
 have HR0_0:=Aside0.mk hr0_0
 have HC0_0:=Aside0.mk hc0_0
 clear hr0_0 hc0_0
 have HR0_1:=Aside0.mk hr0_1
 have HC0_1:=Aside0.mk hc0_1
 clear hr0_1 hc0_1
 have HR0_2:=Aside0.mk hr0_2
 have HC0_2:=Aside0.mk hc0_2
 clear hr0_2 hc0_2
 have HB:=Aside0.mk (Below.refl w.heap.size w)
 have H : ((spec_l7In.f k l0_0 6).bind fun t117 => (if t117 = true then ((spec_l7In.f k l0_1 6).bind fun t118 => (if t118 = true then ((spec_l7In.f k l0_2 36).bind fun t119 => (spec_CostOk.j0 k (!t119) l0_0 l0_1 l0_2)) else (spec_CostOk.j0 k true l0_0 l0_1 l0_2))) else (spec_CostOk.j0 k true l0_0 l0_1 l0_2))) = some r:=h
 clear h
 have HC2:=Aside0.mk H
 clear H
 go_enter Try.func46,Try.ntmps46
 go_upto_region 1 with (first | ((with_reducible refine gate_dst (N:=1) rfl ?_);refine bx_ 1 #[.slice A0_0 l0_0.length c0_0,.slice A0_1 l0_1.length c0_1,.slice A0_2 l0_2.length c0_2] 31 ?_;intro gb116 hg w3 hbox hb;have BK116:=Aside0.mk (hbox);have GW116:=Aside0.mk ((by rw [hg];exact (bs_ HB) : w.heap.size ≤ gb116));have GE116:=Aside0.mk ((by rw [hg];exact (bs_ HB) : w.heap.size ≤ gb116));replace HB:=tB_ HB hb;clear hb hbox hg))
 (try simp only [Act.put,List.setIfInBounds_toArray,List.set_cons_zero,List.set_cons_succ])
 go_cut [19] (fun v19 wc => ∃ (kq : Nat) (x19_1 : Bool),v19 = .bool x19_1 ∧ Aside0 (spec_CostOk.j0 kq x19_1 l0_0 l0_1 l0_2 = some r) ∧ Aside0 (kq ≤ k) ∧ Aside0 (wc.heap[gb116]? = some (.cells #[(.slice A0_0 l0_0.length c0_0),(.slice A0_1 l0_1.length c0_1),(.slice A0_2 l0_2.length c0_2)] 31 (0,0))) ∧ Aside0 (Below w.heap.size w wc))
 case first =>
  have H:=HC2.out
  clear HC2
  replace H:=Option.bind_eq_some_iff.mp H
  obtain ⟨t117,A40,H⟩:=H
  try dsimp only at H
  have A4:=Aside0.mk A40
  clear A40
  by_cases c5 : t117 = true
  ·subst c5
   have H1 : ((spec_l7In.f k l0_1 6).bind fun t118 => (if t118 = true then ((spec_l7In.f k l0_2 36).bind fun t119 => (spec_CostOk.j0 k (!t119) l0_0 l0_1 l0_2)) else (spec_CostOk.j0 k true l0_0 l0_1 l0_2))) = some r:=by rw [if_pos rfl] at H;exact H
   clear H
   have H:=H1
   clear H1
   replace H:=Option.bind_eq_some_iff.mp H
   obtain ⟨t118,A60,H⟩:=H
   try dsimp only at H
   have A6:=Aside0.mk A60
   clear A60
   by_cases c7 : t118 = true
   ·subst c7
    have H1 : ((spec_l7In.f k l0_2 36).bind fun t119 => (spec_CostOk.j0 k (!t119) l0_0 l0_1 l0_2)) = some r:=by rw [if_pos rfl] at H;exact H
    clear H
    have H:=H1
    clear H1
    replace H:=Option.bind_eq_some_iff.mp H
    obtain ⟨t119,A80,H⟩:=H
    replace H : (spec_CostOk.j0 k (!t119) l0_0 l0_1 l0_2) = some r:=H
    have A8:=Aside0.mk A80
    clear A80
    have H':=Aside0.mk H
    clear H
    have hcz9_0 : w3.cell? ⟨gb116,0,none⟩ = some (.slice A0_0 l0_0.length c0_0):=(blk_cell BK116.out 0).trans rfl
    have hcz9_1 : w3.cell? ⟨gb116,1,none⟩ = some (.slice A0_1 l0_1.length c0_1):=(blk_cell BK116.out 1).trans rfl
    have hcz9_2 : w3.cell? ⟨gb116,2,none⟩ = some (.slice A0_2 l0_2.length c0_2):=(blk_cell BK116.out 2).trans rfl
    have hfz9_0:=blk_frozen BK116.out 0
    have hfz9_1:=blk_frozen BK116.out 1
    have hfz9_2:=blk_frozen BK116.out 2
    go_wp2_with (first | ((with_reducible refine gate_callee (f:=77) rfl ?_);refine gL_ (some 6) Try.func77 #[.slice A0_0 l0_0.length c0_0,.int .i64 6] ?_;(with_reducible refine (spec_l7In.calls k _ _ l0_0 6 true _ (cx_ HR0_0 HB) HC0_0.out A4.out).mono ?_);rintro e w' ⟨rfl,⟨nd,rfl⟩⟩;refine ⟨_,rfl,?_⟩) | (go_at_call 77;(with_reducible refine (spec_l7In.calls k _ _ l0_1 6 true _ (cx_ HR0_1 HB) HC0_1.out A6.out).mono ?_);rintro e w' ⟨rfl,⟨nd,rfl⟩⟩) | (go_at_call 77;(with_reducible refine (spec_l7In.calls k _ _ l0_2 36 t119 _ (cx_ HR0_2 HB) HC0_2.out A8.out).mono ?_);rintro e w' ⟨rfl,⟨nd,rfl⟩⟩))
    go_meet
    case rel => exact ⟨_,(!t119),eb_,H',⟨by first | omega | exact Nat.le_refl _⟩,⟨kx_ BK116.out⟩,bl_ HB⟩
   ·replace c7:=Bool.eq_false_iff.mpr c7
    subst c7
    have H1 : (spec_CostOk.j0 k true l0_0 l0_1 l0_2) = some r:=by rw [if_neg (show ¬ (false = true) by decide)] at H;exact H
    clear H
    have H:=H1
    clear H1
    have H':=Aside0.mk H
    clear H
    have hcz10_0 : w3.cell? ⟨gb116,0,none⟩ = some (.slice A0_0 l0_0.length c0_0):=(blk_cell BK116.out 0).trans rfl
    have hcz10_1 : w3.cell? ⟨gb116,1,none⟩ = some (.slice A0_1 l0_1.length c0_1):=(blk_cell BK116.out 1).trans rfl
    have hcz10_2 : w3.cell? ⟨gb116,2,none⟩ = some (.slice A0_2 l0_2.length c0_2):=(blk_cell BK116.out 2).trans rfl
    have hfz10_0:=blk_frozen BK116.out 0
    have hfz10_1:=blk_frozen BK116.out 1
    have hfz10_2:=blk_frozen BK116.out 2
    go_wp2_with (first | ((with_reducible refine gate_callee (f:=77) rfl ?_);refine gL_ (some 6) Try.func77 #[.slice A0_0 l0_0.length c0_0,.int .i64 6] ?_;(with_reducible refine (spec_l7In.calls k _ _ l0_0 6 true _ (cx_ HR0_0 HB) HC0_0.out A4.out).mono ?_);rintro e w' ⟨rfl,⟨nd,rfl⟩⟩;refine ⟨_,rfl,?_⟩) | (go_at_call 77;(with_reducible refine (spec_l7In.calls k _ _ l0_1 6 false _ (cx_ HR0_1 HB) HC0_1.out A6.out).mono ?_);rintro e w' ⟨rfl,⟨nd,rfl⟩⟩))
    go_meet
    case rel => exact ⟨_,(true),eb_,H',⟨by first | omega | exact Nat.le_refl _⟩,⟨kx_ BK116.out⟩,bl_ HB⟩
  ·replace c5:=Bool.eq_false_iff.mpr c5
   subst c5
   have H1 : (spec_CostOk.j0 k true l0_0 l0_1 l0_2) = some r:=by rw [if_neg (show ¬ (false = true) by decide)] at H;exact H
   clear H
   have H:=H1
   clear H1
   have H':=Aside0.mk H
   clear H
   have hcz11_0 : w3.cell? ⟨gb116,0,none⟩ = some (.slice A0_0 l0_0.length c0_0):=(blk_cell BK116.out 0).trans rfl
   have hcz11_1 : w3.cell? ⟨gb116,1,none⟩ = some (.slice A0_1 l0_1.length c0_1):=(blk_cell BK116.out 1).trans rfl
   have hcz11_2 : w3.cell? ⟨gb116,2,none⟩ = some (.slice A0_2 l0_2.length c0_2):=(blk_cell BK116.out 2).trans rfl
   have hfz11_0:=blk_frozen BK116.out 0
   have hfz11_1:=blk_frozen BK116.out 1
   have hfz11_2:=blk_frozen BK116.out 2
   go_wp2_with (first | ((with_reducible refine gate_callee (f:=77) rfl ?_);refine gL_ (some 6) Try.func77 #[.slice A0_0 l0_0.length c0_0,.int .i64 6] ?_;(with_reducible refine (spec_l7In.calls k _ _ l0_0 6 false _ (cx_ HR0_0 HB) HC0_0.out A4.out).mono ?_);rintro e w' ⟨rfl,⟨nd,rfl⟩⟩;refine ⟨_,rfl,?_⟩))
   go_meet
   case rel => exact ⟨_,(true),eb_,H',⟨by first | omega | exact Nat.le_refl _⟩,⟨kx_ BK116.out⟩,bl_ HB⟩
 case rest =>
  clear HC2
  try clear p2
  try clear c4
  try clear c5
  try clear c7
  try clear hcz10_0
  try clear hcz10_1
  try clear hcz10_2
  try clear hcz11_0
  try clear hcz11_1
  try clear hcz11_2
  try clear hcz9_0
  try clear hcz9_1
  try clear hcz9_2
  try clear hfz10_0
  try clear hfz10_1
  try clear hfz10_2
  try clear hfz11_0
  try clear hfz11_1
  try clear hfz11_2
  try clear hfz9_0
  try clear hfz9_1
  try clear hfz9_2
  obtain ⟨kq,x19_1,rfl,HA,HJ1,BK116,HB⟩:=hcut
  cases kq with
  | zero => exact absurd HA.out (by simp [spec_CostOk.j0])
  | succ kj1 =>
   have H:=HA.out
   clear HA
   simp only [spec_CostOk.j0] at H
   by_cases c12 : x19_1 = true
   ·subst c12
    have H1 : (some false) = some r:=by rw [if_pos rfl] at H;exact H
    clear H
    have H:=H1
    clear H1
    obtain rfl:=Option.some.inj H
    go_wp2
    go_ret
    exact ⟨ea_,(bl_ HB).out⟩
   ·replace c12:=Bool.eq_false_iff.mpr c12
    subst c12
    have H1 : (spec_CostOk.l0 kj1 0 l0_0 l0_1 l0_2) = some r:=by rw [if_neg (show ¬ (false = true) by decide)] at H;exact H
    clear H
    have H:=H1
    clear H1
    have H':=Aside0.mk H
    clear H
    go_wp2
    go_loopg [3] kj1 (fun kq v3 w' => ∃ (x3_2 : Int),v3 = .int .i64 x3_2 ∧ Aside0 (spec_CostOk.l0 kq x3_2 l0_0 l0_1 l0_2 = some r) ∧ Aside0 (kq ≤ kj1) ∧ Aside0 (w'.heap[gb116]? = some (.cells #[(.slice A0_0 l0_0.length c0_0),(.slice A0_1 l0_1.length c0_1),(.slice A0_2 l0_2.length c0_2)] 31 (0,0))) ∧ Aside0 (Below w.heap.size w w'))
    case atStart => exact ⟨(0),eb_,H',⟨Nat.le_refl _⟩,⟨kx_ BK116.out⟩,bl_ HB⟩
    case round =>
     clear H'
     try clear c1
     try clear p2
     try clear c4
     try clear c5
     try clear c7
     try clear c12
     try clear hcz10_0
     try clear hcz10_1
     try clear hcz10_2
     try clear hcz11_0
     try clear hcz11_1
     try clear hcz11_2
     try clear hcz9_0
     try clear hcz9_1
     try clear hcz9_2
     try clear hfz10_0
     try clear hfz10_1
     try clear hfz10_2
     try clear hfz11_0
     try clear hfz11_1
     try clear hfz11_2
     try clear hfz9_0
     try clear hfz9_1
     try clear hfz9_2
     try clear p2
     obtain ⟨x3_2,rfl,HA,HK2,BK116,HB⟩:=hrel
     cases gk with
     | zero => exact absurd HA.out (by simp [spec_CostOk.l0])
     | succ k2 =>
      have H:=HA.out
      clear HA
      simp only [spec_CostOk.l0] at H
      by_cases c13 : x3_2 < 6
      ·rw [if_pos c13] at H
       have c13b0 : decide (x3_2 < 6) = true:=decide_eq_true c13
       clear c13
       obtain ⟨ji14,hji14⟩ : ∃ j_ : Int,(wrap64 ((wrap64 (x3_2 * 6)) + x3_2)) = j_:=⟨_,rfl⟩
       replace H : (if 0 ≤ (ji14) then (if (ji14) < (l0_2.length : Int) then (if (rd l0_2 (ji14)) = 0 then (spec_CostOk.l0 k2 (wrap64 (x3_2 + 1)) l0_0 l0_1 l0_2) else (some false)) else (none)) else (none)) = some r:=by first | (rw [hji14] at H;exact H) | (simp only [hji14] at H ⊢;exact H)
       have hji14w : (IntKind.i64.wrap ((wrap64 (x3_2 * 6)) + x3_2)) = ji14:=(i64_w _).trans hji14
       by_cases c15 : 0 ≤ (ji14)
       ·rw [if_pos c15] at H
        have c15b0 : decide (0 ≤ (ji14)) = true:=decide_eq_true c15
        clear c15
        by_cases c16 : (ji14) < (l0_2.length : Int)
        ·rw [if_pos c16] at H
         have c16b0 : decide ((ji14) < (l0_2.length : Int)) = true:=decide_eq_true c16
         clear c16
         by_cases c17 : (rd l0_2 (ji14)) = 0
         ·rw [if_pos c17] at H
          have c17b0 : ((rd l0_2 (ji14)) == 0) = true:=beq_iff_eq.mpr c17
          have c17b1 : ((rd l0_2 (ji14)) != 0) = false:=bne_eq_false_iff_eq.mpr c17
          clear c17
          have H':=Aside0.mk H
          clear H
          have hcz18_0 : wr.cell? ⟨gb116,0,none⟩ = some (.slice A0_0 l0_0.length c0_0):=(blk_cell BK116.out 0).trans rfl
          have hcz18_1 : wr.cell? ⟨gb116,1,none⟩ = some (.slice A0_1 l0_1.length c0_1):=(blk_cell BK116.out 1).trans rfl
          have hcz18_2 : wr.cell? ⟨gb116,2,none⟩ = some (.slice A0_2 l0_2.length c0_2):=(blk_cell BK116.out 2).trans rfl
          have hfz18_0:=blk_frozen BK116.out 0
          have hfz18_1:=blk_frozen BK116.out 1
          have hfz18_2:=blk_frozen BK116.out 2
          have p120 : 0 ≤ ((ji14) : Int):=od_
          have q120 : (ji14) < (l0_2.length : Int):=od_
          obtain ⟨ad120,e120,hx120_0⟩:=Kd.at_int HR0_2.out (ji14) p120 q120
          cases e120
          replace hx120_0:=ce_ HB hx120_0
          replace p120:=eq_true p120
          replace q120:=eq_true q120
          go_wp2
          go_roundg k2
          case measure => have:=HJ1.out;have:=HK2.out;omega
          case rel => exact ⟨(wrap64 (x3_2 + 1)),eb_,H',⟨by have:=HJ1.out;have:=HK2.out;omega⟩,⟨kx_ BK116.out⟩,bl_ HB⟩
         ·rw [if_neg c17] at H
          have c17b0 : ((rd l0_2 (ji14)) == 0) = false:=beq_eq_false_iff_ne.mpr c17
          have c17b1 : ((rd l0_2 (ji14)) != 0) = true:=bne_iff_ne.mpr c17
          obtain rfl:=Option.some.inj H
          have hcz19_0 : wr.cell? ⟨gb116,0,none⟩ = some (.slice A0_0 l0_0.length c0_0):=(blk_cell BK116.out 0).trans rfl
          have hcz19_1 : wr.cell? ⟨gb116,1,none⟩ = some (.slice A0_1 l0_1.length c0_1):=(blk_cell BK116.out 1).trans rfl
          have hcz19_2 : wr.cell? ⟨gb116,2,none⟩ = some (.slice A0_2 l0_2.length c0_2):=(blk_cell BK116.out 2).trans rfl
          have hfz19_0:=blk_frozen BK116.out 0
          have hfz19_1:=blk_frozen BK116.out 1
          have hfz19_2:=blk_frozen BK116.out 2
          have p120 : 0 ≤ ((ji14) : Int):=od_
          have q120 : (ji14) < (l0_2.length : Int):=od_
          obtain ⟨ad120,e120,hx120_0⟩:=Kd.at_int HR0_2.out (ji14) p120 q120
          cases e120
          replace hx120_0:=ce_ HB hx120_0
          replace p120:=eq_true p120
          replace q120:=eq_true q120
          go_wp2
          go_ret
          exact ⟨by first | rfl | (simp [errW_none,errW_some] <;> rfl) | (simp only [← hji14];first | rfl | (simp [errW_none,errW_some] <;> rfl)) | (simp [*,errW_none,errW_some] <;> rfl),(bl_ HB).out⟩
        ·rw [if_neg c16] at H
         exact absurd H (by simp)
       ·rw [if_neg c15] at H
        exact absurd H (by simp)
      ·rw [if_neg c13] at H
       have c13b0 : decide (x3_2 < 6) = false:=decide_eq_false c13
       clear c13
       obtain rfl:=Option.some.inj H
       go_wp2
       go_ret
       exact ⟨ea_,(bl_ HB).out⟩
end Go.Proofs.Ytelglbebffdaaaa.X
namespace Go.Proofs.Ytelglbebffdaaaa.X
open Go.RowKit Go.Proofs.YtelglbebffdaaaaW.PrintWords Go.Proofs.YtelglbebffdaaaaW.PrintLast Go.Proofs.YtelglbebffdaaaaW.PrintMore
attribute [local go_sem] max2_int min2_int max_two min_two max_three min_three max_four min_four   -- for this text's walks alone
set_option linter.unusedVariables false
set_option linter.unusedSimpArgs false
mutual
def impl_CostOk.j0 : Nat → Bool → List Int → List Int → List Int → Option (Bool)
 | 0,_,_,_,_ => none
 | k + 1,x19,x259000,x259001,x259002 => if x19 = true then (some false) else (impl_CostOk.l0 k 0 x259000 x259001 x259002)
def impl_CostOk.l0 : Nat → Int → List Int → List Int → List Int → Option (Bool)
 | 0,_,_,_,_ => none
 | k + 1,x20,x259000,x259001,x259002 => if x20 < 6 then (if 0 ≤ (wrap64 ((wrap64 (x20 * 6)) + x20)) then (if (wrap64 ((wrap64 (x20 * 6)) + x20)) < (x259002.length : Int) then (if (rd x259002 (wrap64 ((wrap64 (x20 * 6)) + x20))) = 0 then (impl_CostOk.l0 k (wrap64 (x20 + 1)) x259000 x259001 x259002) else (some false)) else (none)) else (none)) else (some true)
end
def impl_CostOk.f (k : Nat) (l0_0 : List Int) (l0_1 : List Int) (l0_2 : List Int) : Option (Bool):=(impl_pricesOk.f l0_0 6).bind fun t259 => (if t259 = true then ((impl_pricesOk.f l0_1 6).bind fun t260 => (if t260 = true then ((impl_pricesOk.f l0_2 36).bind fun t261 => (impl_CostOk.j0 k (!t261) l0_0 l0_1 l0_2)) else (impl_CostOk.j0 k true l0_0 l0_1 l0_2))) else (impl_CostOk.j0 k true l0_0 l0_1 l0_2))
theorem impl_CostOk.mono_l : ∀ k,(∀ y0 y1 y2 y3,LeO (impl_CostOk.j0 k y0 y1 y2 y3) (impl_CostOk.j0 (k + 1) y0 y1 y2 y3)) ∧ (∀ y0 y1 y2 y3,LeO (impl_CostOk.l0 k y0 y1 y2 y3) (impl_CostOk.l0 (k + 1) y0 y1 y2 y3))
 | 0 => ⟨fun _ _ _ _ r h => by simp [impl_CostOk.j0] at h,fun _ _ _ _ r h => by simp [impl_CostOk.l0] at h⟩
 | k + 1 => by
  obtain ⟨ih0,ih1⟩:=impl_CostOk.mono_l k
  refine ⟨?_,?_⟩
  ·intro y0 y1 y2 y3
   unfold impl_CostOk.j0
   repeat' first
   | (with_reducible exact ih0 _ _ _ _)
   | (with_reducible exact ih1 _ _ _ _)
   | (with_reducible exact LeO.refl _)
   | (with_reducible exact LeO.none _)
   | (with_reducible refine LeO.ite ?_ ?_)
   | (with_reducible refine LeO.bind ?_ (fun _ => ?_))
   | exact ih0 _ _ _ _
   | exact ih1 _ _ _ _
   | exact LeO.none _
   | refine LeO.ite ?_ ?_
   | refine LeO.bind ?_ (fun _ => ?_)
  ·intro y0 y1 y2 y3
   unfold impl_CostOk.l0
   repeat' first
   | (with_reducible exact ih0 _ _ _ _)
   | (with_reducible exact ih1 _ _ _ _)
   | (with_reducible exact LeO.refl _)
   | (with_reducible exact LeO.none _)
   | (with_reducible refine LeO.ite ?_ ?_)
   | (with_reducible refine LeO.bind ?_ (fun _ => ?_))
   | exact ih0 _ _ _ _
   | exact ih1 _ _ _ _
   | exact LeO.none _
   | refine LeO.ite ?_ ?_
   | refine LeO.bind ?_ (fun _ => ?_)
theorem impl_CostOk.mono : ∀ a0 a1 a2 k,LeO (impl_CostOk.f k a0 a1 a2) (impl_CostOk.f (k + 1) a0 a1 a2):=by
 intro a0 a1 a2 k
 obtain ⟨ih0,ih1⟩:=impl_CostOk.mono_l k
 unfold impl_CostOk.f
 repeat' first
   | (with_reducible exact ih0 _ _ _ _)
   | (with_reducible exact ih1 _ _ _ _)
   | (with_reducible exact LeO.refl _)
   | (with_reducible exact LeO.none _)
   | (with_reducible refine LeO.ite ?_ ?_)
   | (with_reducible refine LeO.bind ?_ (fun _ => ?_))
   | exact ih0 _ _ _ _
   | exact ih1 _ _ _ _
   | exact LeO.none _
   | refine LeO.ite ?_ ?_
   | refine LeO.bind ?_ (fun _ => ?_)
set_option maxHeartbeats 8000000 in
set_option maxRecDepth 100000 in
theorem impl_CostOk.calls (k : Nat) (A0_0 : Option Addr) (c0_0 : Nat) (l0_0 : List Int) (A0_1 : Option Addr) (c0_1 : Nat) (l0_1 : List Int) (A0_2 : Option Addr) (c0_2 : Nat) (l0_2 : List Int) (r : Bool) (w : World) (hr0_0 : Kd.C (Kd.int .i64) w A0_0 l0_0.length l0_0) (hc0_0 : l0_0.length ≤ c0_0) (hr0_1 : Kd.C (Kd.int .i64) w A0_1 l0_1.length l0_1) (hc0_1 : l0_1.length ≤ c0_1) (hr0_2 : Kd.C (Kd.int .i64) w A0_2 l0_2.length l0_2) (hc0_2 : l0_2.length ≤ c0_2) (h : impl_CostOk.f k l0_0 l0_1 l0_2 = some r) :
  Calls Try.prog 74 #[.agg #[.slice A0_0 l0_0.length c0_0,.slice A0_1 l0_1.length c0_1,.slice A0_2 l0_2.length c0_2]] w fun e w' => e = .returned (.bool r) ∧ Below w.heap.size w w':=by
 have hu31:=Try.underlying31
 have HR0_0:=Aside0.mk hr0_0
 have HC0_0:=Aside0.mk hc0_0
 clear hr0_0 hc0_0
 have HR0_1:=Aside0.mk hr0_1
 have HC0_1:=Aside0.mk hc0_1
 clear hr0_1 hc0_1
 have HR0_2:=Aside0.mk hr0_2
 have HC0_2:=Aside0.mk hc0_2
 clear hr0_2 hc0_2
 have HB:=Aside0.mk (Below.refl w.heap.size w)
 have H : ((impl_pricesOk.f l0_0 6).bind fun t259 => (if t259 = true then ((impl_pricesOk.f l0_1 6).bind fun t260 => (if t260 = true then ((impl_pricesOk.f l0_2 36).bind fun t261 => (impl_CostOk.j0 k (!t261) l0_0 l0_1 l0_2)) else (impl_CostOk.j0 k true l0_0 l0_1 l0_2))) else (impl_CostOk.j0 k true l0_0 l0_1 l0_2))) = some r:=h
 clear h
 have HC2:=Aside0.mk H
 clear H
 go_enter Try.func74,Try.ntmps74
 go_upto_region 1 with (first | ((with_reducible refine gate_dst (N:=1) rfl ?_);refine bx_ 1 #[.slice A0_0 l0_0.length c0_0,.slice A0_1 l0_1.length c0_1,.slice A0_2 l0_2.length c0_2] 31 ?_;intro gb258 hg w3 hbox hb;have BK258:=Aside0.mk (hbox);have GW258:=Aside0.mk ((by rw [hg];exact (bs_ HB) : w.heap.size ≤ gb258));have GE258:=Aside0.mk ((by rw [hg];exact (bs_ HB) : w.heap.size ≤ gb258));replace HB:=tB_ HB hb;clear hb hbox hg))
 (try simp only [Act.put,List.setIfInBounds_toArray,List.set_cons_zero,List.set_cons_succ])
 go_cut [19] (fun v19 wc => ∃ (kq : Nat) (x19_1 : Bool),v19 = .bool x19_1 ∧ Aside0 (impl_CostOk.j0 kq x19_1 l0_0 l0_1 l0_2 = some r) ∧ Aside0 (kq ≤ k) ∧ Aside0 (wc.heap[gb258]? = some (.cells #[(.slice A0_0 l0_0.length c0_0),(.slice A0_1 l0_1.length c0_1),(.slice A0_2 l0_2.length c0_2)] 31 (0,0))) ∧ Aside0 (Below w.heap.size w wc))
 case first =>
  have H:=HC2.out
  clear HC2
  replace H:=Option.bind_eq_some_iff.mp H
  obtain ⟨t259,A40,H⟩:=H
  try dsimp only at H
  have A4:=Aside0.mk A40
  clear A40
  by_cases c5 : t259 = true
  ·subst c5
   have H1 : ((impl_pricesOk.f l0_1 6).bind fun t260 => (if t260 = true then ((impl_pricesOk.f l0_2 36).bind fun t261 => (impl_CostOk.j0 k (!t261) l0_0 l0_1 l0_2)) else (impl_CostOk.j0 k true l0_0 l0_1 l0_2))) = some r:=by rw [if_pos rfl] at H;exact H
   clear H
   have H:=H1
   clear H1
   replace H:=Option.bind_eq_some_iff.mp H
   obtain ⟨t260,A60,H⟩:=H
   try dsimp only at H
   have A6:=Aside0.mk A60
   clear A60
   by_cases c7 : t260 = true
   ·subst c7
    have H1 : ((impl_pricesOk.f l0_2 36).bind fun t261 => (impl_CostOk.j0 k (!t261) l0_0 l0_1 l0_2)) = some r:=by rw [if_pos rfl] at H;exact H
    clear H
    have H:=H1
    clear H1
    replace H:=Option.bind_eq_some_iff.mp H
    obtain ⟨t261,A80,H⟩:=H
    replace H : (impl_CostOk.j0 k (!t261) l0_0 l0_1 l0_2) = some r:=H
    have A8:=Aside0.mk A80
    clear A80
    have H':=Aside0.mk H
    clear H
    have hcz9_0 : w3.cell? ⟨gb258,0,none⟩ = some (.slice A0_0 l0_0.length c0_0):=(blk_cell BK258.out 0).trans rfl
    have hcz9_1 : w3.cell? ⟨gb258,1,none⟩ = some (.slice A0_1 l0_1.length c0_1):=(blk_cell BK258.out 1).trans rfl
    have hcz9_2 : w3.cell? ⟨gb258,2,none⟩ = some (.slice A0_2 l0_2.length c0_2):=(blk_cell BK258.out 2).trans rfl
    have hfz9_0:=blk_frozen BK258.out 0
    have hfz9_1:=blk_frozen BK258.out 1
    have hfz9_2:=blk_frozen BK258.out 2
    go_wp2_with (first | ((with_reducible refine gate_callee (f:=99) rfl ?_);refine gL_ (some 6) Try.func99 #[.slice A0_0 l0_0.length c0_0,.int .i64 6] ?_;(with_reducible refine (impl_pricesOk.calls _ _ l0_0 6 true _ (cx_ HR0_0 HB) HC0_0.out A4.out).mono ?_);rintro e w10 ⟨rfl,hb⟩;refine ⟨_,rfl,?_⟩;replace BK258:=tK_ BK258 hb;replace HB:=tB_ HB hb;(try clear hb);obtain ⟨hcz11_0,hcz11_1,hcz11_2,hfz11_0,hfz11_1,hfz11_2⟩:=bk3_ BK258) | (go_at_call 99;(with_reducible refine (impl_pricesOk.calls _ _ l0_1 6 true _ (cx_ HR0_1 HB) HC0_1.out A6.out).mono ?_);rintro e w12 ⟨rfl,hb⟩;replace BK258:=tK_ BK258 hb;replace HB:=tB_ HB hb;(try clear hb);obtain ⟨hcz13_0,hcz13_1,hcz13_2,hfz13_0,hfz13_1,hfz13_2⟩:=bk3_ BK258) | (go_at_call 99;(with_reducible refine (impl_pricesOk.calls _ _ l0_2 36 t261 _ (cx_ HR0_2 HB) HC0_2.out A8.out).mono ?_);rintro e w14 ⟨rfl,hb⟩;replace BK258:=tK_ BK258 hb;replace HB:=tB_ HB hb;(try clear hb)))
    go_meet
    case rel => exact ⟨_,(!t261),eb_,H',⟨by first | omega | exact Nat.le_refl _⟩,⟨kx_ BK258.out⟩,bl_ HB⟩
   ·replace c7:=Bool.eq_false_iff.mpr c7
    subst c7
    have H1 : (impl_CostOk.j0 k true l0_0 l0_1 l0_2) = some r:=by rw [if_neg (show ¬ (false = true) by decide)] at H;exact H
    clear H
    have H:=H1
    clear H1
    have H':=Aside0.mk H
    clear H
    have hcz15_0 : w3.cell? ⟨gb258,0,none⟩ = some (.slice A0_0 l0_0.length c0_0):=(blk_cell BK258.out 0).trans rfl
    have hcz15_1 : w3.cell? ⟨gb258,1,none⟩ = some (.slice A0_1 l0_1.length c0_1):=(blk_cell BK258.out 1).trans rfl
    have hcz15_2 : w3.cell? ⟨gb258,2,none⟩ = some (.slice A0_2 l0_2.length c0_2):=(blk_cell BK258.out 2).trans rfl
    have hfz15_0:=blk_frozen BK258.out 0
    have hfz15_1:=blk_frozen BK258.out 1
    have hfz15_2:=blk_frozen BK258.out 2
    go_wp2_with (first | ((with_reducible refine gate_callee (f:=99) rfl ?_);refine gL_ (some 6) Try.func99 #[.slice A0_0 l0_0.length c0_0,.int .i64 6] ?_;(with_reducible refine (impl_pricesOk.calls _ _ l0_0 6 true _ (cx_ HR0_0 HB) HC0_0.out A4.out).mono ?_);rintro e w16 ⟨rfl,hb⟩;refine ⟨_,rfl,?_⟩;replace BK258:=tK_ BK258 hb;replace HB:=tB_ HB hb;(try clear hb);obtain ⟨hcz17_0,hcz17_1,hcz17_2,hfz17_0,hfz17_1,hfz17_2⟩:=bk3_ BK258) | (go_at_call 99;(with_reducible refine (impl_pricesOk.calls _ _ l0_1 6 false _ (cx_ HR0_1 HB) HC0_1.out A6.out).mono ?_);rintro e w18 ⟨rfl,hb⟩;replace BK258:=tK_ BK258 hb;replace HB:=tB_ HB hb;(try clear hb)))
    go_meet
    case rel => exact ⟨_,(true),eb_,H',⟨by first | omega | exact Nat.le_refl _⟩,⟨kx_ BK258.out⟩,bl_ HB⟩
  ·replace c5:=Bool.eq_false_iff.mpr c5
   subst c5
   have H1 : (impl_CostOk.j0 k true l0_0 l0_1 l0_2) = some r:=by rw [if_neg (show ¬ (false = true) by decide)] at H;exact H
   clear H
   have H:=H1
   clear H1
   have H':=Aside0.mk H
   clear H
   have hcz19_0 : w3.cell? ⟨gb258,0,none⟩ = some (.slice A0_0 l0_0.length c0_0):=(blk_cell BK258.out 0).trans rfl
   have hcz19_1 : w3.cell? ⟨gb258,1,none⟩ = some (.slice A0_1 l0_1.length c0_1):=(blk_cell BK258.out 1).trans rfl
   have hcz19_2 : w3.cell? ⟨gb258,2,none⟩ = some (.slice A0_2 l0_2.length c0_2):=(blk_cell BK258.out 2).trans rfl
   have hfz19_0:=blk_frozen BK258.out 0
   have hfz19_1:=blk_frozen BK258.out 1
   have hfz19_2:=blk_frozen BK258.out 2
   go_wp2_with (first | ((with_reducible refine gate_callee (f:=99) rfl ?_);refine gL_ (some 6) Try.func99 #[.slice A0_0 l0_0.length c0_0,.int .i64 6] ?_;(with_reducible refine (impl_pricesOk.calls _ _ l0_0 6 false _ (cx_ HR0_0 HB) HC0_0.out A4.out).mono ?_);rintro e w20 ⟨rfl,hb⟩;refine ⟨_,rfl,?_⟩;replace BK258:=tK_ BK258 hb;replace HB:=tB_ HB hb;(try clear hb)))
   go_meet
   case rel => exact ⟨_,(true),eb_,H',⟨by first | omega | exact Nat.le_refl _⟩,⟨kx_ BK258.out⟩,bl_ HB⟩
 case rest =>
  clear HC2
  try clear p2
  try clear c5
  try clear c7
  try clear c9
  try clear hcz11_0
  try clear hcz11_1
  try clear hcz11_2
  try clear hcz13_0
  try clear hcz13_1
  try clear hcz13_2
  try clear hcz15_0
  try clear hcz15_1
  try clear hcz15_2
  try clear hcz17_0
  try clear hcz17_1
  try clear hcz17_2
  try clear hcz19_0
  try clear hcz19_1
  try clear hcz19_2
  try clear hcz9_0
  try clear hcz9_1
  try clear hcz9_2
  try clear hfz11_0
  try clear hfz11_1
  try clear hfz11_2
  try clear hfz13_0
  try clear hfz13_1
  try clear hfz13_2
  try clear hfz15_0
  try clear hfz15_1
  try clear hfz15_2
  try clear hfz17_0
  try clear hfz17_1
  try clear hfz17_2
  try clear hfz19_0
  try clear hfz19_1
  try clear hfz19_2
  try clear hfz9_0
  try clear hfz9_1
  try clear hfz9_2
  obtain ⟨kq,x19_1,rfl,HA,HJ1,BK258,HB⟩:=hcut
  cases kq with
  | zero => exact absurd HA.out (by simp [impl_CostOk.j0])
  | succ kj1 =>
   have H:=HA.out
   clear HA
   simp only [impl_CostOk.j0] at H
   by_cases c21 : x19_1 = true
   ·subst c21
    have H1 : (some false) = some r:=by rw [if_pos rfl] at H;exact H
    clear H
    have H:=H1
    clear H1
    obtain rfl:=Option.some.inj H
    go_wp2
    go_ret
    exact ⟨ea_,(bl_ HB).out⟩
   ·replace c21:=Bool.eq_false_iff.mpr c21
    subst c21
    have H1 : (impl_CostOk.l0 kj1 0 l0_0 l0_1 l0_2) = some r:=by rw [if_neg (show ¬ (false = true) by decide)] at H;exact H
    clear H
    have H:=H1
    clear H1
    have H':=Aside0.mk H
    clear H
    go_wp2
    go_loopg [20] kj1 (fun kq v20 w' => ∃ (x20_2 : Int),v20 = .int .i64 x20_2 ∧ Aside0 (impl_CostOk.l0 kq x20_2 l0_0 l0_1 l0_2 = some r) ∧ Aside0 (kq ≤ kj1) ∧ Aside0 (w'.heap[gb258]? = some (.cells #[(.slice A0_0 l0_0.length c0_0),(.slice A0_1 l0_1.length c0_1),(.slice A0_2 l0_2.length c0_2)] 31 (0,0))) ∧ Aside0 (Below w.heap.size w w'))
    case atStart => exact ⟨(0),eb_,H',⟨Nat.le_refl _⟩,⟨kx_ BK258.out⟩,bl_ HB⟩
    case round =>
     clear H'
     try clear c2
     try clear p2
     try clear c5
     try clear c7
     try clear c9
     try clear c21
     try clear hcz11_0
     try clear hcz11_1
     try clear hcz11_2
     try clear hcz13_0
     try clear hcz13_1
     try clear hcz13_2
     try clear hcz15_0
     try clear hcz15_1
     try clear hcz15_2
     try clear hcz17_0
     try clear hcz17_1
     try clear hcz17_2
     try clear hcz19_0
     try clear hcz19_1
     try clear hcz19_2
     try clear hcz9_0
     try clear hcz9_1
     try clear hcz9_2
     try clear hfz11_0
     try clear hfz11_1
     try clear hfz11_2
     try clear hfz13_0
     try clear hfz13_1
     try clear hfz13_2
     try clear hfz15_0
     try clear hfz15_1
     try clear hfz15_2
     try clear hfz17_0
     try clear hfz17_1
     try clear hfz17_2
     try clear hfz19_0
     try clear hfz19_1
     try clear hfz19_2
     try clear hfz9_0
     try clear hfz9_1
     try clear hfz9_2
     try clear p2
     obtain ⟨x20_2,rfl,HA,HK2,BK258,HB⟩:=hrel
     cases gk with
     | zero => exact absurd HA.out (by simp [impl_CostOk.l0])
     | succ k2 =>
      have H:=HA.out
      clear HA
      simp only [impl_CostOk.l0] at H
      by_cases c22 : x20_2 < 6
      ·rw [if_pos c22] at H
       have c22b0 : decide (x20_2 < 6) = true:=decide_eq_true c22
       clear c22
       obtain ⟨ji23,hji23⟩ : ∃ j_ : Int,(wrap64 ((wrap64 (x20_2 * 6)) + x20_2)) = j_:=⟨_,rfl⟩
       replace H : (if 0 ≤ (ji23) then (if (ji23) < (l0_2.length : Int) then (if (rd l0_2 (ji23)) = 0 then (impl_CostOk.l0 k2 (wrap64 (x20_2 + 1)) l0_0 l0_1 l0_2) else (some false)) else (none)) else (none)) = some r:=by first | (rw [hji23] at H;exact H) | (simp only [hji23] at H ⊢;exact H)
       have hji23w : (IntKind.i64.wrap ((wrap64 (x20_2 * 6)) + x20_2)) = ji23:=(i64_w _).trans hji23
       by_cases c24 : 0 ≤ (ji23)
       ·rw [if_pos c24] at H
        have c24b0 : decide (0 ≤ (ji23)) = true:=decide_eq_true c24
        clear c24
        by_cases c25 : (ji23) < (l0_2.length : Int)
        ·rw [if_pos c25] at H
         have c25b0 : decide ((ji23) < (l0_2.length : Int)) = true:=decide_eq_true c25
         clear c25
         by_cases c26 : (rd l0_2 (ji23)) = 0
         ·rw [if_pos c26] at H
          have c26b0 : ((rd l0_2 (ji23)) == 0) = true:=beq_iff_eq.mpr c26
          have c26b1 : ((rd l0_2 (ji23)) != 0) = false:=bne_eq_false_iff_eq.mpr c26
          clear c26
          have H':=Aside0.mk H
          clear H
          have hcz27_0 : wr.cell? ⟨gb258,0,none⟩ = some (.slice A0_0 l0_0.length c0_0):=(blk_cell BK258.out 0).trans rfl
          have hcz27_1 : wr.cell? ⟨gb258,1,none⟩ = some (.slice A0_1 l0_1.length c0_1):=(blk_cell BK258.out 1).trans rfl
          have hcz27_2 : wr.cell? ⟨gb258,2,none⟩ = some (.slice A0_2 l0_2.length c0_2):=(blk_cell BK258.out 2).trans rfl
          have hfz27_0:=blk_frozen BK258.out 0
          have hfz27_1:=blk_frozen BK258.out 1
          have hfz27_2:=blk_frozen BK258.out 2
          have p262 : 0 ≤ ((ji23) : Int):=od_
          have q262 : (ji23) < (l0_2.length : Int):=od_
          obtain ⟨ad262,e262,hx262_0⟩:=Kd.at_int HR0_2.out (ji23) p262 q262
          cases e262
          replace hx262_0:=ce_ HB hx262_0
          replace p262:=eq_true p262
          replace q262:=eq_true q262
          go_wp2
          go_roundg k2
          case measure => have:=HJ1.out;have:=HK2.out;omega
          case rel => exact ⟨(wrap64 (x20_2 + 1)),eb_,H',⟨by have:=HJ1.out;have:=HK2.out;omega⟩,⟨kx_ BK258.out⟩,bl_ HB⟩
         ·rw [if_neg c26] at H
          have c26b0 : ((rd l0_2 (ji23)) == 0) = false:=beq_eq_false_iff_ne.mpr c26
          have c26b1 : ((rd l0_2 (ji23)) != 0) = true:=bne_iff_ne.mpr c26
          obtain rfl:=Option.some.inj H
          have hcz28_0 : wr.cell? ⟨gb258,0,none⟩ = some (.slice A0_0 l0_0.length c0_0):=(blk_cell BK258.out 0).trans rfl
          have hcz28_1 : wr.cell? ⟨gb258,1,none⟩ = some (.slice A0_1 l0_1.length c0_1):=(blk_cell BK258.out 1).trans rfl
          have hcz28_2 : wr.cell? ⟨gb258,2,none⟩ = some (.slice A0_2 l0_2.length c0_2):=(blk_cell BK258.out 2).trans rfl
          have hfz28_0:=blk_frozen BK258.out 0
          have hfz28_1:=blk_frozen BK258.out 1
          have hfz28_2:=blk_frozen BK258.out 2
          have p262 : 0 ≤ ((ji23) : Int):=od_
          have q262 : (ji23) < (l0_2.length : Int):=od_
          obtain ⟨ad262,e262,hx262_0⟩:=Kd.at_int HR0_2.out (ji23) p262 q262
          cases e262
          replace hx262_0:=ce_ HB hx262_0
          replace p262:=eq_true p262
          replace q262:=eq_true q262
          go_wp2
          go_ret
          exact ⟨by first | rfl | (simp [errW_none,errW_some] <;> rfl) | (simp only [← hji23];first | rfl | (simp [errW_none,errW_some] <;> rfl)) | (simp [*,errW_none,errW_some] <;> rfl),(bl_ HB).out⟩
        ·rw [if_neg c25] at H
         exact absurd H (by simp)
       ·rw [if_neg c24] at H
        exact absurd H (by simp)
      ·rw [if_neg c22] at H
       have c22b0 : decide (x20_2 < 6) = false:=decide_eq_false c22
       clear c22
       obtain rfl:=Option.some.inj H
       go_wp2
       go_ret
       exact ⟨ea_,(bl_ HB).out⟩
end Go.Proofs.Ytelglbebffdaaaa.X
namespace Go.Proofs.Ytelglbebffdaaaa.X
open Go.RowKit Go.Proofs.YtelglbebffdaaaaW.PrintWords Go.Proofs.YtelglbebffdaaaaW.PrintLast Go.Proofs.YtelglbebffdaaaaW.PrintMore
attribute [local go_sem] max2_int min2_int max_two min_two max_three min_three max_four min_four   -- for this text's walks alone
set_option linter.unusedVariables false
set_option linter.unusedSimpArgs false
def IsS108 (w0 W : World) (g : Nat) (f0 : List Int) (f1 : Int) (f2 : Int) : Prop:=∃ A0 c0,W.heap[g]? = some (.cells #[.slice A0 f0.length c0,.int .i64 f1,.int .i64 f2] 108 (0,0)) ∧ w0.heap.size ≤ g ∧ Kd.C (Kd.int .u8) w0 A0 f0.length f0
theorem IsS108.grown {w0 W : World} {g : Nat} {f0 : List Int} {f1 : Int} {f2 : Int} {W1 : World} {row : Option Nat} (h : IsS108 w0 W g f0 f1 f2) (hw : W.grownBy W1 row) (hne : some g ≠ row) : IsS108 w0 W1 g f0 f1 f2:=by
 obtain ⟨A0,c0,hb,hg,hr0⟩:=h
 exact ⟨A0,c0,blk_grown hb hw hne,hg,hr0⟩
theorem IsS108.kept {w0 W : World} {g : Nat} {f0 : List Int} {f1 : Int} {f2 : Int} {W1 : World} {S : Nat → Prop} (h : IsS108 w0 W g f0 f1 f2) (hk : Kept W W1 S) (hne : ¬ S g) : IsS108 w0 W1 g f0 f1 f2:=by
 obtain ⟨A0,c0,hb,hg,hr0⟩:=h
 exact ⟨A0,c0,blk_kept hb hk hne,hg,hr0⟩
theorem IsS108.below {w0 W : World} {g : Nat} {f0 : List Int} {f1 : Int} {f2 : Int} {W1 : World} (h : IsS108 w0 W g f0 f1 f2) (hw : Below W.heap.size W W1) : IsS108 w0 W1 g f0 f1 f2:=h.grown (grown_of_below hw none) (by simp)
theorem IsS108.alloc {w0 W : World} {g : Nat} {f0 : List Int} {f1 : Int} {f2 : Int} (h : IsS108 w0 W g f0 f1 f2) (o : Obj) : IsS108 w0 (W.alloc o) g f0 f1 f2:=h.below (below_alloc (Below.refl _ _) o)
theorem IsS108.drewN {w0 W : World} {g : Nat} {f0 : List Int} {f1 : Int} {f2 : Int} (h : IsS108 w0 W g f0 f1 f2) (m : Nat) : IsS108 w0 (W.drewN m) g f0 f1 f2:=h
theorem IsS108.drew {w0 W : World} {g : Nat} {f0 : List Int} {f1 : Int} {f2 : Int} (h : IsS108 w0 W g f0 f1 f2) : IsS108 w0 W.drew g f0 f1 f2:=h
theorem IsS108.at_ {w0 W : World} {g : Nat} {f0 : List Int} {f1 : Int} {f2 : Int} {w' : World} {m : Nat} (hq : W.drewN m = w') (h : IsS108 w0 W g f0 f1 f2) : IsS108 w0 w' g f0 f1 f2:=by subst hq;exact IsS108.drewN h m
theorem IsS108.apart {w0 W : World} {g : Nat} {f0 : List Int} {f1 : Int} {f2 : Int} {α : Type} {d : Kd α} {e : Nat} {base : Nat} {ok : Nat → Prop} {v : Value} {xs : List α} (h : IsS108 w0 W g f0 f1 f2) (ho : d.R e W base ok v xs) (ht : ∀ q,q ∈ e :: d.E → q ≠ 108) : d.R e W base (fun k => ok k ∧ k ≠ g) v xs:=by
 obtain ⟨A0,c0,hb,hg,hr0⟩:=h
 exact Kd.R_types ho hb ht
theorem IsS108.own_ne {w0 W : World} {g : Nat} {f0 : List Int} {f1 : Int} {f2 : Int} {α : Type} {d : Kd α} {e : Nat} {base : Nat} {ok : Nat → Prop} {v : Value} {xs : List α} (h : IsS108 w0 W g f0 f1 f2) (ho : d.R e W base ok v xs) (ht : e ≠ 108) : some g ≠ v.ownBlock:=by
 obtain ⟨A0,c0,hb,hg,hr0⟩:=h
 exact Kd.R_ne ho hb ht
theorem IsS108.apartQ {w0 W : World} {g : Nat} {f0 : List Int} {f1 : Int} {f2 : Int} {α : Type} {d : Kd α} {e : Nat} {base : Nat} {ok : Nat → Prop} {v : Value} {xs : List α} (h : IsS108 w0 W g f0 f1 f2) (ho : d.Q e W base ok v xs) (ht : ∀ q,q ∈ e :: d.E → q ≠ 108) : d.Q e W base (fun k => ok k ∧ k ≠ g) v xs:=by
 obtain ⟨A0,c0,hb,hg,hr0⟩:=h
 exact Kd.Q_types ho hb ht
theorem IsS108.lt {w0 W : World} {g : Nat} {f0 : List Int} {f1 : Int} {f2 : Int} (h : IsS108 w0 W g f0 f1 f2) : g < W.heap.size:=by
 obtain ⟨A0,c0,hb,hg,hr0⟩:=h
 exact blk_lt hb
theorem IsS108.ge {w0 W : World} {g : Nat} {f0 : List Int} {f1 : Int} {f2 : Int} (h : IsS108 w0 W g f0 f1 f2) : w0.heap.size ≤ g:=by
 obtain ⟨A0,c0,hb,hg,hr0⟩:=h
 exact hg
theorem IsS108.far {w0 W : World} {g : Nat} {f0 : List Int} {f1 : Int} {f2 : Int} {p : Addr} (h : IsS108 w0 W g f0 f1 f2) (hne : g ≠ p.block) (u : Value) : IsS108 w0 (W.setCell p u) g f0 f1 f2:=by
 obtain ⟨A0,c0,hb,hg,hr0⟩:=h
 exact ⟨A0,c0,blk_far hb hne u,hg,hr0⟩
end Go.Proofs.Ytelglbebffdaaaa.X
namespace Go.Proofs.Ytelglbebffdaaaa.X
open Go.RowKit Go.Proofs.YtelglbebffdaaaaW.PrintWords Go.Proofs.YtelglbebffdaaaaW.PrintLast Go.Proofs.YtelglbebffdaaaaW.PrintMore
attribute [local go_sem] max2_int min2_int max_two min_two max_three min_three max_four min_four   -- for this text's walks alone
set_option linter.unusedVariables false
set_option linter.unusedSimpArgs false
end Go.Proofs.Ytelglbebffdaaaa.X
namespace Go.Proofs.Ytelglbebffdaaaa.X
open Go.RowKit Go.Proofs.YtelglbebffdaaaaW.PrintWords Go.Proofs.YtelglbebffdaaaaW.PrintLast Go.Proofs.YtelglbebffdaaaaW.PrintMore
attribute [local go_sem] max2_int min2_int max_two min_two max_three min_three max_four min_four   -- for this text's walks alone
set_option linter.unusedVariables false
set_option linter.unusedSimpArgs false
end Go.Proofs.Ytelglbebffdaaaa.X
namespace Go.Proofs.Ytelglbebffdaaaa.X
open Go.RowKit Go.Proofs.YtelglbebffdaaaaW.PrintWords Go.Proofs.YtelglbebffdaaaaW.PrintLast Go.Proofs.YtelglbebffdaaaaW.PrintMore
attribute [local go_sem] max2_int min2_int max_two min_two max_three min_three max_four min_four   -- for this text's walks alone
set_option linter.unusedVariables false
set_option linter.unusedSimpArgs false
end Go.Proofs.Ytelglbebffdaaaa.X
namespace Go.Proofs.Ytelglbebffdaaaa.X
open Go.RowKit Go.Proofs.YtelglbebffdaaaaW.PrintWords Go.Proofs.YtelglbebffdaaaaW.PrintLast Go.Proofs.YtelglbebffdaaaaW.PrintMore
attribute [local go_sem] max2_int min2_int max_two min_two max_three min_three max_four min_four   -- for this text's walks alone
set_option linter.unusedVariables false
set_option linter.unusedSimpArgs false
end Go.Proofs.Ytelglbebffdaaaa.X
namespace Go.Proofs.Ytelglbebffdaaaa.X
open Go.RowKit Go.Proofs.YtelglbebffdaaaaW.PrintWords Go.Proofs.YtelglbebffdaaaaW.PrintLast Go.Proofs.YtelglbebffdaaaaW.PrintMore
attribute [local go_sem] max2_int min2_int max_two min_two max_three min_three max_four min_four   -- for this text's walks alone
set_option linter.unusedVariables false
set_option linter.unusedSimpArgs false
end Go.Proofs.Ytelglbebffdaaaa.X
namespace Go.Proofs.Ytelglbebffdaaaa.X
open Go.RowKit Go.Proofs.YtelglbebffdaaaaW.PrintWords Go.Proofs.YtelglbebffdaaaaW.PrintLast Go.Proofs.YtelglbebffdaaaaW.PrintMore
attribute [local go_sem] max2_int min2_int max_two min_two max_three min_three max_four min_four   -- for this text's walks alone
set_option linter.unusedVariables false
set_option linter.unusedSimpArgs false
end Go.Proofs.Ytelglbebffdaaaa.X
namespace Go.Proofs.Ytelglbebffdaaaa.X
open Go.RowKit Go.Proofs.YtelglbebffdaaaaW.PrintWords Go.Proofs.YtelglbebffdaaaaW.PrintLast Go.Proofs.YtelglbebffdaaaaW.PrintMore
attribute [local go_sem] max2_int min2_int max_two min_two max_three min_three max_four min_four   -- for this text's walks alone
set_option linter.unusedVariables false
set_option linter.unusedSimpArgs false
mutual
def spec_KidsOf.l0 : Nat → List (S53) → Int → List Int → Int → Option (List Int)
 | 0,_,_,_,_ => none
 | k + 1,x0,x1,x5,x6 => (spec_l3At.f k x0 x1).bind fun t143 => (if t143 = true then ((spec_EndOf.f k x0 x1).bind fun t144 => (spec_KidsOf.j1 k x0 x1 x5 x6 (decide (x6 < t144)))) else (spec_KidsOf.j1 k x0 x1 x5 x6 false))
def spec_KidsOf.j1 : Nat → List (S53) → Int → List Int → Int → Bool → Option (List Int)
 | 0,_,_,_,_,_ => none
 | k + 1,x0,x1,x5,x6,x19 => if x19 = true then (if 0 ≤ x6 then (if x6 < (x0.length : Int) then (if 0 ≤ x1 then (if x1 < (x0.length : Int) then (if ((rd_T53 x0 x6).f1) = (wrap64 (((rd_T53 x0 x1).f1) + 1)) then (if x5.length < 17592186044416 then (spec_KidsOf.l0 k x0 x1 (x5 ++ [x6]) (wrap64 (x6 + 1))) else (none)) else (spec_KidsOf.l0 k x0 x1 x5 (wrap64 (x6 + 1)))) else (none)) else (none)) else (none)) else (none)) else (some x5)
end
def spec_KidsOf.f (k : Nat) (l0 : List (S53)) (a1 : Int) : Option (List Int):=spec_KidsOf.l0 k l0 a1 (([] : List Int)) (wrap64 (a1 + 1))
theorem spec_KidsOf.mono_l : ∀ k,(∀ y0 y1 y2 y3,LeO (spec_KidsOf.l0 k y0 y1 y2 y3) (spec_KidsOf.l0 (k + 1) y0 y1 y2 y3)) ∧ (∀ y0 y1 y2 y3 y4,LeO (spec_KidsOf.j1 k y0 y1 y2 y3 y4) (spec_KidsOf.j1 (k + 1) y0 y1 y2 y3 y4))
 | 0 => ⟨fun _ _ _ _ r h => by simp [spec_KidsOf.l0] at h,fun _ _ _ _ _ r h => by simp [spec_KidsOf.j1] at h⟩
 | k + 1 => by
  obtain ⟨ih0,ih1⟩:=spec_KidsOf.mono_l k
  refine ⟨?_,?_⟩
  ·intro y0 y1 y2 y3
   unfold spec_KidsOf.l0
   repeat' first
   | (with_reducible exact ih0 _ _ _ _)
   | (with_reducible exact ih1 _ _ _ _ _)
   | (with_reducible exact spec_EndOf.mono _ _ _)
   | (with_reducible exact spec_l3At.mono _ _ _)
   | (with_reducible exact LeO.refl _)
   | (with_reducible exact LeO.none _)
   | (with_reducible refine LeO.ite ?_ ?_)
   | (with_reducible refine LeO.bind ?_ (fun _ => ?_))
   | exact ih0 _ _ _ _
   | exact ih1 _ _ _ _ _
   | exact spec_EndOf.mono _ _ _
   | exact spec_l3At.mono _ _ _
   | exact LeO.none _
   | refine LeO.ite ?_ ?_
   | refine LeO.bind ?_ (fun _ => ?_)
  ·intro y0 y1 y2 y3 y4
   unfold spec_KidsOf.j1
   repeat' first
   | (with_reducible exact ih0 _ _ _ _)
   | (with_reducible exact ih1 _ _ _ _ _)
   | (with_reducible exact spec_EndOf.mono _ _ _)
   | (with_reducible exact spec_l3At.mono _ _ _)
   | (with_reducible exact LeO.refl _)
   | (with_reducible exact LeO.none _)
   | (with_reducible refine LeO.ite ?_ ?_)
   | (with_reducible refine LeO.bind ?_ (fun _ => ?_))
   | exact ih0 _ _ _ _
   | exact ih1 _ _ _ _ _
   | exact spec_EndOf.mono _ _ _
   | exact spec_l3At.mono _ _ _
   | exact LeO.none _
   | refine LeO.ite ?_ ?_
   | refine LeO.bind ?_ (fun _ => ?_)
theorem spec_KidsOf.mono : ∀ a0 a1 k,LeO (spec_KidsOf.f k a0 a1) (spec_KidsOf.f (k + 1) a0 a1):=by
 intro a0 a1 k
 obtain ⟨ih0,ih1⟩:=spec_KidsOf.mono_l k
 unfold spec_KidsOf.f
 repeat' first
   | (with_reducible exact ih0 _ _ _ _)
   | (with_reducible exact ih1 _ _ _ _ _)
   | (with_reducible exact spec_EndOf.mono _ _ _)
   | (with_reducible exact spec_l3At.mono _ _ _)
   | (with_reducible exact LeO.refl _)
   | (with_reducible exact LeO.none _)
   | (with_reducible refine LeO.ite ?_ ?_)
   | (with_reducible refine LeO.bind ?_ (fun _ => ?_))
   | exact ih0 _ _ _ _
   | exact ih1 _ _ _ _ _
   | exact spec_EndOf.mono _ _ _
   | exact spec_l3At.mono _ _ _
   | exact LeO.none _
   | refine LeO.ite ?_ ?_
   | refine LeO.bind ?_ (fun _ => ?_)
set_option maxHeartbeats 8000000 in
set_option maxRecDepth 100000 in
theorem spec_KidsOf.calls (k : Nat) (A0 : Option Addr) (c0 : Nat) (l0 : List (S53)) (a1 : Int) (r : List Int) (w : World) (hr0 : Kd.C k53 w A0 l0.length l0) (hc0 : l0.length ≤ c0) (h : spec_KidsOf.f k l0 a1 = some r) :
  Calls Try.prog 98 #[.slice A0 l0.length c0,.int .i64 a1] w fun e w' => ∃ v0_ : Value,e = .returned (v0_) ∧ Kd.R (Kd.int .i64) 3 w' w.heap.size (fun _ => True) v0_ r ∧ Below w.heap.size w w':=by
 have HR0:=Aside0.mk hr0
 have HC0:=Aside0.mk hc0
 clear hr0 hc0
 have HB:=Aside0.mk (Below.refl w.heap.size w)
 have H : (spec_KidsOf.l0 k l0 a1 (([] : List Int)) (wrap64 (a1 + 1))) = some r:=h
 clear h
 obtain ⟨y140,hy140⟩ : ∃ y_ : List Int,y_ = (([] : List Int)):=⟨_,rfl⟩
 replace H : (spec_KidsOf.l0 k l0 a1 y140 (wrap64 (a1 + 1))) = some r:=by first | (rw [hy140];with_reducible exact H) | (have H2_:=(Option.bind_some _ _).symm.trans H;rw [hy140];with_reducible exact H2_) | (have H2_:=(Option.bind_some _ _).symm.trans H;with_reducible exact H2_) | with_reducible exact H | (rw [hy140];exact H) | exact H
 have Ny140:=Aside0.mk hy140
 clear hy140
 have H':=Aside0.mk H
 clear H
 go_enter Try.func98,Try.ntmps98
 go_wp2_with (first | ((with_reducible refine gate_dst (N:=7) rfl ?_);refine Kd.R_lit (Kd.int .i64) _ 3 ?hg (N:=7) ?hd (xs:=([] : List Int)) (inner:=[]) (ok:=fun _ => True) (okp:=fun _ => True) ?hr ?hp (fun _ hk => hk) trivial (Below.refl _ _) (Nat.le_refl _) (by simp) ?_;(case hd => rfl);(case hg => rfl);(case hr => first | (go_simp;done) | (go_simp;rfl));(case hp => exact (Reps.none _ _));intro v141 w3 ho4 hb hg_ hnew_;clear hg_ hnew_;(first | rw [← Ny140.out] at ho4 | (simp only [Int.reduceToNat] at ho4;rw [← Ny140.out] at ho4));have HO142:=Aside0.mk (Kd.R_lower ho4 (bs_ HB));replace HB:=tB_ HB hb;clear hb ho4))
 repeat (go_quiet (first | ((with_reducible refine gate_dst (N:=7) rfl ?_);refine Kd.R_lit (Kd.int .i64) _ 3 ?hg (N:=7) ?hd (xs:=([] : List Int)) (inner:=[]) (ok:=fun _ => True) (okp:=fun _ => True) ?hr ?hp (fun _ hk => hk) trivial (Below.refl _ _) (Nat.le_refl _) (by simp) ?_;(case hd => rfl);(case hg => rfl);(case hr => first | (go_simp;done) | (go_simp;rfl));(case hp => exact (Reps.none _ _));intro v141 w3 ho4 hb hg_ hnew_;clear hg_ hnew_;(first | rw [← Ny140.out] at ho4 | (simp only [Int.reduceToNat] at ho4;rw [← Ny140.out] at ho4));have HO142:=Aside0.mk (Kd.R_lower ho4 (bs_ HB));replace HB:=tB_ HB hb;clear hb ho4));try go_wp2_with (first | ((with_reducible refine gate_dst (N:=7) rfl ?_);refine Kd.R_lit (Kd.int .i64) _ 3 ?hg (N:=7) ?hd (xs:=([] : List Int)) (inner:=[]) (ok:=fun _ => True) (okp:=fun _ => True) ?hr ?hp (fun _ hk => hk) trivial (Below.refl _ _) (Nat.le_refl _) (by simp) ?_;(case hd => rfl);(case hg => rfl);(case hr => first | (go_simp;done) | (go_simp;rfl));(case hp => exact (Reps.none _ _));intro v141 w3 ho4 hb hg_ hnew_;clear hg_ hnew_;(first | rw [← Ny140.out] at ho4 | (simp only [Int.reduceToNat] at ho4;rw [← Ny140.out] at ho4));have HO142:=Aside0.mk (Kd.R_lower ho4 (bs_ HB));replace HB:=tB_ HB hb;clear hb ho4)))
 go_loopg [5,6] k (fun kq v5 v6 w' => ∃ (x5_1 : List Int) (x6_1 : Int),v6 = .int .i64 x6_1 ∧ Aside0 (spec_KidsOf.l0 kq l0 a1 x5_1 x6_1 = some r) ∧ Aside0 (kq ≤ k) ∧ Aside0 (Kd.R (Kd.int .i64) 3 w' w.heap.size (fun _ => True) v5 x5_1) ∧ Aside0 (Below w.heap.size w w'))
 case atStart => exact ⟨(y140),(wrap64 (a1 + 1)),eb_,H',⟨Nat.le_refl _⟩,⟨rx_ HO142.out⟩,bl_ HB⟩
 case round =>
  clear H'
  try clear p2
  obtain ⟨x5_1,x6_1,rfl,HA,HK1,HO_5,HB⟩:=hrel
  cases gk with
  | zero => exact absurd HA.out (by simp [spec_KidsOf.l0])
  | succ k1 =>
   have H:=HA.out
   clear HA
   simp only [spec_KidsOf.l0] at H
   have HC5:=Aside0.mk H
   clear H
   go_upto_region 3 with (fail)
   repeat (go_quiet (fail);go_upto_region 3 with (fail))
   go_cut [19] (fun v19 wc => ∃ (kq : Nat) (x19_4 : Bool),v19 = .bool x19_4 ∧ Aside0 (spec_KidsOf.j1 kq l0 a1 x5_1 x6_1 x19_4 = some r) ∧ Aside0 (kq ≤ k1) ∧ Aside0 (Kd.R (Kd.int .i64) 3 wc w.heap.size (fun _ => True) u5 x5_1) ∧ Aside0 (Below w.heap.size w wc))
   case first =>
    have H:=HC5.out
    clear HC5
    replace H:=Option.bind_eq_some_iff.mp H
    obtain ⟨t143,A60,H⟩:=H
    try dsimp only at H
    have A6:=Aside0.mk A60
    clear A60
    by_cases c7 : t143 = true
    ·subst c7
     have H1 : ((spec_EndOf.f k1 l0 a1).bind fun t144 => (spec_KidsOf.j1 k1 l0 a1 x5_1 x6_1 (decide (x6_1 < t144)))) = some r:=by rw [if_pos rfl] at H;exact H
     clear H
     have H:=H1
     clear H1
     replace H:=Option.bind_eq_some_iff.mp H
     obtain ⟨t144,A80,H⟩:=H
     replace H : (spec_KidsOf.j1 k1 l0 a1 x5_1 x6_1 (decide (x6_1 < t144))) = some r:=H
     have A8:=Aside0.mk A80
     clear A80
     have H':=Aside0.mk H
     clear H
     go_wp2_with (first | (go_at_call 80;(with_reducible refine (spec_l3At.calls k1 _ _ l0 a1 true _ (cx_ HR0 HB) HC0.out A6.out).mono ?_);rintro e w9 ⟨rfl,hb⟩;replace HO_5:=tR_ HO_5 hb;replace HB:=tB_ HB hb;(try clear hb)) | (go_at_call 79;(with_reducible refine (spec_EndOf.calls k1 _ _ l0 a1 t144 _ (cx_ HR0 HB) HC0.out A8.out).mono ?_);rintro e w10 ⟨rfl,hb⟩;replace HO_5:=tR_ HO_5 hb;replace HB:=tB_ HB hb;(try clear hb)))
     repeat (go_quiet (first | (go_at_call 80;(with_reducible refine (spec_l3At.calls k1 _ _ l0 a1 true _ (cx_ HR0 HB) HC0.out A6.out).mono ?_);rintro e w9 ⟨rfl,hb⟩;replace HO_5:=tR_ HO_5 hb;replace HB:=tB_ HB hb;(try clear hb)) | (go_at_call 79;(with_reducible refine (spec_EndOf.calls k1 _ _ l0 a1 t144 _ (cx_ HR0 HB) HC0.out A8.out).mono ?_);rintro e w10 ⟨rfl,hb⟩;replace HO_5:=tR_ HO_5 hb;replace HB:=tB_ HB hb;(try clear hb)));try go_wp2_with (first | (go_at_call 80;(with_reducible refine (spec_l3At.calls k1 _ _ l0 a1 true _ (cx_ HR0 HB) HC0.out A6.out).mono ?_);rintro e w9 ⟨rfl,hb⟩;replace HO_5:=tR_ HO_5 hb;replace HB:=tB_ HB hb;(try clear hb)) | (go_at_call 79;(with_reducible refine (spec_EndOf.calls k1 _ _ l0 a1 t144 _ (cx_ HR0 HB) HC0.out A8.out).mono ?_);rintro e w10 ⟨rfl,hb⟩;replace HO_5:=tR_ HO_5 hb;replace HB:=tB_ HB hb;(try clear hb))))
     go_meet
     case rel => exact ⟨_,(decide (x6_1 < t144)),eb_,H',⟨by have:=HK1.out;first | omega | exact Nat.le_refl _⟩,⟨rx_ HO_5.out⟩,bl_ HB⟩
    ·replace c7:=Bool.eq_false_iff.mpr c7
     subst c7
     have H1 : (spec_KidsOf.j1 k1 l0 a1 x5_1 x6_1 false) = some r:=by rw [if_neg (show ¬ (false = true) by decide)] at H;exact H
     clear H
     have H:=H1
     clear H1
     have H':=Aside0.mk H
     clear H
     go_wp2_with (first | (go_at_call 80;(with_reducible refine (spec_l3At.calls k1 _ _ l0 a1 false _ (cx_ HR0 HB) HC0.out A6.out).mono ?_);rintro e w11 ⟨rfl,hb⟩;replace HO_5:=tR_ HO_5 hb;replace HB:=tB_ HB hb;(try clear hb)))
     repeat (go_quiet (first | (go_at_call 80;(with_reducible refine (spec_l3At.calls k1 _ _ l0 a1 false _ (cx_ HR0 HB) HC0.out A6.out).mono ?_);rintro e w11 ⟨rfl,hb⟩;replace HO_5:=tR_ HO_5 hb;replace HB:=tB_ HB hb;(try clear hb)));try go_wp2_with (first | (go_at_call 80;(with_reducible refine (spec_l3At.calls k1 _ _ l0 a1 false _ (cx_ HR0 HB) HC0.out A6.out).mono ?_);rintro e w11 ⟨rfl,hb⟩;replace HO_5:=tR_ HO_5 hb;replace HB:=tB_ HB hb;(try clear hb))))
     go_meet
     case rel => exact ⟨_,(false),eb_,H',⟨by have:=HK1.out;first | omega | exact Nat.le_refl _⟩,⟨rx_ HO_5.out⟩,bl_ HB⟩
   case rest =>
    clear HC5
    try clear p2
    try clear p6
    try clear c7
    try clear c9
    try clear p2
    obtain ⟨kq,x19_4,rfl,HA,HJ4,HO_5,HB⟩:=hcut
    cases kq with
    | zero => exact absurd HA.out (by simp [spec_KidsOf.j1])
    | succ kj4 =>
     have H:=HA.out
     clear HA
     simp only [spec_KidsOf.j1] at H
     by_cases c12 : x19_4 = true
     ·subst c12
      have H1 : (if 0 ≤ x6_1 then (if x6_1 < (l0.length : Int) then (if 0 ≤ a1 then (if a1 < (l0.length : Int) then (if ((rd_T53 l0 x6_1).f1) = (wrap64 (((rd_T53 l0 a1).f1) + 1)) then (if x5_1.length < 17592186044416 then (spec_KidsOf.l0 kj4 l0 a1 (x5_1 ++ [x6_1]) (wrap64 (x6_1 + 1))) else (none)) else (spec_KidsOf.l0 kj4 l0 a1 x5_1 (wrap64 (x6_1 + 1)))) else (none)) else (none)) else (none)) else (none)) = some r:=by rw [if_pos rfl] at H;exact H
      clear H
      have H:=H1
      clear H1
      by_cases c13 : 0 ≤ x6_1
      ·rw [if_pos c13] at H
       have c13b0 : decide (0 ≤ x6_1) = true:=decide_eq_true c13
       clear c13
       by_cases c14 : x6_1 < (l0.length : Int)
       ·rw [if_pos c14] at H
        have c14b0 : decide (x6_1 < (l0.length : Int)) = true:=decide_eq_true c14
        clear c14
        by_cases c15 : 0 ≤ a1
        ·rw [if_pos c15] at H
         have c15b0 : decide (0 ≤ a1) = true:=decide_eq_true c15
         clear c15
         by_cases c16 : a1 < (l0.length : Int)
         ·rw [if_pos c16] at H
          have c16b0 : decide (a1 < (l0.length : Int)) = true:=decide_eq_true c16
          clear c16
          by_cases c17 : ((rd_T53 l0 x6_1).f1) = (wrap64 (((rd_T53 l0 a1).f1) + 1))
          ·rw [if_pos c17] at H
           have c17b0 : (((rd_T53 l0 x6_1).f1) == (wrap64 (((rd_T53 l0 a1).f1) + 1))) = true:=beq_iff_eq.mpr c17
           have c17b1 : (((rd_T53 l0 x6_1).f1) != (wrap64 (((rd_T53 l0 a1).f1) + 1))) = false:=bne_eq_false_iff_eq.mpr c17
           clear c17
           by_cases c18 : x5_1.length < 17592186044416
           ·rw [if_pos c18] at H
            have LMc18:=Aside0.mk c18
            clear c18
            obtain ⟨y147,hy147⟩ : ∃ y_ : List Int,y_ = (x5_1 ++ [x6_1]):=⟨_,rfl⟩
            replace H : (spec_KidsOf.l0 kj4 l0 a1 y147 (wrap64 (x6_1 + 1))) = some r:=by first | (rw [hy147];with_reducible exact H) | (have H2_:=(Option.bind_some _ _).symm.trans H;rw [hy147];with_reducible exact H2_) | (have H2_:=(Option.bind_some _ _).symm.trans H;with_reducible exact H2_) | with_reducible exact H | (rw [hy147];exact H) | exact H
            have Ny147:=Aside0.mk hy147
            clear hy147
            have H':=Aside0.mk H
            clear H
            have p145 : 0 ≤ (x6_1 : Int):=od_
            have q145 : x6_1 < (l0.length : Int):=od_
            obtain ⟨ad145,e145,hx145_0,hx145_1⟩:=at_T53 HR0.out x6_1 p145 q145
            cases e145
            replace hx145_0:=ce_ HB hx145_0
            replace hx145_1:=ce_ HB hx145_1
            replace p145:=eq_true p145
            replace q145:=eq_true q145
            have p146 : 0 ≤ (a1 : Int):=od_
            have q146 : a1 < (l0.length : Int):=od_
            obtain ⟨ad146,e146,hx146_0,hx146_1⟩:=at_T53 HR0.out a1 p146 q146
            obtain rfl : ad145 = ad146:=(by injection e146)
            replace hx146_0:=ce_ HB hx146_0
            replace hx146_1:=ce_ HB hx146_1
            replace p146:=eq_true p146
            replace q146:=eq_true q146
            go_wp2_with (first | ((with_reducible refine gate_builtin (b:=.append) (xs:=#[.tmp 34,.tmp 36]) rfl ?_);at_builtin;refine Kd.R_append (Kd.int .i64) (w0:=w) w.heap.size rfl (.tmp 34) (.tmp 36) 23 3 (.int .i64 0) 8 rfl Try.underlying23 info3 rfl (by decide) (by omega) u5 x5_1 x6_1 [.int .i64 x6_1] (fun _ => True) (fun _ => False) rfl rfl ?aP (fun _ hk => hk.elim) ?aF ?aO ?aB ?aS ?aL ?_;(case aP => exact rfl);(case aB => exact ((bl_ HB).out));(case aF => exact (fun _ _ => trivial));(case aO => exact (rx_ HO_5.out));(case aS => exact (bs_ HB));(case aL => have:=LMc18.out;omega);intro v148 w19 ho hb hg hat;rw [← Ny147.out] at ho;replace HB:=Aside0.mk (hb);have HO149:=Aside0.mk (ho);clear HO_5;clear ho hb hg hat))
            repeat (go_quiet (first | ((with_reducible refine gate_builtin (b:=.append) (xs:=#[.tmp 34,.tmp 36]) rfl ?_);at_builtin;refine Kd.R_append (Kd.int .i64) (w0:=w) w.heap.size rfl (.tmp 34) (.tmp 36) 23 3 (.int .i64 0) 8 rfl Try.underlying23 info3 rfl (by decide) (by omega) u5 x5_1 x6_1 [.int .i64 x6_1] (fun _ => True) (fun _ => False) rfl rfl ?aP (fun _ hk => hk.elim) ?aF ?aO ?aB ?aS ?aL ?_;(case aP => exact rfl);(case aB => exact ((bl_ HB).out));(case aF => exact (fun _ _ => trivial));(case aO => exact (rx_ HO_5.out));(case aS => exact (bs_ HB));(case aL => have:=LMc18.out;omega);intro v148 w19 ho hb hg hat;rw [← Ny147.out] at ho;replace HB:=Aside0.mk (hb);have HO149:=Aside0.mk (ho);clear HO_5;clear ho hb hg hat));try go_wp2_with (first | ((with_reducible refine gate_builtin (b:=.append) (xs:=#[.tmp 34,.tmp 36]) rfl ?_);at_builtin;refine Kd.R_append (Kd.int .i64) (w0:=w) w.heap.size rfl (.tmp 34) (.tmp 36) 23 3 (.int .i64 0) 8 rfl Try.underlying23 info3 rfl (by decide) (by omega) u5 x5_1 x6_1 [.int .i64 x6_1] (fun _ => True) (fun _ => False) rfl rfl ?aP (fun _ hk => hk.elim) ?aF ?aO ?aB ?aS ?aL ?_;(case aP => exact rfl);(case aB => exact ((bl_ HB).out));(case aF => exact (fun _ _ => trivial));(case aO => exact (rx_ HO_5.out));(case aS => exact (bs_ HB));(case aL => have:=LMc18.out;omega);intro v148 w19 ho hb hg hat;rw [← Ny147.out] at ho;replace HB:=Aside0.mk (hb);have HO149:=Aside0.mk (ho);clear HO_5;clear ho hb hg hat)))
            go_roundg kj4
            case measure => have:=HK1.out;have:=HJ4.out;omega
            case rel => exact ⟨(y147),(wrap64 (x6_1 + 1)),eb_,H',⟨by have:=HK1.out;have:=HJ4.out;omega⟩,⟨rx_ HO149.out⟩,bl_ HB⟩
           ·rw [if_neg c18] at H
            exact absurd H (by simp)
          ·rw [if_neg c17] at H
           have c17b0 : (((rd_T53 l0 x6_1).f1) == (wrap64 (((rd_T53 l0 a1).f1) + 1))) = false:=beq_eq_false_iff_ne.mpr c17
           have c17b1 : (((rd_T53 l0 x6_1).f1) != (wrap64 (((rd_T53 l0 a1).f1) + 1))) = true:=bne_iff_ne.mpr c17
           have H':=Aside0.mk H
           clear H
           have p145 : 0 ≤ (x6_1 : Int):=od_
           have q145 : x6_1 < (l0.length : Int):=od_
           obtain ⟨ad145,e145,hx145_0,hx145_1⟩:=at_T53 HR0.out x6_1 p145 q145
           cases e145
           replace hx145_0:=ce_ HB hx145_0
           replace hx145_1:=ce_ HB hx145_1
           replace p145:=eq_true p145
           replace q145:=eq_true q145
           have p146 : 0 ≤ (a1 : Int):=od_
           have q146 : a1 < (l0.length : Int):=od_
           obtain ⟨ad146,e146,hx146_0,hx146_1⟩:=at_T53 HR0.out a1 p146 q146
           obtain rfl : ad145 = ad146:=(by injection e146)
           replace hx146_0:=ce_ HB hx146_0
           replace hx146_1:=ce_ HB hx146_1
           replace p146:=eq_true p146
           replace q146:=eq_true q146
           go_wp2
           repeat (go_quiet (fail);try go_wp2)
           go_roundg kj4
           case measure => have:=HK1.out;have:=HJ4.out;omega
           case rel => exact ⟨(x5_1),(wrap64 (x6_1 + 1)),eb_,H',⟨by have:=HK1.out;have:=HJ4.out;omega⟩,⟨rx_ HO_5.out⟩,bl_ HB⟩
         ·rw [if_neg c16] at H
          exact absurd H (by simp)
        ·rw [if_neg c15] at H
         exact absurd H (by simp)
       ·rw [if_neg c14] at H
        exact absurd H (by simp)
      ·rw [if_neg c13] at H
       exact absurd H (by simp)
     ·replace c12:=Bool.eq_false_iff.mpr c12
      subst c12
      have H1 : (some x5_1) = some r:=by rw [if_neg (show ¬ (false = true) by decide)] at H;exact H
      clear H
      have H:=H1
      clear H1
      obtain rfl:=Option.some.inj H
      go_wp2
      repeat (go_quiet (fail);try go_wp2)
      go_ret
      exact ⟨_,ea_,rx_ HO_5.out,(bl_ HB).out⟩
end Go.Proofs.Ytelglbebffdaaaa.X
namespace Go.Proofs.Ytelglbebffdaaaa.X
open Go.RowKit Go.Proofs.YtelglbebffdaaaaW.PrintWords Go.Proofs.YtelglbebffdaaaaW.PrintLast Go.Proofs.YtelglbebffdaaaaW.PrintMore
attribute [local go_sem] max2_int min2_int max_two min_two max_three min_three max_four min_four   -- for this text's walks alone
set_option linter.unusedVariables false
set_option linter.unusedSimpArgs false
mutual
def spec_l6Post.l0 : Nat → List (S53) → Int → List Int → List Int → Int → Option (List Int)
 | 0,_,_,_,_,_ => none
 | k + 1,x0,x1,x5,x6,x7 => if x7 < (x6.length : Int) then (if 0 ≤ x7 then ((spec_l6Post.f k x0 (rd x6 x7)).bind fun t157 => (if x5.length + t157.length < 17592186044416 then (spec_l6Post.l0 k x0 x1 (x5 ++ t157) x6 (wrap64 (x7 + 1))) else (none))) else (none)) else (if x5.length < 17592186044416 then (some (x5 ++ [x1])) else (none))
def spec_l6Post.f : Nat → List (S53) → Int → Option (List Int)
 | 0,_,_ => none
 | k + 1,l0,a1 => (spec_KidsOf.f k l0 a1).bind fun t153 => (spec_l6Post.l0 k l0 a1 (([] : List Int)) t153 0)
end
theorem spec_l6Post.mono_l : ∀ k,(∀ y0 y1,LeO (spec_l6Post.f k y0 y1) (spec_l6Post.f (k + 1) y0 y1)) ∧ (∀ y0 y1 y2 y3 y4,LeO (spec_l6Post.l0 k y0 y1 y2 y3 y4) (spec_l6Post.l0 (k + 1) y0 y1 y2 y3 y4))
 | 0 => ⟨fun _ _ r h => by simp [spec_l6Post.f] at h,fun _ _ _ _ _ r h => by simp [spec_l6Post.l0] at h⟩
 | k + 1 => by
  obtain ⟨ih0,ih1⟩:=spec_l6Post.mono_l k
  refine ⟨?_,?_⟩
  ·intro y0 y1
   unfold spec_l6Post.f
   repeat' first
   | (with_reducible exact ih0 _ _)
   | (with_reducible exact ih1 _ _ _ _ _)
   | (with_reducible exact spec_KidsOf.mono _ _ _)
   | (with_reducible exact LeO.refl _)
   | (with_reducible exact LeO.none _)
   | (with_reducible refine LeO.ite ?_ ?_)
   | (with_reducible refine LeO.bind ?_ (fun _ => ?_))
   | exact ih0 _ _
   | exact ih1 _ _ _ _ _
   | exact spec_KidsOf.mono _ _ _
   | exact LeO.none _
   | refine LeO.ite ?_ ?_
   | refine LeO.bind ?_ (fun _ => ?_)
  ·intro y0 y1 y2 y3 y4
   unfold spec_l6Post.l0
   repeat' first
   | (with_reducible exact ih0 _ _)
   | (with_reducible exact ih1 _ _ _ _ _)
   | (with_reducible exact spec_KidsOf.mono _ _ _)
   | (with_reducible exact LeO.refl _)
   | (with_reducible exact LeO.none _)
   | (with_reducible refine LeO.ite ?_ ?_)
   | (with_reducible refine LeO.bind ?_ (fun _ => ?_))
   | exact ih0 _ _
   | exact ih1 _ _ _ _ _
   | exact spec_KidsOf.mono _ _ _
   | exact LeO.none _
   | refine LeO.ite ?_ ?_
   | refine LeO.bind ?_ (fun _ => ?_)
theorem spec_l6Post.mono : ∀ a0 a1 k,LeO (spec_l6Post.f k a0 a1) (spec_l6Post.f (k + 1) a0 a1):=by
 intro a0 a1 k
 obtain ⟨ih0,ih1⟩:=spec_l6Post.mono_l k
 exact ih0 a0 a1
set_option maxHeartbeats 8000000 in
set_option maxRecDepth 100000 in
theorem spec_l6Post.calls (k : Nat) : ∀ (A0 : Option Addr) (c0 : Nat) (l0 : List (S53)) (a1 : Int) (r : List Int) (w : World) (hr0 : Kd.C k53 w A0 l0.length l0) (hc0 : l0.length ≤ c0) (h : spec_l6Post.f k l0 a1 = some r),
  Calls Try.prog 73 #[.slice A0 l0.length c0,.int .i64 a1] w fun e w' => ∃ v0_ : Value,e = .returned (v0_) ∧ Kd.R (Kd.int .i64) 3 w' w.heap.size (fun _ => True) v0_ r ∧ Below w.heap.size w w':=by
 induction k using Nat.strongRecOn with
 | _ k ih =>
 intro A0 c0 l0 a1 r w hr0 hc0 h
 cases k with
 | zero => exact absurd h (by simp [spec_l6Post.f])
 | succ k =>
 simp only [spec_l6Post.f] at h
 have HR0:=Aside0.mk hr0
 have HC0:=Aside0.mk hc0
 clear hr0 hc0
 have HB:=Aside0.mk (Below.refl w.heap.size w)
 have H : ((spec_KidsOf.f k l0 a1).bind fun t153 => (spec_l6Post.l0 k l0 a1 (([] : List Int)) t153 0)) = some r:=h
 clear h
 obtain ⟨y150,hy150⟩ : ∃ y_ : List Int,y_ = (([] : List Int)):=⟨_,rfl⟩
 replace H : ((spec_KidsOf.f k l0 a1).bind fun t153 => (spec_l6Post.l0 k l0 a1 y150 t153 0)) = some r:=by first | (rw [hy150];with_reducible exact H) | (have H2_:=(Option.bind_some _ _).symm.trans H;rw [hy150];with_reducible exact H2_) | (have H2_:=(Option.bind_some _ _).symm.trans H;with_reducible exact H2_) | with_reducible exact H | (rw [hy150];exact H) | exact H
 have Ny150:=Aside0.mk hy150
 clear hy150
 replace H:=Option.bind_eq_some_iff.mp H
 obtain ⟨t153,A30,H⟩:=H
 replace H : (spec_l6Post.l0 k l0 a1 y150 t153 0) = some r:=H
 have A3:=Aside0.mk A30
 clear A30
 have H':=Aside0.mk H
 clear H
 go_enter Try.func73,Try.ntmps73
 go_wp2_with (first | ((with_reducible refine gate_dst (N:=8) rfl ?_);refine Kd.R_lit (Kd.int .i64) _ 3 ?hg (N:=8) ?hd (xs:=([] : List Int)) (inner:=[]) (ok:=fun _ => True) (okp:=fun _ => True) ?hr ?hp (fun _ hk => hk) trivial (Below.refl _ _) (Nat.le_refl _) (by simp) ?_;(case hd => rfl);(case hg => rfl);(case hr => first | (go_simp;done) | (go_simp;rfl));(case hp => exact (Reps.none _ _));intro v151 w4 ho5 hb hg_ hnew_;clear hg_ hnew_;(first | rw [← Ny150.out] at ho5 | (simp only [Int.reduceToNat] at ho5;rw [← Ny150.out] at ho5));have HO152:=Aside0.mk (Kd.R_lower ho5 (bs_ HB));replace HB:=tB_ HB hb;clear hb ho5) | ((with_reducible refine gate_callee (f:=98) rfl ?_);refine gL_ (some 11) Try.func98 #[.slice A0 l0.length c0,.int .i64 a1] ?_;(with_reducible refine (spec_KidsOf.calls k _ _ l0 a1 t153 _ (cx_ HR0 HB) HC0.out A3.out).mono ?_);rintro e w6 ⟨v154,rfl,ho0,hb⟩;refine ⟨_,rfl,?_⟩;have HO155:=Aside0.mk (Kd.R_lower (Kd.R_new' ho0 (Kd.R_lt (rx_ HO152.out))) (bs_ HB));replace HO152:=Aside0.mk (Kd.R_elder' (rx_ HO152.out) (Kd.R_base ho0) hb);replace HB:=tB_ HB hb;(try clear hb);(try clear ho0)))
 go_loopg [5,7] k (fun kq v5 v7 w' => ∃ (x5_1 : List Int) (x7_1 : Int),v7 = .int .i64 x7_1 ∧ Aside0 (spec_l6Post.l0 kq l0 a1 x5_1 t153 x7_1 = some r) ∧ Aside0 (kq ≤ k) ∧ Aside0 (Kd.R (Kd.int .i64) 3 w' w.heap.size (fun k_ => some k_ ≠ (v154 : Value).ownBlock) v5 x5_1) ∧ Aside0 (Kd.R (Kd.int .i64) 3 w' w.heap.size (fun k_ => some k_ ≠ (v5 : Value).ownBlock) v154 t153) ∧ Aside0 (Below w.heap.size w w'))
 case atStart => exact ⟨(y150),(0),eb_,H',⟨Nat.le_refl _⟩,⟨rx_ (Kd.R_mono HO152.out (fun _ hk => hk.2))⟩,⟨rx_ (Kd.R_mono HO155.out (fun _ hk => hk.2))⟩,bl_ HB⟩
 case round =>
  clear H'
  try clear p2
  obtain ⟨x5_1,x7_1,rfl,HA,HK1,HO_5,HO_6,HB⟩:=hrel
  cases gk with
  | zero => exact absurd HA.out (by simp [spec_l6Post.l0])
  | succ k1 =>
   have H:=HA.out
   clear HA
   simp only [spec_l6Post.l0] at H
   by_cases c7 : x7_1 < (t153.length : Int)
   ·rw [if_pos c7] at H
    have c7b0 : decide (x7_1 < (t153.length : Int)) = true:=decide_eq_true c7
    clear c7
    by_cases c8 : 0 ≤ x7_1
    ·rw [if_pos c8] at H
     have c8b0 : decide (0 ≤ x7_1) = true:=decide_eq_true c8
     clear c8
     replace H:=Option.bind_eq_some_iff.mp H
     obtain ⟨t157,A90,H⟩:=H
     try dsimp only at H
     have A9:=Aside0.mk A90
     clear A90
     by_cases c10 : x5_1.length + t157.length < 17592186044416
     ·rw [if_pos c10] at H
      have LMc10:=Aside0.mk c10
      clear c10
      obtain ⟨y160,hy160⟩ : ∃ y_ : List Int,y_ = (x5_1 ++ t157):=⟨_,rfl⟩
      replace H : (spec_l6Post.l0 k1 l0 a1 y160 t153 (wrap64 (x7_1 + 1))) = some r:=by first | (rw [hy160];with_reducible exact H) | (have H2_:=(Option.bind_some _ _).symm.trans H;rw [hy160];with_reducible exact H2_) | (have H2_:=(Option.bind_some _ _).symm.trans H;with_reducible exact H2_) | with_reducible exact H | (rw [hy160];exact H) | exact H
      have Ny160:=Aside0.mk hy160
      clear hy160
      have H':=Aside0.mk H
      clear H
      obtain ⟨Ao11,co11,eo11⟩:=Kd.R_slice HO_6.out
      subst eo11
      have p156 : 0 ≤ (x7_1 : Int):=od_
      have q156 : x7_1 < (t153.length : Int):=od_
      obtain ⟨ad156,e156,hx156_0⟩:=Kd.at_int (Kd.R_reads' HO_6.out).2.2 x7_1 p156 q156
      cases e156
      replace p156:=eq_true p156
      replace q156:=eq_true q156
      go_wp2_with (first | ((with_reducible refine gate_callee (f:=73) rfl ?_);refine gL_ (some 24) Try.func73 #[.slice A0 l0.length c0,.int .i64 (rd t153 x7_1)] ?_;(with_reducible refine (ih k1 (by have:=HK1.out;omega) _ _ l0 (rd t153 x7_1) t157 _ ?side1 ?side2 A9.out).mono ?_);(case side1 => exact cx_ HR0 HB);(case side2 => exact HC0.out);rintro e w12 ⟨v158,rfl,ho0,hb⟩;refine ⟨_,rfl,?_⟩;have HO159:=Aside0.mk (Kd.R_lower (Kd.R_new' (Kd.R_new' ho0 (Kd.R_lt (rx_ HO_5.out))) (Kd.R_lt (rx_ HO_6.out))) (bs_ HB));replace HO_5:=Aside0.mk (Kd.R_elder' (rx_ HO_5.out) (Kd.R_base ho0) hb);replace HO_6:=Aside0.mk (Kd.R_elder' (rx_ HO_6.out) (Kd.R_base ho0) hb);replace HB:=tB_ HB hb;(try clear hb);(try clear ho0);obtain ⟨Ao14,co14,eo14⟩:=Kd.R_slice HO159.out;subst eo14) | ((with_reducible refine gate_builtin (b:=.append) (xs:=#[.tmp 18,.tmp 24]) rfl ?_);at_builtin;refine Kd.R_append_rows (Kd.int .i64) (w0:=w) w.heap.size rfl (.tmp 18) (.tmp 24) 23 3 (.int .i64 0) 8 rfl Try.underlying23 info3 rfl (by decide) (by omega) u5 x5_1 t157 _ _ _ (fun k_ => some k_ ≠ (.slice (some ad156) t153.length co11 : Value).ownBlock ∧ some k_ ≠ (.slice Ao14 t157.length co14 : Value).ownBlock) (fun _ => False) rfl rfl ?aO ?aR (fun _ _ h => h) (fun _ h => h.elim) ?aF ?aB ?aS ?aL ?_;(case aR => exact cc_ (Kd.R_reads' HO159.out).2.2);(case aB => exact ((bl_ HB).out));(case aF => exact (fun k_ hk => ⟨Kd.fresh' (Kd.R_lt (rx_ HO_6.out)) k_ hk,Kd.fresh' (Kd.R_lt (rx_ HO159.out)) k_ hk⟩));(case aO => exact (rx_ HO_5.out));(case aS => exact (bs_ HB));(case aL => have:=LMc10.out;omega);intro v161 w13 ho hb hg hat;rw [← Ny160.out] at ho;replace HO_6:=Aside0.mk (Kd.R_after (ok:=(fun k_ => some k_ ≠ (.slice Ao14 t157.length co14 : Value).ownBlock)) (rx_ (Kd.R_mono HO_6.out (fun _ hk => ⟨hk.2,hk.1⟩))) hg hat);replace HO159:=Aside0.mk (Kd.R_after (ok:=(fun k_ => some k_ ≠ (.slice (some ad156) t153.length co11 : Value).ownBlock)) (rx_ (Kd.R_mono HO159.out (fun _ hk => ⟨hk.2,hk.1.2⟩))) hg hat);replace HB:=Aside0.mk (hb);have HO162:=Aside0.mk (ho);clear HO_5;clear ho hb hg hat))
      go_roundg k1
      case measure => have:=HK1.out;omega
      case rel => exact ⟨(y160),(wrap64 (x7_1 + 1)),eb_,H',⟨by have:=HK1.out;omega⟩,⟨rx_ (Kd.R_mono HO162.out (fun _ hk => hk.1))⟩,⟨rx_ (Kd.R_mono HO_6.out (fun _ hk => hk.2))⟩,bl_ HB⟩
     ·rw [if_neg c10] at H
      exact absurd H (by simp)
    ·rw [if_neg c8] at H
     exact absurd H (by simp)
   ·rw [if_neg c7] at H
    have c7b0 : decide (x7_1 < (t153.length : Int)) = false:=decide_eq_false c7
    clear c7
    by_cases c15 : x5_1.length < 17592186044416
    ·rw [if_pos c15] at H
     have LMc15:=Aside0.mk c15
     clear c15
     obtain ⟨y163,hy163⟩ : ∃ y_ : List Int,y_ = (x5_1 ++ [a1]):=⟨_,rfl⟩
     replace H : (some y163) = some r:=by first | (rw [hy163];with_reducible exact H) | (have H2_:=(Option.bind_some _ _).symm.trans H;rw [hy163];with_reducible exact H2_) | (have H2_:=(Option.bind_some _ _).symm.trans H;with_reducible exact H2_) | with_reducible exact H | (rw [hy163];exact H) | exact H
     have Ny163:=Aside0.mk hy163
     clear hy163
     obtain rfl:=Option.some.inj H
     obtain ⟨Ao16,co16,eo16⟩:=Kd.R_slice HO_6.out
     subst eo16
     go_wp2_with (first | ((with_reducible refine gate_builtin (b:=.append) (xs:=#[.tmp 26,.tmp 28]) rfl ?_);at_builtin;refine Kd.R_append (Kd.int .i64) (w0:=w) w.heap.size rfl (.tmp 26) (.tmp 28) 23 3 (.int .i64 0) 8 rfl Try.underlying23 info3 rfl (by decide) (by omega) u5 x5_1 a1 [.int .i64 a1] (fun k_ => some k_ ≠ (.slice Ao16 t153.length co16 : Value).ownBlock) (fun _ => False) rfl rfl ?aP (fun _ hk => hk.elim) ?aF ?aO ?aB ?aS ?aL ?_;(case aP => exact rfl);(case aB => exact ((bl_ HB).out));(case aF => exact (fun k_ hk => Kd.fresh' (Kd.R_lt (rx_ HO_6.out)) k_ hk));(case aO => exact (rx_ HO_5.out));(case aS => exact (bs_ HB));(case aL => have:=LMc15.out;omega);intro v164 w17 ho hb hg hat;rw [← Ny163.out] at ho;replace HO_6:=Aside0.mk (Kd.R_after (ok:=(fun _ => True)) (rx_ (Kd.R_mono HO_6.out (fun _ hk => ⟨trivial,hk⟩))) hg hat);replace HB:=Aside0.mk (hb);have HO165:=Aside0.mk (ho);clear HO_5;clear ho hb hg hat))
     go_ret
     exact ⟨_,ea_,rx_ (Kd.R_mono HO165.out (fun _ hk => trivial)),(bl_ HB).out⟩
    ·rw [if_neg c15] at H
     exact absurd H (by simp)
end Go.Proofs.Ytelglbebffdaaaa.X
namespace Go.Proofs.Ytelglbebffdaaaa.X
open Go.RowKit Go.Proofs.YtelglbebffdaaaaW.PrintWords Go.Proofs.YtelglbebffdaaaaW.PrintLast Go.Proofs.YtelglbebffdaaaaW.PrintMore
attribute [local go_sem] max2_int min2_int max_two min_two max_three min_three max_four min_four   -- for this text's walks alone
set_option linter.unusedVariables false
set_option linter.unusedSimpArgs false
def spec_PostOrder.f (k : Nat) (l0 : List (S53)) : Option (List Int):=(spec_TreeOk.f k l0).bind fun t166 => (if t166 = true then ((spec_l6Post.f k l0 0).bind fun t167 => (some t167)) else (some (([] : List Int))))
theorem spec_PostOrder.mono : ∀ a0 k,LeO (spec_PostOrder.f k a0) (spec_PostOrder.f (k + 1) a0):=by
 intro a0 k
 unfold spec_PostOrder.f
 repeat' first
   | (with_reducible exact spec_TreeOk.mono _ _)
   | (with_reducible exact spec_l6Post.mono _ _ _)
   | (with_reducible exact LeO.refl _)
   | (with_reducible exact LeO.none _)
   | (with_reducible refine LeO.ite ?_ ?_)
   | (with_reducible refine LeO.bind ?_ (fun _ => ?_))
   | exact spec_TreeOk.mono _ _
   | exact spec_l6Post.mono _ _ _
   | exact LeO.none _
   | refine LeO.ite ?_ ?_
   | refine LeO.bind ?_ (fun _ => ?_)
set_option maxHeartbeats 8000000 in
set_option maxRecDepth 100000 in
theorem spec_PostOrder.calls (k : Nat) (A0 : Option Addr) (c0 : Nat) (l0 : List (S53)) (r : List Int) (w : World) (hr0 : Kd.C k53 w A0 l0.length l0) (hc0 : l0.length ≤ c0) (h : spec_PostOrder.f k l0 = some r) :
  Calls Try.prog 40 #[.slice A0 l0.length c0] w fun e w' => ∃ v0_ : Value,e = .returned (v0_) ∧ Kd.R (Kd.int .i64) 3 w' w.heap.size (fun _ => True) v0_ r ∧ Below w.heap.size w w':=by
 have HR0:=Aside0.mk hr0
 have HC0:=Aside0.mk hc0
 clear hr0 hc0
 have HB:=Aside0.mk (Below.refl w.heap.size w)
 have H : ((spec_TreeOk.f k l0).bind fun t166 => (if t166 = true then ((spec_l6Post.f k l0 0).bind fun t167 => (some t167)) else (some (([] : List Int))))) = some r:=h
 clear h
 replace H:=Option.bind_eq_some_iff.mp H
 obtain ⟨t166,A20,H⟩:=H
 try dsimp only at H
 have A2:=Aside0.mk A20
 clear A20
 by_cases c3 : t166 = true
 ·subst c3
  have H1 : ((spec_l6Post.f k l0 0).bind fun t167 => (some t167)) = some r:=by rw [if_pos rfl] at H;exact H
  clear H
  have H:=H1
  clear H1
  replace H:=Option.bind_eq_some_iff.mp H
  obtain ⟨t167,A40,H⟩:=H
  replace H : (some t167) = some r:=H
  have A4:=Aside0.mk A40
  clear A40
  obtain rfl:=Option.some.inj H
  go_enter Try.func40,Try.ntmps40
  go_wp2_with (first | ((with_reducible refine gate_callee (f:=45) rfl ?_);refine gL_ (some 4) Try.func45 #[.slice A0 l0.length c0] ?_;(with_reducible refine (spec_TreeOk.calls k _ _ l0 true _ (cc_ HR0.out) HC0.out A2.out).mono ?_);rintro e w5 ⟨rfl,hb⟩;refine ⟨_,rfl,?_⟩;replace HB:=tB_ HB hb;(try clear hb)) | ((with_reducible refine gate_callee (f:=73) rfl ?_);refine gL_ (some 8) Try.func73 #[.slice A0 l0.length c0,.int .i64 0] ?_;(with_reducible refine (spec_l6Post.calls k _ _ l0 0 t167 _ (cx_ HR0 HB) HC0.out A4.out).mono ?_);rintro e w6 ⟨v168,rfl,ho0,hb⟩;refine ⟨_,rfl,?_⟩;have HO169:=Aside0.mk (Kd.R_lower ho0 (bs_ HB));replace HB:=tB_ HB hb;(try clear hb);(try clear ho0)))
  go_ret
  exact ⟨_,ea_,rx_ HO169.out,(bl_ HB).out⟩
 ·replace c3:=Bool.eq_false_iff.mpr c3
  subst c3
  have H1 : (some (([] : List Int))) = some r:=by rw [if_neg (show ¬ (false = true) by decide)] at H;exact H
  clear H
  have H:=H1
  clear H1
  obtain ⟨y170,hy170⟩ : ∃ y_ : List Int,y_ = (([] : List Int)):=⟨_,rfl⟩
  replace H : (some y170) = some r:=by first | (rw [hy170];with_reducible exact H) | (have H2_:=(Option.bind_some _ _).symm.trans H;rw [hy170];with_reducible exact H2_) | (have H2_:=(Option.bind_some _ _).symm.trans H;with_reducible exact H2_) | with_reducible exact H | (rw [hy170];exact H) | exact H
  have Ny170:=Aside0.mk hy170
  clear hy170
  obtain rfl:=Option.some.inj H
  go_enter Try.func40,Try.ntmps40
  go_wp2_with (first | ((with_reducible refine gate_callee (f:=45) rfl ?_);refine gL_ (some 4) Try.func45 #[.slice A0 l0.length c0] ?_;(with_reducible refine (spec_TreeOk.calls k _ _ l0 false _ (cc_ HR0.out) HC0.out A2.out).mono ?_);rintro e w7 ⟨rfl,hb⟩;refine ⟨_,rfl,?_⟩;replace HB:=tB_ HB hb;(try clear hb)) | ((with_reducible refine gate_dst (N:=6) rfl ?_);refine Kd.R_lit (Kd.int .i64) _ 3 ?hg (N:=6) ?hd (xs:=([] : List Int)) (inner:=[]) (ok:=fun _ => True) (okp:=fun _ => True) ?hr ?hp (fun _ hk => hk) trivial (Below.refl _ _) (Nat.le_refl _) (by simp) ?_;(case hd => rfl);(case hg => rfl);(case hr => first | (go_simp;done) | (go_simp;rfl));(case hp => exact (Reps.none _ _));intro v171 w8 ho9 hb hg_ hnew_;clear hg_ hnew_;(first | rw [← Ny170.out] at ho9 | (simp only [Int.reduceToNat] at ho9;rw [← Ny170.out] at ho9));have HO172:=Aside0.mk (Kd.R_lower ho9 (bs_ HB));replace HB:=tB_ HB hb;clear hb ho9))
  go_ret
  exact ⟨_,ea_,rx_ HO172.out,(bl_ HB).out⟩
end Go.Proofs.Ytelglbebffdaaaa.X
namespace Go.Proofs.Ytelglbebffdaaaa.X
open Go.RowKit Go.Proofs.YtelglbebffdaaaaW.PrintWords Go.Proofs.YtelglbebffdaaaaW.PrintLast Go.Proofs.YtelglbebffdaaaaW.PrintMore
attribute [local go_sem] max2_int min2_int max_two min_two max_three min_three max_four min_four   -- for this text's walks alone
set_option linter.unusedVariables false
set_option linter.unusedSimpArgs false
def spec_RankOf.l0 : Nat → List Int → List Int → Int → Option (List Int)
 | 0,_,_,_ => none
 | k + 1,x3,x4,x5 => if x5 < (x3.length : Int) then (if 0 ≤ x5 then (if 0 ≤ (rd x3 x5) then (if (rd x3 x5) < (x4.length : Int) then (spec_RankOf.l0 k x3 (x4.set ((rd x3 x5) : Int).toNat x5) (wrap64 (x5 + 1))) else (none)) else (none)) else (none)) else (some x4)
def spec_RankOf.f (k : Nat) (l0 : List (S53)) : Option (List Int):=(spec_PostOrder.f k l0).bind fun t173 => (if 0 ≤ (t173.length : Int) then (if ((t173.length : Int) : Int).toNat ≤ 35184372088832 then (spec_RankOf.l0 k t173 (List.replicate ((t173.length : Int) : Int).toNat 0) 0) else (none)) else (none))
theorem spec_RankOf.mono_l : ∀ k,(∀ y0 y1 y2,LeO (spec_RankOf.l0 k y0 y1 y2) (spec_RankOf.l0 (k + 1) y0 y1 y2))
 | 0 => fun _ _ _ r h => by simp [spec_RankOf.l0] at h
 | k + 1 => by
  have ih0:=spec_RankOf.mono_l k
  ·intro y0 y1 y2
   unfold spec_RankOf.l0
   repeat' first
   | (with_reducible exact ih0 _ _ _)
   | (with_reducible exact spec_PostOrder.mono _ _)
   | (with_reducible exact LeO.refl _)
   | (with_reducible exact LeO.none _)
   | (with_reducible refine LeO.ite ?_ ?_)
   | (with_reducible refine LeO.bind ?_ (fun _ => ?_))
   | exact ih0 _ _ _
   | exact spec_PostOrder.mono _ _
   | exact LeO.none _
   | refine LeO.ite ?_ ?_
   | refine LeO.bind ?_ (fun _ => ?_)
theorem spec_RankOf.mono : ∀ a0 k,LeO (spec_RankOf.f k a0) (spec_RankOf.f (k + 1) a0):=by
 intro a0 k
 have ih0:=spec_RankOf.mono_l k
 unfold spec_RankOf.f
 repeat' first
   | (with_reducible exact ih0 _ _ _)
   | (with_reducible exact spec_PostOrder.mono _ _)
   | (with_reducible exact LeO.refl _)
   | (with_reducible exact LeO.none _)
   | (with_reducible refine LeO.ite ?_ ?_)
   | (with_reducible refine LeO.bind ?_ (fun _ => ?_))
   | exact ih0 _ _ _
   | exact spec_PostOrder.mono _ _
   | exact LeO.none _
   | refine LeO.ite ?_ ?_
   | refine LeO.bind ?_ (fun _ => ?_)
set_option maxHeartbeats 8000000 in
set_option maxRecDepth 100000 in
theorem spec_RankOf.calls (k : Nat) (A0 : Option Addr) (c0 : Nat) (l0 : List (S53)) (r : List Int) (w : World) (hr0 : Kd.C k53 w A0 l0.length l0) (hc0 : l0.length ≤ c0) (h : spec_RankOf.f k l0 = some r) :
  Calls Try.prog 78 #[.slice A0 l0.length c0] w fun e w' => ∃ v0_ : Value,e = .returned (v0_) ∧ Kd.R (Kd.int .i64) 3 w' w.heap.size (fun _ => True) v0_ r ∧ Below w.heap.size w w':=by
 have HR0:=Aside0.mk hr0
 have HC0:=Aside0.mk hc0
 clear hr0 hc0
 have HB:=Aside0.mk (Below.refl w.heap.size w)
 have H : ((spec_PostOrder.f k l0).bind fun t173 => (if 0 ≤ (t173.length : Int) then (if ((t173.length : Int) : Int).toNat ≤ 35184372088832 then (spec_RankOf.l0 k t173 (List.replicate ((t173.length : Int) : Int).toNat 0) 0) else (none)) else (none))) = some r:=h
 clear h
 replace H:=Option.bind_eq_some_iff.mp H
 obtain ⟨t173,A20,H⟩:=H
 try dsimp only at H
 have A2:=Aside0.mk A20
 clear A20
 by_cases c3 : 0 ≤ (t173.length : Int)
 ·rw [if_pos c3] at H
  have c3b0:=eq_true c3
  have c3b1 : decide (0 ≤ (t173.length : Int)) = true:=decide_eq_true c3
  clear c3
  by_cases c4 : ((t173.length : Int) : Int).toNat ≤ 35184372088832
  ·rw [if_pos c4] at H
   have c4b0:=eq_true c4
   have c4b1 : decide (((t173.length : Int) : Int).toNat ≤ 35184372088832) = true:=decide_eq_true c4
   clear c4
   obtain ⟨y176,hy176⟩ : ∃ y_ : List Int,y_ = (List.replicate ((t173.length : Int) : Int).toNat 0):=⟨_,rfl⟩
   replace H : (spec_RankOf.l0 k t173 y176 0) = some r:=by first | (rw [hy176];with_reducible exact H) | (have H2_:=(Option.bind_some _ _).symm.trans H;rw [hy176];with_reducible exact H2_) | (have H2_:=(Option.bind_some _ _).symm.trans H;with_reducible exact H2_) | with_reducible exact H | (rw [hy176];exact H) | exact H
   have Ny176:=Aside0.mk hy176
   clear hy176
   have H':=Aside0.mk H
   clear H
   go_enter Try.func78,Try.ntmps78
   go_wp2_with (first | ((with_reducible refine gate_callee (f:=40) rfl ?_);refine gL_ (some 7) Try.func40 #[.slice A0 l0.length c0] ?_;(with_reducible refine (spec_PostOrder.calls k _ _ l0 t173 _ (cc_ HR0.out) HC0.out A2.out).mono ?_);rintro e w5 ⟨v174,rfl,ho0,hb⟩;refine ⟨_,rfl,?_⟩;have HO175:=Aside0.mk (Kd.R_lower ho0 (bs_ HB));replace HB:=tB_ HB hb;(try clear hb);(try clear ho0);obtain ⟨Ao6,co6,eo6⟩:=Kd.R_slice HO175.out;subst eo6) | ((with_reducible refine gate_dst (N:=10) rfl ?_);refine Kd.R_make (Kd.int .i64) _ 3 rfl (N:=10) rfl 23 _ _ rfl (t173.length : Int) rfl rfl Try.underlying23 (.int .i64 0) 8 info3 rfl (by decide) (by omega) 0 (ok:=fun _ => True) (okp:=fun _ => True) rfl (fun _ hk => hk) trivial (od_) (Nat.le_trans (Nat.mul_le_mul_right _ (od_ : (t173.length : Int).toNat ≤ 35184372088832)) (by omega)) (Below.refl _ _) (Nat.le_refl _) ?_;intro v177 w7 ho8 hb hg_ hnew_;clear hg_ hnew_;(first | rw [← Ny176.out] at ho8 | (simp only [Int.reduceToNat] at ho8;rw [← Ny176.out] at ho8));have HO178:=Aside0.mk (Kd.R_lower (Kd.R_new' ho8 (Kd.R_lt (rx_ HO175.out))) (bs_ HB));replace HO175:=Aside0.mk (Kd.R_elder' (rx_ HO175.out) (Kd.R_base ho8) hb);replace HB:=tB_ HB hb;clear hb ho8))
   go_loopg [5] k (fun kq v5 w' => ∃ (x4_1 : List Int) (x5_1 : Int),v5 = .int .i64 x5_1 ∧ Aside0 (spec_RankOf.l0 kq t173 x4_1 x5_1 = some r) ∧ Aside0 (kq ≤ k) ∧ Aside0 (Kd.R (Kd.int .i64) 3 w' w.heap.size (fun k_ => some k_ ≠ (v177 : Value).ownBlock) (.slice Ao6 t173.length co6) t173) ∧ Aside0 (Kd.R (Kd.int .i64) 3 w' w.heap.size (fun k_ => some k_ ≠ ((.slice Ao6 t173.length co6) : Value).ownBlock) v177 x4_1) ∧ Aside0 (Below w.heap.size w w'))
   case atStart => exact ⟨(y176),(0),eb_,H',⟨Nat.le_refl _⟩,⟨rx_ (Kd.R_mono HO175.out (fun _ hk => hk.2))⟩,⟨rx_ (Kd.R_mono HO178.out (fun _ hk => hk.2))⟩,bl_ HB⟩
   case round =>
    clear H'
    try clear p2
    try clear c3
    try clear c3b0
    try clear c3b1
    try clear c4
    try clear c4b0
    try clear c4b1
    try clear c7
    obtain ⟨x4_1,x5_1,rfl,HA,HK1,HO_3,HO_4,HB⟩:=hrel
    cases gk with
    | zero => exact absurd HA.out (by simp [spec_RankOf.l0])
    | succ k1 =>
     have H:=HA.out
     clear HA
     simp only [spec_RankOf.l0] at H
     by_cases c9 : x5_1 < (t173.length : Int)
     ·rw [if_pos c9] at H
      have c9b0 : decide (x5_1 < (t173.length : Int)) = true:=decide_eq_true c9
      clear c9
      by_cases c10 : 0 ≤ x5_1
      ·rw [if_pos c10] at H
       have c10b0 : decide (0 ≤ x5_1) = true:=decide_eq_true c10
       clear c10
       by_cases c11 : 0 ≤ (rd t173 x5_1)
       ·rw [if_pos c11] at H
        have c11b0 : decide (0 ≤ (rd t173 x5_1)) = true:=decide_eq_true c11
        clear c11
        by_cases c12 : (rd t173 x5_1) < (x4_1.length : Int)
        ·rw [if_pos c12] at H
         have c12b0 : decide ((rd t173 x5_1) < (x4_1.length : Int)) = true:=decide_eq_true c12
         clear c12
         obtain ⟨y180,hy180⟩ : ∃ y_ : List Int,y_ = (x4_1.set ((rd t173 x5_1) : Int).toNat x5_1):=⟨_,rfl⟩
         replace H : (spec_RankOf.l0 k1 t173 y180 (wrap64 (x5_1 + 1))) = some r:=by first | (rw [hy180];with_reducible exact H) | (have H2_:=(Option.bind_some _ _).symm.trans H;rw [hy180];with_reducible exact H2_) | (have H2_:=(Option.bind_some _ _).symm.trans H;with_reducible exact H2_) | with_reducible exact H | (rw [hy180];exact H) | exact H
         have Ny180:=Aside0.mk hy180
         clear hy180
         have H':=Aside0.mk H
         clear H
         have p179 : 0 ≤ (x5_1 : Int):=od_
         have q179 : x5_1 < (t173.length : Int):=od_
         obtain ⟨ad179,e179,hx179_0⟩:=Kd.at_int (Kd.R_reads' HO_3.out).2.2 x5_1 p179 q179
         cases e179
         replace p179:=eq_true p179
         replace q179:=eq_true q179
         have p13 : 0 ≤ ((rd t173 x5_1) : Int):=od_
         have q13 : ((rd t173 x5_1) : Int) < ((x4_1.length : Int) : Int):=od_
         obtain ⟨go13,co13,eo13,gb13,gl13,cl13,HG13⟩:=Kd.R_form HO_4.out (by omega)
         (first | cases eo13 | (injection eo13 with ea_ en_ ec_;(first | subst ea_ | (injection ea_ with ea_;subst ea_));subst ec_;clear en_))
         have GB13:=Aside0.mk gb13
         have GG13:=Aside0.mk HG13
         clear gb13 gl13 HG13
         obtain ⟨hx13_0,hf13_0⟩:=Kd.R_celln 0 HO_4.out ((rd t173 x5_1) : Int) p13 q13
         replace p13:=eq_true p13
         replace q13:=eq_true q13
         have HP14:=Kd.R_putg HO_4.out ((rd t173 x5_1) : Int) x5_1
         go_wp2_with (first | ((with_reducible refine gate_store (t:=3) (p:=23) rfl ?_);refine store_event (t:=3) (p:=23) (v:=?vo_w15) (w1:=(wr.setCell ⟨go13,((rd t173 x5_1) : Int).toNat,none⟩ (.int .i64 x5_1))) ?hg ?ho ?hn ?hr ?_;(case ho => rfl);(case hg => rfl);(case hn => rfl);(case hr => first | (go_simp;done) | (go_simp;rfl));intro w15 hw;have hg : wr.grownBy w15 (some go13):=(by rw [hw];exact HP14.2);have hp_ : Kd.R (Kd.int .i64) 3 w15 w.heap.size (fun k_ => some k_ ≠ (.slice (some ad179) t173.length co6 : Value).ownBlock) (.slice (some ⟨go13,0,none⟩) x4_1.length co13) y180:=(by rw [hw,Ny180.out];exact HP14.1);clear HP14;replace HO_3:=Aside0.mk (Kd.R_after (v:=(.slice (some ⟨go13,0,none⟩) x4_1.length co13)) (v1:=(.slice (some ⟨go13,0,none⟩) x4_1.length co13)) (ok:=(fun _ => True)) (rx_ (Kd.R_mono HO_3.out (fun _ hk => ⟨trivial,hk⟩))) hg (.inl rfl));replace HO_4:=Aside0.mk (hp_);replace HB:=Aside0.mk ((by rw [hw];exact below_set (HB.out) GB13.out : Below w.heap.size w w15));clear hg hw hp_))
         go_roundg k1
         case measure => have:=HK1.out;omega
         case rel => exact ⟨(y180),(wrap64 (x5_1 + 1)),eb_,H',⟨by have:=HK1.out;omega⟩,⟨rx_ (Kd.R_mono HO_3.out (fun _ hk => hk.2))⟩,⟨rx_ HO_4.out⟩,bl_ HB⟩
        ·rw [if_neg c12] at H
         exact absurd H (by simp)
       ·rw [if_neg c11] at H
        exact absurd H (by simp)
      ·rw [if_neg c10] at H
       exact absurd H (by simp)
     ·rw [if_neg c9] at H
      have c9b0 : decide (x5_1 < (t173.length : Int)) = false:=decide_eq_false c9
      clear c9
      obtain rfl:=Option.some.inj H
      go_wp2
      go_ret
      exact ⟨_,ea_,rx_ (Kd.R_mono HO_4.out (fun _ hk => trivial)),(bl_ HB).out⟩
  ·rw [if_neg c4] at H
   exact absurd H (by simp)
 ·rw [if_neg c3] at H
  exact absurd H (by simp)
end Go.Proofs.Ytelglbebffdaaaa.X
namespace Go.Proofs.Ytelglbebffdaaaa.X
open Go.RowKit Go.Proofs.YtelglbebffdaaaaW.PrintWords Go.Proofs.YtelglbebffdaaaaW.PrintLast Go.Proofs.YtelglbebffdaaaaW.PrintMore
attribute [local go_sem] max2_int min2_int max_two min_two max_three min_three max_four min_four   -- for this text's walks alone
set_option linter.unusedVariables false
set_option linter.unusedSimpArgs false
mutual
def spec_LeftLeaf.l0 : Nat → List (S53) → List Int → List Int → List Int → Int → Option (List Int)
 | 0,_,_,_,_,_ => none
 | k + 1,x0,x3,x4,x5,x6 => if x6 < (x4.length : Int) then (if 0 ≤ x6 then (spec_LeftLeaf.l1 k x0 x3 x4 x5 x6 (rd x4 x6)) else (none)) else (some x3)
def spec_LeftLeaf.l1 : Nat → List (S53) → List Int → List Int → List Int → Int → Int → Option (List Int)
 | 0,_,_,_,_,_,_ => none
 | k + 1,x0,x3,x4,x5,x6,x7 => if 0 ≤ x6 then (if x6 < (x4.length : Int) then ((spec_EndOf.f k x0 (rd x4 x6)).bind fun t192 => (if (wrap64 (x7 + 1)) < t192 then (if 0 ≤ (wrap64 (x7 + 1)) then (if (wrap64 (x7 + 1)) < (x0.length : Int) then (if 0 ≤ x7 then (if x7 < (x0.length : Int) then (if ((rd_T53 x0 (wrap64 (x7 + 1))).f1) = (wrap64 (((rd_T53 x0 x7).f1) + 1)) then (spec_LeftLeaf.l1 k x0 x3 x4 x5 x6 (wrap64 (x7 + 1))) else (if x7 < (x5.length : Int) then (if x3.length < 17592186044416 then (spec_LeftLeaf.l0 k x0 (x3 ++ [rd x5 x7]) x4 x5 (wrap64 (x6 + 1))) else (none)) else (none))) else (none)) else (none)) else (none)) else (none)) else (if 0 ≤ x7 then (if x7 < (x5.length : Int) then (if x3.length < 17592186044416 then (spec_LeftLeaf.l0 k x0 (x3 ++ [rd x5 x7]) x4 x5 (wrap64 (x6 + 1))) else (none)) else (none)) else (none)))) else (none)) else (none)
end
def spec_LeftLeaf.f (k : Nat) (l0 : List (S53)) : Option (List Int):=(spec_PostOrder.f k l0).bind fun t184 => ((spec_RankOf.f k l0).bind fun t187 => (spec_LeftLeaf.l0 k l0 (([] : List Int)) t184 t187 0))
theorem spec_LeftLeaf.mono_l : ∀ k,(∀ y0 y1 y2 y3 y4,LeO (spec_LeftLeaf.l0 k y0 y1 y2 y3 y4) (spec_LeftLeaf.l0 (k + 1) y0 y1 y2 y3 y4)) ∧ (∀ y0 y1 y2 y3 y4 y5,LeO (spec_LeftLeaf.l1 k y0 y1 y2 y3 y4 y5) (spec_LeftLeaf.l1 (k + 1) y0 y1 y2 y3 y4 y5))
 | 0 => ⟨fun _ _ _ _ _ r h => by simp [spec_LeftLeaf.l0] at h,fun _ _ _ _ _ _ r h => by simp [spec_LeftLeaf.l1] at h⟩
 | k + 1 => by
  obtain ⟨ih0,ih1⟩:=spec_LeftLeaf.mono_l k
  refine ⟨?_,?_⟩
  ·intro y0 y1 y2 y3 y4
   unfold spec_LeftLeaf.l0
   repeat' first
   | (with_reducible exact ih0 _ _ _ _ _)
   | (with_reducible exact ih1 _ _ _ _ _ _)
   | (with_reducible exact spec_EndOf.mono _ _ _)
   | (with_reducible exact spec_PostOrder.mono _ _)
   | (with_reducible exact spec_RankOf.mono _ _)
   | (with_reducible exact LeO.refl _)
   | (with_reducible exact LeO.none _)
   | (with_reducible refine LeO.ite ?_ ?_)
   | (with_reducible refine LeO.bind ?_ (fun _ => ?_))
   | exact ih0 _ _ _ _ _
   | exact ih1 _ _ _ _ _ _
   | exact spec_EndOf.mono _ _ _
   | exact spec_PostOrder.mono _ _
   | exact spec_RankOf.mono _ _
   | exact LeO.none _
   | refine LeO.ite ?_ ?_
   | refine LeO.bind ?_ (fun _ => ?_)
  ·intro y0 y1 y2 y3 y4 y5
   unfold spec_LeftLeaf.l1
   repeat' first
   | (with_reducible exact ih0 _ _ _ _ _)
   | (with_reducible exact ih1 _ _ _ _ _ _)
   | (with_reducible exact spec_EndOf.mono _ _ _)
   | (with_reducible exact spec_PostOrder.mono _ _)
   | (with_reducible exact spec_RankOf.mono _ _)
   | (with_reducible exact LeO.refl _)
   | (with_reducible exact LeO.none _)
   | (with_reducible refine LeO.ite ?_ ?_)
   | (with_reducible refine LeO.bind ?_ (fun _ => ?_))
   | exact ih0 _ _ _ _ _
   | exact ih1 _ _ _ _ _ _
   | exact spec_EndOf.mono _ _ _
   | exact spec_PostOrder.mono _ _
   | exact spec_RankOf.mono _ _
   | exact LeO.none _
   | refine LeO.ite ?_ ?_
   | refine LeO.bind ?_ (fun _ => ?_)
theorem spec_LeftLeaf.mono : ∀ a0 k,LeO (spec_LeftLeaf.f k a0) (spec_LeftLeaf.f (k + 1) a0):=by
 intro a0 k
 obtain ⟨ih0,ih1⟩:=spec_LeftLeaf.mono_l k
 unfold spec_LeftLeaf.f
 repeat' first
   | (with_reducible exact ih0 _ _ _ _ _)
   | (with_reducible exact ih1 _ _ _ _ _ _)
   | (with_reducible exact spec_EndOf.mono _ _ _)
   | (with_reducible exact spec_PostOrder.mono _ _)
   | (with_reducible exact spec_RankOf.mono _ _)
   | (with_reducible exact LeO.refl _)
   | (with_reducible exact LeO.none _)
   | (with_reducible refine LeO.ite ?_ ?_)
   | (with_reducible refine LeO.bind ?_ (fun _ => ?_))
   | exact ih0 _ _ _ _ _
   | exact ih1 _ _ _ _ _ _
   | exact spec_EndOf.mono _ _ _
   | exact spec_PostOrder.mono _ _
   | exact spec_RankOf.mono _ _
   | exact LeO.none _
   | refine LeO.ite ?_ ?_
   | refine LeO.bind ?_ (fun _ => ?_)
def spec_LeftLeaf.T8 : Bool × List (List Nat × List Nat):=(true,[([],[]),([0],[0]),([],[]),([],[]),([],[]),([3,4],[3,4]),([5],[5]),([2,6],[2,6]),([1,7],[1,7]),([8,7],[8]),([9],[9]),([9],[9]),([11,9],[9,11]),([10,12,9],[9,10,12]),([13,9],[9,13]),([14,9],[9,14]),([9],[9]),([9],[9]),([16,17,9],[9,16,17]),([18,9],[9,18]),([19,9],[9,19]),([20,9],[9,20]),([15,21,9],[9,15,21]),([9,22],[9,22])])
def spec_LeftLeaf.B8 : List Nat:=[0,1,0,0,0,24,56,124,255,511,1023,1023,3071,8191,16383,32767,1023,1023,197631,459775,984063,2032639,4194303,8388607]
theorem spec_LeftLeaf.tab8 : rtab .any (opsOf Try.f48 8) = spec_LeftLeaf.T8:=by kernel_rfl
theorem spec_LeftLeaf.bits8 : waitsOk spec_LeftLeaf.T8.2 spec_LeftLeaf.B8 = true:=by kernel_rfl
set_option maxHeartbeats 8000000 in
set_option maxRecDepth 100000 in
theorem spec_LeftLeaf.calls (k : Nat) (A0 : Option Addr) (c0 : Nat) (l0 : List (S53)) (r : List Int) (w : World) (hr0 : Kd.C k53 w A0 l0.length l0) (hc0 : l0.length ≤ c0) (h : spec_LeftLeaf.f k l0 = some r) :
  Calls Try.prog 48 #[.slice A0 l0.length c0] w fun e w' => ∃ v0_ : Value,e = .returned (v0_) ∧ Kd.R (Kd.int .i64) 3 w' w.heap.size (fun _ => True) v0_ r ∧ Below w.heap.size w w':=by
 have HR0:=Aside0.mk hr0
 have HC0:=Aside0.mk hc0
 clear hr0 hc0
 have HB:=Aside0.mk (Below.refl w.heap.size w)
 have H : ((spec_PostOrder.f k l0).bind fun t184 => ((spec_RankOf.f k l0).bind fun t187 => (spec_LeftLeaf.l0 k l0 (([] : List Int)) t184 t187 0))) = some r:=h
 clear h
 obtain ⟨y181,hy181⟩ : ∃ y_ : List Int,y_ = (([] : List Int)):=⟨_,rfl⟩
 replace H : ((spec_PostOrder.f k l0).bind fun t184 => ((spec_RankOf.f k l0).bind fun t187 => (spec_LeftLeaf.l0 k l0 y181 t184 t187 0))) = some r:=by first | (rw [hy181];with_reducible exact H) | (have H2_:=(Option.bind_some _ _).symm.trans H;rw [hy181];with_reducible exact H2_) | (have H2_:=(Option.bind_some _ _).symm.trans H;with_reducible exact H2_) | with_reducible exact H | (rw [hy181];exact H) | exact H
 have Ny181:=Aside0.mk hy181
 clear hy181
 replace H:=Option.bind_eq_some_iff.mp H
 obtain ⟨t184,A20,H⟩:=H
 replace H : ((spec_RankOf.f k l0).bind fun t187 => (spec_LeftLeaf.l0 k l0 y181 t184 t187 0)) = some r:=H
 have A2:=Aside0.mk A20
 clear A20
 replace H:=Option.bind_eq_some_iff.mp H
 obtain ⟨t187,A30,H⟩:=H
 replace H : (spec_LeftLeaf.l0 k l0 y181 t184 t187 0) = some r:=H
 have A3:=Aside0.mk A30
 clear A30
 have H':=Aside0.mk H
 clear H
 go_enter Try.func48,Try.ntmps48
 go_wp2_with (first | ((with_reducible refine gate_dst (N:=8) rfl ?_);refine Kd.R_lit (Kd.int .i64) _ 3 ?hg (N:=8) ?hd (xs:=([] : List Int)) (inner:=[]) (ok:=fun _ => True) (okp:=fun _ => True) ?hr ?hp (fun _ hk => hk) trivial (Below.refl _ _) (Nat.le_refl _) (by simp) ?_;(case hd => rfl);(case hg => rfl);(case hr => first | (go_simp;done) | (go_simp;rfl));(case hp => exact (Reps.none _ _));intro v182 w4 ho5 hb hg_ hnew_;clear hg_ hnew_;(first | rw [← Ny181.out] at ho5 | (simp only [Int.reduceToNat] at ho5;rw [← Ny181.out] at ho5));have HO183:=Aside0.mk (Kd.R_lower ho5 (bs_ HB));replace HB:=tB_ HB hb;clear hb ho5) | ((with_reducible refine gate_callee (f:=40) rfl ?_);refine gL_ (some 10) Try.func40 #[.slice A0 l0.length c0] ?_;(with_reducible refine (spec_PostOrder.calls k _ _ l0 t184 _ (cx_ HR0 HB) HC0.out A2.out).mono ?_);rintro e w6 ⟨v185,rfl,ho0,hb⟩;refine ⟨_,rfl,?_⟩;have HO186:=Aside0.mk (Kd.R_lower (Kd.R_new' ho0 (Kd.R_lt (rx_ HO183.out))) (bs_ HB));replace HO183:=Aside0.mk (Kd.R_elder' (rx_ HO183.out) (Kd.R_base ho0) hb);replace HB:=tB_ HB hb;(try clear hb);(try clear ho0)) | ((with_reducible refine gate_callee (f:=78) rfl ?_);refine gL_ (some 12) Try.func78 #[.slice A0 l0.length c0] ?_;(with_reducible refine (spec_RankOf.calls k _ _ l0 t187 _ (cx_ HR0 HB) HC0.out A3.out).mono ?_);rintro e w7 ⟨v188,rfl,ho0,hb⟩;refine ⟨_,rfl,?_⟩;have HO189:=Aside0.mk (Kd.R_lower (Kd.R_new' (Kd.R_new' ho0 (Kd.R_lt (rx_ HO183.out))) (Kd.R_lt (rx_ HO186.out))) (bs_ HB));replace HO183:=Aside0.mk (Kd.R_elder' (rx_ HO183.out) (Kd.R_base ho0) hb);replace HO186:=Aside0.mk (Kd.R_elder' (rx_ HO186.out) (Kd.R_base ho0) hb);replace HB:=tB_ HB hb;(try clear hb);(try clear ho0)))
 go_loopg [3,6] k (fun kq v3 v6 w' => ∃ (x3_1 : List Int) (x6_1 : Int),v6 = .int .i64 x6_1 ∧ Aside0 (spec_LeftLeaf.l0 kq l0 x3_1 t184 t187 x6_1 = some r) ∧ Aside0 (kq ≤ k) ∧ Aside0 (Kd.R (Kd.int .i64) 3 w' w.heap.size (fun k_ => some k_ ≠ (v185 : Value).ownBlock ∧ some k_ ≠ (v188 : Value).ownBlock) v3 x3_1) ∧ Aside0 (Kd.R (Kd.int .i64) 3 w' w.heap.size (fun k_ => some k_ ≠ (v3 : Value).ownBlock ∧ some k_ ≠ (v188 : Value).ownBlock) v185 t184) ∧ Aside0 (Kd.R (Kd.int .i64) 3 w' w.heap.size (fun k_ => some k_ ≠ (v3 : Value).ownBlock ∧ some k_ ≠ (v185 : Value).ownBlock) v188 t187) ∧ Aside0 (Below w.heap.size w w'))
 case atStart => exact ⟨(y181),(0),eb_,H',⟨Nat.le_refl _⟩,⟨rx_ (Kd.R_mono HO183.out (fun _ hk => ⟨hk.1.2,hk.2⟩))⟩,⟨rx_ (Kd.R_mono HO186.out (fun _ hk => ⟨hk.1.2,hk.2⟩))⟩,⟨rx_ (Kd.R_mono HO189.out (fun _ hk => ⟨hk.1.2,hk.2⟩))⟩,bl_ HB⟩
 case round =>
  clear H'
  try clear p2
  try clear c4
  try clear c7
  obtain ⟨x3_1,x6_1,rfl,HA,HK1,HO_3,HO_4,HO_5,HB⟩:=hrel
  cases gk with
  | zero => exact absurd HA.out (by simp [spec_LeftLeaf.l0])
  | succ k1 =>
   have H:=HA.out
   clear HA
   simp only [spec_LeftLeaf.l0] at H
   by_cases c8 : x6_1 < (t184.length : Int)
   ·rw [if_pos c8] at H
    have c8b0 : decide (x6_1 < (t184.length : Int)) = true:=decide_eq_true c8
    clear c8
    by_cases c9 : 0 ≤ x6_1
    ·rw [if_pos c9] at H
     have c9b0 : decide (0 ≤ x6_1) = true:=decide_eq_true c9
     clear c9
     have H':=Aside0.mk H
     clear H
     obtain ⟨Ao10,co10,eo10⟩:=Kd.R_slice HO_4.out
     subst eo10
     have p190 : 0 ≤ (x6_1 : Int):=od_
     have q190 : x6_1 < (t184.length : Int):=od_
     obtain ⟨ad190,e190,hx190_0⟩:=Kd.at_int (Kd.R_reads' HO_4.out).2.2 x6_1 p190 q190
     cases e190
     replace p190:=eq_true p190
     replace q190:=eq_true q190
     go_wp2
     go_loopg [7] k1 (fun kq v7 w' => ∃ (x7_2 : Int),v7 = .int .i64 x7_2 ∧ Aside0 (spec_LeftLeaf.l1 kq l0 x3_1 t184 t187 x6_1 x7_2 = some r) ∧ Aside0 (kq ≤ k1) ∧ Aside0 (Kd.R (Kd.int .i64) 3 w' w.heap.size (fun k_ => some k_ ≠ ((.slice (some ad190) t184.length co10) : Value).ownBlock ∧ some k_ ≠ (v188 : Value).ownBlock) u3 x3_1) ∧ Aside0 (Kd.R (Kd.int .i64) 3 w' w.heap.size (fun k_ => some k_ ≠ (u3 : Value).ownBlock ∧ some k_ ≠ (v188 : Value).ownBlock) (.slice (some ad190) t184.length co10) t184) ∧ Aside0 (Kd.R (Kd.int .i64) 3 w' w.heap.size (fun k_ => some k_ ≠ (u3 : Value).ownBlock ∧ some k_ ≠ ((.slice (some ad190) t184.length co10) : Value).ownBlock) v188 t187) ∧ Aside0 (Below w.heap.size w w'))
     case atStart => exact ⟨(rd t184 x6_1),eb_,H',⟨Nat.le_refl _⟩,⟨rx_ HO_3.out⟩,⟨rx_ HO_4.out⟩,⟨rx_ HO_5.out⟩,bl_ HB⟩
     case round =>
      clear H'
      try clear p1
      try clear q1
      try clear hx1
      try clear p2
      try clear c4
      try clear c7
      try clear c8
      try clear c8b0
      try clear c9
      try clear c9b0
      try clear hx190_0
      try clear p190
      try clear p2
      try clear q190
      obtain ⟨x7_2,rfl,HA,HK2,HO_3,HO_4,HO_5,HB⟩:=hrel
      cases gk with
      | zero => exact absurd HA.out (by simp [spec_LeftLeaf.l1])
      | succ k2 =>
       have H:=HA.out
       clear HA
       simp only [spec_LeftLeaf.l1] at H
       by_cases c11 : 0 ≤ x6_1
       ·rw [if_pos c11] at H
        have c11b0 : decide (0 ≤ x6_1) = true:=decide_eq_true c11
        clear c11
        by_cases c12 : x6_1 < (t184.length : Int)
        ·rw [if_pos c12] at H
         have c12b0 : decide (x6_1 < (t184.length : Int)) = true:=decide_eq_true c12
         clear c12
         replace H:=Option.bind_eq_some_iff.mp H
         obtain ⟨t192,A130,H⟩:=H
         try dsimp only at H
         have A13:=Aside0.mk A130
         clear A130
         by_cases c14 : (wrap64 (x7_2 + 1)) < t192
         ·rw [if_pos c14] at H
          have c14b0 : decide ((wrap64 (x7_2 + 1)) < t192) = true:=decide_eq_true c14
          clear c14
          obtain ⟨ji15,hji15⟩ : ∃ j_ : Int,(wrap64 (x7_2 + 1)) = j_:=⟨_,rfl⟩
          replace H : (if 0 ≤ (ji15) then (if (ji15) < (l0.length : Int) then (if 0 ≤ x7_2 then (if x7_2 < (l0.length : Int) then (if ((rd_T53 l0 (ji15)).f1) = (wrap64 (((rd_T53 l0 x7_2).f1) + 1)) then (spec_LeftLeaf.l1 k2 l0 x3_1 t184 t187 x6_1 ji15) else (if x7_2 < (t187.length : Int) then (if x3_1.length < 17592186044416 then (spec_LeftLeaf.l0 k2 l0 (x3_1 ++ [rd t187 x7_2]) t184 t187 (wrap64 (x6_1 + 1))) else (none)) else (none))) else (none)) else (none)) else (none)) else (none)) = some r:=by first | (rw [hji15] at H;exact H) | (simp only [hji15] at H ⊢;exact H)
          (try rw [hji15] at c14b0)
          (try rw [hji15] at A13)
          have hji15w : (IntKind.i64.wrap (x7_2 + 1)) = ji15:=(i64_w _).trans hji15
          by_cases c16 : 0 ≤ (ji15)
          ·rw [if_pos c16] at H
           have c16b0 : decide (0 ≤ (ji15)) = true:=decide_eq_true c16
           clear c16
           by_cases c17 : (ji15) < (l0.length : Int)
           ·rw [if_pos c17] at H
            have c17b0 : decide ((ji15) < (l0.length : Int)) = true:=decide_eq_true c17
            clear c17
            by_cases c18 : 0 ≤ x7_2
            ·rw [if_pos c18] at H
             have c18b0 : decide (0 ≤ x7_2) = true:=decide_eq_true c18
             clear c18
             by_cases c19 : x7_2 < (l0.length : Int)
             ·rw [if_pos c19] at H
              have c19b0 : decide (x7_2 < (l0.length : Int)) = true:=decide_eq_true c19
              clear c19
              by_cases c20 : ((rd_T53 l0 (ji15)).f1) = (wrap64 (((rd_T53 l0 x7_2).f1) + 1))
              ·rw [if_pos c20] at H
               have c20b0 : (((rd_T53 l0 (ji15)).f1) == (wrap64 (((rd_T53 l0 x7_2).f1) + 1))) = true:=beq_iff_eq.mpr c20
               have c20b1 : (((rd_T53 l0 (ji15)).f1) != (wrap64 (((rd_T53 l0 x7_2).f1) + 1))) = false:=bne_eq_false_iff_eq.mpr c20
               clear c20
               have H':=Aside0.mk H
               clear H
               try go_wp2
               have n0_:=Aside0.mk (Kd.R_drew HO_3.out)
               have n1_:=Aside0.mk (Kd.R_drew HO_4.out)
               have n2_:=Aside0.mk (Kd.R_drew HO_5.out)
               have n3_:=Aside0.mk (below_drew1 HB.out)
               clear HO_3
               clear HO_4
               clear HO_5
               clear HB
               have HO_3:=n0_
               have HO_4:=n1_
               have HO_5:=n2_
               have HB:=n3_
               clear n0_ n1_ n2_ n3_
               have p191 : 0 ≤ (x6_1 : Int):=od_
               have q191 : x6_1 < (t184.length : Int):=od_
               obtain ⟨ad191,e191,hx191_0⟩:=Kd.at_int (Kd.R_reads' HO_4.out).2.2 x6_1 p191 q191
               obtain rfl : ad190 = ad191:=(by injection e191)
               replace p191:=eq_true p191
               replace q191:=eq_true q191
               have p193 : 0 ≤ ((ji15) : Int):=od_
               have q193 : (ji15) < (l0.length : Int):=od_
               obtain ⟨ad193,e193,hx193_0,hx193_1⟩:=at_T53 HR0.out (ji15) p193 q193
               have hw193_1:=hx193_1
               have hw193_0:=hx193_0
               cases e193
               replace hx193_0:=ce_ HB hx193_0
               replace hx193_1:=ce_ HB hx193_1
               replace p193:=eq_true p193
               replace q193:=eq_true q193
               have p194 : 0 ≤ (x7_2 : Int):=od_
               have q194 : x7_2 < (l0.length : Int):=od_
               obtain ⟨ad194,e194,hx194_0,hx194_1⟩:=at_T53 HR0.out x7_2 p194 q194
               have hw194_1:=hx194_1
               have hw194_0:=hx194_0
               obtain rfl : ad193 = ad194:=(by injection e194)
               replace hx194_0:=ce_ HB hx194_0
               replace hx194_1:=ce_ HB hx194_1
               replace p194:=eq_true p194
               replace q194:=eq_true q194
               refine start_ (n:=24) (S:=fun w' => w'.cell? (ad190.add (x6_1).toNat) = some (.int .i64 (rd t184 x6_1)) ∧ w'.cell? (ad193.add (((ji15)).toNat * 2)) = some (.int .i64 ((rd_T53 l0 (ji15)).f0)) ∧ w'.cell? ⟨(ad193.add (((ji15)).toNat * 2)).block,(ad193.add (((ji15)).toNat * 2)).off + 1,none⟩ = some (.int .i64 ((rd_T53 l0 (ji15)).f1)) ∧ w'.cell? (ad193.add ((x7_2).toNat * 2)) = some (.int .i64 ((rd_T53 l0 x7_2).f0)) ∧ w'.cell? ⟨(ad193.add ((x7_2).toNat * 2)).block,(ad193.add ((x7_2).toNat * 2)).off + 1,none⟩ = some (.int .i64 ((rd_T53 l0 x7_2).f1))) (ds:=[]) (ba_ 24 0) (by kernel_rfl) rfl rfl ⟨hx191_0,(ce_ HB hw193_0),(ce_ HB hw193_1),(ce_ HB hw194_0),(ce_ HB hw194_1)⟩ (fun hHeld => ?_);refine with_tabW spec_LeftLeaf.tab8 spec_LeftLeaf.bits8 (fun HT_ HW_ => ?_)
               generalize wr.drew = w21 at HO_3 HO_4 HO_5 HB hx191_0 hx193_0 hx193_1 hx194_0 hx194_1 hHeld ⊢
               refine pu_ 0 (some 23) (ba_ 24 1) rfl rfl (any_of HT_.out (by kernel_rfl)) ?_
               refine pu_ 1 (some 24) (ba_ 24 3) rfl rfl (any_of HT_.out (by kernel_rfl)) ?_
               refine pu_ 2 (some 25) (ba_ 24 7) rfl rfl (any_of HT_.out (by kernel_rfl)) ?_
               refine pu_ 3 (some 26) (ba_ 24 15) rfl rfl (any_of HT_.out (by kernel_rfl)) ?_
               refine pu_ 4 (some 27) (ba_ 24 31) rfl rfl (any_of HT_.out (by kernel_rfl)) ?_
               refine pu_ 5 (some 28) (ba_ 24 63) rfl rfl (any_of HT_.out (by kernel_rfl)) ?_
               refine ta_ 6 (some 29) (ba_ 24 127) rfl rfl (take_ofW HT_.out HW_.out (by kernel_rfl)) hHeld (by rintro w' ⟨s0,s1,s2,s3,s4⟩;go_simp;with_reducible rfl) ?_
               refine one_ (i:=7) (N:=some 30) (ba_ 24 255) rfl rfl (one_of HT_.out (by kernel_rfl)) (by decide) (fun K hK => ?_)
               refine goes_ Try.func79 (by kernel_rfl) rfl #[.slice (some ad193) l0.length c0,.int .i64 (rd t184 x6_1)] (by rfl) rfl rfl (by (try simp only [List.map_toArray,List.map_cons,List.map_nil]);first | done | rfl | (simp only [List.length_drop,List.length_take];rfl)) ?_
               with_reducible refine (spec_EndOf.calls k2 _ _ l0 (rd t184 x6_1) t192 _ ?side1 ?side2 A13.out).mono ?_
               (case side1 => exact cx_ HR0 HB)
               (case side2 => exact HC0.out)
               rintro e w22 ⟨rfl,hb⟩
               have HS0_:=(hb.cell (World.block_lt_of_cell? _ _ (hHeld.1))).trans (hHeld.1)
               refine ⟨_,rfl,?_⟩
               have n0_:=tR_ HO_3 hb
               have n1_:=tR_ HO_4 hb
               have n2_:=tR_ HO_5 hb
               have n3_:=tB_ HB hb
               clear HO_3
               clear HO_4
               clear HO_5
               clear HB
               have HO_3:=n0_
               have HO_4:=n1_
               have HO_5:=n2_
               have HB:=n3_
               clear n0_ n1_ n2_ n3_
               (try clear hb)
               (try clear hb2)
               (try clear hk)
               (try clear hi)
               refine hK.out _ _ ⟨HS0_,(ce_ HB hw193_0),(ce_ HB hw193_1),(ce_ HB hw194_0),(ce_ HB hw194_1)⟩ (fun hHeld => ?_)
               clear hK K
               refine norm_ (a':=?_) ?_ ?_
               rotate_left
               ·show Act.put _ (some 30) _ = _
                simp only [Act.put,List.setIfInBounds_toArray,List.set_cons_zero,List.set_cons_succ,i64_w,i32_w]
                rfl
               refine pu_ 8 (some 31) (ba_ 24 511) rfl rfl (any_of HT_.out (by kernel_rfl)) ?_
               refine pu_ 9 (some 32) (ba_ 24 1023) rfl rfl (any_of HT_.out (by kernel_rfl)) ?_
               refine pu_ 10 (some 33) (ba_ 24 2047) rfl rfl (any_of HT_.out (by kernel_rfl)) ?_
               refine pu_ 11 (some 34) (ba_ 24 4095) rfl rfl (any_of HT_.out (by kernel_rfl)) ?_
               refine pu_ 12 (some 35) (ba_ 24 8191) rfl rfl (any_of HT_.out (by kernel_rfl)) ?_
               refine pu_ 13 (some 36) (ba_ 24 16383) rfl rfl (any_of HT_.out (by kernel_rfl)) ?_
               refine pu_ 14 (some 37) (ba_ 24 32767) rfl rfl (any_of HT_.out (by kernel_rfl)) ?_
               refine pu_ 16 (some 39) (ba_ 24 98303) rfl rfl (any_of HT_.out (by kernel_rfl)) ?_
               refine pu_ 17 (some 40) (ba_ 24 229375) rfl rfl (any_of HT_.out (by kernel_rfl)) ?_
               refine pu_ 18 (some 41) (ba_ 24 491519) rfl rfl (any_of HT_.out (by kernel_rfl)) ?_
               refine pu_ 19 (some 42) (ba_ 24 1015807) rfl rfl (any_of HT_.out (by kernel_rfl)) ?_
               refine ta_ 15 (some 38) (ba_ 24 1048575) rfl rfl (take_ofW HT_.out HW_.out (by kernel_rfl)) hHeld (by rintro w' ⟨s0,s1,s2,s3,s4⟩;go_simp;with_reducible rfl) ?_
               refine ta_ 20 (some 43) (ba_ 24 2097151) rfl rfl (take_ofW HT_.out HW_.out (by kernel_rfl)) hHeld (by rintro w' ⟨s0,s1,s2,s3,s4⟩;go_simp;with_reducible rfl) ?_
               refine pu_ 21 (some 44) (ba_ 24 4194303) rfl rfl (any_of HT_.out (by kernel_rfl)) ?_
               refine pu_ 22 (some 45) (ba_ 24 8388607) rfl rfl (any_of HT_.out (by kernel_rfl)) ?_
               refine pu_ 23 (some 46) (ba_ 24 16777215) rfl rfl (any_of HT_.out (by kernel_rfl)) ?_
               refine done_ (done_of HT_.out (by kernel_rfl)) ?_
               try go_wp2
               go_roundg k2
               case measure => have:=HK1.out;have:=HK2.out;omega
               case rel => exact ⟨(ji15),(by first | rfl | (simp;done) | (simp only [← hji15] <;> (first | rfl | simp)) | (simp [*];done)),H',⟨by have:=HK1.out;have:=HK2.out;omega⟩,⟨rx_ HO_3.out⟩,⟨rx_ HO_4.out⟩,⟨rx_ HO_5.out⟩,bl_ HB⟩
              ·rw [if_neg c20] at H
               have c20b0 : (((rd_T53 l0 (ji15)).f1) == (wrap64 (((rd_T53 l0 x7_2).f1) + 1))) = false:=beq_eq_false_iff_ne.mpr c20
               have c20b1 : (((rd_T53 l0 (ji15)).f1) != (wrap64 (((rd_T53 l0 x7_2).f1) + 1))) = true:=bne_iff_ne.mpr c20
               by_cases c23 : x7_2 < (t187.length : Int)
               ·rw [if_pos c23] at H
                have c23b0 : decide (x7_2 < (t187.length : Int)) = true:=decide_eq_true c23
                clear c23
                by_cases c24 : x3_1.length < 17592186044416
                ·rw [if_pos c24] at H
                 have LMc24:=Aside0.mk c24
                 clear c24
                 obtain ⟨y196,hy196⟩ : ∃ y_ : List Int,y_ = (x3_1 ++ [rd t187 x7_2]):=⟨_,rfl⟩
                 replace H : (spec_LeftLeaf.l0 k2 l0 y196 t184 t187 (wrap64 (x6_1 + 1))) = some r:=by first | (rw [hy196];with_reducible exact H) | (have H2_:=(Option.bind_some _ _).symm.trans H;rw [hy196];with_reducible exact H2_) | (have H2_:=(Option.bind_some _ _).symm.trans H;with_reducible exact H2_) | with_reducible exact H | (rw [hy196];exact H) | exact H
                 have Ny196:=Aside0.mk hy196
                 clear hy196
                 have H':=Aside0.mk H
                 clear H
                 try go_wp2
                 have n0_:=Aside0.mk (Kd.R_drew HO_3.out)
                 have n1_:=Aside0.mk (Kd.R_drew HO_4.out)
                 have n2_:=Aside0.mk (Kd.R_drew HO_5.out)
                 have n3_:=Aside0.mk (below_drew1 HB.out)
                 clear HO_3
                 clear HO_4
                 clear HO_5
                 clear HB
                 have HO_3:=n0_
                 have HO_4:=n1_
                 have HO_5:=n2_
                 have HB:=n3_
                 clear n0_ n1_ n2_ n3_
                 have p191 : 0 ≤ (x6_1 : Int):=od_
                 have q191 : x6_1 < (t184.length : Int):=od_
                 obtain ⟨ad191,e191,hx191_0⟩:=Kd.at_int (Kd.R_reads' HO_4.out).2.2 x6_1 p191 q191
                 obtain rfl : ad190 = ad191:=(by injection e191)
                 replace p191:=eq_true p191
                 replace q191:=eq_true q191
                 have p193 : 0 ≤ ((ji15) : Int):=od_
                 have q193 : (ji15) < (l0.length : Int):=od_
                 obtain ⟨ad193,e193,hx193_0,hx193_1⟩:=at_T53 HR0.out (ji15) p193 q193
                 have hw193_1:=hx193_1
                 have hw193_0:=hx193_0
                 cases e193
                 replace hx193_0:=ce_ HB hx193_0
                 replace hx193_1:=ce_ HB hx193_1
                 replace p193:=eq_true p193
                 replace q193:=eq_true q193
                 have p194 : 0 ≤ (x7_2 : Int):=od_
                 have q194 : x7_2 < (l0.length : Int):=od_
                 obtain ⟨ad194,e194,hx194_0,hx194_1⟩:=at_T53 HR0.out x7_2 p194 q194
                 have hw194_1:=hx194_1
                 have hw194_0:=hx194_0
                 obtain rfl : ad193 = ad194:=(by injection e194)
                 replace hx194_0:=ce_ HB hx194_0
                 replace hx194_1:=ce_ HB hx194_1
                 replace p194:=eq_true p194
                 replace q194:=eq_true q194
                 refine start_ (n:=24) (S:=fun w' => w'.cell? (ad190.add (x6_1).toNat) = some (.int .i64 (rd t184 x6_1)) ∧ w'.cell? (ad193.add (((ji15)).toNat * 2)) = some (.int .i64 ((rd_T53 l0 (ji15)).f0)) ∧ w'.cell? ⟨(ad193.add (((ji15)).toNat * 2)).block,(ad193.add (((ji15)).toNat * 2)).off + 1,none⟩ = some (.int .i64 ((rd_T53 l0 (ji15)).f1)) ∧ w'.cell? (ad193.add ((x7_2).toNat * 2)) = some (.int .i64 ((rd_T53 l0 x7_2).f0)) ∧ w'.cell? ⟨(ad193.add ((x7_2).toNat * 2)).block,(ad193.add ((x7_2).toNat * 2)).off + 1,none⟩ = some (.int .i64 ((rd_T53 l0 x7_2).f1))) (ds:=[]) (ba_ 24 0) (by kernel_rfl) rfl rfl ⟨hx191_0,(ce_ HB hw193_0),(ce_ HB hw193_1),(ce_ HB hw194_0),(ce_ HB hw194_1)⟩ (fun hHeld => ?_);refine with_tabW spec_LeftLeaf.tab8 spec_LeftLeaf.bits8 (fun HT_ HW_ => ?_)
                 generalize wr.drew = w25 at HO_3 HO_4 HO_5 HB hx191_0 hx193_0 hx193_1 hx194_0 hx194_1 hHeld ⊢
                 refine pu_ 0 (some 23) (ba_ 24 1) rfl rfl (any_of HT_.out (by kernel_rfl)) ?_
                 refine pu_ 1 (some 24) (ba_ 24 3) rfl rfl (any_of HT_.out (by kernel_rfl)) ?_
                 refine pu_ 2 (some 25) (ba_ 24 7) rfl rfl (any_of HT_.out (by kernel_rfl)) ?_
                 refine pu_ 3 (some 26) (ba_ 24 15) rfl rfl (any_of HT_.out (by kernel_rfl)) ?_
                 refine pu_ 4 (some 27) (ba_ 24 31) rfl rfl (any_of HT_.out (by kernel_rfl)) ?_
                 refine pu_ 5 (some 28) (ba_ 24 63) rfl rfl (any_of HT_.out (by kernel_rfl)) ?_
                 refine ta_ 6 (some 29) (ba_ 24 127) rfl rfl (take_ofW HT_.out HW_.out (by kernel_rfl)) hHeld (by rintro w' ⟨s0,s1,s2,s3,s4⟩;go_simp;with_reducible rfl) ?_
                 refine one_ (i:=7) (N:=some 30) (ba_ 24 255) rfl rfl (one_of HT_.out (by kernel_rfl)) (by decide) (fun K hK => ?_)
                 refine goes_ Try.func79 (by kernel_rfl) rfl #[.slice (some ad193) l0.length c0,.int .i64 (rd t184 x6_1)] (by rfl) rfl rfl (by (try simp only [List.map_toArray,List.map_cons,List.map_nil]);first | done | rfl | (simp only [List.length_drop,List.length_take];rfl)) ?_
                 with_reducible refine (spec_EndOf.calls k2 _ _ l0 (rd t184 x6_1) t192 _ ?side1 ?side2 A13.out).mono ?_
                 (case side1 => exact cx_ HR0 HB)
                 (case side2 => exact HC0.out)
                 rintro e w26 ⟨rfl,hb⟩
                 have HS0_:=(hb.cell (World.block_lt_of_cell? _ _ (hHeld.1))).trans (hHeld.1)
                 refine ⟨_,rfl,?_⟩
                 have n0_:=tR_ HO_3 hb
                 have n1_:=tR_ HO_4 hb
                 have n2_:=tR_ HO_5 hb
                 have n3_:=tB_ HB hb
                 clear HO_3
                 clear HO_4
                 clear HO_5
                 clear HB
                 have HO_3:=n0_
                 have HO_4:=n1_
                 have HO_5:=n2_
                 have HB:=n3_
                 clear n0_ n1_ n2_ n3_
                 (try clear hb)
                 (try clear hb2)
                 (try clear hk)
                 (try clear hi)
                 refine hK.out _ _ ⟨HS0_,(ce_ HB hw193_0),(ce_ HB hw193_1),(ce_ HB hw194_0),(ce_ HB hw194_1)⟩ (fun hHeld => ?_)
                 clear hK K
                 refine norm_ (a':=?_) ?_ ?_
                 rotate_left
                 ·show Act.put _ (some 30) _ = _
                  simp only [Act.put,List.setIfInBounds_toArray,List.set_cons_zero,List.set_cons_succ,i64_w,i32_w]
                  rfl
                 refine pu_ 8 (some 31) (ba_ 24 511) rfl rfl (any_of HT_.out (by kernel_rfl)) ?_
                 refine pu_ 9 (some 32) (ba_ 24 1023) rfl rfl (any_of HT_.out (by kernel_rfl)) ?_
                 refine pu_ 10 (some 33) (ba_ 24 2047) rfl rfl (any_of HT_.out (by kernel_rfl)) ?_
                 refine pu_ 11 (some 34) (ba_ 24 4095) rfl rfl (any_of HT_.out (by kernel_rfl)) ?_
                 refine pu_ 12 (some 35) (ba_ 24 8191) rfl rfl (any_of HT_.out (by kernel_rfl)) ?_
                 refine pu_ 13 (some 36) (ba_ 24 16383) rfl rfl (any_of HT_.out (by kernel_rfl)) ?_
                 refine pu_ 14 (some 37) (ba_ 24 32767) rfl rfl (any_of HT_.out (by kernel_rfl)) ?_
                 refine pu_ 16 (some 39) (ba_ 24 98303) rfl rfl (any_of HT_.out (by kernel_rfl)) ?_
                 refine pu_ 17 (some 40) (ba_ 24 229375) rfl rfl (any_of HT_.out (by kernel_rfl)) ?_
                 refine pu_ 18 (some 41) (ba_ 24 491519) rfl rfl (any_of HT_.out (by kernel_rfl)) ?_
                 refine pu_ 19 (some 42) (ba_ 24 1015807) rfl rfl (any_of HT_.out (by kernel_rfl)) ?_
                 refine ta_ 15 (some 38) (ba_ 24 1048575) rfl rfl (take_ofW HT_.out HW_.out (by kernel_rfl)) hHeld (by rintro w' ⟨s0,s1,s2,s3,s4⟩;go_simp;with_reducible rfl) ?_
                 refine ta_ 20 (some 43) (ba_ 24 2097151) rfl rfl (take_ofW HT_.out HW_.out (by kernel_rfl)) hHeld (by rintro w' ⟨s0,s1,s2,s3,s4⟩;go_simp;with_reducible rfl) ?_
                 refine pu_ 21 (some 44) (ba_ 24 4194303) rfl rfl (any_of HT_.out (by kernel_rfl)) ?_
                 refine pu_ 22 (some 45) (ba_ 24 8388607) rfl rfl (any_of HT_.out (by kernel_rfl)) ?_
                 refine pu_ 23 (some 46) (ba_ 24 16777215) rfl rfl (any_of HT_.out (by kernel_rfl)) ?_
                 refine done_ (done_of HT_.out (by kernel_rfl)) ?_
                 obtain ⟨Ao27,co27,eo27⟩:=Kd.R_slice HO_5.out
                 subst eo27
                 have p195 : 0 ≤ (x7_2 : Int):=od_
                 have q195 : x7_2 < (t187.length : Int):=od_
                 obtain ⟨ad195,e195,hx195_0⟩:=Kd.at_int (Kd.R_reads' HO_5.out).2.2 x7_2 p195 q195
                 cases e195
                 replace p195:=eq_true p195
                 replace q195:=eq_true q195
                 try go_wp2_with (first | ((with_reducible refine gate_builtin (b:=.append) (xs:=#[.tmp 49,.tmp 54]) rfl ?_);at_builtin;refine Kd.R_append (Kd.int .i64) (w0:=w) w.heap.size rfl (.tmp 49) (.tmp 54) 23 3 (.int .i64 0) 8 rfl Try.underlying23 info3 rfl (by decide) (by omega) u3 x3_1 (rd t187 x7_2) [.int .i64 (rd t187 x7_2)] (fun k_ => some k_ ≠ (.slice (some ad190) t184.length co10 : Value).ownBlock ∧ some k_ ≠ (.slice (some ad195) t187.length co27 : Value).ownBlock) (fun _ => False) rfl rfl ?aP (fun _ hk => hk.elim) ?aF ?aO ?aB ?aS ?aL ?_;(case aP => exact rfl);(case aB => exact ((bl_ HB).out));(case aF => exact (fun k_ hk => ⟨Kd.fresh' (Kd.R_lt (rx_ HO_4.out)) k_ hk,Kd.fresh' (Kd.R_lt (rx_ HO_5.out)) k_ hk⟩));(case aO => exact (rx_ HO_3.out));(case aS => exact (bs_ HB));(case aL => have:=LMc24.out;omega);intro v197 w28 ho hb hg hat;rw [← Ny196.out] at ho;replace HO_4:=Aside0.mk (Kd.R_after (ok:=(fun k_ => some k_ ≠ (.slice (some ad195) t187.length co27 : Value).ownBlock)) (rx_ (Kd.R_mono HO_4.out (fun _ hk => ⟨hk.2,hk.1⟩))) hg hat);replace HO_5:=Aside0.mk (Kd.R_after (ok:=(fun k_ => some k_ ≠ (.slice (some ad190) t184.length co10 : Value).ownBlock)) (rx_ (Kd.R_mono HO_5.out (fun _ hk => ⟨hk.2,hk.1⟩))) hg hat);replace HB:=Aside0.mk (hb);have HO198:=Aside0.mk (ho);clear HO_3;clear ho hb hg hat))
                 go_roundg k2
                 case measure => have:=HK1.out;have:=HK2.out;omega
                 case rel => exact ⟨(y196),(wrap64 (x6_1 + 1)),eb_,H',⟨by have:=HK1.out;have:=HK2.out;omega⟩,⟨rx_ HO198.out⟩,⟨rx_ (Kd.R_mono HO_4.out (fun _ hk => ⟨hk.2,hk.1⟩))⟩,⟨rx_ (Kd.R_mono HO_5.out (fun _ hk => ⟨hk.2,hk.1⟩))⟩,bl_ HB⟩
                ·rw [if_neg c24] at H
                 exact absurd H (by simp)
               ·rw [if_neg c23] at H
                exact absurd H (by simp)
             ·rw [if_neg c19] at H
              exact absurd H (by simp)
            ·rw [if_neg c18] at H
             exact absurd H (by simp)
           ·rw [if_neg c17] at H
            exact absurd H (by simp)
          ·rw [if_neg c16] at H
           exact absurd H (by simp)
         ·rw [if_neg c14] at H
          have c14b0 : decide ((wrap64 (x7_2 + 1)) < t192) = false:=decide_eq_false c14
          clear c14
          by_cases c29 : 0 ≤ x7_2
          ·rw [if_pos c29] at H
           have c29b0 : decide (0 ≤ x7_2) = true:=decide_eq_true c29
           clear c29
           by_cases c30 : x7_2 < (t187.length : Int)
           ·rw [if_pos c30] at H
            have c30b0 : decide (x7_2 < (t187.length : Int)) = true:=decide_eq_true c30
            clear c30
            by_cases c31 : x3_1.length < 17592186044416
            ·rw [if_pos c31] at H
             have LMc31:=Aside0.mk c31
             clear c31
             obtain ⟨y200,hy200⟩ : ∃ y_ : List Int,y_ = (x3_1 ++ [rd t187 x7_2]):=⟨_,rfl⟩
             replace H : (spec_LeftLeaf.l0 k2 l0 y200 t184 t187 (wrap64 (x6_1 + 1))) = some r:=by first | (rw [hy200];with_reducible exact H) | (have H2_:=(Option.bind_some _ _).symm.trans H;rw [hy200];with_reducible exact H2_) | (have H2_:=(Option.bind_some _ _).symm.trans H;with_reducible exact H2_) | with_reducible exact H | (rw [hy200];exact H) | exact H
             have Ny200:=Aside0.mk hy200
             clear hy200
             have H':=Aside0.mk H
             clear H
             try go_wp2
             have n0_:=Aside0.mk (Kd.R_drew HO_3.out)
             have n1_:=Aside0.mk (Kd.R_drew HO_4.out)
             have n2_:=Aside0.mk (Kd.R_drew HO_5.out)
             have n3_:=Aside0.mk (below_drew1 HB.out)
             clear HO_3
             clear HO_4
             clear HO_5
             clear HB
             have HO_3:=n0_
             have HO_4:=n1_
             have HO_5:=n2_
             have HB:=n3_
             clear n0_ n1_ n2_ n3_
             have p191 : 0 ≤ (x6_1 : Int):=od_
             have q191 : x6_1 < (t184.length : Int):=od_
             obtain ⟨ad191,e191,hx191_0⟩:=Kd.at_int (Kd.R_reads' HO_4.out).2.2 x6_1 p191 q191
             obtain rfl : ad190 = ad191:=(by injection e191)
             replace p191:=eq_true p191
             replace q191:=eq_true q191
             refine start_ (n:=24) (S:=fun w' => w'.cell? (ad190.add (x6_1).toNat) = some (.int .i64 (rd t184 x6_1))) (ds:=[]) (ba_ 24 0) (by kernel_rfl) rfl rfl (hx191_0) (fun hHeld => ?_);refine with_tabW spec_LeftLeaf.tab8 spec_LeftLeaf.bits8 (fun HT_ HW_ => ?_)
             generalize wr.drew = w32 at HO_3 HO_4 HO_5 HB hx191_0 hHeld ⊢
             refine pu_ 0 (some 23) (ba_ 24 1) rfl rfl (any_of HT_.out (by kernel_rfl)) ?_
             refine pu_ 1 (some 24) (ba_ 24 3) rfl rfl (any_of HT_.out (by kernel_rfl)) ?_
             refine pu_ 2 (some 25) (ba_ 24 7) rfl rfl (any_of HT_.out (by kernel_rfl)) ?_
             refine pu_ 3 (some 26) (ba_ 24 15) rfl rfl (any_of HT_.out (by kernel_rfl)) ?_
             refine pu_ 4 (some 27) (ba_ 24 31) rfl rfl (any_of HT_.out (by kernel_rfl)) ?_
             refine pu_ 5 (some 28) (ba_ 24 63) rfl rfl (any_of HT_.out (by kernel_rfl)) ?_
             refine take_ (i:=6) (N:=some 29) (v:=?_) (a':=?_) (ba_ 24 127) rfl rfl (take_ofW HT_.out HW_.out (by kernel_rfl)) (fun _ _ _ h => h) (Or.inl ⟨by rfl,?_⟩) hHeld ?_ ?_
             rotate_left
             ·intro w' s0
              go_simp
              with_reducible rfl
             rotate_left
             ·simp only [Act.put,List.setIfInBounds_toArray,List.set_cons_zero,List.set_cons_succ,i64_w,i32_w]
              rfl
             refine one_ (i:=7) (N:=some 30) (ba_ 24 255) rfl rfl (one_of HT_.out (by kernel_rfl)) (by decide) (fun K hK => ?_)
             refine goes_ Try.func79 (by kernel_rfl) rfl #[.slice A0 l0.length c0,.int .i64 (rd t184 x6_1)] (by rfl) rfl rfl (by (try simp only [List.map_toArray,List.map_cons,List.map_nil]);first | done | rfl | (simp only [List.length_drop,List.length_take];rfl)) ?_
             with_reducible refine (spec_EndOf.calls k2 _ _ l0 (rd t184 x6_1) t192 _ ?side1 ?side2 A13.out).mono ?_
             (case side1 => exact cx_ HR0 HB)
             (case side2 => exact HC0.out)
             rintro e w33 ⟨rfl,hb⟩
             have HS0_:=(hb.cell (World.block_lt_of_cell? _ _ (hHeld))).trans (hHeld)
             refine ⟨_,rfl,?_⟩
             have n0_:=tR_ HO_3 hb
             have n1_:=tR_ HO_4 hb
             have n2_:=tR_ HO_5 hb
             have n3_:=tB_ HB hb
             clear HO_3
             clear HO_4
             clear HO_5
             clear HB
             have HO_3:=n0_
             have HO_4:=n1_
             have HO_5:=n2_
             have HB:=n3_
             clear n0_ n1_ n2_ n3_
             (try clear hb)
             (try clear hb2)
             (try clear hk)
             (try clear hi)
             refine hK.out _ _ (HS0_) (fun hHeld => ?_)
             clear hK K
             refine norm_ (a':=?_) ?_ ?_
             rotate_left
             ·show Act.put _ (some 30) _ = _
              simp only [Act.put,List.setIfInBounds_toArray,List.set_cons_zero,List.set_cons_succ,i64_w,i32_w]
              rfl
             refine pu_ 8 (some 31) (ba_ 24 511) rfl rfl (any_of HT_.out (by kernel_rfl)) ?_
             refine pu_ 9 (some 32) (ba_ 24 1023) rfl rfl (any_of HT_.out (by kernel_rfl)) ?_
             refine pn_ 10 (some 33) (ba_ 24 2047) rfl rfl (any_of HT_.out (by kernel_rfl)) ?_
             refine pn_ 11 (some 34) (ba_ 24 4095) rfl rfl (any_of HT_.out (by kernel_rfl)) ?_
             refine pn_ 12 (some 35) (ba_ 24 8191) rfl rfl (any_of HT_.out (by kernel_rfl)) ?_
             refine pn_ 13 (some 36) (ba_ 24 16383) rfl rfl (any_of HT_.out (by kernel_rfl)) ?_
             refine pn_ 14 (some 37) (ba_ 24 32767) rfl rfl (any_of HT_.out (by kernel_rfl)) ?_
             refine pn_ 15 (some 38) (ba_ 24 65535) rfl rfl (any_of HT_.out (by kernel_rfl)) ?_
             refine pn_ 16 (some 39) (ba_ 24 131071) rfl rfl (any_of HT_.out (by kernel_rfl)) ?_
             refine pn_ 17 (some 40) (ba_ 24 262143) rfl rfl (any_of HT_.out (by kernel_rfl)) ?_
             refine pn_ 18 (some 41) (ba_ 24 524287) rfl rfl (any_of HT_.out (by kernel_rfl)) ?_
             refine pn_ 19 (some 42) (ba_ 24 1048575) rfl rfl (any_of HT_.out (by kernel_rfl)) ?_
             refine pn_ 20 (some 43) (ba_ 24 2097151) rfl rfl (any_of HT_.out (by kernel_rfl)) ?_
             refine pn_ 21 (some 44) (ba_ 24 4194303) rfl rfl (any_of HT_.out (by kernel_rfl)) ?_
             refine pn_ 22 (some 45) (ba_ 24 8388607) rfl rfl (any_of HT_.out (by kernel_rfl)) ?_
             refine pu_ 23 (some 46) (ba_ 24 16777215) rfl rfl (any_of HT_.out (by kernel_rfl)) ?_
             refine done_ (done_of HT_.out (by kernel_rfl)) ?_
             obtain ⟨Ao34,co34,eo34⟩:=Kd.R_slice HO_5.out
             subst eo34
             have p199 : 0 ≤ (x7_2 : Int):=od_
             have q199 : x7_2 < (t187.length : Int):=od_
             obtain ⟨ad199,e199,hx199_0⟩:=Kd.at_int (Kd.R_reads' HO_5.out).2.2 x7_2 p199 q199
             cases e199
             replace p199:=eq_true p199
             replace q199:=eq_true q199
             try go_wp2_with (first | ((with_reducible refine gate_builtin (b:=.append) (xs:=#[.tmp 49,.tmp 54]) rfl ?_);at_builtin;refine Kd.R_append (Kd.int .i64) (w0:=w) w.heap.size rfl (.tmp 49) (.tmp 54) 23 3 (.int .i64 0) 8 rfl Try.underlying23 info3 rfl (by decide) (by omega) u3 x3_1 (rd t187 x7_2) [.int .i64 (rd t187 x7_2)] (fun k_ => some k_ ≠ (.slice (some ad190) t184.length co10 : Value).ownBlock ∧ some k_ ≠ (.slice (some ad199) t187.length co34 : Value).ownBlock) (fun _ => False) rfl rfl ?aP (fun _ hk => hk.elim) ?aF ?aO ?aB ?aS ?aL ?_;(case aP => exact rfl);(case aB => exact ((bl_ HB).out));(case aF => exact (fun k_ hk => ⟨Kd.fresh' (Kd.R_lt (rx_ HO_4.out)) k_ hk,Kd.fresh' (Kd.R_lt (rx_ HO_5.out)) k_ hk⟩));(case aO => exact (rx_ HO_3.out));(case aS => exact (bs_ HB));(case aL => have:=LMc31.out;omega);intro v201 w35 ho hb hg hat;rw [← Ny200.out] at ho;replace HO_4:=Aside0.mk (Kd.R_after (ok:=(fun k_ => some k_ ≠ (.slice (some ad199) t187.length co34 : Value).ownBlock)) (rx_ (Kd.R_mono HO_4.out (fun _ hk => ⟨hk.2,hk.1⟩))) hg hat);replace HO_5:=Aside0.mk (Kd.R_after (ok:=(fun k_ => some k_ ≠ (.slice (some ad190) t184.length co10 : Value).ownBlock)) (rx_ (Kd.R_mono HO_5.out (fun _ hk => ⟨hk.2,hk.1⟩))) hg hat);replace HB:=Aside0.mk (hb);have HO202:=Aside0.mk (ho);clear HO_3;clear ho hb hg hat))
             go_roundg k2
             case measure => have:=HK1.out;have:=HK2.out;omega
             case rel => exact ⟨(y200),(wrap64 (x6_1 + 1)),eb_,H',⟨by have:=HK1.out;have:=HK2.out;omega⟩,⟨rx_ HO202.out⟩,⟨rx_ (Kd.R_mono HO_4.out (fun _ hk => ⟨hk.2,hk.1⟩))⟩,⟨rx_ (Kd.R_mono HO_5.out (fun _ hk => ⟨hk.2,hk.1⟩))⟩,bl_ HB⟩
            ·rw [if_neg c31] at H
             exact absurd H (by simp)
           ·rw [if_neg c30] at H
            exact absurd H (by simp)
          ·rw [if_neg c29] at H
           exact absurd H (by simp)
        ·rw [if_neg c12] at H
         exact absurd H (by simp)
       ·rw [if_neg c11] at H
        exact absurd H (by simp)
    ·rw [if_neg c9] at H
     exact absurd H (by simp)
   ·rw [if_neg c8] at H
    have c8b0 : decide (x6_1 < (t184.length : Int)) = false:=decide_eq_false c8
    clear c8
    obtain rfl:=Option.some.inj H
    obtain ⟨Ao36,co36,eo36⟩:=Kd.R_slice HO_4.out
    subst eo36
    go_wp2
    go_ret
    exact ⟨_,ea_,rx_ (Kd.R_mono HO_3.out (fun _ hk => trivial)),(bl_ HB).out⟩
end Go.Proofs.Ytelglbebffdaaaa.X
namespace Go.Proofs.Ytelglbebffdaaaa.X
open Go.RowKit Go.Proofs.YtelglbebffdaaaaW.PrintWords Go.Proofs.YtelglbebffdaaaaW.PrintLast Go.Proofs.YtelglbebffdaaaaW.PrintMore
attribute [local go_sem] max2_int min2_int max_two min_two max_three min_three max_four min_four   -- for this text's walks alone
set_option linter.unusedVariables false
set_option linter.unusedSimpArgs false
def spec_l8Labels.l0 : Nat → List (S53) → List Int → List Int → Int → Option (List Int)
 | 0,_,_,_,_ => none
 | k + 1,x0,x3,x4,x5 => if x5 < (x4.length : Int) then (if 0 ≤ x5 then (if 0 ≤ (rd x4 x5) then (if (rd x4 x5) < (x0.length : Int) then (if x3.length < 17592186044416 then (spec_l8Labels.l0 k x0 (x3 ++ [(rd_T53 x0 (rd x4 x5)).f0]) x4 (wrap64 (x5 + 1))) else (none)) else (none)) else (none)) else (none)) else (some x3)
def spec_l8Labels.f (k : Nat) (l0 : List (S53)) : Option (List Int):=(spec_PostOrder.f k l0).bind fun t206 => (spec_l8Labels.l0 k l0 (([] : List Int)) t206 0)
theorem spec_l8Labels.mono_l : ∀ k,(∀ y0 y1 y2 y3,LeO (spec_l8Labels.l0 k y0 y1 y2 y3) (spec_l8Labels.l0 (k + 1) y0 y1 y2 y3))
 | 0 => fun _ _ _ _ r h => by simp [spec_l8Labels.l0] at h
 | k + 1 => by
  have ih0:=spec_l8Labels.mono_l k
  ·intro y0 y1 y2 y3
   unfold spec_l8Labels.l0
   repeat' first
   | (with_reducible exact ih0 _ _ _ _)
   | (with_reducible exact spec_PostOrder.mono _ _)
   | (with_reducible exact LeO.refl _)
   | (with_reducible exact LeO.none _)
   | (with_reducible refine LeO.ite ?_ ?_)
   | (with_reducible refine LeO.bind ?_ (fun _ => ?_))
   | exact ih0 _ _ _ _
   | exact spec_PostOrder.mono _ _
   | exact LeO.none _
   | refine LeO.ite ?_ ?_
   | refine LeO.bind ?_ (fun _ => ?_)
theorem spec_l8Labels.mono : ∀ a0 k,LeO (spec_l8Labels.f k a0) (spec_l8Labels.f (k + 1) a0):=by
 intro a0 k
 have ih0:=spec_l8Labels.mono_l k
 unfold spec_l8Labels.f
 repeat' first
   | (with_reducible exact ih0 _ _ _ _)
   | (with_reducible exact spec_PostOrder.mono _ _)
   | (with_reducible exact LeO.refl _)
   | (with_reducible exact LeO.none _)
   | (with_reducible refine LeO.ite ?_ ?_)
   | (with_reducible refine LeO.bind ?_ (fun _ => ?_))
   | exact ih0 _ _ _ _
   | exact spec_PostOrder.mono _ _
   | exact LeO.none _
   | refine LeO.ite ?_ ?_
   | refine LeO.bind ?_ (fun _ => ?_)
set_option maxHeartbeats 8000000 in
set_option maxRecDepth 100000 in
theorem spec_l8Labels.calls (k : Nat) (A0 : Option Addr) (c0 : Nat) (l0 : List (S53)) (r : List Int) (w : World) (hr0 : Kd.C k53 w A0 l0.length l0) (hc0 : l0.length ≤ c0) (h : spec_l8Labels.f k l0 = some r) :
  Calls Try.prog 81 #[.slice A0 l0.length c0] w fun e w' => ∃ v0_ : Value,e = .returned (v0_) ∧ Kd.R (Kd.int .i64) 3 w' w.heap.size (fun _ => True) v0_ r ∧ Below w.heap.size w w':=by
 have HR0:=Aside0.mk hr0
 have HC0:=Aside0.mk hc0
 clear hr0 hc0
 have HB:=Aside0.mk (Below.refl w.heap.size w)
 have H : ((spec_PostOrder.f k l0).bind fun t206 => (spec_l8Labels.l0 k l0 (([] : List Int)) t206 0)) = some r:=h
 clear h
 obtain ⟨y203,hy203⟩ : ∃ y_ : List Int,y_ = (([] : List Int)):=⟨_,rfl⟩
 replace H : ((spec_PostOrder.f k l0).bind fun t206 => (spec_l8Labels.l0 k l0 y203 t206 0)) = some r:=by first | (rw [hy203];with_reducible exact H) | (have H2_:=(Option.bind_some _ _).symm.trans H;rw [hy203];with_reducible exact H2_) | (have H2_:=(Option.bind_some _ _).symm.trans H;with_reducible exact H2_) | with_reducible exact H | (rw [hy203];exact H) | exact H
 have Ny203:=Aside0.mk hy203
 clear hy203
 replace H:=Option.bind_eq_some_iff.mp H
 obtain ⟨t206,A20,H⟩:=H
 replace H : (spec_l8Labels.l0 k l0 y203 t206 0) = some r:=H
 have A2:=Aside0.mk A20
 clear A20
 have H':=Aside0.mk H
 clear H
 go_enter Try.func81,Try.ntmps81
 go_wp2_with (first | ((with_reducible refine gate_dst (N:=6) rfl ?_);refine Kd.R_lit (Kd.int .i64) _ 3 ?hg (N:=6) ?hd (xs:=([] : List Int)) (inner:=[]) (ok:=fun _ => True) (okp:=fun _ => True) ?hr ?hp (fun _ hk => hk) trivial (Below.refl _ _) (Nat.le_refl _) (by simp) ?_;(case hd => rfl);(case hg => rfl);(case hr => first | (go_simp;done) | (go_simp;rfl));(case hp => exact (Reps.none _ _));intro v204 w3 ho4 hb hg_ hnew_;clear hg_ hnew_;(first | rw [← Ny203.out] at ho4 | (simp only [Int.reduceToNat] at ho4;rw [← Ny203.out] at ho4));have HO205:=Aside0.mk (Kd.R_lower ho4 (bs_ HB));replace HB:=tB_ HB hb;clear hb ho4) | ((with_reducible refine gate_callee (f:=40) rfl ?_);refine gL_ (some 8) Try.func40 #[.slice A0 l0.length c0] ?_;(with_reducible refine (spec_PostOrder.calls k _ _ l0 t206 _ (cx_ HR0 HB) HC0.out A2.out).mono ?_);rintro e w5 ⟨v207,rfl,ho0,hb⟩;refine ⟨_,rfl,?_⟩;have HO208:=Aside0.mk (Kd.R_lower (Kd.R_new' ho0 (Kd.R_lt (rx_ HO205.out))) (bs_ HB));replace HO205:=Aside0.mk (Kd.R_elder' (rx_ HO205.out) (Kd.R_base ho0) hb);replace HB:=tB_ HB hb;(try clear hb);(try clear ho0)))
 go_loopg [3,5] k (fun kq v3 v5 w' => ∃ (x3_1 : List Int) (x5_1 : Int),v5 = .int .i64 x5_1 ∧ Aside0 (spec_l8Labels.l0 kq l0 x3_1 t206 x5_1 = some r) ∧ Aside0 (kq ≤ k) ∧ Aside0 (Kd.R (Kd.int .i64) 3 w' w.heap.size (fun k_ => some k_ ≠ (v207 : Value).ownBlock) v3 x3_1) ∧ Aside0 (Kd.R (Kd.int .i64) 3 w' w.heap.size (fun k_ => some k_ ≠ (v3 : Value).ownBlock) v207 t206) ∧ Aside0 (Below w.heap.size w w'))
 case atStart => exact ⟨(y203),(0),eb_,H',⟨Nat.le_refl _⟩,⟨rx_ (Kd.R_mono HO205.out (fun _ hk => hk.2))⟩,⟨rx_ (Kd.R_mono HO208.out (fun _ hk => hk.2))⟩,bl_ HB⟩
 case round =>
  clear H'
  try clear p2
  try clear c4
  obtain ⟨x3_1,x5_1,rfl,HA,HK1,HO_3,HO_4,HB⟩:=hrel
  cases gk with
  | zero => exact absurd HA.out (by simp [spec_l8Labels.l0])
  | succ k1 =>
   have H:=HA.out
   clear HA
   simp only [spec_l8Labels.l0] at H
   by_cases c6 : x5_1 < (t206.length : Int)
   ·rw [if_pos c6] at H
    have c6b0 : decide (x5_1 < (t206.length : Int)) = true:=decide_eq_true c6
    clear c6
    by_cases c7 : 0 ≤ x5_1
    ·rw [if_pos c7] at H
     have c7b0 : decide (0 ≤ x5_1) = true:=decide_eq_true c7
     clear c7
     by_cases c8 : 0 ≤ (rd t206 x5_1)
     ·rw [if_pos c8] at H
      have c8b0 : decide (0 ≤ (rd t206 x5_1)) = true:=decide_eq_true c8
      clear c8
      by_cases c9 : (rd t206 x5_1) < (l0.length : Int)
      ·rw [if_pos c9] at H
       have c9b0 : decide ((rd t206 x5_1) < (l0.length : Int)) = true:=decide_eq_true c9
       clear c9
       by_cases c10 : x3_1.length < 17592186044416
       ·rw [if_pos c10] at H
        have LMc10:=Aside0.mk c10
        clear c10
        obtain ⟨y211,hy211⟩ : ∃ y_ : List Int,y_ = (x3_1 ++ [(rd_T53 l0 (rd t206 x5_1)).f0]):=⟨_,rfl⟩
        replace H : (spec_l8Labels.l0 k1 l0 y211 t206 (wrap64 (x5_1 + 1))) = some r:=by first | (rw [hy211];with_reducible exact H) | (have H2_:=(Option.bind_some _ _).symm.trans H;rw [hy211];with_reducible exact H2_) | (have H2_:=(Option.bind_some _ _).symm.trans H;with_reducible exact H2_) | with_reducible exact H | (rw [hy211];exact H) | exact H
        have Ny211:=Aside0.mk hy211
        clear hy211
        have H':=Aside0.mk H
        clear H
        obtain ⟨Ao11,co11,eo11⟩:=Kd.R_slice HO_4.out
        subst eo11
        have p209 : 0 ≤ (x5_1 : Int):=od_
        have q209 : x5_1 < (t206.length : Int):=od_
        obtain ⟨ad209,e209,hx209_0⟩:=Kd.at_int (Kd.R_reads' HO_4.out).2.2 x5_1 p209 q209
        cases e209
        replace p209:=eq_true p209
        replace q209:=eq_true q209
        have p210 : 0 ≤ ((rd t206 x5_1) : Int):=od_
        have q210 : (rd t206 x5_1) < (l0.length : Int):=od_
        obtain ⟨ad210,e210,hx210_0,hx210_1⟩:=at_T53 HR0.out (rd t206 x5_1) p210 q210
        cases e210
        replace hx210_0:=ce_ HB hx210_0
        replace hx210_1:=ce_ HB hx210_1
        replace p210:=eq_true p210
        replace q210:=eq_true q210
        go_wp2_with (first | ((with_reducible refine gate_builtin (b:=.append) (xs:=#[.tmp 15,.tmp 24]) rfl ?_);at_builtin;refine Kd.R_append (Kd.int .i64) (w0:=w) w.heap.size rfl (.tmp 15) (.tmp 24) 23 3 (.int .i64 0) 8 rfl Try.underlying23 info3 rfl (by decide) (by omega) u3 x3_1 ((rd_T53 l0 (rd t206 x5_1)).f0) [.int .i64 ((rd_T53 l0 (rd t206 x5_1)).f0)] (fun k_ => some k_ ≠ (.slice (some ad209) t206.length co11 : Value).ownBlock) (fun _ => False) rfl rfl ?aP (fun _ hk => hk.elim) ?aF ?aO ?aB ?aS ?aL ?_;(case aP => exact rfl);(case aB => exact ((bl_ HB).out));(case aF => exact (fun k_ hk => Kd.fresh' (Kd.R_lt (rx_ HO_4.out)) k_ hk));(case aO => exact (rx_ HO_3.out));(case aS => exact (bs_ HB));(case aL => have:=LMc10.out;omega);intro v212 w12 ho hb hg hat;rw [← Ny211.out] at ho;replace HO_4:=Aside0.mk (Kd.R_after (ok:=(fun _ => True)) (rx_ (Kd.R_mono HO_4.out (fun _ hk => ⟨trivial,hk⟩))) hg hat);replace HB:=Aside0.mk (hb);have HO213:=Aside0.mk (ho);clear HO_3;clear ho hb hg hat))
        go_roundg k1
        case measure => have:=HK1.out;omega
        case rel => exact ⟨(y211),(wrap64 (x5_1 + 1)),eb_,H',⟨by have:=HK1.out;omega⟩,⟨rx_ HO213.out⟩,⟨rx_ (Kd.R_mono HO_4.out (fun _ hk => hk.2))⟩,bl_ HB⟩
       ·rw [if_neg c10] at H
        exact absurd H (by simp)
      ·rw [if_neg c9] at H
       exact absurd H (by simp)
     ·rw [if_neg c8] at H
      exact absurd H (by simp)
    ·rw [if_neg c7] at H
     exact absurd H (by simp)
   ·rw [if_neg c6] at H
    have c6b0 : decide (x5_1 < (t206.length : Int)) = false:=decide_eq_false c6
    clear c6
    obtain rfl:=Option.some.inj H
    obtain ⟨Ao13,co13,eo13⟩:=Kd.R_slice HO_4.out
    subst eo13
    go_wp2
    go_ret
    exact ⟨_,ea_,rx_ (Kd.R_mono HO_3.out (fun _ hk => trivial)),(bl_ HB).out⟩
end Go.Proofs.Ytelglbebffdaaaa.X
namespace Go.Proofs.Ytelglbebffdaaaa.X
open Go.RowKit Go.Proofs.YtelglbebffdaaaaW.PrintWords Go.Proofs.YtelglbebffdaaaaW.PrintLast Go.Proofs.YtelglbebffdaaaaW.PrintMore
attribute [local go_sem] max2_int min2_int max_two min_two max_three min_three max_four min_four   -- for this text's walks alone
set_option linter.unusedVariables false
set_option linter.unusedSimpArgs false
def spec_l8Three.f (k : Nat) (l0 : List (S53)) (l1 : List (S53)) (l2_0 : List Int) (l2_1 : List Int) (l2_2 : List Int) : Option (Bool):=(spec_TreeOk.f k l0).bind fun t122 => (if t122 = true then ((spec_TreeOk.f k l1).bind fun t123 => (if t123 = true then ((spec_CostOk.f k l2_0 l2_1 l2_2).bind fun t124 => (some t124)) else (some false))) else (some false))
theorem spec_l8Three.mono : ∀ a0 a1 a2 a3 a4 k,LeO (spec_l8Three.f k a0 a1 a2 a3 a4) (spec_l8Three.f (k + 1) a0 a1 a2 a3 a4):=by
 intro a0 a1 a2 a3 a4 k
 unfold spec_l8Three.f
 repeat' first
   | (with_reducible exact spec_CostOk.mono _ _ _ _)
   | (with_reducible exact spec_TreeOk.mono _ _)
   | (with_reducible exact LeO.refl _)
   | (with_reducible exact LeO.none _)
   | (with_reducible refine LeO.ite ?_ ?_)
   | (with_reducible refine LeO.bind ?_ (fun _ => ?_))
   | exact spec_CostOk.mono _ _ _ _
   | exact spec_TreeOk.mono _ _
   | exact LeO.none _
   | refine LeO.ite ?_ ?_
   | refine LeO.bind ?_ (fun _ => ?_)
set_option maxHeartbeats 8000000 in
set_option maxRecDepth 100000 in
theorem spec_l8Three.calls (k : Nat) (A0 : Option Addr) (c0 : Nat) (l0 : List (S53)) (A1 : Option Addr) (c1 : Nat) (l1 : List (S53)) (A2_0 : Option Addr) (c2_0 : Nat) (l2_0 : List Int) (A2_1 : Option Addr) (c2_1 : Nat) (l2_1 : List Int) (A2_2 : Option Addr) (c2_2 : Nat) (l2_2 : List Int) (r : Bool) (w : World) (hr0 : Kd.C k53 w A0 l0.length l0) (hc0 : l0.length ≤ c0) (hr1 : Kd.C k53 w A1 l1.length l1) (hc1 : l1.length ≤ c1) (hr2_0 : Kd.C (Kd.int .i64) w A2_0 l2_0.length l2_0) (hc2_0 : l2_0.length ≤ c2_0) (hr2_1 : Kd.C (Kd.int .i64) w A2_1 l2_1.length l2_1) (hc2_1 : l2_1.length ≤ c2_1) (hr2_2 : Kd.C (Kd.int .i64) w A2_2 l2_2.length l2_2) (hc2_2 : l2_2.length ≤ c2_2) (h : spec_l8Three.f k l0 l1 l2_0 l2_1 l2_2 = some r) :
  Calls Try.prog 51 #[.slice A0 l0.length c0,.slice A1 l1.length c1,.agg #[.slice A2_0 l2_0.length c2_0,.slice A2_1 l2_1.length c2_1,.slice A2_2 l2_2.length c2_2]] w fun e w' => e = .returned (.bool r) ∧ Below w.heap.size w w':=by
 have hu31:=Try.underlying31
 have HR0:=Aside0.mk hr0
 have HC0:=Aside0.mk hc0
 clear hr0 hc0
 have HR1:=Aside0.mk hr1
 have HC1:=Aside0.mk hc1
 clear hr1 hc1
 have HR2_0:=Aside0.mk hr2_0
 have HC2_0:=Aside0.mk hc2_0
 clear hr2_0 hc2_0
 have HR2_1:=Aside0.mk hr2_1
 have HC2_1:=Aside0.mk hc2_1
 clear hr2_1 hc2_1
 have HR2_2:=Aside0.mk hr2_2
 have HC2_2:=Aside0.mk hc2_2
 clear hr2_2 hc2_2
 have HB:=Aside0.mk (Below.refl w.heap.size w)
 have H : ((spec_TreeOk.f k l0).bind fun t122 => (if t122 = true then ((spec_TreeOk.f k l1).bind fun t123 => (if t123 = true then ((spec_CostOk.f k l2_0 l2_1 l2_2).bind fun t124 => (some t124)) else (some false))) else (some false))) = some r:=h
 clear h
 replace H:=Option.bind_eq_some_iff.mp H
 obtain ⟨t122,A40,H⟩:=H
 try dsimp only at H
 have A4:=Aside0.mk A40
 clear A40
 by_cases c5 : t122 = true
 ·subst c5
  have H1 : ((spec_TreeOk.f k l1).bind fun t123 => (if t123 = true then ((spec_CostOk.f k l2_0 l2_1 l2_2).bind fun t124 => (some t124)) else (some false))) = some r:=by rw [if_pos rfl] at H;exact H
  clear H
  have H:=H1
  clear H1
  replace H:=Option.bind_eq_some_iff.mp H
  obtain ⟨t123,A60,H⟩:=H
  try dsimp only at H
  have A6:=Aside0.mk A60
  clear A60
  by_cases c7 : t123 = true
  ·subst c7
   have H1 : ((spec_CostOk.f k l2_0 l2_1 l2_2).bind fun t124 => (some t124)) = some r:=by rw [if_pos rfl] at H;exact H
   clear H
   have H:=H1
   clear H1
   replace H:=Option.bind_eq_some_iff.mp H
   obtain ⟨t124,A80,H⟩:=H
   replace H : (some t124) = some r:=H
   have A8:=Aside0.mk A80
   clear A80
   obtain rfl:=Option.some.inj H
   go_enter Try.func51,Try.ntmps51
   go_wp2_with (first | ((with_reducible refine gate_dst (N:=5) rfl ?_);refine bx_ 5 #[.slice A2_0 l2_0.length c2_0,.slice A2_1 l2_1.length c2_1,.slice A2_2 l2_2.length c2_2] 31 ?_;intro gb121 hg w9 hbox hb;have BK121:=Aside0.mk (hbox);have GW121:=Aside0.mk ((by rw [hg];exact (bs_ HB) : w.heap.size ≤ gb121));have GE121:=Aside0.mk ((by rw [hg];exact (bs_ HB) : w.heap.size ≤ gb121));replace HB:=tB_ HB hb;clear hb hbox hg) | ((with_reducible refine gate_callee (f:=45) rfl ?_);refine gL_ (some 8) Try.func45 #[.slice A0 l0.length c0] ?_;(with_reducible refine (spec_TreeOk.calls k _ _ l0 true _ (cx_ HR0 HB) HC0.out A4.out).mono ?_);rintro e w10 ⟨rfl,hb⟩;refine ⟨_,rfl,?_⟩;replace BK121:=tK_ BK121 hb;replace HB:=tB_ HB hb;(try clear hb)) | (go_at_call 45;(with_reducible refine (spec_TreeOk.calls k _ _ l1 true _ (cx_ HR1 HB) HC1.out A6.out).mono ?_);rintro e w11 ⟨rfl,hb⟩;replace BK121:=tK_ BK121 hb;replace HB:=tB_ HB hb;(try clear hb);obtain ⟨hcz12_0,hcz12_1,hcz12_2,hfz12_0,hfz12_1,hfz12_2⟩:=bk3_ BK121) | (go_at_call 46;(with_reducible refine (spec_CostOk.calls k _ _ l2_0 _ _ l2_1 _ _ l2_2 t124 _ (cx_ HR2_0 HB) HC2_0.out (cx_ HR2_1 HB) HC2_1.out (cx_ HR2_2 HB) HC2_2.out A8.out).mono ?_);rintro e w13 ⟨rfl,hb⟩;replace BK121:=tK_ BK121 hb;replace HB:=tB_ HB hb;(try clear hb)))
   go_ret
   exact ⟨ea_,(bl_ HB).out⟩
  ·replace c7:=Bool.eq_false_iff.mpr c7
   subst c7
   have H1 : (some false) = some r:=by rw [if_neg (show ¬ (false = true) by decide)] at H;exact H
   clear H
   have H:=H1
   clear H1
   obtain rfl:=Option.some.inj H
   go_enter Try.func51,Try.ntmps51
   go_wp2_with (first | ((with_reducible refine gate_dst (N:=5) rfl ?_);refine bx_ 5 #[.slice A2_0 l2_0.length c2_0,.slice A2_1 l2_1.length c2_1,.slice A2_2 l2_2.length c2_2] 31 ?_;intro gb121 hg w14 hbox hb;have BK121:=Aside0.mk (hbox);have GW121:=Aside0.mk ((by rw [hg];exact (bs_ HB) : w.heap.size ≤ gb121));have GE121:=Aside0.mk ((by rw [hg];exact (bs_ HB) : w.heap.size ≤ gb121));replace HB:=tB_ HB hb;clear hb hbox hg) | ((with_reducible refine gate_callee (f:=45) rfl ?_);refine gL_ (some 8) Try.func45 #[.slice A0 l0.length c0] ?_;(with_reducible refine (spec_TreeOk.calls k _ _ l0 true _ (cx_ HR0 HB) HC0.out A4.out).mono ?_);rintro e w15 ⟨rfl,hb⟩;refine ⟨_,rfl,?_⟩;replace BK121:=tK_ BK121 hb;replace HB:=tB_ HB hb;(try clear hb)) | (go_at_call 45;(with_reducible refine (spec_TreeOk.calls k _ _ l1 false _ (cx_ HR1 HB) HC1.out A6.out).mono ?_);rintro e w16 ⟨rfl,hb⟩;replace BK121:=tK_ BK121 hb;replace HB:=tB_ HB hb;(try clear hb)))
   go_ret
   exact ⟨ea_,(bl_ HB).out⟩
 ·replace c5:=Bool.eq_false_iff.mpr c5
  subst c5
  have H1 : (some false) = some r:=by rw [if_neg (show ¬ (false = true) by decide)] at H;exact H
  clear H
  have H:=H1
  clear H1
  obtain rfl:=Option.some.inj H
  go_enter Try.func51,Try.ntmps51
  go_wp2_with (first | ((with_reducible refine gate_dst (N:=5) rfl ?_);refine bx_ 5 #[.slice A2_0 l2_0.length c2_0,.slice A2_1 l2_1.length c2_1,.slice A2_2 l2_2.length c2_2] 31 ?_;intro gb121 hg w17 hbox hb;have BK121:=Aside0.mk (hbox);have GW121:=Aside0.mk ((by rw [hg];exact (bs_ HB) : w.heap.size ≤ gb121));have GE121:=Aside0.mk ((by rw [hg];exact (bs_ HB) : w.heap.size ≤ gb121));replace HB:=tB_ HB hb;clear hb hbox hg) | ((with_reducible refine gate_callee (f:=45) rfl ?_);refine gL_ (some 8) Try.func45 #[.slice A0 l0.length c0] ?_;(with_reducible refine (spec_TreeOk.calls k _ _ l0 false _ (cx_ HR0 HB) HC0.out A4.out).mono ?_);rintro e w18 ⟨rfl,hb⟩;refine ⟨_,rfl,?_⟩;replace BK121:=tK_ BK121 hb;replace HB:=tB_ HB hb;(try clear hb)))
  go_ret
  exact ⟨ea_,(bl_ HB).out⟩
end Go.Proofs.Ytelglbebffdaaaa.X
namespace Go.Proofs.Ytelglbebffdaaaa.X
open Go.RowKit Go.Proofs.YtelglbebffdaaaaW.PrintWords Go.Proofs.YtelglbebffdaaaaW.PrintLast Go.Proofs.YtelglbebffdaaaaW.PrintMore
attribute [local go_sem] max2_int min2_int max_two min_two max_three min_three max_four min_four   -- for this text's walks alone
set_option linter.unusedVariables false
set_option linter.unusedSimpArgs false
def laws_heldIntS.l0 : Nat → List Int → Int → Int → Option (Int)
 | 0,_,_,_ => none
 | k + 1,x0,x1,x5 => if x5 < (x0.length : Int) then (if 0 ≤ x5 then (if (rd x0 x5) = x1 then (laws_heldIntS.l0 k x0 (wrap64 (x1 + 1)) (wrap64 (x5 + 1))) else (some (-1))) else (none)) else (some x1)
def laws_heldIntS.f (k : Nat) (l0 : List Int) (a1 : Int) : Option (Int):=laws_heldIntS.l0 k l0 a1 0
end Go.Proofs.Ytelglbebffdaaaa.X
