/- Part 4 of the proof of FnExactPutScript: what it needs. -/
import Derived.Test.YtmipigipfmcneaaKEPutScript3
namespace Go.Proofs.Ytmipigipfmcneaa.X
open Go.RowKit Go.Proofs.YtmipigipfmcneaaW.PrintWords Go.Proofs.YtmipigipfmcneaaW.PrintLast Go.Proofs.YtmipigipfmcneaaW.PrintMore
attribute [local go_sem] max2_int min2_int max_two min_two max_three min_three max_four min_four   -- for this text's walks alone
set_option linter.unusedVariables false
set_option linter.unusedSimpArgs false
def impl_within.f (a0 : Int) (a1 : Int) (a2 : Int) : Option (Bool) := if a1 ≤ a0 then (some (decide (a0 ≤ a2))) else (some false)
set_option maxHeartbeats 8000000 in
set_option maxRecDepth 100000 in
theorem impl_within.calls (a0 : Int) (a1 : Int) (a2 : Int) (r : Bool) (w : World) (h : impl_within.f a0 a1 a2 = some r) :
    Calls Try.prog 67 #[.int .i64 a0, .int .i64 a1, .int .i64 a2] w fun e w' => e = .returned (.bool r) ∧ Drawn0 w w' := by
  have H : (if a1 ≤ a0 then (some (decide (a0 ≤ a2))) else (some false)) = some r := h
  clear h
  by_cases c4 : a1 ≤ a0
  · rw [if_pos c4] at H
    have c4b0 : decide (a1 ≤ a0) = true := decide_eq_true c4
    clear c4
    obtain rfl := Option.some.inj H
    go_enter Try.func67, Try.ntmps67
    go_wp2
    go_ret
    exact ⟨by first | rfl | (simp; done) | (simp [*]; done), by repeat (first | exact Drawn0.refl _ | apply Drawn0.step)⟩
  · rw [if_neg c4] at H
    have c4b0 : decide (a1 ≤ a0) = false := decide_eq_false c4
    clear c4
    obtain rfl := Option.some.inj H
    go_enter Try.func67, Try.ntmps67
    go_wp2
    go_ret
    exact ⟨by first | rfl | (simp; done) | (simp [*]; done), by repeat (first | exact Drawn0.refl _ | apply Drawn0.step)⟩
end Go.Proofs.Ytmipigipfmcneaa.X
namespace Go.Proofs.Ytmipigipfmcneaa.X
open Go.RowKit Go.Proofs.YtmipigipfmcneaaW.PrintWords Go.Proofs.YtmipigipfmcneaaW.PrintLast Go.Proofs.YtmipigipfmcneaaW.PrintMore
attribute [local go_sem] max2_int min2_int max_two min_two max_three min_three max_four min_four   -- for this text's walks alone
set_option linter.unusedVariables false
set_option linter.unusedSimpArgs false
def impl_Var.l0 : Nat → Int → List Int → Option (ByteArray)
  | 0, _, _ => none
  | k + 1, x0, x3 => if x0 > 127 then (if x3.length < 140737488355328 then (impl_Var.l0 k (x0 / 128) (x3 ++ [Go.bits .or .u8 ((Go.bits .and .i64 x0 127) % 256) 128])) else (none)) else (if x3.length < 140737488355328 then (some (strOfNums (x3 ++ [(x0) % 256]))) else (none))
def impl_Var.f (k : Nat) (a0 : Int) : Option (ByteArray) := (impl_within.f a0 0 562949953421311).bind fun t575 => (if t575 = true then (impl_Var.l0 k a0 (([] : List Int))) else (some (⟨#[]⟩ : ByteArray)))
set_option maxHeartbeats 8000000 in
set_option maxRecDepth 100000 in
theorem impl_Var.calls (k : Nat) (a0 : Int) (r : ByteArray) (w : World) (h : impl_Var.f k a0 = some r) :
    Calls Try.prog 87 #[.int .i64 a0] w fun e w' => e = .returned (.string r) ∧ Below w.heap.size w w' := by
  have HB := Aside0.mk (Below.refl w.heap.size w)
  have H : ((impl_within.f a0 0 562949953421311).bind fun t575 => (if t575 = true then (impl_Var.l0 k a0 (([] : List Int))) else (some (⟨#[]⟩ : ByteArray)))) = some r := h
  clear h
  replace H := Option.bind_eq_some_iff.mp H
  obtain ⟨t575, A20, H⟩ := H
  replace H : (if t575 = true then (impl_Var.l0 k a0 (([] : List Int))) else (some (⟨#[]⟩ : ByteArray))) = some r := H
  have A2 := Aside0.mk A20
  clear A20
  by_cases c3 : t575 = true
  · subst c3
    have H1 : (impl_Var.l0 k a0 (([] : List Int))) = some r := by rw [if_pos rfl] at H; exact H
    clear H
    have H := H1
    clear H1
    obtain ⟨y576, hy576⟩ : ∃ y_ : List Int, y_ = (([] : List Int)) := ⟨_, rfl⟩
    replace H : (impl_Var.l0 k a0 y576) = some r := by first | (rw [hy576]; with_reducible exact H) | (have H2_ := (Option.bind_some _ _).symm.trans H; rw [hy576]; with_reducible exact H2_) | (have H2_ := (Option.bind_some _ _).symm.trans H; with_reducible exact H2_) | with_reducible exact H | (rw [hy576]; exact H) | exact H
    have Ny576 := Aside0.mk hy576
    clear hy576
    have H' := Aside0.mk H
    clear H
    go_enter Try.func87, Try.ntmps87
    go_wp2_with (first | ((with_reducible refine gate_callee (f := 67) rfl ?_); refine goesL_ (some 5) rfl rfl Try.func67 (by kernel_rfl) rfl #[.int .i64 a0, .int .i64 0, .int .i64 562949953421311] rfl (by (try simp only [List.map_toArray, List.map_cons, List.map_nil]); first | done | rfl | (simp only [List.length_drop, List.length_take]; rfl)) ?_; (with_reducible refine (impl_within.calls a0 0 562949953421311 true _ A2.out).mono ?_); rintro e w' ⟨rfl, ⟨nd, rfl⟩⟩; refine ⟨_, rfl, ?_⟩) | ((with_reducible refine gate_dst (N := 7) rfl ?_); refine Kd.R_lit (Kd.int .u8) _ 5 ?hg (N := 7) ?hd (xs := ([] : List Int)) (inner := []) (ok := fun _ => True) (okp := fun _ => True) ?hr ?hp (fun _ hk => hk) trivial (Below.refl _ _) (Nat.le_refl _) (by simp) ?_; (case hd => rfl); (case hg => rfl); (case hr => first | (go_simp; done) | (go_simp; rfl)); (case hp => exact (Reps.none _ _)); intro v577 w4 ho5 hb hg_ hnew_; clear hg_ hnew_; (first | rw [← Ny576.out] at ho5 | (simp only [Int.reduceToNat] at ho5; rw [← Ny576.out] at ho5)); have n0_ := Aside0.mk (Kd.R_lower ho5 (below_size (by repeat (first | (with_reducible first | exact HB.out | apply below_alloc | apply pw_below_drewN | apply below_drew1) | exact HB.out)))); have n1_ := Aside0.mk (below_step (by repeat (first | (with_reducible first | exact HB.out | apply below_alloc | apply pw_below_drewN | apply below_drew1) | exact HB.out)) hb); clear HB; have HO578 := n0_; have HB := n1_; clear n0_ n1_; clear hb ho5))
    go_loopg [0, 3] k (fun kq v0 v3 w' => ∃ (x0_1 : Int) (x3_1 : List Int), v0 = .int .i64 x0_1 ∧ Aside0 (impl_Var.l0 kq x0_1 x3_1 = some r) ∧ Aside0 (kq ≤ k) ∧ Aside0 (Kd.R (Kd.int .u8) 5 w' w.heap.size (fun _ => True) v3 x3_1) ∧ Aside0 (Below w.heap.size w w'))
    case atStart => exact ⟨(a0), (y576), (by first | rfl | (simp; done) | (simp [*]; done)), H', ⟨Nat.le_refl _⟩, ⟨by (with_reducible repeat (first | apply Kd.R_alloc | apply Kd.R_drewN | apply Kd.R_drew)); exact HO578.out⟩, ⟨by repeat (first | (with_reducible first | exact HB.out | apply below_alloc | apply pw_below_drewN | apply below_drew1) | exact HB.out)⟩⟩
    case round =>
      clear H'
      try clear p2
      try clear c3
      obtain ⟨x0_1, x3_1, rfl, HA, HK1, HO_3, HB⟩ := hrel
      cases gk with
      | zero => exact absurd HA.out (by simp [impl_Var.l0])
      | succ k1 =>
        have H := HA.out
        clear HA
        simp only [impl_Var.l0] at H
        by_cases c6 : x0_1 > 127
        · rw [if_pos c6] at H
          have c6b0 : decide (127 < x0_1) = true := decide_eq_true c6
          clear c6
          by_cases c7 : x3_1.length < 140737488355328
          · rw [if_pos c7] at H
            have LMc7 := Aside0.mk c7
            clear c7
            obtain ⟨y579, hy579⟩ : ∃ y_ : List Int, y_ = (x3_1 ++ [Go.bits .or .u8 ((Go.bits .and .i64 x0_1 127) % 256) 128]) := ⟨_, rfl⟩
            replace H : (impl_Var.l0 k1 (x0_1 / 128) y579) = some r := by first | (rw [hy579]; with_reducible exact H) | (have H2_ := (Option.bind_some _ _).symm.trans H; rw [hy579]; with_reducible exact H2_) | (have H2_ := (Option.bind_some _ _).symm.trans H; with_reducible exact H2_) | with_reducible exact H | (rw [hy579]; exact H) | exact H
            have Ny579 := Aside0.mk hy579
            clear hy579
            have H' := Aside0.mk H
            clear H
            go_wp2_with (first | ((with_reducible refine gate_builtin (b := .append) (xs := #[.tmp 10, .tmp 15]) rfl ?_); at_builtin; refine Kd.R_append (Kd.int .u8) (w0 := w) w.heap.size rfl (.tmp 10) (.tmp 15) 111 5 (.int .u8 0) 1 rfl Try.underlying111 info5 rfl (by decide) (by omega) u3 x3_1 (Go.bits .or .u8 ((Go.bits .and .i64 x0_1 127) % 256) 128) [.int .u8 (Go.bits .or .u8 ((Go.bits .and .i64 x0_1 127) % 256) 128)] (fun _ => True) (fun _ => False) rfl rfl ?aP (fun _ hk => hk.elim) ?aF ?aO ?aB ?aS ?aL ?_; (case aP => exact rfl); (case aB => exact (by repeat (first | (with_reducible first | exact HB.out | apply below_alloc | apply pw_below_drewN | apply below_drew1) | exact HB.out))); (case aF => exact (fun _ _ => trivial)); (case aO => exact (by (with_reducible repeat (first | apply Kd.R_alloc | apply Kd.R_drewN | apply Kd.R_drew)); exact HO_3.out)); (case aS => exact (below_size (by repeat (first | (with_reducible first | exact HB.out | apply below_alloc | apply pw_below_drewN | apply below_drew1) | exact HB.out)))); (case aL => have := LMc7.out; omega); intro v580 w8 ho hb hg hat; rw [← Ny579.out] at ho; have n0_ := Aside0.mk (hb); have n1_ := Aside0.mk (ho); clear HB; clear HO_3; have HB := n0_; have HO581 := n1_; clear n0_ n1_; clear ho hb hg hat))
            go_roundg k1
            case measure => have := HK1.out; omega
            case rel => exact ⟨(x0_1 / 128), (y579), (by first | rfl | (simp; done) | (simp [*]; done)), H', ⟨by have := HK1.out; omega⟩, ⟨by (with_reducible repeat (first | apply Kd.R_alloc | apply Kd.R_drewN | apply Kd.R_drew)); exact HO581.out⟩, ⟨by repeat (first | (with_reducible first | exact HB.out | apply below_alloc | apply pw_below_drewN | apply below_drew1) | exact HB.out)⟩⟩
          · rw [if_neg c7] at H
            exact absurd H (by simp)
        · rw [if_neg c6] at H
          have c6b0 : decide (127 < x0_1) = false := decide_eq_false c6
          clear c6
          by_cases c9 : x3_1.length < 140737488355328
          · rw [if_pos c9] at H
            have LMc9 := Aside0.mk c9
            clear c9
            obtain ⟨y582, hy582⟩ : ∃ y_ : List Int, y_ = (x3_1 ++ [(x0_1) % 256]) := ⟨_, rfl⟩
            replace H : (some (strOfNums y582)) = some r := by first | (rw [hy582]; with_reducible exact H) | (have H2_ := (Option.bind_some _ _).symm.trans H; rw [hy582]; with_reducible exact H2_) | (have H2_ := (Option.bind_some _ _).symm.trans H; with_reducible exact H2_) | with_reducible exact H | (rw [hy582]; exact H) | exact H
            have Ny582 := Aside0.mk hy582
            clear hy582
            obtain rfl := Option.some.inj H
            go_wp2_with (first | ((with_reducible refine gate_builtin (b := .append) (xs := #[.tmp 19, .tmp 22]) rfl ?_); at_builtin; refine Kd.R_append (Kd.int .u8) (w0 := w) w.heap.size rfl (.tmp 19) (.tmp 22) 111 5 (.int .u8 0) 1 rfl Try.underlying111 info5 rfl (by decide) (by omega) u3 x3_1 ((x0_1) % 256) [.int .u8 ((x0_1) % 256)] (fun _ => True) (fun _ => False) rfl rfl ?aP (fun _ hk => hk.elim) ?aF ?aO ?aB ?aS ?aL ?_; (case aP => exact rfl); (case aB => exact (by repeat (first | (with_reducible first | exact HB.out | apply below_alloc | apply pw_below_drewN | apply below_drew1) | exact HB.out))); (case aF => exact (fun _ _ => trivial)); (case aO => exact (by (with_reducible repeat (first | apply Kd.R_alloc | apply Kd.R_drewN | apply Kd.R_drew)); exact HO_3.out)); (case aS => exact (below_size (by repeat (first | (with_reducible first | exact HB.out | apply below_alloc | apply pw_below_drewN | apply below_drew1) | exact HB.out)))); (case aL => have := LMc9.out; omega); intro v583 w10 ho hb hg hat; rw [← Ny582.out] at ho; have n0_ := Aside0.mk (hb); have n1_ := Aside0.mk (ho); clear HB; clear HO_3; have HB := n0_; have HO584 := n1_; clear n0_ n1_; clear ho hb hg hat; have hcv11 := own_string (P := Try.prog) Try.underlying111 Try.underlying5 Try.underlying9 (Kd.own_of_R HO584.out)))
            go_ret
            exact ⟨by first | rfl | (simp [errW_none, errW_some] <;> rfl) | (simp [*, errW_none, errW_some] <;> rfl), by repeat (first | (with_reducible first | exact HB.out | apply below_alloc | apply pw_below_drewN | apply below_drew1) | exact HB.out)⟩
          · rw [if_neg c9] at H
            exact absurd H (by simp)
  · replace c3 := Bool.eq_false_iff.mpr c3
    subst c3
    have H1 : (some (⟨#[]⟩ : ByteArray)) = some r := by rw [if_neg (show ¬ (false = true) by decide)] at H; exact H
    clear H
    have H := H1
    clear H1
    obtain rfl := Option.some.inj H
    go_enter Try.func87, Try.ntmps87
    go_wp2_with (first | ((with_reducible refine gate_callee (f := 67) rfl ?_); refine goesL_ (some 5) rfl rfl Try.func67 (by kernel_rfl) rfl #[.int .i64 a0, .int .i64 0, .int .i64 562949953421311] rfl (by (try simp only [List.map_toArray, List.map_cons, List.map_nil]); first | done | rfl | (simp only [List.length_drop, List.length_take]; rfl)) ?_; (with_reducible refine (impl_within.calls a0 0 562949953421311 false _ A2.out).mono ?_); rintro e w' ⟨rfl, ⟨nd, rfl⟩⟩; refine ⟨_, rfl, ?_⟩))
    go_ret
    exact ⟨by first | rfl | (simp [errW_none, errW_some] <;> rfl) | (simp [*, errW_none, errW_some] <;> rfl), by repeat (first | (with_reducible first | exact HB.out | apply below_alloc | apply pw_below_drewN | apply below_drew1) | exact HB.out)⟩
end Go.Proofs.Ytmipigipfmcneaa.X
namespace Go.Proofs.Ytmipigipfmcneaa.X
open Go.RowKit Go.Proofs.YtmipigipfmcneaaW.PrintWords Go.Proofs.YtmipigipfmcneaaW.PrintLast Go.Proofs.YtmipigipfmcneaaW.PrintMore
set_option linter.unusedVariables false
set_option linter.unusedSimpArgs false
def PredB {α : Type} (P : Program) (g : Nat) (lb : Array Value) (enc : α → Value) (p : α → Bool) (w : World) : Prop :=
  ∀ (W : World), Below w.heap.size w W → ∀ x, Calls P g (#[enc x] ++ lb) W fun e w' => e = .returned (.bool (p x)) ∧ Below W.heap.size W w'
set_option maxHeartbeats 2000000 in
theorem indexFunc_int (g : Nat) (lb : Array Value) (p : Int → Bool) (eg : ∀ args w, (callFunc g args).run Try.prog w = .ok (.enter g args) w)
    (A0 : Option Addr) (c0 : Nat) (l0 : List Int) (w : World) (hp : PredB Try.prog g lb (Value.int .i64) p w) (hr0 : Kd.C (Kd.int .i64) w A0 l0.length l0) (hc0 : l0.length ≤ c0) :
    Calls Try.prog 113 #[.slice A0 l0.length c0, .func (.func g) #[] lb] w fun e w' => ∃ n : Int, e = .returned (.int .i64 n) ∧ Aside0 (decide (0 ≤ n) = l0.any p) ∧ Below w.heap.size w w' := by
  have HR0 := Aside0.mk hr0
  have HP := Aside0.mk hp
  have hm := hr0.2.1
  clear hr0 hc0 hp
  go_enter Try.func113, Try.ntmps113
  go_wp2
  go_loopg [5, 8] l0.length (fun gg _ s8 wr => ∃ kk : Nat, kk ≤ l0.length ∧ l0.length - kk ≤ gg ∧ s8 = .int .i64 kk ∧ Aside0 ((l0.take kk).any p = false) ∧ Aside0 (Below w.heap.size w wr))
  case atStart => exact ⟨0, Nat.zero_le _, by omega, rfl, ⟨by simp⟩, ⟨Below.refl _ _⟩⟩
  case round =>
    obtain ⟨kk, hkk, hg, rfl, AN, HB⟩ := hrel
    by_cases hlt : kk < l0.length
    · have hcl := HP.out wr HB.out (rd l0 kk)
      have HC := Aside0.mk hcl
      clear hcl
      obtain ⟨ad, e, hx⟩ := Kd.at_int (Kd.C_below HR0.out HB.out) kk (by omega) (by omega)
      cases e
      have hany : (l0.take (kk + 1)).any p = ((l0.take kk).any p || p (rd l0 kk)) := by
        rw [List.take_succ_eq_append_getElem hlt, List.any_append]
        simp [rd, List.getD_eq_getElem?_getD, List.getElem?_eq_getElem hlt]
      have HN := Aside0.mk hany
      clear hany
      have hltz : (kk : Int) < (l0.length : Int) := by omega
      rw [Int.toNat_natCast] at hx
      cases hq : p (rd l0 kk) with
      | true =>
        have HQ := Aside0.mk hq
        clear hq
        go_wp2_with fail
        refine HC.out.mono ?_
        rintro e w' ⟨rfl, hb⟩
        have HBB := Aside0.mk (HB.out.trans (hb.mono (below_size HB.out)))
        clear hb
        rw [HQ.out]
        go_wp2
        go_ret
        refine ⟨_, rfl, ⟨?_⟩, HBB.out⟩
        have h1 := HN.out
        rw [HQ.out, Bool.or_true] at h1
        rw [← List.take_append_drop (kk + 1) l0, List.any_append, h1]
        simp
      | false =>
        have HQ := Aside0.mk hq
        clear hq
        go_wp2_with fail
        refine HC.out.mono ?_
        rintro e w' ⟨rfl, hb⟩
        have HBB := Aside0.mk (HB.out.trans (hb.mono (below_size HB.out)))
        clear hb
        rw [HQ.out]
        go_wp2
        go_roundg (l0.length - (kk + 1))
        case measure => omega
        case rel => exact ⟨kk + 1, by omega, by omega, by go_num, ⟨by rw [HN.out, AN.out, HQ.out]; rfl⟩, HBB⟩
    · have hltz : ¬ (kk : Int) < (l0.length : Int) := by omega
      have e : kk = l0.length := by omega
      have AN2 : Aside0 (l0.any p = false) := ⟨by have := AN.out; rw [e, List.take_length] at this; exact this⟩
      clear AN e
      go_wp2
      go_ret
      exact ⟨-1, rfl, ⟨by rw [AN2.out]; decide⟩, HB.out⟩
set_option maxHeartbeats 2000000 in
theorem containsFunc_int (g : Nat) (lb : Array Value) (p : Int → Bool) (eg : ∀ args w, (callFunc g args).run Try.prog w = .ok (.enter g args) w)
    (A0 : Option Addr) (c0 : Nat) (l0 : List Int) (w : World) (hp : PredB Try.prog g lb (Value.int .i64) p w) (hr0 : Kd.C (Kd.int .i64) w A0 l0.length l0) (hc0 : l0.length ≤ c0) :
    Calls Try.prog 102 #[.slice A0 l0.length c0, .func (.func g) #[] lb] w fun e w' => e = .returned (.bool (l0.any p)) ∧ Below w.heap.size w w' := by
  have HX := Aside0.mk (indexFunc_int g lb p eg A0 c0 l0 w hp hr0 hc0)
  clear hr0 hc0 hp
  go_enter Try.func102, Try.ntmps102
  go_wp2_with (go_at_call 113; refine HX.out.mono ?_; rintro e w' ⟨n, rfl, hn, HB⟩)
  go_ret
  exact ⟨by rw [← hn.out]; rfl, HB⟩
end Go.Proofs.Ytmipigipfmcneaa.X
namespace Go.Proofs.Ytmipigipfmcneaa.X
open Go.RowKit Go.Proofs.YtmipigipfmcneaaW.PrintWords Go.Proofs.YtmipigipfmcneaaW.PrintLast Go.Proofs.YtmipigipfmcneaaW.PrintMore
set_option linter.unusedVariables false
set_option linter.unusedSimpArgs false
def PredOp (P : Program) (g : Nat) (lb : Array Value) (p : S68 → Bool) (w : World) : Prop :=
  ∀ (W : World), Below w.heap.size w W → ∀ (x : S68) (A1 : Option Addr) (c1 : Nat), x.f1.length ≤ c1 → Kd.C (Kd.int .i64) W A1 x.f1.length x.f1 →
    Calls P g (#[.agg #[.int .i64 x.f0, .slice A1 x.f1.length c1, .int .i64 x.f2, .int .i64 x.f3, .int .i64 x.f4]] ++ lb) W fun e w' => e = .returned (.bool (p x)) ∧ Below W.heap.size W w'
set_option maxHeartbeats 2000000 in
theorem indexFunc_op (g : Nat) (lb : Array Value) (p : S68 → Bool) (eg : ∀ args w, (callFunc g args).run Try.prog w = .ok (.enter g args) w)
    (A0 : Option Addr) (c0 : Nat) (l0 : List S68) (w : World) (hp : PredOp Try.prog g lb p w) (hr0 : Kd.C k68 w A0 l0.length l0) (hc0 : l0.length ≤ c0) :
    Calls Try.prog 101 #[.slice A0 l0.length c0, .func (.func g) #[] lb] w fun e w' => ∃ n : Int, e = .returned (.int .i64 n) ∧ Aside0 (decide (0 ≤ n) = l0.any p) ∧ Below w.heap.size w w' := by
  have HR0 := Aside0.mk hr0
  have HP := Aside0.mk hp
  have hm := hr0.2.1
  have hu := Try.underlying68
  clear hr0 hc0 hp
  go_enter Try.func101, Try.ntmps101
  go_wp2
  go_loopg [5, 8] l0.length (fun gg _ s8 wr => ∃ kk : Nat, kk ≤ l0.length ∧ l0.length - kk ≤ gg ∧ s8 = .int .i64 kk ∧ Aside0 ((l0.take kk).any p = false) ∧ Aside0 (Below w.heap.size w wr))
  case atStart => exact ⟨0, Nat.zero_le _, by omega, rfl, ⟨by simp⟩, ⟨Below.refl _ _⟩⟩
  case round =>
    obtain ⟨kk, hkk, hg, rfl, AN, HB⟩ := hrel
    by_cases hlt : kk < l0.length
    · obtain ⟨ad, A1, c1, e, hx, hx1, hx2, hx3, hx4, hl1, hC1⟩ := at_T68 (Kd.C_below HR0.out HB.out) kk (by omega) (by omega)
      have hcl := HP.out wr HB.out (rd_T68 l0 kk) A1 c1 hl1 hC1
      clear hl1 hC1
      have HC := Aside0.mk hcl
      clear hcl
      cases e
      have hany : (l0.take (kk + 1)).any p = ((l0.take kk).any p || p (rd_T68 l0 kk)) := by
        rw [List.take_succ_eq_append_getElem hlt, List.any_append]
        simp [rd_T68, List.getD_eq_getElem?_getD, List.getElem?_eq_getElem hlt]
      have HN := Aside0.mk hany
      clear hany
      have hltz : (kk : Int) < (l0.length : Int) := by omega
      rw [Int.toNat_natCast] at hx hx1 hx2 hx3 hx4
      cases hq : p (rd_T68 l0 kk) with
      | true =>
        have HQ := Aside0.mk hq
        clear hq
        go_wp2_with fail
        refine HC.out.mono ?_
        rintro e w' ⟨rfl, hb⟩
        have HBB := Aside0.mk (HB.out.trans (hb.mono (below_size HB.out)))
        clear hb
        rw [HQ.out]
        go_wp2
        go_ret
        refine ⟨_, rfl, ⟨?_⟩, HBB.out⟩
        have h1 := HN.out
        rw [HQ.out, Bool.or_true] at h1
        rw [← List.take_append_drop (kk + 1) l0, List.any_append, h1]
        simp
      | false =>
        have HQ := Aside0.mk hq
        clear hq
        go_wp2_with fail
        refine HC.out.mono ?_
        rintro e w' ⟨rfl, hb⟩
        have HBB := Aside0.mk (HB.out.trans (hb.mono (below_size HB.out)))
        clear hb
        rw [HQ.out]
        go_wp2
        go_roundg (l0.length - (kk + 1))
        case measure => omega
        case rel => exact ⟨kk + 1, by omega, by omega, by go_num, ⟨by rw [HN.out, AN.out, HQ.out]; rfl⟩, HBB⟩
    · have hltz : ¬ (kk : Int) < (l0.length : Int) := by omega
      have e : kk = l0.length := by omega
      have AN2 : Aside0 (l0.any p = false) := ⟨by have := AN.out; rw [e, List.take_length] at this; exact this⟩
      clear AN e
      go_wp2
      go_ret
      exact ⟨-1, rfl, ⟨by rw [AN2.out]; decide⟩, HB.out⟩
set_option maxHeartbeats 2000000 in
theorem containsFunc_op (g : Nat) (lb : Array Value) (p : S68 → Bool) (eg : ∀ args w, (callFunc g args).run Try.prog w = .ok (.enter g args) w)
    (A0 : Option Addr) (c0 : Nat) (l0 : List S68) (w : World) (hp : PredOp Try.prog g lb p w) (hr0 : Kd.C k68 w A0 l0.length l0) (hc0 : l0.length ≤ c0) :
    Calls Try.prog 57 #[.slice A0 l0.length c0, .func (.func g) #[] lb] w fun e w' => e = .returned (.bool (l0.any p)) ∧ Below w.heap.size w w' := by
  have HX := Aside0.mk (indexFunc_op g lb p eg A0 c0 l0 w hp hr0 hc0)
  clear hr0 hc0 hp
  go_enter Try.func57, Try.ntmps57
  go_wp2_with (go_at_call 101; refine HX.out.mono ?_; rintro e w' ⟨n, rfl, hn, HB⟩)
  go_ret
  exact ⟨by rw [← hn.out]; rfl, HB⟩
end Go.Proofs.Ytmipigipfmcneaa.X
namespace Go.Proofs.Ytmipigipfmcneaa.X
open Go.RowKit Go.Proofs.YtmipigipfmcneaaW.PrintWords Go.Proofs.YtmipigipfmcneaaW.PrintLast Go.Proofs.YtmipigipfmcneaaW.PrintMore
set_option linter.unusedVariables false
set_option linter.unusedSimpArgs false
def outP (hi : Int) (x : Int) : Bool := !(decide (0 ≤ x ∧ x ≤ hi))
theorem within_out (x hi : Int) : impl_within.f x 0 hi = some (!outP hi x) := by
  unfold impl_within.f outP
  by_cases h : 0 ≤ x
  · rw [if_pos h]; simp [h]
  · rw [if_neg h]; simp [h]
end Go.Proofs.Ytmipigipfmcneaa.X
namespace Go.Proofs.Ytmipigipfmcneaa.X
open Go.RowKit Go.Proofs.YtmipigipfmcneaaW.PrintWords Go.Proofs.YtmipigipfmcneaaW.PrintLast Go.Proofs.YtmipigipfmcneaaW.PrintMore
attribute [local go_sem] max2_int min2_int max_two min_two max_three min_three max_four min_four   -- for this text's walks alone
set_option linter.unusedVariables false
set_option linter.unusedSimpArgs false
def impl_LabelOk.f (a0 : Int) : Option (Bool) := (impl_within.f a0 0 5).bind fun t201 => (some t201)
set_option maxHeartbeats 8000000 in
set_option maxRecDepth 100000 in
theorem impl_LabelOk.calls (a0 : Int) (r : Bool) (w : World) (h : impl_LabelOk.f a0 = some r) :
    Calls Try.prog 104 #[.int .i64 a0] w fun e w' => e = .returned (.bool r) ∧ Drawn0 w w' := by
  have H : ((impl_within.f a0 0 5).bind fun t201 => (some t201)) = some r := h
  clear h
  replace H := Option.bind_eq_some_iff.mp H
  obtain ⟨t201, A20, H⟩ := H
  replace H : (some t201) = some r := H
  have A2 := Aside0.mk A20
  clear A20
  obtain rfl := Option.some.inj H
  go_enter Try.func104, Try.ntmps104
  go_wp2_with (first | ((with_reducible refine gate_callee (f := 67) rfl ?_); refine goesL_ (some 4) rfl rfl Try.func67 (by kernel_rfl) rfl #[.int .i64 a0, .int .i64 0, .int .i64 5] rfl (by (try simp only [List.map_toArray, List.map_cons, List.map_nil]); first | done | rfl | (simp only [List.length_drop, List.length_take]; rfl)) ?_; (with_reducible refine (impl_within.calls a0 0 5 t201 _ A2.out).mono ?_); rintro e w' ⟨rfl, ⟨nd, rfl⟩⟩; refine ⟨_, rfl, ?_⟩))
  go_ret
  exact ⟨by first | rfl | (simp; done) | (simp [*]; done), by repeat (first | exact Drawn0.refl _ | apply Drawn0.step)⟩
end Go.Proofs.Ytmipigipfmcneaa.X
namespace Go.Proofs.Ytmipigipfmcneaa.X
open Go.RowKit Go.Proofs.YtmipigipfmcneaaW.PrintWords Go.Proofs.YtmipigipfmcneaaW.PrintLast Go.Proofs.YtmipigipfmcneaaW.PrintMore
set_option linter.unusedVariables false
set_option linter.unusedSimpArgs false
theorem opOkLit (x : Int) (W : World) : Calls Try.prog 103 #[.int .i64 x] W fun e w' => e = .returned (.bool (outP 24 x)) ∧ Below W.heap.size W w' := by
  have H := Aside0.mk (impl_within.calls x 0 24 _ W (within_out x 24))
  generalize hb : outP 24 x = b at H
  clear hb
  go_enter Try.func103, Try.ntmps103
  go_wp2_with (go_at_call 67; refine H.out.mono ?_; rintro e w' ⟨rfl, ⟨n, rfl⟩⟩)
  go_ret
  exact ⟨by simp, pw_below_drewN (Below.refl _ _) _⟩
def inP (hi x : Int) : Bool := decide (0 ≤ x ∧ x ≤ hi)
theorem within_in (x hi : Int) : impl_within.f x 0 hi = some (inP hi x) := by
  unfold impl_within.f inP
  by_cases h : 0 ≤ x
  · rw [if_pos h]; simp [h]
  · rw [if_neg h]; simp [h]
theorem labelOk_in (x : Int) : impl_LabelOk.f x = some (inP 5 x) := by
  unfold impl_LabelOk.f
  rw [within_in]; rfl
def opTail (kind label from_ count : Int) : Bool :=
  if kind = 1 then inP 5 label && (from_ == 0) && (count == 0) else if kind = 2 then (label == 0) && (from_ == 0) && (count == 0) else if kind = 3 then inP 5 label && inP 24 from_ && inP 24 count else false
def impl_OpOk.f (a0_0 : Int) (l0_1 : List Int) (a0_2 a0_3 a0_4 : Int) : Option Bool :=
  some (if (12 : Int) < l0_1.length then false else if l0_1.any (outP 24) = true then false else opTail a0_0 a0_2 a0_3 a0_4)
theorem opBox {W w1 : World} {o : Obj} (hb : Below (W.alloc o).heap.size (W.alloc o) w1) : (∀ j, w1.cell? ⟨W.heap.size, j, none⟩ = (W.alloc o).cell? ⟨W.heap.size, j, none⟩) ∧ (∀ j, w1.frozen? ⟨W.heap.size, j, none⟩ = (W.alloc o).frozen? ⟨W.heap.size, j, none⟩) :=
  ⟨fun j => hb.cell (p := ⟨W.heap.size, j, none⟩) (by simp), fun j => hb.frozen (p := ⟨W.heap.size, j, none⟩) (by simp)⟩
set_option maxHeartbeats 4000000 in
theorem impl_OpOk.calls (a0_0 : Int) (A0_1 : Option Addr) (c0_1 : Nat) (l0_1 : List Int) (a0_2 a0_3 a0_4 : Int) (r : Bool) (w : World) (hr0_1 : Kd.C (Kd.int .i64) w A0_1 l0_1.length l0_1) (hc0_1 : l0_1.length ≤ c0_1) (h : impl_OpOk.f a0_0 l0_1 a0_2 a0_3 a0_4 = some r) :
    Calls Try.prog 59 #[.agg #[.int .i64 a0_0, .slice A0_1 l0_1.length c0_1, .int .i64 a0_2, .int .i64 a0_3, .int .i64 a0_4]] w fun e w' => e = .returned (.bool r) ∧ Below w.heap.size w w' := by
  obtain rfl := Option.some.inj h
  clear h
  have HX : Aside0 (∀ W, Below w.heap.size w W → Calls Try.prog 102 #[.slice A0_1 l0_1.length c0_1, .func (.func 103) #[] #[]] W fun e w' => e = .returned (.bool (l0_1.any (outP 24))) ∧ Below W.heap.size W w') :=
    ⟨fun W hb => containsFunc_int 103 #[] (outP 24) (fun args w => enters_ Try.func103 (by kernel_rfl) rfl args w) A0_1 c0_1 l0_1 W (fun W' _ x => opOkLit x W') (Kd.C_below hr0_1 hb) hc0_1⟩
  have HL : Aside0 (∀ W, Calls Try.prog 104 #[.int .i64 a0_2] W fun e w' => e = .returned (.bool (inP 5 a0_2)) ∧ Drawn0 W w') := ⟨fun W => impl_LabelOk.calls a0_2 _ W (labelOk_in a0_2)⟩
  have HW : Aside0 (∀ (x : Int) W, Calls Try.prog 67 #[.int .i64 x, .int .i64 0, .int .i64 24] W fun e w' => e = .returned (.bool (inP 24 x)) ∧ Drawn0 W w') := ⟨fun x W => impl_within.calls x 0 24 _ W (within_in x 24)⟩
  clear hr0_1 hc0_1
  by_cases c1 : (12 : Int) < l0_1.length
  · rw [if_pos c1]
    have d1 : decide ((12 : Int) < (l0_1.length : Int)) = true := decide_eq_true c1
    have d2 : decide (12 < l0_1.length) = true := decide_eq_true (by omega)
    clear c1
    go_enter Try.func59, Try.ntmps59
    go_wp2
    go_ret
    exact ⟨rfl, (Below.refl _ _).alloc (Nat.le_refl _) _⟩
  · rw [if_neg c1]
    have d1 : decide ((12 : Int) < (l0_1.length : Int)) = false := decide_eq_false c1
    have d2 : decide (12 < l0_1.length) = false := decide_eq_false (by omega)
    clear c1
    cases hq : l0_1.any (outP 24) with
    | true =>
      have HX2 := HX
      rw [hq] at HX2
      clear HX
      rw [if_pos rfl]
      clear hq
      go_enter Try.func59, Try.ntmps59
      go_wp2_with (go_at_call 102; refine (HX2.out _ ((Below.refl _ _).alloc (Nat.le_refl _) _)).mono ?_; rintro e w1 ⟨rfl, hb⟩; have HB := Aside0.mk hb; clear hb)
      go_ret
      exact ⟨rfl, ((Below.refl _ _).alloc (Nat.le_refl _) _).trans (HB.out.mono (by simp))⟩
    | false =>
      have HX2 := HX
      rw [hq] at HX2
      clear HX
      rw [if_neg (by simp)]
      clear hq
      have HF := Aside0.mk (HW.out a0_3)
      have HC := Aside0.mk (HW.out a0_4)
      clear HW
      unfold opTail
      by_cases k1 : a0_0 = 1
      · subst k1
        rw [if_pos rfl]
        clear HF HC
        cases hl : inP 5 a0_2 <;> rw [hl] at HL <;> clear hl <;> cases hf : (a0_3 == 0) <;> simp only [Bool.false_and, Bool.true_and, Bool.and_false]
        all_goals
          go_enter Try.func59, Try.ntmps59
          go_wp2_with (first | (go_at_call 102; refine (HX2.out _ ((Below.refl _ _).alloc (Nat.le_refl _) _)).mono ?_; rintro e w1 ⟨rfl, hb⟩; obtain ⟨hcl, hfz⟩ := opBox hb; have HB := Aside0.mk hb; clear hb) | (go_at_call 104; refine (HL.out _).mono ?_; rintro e w2 ⟨rfl, ⟨n, rfl⟩⟩))
          go_ret
          exact ⟨rfl, pw_below_drewN (((Below.refl _ _).alloc (Nat.le_refl _) _).trans (HB.out.mono (by simp))) _⟩
      · rw [if_neg k1]
        have b1 : (a0_0 == 1) = false := by simpa using k1
        by_cases k2 : a0_0 = 2
        · subst k2
          rw [if_pos rfl]
          clear HF HC HL
          cases hl : (a0_2 == 0) <;> cases hf : (a0_3 == 0) <;> simp only [Bool.false_and, Bool.true_and, Bool.and_false]
          all_goals
            go_enter Try.func59, Try.ntmps59
            go_wp2_with (go_at_call 102; refine (HX2.out _ ((Below.refl _ _).alloc (Nat.le_refl _) _)).mono ?_; rintro e w1 ⟨rfl, hb⟩; obtain ⟨hcl, hfz⟩ := opBox hb; have HB := Aside0.mk hb; clear hb)
            go_ret
            exact ⟨rfl, ((Below.refl _ _).alloc (Nat.le_refl _) _).trans (HB.out.mono (by simp))⟩
        · rw [if_neg k2]
          have b2 : (a0_0 == 2) = false := by simpa using k2
          by_cases k3 : a0_0 = 3
          · subst k3
            rw [if_pos rfl]
            cases hl : inP 5 a0_2 <;> rw [hl] at HL <;> clear hl <;> cases hf : inP 24 a0_3 <;> rw [hf] at HF <;> clear hf <;> simp only [Bool.false_and, Bool.true_and, Bool.and_false]
            all_goals
              generalize inP 24 a0_4 = bc at HC ⊢
              go_enter Try.func59, Try.ntmps59
              go_wp2_with (first | (go_at_call 102; refine (HX2.out _ ((Below.refl _ _).alloc (Nat.le_refl _) _)).mono ?_; rintro e w1 ⟨rfl, hb⟩; obtain ⟨hcl, hfz⟩ := opBox hb; have HB := Aside0.mk hb; clear hb) | (go_at_call 104; refine (HL.out _).mono ?_; rintro e w2 ⟨rfl, ⟨n, rfl⟩⟩) | (go_at_call 67; ((with_reducible refine (HF.out _).mono ?_); rintro e w2 ⟨rfl, ⟨n, rfl⟩⟩)) | (go_at_call 67; ((with_reducible refine (HC.out _).mono ?_); rintro e w2 ⟨rfl, ⟨n, rfl⟩⟩)))
              go_ret
              exact ⟨rfl, by repeat (first | exact ((Below.refl _ _).alloc (Nat.le_refl _) _).trans (HB.out.mono (by simp)) | apply pw_below_drewN)⟩
          · rw [if_neg k3]
            have b3 : (a0_0 == 3) = false := by simpa using k3
            clear HF HC HL
            go_enter Try.func59, Try.ntmps59
            go_wp2_with (go_at_call 102; refine (HX2.out _ ((Below.refl _ _).alloc (Nat.le_refl _) _)).mono ?_; rintro e w1 ⟨rfl, hb⟩; obtain ⟨hcl, hfz⟩ := opBox hb; have HB := Aside0.mk hb; clear hb)
            go_ret
            exact ⟨rfl, ((Below.refl _ _).alloc (Nat.le_refl _) _).trans (HB.out.mono (by simp))⟩
end Go.Proofs.Ytmipigipfmcneaa.X
namespace Go.Proofs.Ytmipigipfmcneaa.X
open Go.RowKit Go.Proofs.YtmipigipfmcneaaW.PrintWords Go.Proofs.YtmipigipfmcneaaW.PrintLast Go.Proofs.YtmipigipfmcneaaW.PrintMore
set_option linter.unusedVariables false
set_option linter.unusedSimpArgs false
def opFlat (x : S68) : Bool := (impl_OpOk.f x.f0 x.f1 x.f2 x.f3 x.f4).getD false
theorem scriptLit (x : S68) (A1 : Option Addr) (c1 : Nat) (W : World) (hc : x.f1.length ≤ c1) (hr : Kd.C (Kd.int .i64) W A1 x.f1.length x.f1) :
    Calls Try.prog 58 #[.agg #[.int .i64 x.f0, .slice A1 x.f1.length c1, .int .i64 x.f2, .int .i64 x.f3, .int .i64 x.f4]] W fun e w' => e = .returned (.bool (!opFlat x)) ∧ Below W.heap.size W w' := by
  have H : Aside0 (∀ W', Below W.heap.size W W' → Calls Try.prog 59 #[.agg #[.int .i64 x.f0, .slice A1 x.f1.length c1, .int .i64 x.f2, .int .i64 x.f3, .int .i64 x.f4]] W' fun e w' => e = .returned (.bool (opFlat x)) ∧ Below W'.heap.size W' w') :=
    ⟨fun W' hb => impl_OpOk.calls x.f0 A1 c1 x.f1 x.f2 x.f3 x.f4 (opFlat x) W' (Kd.C_below hr hb) hc rfl⟩
  generalize hb : opFlat x = b at H
  have hu := Try.underlying68
  clear hb hr hc
  go_enter Try.func58, Try.ntmps58
  go_wp2_with (go_at_call 59; refine (H.out _ ((Below.refl _ _).alloc (Nat.le_refl _) _)).mono ?_; rintro e w' ⟨rfl, hb⟩; have HB := Aside0.mk hb; clear hb)
  go_ret
  exact ⟨rfl, ((Below.refl _ _).alloc (Nat.le_refl _) _).trans (HB.out.mono (by simp))⟩
def impl_ScriptOk.f (l0 : List S68) : Option Bool := some (decide ((l0.length : Int) ≤ 60) && !(l0.any fun x => !opFlat x))
set_option maxHeartbeats 2000000 in
theorem impl_ScriptOk.calls (A0 : Option Addr) (c0 : Nat) (l0 : List S68) (r : Bool) (w : World) (hr0 : Kd.C k68 w A0 l0.length l0) (hc0 : l0.length ≤ c0) (h : impl_ScriptOk.f l0 = some r) :
    Calls Try.prog 16 #[.slice A0 l0.length c0] w fun e w' => e = .returned (.bool r) ∧ Below w.heap.size w w' := by
  obtain rfl := Option.some.inj h
  clear h
  have HX := Aside0.mk (containsFunc_op 58 #[] (fun x => !opFlat x) (fun args w => enters_ Try.func58 (by kernel_rfl) rfl args w) A0 c0 l0 w (fun W _ x A1 c1 hc hr => scriptLit x A1 c1 W hc hr) hr0 hc0)
  clear hr0 hc0
  generalize (l0.any fun x => !opFlat x) = b at HX ⊢
  by_cases c : (l0.length : Int) ≤ 60
  · have c1 : decide ((l0.length : Int) ≤ 60) = true := decide_eq_true c
    have c2 := c
    clear c
    go_enter Try.func16, Try.ntmps16
    go_wp2_with (go_at_call 57; refine HX.out.mono ?_; rintro e w' ⟨rfl, HB⟩)
    go_ret
    exact ⟨by first | rfl | (rw [c1]; rfl), HB⟩
  · have c1 : decide ((l0.length : Int) ≤ 60) = false := decide_eq_false c
    have c2 := c
    clear c
    go_enter Try.func16, Try.ntmps16
    go_wp2
    go_ret
    exact ⟨by first | rfl | (rw [c1]; rfl), Below.refl _ _⟩
end Go.Proofs.Ytmipigipfmcneaa.X
namespace Go.Proofs.Ytmipigipfmcneaa.X
open Go.RowKit Go.Proofs.YtmipigipfmcneaaW.PrintWords Go.Proofs.YtmipigipfmcneaaW.PrintLast Go.Proofs.YtmipigipfmcneaaW.PrintMore
attribute [local go_sem] max2_int min2_int max_two min_two max_three min_three max_four min_four   -- for this text's walks alone
set_option linter.unusedVariables false
set_option linter.unusedSimpArgs false
mutual
def impl_PutScript.l0 : Nat → ByteArray → List (S68) → Int → Int → Option (ByteArray)
  | 0, _, _, _, _ => none
  | k + 1, x3, x14, x15, x16 => if x16 < x15 then (if 0 ≤ x16 then (if x16 < (x14.length : Int) then ((impl_Var.f k ((rd_T68 x14 x16).f0)).bind fun t589 => ((impl_Var.f k (((rd_T68 x14 x16).f1).length : Int)).bind fun t590 => (if t589.size + t590.size ≤ 9223372036854775807 then (if x3.size + (t589 ++ t590).size ≤ 9223372036854775807 then (impl_PutScript.l1 k (x3 ++ (t589 ++ t590)) x14 x15 x16 ((rd_T68 x14 x16).f1) (((rd_T68 x14 x16).f1).length : Int) 0 ((rd_T68 x14 x16).f0) ((rd_T68 x14 x16).f1) ((rd_T68 x14 x16).f2) ((rd_T68 x14 x16).f3) ((rd_T68 x14 x16).f4)) else (none)) else (none)))) else (none)) else (none)) else (some x3)
def impl_PutScript.l1 : Nat → ByteArray → List (S68) → Int → Int → List Int → Int → Int → Int → List Int → Int → Int → Int → Option (ByteArray)
  | 0, _, _, _, _, _, _, _, _, _, _, _, _ => none
  | k + 1, x3, x14, x15, x16, x31, x32, x33, x589000, x589001, x589002, x589003, x589004 => if x33 < x32 then (if 0 ≤ x33 then (if x33 < (x31.length : Int) then ((impl_Var.f k (rd x31 x33)).bind fun t592 => (if x3.size + t592.size ≤ 9223372036854775807 then (impl_PutScript.l1 k (x3 ++ t592) x14 x15 x16 x31 x32 (wrap64 (x33 + 1)) x589000 x589001 x589002 x589003 x589004) else (none))) else (none)) else (none)) else (if x589000 = 2 then (impl_PutScript.j2 k x3 x14 x15 x16 x589000 x589001 x589002 x589003 x589004) else ((impl_Var.f k x589002).bind fun t593 => (if x3.size + t593.size ≤ 9223372036854775807 then (impl_PutScript.j2 k (x3 ++ t593) x14 x15 x16 x589000 x589001 x589002 x589003 x589004) else (none))))
def impl_PutScript.j2 : Nat → ByteArray → List (S68) → Int → Int → Int → List Int → Int → Int → Int → Option (ByteArray)
  | 0, _, _, _, _, _, _, _, _, _ => none
  | k + 1, x3, x14, x15, x16, x589000, x589001, x589002, x589003, x589004 => if x589000 = 3 then ((impl_Var.f k x589003).bind fun t594 => ((impl_Var.f k x589004).bind fun t595 => (if t594.size + t595.size ≤ 9223372036854775807 then (if x3.size + (t594 ++ t595).size ≤ 9223372036854775807 then (impl_PutScript.l0 k (x3 ++ (t594 ++ t595)) x14 x15 (wrap64 (x16 + 1))) else (none)) else (none)))) else (impl_PutScript.l0 k x3 x14 x15 (wrap64 (x16 + 1)))
end
def impl_PutScript.f (k : Nat) (l0 : List (S68)) : Option (ByteArray) := (impl_ScriptOk.f l0).bind fun t585 => (if t585 = true then ((impl_Var.f k (l0.length : Int)).bind fun t586 => (impl_PutScript.l0 k t586 l0 (l0.length : Int) 0)) else (some (⟨#[]⟩ : ByteArray)))
def impl_PutScript.T7 : Bool × List (List Nat × List Nat) := (true, [([], []), ([], []), ([1], [1]), ([2], [2]), ([], []), ([4], [4]), ([5], [5]), ([6, 3], [6]), ([3, 7], [3, 7]), ([0, 8], [0, 8]), ([9, 7, 0, 1, 2, 3, 4, 5, 6, 7, 8, 9], [0, 9])])
def impl_PutScript.B7 : List Nat := [0, 0, 2, 6, 0, 16, 48, 126, 254, 511, 1023]
theorem impl_PutScript.tab7 : rtab .any (opsOf Try.f41 7) = impl_PutScript.T7 := by kernel_rfl
theorem impl_PutScript.bits7 : waitsOk impl_PutScript.T7.2 impl_PutScript.B7 = true := by kernel_rfl
def impl_PutScript.T16 : Bool × List (List Nat × List Nat) := (true, [([], []), ([], []), ([1], [1]), ([2], [2]), ([], []), ([4], [4]), ([5, 3], [5]), ([3, 6], [3, 6]), ([0, 7], [0, 7]), ([8, 6, 0, 1, 2, 3, 4, 5, 6, 7, 8], [0, 8])])
def impl_PutScript.B16 : List Nat := [0, 0, 2, 6, 0, 16, 62, 126, 255, 511]
theorem impl_PutScript.tab16 : rtab .any (opsOf Try.f41 16) = impl_PutScript.T16 := by kernel_rfl
theorem impl_PutScript.bits16 : waitsOk impl_PutScript.T16.2 impl_PutScript.B16 = true := by kernel_rfl
set_option maxHeartbeats 8000000 in
set_option maxRecDepth 100000 in
theorem impl_PutScript.calls (k : Nat) (A0 : Option Addr) (c0 : Nat) (l0 : List (S68)) (r : ByteArray) (w : World) (hr0 : Kd.C k68 w A0 l0.length l0) (hc0 : l0.length ≤ c0) (h : impl_PutScript.f k l0 = some r) :
    Calls Try.prog 41 #[.slice A0 l0.length c0] w fun e w' => e = .returned (.string r) ∧ Below w.heap.size w w' := by
  have hu68 := Try.underlying68
  have HR0 := Aside0.mk hr0
  have HC0 := Aside0.mk hc0
  clear hr0 hc0
  have HB := Aside0.mk (Below.refl w.heap.size w)
  have H : ((impl_ScriptOk.f l0).bind fun t585 => (if t585 = true then ((impl_Var.f k (l0.length : Int)).bind fun t586 => (impl_PutScript.l0 k t586 l0 (l0.length : Int) 0)) else (some (⟨#[]⟩ : ByteArray)))) = some r := h
  clear h
  replace H := Option.bind_eq_some_iff.mp H
  obtain ⟨t585, A20, H⟩ := H
  replace H : (if t585 = true then ((impl_Var.f k (l0.length : Int)).bind fun t586 => (impl_PutScript.l0 k t586 l0 (l0.length : Int) 0)) else (some (⟨#[]⟩ : ByteArray))) = some r := H
  have A2 := Aside0.mk A20
  clear A20
  by_cases c3 : t585 = true
  · subst c3
    have H1 : ((impl_Var.f k (l0.length : Int)).bind fun t586 => (impl_PutScript.l0 k t586 l0 (l0.length : Int) 0)) = some r := by rw [if_pos rfl] at H; exact H
    clear H
    have H := H1
    clear H1
    replace H := Option.bind_eq_some_iff.mp H
    obtain ⟨t586, A40, H⟩ := H
    replace H : (impl_PutScript.l0 k t586 l0 (l0.length : Int) 0) = some r := H
    have A4 := Aside0.mk A40
    clear A40
    have H' := Aside0.mk H
    clear H
    go_enter Try.func41, Try.ntmps41
    go_wp2_with (first | ((with_reducible refine gate_callee (f := 16) rfl ?_); refine goesL_ (some 9) rfl rfl Try.func16 (by kernel_rfl) rfl #[.slice A0 l0.length c0] rfl (by (try simp only [List.map_toArray, List.map_cons, List.map_nil]); first | done | rfl | (simp only [List.length_drop, List.length_take]; rfl)) ?_; (with_reducible refine (impl_ScriptOk.calls _ _ l0 true _ ?side1 ?side2 A2.out).mono ?_); (case side1 => repeat (first | exact HR0.out | (with_reducible refine Kd.C_alloc ?_ _) | (with_reducible refine Kd.C_drewN ?_ _) | (with_reducible refine Kd.C_drew ?_))); (case side2 => exact HC0.out); rintro e w5 ⟨rfl, hb⟩; refine ⟨_, rfl, ?_⟩; have n0_ := Aside0.mk (below_step (by repeat (first | (with_reducible first | exact HB.out | apply below_alloc | apply pw_below_drewN | apply below_drew1) | exact HB.out)) hb); clear HB; have HB := n0_; clear n0_; (try clear hb); (try clear hb2); (try clear hk); (try clear hi)) | ((with_reducible refine gate_callee (f := 87) rfl ?_); refine goesL_ (some 13) rfl rfl Try.func87 (by kernel_rfl) rfl #[.int .i64 (l0.length : Int)] rfl (by (try simp only [List.map_toArray, List.map_cons, List.map_nil]); first | done | rfl | (simp only [List.length_drop, List.length_take]; rfl)) ?_; (with_reducible refine (impl_Var.calls k (l0.length : Int) t586 _ A4.out).mono ?_); rintro e w6 ⟨rfl, hb⟩; refine ⟨_, rfl, ?_⟩; have n0_ := Aside0.mk (below_step (by repeat (first | (with_reducible first | exact HB.out | apply below_alloc | apply pw_below_drewN | apply below_drew1) | exact HB.out)) hb); clear HB; have HB := n0_; clear n0_; (try clear hb); (try clear hb2); (try clear hk); (try clear hi)))
    go_loopg [3, 16] k (fun kq v3 v16 w' => ∃ (x3_1 : ByteArray) (x16_1 : Int), v3 = .string x3_1 ∧ v16 = .int .i64 x16_1 ∧ Aside0 (impl_PutScript.l0 kq x3_1 l0 (l0.length : Int) x16_1 = some r) ∧ Aside0 (kq ≤ k) ∧ Aside0 (Below w.heap.size w w'))
    case atStart => exact ⟨(t586), (0), (by first | rfl | (simp; done) | (simp [*]; done)), (by first | rfl | (simp; done) | (simp [*]; done)), H', ⟨Nat.le_refl _⟩, ⟨by repeat (first | (with_reducible first | exact HB.out | apply below_alloc | apply pw_below_drewN | apply below_drew1) | exact HB.out)⟩⟩
    case round =>
      clear H'
      try clear c1
      try clear p2
      try clear c3
      try clear c4
      obtain ⟨x3_1, x16_1, rfl, rfl, HA, HK1, HB⟩ := hrel
      cases gk with
      | zero => exact absurd HA.out (by simp [impl_PutScript.l0])
      | succ k1 =>
        have H := HA.out
        clear HA
        simp only [impl_PutScript.l0] at H
        by_cases c7 : x16_1 < (l0.length : Int)
        · rw [if_pos c7] at H
          have c7b0 : decide (x16_1 < (l0.length : Int)) = true := decide_eq_true c7
          clear c7
          by_cases c8 : 0 ≤ x16_1
          · rw [if_pos c8] at H
            have c8b0 : decide (0 ≤ x16_1) = true := decide_eq_true c8
            clear c8
            by_cases c9 : x16_1 < (l0.length : Int)
            · rw [if_pos c9] at H
              have c9b0 : decide (x16_1 < (l0.length : Int)) = true := decide_eq_true c9
              clear c9
              replace H := Option.bind_eq_some_iff.mp H
              obtain ⟨t589, A100, H⟩ := H
              replace H : ((impl_Var.f k1 (((rd_T68 l0 x16_1).f1).length : Int)).bind fun t590 => (if t589.size + t590.size ≤ 9223372036854775807 then (if x3_1.size + (t589 ++ t590).size ≤ 9223372036854775807 then (impl_PutScript.l1 k1 (x3_1 ++ (t589 ++ t590)) l0 (l0.length : Int) x16_1 ((rd_T68 l0 x16_1).f1) (((rd_T68 l0 x16_1).f1).length : Int) 0 ((rd_T68 l0 x16_1).f0) ((rd_T68 l0 x16_1).f1) ((rd_T68 l0 x16_1).f2) ((rd_T68 l0 x16_1).f3) ((rd_T68 l0 x16_1).f4)) else (none)) else (none))) = some r := H
              have A10 := Aside0.mk A100
              clear A100
              replace H := Option.bind_eq_some_iff.mp H
              obtain ⟨t590, A110, H⟩ := H
              replace H : (if t589.size + t590.size ≤ 9223372036854775807 then (if x3_1.size + (t589 ++ t590).size ≤ 9223372036854775807 then (impl_PutScript.l1 k1 (x3_1 ++ (t589 ++ t590)) l0 (l0.length : Int) x16_1 ((rd_T68 l0 x16_1).f1) (((rd_T68 l0 x16_1).f1).length : Int) 0 ((rd_T68 l0 x16_1).f0) ((rd_T68 l0 x16_1).f1) ((rd_T68 l0 x16_1).f2) ((rd_T68 l0 x16_1).f3) ((rd_T68 l0 x16_1).f4)) else (none)) else (none)) = some r := H
              have A11 := Aside0.mk A110
              clear A110
              by_cases c12 : t589.size + t590.size ≤ 9223372036854775807
              · rw [if_pos c12] at H
                have c12b0 := eq_true c12
                have c12b1 : decide (t589.size + t590.size ≤ 9223372036854775807) = true := decide_eq_true c12
                try have c12b2 : (9223372036854775807 < t589.size + t590.size) = False := eq_false (Nat.not_lt.2 c12)
                by_cases c13 : x3_1.size + (t589 ++ t590).size ≤ 9223372036854775807
                · rw [if_pos c13] at H
                  have c13b0 := eq_true c13
                  have c13b1 : decide (x3_1.size + (t589 ++ t590).size ≤ 9223372036854775807) = true := decide_eq_true c13
                  try have c13b2 : (9223372036854775807 < x3_1.size + (t589 ++ t590).size) = False := eq_false (Nat.not_lt.2 c13)
                  try have c13b3 : (9223372036854775807 < x3_1.size + (t589.size + t590.size)) = False := eq_false (Nat.not_lt.2 (by have z_ := c13; rw [ByteArray.size_append] at z_; exact z_))
                  have H' := Aside0.mk H
                  clear H
                  have p587 : 0 ≤ (x16_1 : Int) := of_decide_eq_true (by first | (with_reducible assumption) | assumption)
                  have q587 : x16_1 < (l0.length : Int) := of_decide_eq_true (by first | (with_reducible assumption) | assumption)
                  obtain ⟨ad587, A587_1, c587_1, e587, hx587_0, hx587_1, hx587_2, hx587_3, hx587_4, hl587_1, hi587_1⟩ := at_T68 HR0.out x16_1 p587 q587
                  cases e587
                  replace hx587_0 := (HB.out.cell (World.block_lt_of_cell? w _ hx587_0)).trans hx587_0
                  replace hx587_1 := (HB.out.cell (World.block_lt_of_cell? w _ hx587_1)).trans hx587_1
                  replace hx587_2 := (HB.out.cell (World.block_lt_of_cell? w _ hx587_2)).trans hx587_2
                  replace hx587_3 := (HB.out.cell (World.block_lt_of_cell? w _ hx587_3)).trans hx587_3
                  replace hx587_4 := (HB.out.cell (World.block_lt_of_cell? w _ hx587_4)).trans hx587_4
                  have HR587_1 := Aside0.mk hi587_1
                  have HC587_1 := Aside0.mk hl587_1
                  clear hi587_1 hl587_1
                  replace p587 := eq_true p587
                  replace q587 := eq_true q587
                  try go_wp2_with (first | ((with_reducible refine gate_dst (N := 5) rfl ?_); refine box_event ?hg (N := 5) ?hd (cs := #[.int .i64 0, .slice none 0 0, .int .i64 0, .int .i64 0, .int .i64 0]) (t := 68) ?hr ?_; (case hd => rfl); (case hg => rfl); (case hr => first | (go_simp; done) | (go_simp; rfl)); intro gb588 hg w14 hbox hb; have n0_ := Aside0.mk (below_step (by repeat (first | (with_reducible first | exact HB.out | apply below_alloc | apply pw_below_drewN | apply below_drew1) | exact HB.out)) hb); have n1_ := Aside0.mk (hbox); have n2_ := Aside0.mk ((by rw [hg]; exact (below_size (by repeat (first | (with_reducible first | exact HB.out | apply below_alloc | apply pw_below_drewN | apply below_drew1) | exact HB.out))) : w.heap.size ≤ gb588)); have n3_ := Aside0.mk ((by rw [hg]; exact (below_size (by repeat (first | (with_reducible first | exact HB.out | apply below_alloc | apply pw_below_drewN | apply below_drew1) | exact HB.out))) : w.heap.size ≤ gb588)); clear HB; have HB := n0_; have BK588 := n1_; have GW588 := n2_; have GE588 := n3_; clear n0_ n1_ n2_ n3_; clear hb hbox hg; have hcz15_0 : w14.cell? ⟨gb588, 0, none⟩ = some (.int .i64 0) := (blk_cell BK588.out 0).trans rfl; have hcz15_1 : w14.cell? ⟨gb588, 1, none⟩ = some (.slice none 0 0) := (blk_cell BK588.out 1).trans rfl; have hcz15_2 : w14.cell? ⟨gb588, 2, none⟩ = some (.int .i64 0) := (blk_cell BK588.out 2).trans rfl; have hcz15_3 : w14.cell? ⟨gb588, 3, none⟩ = some (.int .i64 0) := (blk_cell BK588.out 3).trans rfl; have hcz15_4 : w14.cell? ⟨gb588, 4, none⟩ = some (.int .i64 0) := (blk_cell BK588.out 4).trans rfl; have hfz15_0 := blk_frozen BK588.out 0; have hfz15_1 := blk_frozen BK588.out 1; have hfz15_2 := blk_frozen BK588.out 2; have hfz15_3 := blk_frozen BK588.out 3; have hfz15_4 := blk_frozen BK588.out 4))
                  have n0_ : Aside0 ((((((w14.setCell ⟨gb588, 0, none⟩ (.int .i64 ((rd_T68 l0 x16_1).f0))).setCell ⟨gb588, 1, none⟩ (.slice A587_1 ((rd_T68 l0 x16_1).f1).length c587_1)).setCell ⟨gb588, 2, none⟩ (.int .i64 ((rd_T68 l0 x16_1).f2))).setCell ⟨gb588, 3, none⟩ (.int .i64 ((rd_T68 l0 x16_1).f3))).setCell ⟨gb588, 4, none⟩ (.int .i64 ((rd_T68 l0 x16_1).f4))).heap[gb588]? = some (.cells #[.int .i64 ((rd_T68 l0 x16_1).f0), .slice A587_1 ((rd_T68 l0 x16_1).f1).length c587_1, .int .i64 ((rd_T68 l0 x16_1).f2), .int .i64 ((rd_T68 l0 x16_1).f3), .int .i64 ((rd_T68 l0 x16_1).f4)] 68 (0, 0))) := ⟨by (with_reducible repeat (first | refine blk_drewN ?_ _ | refine blk_drew ?_ | refine blk_alloc ?_ _)); refine blk_put (cs := #[.int .i64 ((rd_T68 l0 x16_1).f0), .slice A587_1 ((rd_T68 l0 x16_1).f1).length c587_1, .int .i64 ((rd_T68 l0 x16_1).f2), .int .i64 ((rd_T68 l0 x16_1).f3), .int .i64 0]) ?_ 4 _ rfl; (with_reducible repeat (first | refine blk_drewN ?_ _ | refine blk_drew ?_ | refine blk_alloc ?_ _)); refine blk_put (cs := #[.int .i64 ((rd_T68 l0 x16_1).f0), .slice A587_1 ((rd_T68 l0 x16_1).f1).length c587_1, .int .i64 ((rd_T68 l0 x16_1).f2), .int .i64 0, .int .i64 0]) ?_ 3 _ rfl; (with_reducible repeat (first | refine blk_drewN ?_ _ | refine blk_drew ?_ | refine blk_alloc ?_ _)); refine blk_put (cs := #[.int .i64 ((rd_T68 l0 x16_1).f0), .slice A587_1 ((rd_T68 l0 x16_1).f1).length c587_1, .int .i64 0, .int .i64 0, .int .i64 0]) ?_ 2 _ rfl; (with_reducible repeat (first | refine blk_drewN ?_ _ | refine blk_drew ?_ | refine blk_alloc ?_ _)); refine blk_put (cs := #[.int .i64 ((rd_T68 l0 x16_1).f0), .slice none 0 0, .int .i64 0, .int .i64 0, .int .i64 0]) ?_ 1 _ rfl; (with_reducible repeat (first | refine blk_drewN ?_ _ | refine blk_drew ?_ | refine blk_alloc ?_ _)); refine blk_put (cs := #[.int .i64 0, .slice none 0 0, .int .i64 0, .int .i64 0, .int .i64 0]) ?_ 0 _ rfl; (with_reducible repeat (first | refine blk_drewN ?_ _ | refine blk_drew ?_ | refine blk_alloc ?_ _)); exact BK588.out⟩
                  have n1_ : Aside0 (Below w.heap.size w (((((w14.setCell ⟨gb588, 0, none⟩ (.int .i64 ((rd_T68 l0 x16_1).f0))).setCell ⟨gb588, 1, none⟩ (.slice A587_1 ((rd_T68 l0 x16_1).f1).length c587_1)).setCell ⟨gb588, 2, none⟩ (.int .i64 ((rd_T68 l0 x16_1).f2))).setCell ⟨gb588, 3, none⟩ (.int .i64 ((rd_T68 l0 x16_1).f3))).setCell ⟨gb588, 4, none⟩ (.int .i64 ((rd_T68 l0 x16_1).f4)))) := ⟨by repeat (first | (with_reducible first | exact HB.out | apply below_alloc | apply pw_below_drewN | apply below_drew1 | refine below_set ?_ GE588.out) | exact HB.out)⟩
                  (try clear BK588)
                  (try clear HB)
                  generalize (((((w14.setCell ⟨gb588, 0, none⟩ (.int .i64 ((rd_T68 l0 x16_1).f0))).setCell ⟨gb588, 1, none⟩ (.slice A587_1 ((rd_T68 l0 x16_1).f1).length c587_1)).setCell ⟨gb588, 2, none⟩ (.int .i64 ((rd_T68 l0 x16_1).f2))).setCell ⟨gb588, 3, none⟩ (.int .i64 ((rd_T68 l0 x16_1).f3))).setCell ⟨gb588, 4, none⟩ (.int .i64 ((rd_T68 l0 x16_1).f4))) = w16 at n0_ n1_ ⊢
                  have BK588 := n0_
                  have HB := n1_
                  clear n0_ n1_
                  have n0_ := Aside0.mk (blk_drew BK588.out)
                  have n1_ := Aside0.mk (below_drew1 HB.out)
                  clear BK588
                  clear HB
                  have BK588 := n0_
                  have HB := n1_
                  clear n0_ n1_
                  refine start_ (n := 11) (S := fun w' => w'.cell? ⟨gb588, 0, none⟩ = some (.int .i64 ((rd_T68 l0 x16_1).f0)) ∧ w'.cell? ⟨gb588, 1, none⟩ = some (.slice A587_1 ((rd_T68 l0 x16_1).f1).length c587_1) ∧ w'.cell? ⟨gb588, 2, none⟩ = some (.int .i64 ((rd_T68 l0 x16_1).f2)) ∧ w'.cell? ⟨gb588, 3, none⟩ = some (.int .i64 ((rd_T68 l0 x16_1).f3)) ∧ w'.cell? ⟨gb588, 4, none⟩ = some (.int .i64 ((rd_T68 l0 x16_1).f4))) (ds := []) #[false, false, false, false, false, false, false, false, false, false, false] (by kernel_rfl) rfl rfl ⟨(blk_cell BK588.out 0).trans rfl, (blk_cell BK588.out 1).trans rfl, (blk_cell BK588.out 2).trans rfl, (blk_cell BK588.out 3).trans rfl, (blk_cell BK588.out 4).trans rfl⟩ (fun hHeld => ?_); refine with_tabW impl_PutScript.tab7 impl_PutScript.bits7 (fun HT_ HW_ => ?_)
                  generalize w16.drew = w17 at BK588 HB hHeld ⊢
                  refine pure_ (i := 0) (N := some 20) (v := ?_) (a' := ?_) #[true, false, false, false, false, false, false, false, false, false, false] rfl rfl (any_of HT_.out (by kernel_rfl)) (fun _ _ _ h => h) (Or.inl ⟨by rfl, ?_⟩) ?_ ?_
                  rotate_left
                  · intro w'
                    go_simp
                    with_reducible rfl
                  rotate_left
                  · simp only [Act.put, List.setIfInBounds_toArray, List.set_cons_zero, List.set_cons_succ, i64_w, i32_w]
                    rfl
                  refine pure_ (i := 1) (N := some 21) (v := ?_) (a' := ?_) #[true, true, false, false, false, false, false, false, false, false, false] rfl rfl (any_of HT_.out (by kernel_rfl)) (fun _ _ _ h => h) (Or.inl ⟨by rfl, ?_⟩) ?_ ?_
                  rotate_left
                  · intro w'
                    go_simp
                    with_reducible rfl
                  rotate_left
                  · simp only [Act.put, List.setIfInBounds_toArray, List.set_cons_zero, List.set_cons_succ, i64_w, i32_w]
                    rfl
                  refine pure_ (i := 4) (N := some 24) (v := ?_) (a' := ?_) #[true, true, false, false, true, false, false, false, false, false, false] rfl rfl (any_of HT_.out (by kernel_rfl)) (fun _ _ _ h => h) (Or.inl ⟨by rfl, ?_⟩) ?_ ?_
                  rotate_left
                  · intro w'
                    go_simp
                    with_reducible rfl
                  rotate_left
                  · simp only [Act.put, List.setIfInBounds_toArray, List.set_cons_zero, List.set_cons_succ, i64_w, i32_w]
                    rfl
                  refine take_ (i := 2) (N := some 22) (v := ?_) (a' := ?_) #[true, true, true, false, true, false, false, false, false, false, false] rfl rfl (take_ofW HT_.out HW_.out (by kernel_rfl)) (fun _ _ _ h => h) (Or.inl ⟨by rfl, ?_⟩) hHeld ?_ ?_
                  rotate_left
                  · rintro w' ⟨s0, s1, s2, s3, s4⟩
                    go_simp
                    with_reducible rfl
                  rotate_left
                  · simp only [Act.put, List.setIfInBounds_toArray, List.set_cons_zero, List.set_cons_succ, i64_w, i32_w]
                    rfl
                  refine take_ (i := 5) (N := some 25) (v := ?_) (a' := ?_) #[true, true, true, false, true, true, false, false, false, false, false] rfl rfl (take_ofW HT_.out HW_.out (by kernel_rfl)) (fun _ _ _ h => h) (Or.inl ⟨by rfl, ?_⟩) hHeld ?_ ?_
                  rotate_left
                  · rintro w' ⟨s0, s1, s2, s3, s4⟩
                    go_simp
                    with_reducible rfl
                  rotate_left
                  · simp only [Act.put, List.setIfInBounds_toArray, List.set_cons_zero, List.set_cons_succ, i64_w, i32_w]
                    rfl
                  refine pure_ (i := 6) (N := some 26) (v := ?_) (a' := ?_) #[true, true, true, false, true, true, true, false, false, false, false] rfl rfl (any_of HT_.out (by kernel_rfl)) (fun _ _ _ h => h) (Or.inl ⟨by rfl, ?_⟩) ?_ ?_
                  rotate_left
                  · intro w'
                    go_simp
                    with_reducible rfl
                  rotate_left
                  · simp only [Act.put, List.setIfInBounds_toArray, List.set_cons_zero, List.set_cons_succ, i64_w, i32_w]
                    rfl
                  refine one_ (i := 3) (N := some 23) #[true, true, true, true, true, true, true, false, false, false, false] rfl rfl (one_of HT_.out (by kernel_rfl)) (by decide) (fun K hK => ?_)
                  refine goes_ Try.func87 (by kernel_rfl) rfl #[.int .i64 ((rd_T68 l0 x16_1).f0)] (by rfl) rfl rfl (by (try simp only [List.map_toArray, List.map_cons, List.map_nil]); first | done | rfl | (simp only [List.length_drop, List.length_take]; rfl)) ?_
                  with_reducible refine (impl_Var.calls k1 ((rd_T68 l0 x16_1).f0) t589 _ A10.out).mono ?_
                  rintro e w18 ⟨rfl, hb⟩
                  refine ⟨_, rfl, ?_⟩
                  have n0_ := Aside0.mk (blk_below (g := gb588) (o := .cells #[.int .i64 ((rd_T68 l0 x16_1).f0), .slice A587_1 ((rd_T68 l0 x16_1).f1).length c587_1, .int .i64 ((rd_T68 l0 x16_1).f2), .int .i64 ((rd_T68 l0 x16_1).f3), .int .i64 ((rd_T68 l0 x16_1).f4)] 68 (0, 0)) (by (with_reducible repeat (first | refine blk_drewN ?_ _ | refine blk_drew ?_ | refine blk_alloc ?_ _)); exact BK588.out) hb)
                  have n1_ := Aside0.mk (below_step (by repeat (first | (with_reducible first | exact HB.out | apply below_alloc | apply pw_below_drewN | apply below_drew1 | refine below_set ?_ GE588.out) | exact HB.out)) hb)
                  clear BK588
                  clear HB
                  have BK588 := n0_
                  have HB := n1_
                  clear n0_ n1_
                  (try clear hb)
                  (try clear hb2)
                  (try clear hk)
                  (try clear hi)
                  refine hK.out _ _ ⟨(blk_cell BK588.out 0).trans rfl, (blk_cell BK588.out 1).trans rfl, (blk_cell BK588.out 2).trans rfl, (blk_cell BK588.out 3).trans rfl, (blk_cell BK588.out 4).trans rfl⟩ (fun hHeld => ?_)
                  clear hK K
                  refine norm_ (a' := ?_) ?_ ?_
                  rotate_left
                  · show Act.put _ (some 23) _ = _
                    simp only [Act.put, List.setIfInBounds_toArray, List.set_cons_zero, List.set_cons_succ, i64_w, i32_w]
                    rfl
                  refine one_ (i := 7) (N := some 27) #[true, true, true, true, true, true, true, true, false, false, false] rfl rfl (one_of HT_.out (by kernel_rfl)) (by decide) (fun K hK => ?_)
                  refine goes_ Try.func87 (by kernel_rfl) rfl #[.int .i64 (((rd_T68 l0 x16_1).f1).length : Int)] (by rfl) rfl rfl (by (try simp only [List.map_toArray, List.map_cons, List.map_nil]); first | done | rfl | (simp only [List.length_drop, List.length_take]; rfl)) ?_
                  with_reducible refine (impl_Var.calls k1 (((rd_T68 l0 x16_1).f1).length : Int) t590 _ A11.out).mono ?_
                  rintro e w19 ⟨rfl, hb⟩
                  refine ⟨_, rfl, ?_⟩
                  have n0_ := Aside0.mk (blk_below (g := gb588) (o := .cells #[.int .i64 ((rd_T68 l0 x16_1).f0), .slice A587_1 ((rd_T68 l0 x16_1).f1).length c587_1, .int .i64 ((rd_T68 l0 x16_1).f2), .int .i64 ((rd_T68 l0 x16_1).f3), .int .i64 ((rd_T68 l0 x16_1).f4)] 68 (0, 0)) (by (with_reducible repeat (first | refine blk_drewN ?_ _ | refine blk_drew ?_ | refine blk_alloc ?_ _)); exact BK588.out) hb)
                  have n1_ := Aside0.mk (below_step (by repeat (first | (with_reducible first | exact HB.out | apply below_alloc | apply pw_below_drewN | apply below_drew1 | refine below_set ?_ GE588.out) | exact HB.out)) hb)
                  clear BK588
                  clear HB
                  have BK588 := n0_
                  have HB := n1_
                  clear n0_ n1_
                  (try clear hb)
                  (try clear hb2)
                  (try clear hk)
                  (try clear hi)
                  refine hK.out _ _ ⟨(blk_cell BK588.out 0).trans rfl, (blk_cell BK588.out 1).trans rfl, (blk_cell BK588.out 2).trans rfl, (blk_cell BK588.out 3).trans rfl, (blk_cell BK588.out 4).trans rfl⟩ (fun hHeld => ?_)
                  clear hK K
                  refine norm_ (a' := ?_) ?_ ?_
                  rotate_left
                  · show Act.put _ (some 27) _ = _
                    simp only [Act.put, List.setIfInBounds_toArray, List.set_cons_zero, List.set_cons_succ, i64_w, i32_w]
                    rfl
                  refine pure_ (i := 8) (N := some 28) (v := ?_) (a' := ?_) #[true, true, true, true, true, true, true, true, true, false, false] rfl rfl (any_of HT_.out (by kernel_rfl)) (fun _ _ _ h => h) (Or.inl ⟨by rfl, ?_⟩) ?_ ?_
                  rotate_left
                  · intro w'
                    go_simp
                    with_reducible rfl
                  rotate_left
                  · simp only [Act.put, List.setIfInBounds_toArray, List.set_cons_zero, List.set_cons_succ, i64_w, i32_w]
                    rfl
                  refine pure_ (i := 9) (N := some 29) (v := ?_) (a' := ?_) #[true, true, true, true, true, true, true, true, true, true, false] rfl rfl (any_of HT_.out (by kernel_rfl)) (fun _ _ _ h => h) (Or.inl ⟨by rfl, ?_⟩) ?_ ?_
                  rotate_left
                  · intro w'
                    go_simp
                    with_reducible rfl
                  rotate_left
                  · simp only [Act.put, List.setIfInBounds_toArray, List.set_cons_zero, List.set_cons_succ, i64_w, i32_w]
                    rfl
                  refine pure_ (i := 10) (N := some 3) (v := ?_) (a' := ?_) #[true, true, true, true, true, true, true, true, true, true, true] rfl rfl (any_of HT_.out (by kernel_rfl)) (fun _ _ _ h => h) (Or.inl ⟨by rfl, ?_⟩) ?_ ?_
                  rotate_left
                  · intro w'
                    go_simp
                    with_reducible rfl
                  rotate_left
                  · simp only [Act.put, List.setIfInBounds_toArray, List.set_cons_zero, List.set_cons_succ, i64_w, i32_w]
                    rfl
                  refine done_ (done_of HT_.out (by kernel_rfl)) ?_
                  have hcz20_0 : w19.cell? ⟨gb588, 0, none⟩ = some (.int .i64 ((rd_T68 l0 x16_1).f0)) := (blk_cell BK588.out 0).trans rfl
                  have hcz20_1 : w19.cell? ⟨gb588, 1, none⟩ = some (.slice A587_1 ((rd_T68 l0 x16_1).f1).length c587_1) := (blk_cell BK588.out 1).trans rfl
                  have hcz20_2 : w19.cell? ⟨gb588, 2, none⟩ = some (.int .i64 ((rd_T68 l0 x16_1).f2)) := (blk_cell BK588.out 2).trans rfl
                  have hcz20_3 : w19.cell? ⟨gb588, 3, none⟩ = some (.int .i64 ((rd_T68 l0 x16_1).f3)) := (blk_cell BK588.out 3).trans rfl
                  have hcz20_4 : w19.cell? ⟨gb588, 4, none⟩ = some (.int .i64 ((rd_T68 l0 x16_1).f4)) := (blk_cell BK588.out 4).trans rfl
                  have hfz20_0 := blk_frozen BK588.out 0
                  have hfz20_1 := blk_frozen BK588.out 1
                  have hfz20_2 := blk_frozen BK588.out 2
                  have hfz20_3 := blk_frozen BK588.out 3
                  have hfz20_4 := blk_frozen BK588.out 4
                  try go_wp2
                  go_loopg [3, 33] k1 (fun kq v3 v33 w' => ∃ (x3_2 : ByteArray) (x33_2 : Int), v3 = .string x3_2 ∧ v33 = .int .i64 x33_2 ∧ Aside0 (impl_PutScript.l1 kq x3_2 l0 (l0.length : Int) x16_1 ((rd_T68 l0 x16_1).f1) (((rd_T68 l0 x16_1).f1).length : Int) x33_2 ((rd_T68 l0 x16_1).f0) ((rd_T68 l0 x16_1).f1) ((rd_T68 l0 x16_1).f2) ((rd_T68 l0 x16_1).f3) ((rd_T68 l0 x16_1).f4) = some r) ∧ Aside0 (kq ≤ k1) ∧ Aside0 (w'.heap[gb588]? = some (.cells #[.int .i64 ((rd_T68 l0 x16_1).f0), (.slice A587_1 ((rd_T68 l0 x16_1).f1).length c587_1), .int .i64 ((rd_T68 l0 x16_1).f2), .int .i64 ((rd_T68 l0 x16_1).f3), .int .i64 ((rd_T68 l0 x16_1).f4)] 68 (0, 0))) ∧ Aside0 (Below w.heap.size w w'))
                  case atStart => exact ⟨(x3_1 ++ (t589 ++ t590)), (0), (by first | rfl | (simp; done) | (simp [*]; done)), (by first | rfl | (simp; done) | (simp [*]; done)), H', ⟨Nat.le_refl _⟩, ⟨by (with_reducible repeat (first | refine blk_drewN ?_ _ | refine blk_drew ?_ | refine blk_alloc ?_ _)); exact BK588.out⟩, ⟨by repeat (first | (with_reducible first | exact HB.out | apply below_alloc | apply pw_below_drewN | apply below_drew1 | refine below_set ?_ GE588.out) | exact HB.out)⟩⟩
                  case round =>
                    clear H'
                    try clear c1
                    try clear p2
                    try clear c3
                    try clear c4
                    try clear c5
                    try clear p5
                    try clear q5
                    try clear hx5
                    try clear c7
                    try clear c7b0
                    try clear c8
                    try clear c8b0
                    try clear c9
                    try clear c9b0
                    try clear c12
                    try clear c12b0
                    try clear c12b1
                    try clear c12b2
                    try clear c13
                    try clear c13b0
                    try clear c13b1
                    try clear c13b2
                    try clear c16
                    try clear hcz15_0
                    try clear hcz15_1
                    try clear hcz15_2
                    try clear hcz15_3
                    try clear hcz15_4
                    try clear hcz20_0
                    try clear hcz20_1
                    try clear hcz20_2
                    try clear hcz20_3
                    try clear hcz20_4
                    try clear hfz15_0
                    try clear hfz15_1
                    try clear hfz15_2
                    try clear hfz15_3
                    try clear hfz15_4
                    try clear hfz20_0
                    try clear hfz20_1
                    try clear hfz20_2
                    try clear hfz20_3
                    try clear hfz20_4
                    try clear hx587_0
                    try clear hx587_1
                    try clear hx587_2
                    try clear hx587_3
                    try clear hx587_4
                    try clear p2
                    try clear p587
                    try clear q587
                    obtain ⟨x3_2, x33_2, rfl, rfl, HA, HK2, BK588, HB⟩ := hrel
                    cases gk with
                    | zero => exact absurd HA.out (by simp [impl_PutScript.l1])
                    | succ k2 =>
                      have H := HA.out
                      clear HA
                      simp only [impl_PutScript.l1] at H
                      by_cases c21 : x33_2 < (((rd_T68 l0 x16_1).f1).length : Int)
                      · rw [if_pos c21] at H
                        have c21b0 : decide (x33_2 < (((rd_T68 l0 x16_1).f1).length : Int)) = true := decide_eq_true c21
                        clear c21
                        by_cases c22 : 0 ≤ x33_2
                        · rw [if_pos c22] at H
                          have c22b0 : decide (0 ≤ x33_2) = true := decide_eq_true c22
                          clear c22
                          by_cases c23 : x33_2 < (((rd_T68 l0 x16_1).f1).length : Int)
                          · rw [if_pos c23] at H
                            have c23b0 : decide (x33_2 < (((rd_T68 l0 x16_1).f1).length : Int)) = true := decide_eq_true c23
                            clear c23
                            replace H := Option.bind_eq_some_iff.mp H
                            obtain ⟨t592, A240, H⟩ := H
                            replace H : (if x3_2.size + t592.size ≤ 9223372036854775807 then (impl_PutScript.l1 k2 (x3_2 ++ t592) l0 (l0.length : Int) x16_1 ((rd_T68 l0 x16_1).f1) (((rd_T68 l0 x16_1).f1).length : Int) (wrap64 (x33_2 + 1)) ((rd_T68 l0 x16_1).f0) ((rd_T68 l0 x16_1).f1) ((rd_T68 l0 x16_1).f2) ((rd_T68 l0 x16_1).f3) ((rd_T68 l0 x16_1).f4)) else (none)) = some r := H
                            have A24 := Aside0.mk A240
                            clear A240
                            by_cases c25 : x3_2.size + t592.size ≤ 9223372036854775807
                            · rw [if_pos c25] at H
                              have c25b0 := eq_true c25
                              have c25b1 : decide (x3_2.size + t592.size ≤ 9223372036854775807) = true := decide_eq_true c25
                              try have c25b2 : (9223372036854775807 < x3_2.size + t592.size) = False := eq_false (Nat.not_lt.2 c25)
                              have H' := Aside0.mk H
                              clear H
                              have p591 : 0 ≤ (x33_2 : Int) := of_decide_eq_true (by first | (with_reducible assumption) | assumption)
                              have q591 : x33_2 < (((rd_T68 l0 x16_1).f1).length : Int) := of_decide_eq_true (by first | (with_reducible assumption) | assumption)
                              obtain ⟨ad591, e591, hx591_0⟩ := Kd.at_int HR587_1.out x33_2 p591 q591
                              cases e591
                              replace hx591_0 := (HB.out.cell (World.block_lt_of_cell? w _ hx591_0)).trans hx591_0
                              replace p591 := eq_true p591
                              replace q591 := eq_true q591
                              go_wp2_with (first | ((with_reducible refine gate_callee (f := 87) rfl ?_); refine goesL_ (some 39) rfl rfl Try.func87 (by kernel_rfl) rfl #[.int .i64 (rd ((rd_T68 l0 x16_1).f1) x33_2)] rfl (by (try simp only [List.map_toArray, List.map_cons, List.map_nil]); first | done | rfl | (simp only [List.length_drop, List.length_take]; rfl)) ?_; (with_reducible refine (impl_Var.calls k2 (rd ((rd_T68 l0 x16_1).f1) x33_2) t592 _ A24.out).mono ?_); rintro e w26 ⟨rfl, hb⟩; refine ⟨_, rfl, ?_⟩; have n0_ := Aside0.mk (blk_below (g := gb588) (o := .cells #[.int .i64 ((rd_T68 l0 x16_1).f0), .slice (some ad591) ((rd_T68 l0 x16_1).f1).length c587_1, .int .i64 ((rd_T68 l0 x16_1).f2), .int .i64 ((rd_T68 l0 x16_1).f3), .int .i64 ((rd_T68 l0 x16_1).f4)] 68 (0, 0)) (by (with_reducible repeat (first | refine blk_drewN ?_ _ | refine blk_drew ?_ | refine blk_alloc ?_ _)); exact BK588.out) hb); have n1_ := Aside0.mk (below_step (by repeat (first | (with_reducible first | exact HB.out | apply below_alloc | apply pw_below_drewN | apply below_drew1 | refine below_set ?_ GE588.out) | exact HB.out)) hb); clear BK588; clear HB; have BK588 := n0_; have HB := n1_; clear n0_ n1_; (try clear hb); (try clear hb2); (try clear hk); (try clear hi)))
                              go_roundg k2
                              case measure => have := HK1.out; have := HK2.out; omega
                              case rel => exact ⟨(x3_2 ++ t592), (wrap64 (x33_2 + 1)), (by first | rfl | (simp; done) | (simp [*]; done)), (by first | rfl | (simp; done) | (simp [*]; done)), H', ⟨by have := HK1.out; have := HK2.out; omega⟩, ⟨by (with_reducible repeat (first | refine blk_drewN ?_ _ | refine blk_drew ?_ | refine blk_alloc ?_ _)); exact BK588.out⟩, ⟨by repeat (first | (with_reducible first | exact HB.out | apply below_alloc | apply pw_below_drewN | apply below_drew1 | refine below_set ?_ GE588.out) | exact HB.out)⟩⟩
                            · rw [if_neg c25] at H
                              exact absurd H (by simp)
                          · rw [if_neg c23] at H
                            exact absurd H (by simp)
                        · rw [if_neg c22] at H
                          exact absurd H (by simp)
                      · rw [if_neg c21] at H
                        have c21b0 : decide (x33_2 < (((rd_T68 l0 x16_1).f1).length : Int)) = false := decide_eq_false c21
                        clear c21
                        have HC27 := Aside0.mk H
                        clear H
                        have hcz28_0 : wr.cell? ⟨gb588, 0, none⟩ = some (.int .i64 ((rd_T68 l0 x16_1).f0)) := (blk_cell BK588.out 0).trans rfl
                        have hcz28_1 : wr.cell? ⟨gb588, 1, none⟩ = some (.slice A587_1 ((rd_T68 l0 x16_1).f1).length c587_1) := (blk_cell BK588.out 1).trans rfl
                        have hcz28_2 : wr.cell? ⟨gb588, 2, none⟩ = some (.int .i64 ((rd_T68 l0 x16_1).f2)) := (blk_cell BK588.out 2).trans rfl
                        have hcz28_3 : wr.cell? ⟨gb588, 3, none⟩ = some (.int .i64 ((rd_T68 l0 x16_1).f3)) := (blk_cell BK588.out 3).trans rfl
                        have hcz28_4 : wr.cell? ⟨gb588, 4, none⟩ = some (.int .i64 ((rd_T68 l0 x16_1).f4)) := (blk_cell BK588.out 4).trans rfl
                        have hfz28_0 := blk_frozen BK588.out 0
                        have hfz28_1 := blk_frozen BK588.out 1
                        have hfz28_2 := blk_frozen BK588.out 2
                        have hfz28_3 := blk_frozen BK588.out 3
                        have hfz28_4 := blk_frozen BK588.out 4
                        go_upto_if 44 with (fail)
                        go_cut [3] (fun v3 wc => ∃ (kq : Nat) (x3_26 : ByteArray), v3 = .string x3_26 ∧ Aside0 (impl_PutScript.j2 kq x3_26 l0 (l0.length : Int) x16_1 ((rd_T68 l0 x16_1).f0) ((rd_T68 l0 x16_1).f1) ((rd_T68 l0 x16_1).f2) ((rd_T68 l0 x16_1).f3) ((rd_T68 l0 x16_1).f4) = some r) ∧ Aside0 (kq ≤ k2) ∧ Aside0 (wc.heap[gb588]? = some (.cells #[.int .i64 ((rd_T68 l0 x16_1).f0), (.slice A587_1 ((rd_T68 l0 x16_1).f1).length c587_1), .int .i64 ((rd_T68 l0 x16_1).f2), .int .i64 ((rd_T68 l0 x16_1).f3), .int .i64 ((rd_T68 l0 x16_1).f4)] 68 (0, 0))) ∧ Aside0 (Below w.heap.size w wc))
                        case first =>
                          have H := HC27.out
                          clear HC27
                          by_cases c29 : ((rd_T68 l0 x16_1).f0) = 2
                          · rw [if_pos c29] at H
                            have c29b0 : (((rd_T68 l0 x16_1).f0) == 2) = true := beq_iff_eq.mpr c29
                            have c29b1 : (((rd_T68 l0 x16_1).f0) != 2) = false := bne_eq_false_iff_eq.mpr c29
                            clear c29
                            (first | rw [c29b0] | (simp only [i64_w, i32_w]; rw [c29b0]) | skip)
                            have H' := Aside0.mk H
                            clear H
                            go_wp2
                            go_meet
                            case rel => exact ⟨_, (x3_2), (by first | rfl | (simp; done) | (simp [*]; done)), H', ⟨by have := HK1.out; have := HK2.out; first | omega | exact Nat.le_refl _⟩, ⟨by (with_reducible repeat (first | refine blk_drewN ?_ _ | refine blk_drew ?_ | refine blk_alloc ?_ _)); exact BK588.out⟩, ⟨by repeat (first | (with_reducible first | exact HB.out | apply below_alloc | apply pw_below_drewN | apply below_drew1 | refine below_set ?_ GE588.out) | exact HB.out)⟩⟩
                          · rw [if_neg c29] at H
                            have c29b0 : (((rd_T68 l0 x16_1).f0) == 2) = false := beq_eq_false_iff_ne.mpr c29
                            have c29b1 : (((rd_T68 l0 x16_1).f0) != 2) = true := bne_iff_ne.mpr c29
                            (first | rw [c29b0] | (simp only [i64_w, i32_w]; rw [c29b0]) | skip)
                            replace H := Option.bind_eq_some_iff.mp H
                            obtain ⟨t593, A300, H⟩ := H
                            replace H : (if x3_2.size + t593.size ≤ 9223372036854775807 then (impl_PutScript.j2 k2 (x3_2 ++ t593) l0 (l0.length : Int) x16_1 ((rd_T68 l0 x16_1).f0) ((rd_T68 l0 x16_1).f1) ((rd_T68 l0 x16_1).f2) ((rd_T68 l0 x16_1).f3) ((rd_T68 l0 x16_1).f4)) else (none)) = some r := H
                            have A30 := Aside0.mk A300
                            clear A300
                            by_cases c31 : x3_2.size + t593.size ≤ 9223372036854775807
                            · rw [if_pos c31] at H
                              have c31b0 := eq_true c31
                              have c31b1 : decide (x3_2.size + t593.size ≤ 9223372036854775807) = true := decide_eq_true c31
                              try have c31b2 : (9223372036854775807 < x3_2.size + t593.size) = False := eq_false (Nat.not_lt.2 c31)
                              have H' := Aside0.mk H
                              clear H
                              have hcz32_0 : wr.cell? ⟨gb588, 0, none⟩ = some (.int .i64 ((rd_T68 l0 x16_1).f0)) := (blk_cell BK588.out 0).trans rfl
                              have hcz32_1 : wr.cell? ⟨gb588, 1, none⟩ = some (.slice A587_1 ((rd_T68 l0 x16_1).f1).length c587_1) := (blk_cell BK588.out 1).trans rfl
                              have hcz32_2 : wr.cell? ⟨gb588, 2, none⟩ = some (.int .i64 ((rd_T68 l0 x16_1).f2)) := (blk_cell BK588.out 2).trans rfl
                              have hcz32_3 : wr.cell? ⟨gb588, 3, none⟩ = some (.int .i64 ((rd_T68 l0 x16_1).f3)) := (blk_cell BK588.out 3).trans rfl
                              have hcz32_4 : wr.cell? ⟨gb588, 4, none⟩ = some (.int .i64 ((rd_T68 l0 x16_1).f4)) := (blk_cell BK588.out 4).trans rfl
                              have hfz32_0 := blk_frozen BK588.out 0
                              have hfz32_1 := blk_frozen BK588.out 1
                              have hfz32_2 := blk_frozen BK588.out 2
                              have hfz32_3 := blk_frozen BK588.out 3
                              have hfz32_4 := blk_frozen BK588.out 4
                              go_wp2_with (first | ((with_reducible refine gate_callee (f := 87) rfl ?_); refine goesL_ (some 48) rfl rfl Try.func87 (by kernel_rfl) rfl #[.int .i64 ((rd_T68 l0 x16_1).f2)] rfl (by (try simp only [List.map_toArray, List.map_cons, List.map_nil]); first | done | rfl | (simp only [List.length_drop, List.length_take]; rfl)) ?_; (with_reducible refine (impl_Var.calls k2 ((rd_T68 l0 x16_1).f2) t593 _ A30.out).mono ?_); rintro e w33 ⟨rfl, hb⟩; refine ⟨_, rfl, ?_⟩; have n0_ := Aside0.mk (blk_below (g := gb588) (o := .cells #[.int .i64 ((rd_T68 l0 x16_1).f0), .slice A587_1 ((rd_T68 l0 x16_1).f1).length c587_1, .int .i64 ((rd_T68 l0 x16_1).f2), .int .i64 ((rd_T68 l0 x16_1).f3), .int .i64 ((rd_T68 l0 x16_1).f4)] 68 (0, 0)) (by (with_reducible repeat (first | refine blk_drewN ?_ _ | refine blk_drew ?_ | refine blk_alloc ?_ _)); exact BK588.out) hb); have n1_ := Aside0.mk (below_step (by repeat (first | (with_reducible first | exact HB.out | apply below_alloc | apply pw_below_drewN | apply below_drew1 | refine below_set ?_ GE588.out) | exact HB.out)) hb); clear BK588; clear HB; have BK588 := n0_; have HB := n1_; clear n0_ n1_; (try clear hb); (try clear hb2); (try clear hk); (try clear hi)))
                              go_meet
                              case rel => exact ⟨_, (x3_2 ++ t593), (by first | rfl | (simp; done) | (simp [*]; done)), H', ⟨by have := HK1.out; have := HK2.out; first | omega | exact Nat.le_refl _⟩, ⟨by (with_reducible repeat (first | refine blk_drewN ?_ _ | refine blk_drew ?_ | refine blk_alloc ?_ _)); exact BK588.out⟩, ⟨by repeat (first | (with_reducible first | exact HB.out | apply below_alloc | apply pw_below_drewN | apply below_drew1 | refine below_set ?_ GE588.out) | exact HB.out)⟩⟩
                            · rw [if_neg c31] at H
                              exact absurd H (by simp)
                        case rest =>
                          clear HC27
                          try clear c1
                          try clear c2
                          try clear p2
                          try clear c3
                          try clear c4
                          try clear c5
                          try clear p5
                          try clear q5
                          try clear hx5
                          try clear p6
                          try clear c7
                          try clear c7b0
                          try clear c8
                          try clear c8b0
                          try clear c9
                          try clear c9b0
                          try clear c12
                          try clear c12b0
                          try clear c12b1
                          try clear c12b2
                          try clear c13
                          try clear c13b0
                          try clear c13b1
                          try clear c13b2
                          try clear c16
                          try clear c21
                          try clear c21b0
                          try clear c22
                          try clear c22b0
                          try clear c23
                          try clear c23b0
                          try clear c25
                          try clear c25b0
                          try clear c25b1
                          try clear c25b2
                          try clear c29
                          try clear c29b0
                          try clear c29b1
                          try clear c31
                          try clear c31b0
                          try clear c31b1
                          try clear c31b2
                          try clear hcz15_0
                          try clear hcz15_1
                          try clear hcz15_2
                          try clear hcz15_3
                          try clear hcz15_4
                          try clear hcz20_0
                          try clear hcz20_1
                          try clear hcz20_2
                          try clear hcz20_3
                          try clear hcz20_4
                          try clear hcz28_0
                          try clear hcz28_1
                          try clear hcz28_2
                          try clear hcz28_3
                          try clear hcz28_4
                          try clear hcz32_0
                          try clear hcz32_1
                          try clear hcz32_2
                          try clear hcz32_3
                          try clear hcz32_4
                          try clear hfz15_0
                          try clear hfz15_1
                          try clear hfz15_2
                          try clear hfz15_3
                          try clear hfz15_4
                          try clear hfz20_0
                          try clear hfz20_1
                          try clear hfz20_2
                          try clear hfz20_3
                          try clear hfz20_4
                          try clear hfz28_0
                          try clear hfz28_1
                          try clear hfz28_2
                          try clear hfz28_3
                          try clear hfz28_4
                          try clear hfz32_0
                          try clear hfz32_1
                          try clear hfz32_2
                          try clear hfz32_3
                          try clear hfz32_4
                          try clear hx587_0
                          try clear hx587_1
                          try clear hx587_2
                          try clear hx587_3
                          try clear hx587_4
                          try clear hx591_0
                          try clear p2
                          try clear p5
                          try clear p587
                          try clear p591
                          try clear q5
                          try clear q587
                          try clear q591
                          obtain ⟨kq, x3_26, rfl, HA, HJ26, BK588, HB⟩ := hcut
                          cases kq with
                          | zero => exact absurd HA.out (by simp [impl_PutScript.j2])
                          | succ kj26 =>
                            have H := HA.out
                            clear HA
                            simp only [impl_PutScript.j2] at H
                            by_cases c34 : ((rd_T68 l0 x16_1).f0) = 3
                            · rw [if_pos c34] at H
                              have c34b0 : (((rd_T68 l0 x16_1).f0) == 3) = true := beq_iff_eq.mpr c34
                              have c34b1 : (((rd_T68 l0 x16_1).f0) != 3) = false := bne_eq_false_iff_eq.mpr c34
                              clear c34
                              replace H := Option.bind_eq_some_iff.mp H
                              obtain ⟨t594, A350, H⟩ := H
                              replace H : ((impl_Var.f kj26 ((rd_T68 l0 x16_1).f4)).bind fun t595 => (if t594.size + t595.size ≤ 9223372036854775807 then (if x3_26.size + (t594 ++ t595).size ≤ 9223372036854775807 then (impl_PutScript.l0 kj26 (x3_26 ++ (t594 ++ t595)) l0 (l0.length : Int) (wrap64 (x16_1 + 1))) else (none)) else (none))) = some r := H
                              have A35 := Aside0.mk A350
                              clear A350
                              replace H := Option.bind_eq_some_iff.mp H
                              obtain ⟨t595, A360, H⟩ := H
                              replace H : (if t594.size + t595.size ≤ 9223372036854775807 then (if x3_26.size + (t594 ++ t595).size ≤ 9223372036854775807 then (impl_PutScript.l0 kj26 (x3_26 ++ (t594 ++ t595)) l0 (l0.length : Int) (wrap64 (x16_1 + 1))) else (none)) else (none)) = some r := H
                              have A36 := Aside0.mk A360
                              clear A360
                              by_cases c37 : t594.size + t595.size ≤ 9223372036854775807
                              · rw [if_pos c37] at H
                                have c37b0 := eq_true c37
                                have c37b1 : decide (t594.size + t595.size ≤ 9223372036854775807) = true := decide_eq_true c37
                                try have c37b2 : (9223372036854775807 < t594.size + t595.size) = False := eq_false (Nat.not_lt.2 c37)
                                by_cases c38 : x3_26.size + (t594 ++ t595).size ≤ 9223372036854775807
                                · rw [if_pos c38] at H
                                  have c38b0 := eq_true c38
                                  have c38b1 : decide (x3_26.size + (t594 ++ t595).size ≤ 9223372036854775807) = true := decide_eq_true c38
                                  try have c38b2 : (9223372036854775807 < x3_26.size + (t594 ++ t595).size) = False := eq_false (Nat.not_lt.2 c38)
                                  try have c38b3 : (9223372036854775807 < x3_26.size + (t594.size + t595.size)) = False := eq_false (Nat.not_lt.2 (by have z_ := c38; rw [ByteArray.size_append] at z_; exact z_))
                                  have H' := Aside0.mk H
                                  clear H
                                  have hcz39_0 : wc.cell? ⟨gb588, 0, none⟩ = some (.int .i64 ((rd_T68 l0 x16_1).f0)) := (blk_cell BK588.out 0).trans rfl
                                  have hcz39_1 : wc.cell? ⟨gb588, 1, none⟩ = some (.slice A587_1 ((rd_T68 l0 x16_1).f1).length c587_1) := (blk_cell BK588.out 1).trans rfl
                                  have hcz39_2 : wc.cell? ⟨gb588, 2, none⟩ = some (.int .i64 ((rd_T68 l0 x16_1).f2)) := (blk_cell BK588.out 2).trans rfl
                                  have hcz39_3 : wc.cell? ⟨gb588, 3, none⟩ = some (.int .i64 ((rd_T68 l0 x16_1).f3)) := (blk_cell BK588.out 3).trans rfl
                                  have hcz39_4 : wc.cell? ⟨gb588, 4, none⟩ = some (.int .i64 ((rd_T68 l0 x16_1).f4)) := (blk_cell BK588.out 4).trans rfl
                                  have hfz39_0 := blk_frozen BK588.out 0
                                  have hfz39_1 := blk_frozen BK588.out 1
                                  have hfz39_2 := blk_frozen BK588.out 2
                                  have hfz39_3 := blk_frozen BK588.out 3
                                  have hfz39_4 := blk_frozen BK588.out 4
                                  try go_wp2
                                  have n0_ := Aside0.mk (blk_drew BK588.out)
                                  have n1_ := Aside0.mk (below_drew1 HB.out)
                                  clear BK588
                                  clear HB
                                  have BK588 := n0_
                                  have HB := n1_
                                  clear n0_ n1_
                                  refine start_ (n := 10) (S := fun w' => w'.cell? ⟨gb588, 0, none⟩ = some (.int .i64 ((rd_T68 l0 x16_1).f0)) ∧ w'.cell? ⟨gb588, 1, none⟩ = some (.slice A587_1 ((rd_T68 l0 x16_1).f1).length c587_1) ∧ w'.cell? ⟨gb588, 2, none⟩ = some (.int .i64 ((rd_T68 l0 x16_1).f2)) ∧ w'.cell? ⟨gb588, 3, none⟩ = some (.int .i64 ((rd_T68 l0 x16_1).f3)) ∧ w'.cell? ⟨gb588, 4, none⟩ = some (.int .i64 ((rd_T68 l0 x16_1).f4))) (ds := []) #[false, false, false, false, false, false, false, false, false, false] (by kernel_rfl) rfl rfl ⟨(blk_cell BK588.out 0).trans rfl, (blk_cell BK588.out 1).trans rfl, (blk_cell BK588.out 2).trans rfl, (blk_cell BK588.out 3).trans rfl, (blk_cell BK588.out 4).trans rfl⟩ (fun hHeld => ?_); refine with_tabW impl_PutScript.tab16 impl_PutScript.bits16 (fun HT_ HW_ => ?_)
                                  generalize wc.drew = w40 at BK588 HB hHeld ⊢
                                  refine pure_ (i := 0) (N := some 53) (v := ?_) (a' := ?_) #[true, false, false, false, false, false, false, false, false, false] rfl rfl (any_of HT_.out (by kernel_rfl)) (fun _ _ _ h => h) (Or.inl ⟨by rfl, ?_⟩) ?_ ?_
                                  rotate_left
                                  · intro w'
                                    go_simp
                                    with_reducible rfl
                                  rotate_left
                                  · simp only [Act.put, List.setIfInBounds_toArray, List.set_cons_zero, List.set_cons_succ, i64_w, i32_w]
                                    rfl
                                  refine pure_ (i := 1) (N := some 54) (v := ?_) (a' := ?_) #[true, true, false, false, false, false, false, false, false, false] rfl rfl (any_of HT_.out (by kernel_rfl)) (fun _ _ _ h => h) (Or.inl ⟨by rfl, ?_⟩) ?_ ?_
                                  rotate_left
                                  · intro w'
                                    go_simp
                                    with_reducible rfl
                                  rotate_left
                                  · simp only [Act.put, List.setIfInBounds_toArray, List.set_cons_zero, List.set_cons_succ, i64_w, i32_w]
                                    rfl
                                  refine pure_ (i := 4) (N := some 57) (v := ?_) (a' := ?_) #[true, true, false, false, true, false, false, false, false, false] rfl rfl (any_of HT_.out (by kernel_rfl)) (fun _ _ _ h => h) (Or.inl ⟨by rfl, ?_⟩) ?_ ?_
                                  rotate_left
                                  · intro w'
                                    go_simp
                                    with_reducible rfl
                                  rotate_left
                                  · simp only [Act.put, List.setIfInBounds_toArray, List.set_cons_zero, List.set_cons_succ, i64_w, i32_w]
                                    rfl
                                  refine take_ (i := 2) (N := some 55) (v := ?_) (a' := ?_) #[true, true, true, false, true, false, false, false, false, false] rfl rfl (take_ofW HT_.out HW_.out (by kernel_rfl)) (fun _ _ _ h => h) (Or.inl ⟨by rfl, ?_⟩) hHeld ?_ ?_
                                  rotate_left
                                  · rintro w' ⟨s0, s1, s2, s3, s4⟩
                                    go_simp
                                    with_reducible rfl
                                  rotate_left
                                  · simp only [Act.put, List.setIfInBounds_toArray, List.set_cons_zero, List.set_cons_succ, i64_w, i32_w]
                                    rfl
                                  refine take_ (i := 5) (N := some 58) (v := ?_) (a' := ?_) #[true, true, true, false, true, true, false, false, false, false] rfl rfl (take_ofW HT_.out HW_.out (by kernel_rfl)) (fun _ _ _ h => h) (Or.inl ⟨by rfl, ?_⟩) hHeld ?_ ?_
                                  rotate_left
                                  · rintro w' ⟨s0, s1, s2, s3, s4⟩
                                    go_simp
                                    with_reducible rfl
                                  rotate_left
                                  · simp only [Act.put, List.setIfInBounds_toArray, List.set_cons_zero, List.set_cons_succ, i64_w, i32_w]
                                    rfl
                                  refine one_ (i := 3) (N := some 56) #[true, true, true, true, true, true, false, false, false, false] rfl rfl (one_of HT_.out (by kernel_rfl)) (by decide) (fun K hK => ?_)
                                  refine goes_ Try.func87 (by kernel_rfl) rfl #[.int .i64 ((rd_T68 l0 x16_1).f3)] (by rfl) rfl rfl (by (try simp only [List.map_toArray, List.map_cons, List.map_nil]); first | done | rfl | (simp only [List.length_drop, List.length_take]; rfl)) ?_
                                  with_reducible refine (impl_Var.calls kj26 ((rd_T68 l0 x16_1).f3) t594 _ A35.out).mono ?_
                                  rintro e w41 ⟨rfl, hb⟩
                                  refine ⟨_, rfl, ?_⟩
                                  have n0_ := Aside0.mk (blk_below (g := gb588) (o := .cells #[.int .i64 ((rd_T68 l0 x16_1).f0), .slice A587_1 ((rd_T68 l0 x16_1).f1).length c587_1, .int .i64 ((rd_T68 l0 x16_1).f2), .int .i64 ((rd_T68 l0 x16_1).f3), .int .i64 ((rd_T68 l0 x16_1).f4)] 68 (0, 0)) (by (with_reducible repeat (first | refine blk_drewN ?_ _ | refine blk_drew ?_ | refine blk_alloc ?_ _)); exact BK588.out) hb)
                                  have n1_ := Aside0.mk (below_step (by repeat (first | (with_reducible first | exact HB.out | apply below_alloc | apply pw_below_drewN | apply below_drew1 | refine below_set ?_ GE588.out) | exact HB.out)) hb)
                                  clear BK588
                                  clear HB
                                  have BK588 := n0_
                                  have HB := n1_
                                  clear n0_ n1_
                                  (try clear hb)
                                  (try clear hb2)
                                  (try clear hk)
                                  (try clear hi)
                                  refine hK.out _ _ ⟨(blk_cell BK588.out 0).trans rfl, (blk_cell BK588.out 1).trans rfl, (blk_cell BK588.out 2).trans rfl, (blk_cell BK588.out 3).trans rfl, (blk_cell BK588.out 4).trans rfl⟩ (fun hHeld => ?_)
                                  clear hK K
                                  refine norm_ (a' := ?_) ?_ ?_
                                  rotate_left
                                  · show Act.put _ (some 56) _ = _
                                    simp only [Act.put, List.setIfInBounds_toArray, List.set_cons_zero, List.set_cons_succ, i64_w, i32_w]
                                    rfl
                                  refine one_ (i := 6) (N := some 59) #[true, true, true, true, true, true, true, false, false, false] rfl rfl (one_of HT_.out (by kernel_rfl)) (by decide) (fun K hK => ?_)
                                  refine goes_ Try.func87 (by kernel_rfl) rfl #[.int .i64 ((rd_T68 l0 x16_1).f4)] (by rfl) rfl rfl (by (try simp only [List.map_toArray, List.map_cons, List.map_nil]); first | done | rfl | (simp only [List.length_drop, List.length_take]; rfl)) ?_
                                  with_reducible refine (impl_Var.calls kj26 ((rd_T68 l0 x16_1).f4) t595 _ A36.out).mono ?_
                                  rintro e w42 ⟨rfl, hb⟩
                                  refine ⟨_, rfl, ?_⟩
                                  have n0_ := Aside0.mk (blk_below (g := gb588) (o := .cells #[.int .i64 ((rd_T68 l0 x16_1).f0), .slice A587_1 ((rd_T68 l0 x16_1).f1).length c587_1, .int .i64 ((rd_T68 l0 x16_1).f2), .int .i64 ((rd_T68 l0 x16_1).f3), .int .i64 ((rd_T68 l0 x16_1).f4)] 68 (0, 0)) (by (with_reducible repeat (first | refine blk_drewN ?_ _ | refine blk_drew ?_ | refine blk_alloc ?_ _)); exact BK588.out) hb)
                                  have n1_ := Aside0.mk (below_step (by repeat (first | (with_reducible first | exact HB.out | apply below_alloc | apply pw_below_drewN | apply below_drew1 | refine below_set ?_ GE588.out) | exact HB.out)) hb)
                                  clear BK588
                                  clear HB
                                  have BK588 := n0_
                                  have HB := n1_
                                  clear n0_ n1_
                                  (try clear hb)
                                  (try clear hb2)
                                  (try clear hk)
                                  (try clear hi)
                                  refine hK.out _ _ ⟨(blk_cell BK588.out 0).trans rfl, (blk_cell BK588.out 1).trans rfl, (blk_cell BK588.out 2).trans rfl, (blk_cell BK588.out 3).trans rfl, (blk_cell BK588.out 4).trans rfl⟩ (fun hHeld => ?_)
                                  clear hK K
                                  refine norm_ (a' := ?_) ?_ ?_
                                  rotate_left
                                  · show Act.put _ (some 59) _ = _
                                    simp only [Act.put, List.setIfInBounds_toArray, List.set_cons_zero, List.set_cons_succ, i64_w, i32_w]
                                    rfl
                                  refine pure_ (i := 7) (N := some 60) (v := ?_) (a' := ?_) #[true, true, true, true, true, true, true, true, false, false] rfl rfl (any_of HT_.out (by kernel_rfl)) (fun _ _ _ h => h) (Or.inl ⟨by rfl, ?_⟩) ?_ ?_
                                  rotate_left
                                  · intro w'
                                    go_simp
                                    with_reducible rfl
                                  rotate_left
                                  · simp only [Act.put, List.setIfInBounds_toArray, List.set_cons_zero, List.set_cons_succ, i64_w, i32_w]
                                    rfl
                                  refine pure_ (i := 8) (N := some 61) (v := ?_) (a' := ?_) #[true, true, true, true, true, true, true, true, true, false] rfl rfl (any_of HT_.out (by kernel_rfl)) (fun _ _ _ h => h) (Or.inl ⟨by rfl, ?_⟩) ?_ ?_
                                  rotate_left
                                  · intro w'
                                    go_simp
                                    with_reducible rfl
                                  rotate_left
                                  · simp only [Act.put, List.setIfInBounds_toArray, List.set_cons_zero, List.set_cons_succ, i64_w, i32_w]
                                    rfl
                                  refine pure_ (i := 9) (N := some 3) (v := ?_) (a' := ?_) #[true, true, true, true, true, true, true, true, true, true] rfl rfl (any_of HT_.out (by kernel_rfl)) (fun _ _ _ h => h) (Or.inl ⟨by rfl, ?_⟩) ?_ ?_
                                  rotate_left
                                  · intro w'
                                    go_simp
                                    with_reducible rfl
                                  rotate_left
                                  · simp only [Act.put, List.setIfInBounds_toArray, List.set_cons_zero, List.set_cons_succ, i64_w, i32_w]
                                    rfl
                                  refine done_ (done_of HT_.out (by kernel_rfl)) ?_
                                  try go_wp2
                                  go_roundg kj26
                                  case measure => have := HK1.out; have := HK2.out; have := HJ26.out; omega
                                  case rel => exact ⟨(x3_26 ++ (t594 ++ t595)), (wrap64 (x16_1 + 1)), (by first | rfl | (simp; done) | (simp [*]; done)), (by first | rfl | (simp; done) | (simp [*]; done)), H', ⟨by have := HK1.out; have := HK2.out; have := HJ26.out; omega⟩, ⟨by repeat (first | (with_reducible first | exact HB.out | apply below_alloc | apply pw_below_drewN | apply below_drew1 | refine below_set ?_ GE588.out) | exact HB.out)⟩⟩
                                · rw [if_neg c38] at H
                                  exact absurd H (by simp)
                              · rw [if_neg c37] at H
                                exact absurd H (by simp)
                            · rw [if_neg c34] at H
                              have c34b0 : (((rd_T68 l0 x16_1).f0) == 3) = false := beq_eq_false_iff_ne.mpr c34
                              have c34b1 : (((rd_T68 l0 x16_1).f0) != 3) = true := bne_iff_ne.mpr c34
                              have H' := Aside0.mk H
                              clear H
                              have hcz43_0 : wc.cell? ⟨gb588, 0, none⟩ = some (.int .i64 ((rd_T68 l0 x16_1).f0)) := (blk_cell BK588.out 0).trans rfl
                              have hcz43_1 : wc.cell? ⟨gb588, 1, none⟩ = some (.slice A587_1 ((rd_T68 l0 x16_1).f1).length c587_1) := (blk_cell BK588.out 1).trans rfl
                              have hcz43_2 : wc.cell? ⟨gb588, 2, none⟩ = some (.int .i64 ((rd_T68 l0 x16_1).f2)) := (blk_cell BK588.out 2).trans rfl
                              have hcz43_3 : wc.cell? ⟨gb588, 3, none⟩ = some (.int .i64 ((rd_T68 l0 x16_1).f3)) := (blk_cell BK588.out 3).trans rfl
                              have hcz43_4 : wc.cell? ⟨gb588, 4, none⟩ = some (.int .i64 ((rd_T68 l0 x16_1).f4)) := (blk_cell BK588.out 4).trans rfl
                              have hfz43_0 := blk_frozen BK588.out 0
                              have hfz43_1 := blk_frozen BK588.out 1
                              have hfz43_2 := blk_frozen BK588.out 2
                              have hfz43_3 := blk_frozen BK588.out 3
                              have hfz43_4 := blk_frozen BK588.out 4
                              go_wp2
                              go_roundg kj26
                              case measure => have := HK1.out; have := HK2.out; have := HJ26.out; omega
                              case rel => exact ⟨(x3_26), (wrap64 (x16_1 + 1)), (by first | rfl | (simp; done) | (simp [*]; done)), (by first | rfl | (simp; done) | (simp [*]; done)), H', ⟨by have := HK1.out; have := HK2.out; have := HJ26.out; omega⟩, ⟨by repeat (first | (with_reducible first | exact HB.out | apply below_alloc | apply pw_below_drewN | apply below_drew1 | refine below_set ?_ GE588.out) | exact HB.out)⟩⟩
                · rw [if_neg c13] at H
                  exact absurd H (by simp)
              · rw [if_neg c12] at H
                exact absurd H (by simp)
            · rw [if_neg c9] at H
              exact absurd H (by simp)
          · rw [if_neg c8] at H
            exact absurd H (by simp)
        · rw [if_neg c7] at H
          have c7b0 : decide (x16_1 < (l0.length : Int)) = false := decide_eq_false c7
          clear c7
          obtain rfl := Option.some.inj H
          go_wp2
          go_ret
          exact ⟨by first | rfl | (simp [errW_none, errW_some] <;> rfl) | (simp [*, errW_none, errW_some] <;> rfl), by repeat (first | (with_reducible first | exact HB.out | apply below_alloc | apply pw_below_drewN | apply below_drew1) | exact HB.out)⟩
  · replace c3 := Bool.eq_false_iff.mpr c3
    subst c3
    have H1 : (some (⟨#[]⟩ : ByteArray)) = some r := by rw [if_neg (show ¬ (false = true) by decide)] at H; exact H
    clear H
    have H := H1
    clear H1
    obtain rfl := Option.some.inj H
    go_enter Try.func41, Try.ntmps41
    go_wp2_with (first | ((with_reducible refine gate_callee (f := 16) rfl ?_); refine goesL_ (some 9) rfl rfl Try.func16 (by kernel_rfl) rfl #[.slice A0 l0.length c0] rfl (by (try simp only [List.map_toArray, List.map_cons, List.map_nil]); first | done | rfl | (simp only [List.length_drop, List.length_take]; rfl)) ?_; (with_reducible refine (impl_ScriptOk.calls _ _ l0 false _ ?side1 ?side2 A2.out).mono ?_); (case side1 => repeat (first | exact HR0.out | (with_reducible refine Kd.C_alloc ?_ _) | (with_reducible refine Kd.C_drewN ?_ _) | (with_reducible refine Kd.C_drew ?_))); (case side2 => exact HC0.out); rintro e w44 ⟨rfl, hb⟩; refine ⟨_, rfl, ?_⟩; have n0_ := Aside0.mk (below_step (by repeat (first | (with_reducible first | exact HB.out | apply below_alloc | apply pw_below_drewN | apply below_drew1) | exact HB.out)) hb); clear HB; have HB := n0_; clear n0_; (try clear hb); (try clear hb2); (try clear hk); (try clear hi)))
    go_ret
    exact ⟨by first | rfl | (simp [errW_none, errW_some] <;> rfl) | (simp [*, errW_none, errW_some] <;> rfl), by repeat (first | (with_reducible first | exact HB.out | apply below_alloc | apply pw_below_drewN | apply below_drew1) | exact HB.out)⟩
end Go.Proofs.Ytmipigipfmcneaa.X
namespace Go.Proofs.Ytmipigipfmcneaa.X
open Go.RowKit Go.Proofs.YtmipigipfmcneaaW.PrintWords Go.Proofs.YtmipigipfmcneaaW.PrintLast Go.Proofs.YtmipigipfmcneaaW.PrintMore
attribute [local go_sem] max2_int min2_int max_two min_two max_three min_three max_four min_four   -- for this text's walks alone
set_option linter.unusedVariables false
set_option linter.unusedSimpArgs false
def laws_FnExactPutScript.f (k : Nat) (l0 : List (S66)) : Option (Bool) := (laws_szOpS.f k l0 1048576).bind fun t596 => (if t596 < 0 then (some true) else ((laws_toOpS.f k l0).bind fun t597 => ((spec_PutScript.f k t597).bind fun t600 => ((laws_toOpS.f k l0).bind fun t601 => ((impl_PutScript.f k t601).bind fun t604 => (if t604.toList = t600.toList then ((laws_toOpS.f k l0).bind fun t605 => ((laws_eqOpS.f k t601 t605).bind fun t608 => (if t608 = true then (some true) else (some false)))) else (some false)))))))
set_option maxHeartbeats 8000000 in
set_option maxRecDepth 100000 in
theorem laws_FnExactPutScript.calls (k : Nat) (A0 : Option Addr) (c0 : Nat) (l0 : List (S66)) (w : World) (hr0 : Kd.C k66 w A0 l0.length l0) (hc0 : l0.length ≤ c0) (h : laws_FnExactPutScript.f k l0 = some true) :
    Calls Try.prog 9 #[.slice A0 l0.length c0] w fun e w' => e = .returned (.bool true) ∧ Below w.heap.size w w' := by
  have HR0 := Aside0.mk hr0
  have HC0 := Aside0.mk hc0
  clear hr0 hc0
  have HB := Aside0.mk (Below.refl w.heap.size w)
  have H : ((laws_szOpS.f k l0 1048576).bind fun t596 => (if t596 < 0 then (some true) else ((laws_toOpS.f k l0).bind fun t597 => ((spec_PutScript.f k t597).bind fun t600 => ((laws_toOpS.f k l0).bind fun t601 => ((impl_PutScript.f k t601).bind fun t604 => (if t604.toList = t600.toList then ((laws_toOpS.f k l0).bind fun t605 => ((laws_eqOpS.f k t601 t605).bind fun t608 => (if t608 = true then (some true) else (some false)))) else (some false)))))))) = some true := h
  clear h
  replace H := Option.bind_eq_some_iff.mp H
  obtain ⟨t596, A20, H⟩ := H
  try dsimp only at H
  have A2 := Aside0.mk A20
  clear A20
  by_cases c3 : t596 < 0
  · rw [if_pos c3] at H
    have c3b0 : decide (t596 < 0) = true := decide_eq_true c3
    clear c3
    clear H
    go_enter Try.func9, Try.ntmps9
    go_wp2_with (first | ((with_reducible refine gate_callee (f := 13) rfl ?_); refine goesL_ (some 9) rfl rfl Try.func13 (by kernel_rfl) rfl #[.slice A0 l0.length c0, .int .i64 1048576] rfl (by (try simp only [List.map_toArray, List.map_cons, List.map_nil]); first | done | rfl | (simp only [List.length_drop, List.length_take]; rfl)) ?_; (with_reducible refine (laws_szOpS.calls k _ _ l0 1048576 t596 _ ?side1 ?side2 A2.out).mono ?_); (case side1 => repeat (first | exact HR0.out | (with_reducible refine Kd.C_alloc ?_ _) | (with_reducible refine Kd.C_drewN ?_ _) | (with_reducible refine Kd.C_drew ?_))); (case side2 => exact HC0.out); rintro e w4 ⟨rfl, hb⟩; refine ⟨_, rfl, ?_⟩; have n0_ := Aside0.mk (below_step (by repeat (first | (with_reducible first | exact HB.out | apply below_alloc | apply pw_below_drewN | apply below_drew1) | exact HB.out)) hb); clear HB; have HB := n0_; clear n0_; (try clear hb); (try clear hb2); (try clear hk); (try clear hi)))
    go_ret
    exact ⟨by first | rfl | (simp [errW_none, errW_some] <;> rfl) | (simp [*, errW_none, errW_some] <;> rfl), by repeat (first | (with_reducible first | exact HB.out | apply below_alloc | apply pw_below_drewN | apply below_drew1) | exact HB.out)⟩
  · rw [if_neg c3] at H
    have c3b0 : decide (t596 < 0) = false := decide_eq_false c3
    clear c3
    replace H := Option.bind_eq_some_iff.mp H
    obtain ⟨t597, A50, H⟩ := H
    try dsimp only at H
    have A5 := Aside0.mk A50
    clear A50
    replace H := Option.bind_eq_some_iff.mp H
    obtain ⟨t600, A60, H⟩ := H
    try dsimp only at H
    have A6 := Aside0.mk A60
    clear A60
    replace H := Option.bind_eq_some_iff.mp H
    obtain ⟨t601, A70, H⟩ := H
    try dsimp only at H
    have A7 := Aside0.mk A70
    clear A70
    replace H := Option.bind_eq_some_iff.mp H
    obtain ⟨t604, A80, H⟩ := H
    try dsimp only at H
    have A8 := Aside0.mk A80
    clear A80
    by_cases c9 : t604.toList = t600.toList
    · rw [if_pos c9] at H
      have c9b0 : (t604.toList == t600.toList) = true := beq_iff_eq.mpr c9
      have c9b1 : (t604.toList != t600.toList) = false := bne_eq_false_iff_eq.mpr c9
      clear c9
      replace H := Option.bind_eq_some_iff.mp H
      obtain ⟨t605, A100, H⟩ := H
      replace H : ((laws_eqOpS.f k t601 t605).bind fun t608 => (if t608 = true then (some true) else (some false))) = some true := H
      have A10 := Aside0.mk A100
      clear A100
      replace H := Option.bind_eq_some_iff.mp H
      obtain ⟨t608, A110, H⟩ := H
      replace H : (if t608 = true then (some true) else (some false)) = some true := H
      have A11 := Aside0.mk A110
      clear A110
      by_cases c12 : t608 = true
      · subst c12
        have H1 : (some true) = some true := rfl
        clear H
        have H := H1
        clear H1
        clear H
        go_enter Try.func9, Try.ntmps9
        go_wp2_with (first | ((with_reducible refine gate_callee (f := 13) rfl ?_); refine goesL_ (some 9) rfl rfl Try.func13 (by kernel_rfl) rfl #[.slice A0 l0.length c0, .int .i64 1048576] rfl (by (try simp only [List.map_toArray, List.map_cons, List.map_nil]); first | done | rfl | (simp only [List.length_drop, List.length_take]; rfl)) ?_; (with_reducible refine (laws_szOpS.calls k _ _ l0 1048576 t596 _ ?side1 ?side2 A2.out).mono ?_); (case side1 => repeat (first | exact HR0.out | (with_reducible refine Kd.C_alloc ?_ _) | (with_reducible refine Kd.C_drewN ?_ _) | (with_reducible refine Kd.C_drew ?_))); (case side2 => exact HC0.out); rintro e w13 ⟨rfl, hb⟩; refine ⟨_, rfl, ?_⟩; have n0_ := Aside0.mk (below_step (by repeat (first | (with_reducible first | exact HB.out | apply below_alloc | apply pw_below_drewN | apply below_drew1) | exact HB.out)) hb); clear HB; have HB := n0_; clear n0_; (try clear hb); (try clear hb2); (try clear hk); (try clear hi)) | ((with_reducible refine gate_callee (f := 15) rfl ?_); refine goesL_ (some 13) rfl rfl Try.func15 (by kernel_rfl) rfl #[.slice A0 l0.length c0] rfl (by (try simp only [List.map_toArray, List.map_cons, List.map_nil]); first | done | rfl | (simp only [List.length_drop, List.length_take]; rfl)) ?_; (with_reducible refine (laws_toOpS.calls k _ _ l0 t597 _ ?side1 ?side2 A5.out).mono ?_); (case side1 => repeat (first | exact (Kd.C_below HR0.out HB.out) | (with_reducible refine Kd.C_alloc ?_ _) | (with_reducible refine Kd.C_drewN ?_ _) | (with_reducible refine Kd.C_drew ?_))); (case side2 => exact HC0.out); rintro e w14 ⟨v598, rfl, ho0, hb⟩; refine ⟨_, rfl, ?_⟩; have n0_ := Aside0.mk (Kd.S_lower ho0 (below_size (by repeat (first | (with_reducible first | exact HB.out | apply below_alloc | apply pw_below_drewN | apply below_drew1) | exact HB.out)))); have n1_ := Aside0.mk (below_step (by repeat (first | (with_reducible first | exact HB.out | apply below_alloc | apply pw_below_drewN | apply below_drew1) | exact HB.out)) hb); clear HB; have HO599 := n0_; have HB := n1_; clear n0_ n1_; (try clear hb); (try clear hb2); (try clear hk); (try clear hi); (try clear ho0); obtain ⟨Ao15, co15, eo15⟩ := Kd.S_slice HO599.out; subst eo15) | ((with_reducible refine gate_callee (f := 40) rfl ?_); refine goesL_ (some 14) rfl rfl Try.func40 (by kernel_rfl) rfl #[.slice Ao15 t597.length co15] rfl (by (try simp only [List.map_toArray, List.map_cons, List.map_nil]); first | done | rfl | (simp only [List.length_drop, List.length_take]; rfl)) ?_; (with_reducible refine (spec_PutScript.calls k _ _ t597 t600 _ ?side1 ?side2 A6.out).mono ?_); (case side1 => repeat (first | exact (Kd.S_reads' HO599.out).2.2 | (with_reducible refine Kd.C_alloc ?_ _) | (with_reducible refine Kd.C_drewN ?_ _) | (with_reducible refine Kd.C_drew ?_))); (case side2 => exact (Kd.S_reads' HO599.out).2.1); rintro e w16 ⟨rfl, hb⟩; refine ⟨_, rfl, ?_⟩; have n0_ := Aside0.mk (Kd.S_below (by (with_reducible repeat (first | apply Kd.S_alloc | apply Kd.S_drewN | apply Kd.S_drew)); exact HO599.out) hb); have n1_ := Aside0.mk (below_step (by repeat (first | (with_reducible first | exact HB.out | apply below_alloc | apply pw_below_drewN | apply below_drew1) | exact HB.out)) hb); clear HO599; clear HB; have HO599 := n0_; have HB := n1_; clear n0_ n1_; (try clear hb); (try clear hb2); (try clear hk); (try clear hi)) | ((with_reducible refine gate_callee (f := 15) rfl ?_); refine goesL_ (some 16) rfl rfl Try.func15 (by kernel_rfl) rfl #[.slice A0 l0.length c0] rfl (by (try simp only [List.map_toArray, List.map_cons, List.map_nil]); first | done | rfl | (simp only [List.length_drop, List.length_take]; rfl)) ?_; (with_reducible refine (laws_toOpS.calls k _ _ l0 t601 _ ?side1 ?side2 A7.out).mono ?_); (case side1 => repeat (first | exact (Kd.C_below HR0.out HB.out) | (with_reducible refine Kd.C_alloc ?_ _) | (with_reducible refine Kd.C_drewN ?_ _) | (with_reducible refine Kd.C_drew ?_))); (case side2 => exact HC0.out); rintro e w17 ⟨v602, rfl, ho0, hb⟩; refine ⟨_, rfl, ?_⟩; have n0_ := Aside0.mk (Kd.S_elder' (by (with_reducible repeat (first | apply Kd.S_alloc | apply Kd.S_drewN | apply Kd.S_drew)); exact HO599.out) (Kd.S_base ho0) hb); have n1_ := Aside0.mk (Kd.S_lower (Kd.S_new' ho0 (Kd.S_lt (by (with_reducible repeat (first | apply Kd.S_alloc | apply Kd.S_drewN | apply Kd.S_drew)); exact HO599.out))) (below_size (by repeat (first | (with_reducible first | exact HB.out | apply below_alloc | apply pw_below_drewN | apply below_drew1) | exact HB.out)))); have n2_ := Aside0.mk (below_step (by repeat (first | (with_reducible first | exact HB.out | apply below_alloc | apply pw_below_drewN | apply below_drew1) | exact HB.out)) hb); clear HO599; clear HB; have HO599 := n0_; have HO603 := n1_; have HB := n2_; clear n0_ n1_ n2_; (try clear hb); (try clear hb2); (try clear hk); (try clear hi); (try clear ho0); obtain ⟨Ao18, co18, eo18⟩ := Kd.S_slice HO603.out; subst eo18) | ((with_reducible refine gate_callee (f := 41) rfl ?_); refine goesL_ (some 18) rfl rfl Try.func41 (by kernel_rfl) rfl #[.slice Ao18 t601.length co18] rfl (by (try simp only [List.map_toArray, List.map_cons, List.map_nil]); first | done | rfl | (simp only [List.length_drop, List.length_take]; rfl)) ?_; (with_reducible refine (impl_PutScript.calls k _ _ t601 t604 _ ?side1 ?side2 A8.out).mono ?_); (case side1 => repeat (first | exact (Kd.S_reads' HO603.out).2.2 | (with_reducible refine Kd.C_alloc ?_ _) | (with_reducible refine Kd.C_drewN ?_ _) | (with_reducible refine Kd.C_drew ?_))); (case side2 => exact (Kd.S_reads' HO603.out).2.1); rintro e w19 ⟨rfl, hb⟩; refine ⟨_, rfl, ?_⟩; have n0_ := Aside0.mk (Kd.S_below (by (with_reducible repeat (first | apply Kd.S_alloc | apply Kd.S_drewN | apply Kd.S_drew)); exact HO599.out) hb); have n1_ := Aside0.mk (Kd.S_below (by (with_reducible repeat (first | apply Kd.S_alloc | apply Kd.S_drewN | apply Kd.S_drew)); exact HO603.out) hb); have n2_ := Aside0.mk (below_step (by repeat (first | (with_reducible first | exact HB.out | apply below_alloc | apply pw_below_drewN | apply below_drew1) | exact HB.out)) hb); clear HO599; clear HO603; clear HB; have HO599 := n0_; have HO603 := n1_; have HB := n2_; clear n0_ n1_ n2_; (try clear hb); (try clear hb2); (try clear hk); (try clear hi)) | ((with_reducible refine gate_callee (f := 15) rfl ?_); refine goesL_ (some 24) rfl rfl Try.func15 (by kernel_rfl) rfl #[.slice A0 l0.length c0] rfl (by (try simp only [List.map_toArray, List.map_cons, List.map_nil]); first | done | rfl | (simp only [List.length_drop, List.length_take]; rfl)) ?_; (with_reducible refine (laws_toOpS.calls k _ _ l0 t605 _ ?side1 ?side2 A10.out).mono ?_); (case side1 => repeat (first | exact (Kd.C_below HR0.out HB.out) | (with_reducible refine Kd.C_alloc ?_ _) | (with_reducible refine Kd.C_drewN ?_ _) | (with_reducible refine Kd.C_drew ?_))); (case side2 => exact HC0.out); rintro e w20 ⟨v606, rfl, ho0, hb⟩; refine ⟨_, rfl, ?_⟩; have n0_ := Aside0.mk (Kd.S_elder' (by (with_reducible repeat (first | apply Kd.S_alloc | apply Kd.S_drewN | apply Kd.S_drew)); exact HO599.out) (Kd.S_base ho0) hb); have n1_ := Aside0.mk (Kd.S_elder' (by (with_reducible repeat (first | apply Kd.S_alloc | apply Kd.S_drewN | apply Kd.S_drew)); exact HO603.out) (Kd.S_base ho0) hb); have n2_ := Aside0.mk (Kd.S_lower (Kd.S_new' (Kd.S_new' ho0 (Kd.S_lt (by (with_reducible repeat (first | apply Kd.S_alloc | apply Kd.S_drewN | apply Kd.S_drew)); exact HO599.out))) (Kd.S_lt (by (with_reducible repeat (first | apply Kd.S_alloc | apply Kd.S_drewN | apply Kd.S_drew)); exact HO603.out))) (below_size (by repeat (first | (with_reducible first | exact HB.out | apply below_alloc | apply pw_below_drewN | apply below_drew1) | exact HB.out)))); have n3_ := Aside0.mk (below_step (by repeat (first | (with_reducible first | exact HB.out | apply below_alloc | apply pw_below_drewN | apply below_drew1) | exact HB.out)) hb); clear HO599; clear HO603; clear HB; have HO599 := n0_; have HO603 := n1_; have HO607 := n2_; have HB := n3_; clear n0_ n1_ n2_ n3_; (try clear hb); (try clear hb2); (try clear hk); (try clear hi); (try clear ho0); obtain ⟨Ao21, co21, eo21⟩ := Kd.S_slice HO607.out; subst eo21) | ((with_reducible refine gate_callee (f := 17) rfl ?_); refine goesL_ (some 25) rfl rfl Try.func17 (by kernel_rfl) rfl #[.slice Ao18 t601.length co18, .slice Ao21 t605.length co21] rfl (by (try simp only [List.map_toArray, List.map_cons, List.map_nil]); first | done | rfl | (simp only [List.length_drop, List.length_take]; rfl)) ?_; (with_reducible refine (laws_eqOpS.calls k _ _ t601 _ _ t605 true _ ?side1 ?side2 ?side3 ?side4 A11.out).mono ?_); (case side1 => repeat (first | exact (Kd.S_reads' HO603.out).2.2 | (with_reducible refine Kd.C_alloc ?_ _) | (with_reducible refine Kd.C_drewN ?_ _) | (with_reducible refine Kd.C_drew ?_))); (case side2 => exact (Kd.S_reads' HO603.out).2.1); (case side3 => repeat (first | exact (Kd.S_reads' HO607.out).2.2 | (with_reducible refine Kd.C_alloc ?_ _) | (with_reducible refine Kd.C_drewN ?_ _) | (with_reducible refine Kd.C_drew ?_))); (case side4 => exact (Kd.S_reads' HO607.out).2.1); rintro e w22 ⟨rfl, hb⟩; refine ⟨_, rfl, ?_⟩; have n0_ := Aside0.mk (Kd.S_below (by (with_reducible repeat (first | apply Kd.S_alloc | apply Kd.S_drewN | apply Kd.S_drew)); exact HO599.out) hb); have n1_ := Aside0.mk (Kd.S_below (by (with_reducible repeat (first | apply Kd.S_alloc | apply Kd.S_drewN | apply Kd.S_drew)); exact HO603.out) hb); have n2_ := Aside0.mk (Kd.S_below (by (with_reducible repeat (first | apply Kd.S_alloc | apply Kd.S_drewN | apply Kd.S_drew)); exact HO607.out) hb); have n3_ := Aside0.mk (below_step (by repeat (first | (with_reducible first | exact HB.out | apply below_alloc | apply pw_below_drewN | apply below_drew1) | exact HB.out)) hb); clear HO599; clear HO603; clear HO607; clear HB; have HO599 := n0_; have HO603 := n1_; have HO607 := n2_; have HB := n3_; clear n0_ n1_ n2_ n3_; (try clear hb); (try clear hb2); (try clear hk); (try clear hi)))
        go_ret
        exact ⟨by first | rfl | (simp [errW_none, errW_some] <;> rfl) | (simp [*, errW_none, errW_some] <;> rfl), by repeat (first | (with_reducible first | exact HB.out | apply below_alloc | apply pw_below_drewN | apply below_drew1) | exact HB.out)⟩
      · replace c12 := Bool.eq_false_iff.mpr c12
        subst c12
        have H1 : (some false) = some true := by rw [if_neg (show ¬ (false = true) by decide)] at H; exact H
        clear H
        have H := H1
        clear H1
        exact absurd H (by simp)
    · rw [if_neg c9] at H
      have c9b0 : (t604.toList == t600.toList) = false := beq_eq_false_iff_ne.mpr c9
      have c9b1 : (t604.toList != t600.toList) = true := bne_iff_ne.mpr c9
      exact absurd H (by simp)
end Go.Proofs.Ytmipigipfmcneaa.X
