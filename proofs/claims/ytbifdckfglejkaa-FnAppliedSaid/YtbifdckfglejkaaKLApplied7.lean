/- Part 7 of the proof of FnApplied: what it needs. -/
import Derived.WalkKit
import Derived.ProofKit
import Derived.OpenShut
import Derived.ShutString
import Derived.ChangeOld
import Derived.Below
import Derived.Deep.Slices
import Derived.Test.YtbifdckfglejkaaKLApplied4
import Derived.Test.YtbifdckfglejkaaKLApplied5
import Derived.Test.YtbifdckfglejkaaKLApplied6
namespace Go.Proofs.Ytbifdckfglejkaa.Rd
open Go.ChangeShapes Go.WideShapes Go.ChangeAt Go.RowKit Go.Proofs.YtbifdckfglejkaaW.PrintWords
structure Rd (P : Program) (t : TypeId) {α : Type} (d : Kd α) (wf : α → Prop) : Prop where
  size : P.cellsOf t = d.sz
  reads : ∀ {H : Type} {enc : TypeId × Value → H} {w : World} {spare : Nat → Bool} {held : Bool} {fuel : Nat} {cs : List Value} {x : DataW H × List MemPlace},
    DataW.trod enc P w 0 spare held fuel t cs = some x → ∃ y, d.K w y cs ∧ wf y
theorem rd_int {P : Program} {t : TypeId} {k : IntKind} (ht : P.underlying t = some (.int k)) (hc : P.cellsOf t = 1) : Rd P t (Kd.int k) (fun n => (Lit.int k n).wf = true) :=
  ⟨hc, fun h => by
    obtain ⟨n, rfl, _, hw⟩ := DataW.trod_int ht h
    exact ⟨n, rfl, hw⟩⟩
theorem rd_slice {P : Program} {t e : TypeId} {α : Type} [Inhabited α] {d : Kd α} {wf : α → Prop} (ht : P.underlying t = some (.slice e)) (hc : P.cellsOf t = 1) (h : Rd P e d wf) : Rd P t (Kd.slice e d) (fun xs => xs.length ≤ 9223372036854775807 ∧ ∀ x ∈ xs, wf x) :=
  ⟨hc, fun {H enc w spare held fuel cs x} hx => by
    rcases Go.Deep.open_slice ht hx with ⟨rfl, _⟩ | ⟨a, len, cap, m, n, D, Pl, rfl, _, hl, hm, hmm, _, hel⟩
    · exact ⟨[], ⟨none, 0, rfl, Nat.le_refl _, rfl, by simp, fun h => absurd h (Nat.lt_irrefl _)⟩, by simp, by simp⟩
    · have hle : len ≤ m := by rw [hmm]; split <;> omega
      obtain ⟨f, hf⟩ := Go.Deep.choose_lt (n := len) (p := fun i (y : α) => ∃ cs', w.cells? 0 (a.add (i * P.cellsOf e)) (P.cellsOf e) = some cs' ∧ d.K w y cs' ∧ wf y) (fun i hi => by
        obtain ⟨cs', h1, h2⟩ := hel i (by omega)
        obtain ⟨y, hy, hw⟩ := h.reads h2
        exact ⟨y, cs', h1, hy, hw⟩)
      have hlen : ((List.range len).map f).length = len := by simp
      refine ⟨(List.range len).map f, ⟨some a, cap, by rw [hlen], by rw [hlen]; exact hl, ?_⟩, by rw [hlen]; unfold maxLen at hm; omega, ?_⟩
      · refine ⟨rfl, by rw [hlen]; unfold maxLen at hm; omega, fun _ => ⟨a, rfl, fun j p hj => ?_⟩⟩
        have hj' : j < len ∧ f j = p := by
          rw [List.getElem?_map] at hj
          obtain ⟨i, hi, hp⟩ := Option.map_eq_some_iff.1 hj
          have := List.getElem?_eq_some_iff.1 hi
          obtain ⟨h1, h2⟩ := this
          simp at h1 h2
          subst h2
          exact ⟨h1, hp⟩
        obtain ⟨cs', h1, h2, _⟩ := hf j hj'.1
        rw [hj'.2] at h2
        obtain ⟨_, hn, hcell⟩ := World.cells?_some h1
        refine ⟨cs', d.K_len h2, h2, fun i u hu => ?_⟩
        have hi : i < cs'.length := (List.getElem?_eq_some_iff.1 hu).1
        have := hcell i (by omega)
        rw [Go.Deep.add_add, h.size] at this
        rw [this, hu]
      · intro x hx
        obtain ⟨i, hi, rfl⟩ := List.mem_map.1 hx
        obtain ⟨_, _, _, hw⟩ := hf i (by simpa using hi)
        exact hw⟩
theorem own : ownKnob Try.prog.godebug = none := by kernel_rfl
theorem laidOut : laidOutB Try.prog = true := by kernel_rfl
end Go.Proofs.Ytbifdckfglejkaa.Rd
namespace Go.Proofs.Ytbifdckfglejkaa.Rd
open Go.ChangeShapes Go.WideShapes Go.ChangeAt Go.RowKit Go.Proofs.YtbifdckfglejkaaW.PrintWords Go.Proofs.Ytbifdckfglejkaa.X
instance : Inhabited S143 := ⟨z143⟩
instance : Inhabited S120 := ⟨z120⟩
instance : Inhabited S124 := ⟨z124⟩
instance : Inhabited S63 := ⟨z63⟩
theorem rdt5 : Rd Try.prog 5 (Kd.int .u8) (fun n => (Lit.int .u8 n).wf = true) := rd_int Try.underlying5 (by kernel_rfl)
def WF83 (xs : (List Int)) : Prop := xs.length ≤ 9223372036854775807 ∧ ∀ x ∈ xs, (Lit.int .u8 x).wf = true
theorem rdt83 : Rd Try.prog 83 (Kd.slice 5 (Kd.int .u8)) WF83 := rd_slice Try.underlying83 (by kernel_rfl) rdt5
end Go.Proofs.Ytbifdckfglejkaa.Rd
namespace Go.Proofs.Ytbifdckfglejkaa.Q
open Go.RowKit Go.Proofs.YtbifdckfglejkaaW.PrintWords Go.Proofs.YtbifdckfglejkaaW.PrintLast Go.Proofs.YtbifdckfglejkaaW.PrintMore Go.Proofs.Ytbifdckfglejkaa.X Go.Proofs.Ytbifdckfglejkaa.Rd
set_option linter.unusedVariables false
set_option linter.unusedSimpArgs false
theorem wrap_id {x : Int} (h : -9223372036854775808 ≤ x) (h' : x ≤ 9223372036854775807) : wrap64 x = x := by
  unfold wrap64; omega
theorem wrap_succ {i n : Nat} (h : i < n) (hn : n ≤ 9223372036854775807) : wrap64 ((i : Int) + 1) = ((i + 1 : Nat) : Int) := by
  unfold wrap64; omega
theorem Ev.constOf {α : Type} {o : Option α} {r : α} (h : o = some r) : Ev (fun _ => o) r := ⟨0, fun _ _ => h⟩
theorem Ev.bindC {α β : Type} {o : Option α} {f : Nat → α → Option β} {a : α} {r : β} (h : o = some a) (k : Ev (fun n => f n a) r) : Ev (fun n => o.bind (f n)) r :=
  Ev.bind (Ev.constOf h) k
theorem Ev.ifT {α : Type} {c : Prop} [Decidable c] {g f : Nat → Option α} {r : α} (h : c) (k : Ev g r) : Ev (fun n => if c then g n else f n) r := by
  simpa only [if_pos h] using k
theorem Ev.ifF {α : Type} {c : Prop} [Decidable c] {g f : Nat → Option α} {r : α} (h : ¬ c) (k : Ev f r) : Ev (fun n => if c then g n else f n) r := by
  simpa only [if_neg h] using k
theorem ite_dec {α : Type} {p : Prop} [Decidable p] (a b : α) : (if decide p = true then a else b) = if p then a else b := by
  by_cases h : p <;> simp [h]
theorem getD_nat {α : Type} (xs : List α) (i : Nat) (d : α) (h : i < xs.length) : xs.getD ((i : Int)).toNat d = xs[i] := by
  rw [Int.toNat_natCast, List.getD_eq_getElem?_getD, List.getElem?_eq_getElem h]; rfl
theorem getD_lt {α : Type} (xs : List α) {i : Nat} (d : α) (h : i < xs.length) : xs.getD i d = xs[i] := by
  rw [List.getD_eq_getElem?_getD, List.getElem?_eq_getElem h]; rfl
theorem take_succ_append {α : Type} (l : List α) (i : Nat) (h : i < l.length) : l.take (i + 1) = l.take i ++ [l[i]] := List.take_succ_eq_append_getElem h
end Go.Proofs.Ytbifdckfglejkaa.Q
namespace Go.Proofs.Ytbifdckfglejkaa.Q
open Go.RowKit Go.Proofs.YtbifdckfglejkaaW.PrintWords Go.Proofs.YtbifdckfglejkaaW.PrintLast Go.Proofs.YtbifdckfglejkaaW.PrintMore Go.Proofs.Ytbifdckfglejkaa.X Go.Proofs.Ytbifdckfglejkaa.Rd
set_option linter.unusedVariables false
set_option linter.unusedSimpArgs false
theorem bits255 (n : Int) : Go.bits .and .i64 n 255 = n % 256 := by
  have h255 : (BitVec.ofInt 64 255).toNat = 2 ^ 8 - 1 := by decide
  have key : (BitVec.ofInt 64 n &&& BitVec.ofInt 64 255).toNat = (n % ((2 ^ 64 : Nat) : Int)).toNat % 2 ^ 8 := by
    rw [BitVec.toNat_and, BitVec.toNat_ofInt, h255, Nat.and_two_pow_sub_one_eq_mod]
  show IntKind.i64.wrap ((BitVec.ofInt 64 n &&& BitVec.ofInt 64 255).toNat : Nat) = n % 256
  rw [key, IntKind.wrap_i64]
  omega
structure Cur (c : List Int) (i : Int) : Prop where
  lo : 0 ≤ i
  len : c.length ≤ 1048576
theorem byte_ex {c : List Int} {i : Int} (h : Cur c i) (x : Int) : ∃ r j y, spec_l1Byte.f c i x = some (r, j, y) ∧ Cur c j ∧ 0 ≤ r ∧ r ≤ 255 := by
  unfold spec_l1Byte.f
  have l := h.len
  have l0 := h.lo
  by_cases k : i < (c.length : Int)
  · rw [if_pos k, if_pos h.lo]
    refine ⟨_, _, _, rfl, ⟨?_, l⟩, ?_, ?_⟩
    · rw [wrap_id (by omega) (by omega)]; omega
    · rw [bits255]; omega
    · rw [bits255]; omega
  · rw [if_neg k]
    refine ⟨_, _, _, rfl, h, ?_, ?_⟩
    · rw [bits255]; omega
    · rw [bits255]; omega
theorem below_ex {c : List Int} {i : Int} (h : Cur c i) (x n : Int) (hn : n ≤ 256) : ∃ r j y, spec_l1Below.f c i x n = some (r, j, y) ∧ Cur c j ∧ 0 ≤ r ∧ (0 < n → r < n) ∧ (n ≤ 0 → r = 0) := by
  unfold spec_l1Below.f
  by_cases k : n ≤ 0
  · rw [if_pos k]
    exact ⟨_, _, _, rfl, h, by omega, by omega, fun _ => rfl⟩
  · rw [if_neg k, if_pos hn]
    obtain ⟨r, j, y, e, hc, r0, r1⟩ := byte_ex h x
    rw [e]
    simp only [Option.bind_some]
    rw [if_neg (by omega)]
    refine ⟨_, _, _, rfl, hc, ?_, fun _ => ?_, fun h => absurd h k⟩
    · rw [Int.tmod_eq_emod_of_nonneg r0]; exact Int.emod_nonneg _ (by omega)
    · rw [Int.tmod_eq_emod_of_nonneg r0]; exact Int.emod_lt_of_pos _ (by omega)
theorem new_l (c : List Int) (hl : c.length ≤ 1048576) (d : Nat) : ∀ (i : Nat) (x : Int), i + d = c.length → ∃ y, Ev (fun k => spec_l1New.l0 k c x i) (c, 0, y) := by
  induction d with
  | zero =>
    intro i x hi
    refine ⟨x, Ev.step (fun _ => rfl) ?_⟩
    simp only [spec_l1New.l0]
    exact Ev.ifF (by omega) (Ev.now _)
  | succ d ih =>
    intro i x hi
    by_cases k : (i : Int) < 4000
    · obtain ⟨y, hy⟩ := ih (i + 1) (Go.bits .and .i64 (wrap64 ((wrap64 ((wrap64 (x * 131)) + (wrap64 (rd c i)))) + 7)) 1073741823) (by omega)
      refine ⟨y, Ev.step (fun _ => rfl) ?_⟩
      simp only [spec_l1New.l0]
      rw [wrap_succ (show i < c.length by omega) (by omega)]
      exact Ev.ifT (by omega) (Ev.ifT k (Ev.ifT (by omega) hy))
    · refine ⟨x, Ev.step (fun _ => rfl) ?_⟩
      simp only [spec_l1New.l0]
      exact Ev.ifT (by omega) (Ev.ifF k (Ev.now _))
theorem new_ex (c : List Int) (hl : c.length ≤ 1048576) : ∃ y, Ev (fun k => spec_l1New.f k c) (c, 0, y) := new_l c hl c.length 0 _ (by omega)
theorem cur0 {c : List Int} (hl : c.length ≤ 1048576) : Cur c 0 := ⟨Int.le_refl _, hl⟩
end Go.Proofs.Ytbifdckfglejkaa.Q
namespace Go.Proofs.Ytbifdckfglejkaa.Q
open Go.RowKit Go.Proofs.YtbifdckfglejkaaW.PrintWords Go.Proofs.YtbifdckfglejkaaW.PrintLast Go.Proofs.YtbifdckfglejkaaW.PrintMore Go.Proofs.Ytbifdckfglejkaa.X Go.Proofs.Ytbifdckfglejkaa.Rd
set_option linter.unusedVariables false
set_option linter.unusedSimpArgs false
theorem once_ex {c : List Int} {i : Int} (h : Cur c i) (x n : Int) (hn : n ≤ 256) : ∃ r j y, spec_l1Once.f c i x n = some (r, j, y) ∧ Cur c j := by
  unfold spec_l1Once.f
  obtain ⟨r, j, y, e, hc, _⟩ := below_ex h x n hn
  rw [e]
  exact ⟨_, _, _, rfl, hc⟩
theorem pick_ex {c : List Int} {i : Int} (h : Cur c i) (x : Int) (l : List Int) (h0 : 0 < l.length) (h1 : l.length ≤ 256) : ∃ r j y, spec_l1PickInt.f c i x l = some (r, j, y) ∧ Cur c j ∧ r ∈ l := by
  unfold spec_l1PickInt.f
  obtain ⟨r, j, y, e, hc, r0, r1, _⟩ := below_ex h x l.length (by omega)
  have r2 := r1 (by omega)
  rw [e]
  simp only [Option.bind_some]
  rw [if_pos r0, if_pos r2]
  refine ⟨_, _, _, rfl, hc, ?_⟩
  have hr : r.toNat < l.length := by omega
  unfold rd
  rw [getD_lt l _ hr]
  exact List.getElem_mem hr
theorem label_ex {c : List Int} {i : Int} (h : Cur c i) (x : Int) : ∃ r j y, spec_l2Label.f c i x = some (r, j, y) ∧ Cur c j ∧ 0 ≤ r ∧ r ≤ 3 := by
  unfold spec_l2Label.f
  obtain ⟨r, j, y, e, hc, r0, r1, _⟩ := below_ex h x 4 (by omega)
  rw [e]
  exact ⟨_, _, _, rfl, hc, r0, by have := r1 (by omega); omega⟩
theorem any_ex {c : List Int} {i : Int} (h : Cur c i) (x : Int) : ∃ r j y, spec_l2Any.f c i x = some (r, j, y) ∧ Cur c j := by
  unfold spec_l2Any.f
  obtain ⟨r, j, y, e, hc, _⟩ := pick_ex h x [0, 1, 2, 3, 5, 6, -1] (by decide) (by decide)
  rw [e]
  exact ⟨_, _, _, rfl, hc⟩
end Go.Proofs.Ytbifdckfglejkaa.Q
namespace Go.Proofs.Ytbifdckfglejkaa.Q
open Go.RowKit Go.Proofs.YtbifdckfglejkaaW.PrintWords Go.Proofs.YtbifdckfglejkaaW.PrintLast Go.Proofs.YtbifdckfglejkaaW.PrintMore Go.Proofs.Ytbifdckfglejkaa.X Go.Proofs.Ytbifdckfglejkaa.Rd
set_option linter.unusedVariables false
set_option linter.unusedSimpArgs false
abbrev NodeI := S90
def nd (l : List NodeI) (i : Nat) : NodeI := l.getD i z90
def lab (l : List NodeI) (i : Nat) : Int := (nd l i).f0
def dep (l : List NodeI) (i : Nat) : Int := (nd l i).f1
theorem rd_nd (l : List NodeI) (i : Nat) : rd_T90 l (i : Int) = nd l i := by
  simp [rd_T90, nd]
theorem rd_lab (l : List NodeI) (i : Nat) : (rd_T90 l (i : Int)).f0 = lab l i := by rw [rd_nd]; rfl
theorem rd_dep (l : List NodeI) (i : Nat) : (rd_T90 l (i : Int)).f1 = dep l i := by rw [rd_nd]; rfl
theorem rd_dep0 (l : List NodeI) : (rd_T90 l 0).f1 = dep l 0 := rd_dep l 0
structure Chk (l : List NodeI) (j : Nat) : Prop where
  l0 : 0 ≤ lab l j
  l5 : lab l j ≤ 5
  d0 : 0 ≤ dep l j
  d12 : dep l j ≤ 12
  root : j = 0 → dep l 0 = 0
  pos : 0 < j → 1 ≤ dep l j
  step : 0 < j → dep l j ≤ dep l (j - 1) + 1
structure Tr (l : List NodeI) : Prop where
  len1 : 1 ≤ l.length
  len24 : l.length ≤ 24
  chk : ∀ j, j < l.length → Chk l j
noncomputable def trB (l : List NodeI) : Bool := @decide (Tr l) (Classical.propDecidable _)
theorem trB_iff (l : List NodeI) : trB l = true ↔ Tr l := by
  unfold trB; exact @decide_eq_true_iff _ (Classical.propDecidable _)
theorem trB_false (l : List NodeI) (h : ¬ Tr l) : trB l = false := by
  rw [← Bool.not_eq_true, trB_iff]; exact h
theorem trB_true {l : List NodeI} (h : Tr l) : trB l = true := (trB_iff l).2 h
theorem within_eq (a b c : Int) : impl_within.f a b c = some (decide (b ≤ a ∧ a ≤ c)) := by
  unfold impl_within.f
  by_cases h : b ≤ a <;> simp [h]
theorem l1In_eq (a b c : Int) : spec_l1In.f a b c = some (decide (b ≤ a ∧ a ≤ c)) := by
  unfold spec_l1In.f
  by_cases h : b ≤ a
  · rw [if_pos h]; simp [h]
  · rw [if_neg h]; simp [h]
theorem implLabelOk_eq (a : Int) : impl_LabelOk.f a = some (decide (0 ≤ a ∧ a ≤ 5)) := by
  unfold impl_LabelOk.f; rw [within_eq]; rfl
theorem specLabelOk_eq (a : Int) : spec_LabelOk.f a = some (decide (0 ≤ a ∧ a ≤ 5)) := by
  unfold spec_LabelOk.f; rw [l1In_eq]; rfl
theorem implTreeOk_l (l : List NodeI) (h1 : 1 ≤ l.length) (h24 : l.length ≤ 24) (d : Nat) : ∀ i : Nat, i + d = l.length → (∀ j, j < i → Chk l j) → Ev (fun k => impl_TreeOk.l0 k l l l.length i) (trB l) := by
  induction d with
  | zero =>
    intro i hi hc
    rw [trB_true ⟨h1, h24, fun j hj => hc j (by omega)⟩]
    refine Ev.step (f := fun _ => some true) (fun k => ?_) (Ev.now _)
    simp only [impl_TreeOk.l0]
    rw [if_neg (by omega)]
  | succ d ih =>
    intro i hi hc
    have hlt : i < l.length := by omega
    have no : ¬ Chk l i → trB l = false := fun h => trB_false l fun t => h (t.chk i hlt)
    have e : ∀ k, impl_TreeOk.l0 (k + 1) l l l.length i = if (0 ≤ lab l i ∧ lab l i ≤ 5) then (if 0 ≤ dep l i ∧ dep l i ≤ 12 then ((impl_depthOk.f l i).bind fun t => if t = true then impl_TreeOk.l0 k l l l.length ((i + 1 : Nat) : Int) else some false) else some false) else some false := by
      intro k
      simp only [impl_TreeOk.l0]
      rw [if_pos (by omega), if_pos (by omega), if_pos (by omega), rd_lab, rd_dep, implLabelOk_eq, Option.bind_some, within_eq, wrap_succ hlt (by omega)]
      simp only [ite_dec, Option.bind_some]
    by_cases c1 : 0 ≤ lab l i ∧ lab l i ≤ 5
    · by_cases c2 : 0 ≤ dep l i ∧ dep l i ≤ 12
      · have dk : impl_depthOk.f l i = some (decide ((i = 0 → dep l 0 = 0) ∧ (0 < i → 1 ≤ dep l i ∧ dep l i ≤ dep l (i - 1) + 1))) := by
          unfold impl_depthOk.f
          by_cases c3 : i = 0
          · subst c3
            rw [if_pos (by omega), if_pos (by omega)]
            rw [rd_dep0]
            congr 1
            by_cases c4 : dep l 0 = 0 <;> simp [c4]
          · have hp := hc (i - 1) (by omega)
            have w1 : wrap64 ((i : Int) - 1) = ((i - 1 : Nat) : Int) := by rw [wrap_id (by omega) (by omega)]; omega
            rw [if_neg (by omega), if_pos (by omega), if_pos (by omega), w1, if_pos (by omega), if_pos (by omega), rd_dep, rd_dep, within_eq, Option.bind_some]
            have d12 := hp.d12
            have d0 := hp.d0
            rw [wrap_id (by omega) (by omega)]
            congr 1
            have c5 : 0 < i := by omega
            simp [c3, c5]
        by_cases c3 : (i = 0 → dep l 0 = 0) ∧ (0 < i → 1 ≤ dep l i ∧ dep l i ≤ dep l (i - 1) + 1)
        · refine Ev.step (f := fun k => impl_TreeOk.l0 k l l l.length ((i + 1 : Nat) : Int)) (fun k => ?_) (ih (i + 1) (by omega) (fun j hj => ?_))
          · rw [e, if_pos c1, if_pos c2, dk, Option.bind_some, if_pos (decide_eq_true c3)]
          · by_cases ej : j = i
            · subst ej
              exact ⟨c1.1, c1.2, c2.1, c2.2, c3.1, fun h => (c3.2 h).1, fun h => (c3.2 h).2⟩
            · exact hc j (by omega)
        · rw [no fun h => c3 ⟨h.root, fun hp => ⟨h.pos hp, h.step hp⟩⟩]
          refine Ev.step (f := fun _ => some false) (fun k => ?_) (Ev.now _)
          rw [e, if_pos c1, if_pos c2, dk, Option.bind_some, if_neg (by rw [decide_eq_false c3]; simp)]
      · rw [no fun h => c2 ⟨h.d0, h.d12⟩]
        refine Ev.step (f := fun _ => some false) (fun k => ?_) (Ev.now _)
        rw [e, if_pos c1, if_neg c2]
    · rw [no fun h => c1 ⟨h.l0, h.l5⟩]
      refine Ev.step (f := fun _ => some false) (fun k => ?_) (Ev.now _)
      rw [e, if_neg c1]
theorem implTreeOk_ev (l : List NodeI) : Ev (fun k => impl_TreeOk.f k l) (trB l) := by
  unfold impl_TreeOk.f
  refine Ev.bindC (within_eq _ _ _) ?_
  by_cases h : (1 : Int) ≤ l.length ∧ (l.length : Int) ≤ 24
  · refine Ev.ifT (by simpa using h) ?_
    exact implTreeOk_l l (by omega) (by omega) l.length 0 (by omega) (fun j hj => absurd hj (Nat.not_lt_zero _))
  · rw [trB_false l fun t => h ⟨by have := t.len1; omega, by have := t.len24; omega⟩]
    exact Ev.ifF (by simpa using h) (Ev.now _)
theorem specTreeOk_l (l : List NodeI) (hm : l.length ≤ 9223372036854775807) (d : Nat) : ∀ i : Nat, i + d = l.length → (∀ j, j < i → Chk l j) → Ev (fun k => spec_TreeOk.l0 k l i) (trB l) := by
  induction d with
  | zero =>
    intro i hi hc
    refine Ev.step (f := fun _ => some (trB l)) (fun k => ?_) (Ev.now _)
    simp only [spec_TreeOk.l0]
    rw [if_neg (by omega), l1In_eq]
    simp only [Option.bind_some]
    congr 1
    by_cases h : (1 : Int) ≤ l.length ∧ (l.length : Int) ≤ 24
    · rw [trB_true ⟨by omega, by omega, fun j hj => hc j (by omega)⟩]; simpa using h
    · rw [trB_false l fun t => h ⟨by have := t.len1; omega, by have := t.len24; omega⟩]; simpa using h
  | succ d ih =>
    intro i hi hc
    have hlt : i < l.length := by omega
    have no : ¬ Chk l i → trB l = false := fun h => trB_false l fun t => h (t.chk i hlt)
    have dn : (((dep l i == 0) != ((i : Int) == 0)) = true) ↔ ¬ (dep l i = 0 ↔ i = 0) := by
      rw [bne_iff_ne, ne_eq, Bool.eq_iff_iff, beq_iff_eq, beq_iff_eq, show ((i : Int) = 0 ↔ i = 0) from by omega]
    have e : ∀ k, spec_TreeOk.l0 (k + 1) l i = if (0 ≤ lab l i ∧ lab l i ≤ 5) then (if 0 ≤ dep l i ∧ dep l i ≤ 12 then (if ¬ (dep l i = 0 ↔ i = 0) then some false else if 0 < i ∧ dep l i > dep l (i - 1) + 1 then some false else spec_TreeOk.l0 k l ((i + 1 : Nat) : Int)) else some false) else some false := by
      intro k
      simp only [spec_TreeOk.l0]
      rw [if_pos (by omega), if_pos (by omega), rd_lab, rd_dep, specLabelOk_eq, Option.bind_some, l1In_eq, wrap_succ hlt (by omega)]
      simp only [ite_dec, Option.bind_some, dn]
      by_cases c4 : 0 < i
      · have hp := hc (i - 1) (by omega)
        have d12 := hp.d12
        have d0 := hp.d0
        have w1 : wrap64 ((i : Int) - 1) = ((i - 1 : Nat) : Int) := by rw [wrap_id (by omega) (by omega)]; omega
        rw [w1, rd_dep, wrap_id (x := dep l (i - 1) + 1) (by omega) (by omega), if_pos (show (i : Int) > 0 by omega), if_pos (show (0 : Int) ≤ ((i - 1 : Nat) : Int) by omega), if_pos (show ((i - 1 : Nat) : Int) < (l.length : Int) by omega)]
        simp only [c4, true_and]
      · rw [if_neg (show ¬ (i : Int) > 0 by omega)]
        simp only [c4, false_and, if_false]
    by_cases c1 : 0 ≤ lab l i ∧ lab l i ≤ 5
    · by_cases c2 : 0 ≤ dep l i ∧ dep l i ≤ 12
      · by_cases c3 : (dep l i = 0 ↔ i = 0)
        · by_cases c4 : 0 < i ∧ dep l i > dep l (i - 1) + 1
          · rw [no fun h => by have := h.step c4.1; omega]
            refine Ev.step (f := fun _ => some false) (fun k => ?_) (Ev.now _)
            rw [e, if_pos c1, if_pos c2, if_neg (fun h => h c3), if_pos c4]
          · refine Ev.step (f := fun k => spec_TreeOk.l0 k l ((i + 1 : Nat) : Int)) (fun k => ?_) (ih (i + 1) (by omega) (fun j hj => ?_))
            · rw [e, if_pos c1, if_pos c2, if_neg (fun h => h c3), if_neg c4]
            · by_cases ej : j = i
              · subst ej
                refine ⟨c1.1, c1.2, c2.1, c2.2, fun h => ?_, fun h => ?_, fun h => ?_⟩
                · subst h; exact c3.2 rfl
                · have : ¬ dep l j = 0 := fun z => by have := c3.1 z; omega
                  omega
                · have : ¬ dep l j > dep l (j - 1) + 1 := fun z => c4 ⟨h, z⟩
                  omega
              · exact hc j (by omega)
        · rw [no fun h => c3 ⟨fun z => by
            by_cases q : 0 < i
            · have := h.pos q; omega
            · omega, fun z => by subst z; exact h.root rfl⟩]
          refine Ev.step (f := fun _ => some false) (fun k => ?_) (Ev.now _)
          rw [e, if_pos c1, if_pos c2, if_pos c3]
      · rw [no fun h => c2 ⟨h.d0, h.d12⟩]
        refine Ev.step (f := fun _ => some false) (fun k => ?_) (Ev.now _)
        rw [e, if_pos c1, if_neg c2]
    · rw [no fun h => c1 ⟨h.l0, h.l5⟩]
      refine Ev.step (f := fun _ => some false) (fun k => ?_) (Ev.now _)
      rw [e, if_neg c1]
theorem specTreeOk_ev (l : List NodeI) (hm : l.length ≤ 9223372036854775807) : Ev (fun k => spec_TreeOk.f k l) (trB l) :=
  Ev.congr (fun _ => rfl) (specTreeOk_l l hm l.length 0 (by omega) (fun j hj => absurd hj (Nat.not_lt_zero _)))
noncomputable def hasB (l : List NodeI) (a : Int) : Bool := @decide (Tr l ∧ 0 ≤ a ∧ a < l.length) (Classical.propDecidable _)
theorem hasB_iff (l : List NodeI) (a : Int) : hasB l a = true ↔ (Tr l ∧ 0 ≤ a ∧ a < l.length) := by
  unfold hasB; exact @decide_eq_true_iff _ (Classical.propDecidable _)
theorem hasB_false {l : List NodeI} {a : Int} (h : ¬ (Tr l ∧ 0 ≤ a ∧ a < l.length)) : hasB l a = false := by
  rw [← Bool.not_eq_true, hasB_iff]; exact h
theorem specAt_ev (l : List NodeI) (hm : l.length ≤ 9223372036854775807) (a : Int) : Ev (fun k => spec_l3At.f k l a) (hasB l a) := by
  unfold spec_l3At.f
  refine Ev.bind (specTreeOk_ev l hm) ?_
  by_cases h : Tr l
  · refine Ev.ifT (trB_true h) (Ev.constOf ?_)
    have := h.len1
    have := h.len24
    rw [wrap_id (by omega) (by omega), l1In_eq, Option.bind_some]
    congr 1
    rw [Bool.eq_iff_iff, decide_eq_true_iff, hasB_iff]
    exact ⟨fun z => ⟨h, by omega, by omega⟩, fun z => by omega⟩
  · refine Ev.ifF (by rw [trB_false l h]; simp) ?_
    rw [hasB_false fun z => h z.1]
    exact Ev.now _
def endFrom (l : List NodeI) (d : Int) : Nat → Nat → Nat
  | 0, e => e
  | n + 1, e => if e < l.length ∧ dep l e > d then endFrom l d n (e + 1) else e
def endN (l : List NodeI) (i : Nat) : Nat := endFrom l (dep l i) l.length (i + 1)
theorem endFrom_spec (l : List NodeI) (d : Int) (n : Nat) : ∀ e, e ≤ l.length → l.length ≤ e + n → e ≤ endFrom l d n e ∧ endFrom l d n e ≤ l.length ∧ (∀ j, e ≤ j → j < endFrom l d n e → dep l j > d) ∧ (endFrom l d n e < l.length → dep l (endFrom l d n e) ≤ d) := by
  induction n with
  | zero => intro e h1 h2; simp only [endFrom]; exact ⟨Nat.le_refl _, h1, fun j a b => by omega, fun h => by omega⟩
  | succ n ih =>
    intro e h1 h2
    simp only [endFrom]
    by_cases c : e < l.length ∧ dep l e > d
    · rw [if_pos c]
      obtain ⟨a1, a2, a3, a4⟩ := ih (e + 1) (by omega) (by omega)
      refine ⟨by omega, a2, fun j hj1 hj2 => ?_, a4⟩
      by_cases ej : j = e
      · subst ej; exact c.2
      · exact a3 j (by omega) hj2
    · rw [if_neg c]
      refine ⟨Nat.le_refl _, h1, fun j a b => by omega, fun h => ?_⟩
      have : ¬ dep l e > d := fun z => c ⟨h, z⟩
      omega
theorem endN_spec (l : List NodeI) {i : Nat} (hi : i < l.length) : i < endN l i ∧ endN l i ≤ l.length ∧ (∀ j, i < j → j < endN l i → dep l j > dep l i) ∧ (endN l i < l.length → dep l (endN l i) ≤ dep l i) := by
  obtain ⟨a1, a2, a3, a4⟩ := endFrom_spec l (dep l i) l.length (i + 1) (by omega) (by omega)
  exact ⟨a1, a2, fun j h1 h2 => a3 j h1 h2, a4⟩
theorem implEndOf_l (l : List NodeI) (hm : l.length ≤ 1048576) (i : Nat) (hi : i < l.length) (n : Nat) : ∀ e : Nat, e ≤ l.length → l.length ≤ e + n → Ev (fun k => impl_endOf.l0 k l i e) (endFrom l (dep l i) n e : Nat) := by
  induction n with
  | zero =>
    intro e h1 h2
    refine Ev.step (f := fun _ => some ((endFrom l (dep l i) 0 e : Nat) : Int)) (fun k => ?_) (Ev.now _)
    simp only [impl_endOf.l0, endFrom]
    rw [if_neg (by omega)]
  | succ n ih =>
    intro e h1 h2
    simp only [endFrom]
    by_cases c : e < l.length ∧ dep l e > dep l i
    · rw [if_pos c]
      refine Ev.step (f := fun k => impl_endOf.l0 k l i ((e + 1 : Nat) : Int)) (fun k => ?_) (ih (e + 1) (by omega) (by omega))
      simp only [impl_endOf.l0]
      rw [if_pos (by omega), if_pos (by omega), if_pos (by omega), if_pos (by omega), rd_dep, rd_dep, if_pos c.2, wrap_succ c.1 (by omega)]
    · rw [if_neg c]
      refine Ev.step (f := fun _ => some (e : Int)) (fun k => ?_) (Ev.now _)
      simp only [impl_endOf.l0]
      by_cases c1 : e < l.length
      · have c2 : ¬ dep l e > dep l i := fun z => c ⟨c1, z⟩
        rw [if_pos (by omega), if_pos (by omega), if_pos (by omega), if_pos (by omega), rd_dep, rd_dep, if_neg c2]
      · rw [if_neg (by omega)]
theorem implEndOf_ev (l : List NodeI) (hm : l.length ≤ 1048576) (i : Nat) (hi : i < l.length) : Ev (fun k => impl_endOf.f k l i) (endN l i : Nat) := by
  unfold impl_endOf.f
  rw [wrap_succ hi (by omega)]
  exact implEndOf_l l hm i hi l.length (i + 1) (by omega) (by omega)
theorem specEndOf_same (l : List NodeI) (a : Int) (k : Nat) : ∀ e : Int, spec_EndOf.l0 k l a e = impl_endOf.l0 k l a e := by
  induction k with
  | zero => intro e; simp only [spec_EndOf.l0, impl_endOf.l0]
  | succ k ih => intro e; simp only [spec_EndOf.l0, impl_endOf.l0, ih]
theorem specEndOf_ev (l : List NodeI) (t : Tr l) (i : Nat) (hi : i < l.length) : Ev (fun k => spec_EndOf.f k l i) (endN l i : Nat) := by
  have := t.len24
  unfold spec_EndOf.f
  refine Ev.bind (specAt_ev l (by omega) i) (Ev.ifT ((hasB_iff _ _).2 ⟨t, by omega, by omega⟩) ?_)
  simp only [specEndOf_same]
  exact implEndOf_ev l (by omega) i hi
end Go.Proofs.Ytbifdckfglejkaa.Q
namespace Go.Proofs.Ytbifdckfglejkaa.Q
open Go.RowKit Go.Proofs.YtbifdckfglejkaaW.PrintWords Go.Proofs.YtbifdckfglejkaaW.PrintLast Go.Proofs.YtbifdckfglejkaaW.PrintMore Go.Proofs.Ytbifdckfglejkaa.X Go.Proofs.Ytbifdckfglejkaa.Rd
set_option linter.unusedVariables false
set_option linter.unusedSimpArgs false
theorem Ev.bindE {α β : Type} {g : Nat → Option α} {f : Nat → α → Option β} {P : β → Prop} {a : α} (h : Ev g a) (k : ∃ r, Ev (fun n => f n a) r ∧ P r) : ∃ r, Ev (fun n => (g n).bind (f n)) r ∧ P r := by
  obtain ⟨r, h1, h2⟩ := k
  exact ⟨r, Ev.bind h h1, h2⟩
theorem Ev.bindO {α β : Type} {o : Option α} {f : Nat → α → Option β} {P : β → Prop} {a : α} (h : o = some a) (k : ∃ r, Ev (fun n => f n a) r ∧ P r) : ∃ r, Ev (fun n => o.bind (f n)) r ∧ P r := Ev.bindE (Ev.constOf h) k
theorem Ev.ifE {α : Type} {c : Prop} [Decidable c] {g f : Nat → Option α} {P : α → Prop} (h : c → ∃ r, Ev g r ∧ P r) (k : ¬ c → ∃ r, Ev f r ∧ P r) : ∃ r, Ev (fun n => if c then g n else f n) r ∧ P r := by
  by_cases hc : c
  · obtain ⟨r, h1, h2⟩ := h hc; exact ⟨r, Ev.ifT hc h1, h2⟩
  · obtain ⟨r, h1, h2⟩ := k hc; exact ⟨r, Ev.ifF hc h1, h2⟩
theorem Ev.ifP {α : Type} {c : Prop} [Decidable c] {g f : Nat → Option α} {P : α → Prop} (hc : c) (h : ∃ r, Ev g r ∧ P r) : ∃ r, Ev (fun n => if c then g n else f n) r ∧ P r := Ev.ifE (fun _ => h) (fun k => absurd hc k)
theorem Ev.stepE {α : Type} {g f : Nat → Option α} {P : α → Prop} (h : ∀ k, g (k + 1) = f k) (k : ∃ r, Ev f r ∧ P r) : ∃ r, Ev g r ∧ P r := by
  obtain ⟨r, h1, h2⟩ := k
  exact ⟨r, Ev.step h h1, h2⟩
structure Row (n : Nat) (l : List NodeI) : Prop where
  len : l.length ≤ n
  dep : ∀ x ∈ l, -1 ≤ x.f1 ∧ x.f1 ≤ 30
theorem Row.snoc {n : Nat} {l : List NodeI} (h : Row n l) {x : NodeI} (h1 : -1 ≤ x.f1) (h2 : x.f1 ≤ 30) : Row (n + 1) (l ++ [x]) :=
  ⟨by rw [List.length_append, List.length_singleton]; have := h.len; omega, fun y hy => by
    rcases List.mem_append.1 hy with hy | hy
    · exact h.dep y hy
    · rw [List.mem_singleton.1 hy]; exact ⟨h1, h2⟩⟩
theorem Row.mono {n m : Nat} {l : List NodeI} (h : Row n l) (hm : n ≤ m) : Row m l := ⟨Nat.le_trans h.len hm, h.dep⟩
theorem Row.at_ {n : Nat} {l : List NodeI} (h : Row n l) {i : Nat} (hi : i < l.length) : -1 ≤ (nd l i).f1 ∧ (nd l i).f1 ≤ 30 := by
  have e : nd l i = l[i] := getD_lt l _ hi
  rw [e]; exact h.dep _ (List.getElem_mem hi)
theorem tree_l {c : List Int} (d : Nat) : ∀ (l : List NodeI) (i x : Int) (m : Nat), Cur c i → 0 < l.length → Row m l → (∀ y ∈ l, 0 ≤ y.f1 ∧ y.f1 ≤ 12) → m + d ≤ 1000 → d ≤ 256 →
    ∃ r, Ev (fun k => spec_l3Tree.l0 k l d c i x) r ∧ (Cur c r.2.1 ∧ 0 < r.1.length ∧ Row (m + d) r.1 ∧ ∀ y ∈ r.1, 0 ≤ y.f1 ∧ y.f1 ≤ 12) := by
  induction d with
  | zero =>
    intro l i x m hc h0 hr hd _ _
    refine Ev.stepE (fun _ => rfl) ?_
    simp only [spec_l3Tree.l0]
    refine Ev.ifE (fun h => absurd h (by decide)) (fun _ => ⟨_, Ev.now _, hc, h0, by simpa using hr, hd⟩)
  | succ d ih =>
    intro l i x m hc h0 hr hd hm hd2
    have hl := hr.len
    refine Ev.stepE (fun _ => rfl) ?_
    simp only [spec_l3Tree.l0]
    have w1 : wrap64 ((l.length : Int) - 1) = ((l.length - 1 : Nat) : Int) := by rw [wrap_id (by omega) (by omega)]; omega
    have w2 : wrap64 (((d + 1 : Nat) : Int) - 1) = (d : Int) := by rw [wrap_id (by omega) (by omega)]; omega
    rw [w1, w2]
    have e := rd_nd l (l.length - 1)
    have hmem : nd l (l.length - 1) ∈ l := by
      have e2 : nd l (l.length - 1) = l[l.length - 1] := getD_lt l _ (by omega)
      rw [e2]; exact List.getElem_mem _
    have hb := hd _ hmem
    rw [e]
    generalize nd l (l.length - 1) = z at hb
    refine Ev.ifP (by omega) (Ev.ifP (by omega) (Ev.ifP (by omega) ?_))
    have w3 : wrap64 (z.f1 + 1) = z.f1 + 1 := wrap_id (by omega) (by omega)
    rw [w3]
    obtain ⟨r1, j1, y1, e1, c1, r10, r11, _⟩ := below_ex hc x (z.f1 + 1) (by omega)
    have r12 := r11 (by omega)
    refine Ev.bindO e1 ?_
    obtain ⟨r2, j2, y2, e2, c2⟩ := once_ex c1 y1 2 (by omega)
    refine Ev.bindO e2 ?_
    have w4 : wrap64 (1 + r1) = 1 + r1 := wrap_id (by omega) (by omega)
    simp only [w4]
    have go : ∀ (j : Int) (y lb k : Int), Cur c j → 0 ≤ k → k ≤ 12 → ∃ r, Ev (fun n => if l.length < 8796093022208 then spec_l3Tree.l0 n (l ++ [(⟨lb, k⟩ : NodeI)]) (d : Int) c j y else none) r ∧ (Cur c r.2.1 ∧ 0 < r.1.length ∧ Row (m + (d + 1)) r.1 ∧ ∀ y ∈ r.1, 0 ≤ y.f1 ∧ y.f1 ≤ 12) := fun j y lb k hj k0 k1 => by
      refine Ev.ifP (by omega) ?_
      have h := ih (l ++ [⟨lb, k⟩]) j y (m + 1) hj (by simp) (hr.snoc (x := ⟨lb, k⟩) (by show -1 ≤ k; omega) (by show k ≤ 30; omega)) (fun y hy => by
        rcases List.mem_append.1 hy with hy | hy
        · exact hd y hy
        · rw [List.mem_singleton.1 hy]; exact ⟨k0, k1⟩) (by omega) (by omega)
      rw [show m + 1 + d = m + (d + 1) by omega] at h
      exact h
    obtain ⟨r3, j3, y3, e3, c3, _⟩ := label_ex c2 y2
    exact Ev.ifE (fun _ => Ev.ifE (fun _ => Ev.bindO e3 (go _ _ _ _ c3 (by omega) (by omega))) (fun h => Ev.bindO e3 (go _ _ _ _ c3 (by omega) (by omega)))) (fun _ => Ev.ifE (fun _ => Ev.bindO e3 (go _ _ _ _ c3 (by omega) (by omega))) (fun h => Ev.bindO e3 (go _ _ _ _ c3 (by omega) (by omega))))
theorem tree_ex {c : List Int} {i : Int} (hc : Cur c i) (x n : Int) (h0 : 0 < n) (h1 : n ≤ 100) : ∃ r, Ev (fun k => spec_l3Tree.f k c i x n) r ∧ (Cur c r.2.1 ∧ 0 < r.1.length ∧ Row n.toNat r.1 ∧ ∀ y ∈ r.1, 0 ≤ y.f1 ∧ y.f1 ≤ 12) := by
  unfold spec_l3Tree.f
  obtain ⟨r1, j1, y1, e1, c1, l0, l1⟩ := label_ex hc x
  refine Ev.bindO e1 ?_
  obtain ⟨r2, j2, y2, e2, c2, q0, q1, _⟩ := below_ex c1 y1 n (by omega)
  have q2 := q1 h0
  refine Ev.bindO e2 ?_
  obtain ⟨d, rfl⟩ := Int.eq_ofNat_of_zero_le q0
  obtain ⟨r, h, g1, g2, g3, g4⟩ := tree_l d [⟨r1, 0⟩] j2 y2 1 c2 (by simp) ⟨by simp, fun x hx => by rw [List.mem_singleton.1 hx]; exact ⟨by show (-1 : Int) ≤ 0; omega, by show (0 : Int) ≤ 30; omega⟩⟩ (fun x hx => by rw [List.mem_singleton.1 hx]; exact ⟨Int.le_refl _, by show (0 : Int) ≤ 12; omega⟩) (by omega) (by omega)
  exact ⟨r, h, g1, g2, g3.mono (by omega), g4⟩
theorem fill_l {c : List Int} (m : Nat) : ∀ (l : List NodeI) (i x : Int), Cur c i → 0 < l.length → Row 26 l → l.length + m = 25 ∨ 25 ≤ l.length → ∃ r, Ev (fun k => spec_l3Any.l0 k l c i x) r ∧ (Cur c r.2.1 ∧ 0 < r.1.length ∧ Row 26 r.1) := by
  induction m with
  | zero =>
    intro l i x hc h0 hr hm
    have hl := hr.len
    refine Ev.stepE (fun _ => rfl) ?_
    simp only [spec_l3Any.l0]
    obtain ⟨r1, j1, y1, e1, c1, q0, q1, _⟩ := below_ex hc x 2 (by omega)
    have q2 := q1 (by omega)
    refine Ev.bindO e1 ?_
    have w : wrap64 (24 + r1) = 24 + r1 := wrap_id (by omega) (by omega)
    simp only [w]
    exact Ev.ifE (fun h => by omega) (fun _ => ⟨_, Ev.now _, c1, h0, hr⟩)
  | succ m ih =>
    intro l i x hc h0 hr hm
    have hl := hr.len
    refine Ev.stepE (fun _ => rfl) ?_
    simp only [spec_l3Any.l0]
    obtain ⟨r1, j1, y1, e1, c1, q0, q1, _⟩ := below_ex hc x 2 (by omega)
    have q2 := q1 (by omega)
    refine Ev.bindO e1 ?_
    have w : wrap64 (24 + r1) = 24 + r1 := wrap_id (by omega) (by omega)
    simp only [w]
    refine Ev.ifE (fun h => Ev.ifP (by omega) ?_) (fun _ => ⟨_, Ev.now _, c1, h0, hr⟩)
    exact ih (l ++ [⟨1, 1⟩]) j1 y1 c1 (by simp) ⟨by rw [List.length_append, List.length_singleton]; omega, (hr.snoc (x := ⟨1, 1⟩) (by show (-1 : Int) ≤ 1; omega) (by show (1 : Int) ≤ 30; omega)).dep⟩ (by rw [List.length_append, List.length_singleton]; omega)
theorem deep_l {c : List Int} (m : Nat) : ∀ (l : List NodeI) (i x : Int), Cur c i → 0 < l.length → Row 26 l → l.length + m = 14 ∨ 14 ≤ l.length → ∃ r, Ev (fun k => spec_l3Any.l1 k l c i x) r ∧ (Cur c r.2.1 ∧ 0 < r.1.length ∧ Row 26 r.1) := by
  induction m with
  | zero =>
    intro l i x hc h0 hr hm
    have hl := hr.len
    refine Ev.stepE (fun _ => rfl) ?_
    simp only [spec_l3Any.l1]
    obtain ⟨r1, j1, y1, e1, c1, q0, q1, _⟩ := below_ex hc x 2 (by omega)
    have q2 := q1 (by omega)
    refine Ev.bindO e1 ?_
    have w : wrap64 (13 + r1) = 13 + r1 := wrap_id (by omega) (by omega)
    simp only [w]
    exact Ev.ifE (fun h => by omega) (fun _ => ⟨_, Ev.now _, c1, h0, hr⟩)
  | succ m ih =>
    intro l i x hc h0 hr hm
    have hl := hr.len
    refine Ev.stepE (fun _ => rfl) ?_
    simp only [spec_l3Any.l1]
    obtain ⟨r1, j1, y1, e1, c1, q0, q1, _⟩ := below_ex hc x 2 (by omega)
    have q2 := q1 (by omega)
    refine Ev.bindO e1 ?_
    have w : wrap64 (13 + r1) = 13 + r1 := wrap_id (by omega) (by omega)
    simp only [w]
    refine Ev.ifE (fun h => Ev.ifP (by omega) ?_) (fun _ => ⟨_, Ev.now _, c1, h0, hr⟩)
    exact ih (l ++ [⟨0, (l.length : Int)⟩]) j1 y1 c1 (by simp) ⟨by rw [List.length_append, List.length_singleton]; omega, (hr.snoc (x := ⟨0, (l.length : Int)⟩) (by show (-1 : Int) ≤ (l.length : Int); omega) (by show (l.length : Int) ≤ 30; omega)).dep⟩ (by rw [List.length_append, List.length_singleton]; omega)
theorem Row.set {n : Nat} {l : List NodeI} (h : Row n l) (i : Nat) {x : NodeI} (h1 : -1 ≤ x.f1) (h2 : x.f1 ≤ 30) : Row n (l.set i x) :=
  ⟨by rw [List.length_set]; exact h.len, fun y hy => by
    rcases List.mem_or_eq_of_mem_set hy with hy | hy
    · exact h.dep y hy
    · rw [hy]; exact ⟨h1, h2⟩⟩
theorem l3Any_ex {c : List Int} {i : Int} (hc : Cur c i) (x n : Int) (h0 : 0 < n) (h1 : n ≤ 20) : ∃ r, Ev (fun k => spec_l3Any.f k c i x n) r ∧ (Cur c r.2.1 ∧ Row 26 r.1) := by
  unfold spec_l3Any.f
  obtain ⟨r1, e1, c1, p1, g1, gd⟩ := tree_ex hc x n h0 (by omega)
  refine Ev.bindE e1 ?_
  obtain ⟨l, j1, y1⟩ := r1
  simp only at c1 p1 g1 gd ⊢
  have hl := g1.len
  have g26 : Row 26 l := g1.mono (by omega)
  obtain ⟨r2, j2, y2, e2, c2, q0, q1, _⟩ := below_ex c1 y1 (l.length : Int) (by omega)
  have q2 := q1 (by omega)
  refine Ev.bindO e2 ?_
  obtain ⟨r3, j3, y3, e3, c3, _⟩ := below_ex c2 y2 18 (by omega)
  refine Ev.bindO e3 ?_
  obtain ⟨z, rfl⟩ := Int.eq_ofNat_of_zero_le q0
  have hz : z < l.length := by omega
  have b := g26.at_ hz
  have b12 : (nd l z).f1 ≤ 12 := by
    have e : nd l z = l[z] := getD_lt l _ hz
    rw [e]; exact (gd _ (List.getElem_mem hz)).2
  simp only [rd_nd, Int.toNat_natCast]
  refine Ev.ifE (fun _ => ?_) (fun _ => Ev.ifE (fun _ => Ev.ifP (by omega) (Ev.ifP (by omega) ?_)) (fun _ => Ev.ifE (fun _ => Ev.ifP (by omega) ?_) (fun _ => Ev.ifE (fun _ => ?_) (fun _ => Ev.ifE (fun _ => ?_) (fun _ => ?_)))))
  · obtain ⟨r4, j4, y4, e4, c4⟩ := any_ex c3 y3
    exact Ev.bindO e4 (Ev.ifP (by omega) (Ev.ifP (by omega) ⟨_, Ev.now _, c4, g26.set z b.1 b.2⟩))
  · have w : wrap64 ((nd l z).f1 + 1) = (nd l z).f1 + 1 := wrap_id (by omega) (by omega)
    obtain ⟨r4, j4, y4, e4, c4, hm⟩ := pick_ex c3 y3 [-1, 0, 1, 13, wrap64 ((nd l z).f1 + 1)] (by simp) (by simp)
    refine Ev.bindO e4 ⟨_, Ev.now _, c4, ?_⟩
    rw [w] at hm
    simp only [List.mem_cons, List.not_mem_nil, or_false] at hm
    refine ⟨by rw [List.length_set]; exact g26.len, fun y hy => ?_⟩
    rcases List.mem_or_eq_of_mem_set hy with hy | hy
    · exact g26.dep y hy
    · rw [hy]
      simp only
      omega
  · exact ⟨_, Ev.now _, c3, by simp; have := g26.len; omega, fun y hy => g26.dep y (List.mem_of_mem_drop hy)⟩
  · obtain ⟨r, h, a, b, cc⟩ := fill_l (25 - l.length) l j3 y3 c3 p1 g26 (by omega)
    exact ⟨r, h, a, cc⟩
  · obtain ⟨r, h, a, b, cc⟩ := deep_l 13 [⟨0, 0⟩] j3 y3 c3 (by simp) ⟨by simp, fun x hx => by rw [List.mem_singleton.1 hx]; exact ⟨by show (-1 : Int) ≤ 0; omega, by show (0 : Int) ≤ 30; omega⟩⟩ (by simp)
    exact ⟨r, h, a, cc⟩
  · exact ⟨_, Ev.now _, c3, g26⟩
end Go.Proofs.Ytbifdckfglejkaa.Q
namespace Go.Proofs.Ytbifdckfglejkaa.Q
open Go.RowKit Go.Proofs.YtbifdckfglejkaaW.PrintWords Go.Proofs.YtbifdckfglejkaaW.PrintLast Go.Proofs.YtbifdckfglejkaaW.PrintMore Go.Proofs.Ytbifdckfglejkaa.X Go.Proofs.Ytbifdckfglejkaa.Rd
set_option linter.unusedVariables false
set_option linter.unusedSimpArgs false
def kidsFrom (l : List NodeI) (i : Nat) : Nat → Nat → List Int
  | 0, _ => []
  | n + 1, k => if k < endN l i then (if dep l k = dep l i + 1 then (k : Int) :: kidsFrom l i n (k + 1) else kidsFrom l i n (k + 1)) else []
noncomputable def kidsOf (l : List NodeI) (a : Int) : List Int := if hasB l a = true then kidsFrom l a.toNat l.length (a.toNat + 1) else []
theorem kidsFrom_len (l : List NodeI) (i : Nat) (n : Nat) : ∀ k, (kidsFrom l i n k).length ≤ n := by
  induction n with
  | zero => intro k; simp [kidsFrom]
  | succ n ih =>
    intro k
    simp only [kidsFrom]
    have := ih (k + 1)
    split
    · split
      · simp only [List.length_cons]; omega
      · omega
    · simp
theorem kidsFrom_mem (l : List NodeI) (i : Nat) (n : Nat) : ∀ k, endN l i ≤ k + n → ∀ x : Int, x ∈ kidsFrom l i n k ↔ ∃ j : Nat, x = j ∧ k ≤ j ∧ j < endN l i ∧ dep l j = dep l i + 1 := by
  induction n with
  | zero => intro k hk x; simp only [kidsFrom, List.not_mem_nil, false_iff]; rintro ⟨j, _, h1, h2, _⟩; omega
  | succ n ih =>
    intro k hk x
    simp only [kidsFrom]
    have h := ih (k + 1) (by omega) x
    by_cases c : k < endN l i
    · rw [if_pos c]
      by_cases c2 : dep l k = dep l i + 1
      · rw [if_pos c2, List.mem_cons, h]
        constructor
        · rintro (e | ⟨j, e, h1, h2, h3⟩)
          · exact ⟨k, e, Nat.le_refl _, c, c2⟩
          · exact ⟨j, e, by omega, h2, h3⟩
        · rintro ⟨j, e, h1, h2, h3⟩
          by_cases q : j = k
          · subst q; exact .inl e
          · exact .inr ⟨j, e, by omega, h2, h3⟩
      · rw [if_neg c2, h]
        constructor
        · rintro ⟨j, e, h1, h2, h3⟩
          exact ⟨j, e, by omega, h2, h3⟩
        · rintro ⟨j, e, h1, h2, h3⟩
          by_cases q : j = k
          · subst q; exact absurd h3 c2
          · exact ⟨j, e, by omega, h2, h3⟩
    · rw [if_neg c]
      simp only [List.not_mem_nil, false_iff]
      rintro ⟨j, _, h1, h2, _⟩; omega
theorem wrapN {a : Nat} (h : a ≤ 1048576) : wrap64 ((a : Int) + 1) = ((a + 1 : Nat) : Int) := by rw [wrap_id (by omega) (by omega)]; omega
theorem kidsOf_none {l : List NodeI} {a : Int} (h : ¬ (Tr l ∧ 0 ≤ a ∧ a < l.length)) : kidsOf l a = [] := by
  unfold kidsOf
  rw [if_neg (by rw [hasB_false h]; simp)]
theorem kidsOf_mem {l : List NodeI} (t : Tr l) {i : Nat} (hi : i < l.length) (x : Int) : x ∈ kidsOf l i ↔ ∃ j : Nat, x = j ∧ i < j ∧ j < endN l i ∧ dep l j = dep l i + 1 := by
  have hb : hasB l i = true := (hasB_iff _ _).2 ⟨t, by omega, by omega⟩
  have hs := endN_spec l hi
  unfold kidsOf
  rw [if_pos hb, Int.toNat_natCast, kidsFrom_mem l i l.length (i + 1) (by omega)]
  exact Iff.rfl
theorem kidsOf_len (l : List NodeI) (a : Int) : (kidsOf l a).length ≤ 24 := by
  by_cases h : Tr l ∧ 0 ≤ a ∧ a < l.length
  · unfold kidsOf
    rw [if_pos ((hasB_iff _ _).2 h)]
    have := kidsFrom_len l a.toNat l.length (a.toNat + 1)
    have := h.1.len24
    omega
  · rw [kidsOf_none h]; simp
end Go.Proofs.Ytbifdckfglejkaa.Q
namespace Go.Proofs.Ytbifdckfglejkaa.Q
open Go.RowKit Go.Proofs.YtbifdckfglejkaaW.PrintWords Go.Proofs.YtbifdckfglejkaaW.PrintLast Go.Proofs.YtbifdckfglejkaaW.PrintMore Go.Proofs.Ytbifdckfglejkaa.X Go.Proofs.Ytbifdckfglejkaa.Rd
set_option linter.unusedVariables false
set_option linter.unusedSimpArgs false
theorem specKids_l (l : List NodeI) (t : Tr l) (i : Nat) (hi : i < l.length) (n : Nat) : ∀ (k : Nat) (acc : List Int), acc.length + n ≤ 100000 → endN l i ≤ k + n → Ev (fun r => spec_KidsOf.l0 r l i acc k) (acc ++ kidsFrom l i n k) := by
  have h24 := t.len24
  have he := specEndOf_ev l t i hi
  have ha := specAt_ev l (by omega) (i : Int)
  have hb : hasB l i = true := (hasB_iff _ _).2 ⟨t, by omega, by omega⟩
  have hs := endN_spec l hi
  have hd := (t.chk i hi).d12
  have hd0 := (t.chk i hi).d0
  induction n with
  | zero =>
    intro k acc _ hk
    refine Ev.step (fun _ => rfl) ?_
    simp only [spec_KidsOf.l0, kidsFrom, List.append_nil]
    refine Ev.bind ha (Ev.ifT hb (Ev.bind he ?_))
    refine Ev.step (fun _ => rfl) ?_
    simp only [spec_KidsOf.j1]
    exact Ev.ifF (by simp; omega) (Ev.now _)
  | succ n ih =>
    intro k acc hl hk
    refine Ev.step (fun _ => rfl) ?_
    simp only [spec_KidsOf.l0, kidsFrom]
    refine Ev.bind ha (Ev.ifT hb (Ev.bind he ?_))
    refine Ev.step (fun _ => rfl) ?_
    simp only [spec_KidsOf.j1, rd_dep]
    by_cases c : k < endN l i
    · rw [if_pos c, wrapN (show k ≤ 1048576 by omega), wrap_id (x := dep l i + 1) (by omega) (by omega)]
      refine Ev.ifT (by simp; omega) (Ev.ifT (by omega) (Ev.ifT (by omega) (Ev.ifT (by omega) (Ev.ifT (by omega) ?_))))
      by_cases c2 : dep l k = dep l i + 1
      · rw [if_pos c2]
        refine Ev.ifT c2 (Ev.ifT (by omega) ?_)
        have := ih (k + 1) (acc ++ [(k : Int)]) (by simp; omega) (by omega)
        rw [List.append_assoc] at this
        exact this
      · rw [if_neg c2]
        exact Ev.ifF c2 (ih (k + 1) acc (by omega) (by omega))
    · rw [if_neg c, List.append_nil]
      exact Ev.ifF (by simp; omega) (Ev.now _)
theorem specKidsOf_ev (l : List NodeI) (hm : l.length ≤ 9223372036854775807) (a : Int) : Ev (fun r => spec_KidsOf.f r l a) (kidsOf l a) := by
  unfold spec_KidsOf.f
  by_cases h : hasB l a = true
  · obtain ⟨t, h0, h1⟩ := (hasB_iff l a).1 h
    obtain ⟨i, rfl⟩ := Int.eq_ofNat_of_zero_le h0
    have h24 := t.len24
    have hs := endN_spec l (i := i) (by omega)
    have := specKids_l l t i (by omega) l.length (i + 1) [] (by simp; omega) (by omega)
    rw [List.nil_append] at this
    rw [wrapN (show i ≤ 1048576 by omega)]
    unfold kidsOf
    rw [if_pos h, Int.toNat_natCast]
    exact this
  · unfold kidsOf
    rw [if_neg h]
    refine Ev.step (fun _ => rfl) ?_
    simp only [spec_KidsOf.l0]
    refine Ev.bind (specAt_ev l hm a) (Ev.ifF h ?_)
    refine Ev.step (fun _ => rfl) ?_
    simp only [spec_KidsOf.j1]
    exact Ev.ifF (by simp) (Ev.now _)
end Go.Proofs.Ytbifdckfglejkaa.Q
namespace Go.Proofs.Ytbifdckfglejkaa.Q
open Go.RowKit Go.Proofs.YtbifdckfglejkaaW.PrintWords Go.Proofs.YtbifdckfglejkaaW.PrintLast Go.Proofs.YtbifdckfglejkaaW.PrintMore Go.Proofs.Ytbifdckfglejkaa.X Go.Proofs.Ytbifdckfglejkaa.Rd
set_option linter.unusedVariables false
set_option linter.unusedSimpArgs false
theorem implHas_ev (l : List NodeI) (a : Int) : Ev (fun k => impl_hasNode.f k l a) (hasB l a) := by
  unfold impl_hasNode.f
  refine Ev.bind (implTreeOk_ev l) ?_
  by_cases h : Tr l
  · refine Ev.ifT (trB_true h) (Ev.constOf ?_)
    have := h.len1
    have := h.len24
    rw [wrap_id (by omega) (by omega), within_eq, Option.bind_some]
    congr 1
    rw [Bool.eq_iff_iff, decide_eq_true_iff, hasB_iff]
    exact ⟨fun z => ⟨h, by omega, by omega⟩, fun z => by omega⟩
  · refine Ev.ifF (by rw [trB_false l h]; simp) ?_
    rw [hasB_false fun z => h z.1]
    exact Ev.now _
end Go.Proofs.Ytbifdckfglejkaa.Q
namespace Go.Proofs.Ytbifdckfglejkaa.Q
open Go.RowKit Go.Proofs.YtbifdckfglejkaaW.PrintWords Go.Proofs.YtbifdckfglejkaaW.PrintLast Go.Proofs.YtbifdckfglejkaaW.PrintMore Go.Proofs.Ytbifdckfglejkaa.X Go.Proofs.Ytbifdckfglejkaa.Rd
set_option linter.unusedVariables false
set_option linter.unusedSimpArgs false
theorem implKids_l (l : List NodeI) (t : Tr l) (i : Nat) (hi : i < l.length) (n : Nat) : ∀ (k : Nat) (acc : List Int), acc.length + n ≤ 100000 → endN l i ≤ k + n → Ev (fun r => impl_KidsOf.l0 r l i acc k) (acc ++ kidsFrom l i n k) := by
  have h24 := t.len24
  have he := implEndOf_ev l (by omega) i hi
  have hs := endN_spec l hi
  have hd := (t.chk i hi).d12
  have hd0 := (t.chk i hi).d0
  induction n with
  | zero =>
    intro k acc ha hk
    refine Ev.step (fun _ => rfl) ?_
    simp only [impl_KidsOf.l0, kidsFrom, List.append_nil]
    exact Ev.bind he (Ev.ifF (by omega) (Ev.now _))
  | succ n ih =>
    intro k acc ha hk
    refine Ev.step (fun _ => rfl) ?_
    simp only [impl_KidsOf.l0, kidsFrom, rd_dep]
    refine Ev.bind he ?_
    by_cases c : k < endN l i
    · rw [if_pos c, wrapN (show k ≤ 1048576 by omega), wrap_id (x := dep l i + 1) (by omega) (by omega)]
      refine Ev.ifT (by omega) (Ev.ifT (by omega) (Ev.ifT (by omega) (Ev.ifT (by omega) (Ev.ifT (by omega) ?_))))
      by_cases c2 : dep l k = dep l i + 1
      · rw [if_pos c2]
        refine Ev.ifT c2 (Ev.ifT (by omega) ?_)
        have := ih (k + 1) (acc ++ [(k : Int)]) (by simp; omega) (by omega)
        rw [List.append_assoc] at this
        exact this
      · rw [if_neg c2]
        exact Ev.ifF c2 (ih (k + 1) acc (by omega) (by omega))
    · rw [if_neg c, List.append_nil]
      exact Ev.ifF (by omega) (Ev.now _)
theorem implKidsOf_ev (l : List NodeI) (a : Int) : Ev (fun r => impl_KidsOf.f r l a) (kidsOf l a) := by
  unfold impl_KidsOf.f
  simp only [Option.bind_some]
  refine Ev.bind (implHas_ev l a) ?_
  by_cases h : hasB l a = true
  · obtain ⟨t, h0, h1⟩ := (hasB_iff l a).1 h
    obtain ⟨i, rfl⟩ := Int.eq_ofNat_of_zero_le h0
    have h24 := t.len24
    have hs := endN_spec l (i := i) (by omega)
    have := implKids_l l t i (by omega) l.length (i + 1) [] (by simp; omega) (by omega)
    rw [List.nil_append] at this
    refine Ev.ifT h ?_
    rw [wrapN (show i ≤ 1048576 by omega)]
    unfold kidsOf
    rw [if_pos h, Int.toNat_natCast]
    exact this
  · refine Ev.ifF h ?_
    unfold kidsOf
    rw [if_neg h]
    exact Ev.now _
end Go.Proofs.Ytbifdckfglejkaa.Q
namespace Go.Proofs.Ytbifdckfglejkaa.Q
open Go.RowKit Go.Proofs.YtbifdckfglejkaaW.PrintWords Go.Proofs.YtbifdckfglejkaaW.PrintLast Go.Proofs.YtbifdckfglejkaaW.PrintMore Go.Proofs.Ytbifdckfglejkaa.X Go.Proofs.Ytbifdckfglejkaa.Rd
set_option linter.unusedVariables false
set_option linter.unusedSimpArgs false
noncomputable def nodeGo (l : List NodeI) : List Int → Int → Int
  | [], i => i
  | p :: ps, i => if 0 ≤ p ∧ p < (kidsOf l i).length then nodeGo l ps ((kidsOf l i).getD p.toNat 0) else -1
noncomputable def nodeAt (l : List NodeI) (path : List Int) : Int := if trB l = true then nodeGo l path 0 else -1
theorem implNodeAt_l (l : List NodeI) (path : List Int) (hp : path.length ≤ 1048576) (d : Nat) : ∀ (j : Nat) (i : Int), j + d = path.length → Ev (fun r => impl_NodeAt.l0 r l i path path.length j) (nodeGo l (path.drop j) i) := by
  induction d with
  | zero =>
    intro j i hj
    rw [List.drop_of_length_le (by omega)]
    refine Ev.step (fun _ => rfl) ?_
    simp only [impl_NodeAt.l0]
    exact Ev.ifF (by omega) (Ev.now _)
  | succ d ih =>
    intro j i hj
    have hlt : j < path.length := by omega
    have hk := kidsOf_len l i
    rw [List.drop_eq_getElem_cons hlt]
    refine Ev.step (fun _ => rfl) ?_
    simp only [impl_NodeAt.l0, rd, getD_nat path j _ hlt, nodeGo]
    refine Ev.ifT (by omega) (Ev.ifT (by omega) (Ev.ifT (by omega) (Ev.bind (implKidsOf_ev l i) (Ev.bindC (within_eq _ _ _) ?_))))
    rw [wrap_id (x := ((kidsOf l i).length : Int) - 1) (by omega) (by omega), wrapN (show j ≤ 1048576 by omega)]
    by_cases c : 0 ≤ path[j] ∧ path[j] < (kidsOf l i).length
    · rw [if_pos c]
      exact Ev.ifT (by simp; omega) (Ev.ifT c.1 (Ev.ifT c.2 (ih (j + 1) _ (by omega))))
    · rw [if_neg c]
      exact Ev.ifF (by simp; omega) (Ev.now _)
theorem implNodeAt_ev (l : List NodeI) (hl : l.length ≤ 9223372036854775807) (path : List Int) (hp : path.length ≤ 1048576) : Ev (fun r => impl_NodeAt.f r l path) (nodeAt l path) := by
  unfold impl_NodeAt.f nodeAt
  refine Ev.bind (implTreeOk_ev l) ?_
  by_cases h : trB l = true
  · rw [if_pos h]
    exact Ev.ifT h (implNodeAt_l l path hp path.length 0 0 (by omega))
  · rw [if_neg h]
    exact Ev.ifF h (Ev.now _)
theorem specNodeAt_l (l : List NodeI) (hl : l.length ≤ 9223372036854775807) (path : List Int) (hp : path.length ≤ 1048576) (d : Nat) : ∀ (j : Nat) (i : Int), j + d = path.length → Ev (fun r => spec_NodeAt.l0 r l path i j) (nodeGo l (path.drop j) i) := by
  induction d with
  | zero =>
    intro j i hj
    rw [List.drop_of_length_le (by omega)]
    refine Ev.step (fun _ => rfl) ?_
    simp only [spec_NodeAt.l0]
    exact Ev.ifF (by omega) (Ev.now _)
  | succ d ih =>
    intro j i hj
    have hlt : j < path.length := by omega
    have hk := kidsOf_len l i
    rw [List.drop_eq_getElem_cons hlt]
    refine Ev.step (fun _ => rfl) ?_
    simp only [spec_NodeAt.l0, rd, getD_nat path j _ hlt, nodeGo]
    refine Ev.ifT (by omega) (Ev.bind (specKidsOf_ev l hl i) (Ev.ifT (by omega) (Ev.bindC (l1In_eq _ _ _) ?_)))
    rw [wrap_id (x := ((kidsOf l i).length : Int) - 1) (by omega) (by omega), wrapN (show j ≤ 1048576 by omega)]
    by_cases c : 0 ≤ path[j] ∧ path[j] < (kidsOf l i).length
    · rw [if_pos c]
      exact Ev.ifT (by simp; omega) (Ev.ifT c.1 (Ev.ifT c.2 (ih (j + 1) _ (by omega))))
    · rw [if_neg c]
      exact Ev.ifF (by simp; omega) (Ev.now _)
theorem specNodeAt_ev (l : List NodeI) (hl : l.length ≤ 9223372036854775807) (path : List Int) (hp : path.length ≤ 1048576) : Ev (fun r => spec_NodeAt.f r l path) (nodeAt l path) := by
  unfold spec_NodeAt.f nodeAt
  refine Ev.bind (specTreeOk_ev l hl) ?_
  by_cases h : trB l = true
  · rw [if_pos h]
    exact Ev.ifT h (specNodeAt_l l hl path hp path.length 0 0 (by omega))
  · rw [if_neg h]
    exact Ev.ifF h (Ev.now _)
end Go.Proofs.Ytbifdckfglejkaa.Q
namespace Go.Proofs.Ytbifdckfglejkaa.Q
open Go.RowKit Go.Proofs.YtbifdckfglejkaaW.PrintWords Go.Proofs.YtbifdckfglejkaaW.PrintLast Go.Proofs.YtbifdckfglejkaaW.PrintMore Go.Proofs.Ytbifdckfglejkaa.X Go.Proofs.Ytbifdckfglejkaa.Rd
set_option linter.unusedVariables false
set_option linter.unusedSimpArgs false
def parFrom (l : List NodeI) (d : Int) : Nat → Int
  | 0 => -1
  | n + 1 => if dep l n ≥ d then parFrom l d n else n
noncomputable def parentOf (l : List NodeI) (a : Int) : Int := if hasB l a = true then parFrom l (dep l a.toNat) a.toNat else -1
theorem specParent_l (l : List NodeI) (h24 : l.length ≤ 1048576) (i : Nat) (hi : i < l.length) : ∀ n : Nat, n ≤ i → Ev (fun r => spec_ParentOf.l0 r l i ((n : Int) - 1)) (parFrom l (dep l i) n) := by
  intro n
  induction n with
  | zero =>
    intro _
    refine Ev.step (fun _ => rfl) ?_
    simp only [spec_ParentOf.l0, parFrom]
    exact Ev.ifF (by omega) (Ev.now _)
  | succ n ih =>
    intro hn
    refine Ev.step (fun _ => rfl) ?_
    rw [show ((n + 1 : Nat) : Int) - 1 = (n : Int) by omega]
    simp only [spec_ParentOf.l0, parFrom, rd_dep]
    refine Ev.ifT (by omega) (Ev.ifT (by omega) (Ev.ifT (by omega) (Ev.ifT (by omega) (Ev.ifT (by omega) ?_))))
    by_cases c : dep l n ≥ dep l i
    · rw [if_pos c, wrap_id (x := (n : Int) - 1) (by omega) (by omega)]
      exact Ev.ifT c (ih (by omega))
    · rw [if_neg c]
      exact Ev.ifF c (Ev.now _)
theorem specParentOf_ev (l : List NodeI) (hm : l.length ≤ 9223372036854775807) (a : Int) : Ev (fun r => spec_ParentOf.f r l a) (parentOf l a) := by
  unfold spec_ParentOf.f parentOf
  refine Ev.bind (specAt_ev l hm a) ?_
  by_cases h : hasB l a = true
  · obtain ⟨t, h0, h1⟩ := (hasB_iff l a).1 h
    obtain ⟨i, rfl⟩ := Int.eq_ofNat_of_zero_le h0
    have h24 := t.len24
    rw [if_pos h, wrap_id (x := (i : Int) - 1) (by omega) (by omega), Int.toNat_natCast]
    exact Ev.ifT h (specParent_l l (by omega) i (by omega) i (Nat.le_refl _))
  · rw [if_neg h]
    exact Ev.ifF h (Ev.now _)
theorem parFrom_spec (l : List NodeI) (d : Int) (n : Nat) : (parFrom l d n = -1 ∧ ∀ j, j < n → dep l j ≥ d) ∨ ∃ q : Nat, parFrom l d n = q ∧ q < n ∧ dep l q < d ∧ ∀ j, q < j → j < n → dep l j ≥ d := by
  induction n with
  | zero => exact .inl ⟨rfl, fun j h => absurd h (Nat.not_lt_zero _)⟩
  | succ n ih =>
    simp only [parFrom]
    by_cases c : dep l n ≥ d
    · rw [if_pos c]
      rcases ih with ⟨h1, h2⟩ | ⟨q, h1, h2, h3, h4⟩
      · refine .inl ⟨h1, fun j hj => ?_⟩
        by_cases e : j = n
        · subst e; exact c
        · exact h2 j (by omega)
      · refine .inr ⟨q, h1, by omega, h3, fun j h5 h6 => ?_⟩
        by_cases e : j = n
        · subst e; exact c
        · exact h4 j h5 (by omega)
    · rw [if_neg c]
      exact .inr ⟨n, rfl, by omega, by omega, fun j h1 h2 => by omega⟩
theorem parent_spec {l : List NodeI} (t : Tr l) {i : Nat} (h0 : 0 < i) (hi : i < l.length) : ∃ q : Nat, parentOf l i = q ∧ q < i ∧ dep l q + 1 = dep l i ∧ i < endN l q := by
  have hb : hasB l i = true := (hasB_iff _ _).2 ⟨t, by omega, by omega⟩
  unfold parentOf
  rw [if_pos hb, Int.toNat_natCast]
  rcases parFrom_spec l (dep l i) i with ⟨_, h2⟩ | ⟨q, h1, h2, h3, h4⟩
  · have := h2 0 h0
    have r := (t.chk 0 (by omega)).root rfl
    have p := (t.chk i hi).pos h0
    omega
  · refine ⟨q, h1, h2, ?_, ?_⟩
    · have hq : dep l (q + 1) ≥ dep l i := by
        by_cases e : q + 1 = i
        · rw [e]; exact Int.le_refl _
        · exact h4 (q + 1) (by omega) (by omega)
      have s := (t.chk (q + 1) (by omega)).step (by omega)
      rw [Nat.add_sub_cancel] at s
      omega
    · obtain ⟨e1, e2, e3, e4⟩ := endN_spec l (i := q) (by omega)
      rcases Nat.lt_or_ge i (endN l q) with h | h
      · exact h
      · have := e4 (by omega)
        by_cases e : endN l q = i
        · rw [e] at this; omega
        · have := h4 (endN l q) e1 (by omega)
          omega
theorem parent_root (l : List NodeI) (t : Tr l) : parentOf l 0 = -1 := by
  have := t.len1
  have hb : hasB l 0 = true := (hasB_iff _ _).2 ⟨t, by omega, by omega⟩
  unfold parentOf
  rw [if_pos hb]; rfl
theorem parent_none {l : List NodeI} {a : Int} (h : ¬ (Tr l ∧ 0 ≤ a ∧ a < l.length)) : parentOf l a = -1 := by
  unfold parentOf
  rw [if_neg (by rw [hasB_false h]; simp)]
def idxFrom (x : Int) : List Int → Nat → Int
  | [], _ => -1
  | y :: ys, i => if x = y then i else idxFrom x ys (i + 1)
theorem idxFrom_neg (x : Int) (l : List Int) : ∀ i, idxFrom x l i = -1 ↔ x ∉ l := by
  induction l with
  | nil => intro i; simp [idxFrom]
  | cons y l ih =>
    intro i
    simp only [idxFrom, List.mem_cons, not_or]
    by_cases c : x = y
    · rw [if_pos c]
      constructor
      · intro h; omega
      · intro h; exact absurd c h.1
    · rw [if_neg c, ih]
      exact ⟨fun h => ⟨c, h⟩, fun h => h.2⟩
theorem idxFrom_ge (x : Int) (l : List Int) : ∀ i, idxFrom x l i = -1 ∨ 0 ≤ idxFrom x l i := by
  induction l with
  | nil => intro i; exact .inl rfl
  | cons y l ih =>
    intro i
    simp only [idxFrom]
    split
    · exact .inr (by omega)
    · exact ih _
theorem specRank_l (l : List Int) (hl : l.length ≤ 1048576) (x : Int) (d : Nat) : ∀ j : Nat, j + d = l.length → Ev (fun r => spec_KidRank.l0 r x l j) (idxFrom x (l.drop j) j) := by
  induction d with
  | zero =>
    intro j hj
    rw [List.drop_of_length_le (by omega)]
    refine Ev.step (fun _ => rfl) ?_
    simp only [spec_KidRank.l0]
    exact Ev.ifF (by omega) (Ev.now _)
  | succ d ih =>
    intro j hj
    have hlt : j < l.length := by omega
    rw [List.drop_eq_getElem_cons hlt]
    refine Ev.step (fun _ => rfl) ?_
    simp only [spec_KidRank.l0, rd, getD_nat l j _ hlt, idxFrom]
    rw [wrapN (show j ≤ 1048576 by omega)]
    refine Ev.ifT (by omega) (Ev.ifT (by omega) ?_)
    by_cases c : x = l[j]
    · rw [if_pos c]; exact Ev.ifT c.symm (Ev.now _)
    · rw [if_neg c]; exact Ev.ifF (fun h => c h.symm) (ih (j + 1) (by omega))
noncomputable def kidRank (l : List NodeI) (a : Int) : Int := idxFrom a (kidsOf l (parentOf l a)) 0
theorem specKidRank_ev (l : List NodeI) (hm : l.length ≤ 9223372036854775807) (a : Int) : Ev (fun r => spec_KidRank.f r l a) (kidRank l a) := by
  unfold spec_KidRank.f kidRank
  have := kidsOf_len l (parentOf l a)
  refine Ev.bind (specParentOf_ev l hm a) ?_
  by_cases c : parentOf l a < 0
  · rw [kidsOf_none (fun h => by omega)]
    exact Ev.ifT c (Ev.now _)
  · refine Ev.ifF c (Ev.bind (specKidsOf_ev l hm _) ?_)
    have := specRank_l (kidsOf l (parentOf l a)) (by omega) a _ 0 (Nat.zero_add _)
    exact this
theorem kidRank_ge (l : List NodeI) (a : Int) : kidRank l a ≥ 0 ↔ (hasB l a = true ∧ a > 0) := by
  rw [hasB_iff]
  by_cases h : Tr l ∧ 0 ≤ a ∧ a < l.length
  · obtain ⟨t, h0, h1⟩ := h
    obtain ⟨i, rfl⟩ := Int.eq_ofNat_of_zero_le h0
    by_cases c : 0 < i
    · obtain ⟨q, e, hq, hd, he⟩ := parent_spec t c (by omega)
      have hm : ((i : Nat) : Int) ∈ kidsOf l (parentOf l i) := by
        rw [e, kidsOf_mem t (by omega)]
        exact ⟨i, rfl, hq, he, hd.symm⟩
      have hn := mt (idxFrom_neg (i : Int) (kidsOf l (parentOf l i)) 0).1 (fun z => z hm)
      have hg := idxFrom_ge (i : Int) (kidsOf l (parentOf l i)) 0
      unfold kidRank
      constructor
      · intro _; exact ⟨⟨t, by omega, by omega⟩, by omega⟩
      · intro _; rcases hg with hg | hg
        · exact absurd hg hn
        · exact hg
    · have e : i = 0 := by omega
      subst e
      have hz : kidRank l 0 = -1 := by
        unfold kidRank
        rw [parent_root l t, kidsOf_none (fun h => by omega)]; rfl
      constructor
      · intro z; have : kidRank l 0 ≥ 0 := z; omega
      · intro z; omega
  · have hz : kidRank l a = -1 := by
      unfold kidRank
      rw [parent_none h, kidsOf_none (fun z => by omega)]; rfl
    rw [hz]
    constructor
    · intro z; omega
    · intro z; exact absurd z.1 h
noncomputable def upPath (l : List NodeI) : Nat → Int → List Int
  | 0, _ => []
  | n + 1, a => if kidRank l a ≥ 0 then kidRank l a :: upPath l n (parentOf l a) else []
theorem upPath_len (l : List NodeI) (n : Nat) : ∀ a, (upPath l n a).length ≤ n := by
  induction n with
  | zero => intro a; simp [upPath]
  | succ n ih =>
    intro a
    simp only [upPath]
    have := ih (parentOf l a)
    split
    · simp only [List.length_cons]; omega
    · simp
theorem parent_lt {l : List NodeI} {a : Int} (h : kidRank l a ≥ 0) : -1 < parentOf l a ∧ parentOf l a < a ∧ a < l.length ∧ l.length ≤ 24 := by
  obtain ⟨hb, ha⟩ := (kidRank_ge l a).1 h
  obtain ⟨t, h0, h1⟩ := (hasB_iff l a).1 hb
  obtain ⟨i, rfl⟩ := Int.eq_ofNat_of_zero_le h0
  obtain ⟨q, e, hq, _, _⟩ := parent_spec t (i := i) (by omega) (by omega)
  have := t.len24
  rw [e]; omega
theorem specPath_l (l : List NodeI) (hm : l.length ≤ 9223372036854775807) (n : Nat) : ∀ (a : Int) (acc : List Int), (kidRank l a ≥ 0 → a < n) → acc.length + n ≤ 100000 → Ev (fun r => spec_PathOf.l0 r l acc a) ((upPath l n a).reverse ++ acc) := by
  induction n with
  | zero =>
    intro a acc ha hl
    have c : ¬ kidRank l a ≥ 0 := fun h => by
      have := ha h
      have := parent_lt h
      omega
    refine Ev.step (fun _ => rfl) ?_
    simp only [spec_PathOf.l0, upPath, List.reverse_nil, List.nil_append]
    exact Ev.bind (specKidRank_ev l hm a) (Ev.ifF c (Ev.now _))
  | succ n ih =>
    intro a acc ha hl
    refine Ev.step (fun _ => rfl) ?_
    simp only [spec_PathOf.l0, upPath]
    refine Ev.bind (specKidRank_ev l hm a) ?_
    by_cases c : kidRank l a ≥ 0
    · have hp := parent_lt c
      rw [if_pos c, List.reverse_cons, List.append_assoc]
      refine Ev.ifT c (Ev.bind (specKidRank_ev l hm a) (Ev.bindC rfl (Ev.ifT (by simp; omega) (Ev.bind (specParentOf_ev l hm a) ?_))))
      exact ih (parentOf l a) ([kidRank l a] ++ acc) (fun h => by have := ha c; omega) (by simp; omega)
    · rw [if_neg c, List.reverse_nil, List.nil_append]
      exact Ev.ifF c (Ev.now _)
noncomputable def pathOf (l : List NodeI) (a : Int) : List Int := (upPath l 25 a).reverse
theorem specPathOf_ev (l : List NodeI) (hm : l.length ≤ 9223372036854775807) (a : Int) : Ev (fun r => spec_PathOf.f r l a) (pathOf l a) := by
  have := specPath_l l hm 25 a [] (fun h => by have := parent_lt h; omega) (by simp)
  rw [List.append_nil] at this
  exact Ev.congr (fun _ => rfl) this
theorem pathOf_len (l : List NodeI) (a : Int) : (pathOf l a).length ≤ 25 := by
  unfold pathOf
  rw [List.length_reverse]
  exact upPath_len l 25 a
end Go.Proofs.Ytbifdckfglejkaa.Q
namespace Go.Proofs.Ytbifdckfglejkaa.Q
open Go.RowKit Go.Proofs.YtbifdckfglejkaaW.PrintWords Go.Proofs.YtbifdckfglejkaaW.PrintLast Go.Proofs.YtbifdckfglejkaaW.PrintMore Go.Proofs.Ytbifdckfglejkaa.X Go.Proofs.Ytbifdckfglejkaa.Rd
abbrev OpI := S67
end Go.Proofs.Ytbifdckfglejkaa.Q
namespace Go.Proofs.Ytbifdckfglejkaa.Q
open Go.RowKit Go.Proofs.YtbifdckfglejkaaW.PrintWords Go.Proofs.YtbifdckfglejkaaW.PrintLast Go.Proofs.YtbifdckfglejkaaW.PrintMore Go.Proofs.Ytbifdckfglejkaa.X Go.Proofs.Ytbifdckfglejkaa.Rd
set_option linter.unusedVariables false
set_option linter.unusedSimpArgs false
theorem op_j1 {c : List Int} {i : Int} (hc : Cur c i) (x kind : Int) (path : List Int) (hp : path.length ≤ 25) (lb fr cnt : Int) :
    ∃ r, Ev (fun k => spec_l13Op.j1 k c i x kind path lb fr cnt) r ∧ (Cur c r.2.2.2.2.2.1 ∧ r.2.1.length ≤ 26) := by
  refine Ev.stepE (fun _ => rfl) ?_
  simp only [spec_l13Op.j1]
  obtain ⟨r1, j1, y1, e1, c1, _⟩ := below_ex hc x 14 (by omega)
  refine Ev.bindO e1 ?_
  refine Ev.ifE (fun _ => ?_) (fun _ => Ev.ifE (fun _ => ?_) (fun _ => Ev.ifE (fun _ => ?_) (fun _ => Ev.ifE (fun _ => ?_) (fun _ => Ev.ifE (fun _ => ?_) (fun _ => ?_)))))
  · obtain ⟨r2, j2, y2, e2, c2, _⟩ := below_ex c1 y1 5 (by omega)
    exact Ev.bindO e2 ⟨_, Ev.now _, c2, by simp only; omega⟩
  · obtain ⟨r2, j2, y2, e2, c2, _⟩ := below_ex c1 y1 3 (by omega)
    exact Ev.bindO e2 (Ev.ifP (by omega) ⟨_, Ev.now _, c2, by simp only [List.length_append, List.length_singleton]; omega⟩)
  · obtain ⟨r2, j2, y2, e2, c2⟩ := any_ex c1 y1
    exact Ev.bindO e2 ⟨_, Ev.now _, c2, by simp only; omega⟩
  · obtain ⟨r2, j2, y2, e2, c2, _⟩ := pick_ex c1 y1 [-1, 1, 9, 9223372036854775807] (by decide) (by decide)
    exact Ev.bindO e2 ⟨_, Ev.now _, c2, by simp only; omega⟩
  · obtain ⟨r2, j2, y2, e2, c2, _⟩ := pick_ex c1 y1 [-1, 1, 9, 9223372036854775807] (by decide) (by decide)
    exact Ev.bindO e2 ⟨_, Ev.now _, c2, by simp only; omega⟩
  · exact ⟨_, Ev.now _, c1, by simp only; omega⟩
theorem op_j0 {c : List Int} {i : Int} (hc : Cur c i) (l : List NodeI) (hl : l.length ≤ 100) (x kind : Int) (path : List Int) (hp : path.length ≤ 25) (lb fr cnt : Int) :
    ∃ r, Ev (fun k => spec_l13Op.j0 k l c i x kind path lb fr cnt) r ∧ (Cur c r.2.2.2.2.2.1 ∧ r.2.1.length ≤ 26) := by
  refine Ev.stepE (fun _ => rfl) ?_
  simp only [spec_l13Op.j0]
  refine Ev.ifE (fun _ => ?_) (fun _ => op_j1 hc x kind path hp lb fr cnt)
  refine Ev.bindE (specNodeAt_ev l (by omega) path (by omega)) (Ev.bindE (specKidsOf_ev l (by omega) _) ?_)
  have hk := kidsOf_len l (nodeAt l path)
  have w1 : wrap64 (((kidsOf l (nodeAt l path)).length : Int) + 1) = ((kidsOf l (nodeAt l path)).length : Int) + 1 := wrap_id (by omega) (by omega)
  rw [w1]
  obtain ⟨r1, j1, y1, e1, c1, q0, q1, _⟩ := below_ex hc x (((kidsOf l (nodeAt l path)).length : Int) + 1) (by omega)
  have q2 := q1 (by omega)
  refine Ev.bindO e1 ?_
  have w2 : wrap64 (wrap64 (((kidsOf l (nodeAt l path)).length : Int) - r1) + 1) = ((kidsOf l (nodeAt l path)).length : Int) - r1 + 1 := by
    rw [wrap_id (x := ((kidsOf l (nodeAt l path)).length : Int) - r1) (by omega) (by omega), wrap_id (by omega) (by omega)]
  simp only [w2]
  obtain ⟨r2, j2, y2, e2, c2, _⟩ := below_ex c1 y1 (((kidsOf l (nodeAt l path)).length : Int) - r1 + 1) (by omega)
  refine Ev.bindO e2 ?_
  exact op_j1 c2 y2 kind path hp lb r1 r2
theorem op_ex {c : List Int} {i : Int} (hc : Cur c i) (x : Int) (l : List NodeI) (hl : l.length ≤ 100) :
    ∃ r, Ev (fun k => spec_l13Op.f k c i x l) r ∧ (Cur c r.2.2.2.2.2.1 ∧ r.2.1.length ≤ 26) := by
  unfold spec_l13Op.f
  obtain ⟨r1, j1, y1, e1, c1, q0, q1, _⟩ := below_ex hc x 3 (by omega)
  refine Ev.bindO e1 ?_
  have hm : mx 1 (l.length : Int) ≤ 100 := by unfold mx; split <;> omega
  obtain ⟨r2, j2, y2, e2, c2, _⟩ := below_ex c1 y1 (mx 1 (l.length : Int)) (by omega)
  refine Ev.bindO e2 (Ev.bindE (specPathOf_ev l (by omega) r2) ?_)
  have hp := pathOf_len l r2
  refine Ev.ifE (fun _ => op_j0 c2 l hl y2 _ _ hp 0 0 0) (fun _ => ?_)
  obtain ⟨r3, j3, y3, e3, c3, _⟩ := label_ex c2 y2
  exact Ev.bindO e3 (op_j0 c3 l hl y3 _ _ hp r3 0 0)
end Go.Proofs.Ytbifdckfglejkaa.Q
namespace Go.Proofs.Ytbifdckfglejkaa.Q
open Go.RowKit Go.Proofs.YtbifdckfglejkaaW.PrintWords Go.Proofs.YtbifdckfglejkaaW.PrintLast Go.Proofs.YtbifdckfglejkaaW.PrintMore Go.Proofs.Ytbifdckfglejkaa.X Go.Proofs.Ytbifdckfglejkaa.Rd
set_option linter.unusedVariables false
set_option linter.unusedSimpArgs false
def rk (l : List NodeI) (j : Nat) : Nat := endN l j - 1 - (dep l j).toNat
theorem kidsFrom_filter (l : List NodeI) (i : Nat) (n : Nat) : ∀ k, endN l i ≤ k + n → kidsFrom l i n k = ((List.range' k (endN l i - k)).filter fun j => decide (dep l j = dep l i + 1)).map (fun j : Nat => (j : Int)) := by
  induction n with
  | zero => intro k hk; rw [show endN l i - k = 0 by omega]; rfl
  | succ n ih =>
    intro k hk
    simp only [kidsFrom]
    by_cases c : k < endN l i
    · rw [if_pos c, show endN l i - k = (endN l i - (k + 1)) + 1 by omega, List.range'_succ]
      by_cases c2 : dep l k = dep l i + 1
      · rw [if_pos c2, List.filter_cons_of_pos (by simpa using c2), List.map_cons, ih (k + 1) (by omega)]
      · rw [if_neg c2, List.filter_cons_of_neg (by simpa using c2), ih (k + 1) (by omega)]
    · rw [if_neg c, show endN l i - k = 0 by omega]; rfl
def kidsL (l : List NodeI) (i k : Nat) : List Int := ((List.range' k (endN l i - k)).filter fun j => decide (dep l j = dep l i + 1)).map (fun j : Nat => (j : Int))
theorem kidsOf_eq {l : List NodeI} (t : Tr l) {i : Nat} (hi : i < l.length) : kidsOf l i = kidsL l i (i + 1) := by
  have hb : hasB l i = true := (hasB_iff _ _).2 ⟨t, by omega, by omega⟩
  have hs := endN_spec l hi
  unfold kidsOf
  rw [if_pos hb, Int.toNat_natCast, kidsFrom_filter l i l.length (i + 1) (by omega)]
  rfl
def IsP (l : List NodeI) (P : List Int) (lo hi : Nat) (a : Int) : Prop := P.length = hi - lo ∧ ∀ r, r < P.length → ∃ j : Nat, lo ≤ j ∧ j < hi ∧ P[r]? = some (j : Int) ∧ (rk l j : Int) = a + r
theorem IsP.append {l : List NodeI} {P Q : List Int} {lo mid hi : Nat} {a b : Int} (h : IsP l P lo mid a) (k : IsP l Q mid hi b) (h1 : lo ≤ mid) (h2 : mid ≤ hi) (hb : b = a + ((mid : Int) - lo)) : IsP l (P ++ Q) lo hi a := by
  obtain ⟨p1, p2⟩ := h
  obtain ⟨q1, q2⟩ := k
  refine ⟨by rw [List.length_append]; omega, fun r hr => ?_⟩
  rw [List.length_append] at hr
  by_cases c : r < P.length
  · obtain ⟨j, j1, j2, j3, j4⟩ := p2 r c
    exact ⟨j, j1, by omega, by rw [List.getElem?_append_left c]; exact j3, j4⟩
  · obtain ⟨j, j1, j2, j3, j4⟩ := q2 (r - P.length) (by omega)
    exact ⟨j, by omega, j2, by rw [List.getElem?_append_right (by omega)]; exact j3, by omega⟩
theorem IsP.none (l : List NodeI) (k : Nat) (a : Int) : IsP l [] k k a := ⟨by simp, fun r h => absurd h (by simp)⟩
end Go.Proofs.Ytbifdckfglejkaa.Q
namespace Go.Proofs.Ytbifdckfglejkaa.Q
open Go.RowKit Go.Proofs.YtbifdckfglejkaaW.PrintWords Go.Proofs.YtbifdckfglejkaaW.PrintLast Go.Proofs.YtbifdckfglejkaaW.PrintMore Go.Proofs.Ytbifdckfglejkaa.X Go.Proofs.Ytbifdckfglejkaa.Rd
set_option linter.unusedVariables false
set_option linter.unusedSimpArgs false
theorem same_l (l : List NodeI) (hl : l.length ≤ 1048576) (d : Nat) : ∀ i : Nat, i + d = l.length → Ev (fun k => spec_SameTree.l0 k l l i) true := by
  induction d with
  | zero =>
    intro i hi
    refine Ev.step (fun _ => rfl) ?_
    simp only [spec_SameTree.l0]
    exact Ev.ifF (by omega) (Ev.now _)
  | succ d ih =>
    intro i hi
    refine Ev.step (fun _ => rfl) ?_
    simp only [spec_SameTree.l0]
    rw [wrap_succ (show i < l.length by omega) (by omega)]
    exact Ev.ifT (by omega) (Ev.ifT (by omega) (Ev.ifT (by omega) (Ev.ifF (by simp) (ih (i + 1) (by omega)))))
theorem same_ev (l : List NodeI) (hl : l.length ≤ 1048576) : Ev (fun k => spec_SameTree.f k l l) true := by
  unfold spec_SameTree.f
  exact Ev.ifT rfl (same_l l hl l.length 0 (by omega))
end Go.Proofs.Ytbifdckfglejkaa.Q
namespace Go.Proofs.Ytbifdckfglejkaa.Q
open Go.RowKit Go.Proofs.YtbifdckfglejkaaW.PrintWords Go.Proofs.YtbifdckfglejkaaW.PrintLast Go.Proofs.YtbifdckfglejkaaW.PrintMore Go.Proofs.Ytbifdckfglejkaa.X Go.Proofs.Ytbifdckfglejkaa.Rd
set_option linter.unusedVariables false
set_option linter.unusedSimpArgs false
theorem byte_wf {x : Int} (h : (Lit.int .u8 x).wf = true) : 0 ≤ x ∧ x ≤ 255 := by
  simp only [Lit.wf, Bool.and_eq_true, decide_eq_true_eq] at h
  exact h
theorem at_ex (c : List Int) (hl : c.length ≤ 1048576) (hb : ∀ x ∈ c, 0 ≤ x ∧ x ≤ 255) (i : Int) (h0 : 0 ≤ i) (h1 : i ≤ 1000) : ∃ r, laws_at.f c i = some r ∧ 0 ≤ r ∧ r ≤ 255 := by
  unfold laws_at.f
  by_cases k : i < (c.length : Int)
  · rw [if_pos k, if_pos h0]
    have hi : i.toNat < c.length := by omega
    have e : rd c i = c[i.toNat] := getD_lt c _ hi
    have b := hb _ (List.getElem_mem hi)
    rw [e, wrap_id (by omega) (by omega)]
    exact ⟨_, rfl, b.1, b.2⟩
  · rw [if_neg k, wrap_id (x := i * 37) (by omega) (by omega), wrap_id (x := (c.length : Int) * 11) (by omega) (by omega), wrap_id (x := i * 37 + (c.length : Int) * 11) (by omega) (by omega)]
    refine ⟨_, rfl, ?_, ?_⟩
    · rw [Int.tmod_eq_emod_of_nonneg (by omega)]; omega
    · rw [Int.tmod_eq_emod_of_nonneg (by omega)]; omega
end Go.Proofs.Ytbifdckfglejkaa.Q
