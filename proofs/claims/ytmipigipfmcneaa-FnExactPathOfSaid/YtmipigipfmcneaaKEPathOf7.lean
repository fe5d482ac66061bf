/- Part 7 of the proof of FnExactPathOf: what it needs. -/
import Derived.WalkKit
import Derived.ProofKit
import Derived.OpenShut
import Derived.ShutString
import Derived.ChangeOld
import Derived.Below
import Derived.Deep.Slices
import Derived.Test.YtmipigipfmcneaaKEPathOf3
import Derived.Test.YtmipigipfmcneaaKEPathOf4
import Derived.Test.YtmipigipfmcneaaKEPathOf5
import Derived.Test.YtmipigipfmcneaaKEPathOf6
namespace Go.Proofs.Ytmipigipfmcneaa.Rd
open Go.ChangeShapes Go.WideShapes Go.ChangeAt Go.RowKit Go.Proofs.YtmipigipfmcneaaW.PrintWords
structure Rd (P : Program) (t : TypeId) {α : Type} (d : Kd α) (wf : α → Prop) : Prop where
  size : P.cellsOf t = d.sz
  reads : ∀ {H : Type} {enc : TypeId × Value → H} {w : World} {spare : Nat → Bool} {held : Bool} {fuel : Nat} {cs : List Value} {x : DataW H × List MemPlace},
    DataW.trod enc P w 0 spare held fuel t cs = some x → ∃ y, d.K w y cs ∧ wf y
theorem rd_int {P : Program} {t : TypeId} {k : IntKind} (ht : P.underlying t = some (.int k)) (hc : P.cellsOf t = 1) : Rd P t (Kd.int k) (fun n => (Lit.int k n).wf = true) :=
  ⟨hc, fun h => by
    obtain ⟨n, rfl, _, hw⟩ := DataW.trod_int ht h
    exact ⟨n, rfl, hw⟩⟩
theorem rd_slice {P : Program} {t e : TypeId} {α : Type} [Inhabited α] {d : Kd α} {wf : α → Prop} (ht : P.underlying t = some (.slice e)) (hc : P.cellsOf t = 1) (h : Rd P e d wf) : Rd P t (Kd.slice e d) (fun xs => xs.length ≤ 9223372036854775807 ∧ ∀ x ∈ xs, wf x) :=
  ⟨hc, fun {H enc w spare held fuel cs x} hx => by
    rcases Go.Deep.open_slice ht hx with ⟨rfl, _⟩ | ⟨a, len, cap, m, n, D, Pl, rfl, _, hl, hm, hmm, _, hel⟩
    · exact ⟨[], ⟨none, 0, rfl, Nat.le_refl _, rfl, by simp, fun h => absurd h (Nat.lt_irrefl _)⟩, by simp, by simp⟩
    · have hle : len ≤ m := by rw [hmm]; split <;> omega
      obtain ⟨f, hf⟩ := Go.Deep.choose_lt (n := len) (p := fun i (y : α) => ∃ cs', w.cells? 0 (a.add (i * P.cellsOf e)) (P.cellsOf e) = some cs' ∧ d.K w y cs' ∧ wf y) (fun i hi => by
        obtain ⟨cs', h1, h2⟩ := hel i (by omega)
        obtain ⟨y, hy, hw⟩ := h.reads h2
        exact ⟨y, cs', h1, hy, hw⟩)
      have hlen : ((List.range len).map f).length = len := by simp
      refine ⟨(List.range len).map f, ⟨some a, cap, by rw [hlen], by rw [hlen]; exact hl, ?_⟩, by rw [hlen]; unfold maxLen at hm; omega, ?_⟩
      · refine ⟨rfl, by rw [hlen]; unfold maxLen at hm; omega, fun _ => ⟨a, rfl, fun j p hj => ?_⟩⟩
        have hj' : j < len ∧ f j = p := by
          rw [List.getElem?_map] at hj
          obtain ⟨i, hi, hp⟩ := Option.map_eq_some_iff.1 hj
          have := List.getElem?_eq_some_iff.1 hi
          obtain ⟨h1, h2⟩ := this
          simp at h1 h2
          subst h2
          exact ⟨h1, hp⟩
        obtain ⟨cs', h1, h2, _⟩ := hf j hj'.1
        rw [hj'.2] at h2
        obtain ⟨_, hn, hcell⟩ := World.cells?_some h1
        refine ⟨cs', d.K_len h2, h2, fun i u hu => ?_⟩
        have hi : i < cs'.length := (List.getElem?_eq_some_iff.1 hu).1
        have := hcell i (by omega)
        rw [Go.Deep.add_add, h.size] at this
        rw [this, hu]
      · intro x hx
        obtain ⟨i, hi, rfl⟩ := List.mem_map.1 hx
        obtain ⟨_, _, _, hw⟩ := hf i (by simpa using hi)
        exact hw⟩
structure RdF (P : Program) (o : Nat) (fs : List Field) {α : Type} (d : Kd α) (wf : α → Prop) : Prop where
  reads : ∀ {H : Type} {enc : TypeId × Value → H} {w : World} {spare : Nat → Bool} {held : Bool} {fuel : Nat} {cs : List Value}, o + d.sz ≤ cs.length →
    (∀ f ∈ fs, ∃ x, DataW.trod enc P w 0 spare held fuel f.type ((cs.drop f.offset).take (P.cellsOf f.type)) = some x) → ∃ y, d.K w y ((cs.drop o).take d.sz) ∧ wf y
theorem rdf_one {P : Program} {o : Nat} {f : Field} {α : Type} {d : Kd α} {wf : α → Prop} (ho : f.offset = o) (h : Rd P f.type d wf) : RdF P o [f] d wf :=
  ⟨fun _ hf => by
    obtain ⟨x, hx⟩ := hf f (by simp)
    rw [ho, h.size] at hx
    exact h.reads hx⟩
theorem rdf_cons {P : Program} {o : Nat} {f : Field} {fs : List Field} {α β : Type} {d : Kd α} {d' : Kd β} {wf : α → Prop} {wf' : β → Prop} (ho : f.offset = o) (h : Rd P f.type d wf) (h' : RdF P (o + d.sz) fs d' wf') :
    RdF P o (f :: fs) (Kd.pair d d') (fun x => wf x.1 ∧ wf' x.2) :=
  ⟨fun {H enc w spare held fuel cs} hl hf => by
    have hl' : o + (d.sz + d'.sz) ≤ cs.length := hl
    obtain ⟨x, hx⟩ := hf f (by simp)
    rw [ho, h.size] at hx
    obtain ⟨y, hy, hw⟩ := h.reads hx
    obtain ⟨y', hy', hw'⟩ := h'.reads (cs := cs) (by omega) (fun g hg => hf g (by simp [hg]))
    refine ⟨(y, y'), ⟨_, _, ?_, hy, hy'⟩, hw, hw'⟩
    show (cs.drop o).take (d.sz + d'.sz) = _
    rw [List.take_add, List.drop_drop]⟩
theorem rd_struct {P : Program} {t : TypeId} {fs : Array Field} {α β : Type} {d : Kd α} {wf : α → Prop} (g : β → α) (ht : P.underlying t = some (.struct fs)) (hc : P.cellsOf t = d.sz) (hg : ∀ y, ∃ x, g x = y) (h : RdF P 0 fs.toList d wf) :
    Rd P t (Kd.iso d g) (fun x => wf (g x)) :=
  ⟨hc, fun {H enc w spare held fuel cs x} hx => by
    obtain ⟨xs, n, _, _, hl, hlen, hf⟩ := DataW.trod_struct ht hx
    obtain ⟨y, hy, hw⟩ := h.reads (enc := enc) (w := w) (spare := spare) (held := held) (fuel := n) (cs := cs) (by omega) (fun f hfm => by
      obtain ⟨i, hi, rfl⟩ := List.getElem_of_mem hfm
      have h1 : fs[i]? = some fs[i] := Array.getElem?_eq_getElem (by simpa using hi)
      have h2 := hf i _ h1
      have h3 : i < xs.length := by rw [hlen]; simpa using hi
      rw [List.getElem?_eq_getElem h3] at h2
      exact ⟨_, h2⟩)
    rw [List.drop_zero, List.take_of_length_le (by omega)] at hy
    obtain ⟨z, rfl⟩ := hg y
    exact ⟨z, hy, hw⟩⟩
theorem own : ownKnob Try.prog.godebug = none := by kernel_rfl
theorem laidOut : laidOutB Try.prog = true := by kernel_rfl
end Go.Proofs.Ytmipigipfmcneaa.Rd
namespace Go.Proofs.Ytmipigipfmcneaa.Rd
open Go.ChangeShapes Go.WideShapes Go.ChangeAt Go.RowKit Go.Proofs.YtmipigipfmcneaaW.PrintWords Go.Proofs.Ytmipigipfmcneaa.X
theorem rdt3 : Rd Try.prog 3 (Kd.int .i64) (fun n => (Lit.int .i64 n).wf = true) := rd_int Try.underlying3 (by kernel_rfl)
instance : Inhabited S66 := ⟨z66⟩
def WF77 (x : S77) : Prop := (Lit.int .i64 x.f0).wf = true ∧ (Lit.int .i64 x.f1).wf = true
theorem rdt77 : Rd Try.prog 77 k77 WF77 := rd_struct (fun x : S77 => (x.f0, x.f1)) Try.underlying77 (by kernel_rfl) (fun y => ⟨⟨y.1, y.2⟩, rfl⟩) (rdf_cons rfl rdt3 (rdf_one rfl rdt3))
def WF29 (xs : (List S77)) : Prop := xs.length ≤ 9223372036854775807 ∧ ∀ x ∈ xs, WF77 x
instance : Inhabited S77 := ⟨z77⟩
theorem rdt29 : Rd Try.prog 29 (Kd.slice 77 k77) WF29 := rd_slice Try.underlying29 (by kernel_rfl) rdt77
instance : Inhabited S84 := ⟨z84⟩
end Go.Proofs.Ytmipigipfmcneaa.Rd
namespace Go.Proofs.Ytmipigipfmcneaa.Q
open Go.RowKit Go.Proofs.YtmipigipfmcneaaW.PrintWords Go.Proofs.YtmipigipfmcneaaW.PrintLast Go.Proofs.YtmipigipfmcneaaW.PrintMore Go.Proofs.Ytmipigipfmcneaa.X Go.Proofs.Ytmipigipfmcneaa.Rd
set_option linter.unusedVariables false
set_option linter.unusedSimpArgs false
theorem wrap_id {x : Int} (h : -9223372036854775808 ≤ x) (h' : x ≤ 9223372036854775807) : wrap64 x = x := by
  unfold wrap64; omega
theorem wrap_succ {i n : Nat} (h : i < n) (hn : n ≤ 9223372036854775807) : wrap64 ((i : Int) + 1) = ((i + 1 : Nat) : Int) := by
  unfold wrap64; omega
theorem Ev.constOf {α : Type} {o : Option α} {r : α} (h : o = some r) : Ev (fun _ => o) r := ⟨0, fun _ _ => h⟩
theorem Ev.bindC {α β : Type} {o : Option α} {f : Nat → α → Option β} {a : α} {r : β} (h : o = some a) (k : Ev (fun n => f n a) r) : Ev (fun n => o.bind (f n)) r :=
  Ev.bind (Ev.constOf h) k
theorem Ev.ifT {α : Type} {c : Prop} [Decidable c] {g f : Nat → Option α} {r : α} (h : c) (k : Ev g r) : Ev (fun n => if c then g n else f n) r := by
  simpa only [if_pos h] using k
theorem Ev.ifF {α : Type} {c : Prop} [Decidable c] {g f : Nat → Option α} {r : α} (h : ¬ c) (k : Ev f r) : Ev (fun n => if c then g n else f n) r := by
  simpa only [if_neg h] using k
theorem ite_dec {α : Type} {p : Prop} [Decidable p] (a b : α) : (if decide p = true then a else b) = if p then a else b := by
  by_cases h : p <;> simp [h]
theorem getD_nat {α : Type} (xs : List α) (i : Nat) (d : α) (h : i < xs.length) : xs.getD ((i : Int)).toNat d = xs[i] := by
  rw [Int.toNat_natCast, List.getD_eq_getElem?_getD, List.getElem?_eq_getElem h]; rfl
theorem getD_lt {α : Type} (xs : List α) {i : Nat} (d : α) (h : i < xs.length) : xs.getD i d = xs[i] := by
  rw [List.getD_eq_getElem?_getD, List.getElem?_eq_getElem h]; rfl
theorem take_succ_map {α β : Type} (f : α → β) (l : List α) (i : Nat) (h : i < l.length) : (l.take (i + 1)).map f = (l.take i).map f ++ [f l[i]] := by
  rw [List.take_succ_eq_append_getElem h, List.map_append]; rfl
theorem take_succ_append {α : Type} (l : List α) (i : Nat) (h : i < l.length) : l.take (i + 1) = l.take i ++ [l[i]] := List.take_succ_eq_append_getElem h
theorem eqLoop {A : Type} (F : Nat → List A → List A → Int → Option Bool) (e : Nat → A → A → Option Bool) (dA : A)
    (hF : ∀ k x y i, F (k + 1) x y i = if i < (x.length : Int) then (if 0 ≤ i then (if i < (y.length : Int) then ((e k (x.getD i.toNat dA) (y.getD i.toNat dA)).bind fun t => if t = true then F k x y (wrap64 (i + 1)) else some false) else none) else none) else some true)
    (l : List A) (hl : l.length ≤ 9223372036854775807) (he : ∀ x ∈ l, Ev (fun k => e k x x) true) (d : Nat) : ∀ (i : Nat), i + d = l.length → Ev (fun k => F k l l i) true := by
  induction d with
  | zero =>
    intro i hi
    refine Ev.step (f := fun _ => some true) (fun k => ?_) (Ev.now _)
    rw [hF, if_neg (by omega)]
  | succ d ih =>
    intro i hi
    have hlt : i < l.length := by omega
    refine Ev.step (f := fun k => (e k l[i] l[i]).bind fun t => if t = true then F k l l ((i + 1 : Nat) : Int) else some false) (fun k => ?_) (Ev.bind (he l[i] (List.getElem_mem hlt)) ?_)
    · rw [hF, if_pos (by omega), if_pos (by omega), if_pos (by omega), Int.toNat_natCast, getD_lt l _ hlt, wrap_succ hlt hl]
    · exact Ev.ifT rfl (ih (i + 1) (by omega))
end Go.Proofs.Ytmipigipfmcneaa.Q
namespace Go.Proofs.Ytmipigipfmcneaa.Q
open Go.RowKit Go.Proofs.YtmipigipfmcneaaW.PrintWords Go.Proofs.YtmipigipfmcneaaW.PrintLast Go.Proofs.YtmipigipfmcneaaW.PrintMore Go.Proofs.Ytmipigipfmcneaa.X Go.Proofs.Ytmipigipfmcneaa.Rd
set_option linter.unusedVariables false
set_option linter.unusedSimpArgs false
abbrev NodeI := S75
def nd (l : List NodeI) (i : Nat) : NodeI := l.getD i z75
def lab (l : List NodeI) (i : Nat) : Int := (nd l i).f0
def dep (l : List NodeI) (i : Nat) : Int := (nd l i).f1
theorem rd_nd (l : List NodeI) (i : Nat) : rd_T75 l (i : Int) = nd l i := by
  simp [rd_T75, nd]
theorem rd_lab (l : List NodeI) (i : Nat) : (rd_T75 l (i : Int)).f0 = lab l i := by rw [rd_nd]; rfl
theorem rd_dep (l : List NodeI) (i : Nat) : (rd_T75 l (i : Int)).f1 = dep l i := by rw [rd_nd]; rfl
theorem rd_dep0 (l : List NodeI) : (rd_T75 l 0).f1 = dep l 0 := rd_dep l 0
structure Chk (l : List NodeI) (j : Nat) : Prop where
  l0 : 0 ≤ lab l j
  l5 : lab l j ≤ 5
  d0 : 0 ≤ dep l j
  d12 : dep l j ≤ 12
  root : j = 0 → dep l 0 = 0
  pos : 0 < j → 1 ≤ dep l j
  step : 0 < j → dep l j ≤ dep l (j - 1) + 1
structure Tr (l : List NodeI) : Prop where
  len1 : 1 ≤ l.length
  len24 : l.length ≤ 24
  chk : ∀ j, j < l.length → Chk l j
noncomputable def trB (l : List NodeI) : Bool := @decide (Tr l) (Classical.propDecidable _)
theorem trB_iff (l : List NodeI) : trB l = true ↔ Tr l := by
  unfold trB; exact @decide_eq_true_iff _ (Classical.propDecidable _)
theorem trB_false (l : List NodeI) (h : ¬ Tr l) : trB l = false := by
  rw [← Bool.not_eq_true, trB_iff]; exact h
theorem trB_true {l : List NodeI} (h : Tr l) : trB l = true := (trB_iff l).2 h
theorem within_eq (a b c : Int) : impl_within.f a b c = some (decide (b ≤ a ∧ a ≤ c)) := by
  unfold impl_within.f
  by_cases h : b ≤ a <;> simp [h]
theorem l1In_eq (a b c : Int) : spec_l1In.f a b c = some (decide (b ≤ a ∧ a ≤ c)) := by
  unfold spec_l1In.f
  by_cases h : b ≤ a
  · rw [if_pos h]; simp [h]
  · rw [if_neg h]; simp [h]
theorem implLabelOk_eq (a : Int) : impl_LabelOk.f a = some (decide (0 ≤ a ∧ a ≤ 5)) := by
  unfold impl_LabelOk.f; rw [within_eq]; rfl
theorem specLabelOk_eq (a : Int) : spec_LabelOk.f a = some (decide (0 ≤ a ∧ a ≤ 5)) := by
  unfold spec_LabelOk.f; rw [l1In_eq]; rfl
theorem implTreeOk_l (l : List NodeI) (h1 : 1 ≤ l.length) (h24 : l.length ≤ 24) (d : Nat) : ∀ i : Nat, i + d = l.length → (∀ j, j < i → Chk l j) → Ev (fun k => impl_TreeOk.l0 k l l l.length i) (trB l) := by
  induction d with
  | zero =>
    intro i hi hc
    rw [trB_true ⟨h1, h24, fun j hj => hc j (by omega)⟩]
    refine Ev.step (f := fun _ => some true) (fun k => ?_) (Ev.now _)
    simp only [impl_TreeOk.l0]
    rw [if_neg (by omega)]
  | succ d ih =>
    intro i hi hc
    have hlt : i < l.length := by omega
    have no : ¬ Chk l i → trB l = false := fun h => trB_false l fun t => h (t.chk i hlt)
    have e : ∀ k, impl_TreeOk.l0 (k + 1) l l l.length i = if (0 ≤ lab l i ∧ lab l i ≤ 5) then (if 0 ≤ dep l i ∧ dep l i ≤ 12 then ((impl_depthOk.f l i).bind fun t => if t = true then impl_TreeOk.l0 k l l l.length ((i + 1 : Nat) : Int) else some false) else some false) else some false := by
      intro k
      simp only [impl_TreeOk.l0]
      rw [if_pos (by omega), if_pos (by omega), if_pos (by omega), rd_lab, rd_dep, implLabelOk_eq, Option.bind_some, within_eq, wrap_succ hlt (by omega)]
      simp only [ite_dec, Option.bind_some]
    by_cases c1 : 0 ≤ lab l i ∧ lab l i ≤ 5
    · by_cases c2 : 0 ≤ dep l i ∧ dep l i ≤ 12
      · have dk : impl_depthOk.f l i = some (decide ((i = 0 → dep l 0 = 0) ∧ (0 < i → 1 ≤ dep l i ∧ dep l i ≤ dep l (i - 1) + 1))) := by
          unfold impl_depthOk.f
          by_cases c3 : i = 0
          · subst c3
            rw [if_pos (by omega), if_pos (by omega)]
            rw [rd_dep0]
            congr 1
            by_cases c4 : dep l 0 = 0 <;> simp [c4]
          · have hp := hc (i - 1) (by omega)
            have w1 : wrap64 ((i : Int) - 1) = ((i - 1 : Nat) : Int) := by rw [wrap_id (by omega) (by omega)]; omega
            rw [if_neg (by omega), if_pos (by omega), if_pos (by omega), w1, if_pos (by omega), if_pos (by omega), rd_dep, rd_dep, within_eq, Option.bind_some]
            have d12 := hp.d12
            have d0 := hp.d0
            rw [wrap_id (by omega) (by omega)]
            congr 1
            have c5 : 0 < i := by omega
            simp [c3, c5]
        by_cases c3 : (i = 0 → dep l 0 = 0) ∧ (0 < i → 1 ≤ dep l i ∧ dep l i ≤ dep l (i - 1) + 1)
        · refine Ev.step (f := fun k => impl_TreeOk.l0 k l l l.length ((i + 1 : Nat) : Int)) (fun k => ?_) (ih (i + 1) (by omega) (fun j hj => ?_))
          · rw [e, if_pos c1, if_pos c2, dk, Option.bind_some, if_pos (decide_eq_true c3)]
          · by_cases ej : j = i
            · subst ej
              exact ⟨c1.1, c1.2, c2.1, c2.2, c3.1, fun h => (c3.2 h).1, fun h => (c3.2 h).2⟩
            · exact hc j (by omega)
        · rw [no fun h => c3 ⟨h.root, fun hp => ⟨h.pos hp, h.step hp⟩⟩]
          refine Ev.step (f := fun _ => some false) (fun k => ?_) (Ev.now _)
          rw [e, if_pos c1, if_pos c2, dk, Option.bind_some, if_neg (by rw [decide_eq_false c3]; simp)]
      · rw [no fun h => c2 ⟨h.d0, h.d12⟩]
        refine Ev.step (f := fun _ => some false) (fun k => ?_) (Ev.now _)
        rw [e, if_pos c1, if_neg c2]
    · rw [no fun h => c1 ⟨h.l0, h.l5⟩]
      refine Ev.step (f := fun _ => some false) (fun k => ?_) (Ev.now _)
      rw [e, if_neg c1]
theorem implTreeOk_ev (l : List NodeI) : Ev (fun k => impl_TreeOk.f k l) (trB l) := by
  unfold impl_TreeOk.f
  refine Ev.bindC (within_eq _ _ _) ?_
  by_cases h : (1 : Int) ≤ l.length ∧ (l.length : Int) ≤ 24
  · refine Ev.ifT (by simpa using h) ?_
    exact implTreeOk_l l (by omega) (by omega) l.length 0 (by omega) (fun j hj => absurd hj (Nat.not_lt_zero _))
  · rw [trB_false l fun t => h ⟨by have := t.len1; omega, by have := t.len24; omega⟩]
    exact Ev.ifF (by simpa using h) (Ev.now _)
theorem specTreeOk_l (l : List NodeI) (hm : l.length ≤ 9223372036854775807) (d : Nat) : ∀ i : Nat, i + d = l.length → (∀ j, j < i → Chk l j) → Ev (fun k => spec_TreeOk.l0 k l i) (trB l) := by
  induction d with
  | zero =>
    intro i hi hc
    refine Ev.step (f := fun _ => some (trB l)) (fun k => ?_) (Ev.now _)
    simp only [spec_TreeOk.l0]
    rw [if_neg (by omega), l1In_eq]
    simp only [Option.bind_some]
    congr 1
    by_cases h : (1 : Int) ≤ l.length ∧ (l.length : Int) ≤ 24
    · rw [trB_true ⟨by omega, by omega, fun j hj => hc j (by omega)⟩]; simpa using h
    · rw [trB_false l fun t => h ⟨by have := t.len1; omega, by have := t.len24; omega⟩]; simpa using h
  | succ d ih =>
    intro i hi hc
    have hlt : i < l.length := by omega
    have no : ¬ Chk l i → trB l = false := fun h => trB_false l fun t => h (t.chk i hlt)
    have dn : (((dep l i == 0) != ((i : Int) == 0)) = true) ↔ ¬ (dep l i = 0 ↔ i = 0) := by
      rw [bne_iff_ne, ne_eq, Bool.eq_iff_iff, beq_iff_eq, beq_iff_eq, show ((i : Int) = 0 ↔ i = 0) from by omega]
    have e : ∀ k, spec_TreeOk.l0 (k + 1) l i = if (0 ≤ lab l i ∧ lab l i ≤ 5) then (if 0 ≤ dep l i ∧ dep l i ≤ 12 then (if ¬ (dep l i = 0 ↔ i = 0) then some false else if 0 < i ∧ dep l i > dep l (i - 1) + 1 then some false else spec_TreeOk.l0 k l ((i + 1 : Nat) : Int)) else some false) else some false := by
      intro k
      simp only [spec_TreeOk.l0]
      rw [if_pos (by omega), if_pos (by omega), rd_lab, rd_dep, specLabelOk_eq, Option.bind_some, l1In_eq, wrap_succ hlt (by omega)]
      simp only [ite_dec, Option.bind_some, dn]
      by_cases c4 : 0 < i
      · have hp := hc (i - 1) (by omega)
        have d12 := hp.d12
        have d0 := hp.d0
        have w1 : wrap64 ((i : Int) - 1) = ((i - 1 : Nat) : Int) := by rw [wrap_id (by omega) (by omega)]; omega
        rw [w1, rd_dep, wrap_id (x := dep l (i - 1) + 1) (by omega) (by omega), if_pos (show (i : Int) > 0 by omega), if_pos (show (0 : Int) ≤ ((i - 1 : Nat) : Int) by omega), if_pos (show ((i - 1 : Nat) : Int) < (l.length : Int) by omega)]
        simp only [c4, true_and]
      · rw [if_neg (show ¬ (i : Int) > 0 by omega)]
        simp only [c4, false_and, if_false]
    by_cases c1 : 0 ≤ lab l i ∧ lab l i ≤ 5
    · by_cases c2 : 0 ≤ dep l i ∧ dep l i ≤ 12
      · by_cases c3 : (dep l i = 0 ↔ i = 0)
        · by_cases c4 : 0 < i ∧ dep l i > dep l (i - 1) + 1
          · rw [no fun h => by have := h.step c4.1; omega]
            refine Ev.step (f := fun _ => some false) (fun k => ?_) (Ev.now _)
            rw [e, if_pos c1, if_pos c2, if_neg (fun h => h c3), if_pos c4]
          · refine Ev.step (f := fun k => spec_TreeOk.l0 k l ((i + 1 : Nat) : Int)) (fun k => ?_) (ih (i + 1) (by omega) (fun j hj => ?_))
            · rw [e, if_pos c1, if_pos c2, if_neg (fun h => h c3), if_neg c4]
            · by_cases ej : j = i
              · subst ej
                refine ⟨c1.1, c1.2, c2.1, c2.2, fun h => ?_, fun h => ?_, fun h => ?_⟩
                · subst h; exact c3.2 rfl
                · have : ¬ dep l j = 0 := fun z => by have := c3.1 z; omega
                  omega
                · have : ¬ dep l j > dep l (j - 1) + 1 := fun z => c4 ⟨h, z⟩
                  omega
              · exact hc j (by omega)
        · rw [no fun h => c3 ⟨fun z => by
            by_cases q : 0 < i
            · have := h.pos q; omega
            · omega, fun z => by subst z; exact h.root rfl⟩]
          refine Ev.step (f := fun _ => some false) (fun k => ?_) (Ev.now _)
          rw [e, if_pos c1, if_pos c2, if_pos c3]
      · rw [no fun h => c2 ⟨h.d0, h.d12⟩]
        refine Ev.step (f := fun _ => some false) (fun k => ?_) (Ev.now _)
        rw [e, if_pos c1, if_neg c2]
    · rw [no fun h => c1 ⟨h.l0, h.l5⟩]
      refine Ev.step (f := fun _ => some false) (fun k => ?_) (Ev.now _)
      rw [e, if_neg c1]
theorem specTreeOk_ev (l : List NodeI) (hm : l.length ≤ 9223372036854775807) : Ev (fun k => spec_TreeOk.f k l) (trB l) :=
  Ev.congr (fun _ => rfl) (specTreeOk_l l hm l.length 0 (by omega) (fun j hj => absurd hj (Nat.not_lt_zero _)))
noncomputable def hasB (l : List NodeI) (a : Int) : Bool := @decide (Tr l ∧ 0 ≤ a ∧ a < l.length) (Classical.propDecidable _)
theorem hasB_iff (l : List NodeI) (a : Int) : hasB l a = true ↔ (Tr l ∧ 0 ≤ a ∧ a < l.length) := by
  unfold hasB; exact @decide_eq_true_iff _ (Classical.propDecidable _)
theorem hasB_false {l : List NodeI} {a : Int} (h : ¬ (Tr l ∧ 0 ≤ a ∧ a < l.length)) : hasB l a = false := by
  rw [← Bool.not_eq_true, hasB_iff]; exact h
theorem implHas_ev (l : List NodeI) (a : Int) : Ev (fun k => impl_hasNode.f k l a) (hasB l a) := by
  unfold impl_hasNode.f
  refine Ev.bind (implTreeOk_ev l) ?_
  by_cases h : Tr l
  · refine Ev.ifT (trB_true h) (Ev.constOf ?_)
    have := h.len1
    have := h.len24
    rw [wrap_id (by omega) (by omega), within_eq, Option.bind_some]
    congr 1
    rw [Bool.eq_iff_iff, decide_eq_true_iff, hasB_iff]
    exact ⟨fun z => ⟨h, by omega, by omega⟩, fun z => by omega⟩
  · refine Ev.ifF (by rw [trB_false l h]; simp) ?_
    rw [hasB_false fun z => h z.1]
    exact Ev.now _
theorem specAt_ev (l : List NodeI) (hm : l.length ≤ 9223372036854775807) (a : Int) : Ev (fun k => spec_l3At.f k l a) (hasB l a) := by
  unfold spec_l3At.f
  refine Ev.bind (specTreeOk_ev l hm) ?_
  by_cases h : Tr l
  · refine Ev.ifT (trB_true h) (Ev.constOf ?_)
    have := h.len1
    have := h.len24
    rw [wrap_id (by omega) (by omega), l1In_eq, Option.bind_some]
    congr 1
    rw [Bool.eq_iff_iff, decide_eq_true_iff, hasB_iff]
    exact ⟨fun z => ⟨h, by omega, by omega⟩, fun z => by omega⟩
  · refine Ev.ifF (by rw [trB_false l h]; simp) ?_
    rw [hasB_false fun z => h z.1]
    exact Ev.now _
def endFrom (l : List NodeI) (d : Int) : Nat → Nat → Nat
  | 0, e => e
  | n + 1, e => if e < l.length ∧ dep l e > d then endFrom l d n (e + 1) else e
def endN (l : List NodeI) (i : Nat) : Nat := endFrom l (dep l i) l.length (i + 1)
theorem endFrom_spec (l : List NodeI) (d : Int) (n : Nat) : ∀ e, e ≤ l.length → l.length ≤ e + n → e ≤ endFrom l d n e ∧ endFrom l d n e ≤ l.length ∧ (∀ j, e ≤ j → j < endFrom l d n e → dep l j > d) ∧ (endFrom l d n e < l.length → dep l (endFrom l d n e) ≤ d) := by
  induction n with
  | zero => intro e h1 h2; simp only [endFrom]; exact ⟨Nat.le_refl _, h1, fun j a b => by omega, fun h => by omega⟩
  | succ n ih =>
    intro e h1 h2
    simp only [endFrom]
    by_cases c : e < l.length ∧ dep l e > d
    · rw [if_pos c]
      obtain ⟨a1, a2, a3, a4⟩ := ih (e + 1) (by omega) (by omega)
      refine ⟨by omega, a2, fun j hj1 hj2 => ?_, a4⟩
      by_cases ej : j = e
      · subst ej; exact c.2
      · exact a3 j (by omega) hj2
    · rw [if_neg c]
      refine ⟨Nat.le_refl _, h1, fun j a b => by omega, fun h => ?_⟩
      have : ¬ dep l e > d := fun z => c ⟨h, z⟩
      omega
theorem endN_spec (l : List NodeI) {i : Nat} (hi : i < l.length) : i < endN l i ∧ endN l i ≤ l.length ∧ (∀ j, i < j → j < endN l i → dep l j > dep l i) ∧ (endN l i < l.length → dep l (endN l i) ≤ dep l i) := by
  obtain ⟨a1, a2, a3, a4⟩ := endFrom_spec l (dep l i) l.length (i + 1) (by omega) (by omega)
  exact ⟨a1, a2, fun j h1 h2 => a3 j h1 h2, a4⟩
theorem implEndOf_l (l : List NodeI) (hm : l.length ≤ 1048576) (i : Nat) (hi : i < l.length) (n : Nat) : ∀ e : Nat, e ≤ l.length → l.length ≤ e + n → Ev (fun k => impl_endOf.l0 k l i e) (endFrom l (dep l i) n e : Nat) := by
  induction n with
  | zero =>
    intro e h1 h2
    refine Ev.step (f := fun _ => some ((endFrom l (dep l i) 0 e : Nat) : Int)) (fun k => ?_) (Ev.now _)
    simp only [impl_endOf.l0, endFrom]
    rw [if_neg (by omega)]
  | succ n ih =>
    intro e h1 h2
    simp only [endFrom]
    by_cases c : e < l.length ∧ dep l e > dep l i
    · rw [if_pos c]
      refine Ev.step (f := fun k => impl_endOf.l0 k l i ((e + 1 : Nat) : Int)) (fun k => ?_) (ih (e + 1) (by omega) (by omega))
      simp only [impl_endOf.l0]
      rw [if_pos (by omega), if_pos (by omega), if_pos (by omega), if_pos (by omega), rd_dep, rd_dep, if_pos c.2, wrap_succ c.1 (by omega)]
    · rw [if_neg c]
      refine Ev.step (f := fun _ => some (e : Int)) (fun k => ?_) (Ev.now _)
      simp only [impl_endOf.l0]
      by_cases c1 : e < l.length
      · have c2 : ¬ dep l e > dep l i := fun z => c ⟨c1, z⟩
        rw [if_pos (by omega), if_pos (by omega), if_pos (by omega), if_pos (by omega), rd_dep, rd_dep, if_neg c2]
      · rw [if_neg (by omega)]
theorem implEndOf_ev (l : List NodeI) (hm : l.length ≤ 1048576) (i : Nat) (hi : i < l.length) : Ev (fun k => impl_endOf.f k l i) (endN l i : Nat) := by
  unfold impl_endOf.f
  rw [wrap_succ hi (by omega)]
  exact implEndOf_l l hm i hi l.length (i + 1) (by omega) (by omega)
theorem specEndOf_same (l : List NodeI) (a : Int) (k : Nat) : ∀ e : Int, spec_EndOf.l0 k l a e = impl_endOf.l0 k l a e := by
  induction k with
  | zero => intro e; simp only [spec_EndOf.l0, impl_endOf.l0]
  | succ k ih => intro e; simp only [spec_EndOf.l0, impl_endOf.l0, ih]
theorem specEndOf_ev (l : List NodeI) (t : Tr l) (i : Nat) (hi : i < l.length) : Ev (fun k => spec_EndOf.f k l i) (endN l i : Nat) := by
  have := t.len24
  unfold spec_EndOf.f
  refine Ev.bind (specAt_ev l (by omega) i) (Ev.ifT ((hasB_iff _ _).2 ⟨t, by omega, by omega⟩) ?_)
  simp only [specEndOf_same]
  exact implEndOf_ev l (by omega) i hi
end Go.Proofs.Ytmipigipfmcneaa.Q
namespace Go.Proofs.Ytmipigipfmcneaa.Q
open Go.RowKit Go.Proofs.YtmipigipfmcneaaW.PrintWords Go.Proofs.YtmipigipfmcneaaW.PrintLast Go.Proofs.YtmipigipfmcneaaW.PrintMore Go.Proofs.Ytmipigipfmcneaa.X Go.Proofs.Ytmipigipfmcneaa.Rd
set_option linter.unusedVariables false
set_option linter.unusedSimpArgs false
def kidsFrom (l : List NodeI) (i : Nat) : Nat → Nat → List Int
  | 0, _ => []
  | n + 1, k => if k < endN l i then (if dep l k = dep l i + 1 then (k : Int) :: kidsFrom l i n (k + 1) else kidsFrom l i n (k + 1)) else []
noncomputable def kidsOf (l : List NodeI) (a : Int) : List Int := if hasB l a = true then kidsFrom l a.toNat l.length (a.toNat + 1) else []
theorem kidsFrom_len (l : List NodeI) (i : Nat) (n : Nat) : ∀ k, (kidsFrom l i n k).length ≤ n := by
  induction n with
  | zero => intro k; simp [kidsFrom]
  | succ n ih =>
    intro k
    simp only [kidsFrom]
    have := ih (k + 1)
    split
    · split
      · simp only [List.length_cons]; omega
      · omega
    · simp
theorem kidsFrom_mem (l : List NodeI) (i : Nat) (n : Nat) : ∀ k, endN l i ≤ k + n → ∀ x : Int, x ∈ kidsFrom l i n k ↔ ∃ j : Nat, x = j ∧ k ≤ j ∧ j < endN l i ∧ dep l j = dep l i + 1 := by
  induction n with
  | zero => intro k hk x; simp only [kidsFrom, List.not_mem_nil, false_iff]; rintro ⟨j, _, h1, h2, _⟩; omega
  | succ n ih =>
    intro k hk x
    simp only [kidsFrom]
    have h := ih (k + 1) (by omega) x
    by_cases c : k < endN l i
    · rw [if_pos c]
      by_cases c2 : dep l k = dep l i + 1
      · rw [if_pos c2, List.mem_cons, h]
        constructor
        · rintro (e | ⟨j, e, h1, h2, h3⟩)
          · exact ⟨k, e, Nat.le_refl _, c, c2⟩
          · exact ⟨j, e, by omega, h2, h3⟩
        · rintro ⟨j, e, h1, h2, h3⟩
          by_cases q : j = k
          · subst q; exact .inl e
          · exact .inr ⟨j, e, by omega, h2, h3⟩
      · rw [if_neg c2, h]
        constructor
        · rintro ⟨j, e, h1, h2, h3⟩
          exact ⟨j, e, by omega, h2, h3⟩
        · rintro ⟨j, e, h1, h2, h3⟩
          by_cases q : j = k
          · subst q; exact absurd h3 c2
          · exact ⟨j, e, by omega, h2, h3⟩
    · rw [if_neg c]
      simp only [List.not_mem_nil, false_iff]
      rintro ⟨j, _, h1, h2, _⟩; omega
theorem wrapN {a : Nat} (h : a ≤ 1048576) : wrap64 ((a : Int) + 1) = ((a + 1 : Nat) : Int) := by rw [wrap_id (by omega) (by omega)]; omega
theorem implKids_l (l : List NodeI) (t : Tr l) (i : Nat) (hi : i < l.length) (n : Nat) : ∀ (k : Nat) (acc : List Int), acc.length + n ≤ 100000 → endN l i ≤ k + n → Ev (fun r => impl_KidsOf.l0 r l i acc k) (acc ++ kidsFrom l i n k) := by
  have h24 := t.len24
  have he := implEndOf_ev l (by omega) i hi
  have hs := endN_spec l hi
  have hd := (t.chk i hi).d12
  have hd0 := (t.chk i hi).d0
  induction n with
  | zero =>
    intro k acc ha hk
    refine Ev.step (fun _ => rfl) ?_
    simp only [impl_KidsOf.l0, kidsFrom, List.append_nil]
    exact Ev.bind he (Ev.ifF (by omega) (Ev.now _))
  | succ n ih =>
    intro k acc ha hk
    refine Ev.step (fun _ => rfl) ?_
    simp only [impl_KidsOf.l0, kidsFrom, rd_dep]
    refine Ev.bind he ?_
    by_cases c : k < endN l i
    · rw [if_pos c, wrapN (show k ≤ 1048576 by omega), wrap_id (x := dep l i + 1) (by omega) (by omega)]
      refine Ev.ifT (by omega) (Ev.ifT (by omega) (Ev.ifT (by omega) (Ev.ifT (by omega) (Ev.ifT (by omega) ?_))))
      by_cases c2 : dep l k = dep l i + 1
      · rw [if_pos c2]
        refine Ev.ifT c2 (Ev.ifT (by omega) ?_)
        have := ih (k + 1) (acc ++ [(k : Int)]) (by simp; omega) (by omega)
        rw [List.append_assoc] at this
        exact this
      · rw [if_neg c2]
        exact Ev.ifF c2 (ih (k + 1) acc (by omega) (by omega))
    · rw [if_neg c, List.append_nil]
      exact Ev.ifF (by omega) (Ev.now _)
theorem implKidsOf_ev (l : List NodeI) (a : Int) : Ev (fun r => impl_KidsOf.f r l a) (kidsOf l a) := by
  unfold impl_KidsOf.f
  simp only [Option.bind_some]
  refine Ev.bind (implHas_ev l a) ?_
  by_cases h : hasB l a = true
  · obtain ⟨t, h0, h1⟩ := (hasB_iff l a).1 h
    obtain ⟨i, rfl⟩ := Int.eq_ofNat_of_zero_le h0
    have h24 := t.len24
    have hs := endN_spec l (i := i) (by omega)
    have := implKids_l l t i (by omega) l.length (i + 1) [] (by simp; omega) (by omega)
    rw [List.nil_append] at this
    refine Ev.ifT h ?_
    rw [wrapN (show i ≤ 1048576 by omega)]
    unfold kidsOf
    rw [if_pos h, Int.toNat_natCast]
    exact this
  · refine Ev.ifF h ?_
    unfold kidsOf
    rw [if_neg h]
    exact Ev.now _
theorem specKids_l (l : List NodeI) (t : Tr l) (i : Nat) (hi : i < l.length) (n : Nat) : ∀ (k : Nat) (acc : List Int), acc.length + n ≤ 100000 → endN l i ≤ k + n → Ev (fun r => spec_KidsOf.l0 r l i acc k) (acc ++ kidsFrom l i n k) := by
  have h24 := t.len24
  have he := specEndOf_ev l t i hi
  have ha := specAt_ev l (by omega) (i : Int)
  have hb : hasB l i = true := (hasB_iff _ _).2 ⟨t, by omega, by omega⟩
  have hs := endN_spec l hi
  have hd := (t.chk i hi).d12
  have hd0 := (t.chk i hi).d0
  induction n with
  | zero =>
    intro k acc _ hk
    refine Ev.step (fun _ => rfl) ?_
    simp only [spec_KidsOf.l0, kidsFrom, List.append_nil]
    refine Ev.bind ha (Ev.ifT hb (Ev.bind he ?_))
    refine Ev.step (fun _ => rfl) ?_
    simp only [spec_KidsOf.j1]
    exact Ev.ifF (by simp; omega) (Ev.now _)
  | succ n ih =>
    intro k acc hl hk
    refine Ev.step (fun _ => rfl) ?_
    simp only [spec_KidsOf.l0, kidsFrom]
    refine Ev.bind ha (Ev.ifT hb (Ev.bind he ?_))
    refine Ev.step (fun _ => rfl) ?_
    simp only [spec_KidsOf.j1, rd_dep]
    by_cases c : k < endN l i
    · rw [if_pos c, wrapN (show k ≤ 1048576 by omega), wrap_id (x := dep l i + 1) (by omega) (by omega)]
      refine Ev.ifT (by simp; omega) (Ev.ifT (by omega) (Ev.ifT (by omega) (Ev.ifT (by omega) (Ev.ifT (by omega) ?_))))
      by_cases c2 : dep l k = dep l i + 1
      · rw [if_pos c2]
        refine Ev.ifT c2 (Ev.ifT (by omega) ?_)
        have := ih (k + 1) (acc ++ [(k : Int)]) (by simp; omega) (by omega)
        rw [List.append_assoc] at this
        exact this
      · rw [if_neg c2]
        exact Ev.ifF c2 (ih (k + 1) acc (by omega) (by omega))
    · rw [if_neg c, List.append_nil]
      exact Ev.ifF (by simp; omega) (Ev.now _)
theorem specKidsOf_ev (l : List NodeI) (hm : l.length ≤ 9223372036854775807) (a : Int) : Ev (fun r => spec_KidsOf.f r l a) (kidsOf l a) := by
  unfold spec_KidsOf.f
  by_cases h : hasB l a = true
  · obtain ⟨t, h0, h1⟩ := (hasB_iff l a).1 h
    obtain ⟨i, rfl⟩ := Int.eq_ofNat_of_zero_le h0
    have h24 := t.len24
    have hs := endN_spec l (i := i) (by omega)
    have := specKids_l l t i (by omega) l.length (i + 1) [] (by simp; omega) (by omega)
    rw [List.nil_append] at this
    rw [wrapN (show i ≤ 1048576 by omega)]
    unfold kidsOf
    rw [if_pos h, Int.toNat_natCast]
    exact this
  · unfold kidsOf
    rw [if_neg h]
    refine Ev.step (fun _ => rfl) ?_
    simp only [spec_KidsOf.l0]
    refine Ev.bind (specAt_ev l hm a) (Ev.ifF h ?_)
    refine Ev.step (fun _ => rfl) ?_
    simp only [spec_KidsOf.j1]
    exact Ev.ifF (by simp) (Ev.now _)
def parFrom (l : List NodeI) (d : Int) : Nat → Int
  | 0 => -1
  | n + 1 => if dep l n ≥ d then parFrom l d n else n
noncomputable def parentOf (l : List NodeI) (a : Int) : Int := if hasB l a = true then parFrom l (dep l a.toNat) a.toNat else -1
theorem implParent_l (l : List NodeI) (h24 : l.length ≤ 1048576) (i : Nat) (hi : i < l.length) : ∀ n : Nat, n ≤ i → Ev (fun r => impl_ParentOf.l0 r l i ((n : Int) - 1)) (parFrom l (dep l i) n) := by
  intro n
  induction n with
  | zero =>
    intro _
    refine Ev.step (fun _ => rfl) ?_
    simp only [impl_ParentOf.l0, parFrom]
    exact Ev.ifF (by omega) (Ev.now _)
  | succ n ih =>
    intro hn
    refine Ev.step (fun _ => rfl) ?_
    rw [show ((n + 1 : Nat) : Int) - 1 = (n : Int) by omega]
    simp only [impl_ParentOf.l0, parFrom, rd_dep]
    refine Ev.ifT (by omega) (Ev.ifT (by omega) (Ev.ifT (by omega) (Ev.ifT (by omega) (Ev.ifT (by omega) ?_))))
    by_cases c : dep l n ≥ dep l i
    · rw [if_pos c, wrap_id (x := (n : Int) - 1) (by omega) (by omega)]
      exact Ev.ifT c (ih (by omega))
    · rw [if_neg c]
      exact Ev.ifF c (Ev.now _)
theorem implParentOf_ev (l : List NodeI) (a : Int) : Ev (fun r => impl_ParentOf.f r l a) (parentOf l a) := by
  unfold impl_ParentOf.f parentOf
  refine Ev.bind (implHas_ev l a) ?_
  by_cases h : hasB l a = true
  · obtain ⟨t, h0, h1⟩ := (hasB_iff l a).1 h
    obtain ⟨i, rfl⟩ := Int.eq_ofNat_of_zero_le h0
    have h24 := t.len24
    rw [if_pos h, wrap_id (x := (i : Int) - 1) (by omega) (by omega), Int.toNat_natCast]
    exact Ev.ifT h (implParent_l l (by omega) i (by omega) i (Nat.le_refl _))
  · rw [if_neg h]
    exact Ev.ifF h (Ev.now _)
theorem specParent_same (l : List NodeI) (a : Int) (k : Nat) : ∀ e : Int, spec_ParentOf.l0 k l a e = impl_ParentOf.l0 k l a e := by
  induction k with
  | zero => intro e; simp only [spec_ParentOf.l0, impl_ParentOf.l0]
  | succ k ih => intro e; simp only [spec_ParentOf.l0, impl_ParentOf.l0, ih]
theorem specParentOf_ev (l : List NodeI) (hm : l.length ≤ 9223372036854775807) (a : Int) : Ev (fun r => spec_ParentOf.f r l a) (parentOf l a) := by
  unfold spec_ParentOf.f parentOf
  refine Ev.bind (specAt_ev l hm a) ?_
  by_cases h : hasB l a = true
  · obtain ⟨t, h0, h1⟩ := (hasB_iff l a).1 h
    obtain ⟨i, rfl⟩ := Int.eq_ofNat_of_zero_le h0
    have h24 := t.len24
    simp only [specParent_same]
    rw [if_pos h, wrap_id (x := (i : Int) - 1) (by omega) (by omega), Int.toNat_natCast]
    exact Ev.ifT h (implParent_l l (by omega) i (by omega) i (Nat.le_refl _))
  · rw [if_neg h]
    exact Ev.ifF h (Ev.now _)
theorem parFrom_spec (l : List NodeI) (d : Int) (n : Nat) : (parFrom l d n = -1 ∧ ∀ j, j < n → dep l j ≥ d) ∨ ∃ q : Nat, parFrom l d n = q ∧ q < n ∧ dep l q < d ∧ ∀ j, q < j → j < n → dep l j ≥ d := by
  induction n with
  | zero => exact .inl ⟨rfl, fun j h => absurd h (Nat.not_lt_zero _)⟩
  | succ n ih =>
    simp only [parFrom]
    by_cases c : dep l n ≥ d
    · rw [if_pos c]
      rcases ih with ⟨h1, h2⟩ | ⟨q, h1, h2, h3, h4⟩
      · refine .inl ⟨h1, fun j hj => ?_⟩
        by_cases e : j = n
        · subst e; exact c
        · exact h2 j (by omega)
      · refine .inr ⟨q, h1, by omega, h3, fun j h5 h6 => ?_⟩
        by_cases e : j = n
        · subst e; exact c
        · exact h4 j h5 (by omega)
    · rw [if_neg c]
      exact .inr ⟨n, rfl, by omega, by omega, fun j h1 h2 => by omega⟩
theorem parent_spec {l : List NodeI} (t : Tr l) {i : Nat} (h0 : 0 < i) (hi : i < l.length) : ∃ q : Nat, parentOf l i = q ∧ q < i ∧ dep l q + 1 = dep l i ∧ i < endN l q := by
  have hb : hasB l i = true := (hasB_iff _ _).2 ⟨t, by omega, by omega⟩
  unfold parentOf
  rw [if_pos hb, Int.toNat_natCast]
  rcases parFrom_spec l (dep l i) i with ⟨_, h2⟩ | ⟨q, h1, h2, h3, h4⟩
  · have := h2 0 h0
    have r := (t.chk 0 (by omega)).root rfl
    have p := (t.chk i hi).pos h0
    omega
  · refine ⟨q, h1, h2, ?_, ?_⟩
    · have hq : dep l (q + 1) ≥ dep l i := by
        by_cases e : q + 1 = i
        · rw [e]; exact Int.le_refl _
        · exact h4 (q + 1) (by omega) (by omega)
      have s := (t.chk (q + 1) (by omega)).step (by omega)
      rw [Nat.add_sub_cancel] at s
      omega
    · obtain ⟨e1, e2, e3, e4⟩ := endN_spec l (i := q) (by omega)
      rcases Nat.lt_or_ge i (endN l q) with h | h
      · exact h
      · have := e4 (by omega)
        by_cases e : endN l q = i
        · rw [e] at this; omega
        · have := h4 (endN l q) e1 (by omega)
          omega
theorem parent_root (l : List NodeI) (t : Tr l) : parentOf l 0 = -1 := by
  have := t.len1
  have hb : hasB l 0 = true := (hasB_iff _ _).2 ⟨t, by omega, by omega⟩
  unfold parentOf
  rw [if_pos hb]; rfl
theorem parent_none {l : List NodeI} {a : Int} (h : ¬ (Tr l ∧ 0 ≤ a ∧ a < l.length)) : parentOf l a = -1 := by
  unfold parentOf
  rw [if_neg (by rw [hasB_false h]; simp)]
theorem kidsOf_none {l : List NodeI} {a : Int} (h : ¬ (Tr l ∧ 0 ≤ a ∧ a < l.length)) : kidsOf l a = [] := by
  unfold kidsOf
  rw [if_neg (by rw [hasB_false h]; simp)]
theorem kidsOf_mem {l : List NodeI} (t : Tr l) {i : Nat} (hi : i < l.length) (x : Int) : x ∈ kidsOf l i ↔ ∃ j : Nat, x = j ∧ i < j ∧ j < endN l i ∧ dep l j = dep l i + 1 := by
  have hb : hasB l i = true := (hasB_iff _ _).2 ⟨t, by omega, by omega⟩
  have hs := endN_spec l hi
  unfold kidsOf
  rw [if_pos hb, Int.toNat_natCast, kidsFrom_mem l i l.length (i + 1) (by omega)]
  exact Iff.rfl
theorem kidsOf_len (l : List NodeI) (a : Int) : (kidsOf l a).length ≤ 24 := by
  by_cases h : Tr l ∧ 0 ≤ a ∧ a < l.length
  · unfold kidsOf
    rw [if_pos ((hasB_iff _ _).2 h)]
    have := kidsFrom_len l a.toNat l.length (a.toNat + 1)
    have := h.1.len24
    omega
  · rw [kidsOf_none h]; simp
end Go.Proofs.Ytmipigipfmcneaa.Q
namespace Go.Proofs.Ytmipigipfmcneaa.Q
open Go.RowKit Go.Proofs.YtmipigipfmcneaaW.PrintWords Go.Proofs.YtmipigipfmcneaaW.PrintLast Go.Proofs.YtmipigipfmcneaaW.PrintMore Go.Proofs.Ytmipigipfmcneaa.X Go.Proofs.Ytmipigipfmcneaa.Rd
set_option linter.unusedVariables false
set_option linter.unusedSimpArgs false
def idxFrom (x : Int) : List Int → Nat → Int
  | [], _ => -1
  | y :: ys, i => if x = y then i else idxFrom x ys (i + 1)
theorem idxFrom_neg (x : Int) (l : List Int) : ∀ i, idxFrom x l i = -1 ↔ x ∉ l := by
  induction l with
  | nil => intro i; simp [idxFrom]
  | cons y l ih =>
    intro i
    simp only [idxFrom, List.mem_cons, not_or]
    by_cases c : x = y
    · rw [if_pos c]
      constructor
      · intro h; omega
      · intro h; exact absurd c h.1
    · rw [if_neg c, ih]
      exact ⟨fun h => ⟨c, h⟩, fun h => h.2⟩
theorem idxFrom_ge (x : Int) (l : List Int) : ∀ i, idxFrom x l i = -1 ∨ 0 ≤ idxFrom x l i := by
  induction l with
  | nil => intro i; exact .inl rfl
  | cons y l ih =>
    intro i
    simp only [idxFrom]
    split
    · exact .inr (by omega)
    · exact ih _
theorem implIndex_l (l : List Int) (hl : l.length ≤ 1048576) (x : Int) (d : Nat) : ∀ j : Nat, j + d = l.length → Ev (fun r => slices_Index_int_int.l0 r l x l.length j) (idxFrom x (l.drop j) j) := by
  induction d with
  | zero =>
    intro j hj
    rw [List.drop_of_length_le (by omega)]
    refine Ev.step (fun _ => rfl) ?_
    simp only [slices_Index_int_int.l0]
    exact Ev.ifF (by omega) (Ev.now _)
  | succ d ih =>
    intro j hj
    have hlt : j < l.length := by omega
    rw [List.drop_eq_getElem_cons hlt]
    refine Ev.step (fun _ => rfl) ?_
    simp only [slices_Index_int_int.l0, rd, getD_nat l j _ hlt, idxFrom]
    rw [wrapN (show j ≤ 1048576 by omega)]
    refine Ev.ifT (by omega) (Ev.ifT (by omega) (Ev.ifT (by omega) ?_))
    by_cases c : x = l[j]
    · rw [if_pos c]; exact Ev.ifT c (Ev.now _)
    · rw [if_neg c]; exact Ev.ifF c (ih (j + 1) (by omega))
theorem implIndex_ev (l : List Int) (hl : l.length ≤ 1048576) (x : Int) : Ev (fun r => slices_Index_int_int.f r l x) (idxFrom x l 0) :=
  Ev.congr (fun _ => rfl) (implIndex_l l hl x l.length 0 (by omega))
theorem specRank_l (l : List Int) (hl : l.length ≤ 1048576) (x : Int) (d : Nat) : ∀ j : Nat, j + d = l.length → Ev (fun r => spec_KidRank.l0 r x l j) (idxFrom x (l.drop j) j) := by
  induction d with
  | zero =>
    intro j hj
    rw [List.drop_of_length_le (by omega)]
    refine Ev.step (fun _ => rfl) ?_
    simp only [spec_KidRank.l0]
    exact Ev.ifF (by omega) (Ev.now _)
  | succ d ih =>
    intro j hj
    have hlt : j < l.length := by omega
    rw [List.drop_eq_getElem_cons hlt]
    refine Ev.step (fun _ => rfl) ?_
    simp only [spec_KidRank.l0, rd, getD_nat l j _ hlt, idxFrom]
    rw [wrapN (show j ≤ 1048576 by omega)]
    refine Ev.ifT (by omega) (Ev.ifT (by omega) ?_)
    by_cases c : x = l[j]
    · rw [if_pos c]; exact Ev.ifT c.symm (Ev.now _)
    · rw [if_neg c]; exact Ev.ifF (fun h => c h.symm) (ih (j + 1) (by omega))
noncomputable def kidRank (l : List NodeI) (a : Int) : Int := idxFrom a (kidsOf l (parentOf l a)) 0
theorem implKidRank_ev (l : List NodeI) (a : Int) : Ev (fun r => impl_KidRank.f r l a) (kidRank l a) := by
  unfold impl_KidRank.f kidRank
  have := kidsOf_len l (parentOf l a)
  exact Ev.bind (implParentOf_ev l a) (Ev.bind (implKidsOf_ev l _) (Ev.bind (implIndex_ev _ (by omega) a) (Ev.now _)))
theorem specKidRank_ev (l : List NodeI) (hm : l.length ≤ 9223372036854775807) (a : Int) : Ev (fun r => spec_KidRank.f r l a) (kidRank l a) := by
  unfold spec_KidRank.f kidRank
  have := kidsOf_len l (parentOf l a)
  refine Ev.bind (specParentOf_ev l hm a) ?_
  by_cases c : parentOf l a < 0
  · rw [kidsOf_none (fun h => by omega)]
    exact Ev.ifT c (Ev.now _)
  · refine Ev.ifF c (Ev.bind (specKidsOf_ev l hm _) ?_)
    have := specRank_l (kidsOf l (parentOf l a)) (by omega) a _ 0 (Nat.zero_add _)
    exact this
theorem kidRank_ge (l : List NodeI) (a : Int) : kidRank l a ≥ 0 ↔ (hasB l a = true ∧ a > 0) := by
  rw [hasB_iff]
  by_cases h : Tr l ∧ 0 ≤ a ∧ a < l.length
  · obtain ⟨t, h0, h1⟩ := h
    obtain ⟨i, rfl⟩ := Int.eq_ofNat_of_zero_le h0
    by_cases c : 0 < i
    · obtain ⟨q, e, hq, hd, he⟩ := parent_spec t c (by omega)
      have hm : ((i : Nat) : Int) ∈ kidsOf l (parentOf l i) := by
        rw [e, kidsOf_mem t (by omega)]
        exact ⟨i, rfl, hq, he, hd.symm⟩
      have hn := mt (idxFrom_neg (i : Int) (kidsOf l (parentOf l i)) 0).1 (fun z => z hm)
      have hg := idxFrom_ge (i : Int) (kidsOf l (parentOf l i)) 0
      unfold kidRank
      constructor
      · intro _; exact ⟨⟨t, by omega, by omega⟩, by omega⟩
      · intro _; rcases hg with hg | hg
        · exact absurd hg hn
        · exact hg
    · have e : i = 0 := by omega
      subst e
      have hz : kidRank l 0 = -1 := by
        unfold kidRank
        rw [parent_root l t, kidsOf_none (fun h => by omega)]; rfl
      constructor
      · intro z; have : kidRank l 0 ≥ 0 := z; omega
      · intro z; omega
  · have hz : kidRank l a = -1 := by
      unfold kidRank
      rw [parent_none h, kidsOf_none (fun z => by omega)]; rfl
    rw [hz]
    constructor
    · intro z; omega
    · intro z; exact absurd z.1 h
noncomputable def upPath (l : List NodeI) : Nat → Int → List Int
  | 0, _ => []
  | n + 1, a => if kidRank l a ≥ 0 then kidRank l a :: upPath l n (parentOf l a) else []
theorem upPath_len (l : List NodeI) (n : Nat) : ∀ a, (upPath l n a).length ≤ n := by
  induction n with
  | zero => intro a; simp [upPath]
  | succ n ih =>
    intro a
    simp only [upPath]
    have := ih (parentOf l a)
    split
    · simp only [List.length_cons]; omega
    · simp
theorem parent_lt {l : List NodeI} {a : Int} (h : kidRank l a ≥ 0) : -1 < parentOf l a ∧ parentOf l a < a ∧ a < l.length ∧ l.length ≤ 24 := by
  obtain ⟨hb, ha⟩ := (kidRank_ge l a).1 h
  obtain ⟨t, h0, h1⟩ := (hasB_iff l a).1 hb
  obtain ⟨i, rfl⟩ := Int.eq_ofNat_of_zero_le h0
  obtain ⟨q, e, hq, _, _⟩ := parent_spec t (i := i) (by omega) (by omega)
  have := t.len24
  rw [e]; omega
theorem specPath_l (l : List NodeI) (hm : l.length ≤ 9223372036854775807) (n : Nat) : ∀ (a : Int) (acc : List Int), (kidRank l a ≥ 0 → a < n) → acc.length + n ≤ 100000 → Ev (fun r => spec_PathOf.l0 r l acc a) ((upPath l n a).reverse ++ acc) := by
  induction n with
  | zero =>
    intro a acc ha hl
    have c : ¬ kidRank l a ≥ 0 := fun h => by
      have := ha h
      have := parent_lt h
      omega
    refine Ev.step (fun _ => rfl) ?_
    simp only [spec_PathOf.l0, upPath, List.reverse_nil, List.nil_append]
    exact Ev.bind (specKidRank_ev l hm a) (Ev.ifF c (Ev.now _))
  | succ n ih =>
    intro a acc ha hl
    refine Ev.step (fun _ => rfl) ?_
    simp only [spec_PathOf.l0, upPath]
    refine Ev.bind (specKidRank_ev l hm a) ?_
    by_cases c : kidRank l a ≥ 0
    · have hp := parent_lt c
      rw [if_pos c, List.reverse_cons, List.append_assoc]
      refine Ev.ifT c (Ev.bind (specKidRank_ev l hm a) (Ev.bindC rfl (Ev.ifT (by simp; omega) (Ev.bind (specParentOf_ev l hm a) ?_))))
      exact ih (parentOf l a) ([kidRank l a] ++ acc) (fun h => by have := ha c; omega) (by simp; omega)
    · rw [if_neg c, List.reverse_nil, List.nil_append]
      exact Ev.ifF c (Ev.now _)
noncomputable def pathOf (l : List NodeI) (a : Int) : List Int := (upPath l 25 a).reverse
theorem specPathOf_ev (l : List NodeI) (hm : l.length ≤ 9223372036854775807) (a : Int) : Ev (fun r => spec_PathOf.f r l a) (pathOf l a) := by
  have := specPath_l l hm 25 a [] (fun h => by have := parent_lt h; omega) (by simp)
  rw [List.append_nil] at this
  exact Ev.congr (fun _ => rfl) this
theorem implRev_l (l0 : List Int) (hl : l0.length ≤ 1048576) (d : Nat) : ∀ (i j : Nat) (l : List Int), (hlen : l.length = l0.length) → i + j = l0.length → j ≤ i + d →
    (∀ q, (h : q < l.length) → (q < i ∨ j ≤ q) → l[q] = l0[l0.length - 1 - q]'(by omega)) → (∀ q, (h : q < l.length) → i ≤ q → q < j → l[q] = l0[q]'(by omega)) →
    Ev (fun r => slices_Reverse_int_int.l0 r l i ((j : Int) - 1)) l0.reverse := by
  induction d with
  | zero =>
    intro i j l hlen hij hd hout hin
    refine Ev.step (fun _ => rfl) ?_
    simp only [slices_Reverse_int_int.l0]
    refine Ev.ifF (by omega) ?_
    have : l = l0.reverse := by
      apply List.ext_getElem (by simpa using hlen)
      intro q h1 h2
      rw [List.getElem_reverse]
      by_cases c : q < i ∨ j ≤ q
      · exact hout q h1 c
      · omega
    rw [this]
    exact Ev.now _
  | succ d ih =>
    intro i j l hlen hij hd hout hin
    refine Ev.step (fun _ => rfl) ?_
    simp only [slices_Reverse_int_int.l0]
    by_cases c : i + 1 < j
    · have hj : ((j : Int) - 1) = ((j - 1 : Nat) : Int) := by omega
      have h1 : i < l.length := by omega
      have h2 : j - 1 < l.length := by omega
      rw [hj]
      simp only [rd, getD_nat l i _ h1, getD_nat l (j - 1) _ h2, Int.toNat_natCast]
      rw [wrapN (show i ≤ 1048576 by omega), wrap_id (x := ((j - 1 : Nat) : Int) - 1) (by omega) (by omega)]
      refine Ev.ifT (by omega) (Ev.ifT (by omega) (Ev.ifT (by omega) (Ev.ifT (by omega) (Ev.ifT (by omega) ?_))))
      refine ih (i + 1) (j - 1) _ (by simpa using hlen) (by omega) (by omega) (fun q hq hc => ?_) (fun q hq hc1 hc2 => ?_)
      · rw [List.getElem_set, List.getElem_set]
        by_cases e1 : j - 1 = q
        · rw [if_pos e1]
          exact (getD_lt l 0 h1).trans ((hin i h1 (Nat.le_refl _) (by omega)).trans (by congr 1; omega))
        · rw [if_neg e1]
          by_cases e2 : i = q
          · rw [if_pos e2]
            exact (getD_lt l 0 h2).trans ((hin (j - 1) h2 (by omega) (by omega)).trans (by congr 1; omega))
          · rw [if_neg e2]
            exact hout q (by simpa using hq) (by omega)
      · rw [List.getElem_set, List.getElem_set, if_neg (by omega), if_neg (by omega)]
        exact hin q (by simpa using hq) (by omega) (by omega)
    · refine Ev.ifF (by omega) ?_
      have : l = l0.reverse := by
        apply List.ext_getElem (by simpa using hlen)
        intro q h1 h2
        rw [List.getElem_reverse]
        by_cases c' : q < i ∨ j ≤ q
        · exact hout q h1 c'
        · rw [hin q h1 (by omega) (by omega)]
          congr 1; omega
      rw [this]
      exact Ev.now _
theorem implRev_ev (l : List Int) (hl : l.length ≤ 1048576) : Ev (fun r => slices_Reverse_int_int.f r l) l.reverse := by
  unfold slices_Reverse_int_int.f
  rw [wrap_id (by omega) (by omega)]
  exact implRev_l l hl l.length 0 l.length l rfl (by omega) (by omega) (fun q h c => by omega) (fun q h _ _ => rfl)
theorem implPath_l (l : List NodeI) (n : Nat) : ∀ (a : Int) (acc : List Int), (kidRank l a ≥ 0 → a < n) → acc.length + n ≤ 100000 → Ev (fun r => impl_PathOf.l0 r l a acc) ((acc ++ upPath l n a).reverse) := by
  induction n with
  | zero =>
    intro a acc ha hl
    have c : ¬ kidRank l a ≥ 0 := fun h => by
      have := ha h
      have := parent_lt h
      omega
    refine Ev.step (fun _ => rfl) ?_
    simp only [impl_PathOf.l0, upPath, List.append_nil]
    refine Ev.bind (implHas_ev l a) ?_
    by_cases h : hasB l a = true
    · refine Ev.ifT h ?_
      have hz : ¬ a > 0 := fun z => c ((kidRank_ge l a).2 ⟨h, z⟩)
      refine Ev.step (fun _ => rfl) ?_
      simp only [impl_PathOf.j1]
      exact Ev.ifF (by simpa using hz) (Ev.bind (implRev_ev acc (by omega)) (Ev.now _))
    · refine Ev.ifF h ?_
      refine Ev.step (fun _ => rfl) ?_
      simp only [impl_PathOf.j1]
      exact Ev.ifF (by simp) (Ev.bind (implRev_ev acc (by omega)) (Ev.now _))
  | succ n ih =>
    intro a acc ha hl
    refine Ev.step (fun _ => rfl) ?_
    simp only [impl_PathOf.l0, upPath]
    refine Ev.bind (implHas_ev l a) ?_
    by_cases c : kidRank l a ≥ 0
    · obtain ⟨h, hz⟩ := (kidRank_ge l a).1 c
      have hp := parent_lt c
      rw [if_pos c]
      refine Ev.ifT h ?_
      refine Ev.step (fun _ => rfl) ?_
      simp only [impl_PathOf.j1]
      refine Ev.ifT (by simpa using hz) (Ev.bind (implKidRank_ev l a) (Ev.ifT (by omega) (Ev.bind (implParentOf_ev l a) ?_)))
      have := ih (parentOf l a) (acc ++ [kidRank l a]) (fun h => by have := ha c; omega) (by simp; omega)
      rw [List.append_assoc] at this
      exact this
    · rw [if_neg c, List.append_nil]
      by_cases h : hasB l a = true
      · refine Ev.ifT h ?_
        have hz : ¬ a > 0 := fun z => c ((kidRank_ge l a).2 ⟨h, z⟩)
        refine Ev.step (fun _ => rfl) ?_
        simp only [impl_PathOf.j1]
        exact Ev.ifF (by simpa using hz) (Ev.bind (implRev_ev acc (by omega)) (Ev.now _))
      · refine Ev.ifF h ?_
        refine Ev.step (fun _ => rfl) ?_
        simp only [impl_PathOf.j1]
        exact Ev.ifF (by simp) (Ev.bind (implRev_ev acc (by omega)) (Ev.now _))
theorem implPathOf_ev (l : List NodeI) (a : Int) : Ev (fun r => impl_PathOf.f r l a) (pathOf l a) := by
  have := implPath_l l 25 a [] (fun h => by have := parent_lt h; omega) (by simp)
  rw [List.nil_append] at this
  exact Ev.congr (fun _ => rfl) this
theorem pathOf_len (l : List NodeI) (a : Int) : (pathOf l a).length ≤ 25 := by
  unfold pathOf
  rw [List.length_reverse]
  exact upPath_len l 25 a
end Go.Proofs.Ytmipigipfmcneaa.Q
namespace Go.Proofs.Ytmipigipfmcneaa.Q
open Go.RowKit Go.Proofs.YtmipigipfmcneaaW.PrintWords Go.Proofs.YtmipigipfmcneaaW.PrintLast Go.Proofs.YtmipigipfmcneaaW.PrintMore Go.Proofs.Ytmipigipfmcneaa.X Go.Proofs.Ytmipigipfmcneaa.Rd
set_option linter.unusedVariables false
set_option linter.unusedSimpArgs false
abbrev NodeL := S77
def toNode (x : NodeL) : NodeI := ⟨x.f0, x.f1⟩
theorem szNodeS_eq (l : List NodeL) (a : Int) (ha : 0 ≤ a) (ha' : a ≤ 1048576) (hl : l.length ≤ 9223372036854775807) :
    laws_szNodeS.f l a = some (if a < l.length then -1 else a - l.length) := by
  unfold laws_szNodeS.f
  rw [wrap_id (by omega) (by omega)]
  by_cases h : a < l.length
  · rw [if_pos (by omega), if_pos h]
  · rw [if_neg (by omega), if_neg h]
theorem toNodeS_l (l : List NodeL) (hl : l.length ≤ 1048576) (d : Nat) : ∀ (i : Nat) (acc : List NodeI), i + d = l.length → acc.length = l.length → acc.take i = (l.take i).map toNode →
    Ev (fun k => laws_toNodeS.l0 k l acc i) (l.map toNode) := by
  induction d with
  | zero =>
    intro i acc hi ha ht
    have : acc = l.map toNode := by
      rw [List.take_of_length_le (by omega), List.take_of_length_le (by omega)] at ht
      exact ht
    subst this
    refine Ev.step (f := fun _ => some (l.map toNode)) (fun k => ?_) (Ev.now _)
    simp only [laws_toNodeS.l0]
    rw [if_neg (by omega)]
  | succ d ih =>
    intro i acc hi ha ht
    have hlt : i < l.length := by omega
    refine Ev.step (f := fun k => laws_toNodeS.l0 k l (acc.set i (toNode l[i])) ((i + 1 : Nat) : Int)) (fun k => ?_) (ih (i + 1) (acc.set i (toNode l[i])) (by omega) (by simpa using ha) ?_)
    · simp only [laws_toNodeS.l0]
      rw [if_pos (by omega), if_pos (by omega)]
      simp only [laws_toNode.f, Option.bind_some]
      rw [if_pos (by omega), wrap_succ hlt (by omega)]
      simp only [rd_T77, Int.toNat_natCast, getD_lt l _ hlt]
      rfl
    · rw [take_succ_map toNode l i hlt, take_succ_append _ i (by simp; omega), List.getElem_set_self, List.take_set_of_le (Nat.le_refl i), ht]
theorem toNodeS_ev (l : List NodeL) (hl : l.length ≤ 1048576) : Ev (fun k => laws_toNodeS.f k l) (l.map toNode) := by
  have h := toNodeS_l l hl l.length 0 (List.replicate l.length z75) (by omega) (by simp) (by simp)
  refine Ev.congr (fun k => ?_) h
  unfold laws_toNodeS.f
  rw [if_pos (by omega), if_pos (by omega), Int.toNat_natCast]
  rfl
theorem eqNodeS_l (l : List NodeI) (hl : l.length ≤ 9223372036854775807) (d : Nat) : ∀ (i : Nat), i + d = l.length → Ev (fun k => laws_eqNodeS.l0 k l l i) true := by
  induction d with
  | zero =>
    intro i hi
    refine Ev.step (f := fun _ => some true) (fun k => ?_) (Ev.now _)
    simp only [laws_eqNodeS.l0]
    rw [if_neg (by omega)]
  | succ d ih =>
    intro i hi
    have hlt : i < l.length := by omega
    refine Ev.step (f := fun k => laws_eqNodeS.l0 k l l ((i + 1 : Nat) : Int)) (fun k => ?_) (ih (i + 1) (by omega))
    simp only [laws_eqNodeS.l0]
    rw [if_pos (by omega), if_pos (by omega), if_pos (by omega)]
    simp only [laws_eqNode.f, if_true, Option.bind_some]
    rw [wrap_succ hlt hl]
theorem eqNodeS_ev (l : List NodeI) (hl : l.length ≤ 9223372036854775807) : Ev (fun k => laws_eqNodeS.f k l l) true := by
  refine Ev.congr (fun k => ?_) (eqNodeS_l l hl l.length 0 (by omega))
  unfold laws_eqNodeS.f
  rw [if_pos rfl]; rfl
def heldNode (m : Int) (l : List NodeI) : Prop := ∀ j, (h : j < l.length) → l[j] = ⟨m + 2 * j, m + 2 * j + 1⟩
theorem markNodeS_l (m : Int) (n : Nat) (hm0 : 0 ≤ m) (hm : m + 2 * n ≤ 4611686018427387904) (d : Nat) : ∀ (i : Nat) (l : List NodeI), l.length = n → i + d = n → (∀ j, (h : j < l.length) → j < i → l[j] = ⟨m + 2 * j, m + 2 * j + 1⟩) →
    ∃ r, r.length = n ∧ heldNode m r ∧ Ev (fun k => laws_markNodeS.l0 k l (m + 2 * i) i) (m + 2 * n, r) := by
  induction d with
  | zero =>
    intro i l hl hi hh
    refine ⟨l, hl, fun j h => hh j h (by omega), Ev.step (f := fun _ => some (m + 2 * n, l)) (fun k => ?_) (Ev.now _)⟩
    simp only [laws_markNodeS.l0]
    rw [if_neg (by omega), show i = n by omega]
  | succ d ih =>
    intro i l hl hi hh
    have hlt : i < l.length := by omega
    obtain ⟨r, hr, hh', he⟩ := ih (i + 1) (l.set i ⟨m + 2 * i, m + 2 * i + 1⟩) (by simpa using hl) (by omega) (fun j hj hji => by
      rw [List.getElem_set]
      split
      · next e => subst e; rfl
      · exact hh j (by simpa using hj) (by omega))
    refine ⟨r, hr, hh', Ev.step (f := fun k => laws_markNodeS.l0 k (l.set i ⟨m + 2 * i, m + 2 * i + 1⟩) (m + 2 * ((i + 1 : Nat) : Int)) ((i + 1 : Nat) : Int)) (fun k => ?_) he⟩
    simp only [laws_markNodeS.l0]
    rw [if_pos (by omega), if_pos (by omega), Option.bind_some, wrap_succ hlt (by omega), wrap_id (x := m + 2 * (i : Int) + 1) (by omega) (by omega), wrap_id (by omega) (by omega)]
    simp only [rd_T75, Int.toNat_natCast, List.set_set, List.getD_eq_getElem?_getD, List.getElem?_set_self hlt, Option.getD_some]
    congr 1
    omega
theorem heldNodeS_l (m : Int) (r : List NodeI) (hm0 : 0 ≤ m) (hm : m + 2 * r.length ≤ 4611686018427387904) (hr : heldNode m r) (d : Nat) : ∀ (i : Nat), i + d = r.length → Ev (fun k => laws_heldNodeS.l0 k r (m + 2 * i) i) (m + 2 * r.length) := by
  induction d with
  | zero =>
    intro i hi
    refine Ev.step (f := fun _ => some (m + 2 * r.length)) (fun k => ?_) (Ev.now _)
    simp only [laws_heldNodeS.l0]
    rw [if_neg (by omega), show i = r.length by omega]
  | succ d ih =>
    intro i hi
    have hlt : i < r.length := by omega
    refine Ev.step (f := fun k => laws_heldNodeS.l0 k r (m + 2 * ((i + 1 : Nat) : Int)) ((i + 1 : Nat) : Int)) (fun k => ?_) (ih (i + 1) (by omega))
    have e := hr i hlt
    simp only [laws_heldNodeS.l0]
    rw [if_pos (by omega), if_pos (by omega)]
    simp only [rd_T75, getD_nat r i _ hlt, e, if_true]
    rw [wrap_id (x := m + 2 * (i : Int) + 1) (by omega) (by omega), if_pos rfl, wrap_id (by omega) (by omega), wrap_succ hlt (by omega)]
    congr 1
    omega
theorem markNodeS_ev (m : Int) (l : List NodeI) (hm0 : 0 ≤ m) (hm : m + 2 * l.length ≤ 4611686018427387904) :
    ∃ r, r.length = l.length ∧ Ev (fun k => laws_markNodeS.f k l m) (m + 2 * l.length, r) ∧ Ev (fun k => laws_heldNodeS.f k r m) (m + 2 * l.length) := by
  obtain ⟨r, hr, hh, he⟩ := markNodeS_l m l.length hm0 hm l.length 0 l rfl (by omega) (fun j _ h => absurd h (Nat.not_lt_zero _))
  refine ⟨r, hr, Ev.congr (fun k => ?_) he, ?_⟩
  · unfold laws_markNodeS.f
    simp
  · have h2 := heldNodeS_l m r hm0 (by omega) hh r.length 0 (by omega)
    rw [hr] at h2
    refine Ev.congr (fun k => ?_) h2
    unfold laws_heldNodeS.f
    simp
end Go.Proofs.Ytmipigipfmcneaa.Q
namespace Go.Proofs.Ytmipigipfmcneaa.Q
open Go.RowKit Go.Proofs.YtmipigipfmcneaaW.PrintWords Go.Proofs.YtmipigipfmcneaaW.PrintLast Go.Proofs.YtmipigipfmcneaaW.PrintMore Go.Proofs.Ytmipigipfmcneaa.X Go.Proofs.Ytmipigipfmcneaa.Rd
set_option linter.unusedVariables false
set_option linter.unusedSimpArgs false
theorem eqIntS_ev (l : List Int) (hl : l.length ≤ 9223372036854775807) : Ev (fun k => laws_eqIntS.f k l l) true := by
  have h := eqLoop laws_eqIntS.l0 (fun _ x y => some (decide (x = y))) 0 (fun k x y i => by
    simp only [laws_eqIntS.l0, Option.bind_some, rd]
    by_cases h : x.getD i.toNat 0 = y.getD i.toNat 0
    · simp only [h, decide_true, if_true]
    · simp only [h, decide_false, if_false, Bool.false_eq_true]) l hl (fun x _ => by simpa using Ev.now true) l.length 0 (by omega)
  refine Ev.congr (fun k => ?_) h
  unfold laws_eqIntS.f
  rw [if_pos rfl]; rfl
end Go.Proofs.Ytmipigipfmcneaa.Q
namespace Go.Proofs.Ytmipigipfmcneaa.Q
open Go.RowKit Go.Proofs.YtmipigipfmcneaaW.PrintWords Go.Proofs.YtmipigipfmcneaaW.PrintLast Go.Proofs.YtmipigipfmcneaaW.PrintMore Go.Proofs.Ytmipigipfmcneaa.X Go.Proofs.Ytmipigipfmcneaa.Rd
set_option linter.unusedVariables false
set_option linter.unusedSimpArgs false
def heldInt (m : Int) (l : List Int) : Prop := ∀ j, (h : j < l.length) → l[j] = m + j
theorem markIntS_l (m : Int) (n : Nat) (hm0 : 0 ≤ m) (hm : m + n ≤ 4611686018427387904) (d : Nat) : ∀ (i : Nat) (l : List Int), l.length = n → i + d = n → (∀ j, (h : j < l.length) → j < i → l[j] = m + j) →
    ∃ r, r.length = n ∧ heldInt m r ∧ Ev (fun k => laws_markIntS.l0 k l (m + i) i) (m + n, r) := by
  induction d with
  | zero =>
    intro i l hl hi hh
    refine ⟨l, hl, fun j h => hh j h (by omega), Ev.step (f := fun _ => some (m + n, l)) (fun k => ?_) (Ev.now _)⟩
    simp only [laws_markIntS.l0]
    rw [if_neg (by omega), show i = n by omega]
  | succ d ih =>
    intro i l hl hi hh
    have hlt : i < l.length := by omega
    obtain ⟨r, hr, hh', he⟩ := ih (i + 1) (l.set i (m + i)) (by simpa using hl) (by omega) (fun j hj hji => by
      rw [List.getElem_set]
      split
      · next e => subst e; rfl
      · exact hh j (by simpa using hj) (by omega))
    refine ⟨r, hr, hh', Ev.step (f := fun k => laws_markIntS.l0 k (l.set i (m + i)) (m + ((i + 1 : Nat) : Int)) ((i + 1 : Nat) : Int)) (fun k => ?_) he⟩
    simp only [laws_markIntS.l0]
    rw [if_pos (by omega), if_pos (by omega), wrap_succ hlt (by omega), wrap_id (x := m + (i : Int) + 1) (by omega) (by omega)]
    simp only [Int.toNat_natCast]
    rw [show m + (i : Int) + 1 = m + ((i + 1 : Nat) : Int) by omega]
theorem heldIntS_l (m : Int) (r : List Int) (hm0 : 0 ≤ m) (hm : m + r.length ≤ 4611686018427387904) (hr : heldInt m r) (d : Nat) : ∀ (i : Nat), i + d = r.length → Ev (fun k => laws_heldIntS.l0 k r (m + i) i) (m + r.length) := by
  induction d with
  | zero =>
    intro i hi
    refine Ev.step (f := fun _ => some (m + r.length)) (fun k => ?_) (Ev.now _)
    simp only [laws_heldIntS.l0]
    rw [if_neg (by omega), show i = r.length by omega]
  | succ d ih =>
    intro i hi
    have hlt : i < r.length := by omega
    refine Ev.step (f := fun k => laws_heldIntS.l0 k r (m + ((i + 1 : Nat) : Int)) ((i + 1 : Nat) : Int)) (fun k => ?_) (ih (i + 1) (by omega))
    have e := hr i hlt
    simp only [laws_heldIntS.l0]
    rw [if_pos (by omega), if_pos (by omega)]
    simp only [rd, getD_nat r i _ hlt, e, if_true]
    rw [wrap_id (x := m + (i : Int) + 1) (by omega) (by omega), wrap_succ hlt (by omega), show m + (i : Int) + 1 = m + ((i + 1 : Nat) : Int) by omega]
theorem markIntS_ev (m : Int) (l : List Int) (hm0 : 0 ≤ m) (hm : m + l.length ≤ 4611686018427387904) :
    ∃ r, r.length = l.length ∧ Ev (fun k => laws_markIntS.f k l m) (m + l.length, r) ∧ Ev (fun k => laws_heldIntS.f k r m) (m + l.length) := by
  obtain ⟨r, hr, hh, he⟩ := markIntS_l m l.length hm0 hm l.length 0 l rfl (by omega) (fun j _ h => absurd h (Nat.not_lt_zero _))
  refine ⟨r, hr, Ev.congr (fun k => ?_) he, ?_⟩
  · unfold laws_markIntS.f
    simp
  · have h2 := heldIntS_l m r hm0 (by omega) hh r.length 0 (by omega)
    rw [hr] at h2
    refine Ev.congr (fun k => ?_) h2
    unfold laws_heldIntS.f
    simp
end Go.Proofs.Ytmipigipfmcneaa.Q
namespace Go.Proofs.Ytmipigipfmcneaa.Q
open Go.RowKit Go.Proofs.YtmipigipfmcneaaW.PrintWords Go.Proofs.YtmipigipfmcneaaW.PrintLast Go.Proofs.YtmipigipfmcneaaW.PrintMore Go.Proofs.Ytmipigipfmcneaa.X Go.Proofs.Ytmipigipfmcneaa.Rd
set_option linter.unusedVariables false
set_option linter.unusedSimpArgs false
theorem FnExactPathOf (l : List NodeL) (w : WF29 l) (a : Int) (w1 : (Lit.int .i64 a).wf = true) : ∃ k, laws_FnExactPathOf.f k l a = some true := by
  refine Ev.rounds (g := fun k => laws_FnExactPathOf.f k l a) ?_
  unfold laws_FnExactPathOf.f
  refine Ev.bindC (szNodeS_eq l _ (by omega) (by omega) w.1) ?_
  by_cases h : (1048576 : Int) < l.length
  · rw [if_pos h]
    exact Ev.ifT (by omega) (Ev.now _)
  · rw [if_neg h]
    refine Ev.ifF (by omega) ?_
    have t := toNodeS_ev l (by omega)
    have hl : (l.map toNode).length = l.length := by simp
    have s := specPathOf_ev (l.map toNode) (by omega) a
    have i := implPathOf_ev (l.map toNode) a
    have hp := pathOf_len (l.map toNode) a
    have e := eqIntS_ev (pathOf (l.map toNode) a) (by omega)
    obtain ⟨r1, _, m1, _⟩ := markNodeS_ev 1 (l.map toNode) (by omega) (by omega)
    obtain ⟨r2, _, m2, h2⟩ := markIntS_ev 1 (pathOf (l.map toNode) a) (by omega) (by omega)
    refine Ev.bind t (Ev.bind s (Ev.bind t (Ev.bind i (Ev.bind e (Ev.ifT rfl (Ev.bind t (Ev.bind (eqNodeS_ev _ (by omega)) (Ev.ifT rfl (Ev.bind m1 (Ev.ifF (by simp only; omega) (Ev.bind e ?_)))))))))))
    refine Ev.step (fun _ => rfl) ?_
    simp only [laws_FnExactPathOf.j0]
    refine Ev.ifF (by simp) ?_
    refine Ev.bind m2 (Ev.bind h2 (Ev.ifF (by omega) (Ev.ifT rfl (Ev.bind t (Ev.bind i (Ev.bind e (Ev.ifT rfl (Ev.bind h2 (Ev.ifF (by omega) (Ev.ifT rfl (Ev.now _)))))))))))
end Go.Proofs.Ytmipigipfmcneaa.Q
