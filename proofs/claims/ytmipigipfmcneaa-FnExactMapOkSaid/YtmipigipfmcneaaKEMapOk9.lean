/- Part 9 of the proof of FnExactMapOk: what it needs. -/
import Derived.WalkKit
import Derived.ProofKit
import Derived.OpenShut
import Derived.ShutString
import Derived.ChangeOld
import Derived.Below
import Derived.Deep.Slices
import Derived.Test.YtmipigipfmcneaaKEMapOk3
import Derived.Test.YtmipigipfmcneaaKEMapOk4
import Derived.Test.YtmipigipfmcneaaKEMapOk5
import Derived.Test.YtmipigipfmcneaaKEMapOk6
import Derived.Test.YtmipigipfmcneaaKEMapOk7
import Derived.Test.YtmipigipfmcneaaKEMapOk8
namespace Go.Proofs.Ytmipigipfmcneaa.Rd
open Go.ChangeShapes Go.WideShapes Go.ChangeAt Go.RowKit Go.Proofs.YtmipigipfmcneaaW.PrintWords
structure Rd (P : Program) (t : TypeId) {α : Type} (d : Kd α) (wf : α → Prop) : Prop where
  size : P.cellsOf t = d.sz
  reads : ∀ {H : Type} {enc : TypeId × Value → H} {w : World} {spare : Nat → Bool} {held : Bool} {fuel : Nat} {cs : List Value} {x : DataW H × List MemPlace},
    DataW.trod enc P w 0 spare held fuel t cs = some x → ∃ y, d.K w y cs ∧ wf y
theorem rd_int {P : Program} {t : TypeId} {k : IntKind} (ht : P.underlying t = some (.int k)) (hc : P.cellsOf t = 1) : Rd P t (Kd.int k) (fun n => (Lit.int k n).wf = true) :=
  ⟨hc, fun h => by
    obtain ⟨n, rfl, _, hw⟩ := DataW.trod_int ht h
    exact ⟨n, rfl, hw⟩⟩
theorem rd_slice {P : Program} {t e : TypeId} {α : Type} [Inhabited α] {d : Kd α} {wf : α → Prop} (ht : P.underlying t = some (.slice e)) (hc : P.cellsOf t = 1) (h : Rd P e d wf) : Rd P t (Kd.slice e d) (fun xs => xs.length ≤ 9223372036854775807 ∧ ∀ x ∈ xs, wf x) :=
  ⟨hc, fun {H enc w spare held fuel cs x} hx => by
    rcases Go.Deep.open_slice ht hx with ⟨rfl, _⟩ | ⟨a, len, cap, m, n, D, Pl, rfl, _, hl, hm, hmm, _, hel⟩
    · exact ⟨[], ⟨none, 0, rfl, Nat.le_refl _, rfl, by simp, fun h => absurd h (Nat.lt_irrefl _)⟩, by simp, by simp⟩
    · have hle : len ≤ m := by rw [hmm]; split <;> omega
      obtain ⟨f, hf⟩ := Go.Deep.choose_lt (n := len) (p := fun i (y : α) => ∃ cs', w.cells? 0 (a.add (i * P.cellsOf e)) (P.cellsOf e) = some cs' ∧ d.K w y cs' ∧ wf y) (fun i hi => by
        obtain ⟨cs', h1, h2⟩ := hel i (by omega)
        obtain ⟨y, hy, hw⟩ := h.reads h2
        exact ⟨y, cs', h1, hy, hw⟩)
      have hlen : ((List.range len).map f).length = len := by simp
      refine ⟨(List.range len).map f, ⟨some a, cap, by rw [hlen], by rw [hlen]; exact hl, ?_⟩, by rw [hlen]; unfold maxLen at hm; omega, ?_⟩
      · refine ⟨rfl, by rw [hlen]; unfold maxLen at hm; omega, fun _ => ⟨a, rfl, fun j p hj => ?_⟩⟩
        have hj' : j < len ∧ f j = p := by
          rw [List.getElem?_map] at hj
          obtain ⟨i, hi, hp⟩ := Option.map_eq_some_iff.1 hj
          have := List.getElem?_eq_some_iff.1 hi
          obtain ⟨h1, h2⟩ := this
          simp at h1 h2
          subst h2
          exact ⟨h1, hp⟩
        obtain ⟨cs', h1, h2, _⟩ := hf j hj'.1
        rw [hj'.2] at h2
        obtain ⟨_, hn, hcell⟩ := World.cells?_some h1
        refine ⟨cs', d.K_len h2, h2, fun i u hu => ?_⟩
        have hi : i < cs'.length := (List.getElem?_eq_some_iff.1 hu).1
        have := hcell i (by omega)
        rw [Go.Deep.add_add, h.size] at this
        rw [this, hu]
      · intro x hx
        obtain ⟨i, hi, rfl⟩ := List.mem_map.1 hx
        obtain ⟨_, _, _, hw⟩ := hf i (by simpa using hi)
        exact hw⟩
structure RdF (P : Program) (o : Nat) (fs : List Field) {α : Type} (d : Kd α) (wf : α → Prop) : Prop where
  reads : ∀ {H : Type} {enc : TypeId × Value → H} {w : World} {spare : Nat → Bool} {held : Bool} {fuel : Nat} {cs : List Value}, o + d.sz ≤ cs.length →
    (∀ f ∈ fs, ∃ x, DataW.trod enc P w 0 spare held fuel f.type ((cs.drop f.offset).take (P.cellsOf f.type)) = some x) → ∃ y, d.K w y ((cs.drop o).take d.sz) ∧ wf y
theorem rdf_one {P : Program} {o : Nat} {f : Field} {α : Type} {d : Kd α} {wf : α → Prop} (ho : f.offset = o) (h : Rd P f.type d wf) : RdF P o [f] d wf :=
  ⟨fun _ hf => by
    obtain ⟨x, hx⟩ := hf f (by simp)
    rw [ho, h.size] at hx
    exact h.reads hx⟩
theorem rdf_cons {P : Program} {o : Nat} {f : Field} {fs : List Field} {α β : Type} {d : Kd α} {d' : Kd β} {wf : α → Prop} {wf' : β → Prop} (ho : f.offset = o) (h : Rd P f.type d wf) (h' : RdF P (o + d.sz) fs d' wf') :
    RdF P o (f :: fs) (Kd.pair d d') (fun x => wf x.1 ∧ wf' x.2) :=
  ⟨fun {H enc w spare held fuel cs} hl hf => by
    have hl' : o + (d.sz + d'.sz) ≤ cs.length := hl
    obtain ⟨x, hx⟩ := hf f (by simp)
    rw [ho, h.size] at hx
    obtain ⟨y, hy, hw⟩ := h.reads hx
    obtain ⟨y', hy', hw'⟩ := h'.reads (cs := cs) (by omega) (fun g hg => hf g (by simp [hg]))
    refine ⟨(y, y'), ⟨_, _, ?_, hy, hy'⟩, hw, hw'⟩
    show (cs.drop o).take (d.sz + d'.sz) = _
    rw [List.take_add, List.drop_drop]⟩
theorem rd_struct {P : Program} {t : TypeId} {fs : Array Field} {α β : Type} {d : Kd α} {wf : α → Prop} (g : β → α) (ht : P.underlying t = some (.struct fs)) (hc : P.cellsOf t = d.sz) (hg : ∀ y, ∃ x, g x = y) (h : RdF P 0 fs.toList d wf) :
    Rd P t (Kd.iso d g) (fun x => wf (g x)) :=
  ⟨hc, fun {H enc w spare held fuel cs x} hx => by
    obtain ⟨xs, n, _, _, hl, hlen, hf⟩ := DataW.trod_struct ht hx
    obtain ⟨y, hy, hw⟩ := h.reads (enc := enc) (w := w) (spare := spare) (held := held) (fuel := n) (cs := cs) (by omega) (fun f hfm => by
      obtain ⟨i, hi, rfl⟩ := List.getElem_of_mem hfm
      have h1 : fs[i]? = some fs[i] := Array.getElem?_eq_getElem (by simpa using hi)
      have h2 := hf i _ h1
      have h3 : i < xs.length := by rw [hlen]; simpa using hi
      rw [List.getElem?_eq_getElem h3] at h2
      exact ⟨_, h2⟩)
    rw [List.drop_zero, List.take_of_length_le (by omega)] at hy
    obtain ⟨z, rfl⟩ := hg y
    exact ⟨z, hy, hw⟩⟩
theorem own : ownKnob Try.prog.godebug = none := by kernel_rfl
theorem laidOut : laidOutB Try.prog = true := by kernel_rfl
end Go.Proofs.Ytmipigipfmcneaa.Rd
namespace Go.Proofs.Ytmipigipfmcneaa.Rd
open Go.ChangeShapes Go.WideShapes Go.ChangeAt Go.RowKit Go.Proofs.YtmipigipfmcneaaW.PrintWords Go.Proofs.Ytmipigipfmcneaa.X
theorem rdt3 : Rd Try.prog 3 (Kd.int .i64) (fun n => (Lit.int .i64 n).wf = true) := rd_int Try.underlying3 (by kernel_rfl)
instance : Inhabited S66 := ⟨z66⟩
def WF77 (x : S77) : Prop := (Lit.int .i64 x.f0).wf = true ∧ (Lit.int .i64 x.f1).wf = true
theorem rdt77 : Rd Try.prog 77 k77 WF77 := rd_struct (fun x : S77 => (x.f0, x.f1)) Try.underlying77 (by kernel_rfl) (fun y => ⟨⟨y.1, y.2⟩, rfl⟩) (rdf_cons rfl rdt3 (rdf_one rfl rdt3))
def WF29 (xs : (List S77)) : Prop := xs.length ≤ 9223372036854775807 ∧ ∀ x ∈ xs, WF77 x
instance : Inhabited S77 := ⟨z77⟩
theorem rdt29 : Rd Try.prog 29 (Kd.slice 77 k77) WF29 := rd_slice Try.underlying29 (by kernel_rfl) rdt77
def WF84 (x : S84) : Prop := (Lit.int .i64 x.f0).wf = true ∧ (Lit.int .i64 x.f1).wf = true
theorem rdt84 : Rd Try.prog 84 k84 WF84 := rd_struct (fun x : S84 => (x.f0, x.f1)) Try.underlying84 (by kernel_rfl) (fun y => ⟨⟨y.1, y.2⟩, rfl⟩) (rdf_cons rfl rdt3 (rdf_one rfl rdt3))
def WF39 (xs : (List S84)) : Prop := xs.length ≤ 9223372036854775807 ∧ ∀ x ∈ xs, WF84 x
instance : Inhabited S84 := ⟨z84⟩
theorem rdt39 : Rd Try.prog 39 (Kd.slice 84 k84) WF39 := rd_slice Try.underlying39 (by kernel_rfl) rdt84
end Go.Proofs.Ytmipigipfmcneaa.Rd
namespace Go.Proofs.Ytmipigipfmcneaa.Q
open Go.RowKit Go.Proofs.YtmipigipfmcneaaW.PrintWords Go.Proofs.YtmipigipfmcneaaW.PrintLast Go.Proofs.YtmipigipfmcneaaW.PrintMore Go.Proofs.Ytmipigipfmcneaa.X Go.Proofs.Ytmipigipfmcneaa.Rd
set_option linter.unusedVariables false
set_option linter.unusedSimpArgs false
theorem wrap_id {x : Int} (h : -9223372036854775808 ≤ x) (h' : x ≤ 9223372036854775807) : wrap64 x = x := by
  unfold wrap64; omega
theorem wrap_succ {i n : Nat} (h : i < n) (hn : n ≤ 9223372036854775807) : wrap64 ((i : Int) + 1) = ((i + 1 : Nat) : Int) := by
  unfold wrap64; omega
theorem Ev.constOf {α : Type} {o : Option α} {r : α} (h : o = some r) : Ev (fun _ => o) r := ⟨0, fun _ _ => h⟩
theorem Ev.bindC {α β : Type} {o : Option α} {f : Nat → α → Option β} {a : α} {r : β} (h : o = some a) (k : Ev (fun n => f n a) r) : Ev (fun n => o.bind (f n)) r :=
  Ev.bind (Ev.constOf h) k
theorem Ev.ifT {α : Type} {c : Prop} [Decidable c] {g f : Nat → Option α} {r : α} (h : c) (k : Ev g r) : Ev (fun n => if c then g n else f n) r := by
  simpa only [if_pos h] using k
theorem Ev.ifF {α : Type} {c : Prop} [Decidable c] {g f : Nat → Option α} {r : α} (h : ¬ c) (k : Ev f r) : Ev (fun n => if c then g n else f n) r := by
  simpa only [if_neg h] using k
theorem ite_dec {α : Type} {p : Prop} [Decidable p] (a b : α) : (if decide p = true then a else b) = if p then a else b := by
  by_cases h : p <;> simp [h]
theorem getD_lt {α : Type} (xs : List α) {i : Nat} (d : α) (h : i < xs.length) : xs.getD i d = xs[i] := by
  rw [List.getD_eq_getElem?_getD, List.getElem?_eq_getElem h]; rfl
theorem take_succ_map {α β : Type} (f : α → β) (l : List α) (i : Nat) (h : i < l.length) : (l.take (i + 1)).map f = (l.take i).map f ++ [f l[i]] := by
  rw [List.take_succ_eq_append_getElem h, List.map_append]; rfl
theorem take_succ_append {α : Type} (l : List α) (i : Nat) (h : i < l.length) : l.take (i + 1) = l.take i ++ [l[i]] := List.take_succ_eq_append_getElem h
end Go.Proofs.Ytmipigipfmcneaa.Q
namespace Go.Proofs.Ytmipigipfmcneaa.Q
open Go.RowKit Go.Proofs.YtmipigipfmcneaaW.PrintWords Go.Proofs.YtmipigipfmcneaaW.PrintLast Go.Proofs.YtmipigipfmcneaaW.PrintMore Go.Proofs.Ytmipigipfmcneaa.X Go.Proofs.Ytmipigipfmcneaa.Rd
set_option linter.unusedVariables false
set_option linter.unusedSimpArgs false
abbrev NodeI := S75
def nd (l : List NodeI) (i : Nat) : NodeI := l.getD i z75
def lab (l : List NodeI) (i : Nat) : Int := (nd l i).f0
def dep (l : List NodeI) (i : Nat) : Int := (nd l i).f1
theorem rd_nd (l : List NodeI) (i : Nat) : rd_T75 l (i : Int) = nd l i := by
  simp [rd_T75, nd]
theorem rd_lab (l : List NodeI) (i : Nat) : (rd_T75 l (i : Int)).f0 = lab l i := by rw [rd_nd]; rfl
theorem rd_dep (l : List NodeI) (i : Nat) : (rd_T75 l (i : Int)).f1 = dep l i := by rw [rd_nd]; rfl
theorem rd_dep0 (l : List NodeI) : (rd_T75 l 0).f1 = dep l 0 := rd_dep l 0
structure Chk (l : List NodeI) (j : Nat) : Prop where
  l0 : 0 ≤ lab l j
  l5 : lab l j ≤ 5
  d0 : 0 ≤ dep l j
  d12 : dep l j ≤ 12
  root : j = 0 → dep l 0 = 0
  pos : 0 < j → 1 ≤ dep l j
  step : 0 < j → dep l j ≤ dep l (j - 1) + 1
structure Tr (l : List NodeI) : Prop where
  len1 : 1 ≤ l.length
  len24 : l.length ≤ 24
  chk : ∀ j, j < l.length → Chk l j
noncomputable def trB (l : List NodeI) : Bool := @decide (Tr l) (Classical.propDecidable _)
theorem trB_iff (l : List NodeI) : trB l = true ↔ Tr l := by
  unfold trB; exact @decide_eq_true_iff _ (Classical.propDecidable _)
theorem trB_false (l : List NodeI) (h : ¬ Tr l) : trB l = false := by
  rw [← Bool.not_eq_true, trB_iff]; exact h
theorem trB_true {l : List NodeI} (h : Tr l) : trB l = true := (trB_iff l).2 h
theorem within_eq (a b c : Int) : impl_within.f a b c = some (decide (b ≤ a ∧ a ≤ c)) := by
  unfold impl_within.f
  by_cases h : b ≤ a <;> simp [h]
theorem l1In_eq (a b c : Int) : spec_l1In.f a b c = some (decide (b ≤ a ∧ a ≤ c)) := by
  unfold spec_l1In.f
  by_cases h : b ≤ a
  · rw [if_pos h]; simp [h]
  · rw [if_neg h]; simp [h]
theorem implLabelOk_eq (a : Int) : impl_LabelOk.f a = some (decide (0 ≤ a ∧ a ≤ 5)) := by
  unfold impl_LabelOk.f; rw [within_eq]; rfl
theorem specLabelOk_eq (a : Int) : spec_LabelOk.f a = some (decide (0 ≤ a ∧ a ≤ 5)) := by
  unfold spec_LabelOk.f; rw [l1In_eq]; rfl
theorem implTreeOk_l (l : List NodeI) (h1 : 1 ≤ l.length) (h24 : l.length ≤ 24) (d : Nat) : ∀ i : Nat, i + d = l.length → (∀ j, j < i → Chk l j) → Ev (fun k => impl_TreeOk.l0 k l l l.length i) (trB l) := by
  induction d with
  | zero =>
    intro i hi hc
    rw [trB_true ⟨h1, h24, fun j hj => hc j (by omega)⟩]
    refine Ev.step (f := fun _ => some true) (fun k => ?_) (Ev.now _)
    simp only [impl_TreeOk.l0]
    rw [if_neg (by omega)]
  | succ d ih =>
    intro i hi hc
    have hlt : i < l.length := by omega
    have no : ¬ Chk l i → trB l = false := fun h => trB_false l fun t => h (t.chk i hlt)
    have e : ∀ k, impl_TreeOk.l0 (k + 1) l l l.length i = if (0 ≤ lab l i ∧ lab l i ≤ 5) then (if 0 ≤ dep l i ∧ dep l i ≤ 12 then ((impl_depthOk.f l i).bind fun t => if t = true then impl_TreeOk.l0 k l l l.length ((i + 1 : Nat) : Int) else some false) else some false) else some false := by
      intro k
      simp only [impl_TreeOk.l0]
      rw [if_pos (by omega), if_pos (by omega), if_pos (by omega), rd_lab, rd_dep, implLabelOk_eq, Option.bind_some, within_eq, wrap_succ hlt (by omega)]
      simp only [ite_dec, Option.bind_some]
    by_cases c1 : 0 ≤ lab l i ∧ lab l i ≤ 5
    · by_cases c2 : 0 ≤ dep l i ∧ dep l i ≤ 12
      · have dk : impl_depthOk.f l i = some (decide ((i = 0 → dep l 0 = 0) ∧ (0 < i → 1 ≤ dep l i ∧ dep l i ≤ dep l (i - 1) + 1))) := by
          unfold impl_depthOk.f
          by_cases c3 : i = 0
          · subst c3
            rw [if_pos (by omega), if_pos (by omega)]
            rw [rd_dep0]
            congr 1
            by_cases c4 : dep l 0 = 0 <;> simp [c4]
          · have hp := hc (i - 1) (by omega)
            have w1 : wrap64 ((i : Int) - 1) = ((i - 1 : Nat) : Int) := by rw [wrap_id (by omega) (by omega)]; omega
            rw [if_neg (by omega), if_pos (by omega), if_pos (by omega), w1, if_pos (by omega), if_pos (by omega), rd_dep, rd_dep, within_eq, Option.bind_some]
            have d12 := hp.d12
            have d0 := hp.d0
            rw [wrap_id (by omega) (by omega)]
            congr 1
            have c5 : 0 < i := by omega
            simp [c3, c5]
        by_cases c3 : (i = 0 → dep l 0 = 0) ∧ (0 < i → 1 ≤ dep l i ∧ dep l i ≤ dep l (i - 1) + 1)
        · refine Ev.step (f := fun k => impl_TreeOk.l0 k l l l.length ((i + 1 : Nat) : Int)) (fun k => ?_) (ih (i + 1) (by omega) (fun j hj => ?_))
          · rw [e, if_pos c1, if_pos c2, dk, Option.bind_some, if_pos (decide_eq_true c3)]
          · by_cases ej : j = i
            · subst ej
              exact ⟨c1.1, c1.2, c2.1, c2.2, c3.1, fun h => (c3.2 h).1, fun h => (c3.2 h).2⟩
            · exact hc j (by omega)
        · rw [no fun h => c3 ⟨h.root, fun hp => ⟨h.pos hp, h.step hp⟩⟩]
          refine Ev.step (f := fun _ => some false) (fun k => ?_) (Ev.now _)
          rw [e, if_pos c1, if_pos c2, dk, Option.bind_some, if_neg (by rw [decide_eq_false c3]; simp)]
      · rw [no fun h => c2 ⟨h.d0, h.d12⟩]
        refine Ev.step (f := fun _ => some false) (fun k => ?_) (Ev.now _)
        rw [e, if_pos c1, if_neg c2]
    · rw [no fun h => c1 ⟨h.l0, h.l5⟩]
      refine Ev.step (f := fun _ => some false) (fun k => ?_) (Ev.now _)
      rw [e, if_neg c1]
theorem implTreeOk_ev (l : List NodeI) : Ev (fun k => impl_TreeOk.f k l) (trB l) := by
  unfold impl_TreeOk.f
  refine Ev.bindC (within_eq _ _ _) ?_
  by_cases h : (1 : Int) ≤ l.length ∧ (l.length : Int) ≤ 24
  · refine Ev.ifT (by simpa using h) ?_
    exact implTreeOk_l l (by omega) (by omega) l.length 0 (by omega) (fun j hj => absurd hj (Nat.not_lt_zero _))
  · rw [trB_false l fun t => h ⟨by have := t.len1; omega, by have := t.len24; omega⟩]
    exact Ev.ifF (by simpa using h) (Ev.now _)
theorem specTreeOk_l (l : List NodeI) (hm : l.length ≤ 9223372036854775807) (d : Nat) : ∀ i : Nat, i + d = l.length → (∀ j, j < i → Chk l j) → Ev (fun k => spec_TreeOk.l0 k l i) (trB l) := by
  induction d with
  | zero =>
    intro i hi hc
    refine Ev.step (f := fun _ => some (trB l)) (fun k => ?_) (Ev.now _)
    simp only [spec_TreeOk.l0]
    rw [if_neg (by omega), l1In_eq]
    simp only [Option.bind_some]
    congr 1
    by_cases h : (1 : Int) ≤ l.length ∧ (l.length : Int) ≤ 24
    · rw [trB_true ⟨by omega, by omega, fun j hj => hc j (by omega)⟩]; simpa using h
    · rw [trB_false l fun t => h ⟨by have := t.len1; omega, by have := t.len24; omega⟩]; simpa using h
  | succ d ih =>
    intro i hi hc
    have hlt : i < l.length := by omega
    have no : ¬ Chk l i → trB l = false := fun h => trB_false l fun t => h (t.chk i hlt)
    have dn : (((dep l i == 0) != ((i : Int) == 0)) = true) ↔ ¬ (dep l i = 0 ↔ i = 0) := by
      rw [bne_iff_ne, ne_eq, Bool.eq_iff_iff, beq_iff_eq, beq_iff_eq, show ((i : Int) = 0 ↔ i = 0) from by omega]
    have e : ∀ k, spec_TreeOk.l0 (k + 1) l i = if (0 ≤ lab l i ∧ lab l i ≤ 5) then (if 0 ≤ dep l i ∧ dep l i ≤ 12 then (if ¬ (dep l i = 0 ↔ i = 0) then some false else if 0 < i ∧ dep l i > dep l (i - 1) + 1 then some false else spec_TreeOk.l0 k l ((i + 1 : Nat) : Int)) else some false) else some false := by
      intro k
      simp only [spec_TreeOk.l0]
      rw [if_pos (by omega), if_pos (by omega), rd_lab, rd_dep, specLabelOk_eq, Option.bind_some, l1In_eq, wrap_succ hlt (by omega)]
      simp only [ite_dec, Option.bind_some, dn]
      by_cases c4 : 0 < i
      · have hp := hc (i - 1) (by omega)
        have d12 := hp.d12
        have d0 := hp.d0
        have w1 : wrap64 ((i : Int) - 1) = ((i - 1 : Nat) : Int) := by rw [wrap_id (by omega) (by omega)]; omega
        rw [w1, rd_dep, wrap_id (x := dep l (i - 1) + 1) (by omega) (by omega), if_pos (show (i : Int) > 0 by omega), if_pos (show (0 : Int) ≤ ((i - 1 : Nat) : Int) by omega), if_pos (show ((i - 1 : Nat) : Int) < (l.length : Int) by omega)]
        simp only [c4, true_and]
      · rw [if_neg (show ¬ (i : Int) > 0 by omega)]
        simp only [c4, false_and, if_false]
    by_cases c1 : 0 ≤ lab l i ∧ lab l i ≤ 5
    · by_cases c2 : 0 ≤ dep l i ∧ dep l i ≤ 12
      · by_cases c3 : (dep l i = 0 ↔ i = 0)
        · by_cases c4 : 0 < i ∧ dep l i > dep l (i - 1) + 1
          · rw [no fun h => by have := h.step c4.1; omega]
            refine Ev.step (f := fun _ => some false) (fun k => ?_) (Ev.now _)
            rw [e, if_pos c1, if_pos c2, if_neg (fun h => h c3), if_pos c4]
          · refine Ev.step (f := fun k => spec_TreeOk.l0 k l ((i + 1 : Nat) : Int)) (fun k => ?_) (ih (i + 1) (by omega) (fun j hj => ?_))
            · rw [e, if_pos c1, if_pos c2, if_neg (fun h => h c3), if_neg c4]
            · by_cases ej : j = i
              · subst ej
                refine ⟨c1.1, c1.2, c2.1, c2.2, fun h => ?_, fun h => ?_, fun h => ?_⟩
                · subst h; exact c3.2 rfl
                · have : ¬ dep l j = 0 := fun z => by have := c3.1 z; omega
                  omega
                · have : ¬ dep l j > dep l (j - 1) + 1 := fun z => c4 ⟨h, z⟩
                  omega
              · exact hc j (by omega)
        · rw [no fun h => c3 ⟨fun z => by
            by_cases q : 0 < i
            · have := h.pos q; omega
            · omega, fun z => by subst z; exact h.root rfl⟩]
          refine Ev.step (f := fun _ => some false) (fun k => ?_) (Ev.now _)
          rw [e, if_pos c1, if_pos c2, if_pos c3]
      · rw [no fun h => c2 ⟨h.d0, h.d12⟩]
        refine Ev.step (f := fun _ => some false) (fun k => ?_) (Ev.now _)
        rw [e, if_pos c1, if_neg c2]
    · rw [no fun h => c1 ⟨h.l0, h.l5⟩]
      refine Ev.step (f := fun _ => some false) (fun k => ?_) (Ev.now _)
      rw [e, if_neg c1]
theorem specTreeOk_ev (l : List NodeI) (hm : l.length ≤ 9223372036854775807) : Ev (fun k => spec_TreeOk.f k l) (trB l) :=
  Ev.congr (fun _ => rfl) (specTreeOk_l l hm l.length 0 (by omega) (fun j hj => absurd hj (Nat.not_lt_zero _)))
noncomputable def hasB (l : List NodeI) (a : Int) : Bool := @decide (Tr l ∧ 0 ≤ a ∧ a < l.length) (Classical.propDecidable _)
theorem hasB_iff (l : List NodeI) (a : Int) : hasB l a = true ↔ (Tr l ∧ 0 ≤ a ∧ a < l.length) := by
  unfold hasB; exact @decide_eq_true_iff _ (Classical.propDecidable _)
theorem hasB_false {l : List NodeI} {a : Int} (h : ¬ (Tr l ∧ 0 ≤ a ∧ a < l.length)) : hasB l a = false := by
  rw [← Bool.not_eq_true, hasB_iff]; exact h
theorem implHas_ev (l : List NodeI) (a : Int) : Ev (fun k => impl_hasNode.f k l a) (hasB l a) := by
  unfold impl_hasNode.f
  refine Ev.bind (implTreeOk_ev l) ?_
  by_cases h : Tr l
  · refine Ev.ifT (trB_true h) (Ev.constOf ?_)
    have := h.len1
    have := h.len24
    rw [wrap_id (by omega) (by omega), within_eq, Option.bind_some]
    congr 1
    rw [Bool.eq_iff_iff, decide_eq_true_iff, hasB_iff]
    exact ⟨fun z => ⟨h, by omega, by omega⟩, fun z => by omega⟩
  · refine Ev.ifF (by rw [trB_false l h]; simp) ?_
    rw [hasB_false fun z => h z.1]
    exact Ev.now _
theorem specAt_ev (l : List NodeI) (hm : l.length ≤ 9223372036854775807) (a : Int) : Ev (fun k => spec_l3At.f k l a) (hasB l a) := by
  unfold spec_l3At.f
  refine Ev.bind (specTreeOk_ev l hm) ?_
  by_cases h : Tr l
  · refine Ev.ifT (trB_true h) (Ev.constOf ?_)
    have := h.len1
    have := h.len24
    rw [wrap_id (by omega) (by omega), l1In_eq, Option.bind_some]
    congr 1
    rw [Bool.eq_iff_iff, decide_eq_true_iff, hasB_iff]
    exact ⟨fun z => ⟨h, by omega, by omega⟩, fun z => by omega⟩
  · refine Ev.ifF (by rw [trB_false l h]; simp) ?_
    rw [hasB_false fun z => h z.1]
    exact Ev.now _
def endFrom (l : List NodeI) (d : Int) : Nat → Nat → Nat
  | 0, e => e
  | n + 1, e => if e < l.length ∧ dep l e > d then endFrom l d n (e + 1) else e
def endN (l : List NodeI) (i : Nat) : Nat := endFrom l (dep l i) l.length (i + 1)
theorem implEndOf_l (l : List NodeI) (hm : l.length ≤ 1048576) (i : Nat) (hi : i < l.length) (n : Nat) : ∀ e : Nat, e ≤ l.length → l.length ≤ e + n → Ev (fun k => impl_endOf.l0 k l i e) (endFrom l (dep l i) n e : Nat) := by
  induction n with
  | zero =>
    intro e h1 h2
    refine Ev.step (f := fun _ => some ((endFrom l (dep l i) 0 e : Nat) : Int)) (fun k => ?_) (Ev.now _)
    simp only [impl_endOf.l0, endFrom]
    rw [if_neg (by omega)]
  | succ n ih =>
    intro e h1 h2
    simp only [endFrom]
    by_cases c : e < l.length ∧ dep l e > dep l i
    · rw [if_pos c]
      refine Ev.step (f := fun k => impl_endOf.l0 k l i ((e + 1 : Nat) : Int)) (fun k => ?_) (ih (e + 1) (by omega) (by omega))
      simp only [impl_endOf.l0]
      rw [if_pos (by omega), if_pos (by omega), if_pos (by omega), if_pos (by omega), rd_dep, rd_dep, if_pos c.2, wrap_succ c.1 (by omega)]
    · rw [if_neg c]
      refine Ev.step (f := fun _ => some (e : Int)) (fun k => ?_) (Ev.now _)
      simp only [impl_endOf.l0]
      by_cases c1 : e < l.length
      · have c2 : ¬ dep l e > dep l i := fun z => c ⟨c1, z⟩
        rw [if_pos (by omega), if_pos (by omega), if_pos (by omega), if_pos (by omega), rd_dep, rd_dep, if_neg c2]
      · rw [if_neg (by omega)]
theorem implEndOf_ev (l : List NodeI) (hm : l.length ≤ 1048576) (i : Nat) (hi : i < l.length) : Ev (fun k => impl_endOf.f k l i) (endN l i : Nat) := by
  unfold impl_endOf.f
  rw [wrap_succ hi (by omega)]
  exact implEndOf_l l hm i hi l.length (i + 1) (by omega) (by omega)
theorem specEndOf_same (l : List NodeI) (a : Int) (k : Nat) : ∀ e : Int, spec_EndOf.l0 k l a e = impl_endOf.l0 k l a e := by
  induction k with
  | zero => intro e; simp only [spec_EndOf.l0, impl_endOf.l0]
  | succ k ih => intro e; simp only [spec_EndOf.l0, impl_endOf.l0, ih]
theorem specEndOf_ev (l : List NodeI) (t : Tr l) (i : Nat) (hi : i < l.length) : Ev (fun k => spec_EndOf.f k l i) (endN l i : Nat) := by
  have := t.len24
  unfold spec_EndOf.f
  refine Ev.bind (specAt_ev l (by omega) i) (Ev.ifT ((hasB_iff _ _).2 ⟨t, by omega, by omega⟩) ?_)
  simp only [specEndOf_same]
  exact implEndOf_ev l (by omega) i hi
end Go.Proofs.Ytmipigipfmcneaa.Q
namespace Go.Proofs.Ytmipigipfmcneaa.Q
open Go.RowKit Go.Proofs.YtmipigipfmcneaaW.PrintWords Go.Proofs.YtmipigipfmcneaaW.PrintLast Go.Proofs.YtmipigipfmcneaaW.PrintMore Go.Proofs.Ytmipigipfmcneaa.X Go.Proofs.Ytmipigipfmcneaa.Rd
set_option linter.unusedVariables false
set_option linter.unusedSimpArgs false
abbrev PairL := S84
abbrev PairI := S81
def toPair (x : PairL) : PairI := ⟨x.f0, x.f1⟩
theorem szPairS_eq (l : List PairL) (a : Int) (ha : 0 ≤ a) (ha' : a ≤ 1048576) (hl : l.length ≤ 9223372036854775807) :
    laws_szPairS.f l a = some (if a < l.length then -1 else a - l.length) := by
  unfold laws_szPairS.f
  rw [wrap_id (by omega) (by omega)]
  by_cases h : a < l.length
  · rw [if_pos (by omega), if_pos h]
  · rw [if_neg (by omega), if_neg h]
theorem toPairS_l (l : List PairL) (hl : l.length ≤ 1048576) (d : Nat) : ∀ (i : Nat) (acc : List PairI), i + d = l.length → acc.length = l.length → acc.take i = (l.take i).map toPair →
    Ev (fun k => laws_toPairS.l0 k l acc i) (l.map toPair) := by
  induction d with
  | zero =>
    intro i acc hi ha ht
    have : acc = l.map toPair := by
      rw [List.take_of_length_le (by omega), List.take_of_length_le (by omega)] at ht
      exact ht
    subst this
    refine Ev.step (f := fun _ => some (l.map toPair)) (fun k => ?_) (Ev.now _)
    simp only [laws_toPairS.l0]
    rw [if_neg (by omega)]
  | succ d ih =>
    intro i acc hi ha ht
    have hlt : i < l.length := by omega
    refine Ev.step (f := fun k => laws_toPairS.l0 k l (acc.set i (toPair l[i])) ((i + 1 : Nat) : Int)) (fun k => ?_) (ih (i + 1) (acc.set i (toPair l[i])) (by omega) (by simpa using ha) ?_)
    · simp only [laws_toPairS.l0]
      rw [if_pos (by omega), if_pos (by omega)]
      simp only [laws_toPair.f, Option.bind_some]
      rw [if_pos (by omega), wrap_succ hlt (by omega)]
      simp only [rd_T84, Int.toNat_natCast, getD_lt l _ hlt]
      rfl
    · rw [take_succ_map toPair l i hlt, take_succ_append _ i (by simp; omega), List.getElem_set_self, List.take_set_of_le (Nat.le_refl i), ht]
theorem toPairS_ev (l : List PairL) (hl : l.length ≤ 1048576) : Ev (fun k => laws_toPairS.f k l) (l.map toPair) := by
  have h := toPairS_l l hl l.length 0 (List.replicate l.length z81) (by omega) (by simp) (by simp)
  refine Ev.congr (fun k => ?_) h
  unfold laws_toPairS.f
  rw [if_pos (by omega), if_pos (by omega), Int.toNat_natCast]
  rfl
theorem eqPairS_l (l : List PairI) (hl : l.length ≤ 9223372036854775807) (d : Nat) : ∀ (i : Nat), i + d = l.length → Ev (fun k => laws_eqPairS.l0 k l l i) true := by
  induction d with
  | zero =>
    intro i hi
    refine Ev.step (f := fun _ => some true) (fun k => ?_) (Ev.now _)
    simp only [laws_eqPairS.l0]
    rw [if_neg (by omega)]
  | succ d ih =>
    intro i hi
    have hlt : i < l.length := by omega
    refine Ev.step (f := fun k => laws_eqPairS.l0 k l l ((i + 1 : Nat) : Int)) (fun k => ?_) (ih (i + 1) (by omega))
    simp only [laws_eqPairS.l0]
    rw [if_pos (by omega), if_pos (by omega), if_pos (by omega)]
    simp only [laws_eqPair.f, if_true, Option.bind_some]
    rw [wrap_succ hlt hl]
theorem eqPairS_ev (l : List PairI) (hl : l.length ≤ 9223372036854775807) : Ev (fun k => laws_eqPairS.f k l l) true := by
  refine Ev.congr (fun k => ?_) (eqPairS_l l hl l.length 0 (by omega))
  unfold laws_eqPairS.f
  rw [if_pos rfl]; rfl
end Go.Proofs.Ytmipigipfmcneaa.Q
namespace Go.Proofs.Ytmipigipfmcneaa.Q
open Go.RowKit Go.Proofs.YtmipigipfmcneaaW.PrintWords Go.Proofs.YtmipigipfmcneaaW.PrintLast Go.Proofs.YtmipigipfmcneaaW.PrintMore Go.Proofs.Ytmipigipfmcneaa.X Go.Proofs.Ytmipigipfmcneaa.Rd
set_option linter.unusedVariables false
set_option linter.unusedSimpArgs false
def pr (m : List PairI) (i : Nat) : PairI := m.getD i z81
def pA (m : List PairI) (i : Nat) : Int := (pr m i).f0
def pB (m : List PairI) (i : Nat) : Int := (pr m i).f1
theorem rd_pA (m : List PairI) (i : Nat) : (rd_T81 m (i : Int)).f0 = pA m i := by simp [rd_T81, pA, pr]
theorem rd_pB (m : List PairI) (i : Nat) : (rd_T81 m (i : Int)).f1 = pB m i := by simp [rd_T81, pB, pr]
structure Good (a b : List NodeI) (m : List PairI) (i : Nat) : Prop where
  hA : hasB a (pA m i) = true
  hB : hasB b (pB m i) = true
  lA : ∀ k, k < i → pA m k < pA m i
  lB : ∀ k, k < i → pB m k < pB m i
  un : ∀ k, k < i → (pA m i < endN a (pA m k).toNat ↔ pB m i < endN b (pB m k).toNat)
structure MOk (a b : List NodeI) (m : List PairI) : Prop where
  ta : Tr a
  tb : Tr b
  good : ∀ i, i < m.length → Good a b m i
noncomputable def mapB (a b : List NodeI) (m : List PairI) : Bool := @decide (MOk a b m) (Classical.propDecidable _)
theorem mapB_iff (a b : List NodeI) (m : List PairI) : mapB a b m = true ↔ MOk a b m := by
  unfold mapB; exact @decide_eq_true_iff _ (Classical.propDecidable _)
theorem mapB_false {a b : List NodeI} {m : List PairI} (h : ¬ MOk a b m) : mapB a b m = false := by
  rw [← Bool.not_eq_true, mapB_iff]; exact h
theorem has_nat {l : List NodeI} {x : Int} (h : hasB l x = true) : ∃ i : Nat, x = i ∧ i < l.length ∧ l.length ≤ 24 := by
  obtain ⟨t, h0, h1⟩ := (hasB_iff l x).1 h
  obtain ⟨i, rfl⟩ := Int.eq_ofNat_of_zero_le h0
  exact ⟨i, rfl, by omega, t.len24⟩
theorem implEnd_has (l : List NodeI) {x : Int} (h : hasB l x = true) : Ev (fun k => impl_endOf.f k l x) (endN l x.toNat : Nat) := by
  obtain ⟨i, rfl, h1, h2⟩ := has_nat h
  rw [Int.toNat_natCast]
  exact implEndOf_ev l (by omega) i h1
theorem implMap_l1 (a b : List NodeI) (m : List PairI) (hm : m.length ≤ 1048576) (i : Nat) (hi : i < m.length) (hg : ∀ j, j < i → Good a b m j)
    (hA : hasB a (pA m i) = true) (hB : hasB b (pB m i) = true) (lA : ∀ k, k < i → pA m k < pA m i) (lB : ∀ k, k < i → pB m k < pB m i)
    (hn : Good a b m i → Ev (fun r => impl_MapOk.l0 r a b m m m.length ((i + 1 : Nat) : Int)) (mapB a b m)) (d : Nat) :
    ∀ k : Nat, k + d = i → (∀ q, q < k → (pA m i < endN a (pA m q).toNat ↔ pB m i < endN b (pB m q).toNat)) → Ev (fun r => impl_MapOk.l1 r a b m m m.length i (m.take i) (m.take i).length k (pA m i) (pB m i)) (mapB a b m) := by
  have hl : (m.take i).length = i := by simp; omega
  induction d with
  | zero =>
    intro k hk hq
    have e : k = i := by omega
    subst e
    refine Ev.step (fun _ => rfl) ?_
    simp only [impl_MapOk.l1, hl]
    rw [wrap_succ hi (by omega)]
    exact Ev.ifF (by omega) (hn ⟨hA, hB, lA, lB, hq⟩)
  | succ d ih =>
    intro k hk hq
    have gk := hg k (by omega)
    have tk : (rd_T81 (m.take i) (k : Int)) = pr m k := by
      simp only [rd_T81, pr, Int.toNat_natCast, List.getD_eq_getElem?_getD]
      rw [List.getElem?_take_of_lt (by omega)]
    refine Ev.step (fun _ => rfl) ?_
    simp only [impl_MapOk.l1, hl, tk]
    rw [wrap_succ (show k < i by omega) (by omega)]
    refine Ev.ifT (by omega) (Ev.ifT (by omega) (Ev.ifT (by omega) (Ev.bind (implEnd_has a gk.hA) (Ev.bind (implEnd_has b gk.hB) ?_))))
    by_cases c : (pA m i < endN a (pA m k).toNat ↔ pB m i < endN b (pB m k).toNat)
    · have := ih (k + 1) (by omega) (fun q hq' => by
        by_cases e : q = k
        · subst e; exact c
        · exact hq q (by omega))
      simp only [hl] at this
      refine Ev.ifF ?_ this
      rw [bne_iff_ne, ne_eq, Bool.eq_iff_iff, decide_eq_true_iff, decide_eq_true_iff]
      exact fun z => z c
    · rw [mapB_false fun z => c ((z.good i hi).un k (by omega))]
      refine Ev.ifT ?_ (Ev.now _)
      rw [bne_iff_ne, ne_eq, Bool.eq_iff_iff, decide_eq_true_iff, decide_eq_true_iff]
      exact c
theorem implMap_l0 (a b : List NodeI) (ta : Tr a) (tb : Tr b) (m : List PairI) (hm : m.length ≤ 1048576) (d : Nat) : ∀ i : Nat, i + d = m.length → (∀ j, j < i → Good a b m j) → Ev (fun r => impl_MapOk.l0 r a b m m m.length i) (mapB a b m) := by
  induction d with
  | zero =>
    intro i hi hg
    refine Ev.step (fun _ => rfl) ?_
    simp only [impl_MapOk.l0]
    rw [(mapB_iff a b m).2 ⟨ta, tb, fun j hj => hg j (by omega)⟩]
    exact Ev.ifF (by omega) (Ev.now _)
  | succ d ih =>
    intro i hi hg
    have hlt : i < m.length := by omega
    have no : Nat → ¬ Good a b m i → Ev (fun r => impl_MapOk.j2 r a b m i m m.length i true (pA m i) (pB m i)) (mapB a b m) := fun _ h => by
      rw [mapB_false fun z => h (z.good i hlt)]
      refine Ev.step (fun _ => rfl) ?_
      simp only [impl_MapOk.j2]
      exact Ev.ifT trivial (Ev.now _)
    refine Ev.step (fun _ => rfl) ?_
    simp only [impl_MapOk.l0, rd_pA, rd_pB]
    refine Ev.ifT (by omega) (Ev.ifT (by omega) (Ev.ifT (by omega) (Ev.bind (implHas_ev a _) ?_)))
    by_cases hA : hasB a (pA m i) = true
    · refine Ev.ifT hA (Ev.bind (implHas_ev b _) ?_)
      by_cases hB : hasB b (pB m i) = true
      · refine Ev.ifT hB ?_
        have go : (∀ k, k < i → pA m k < pA m i) → (∀ k, k < i → pB m k < pB m i) → Ev (fun r => impl_MapOk.j2 r a b m i m m.length i false (pA m i) (pB m i)) (mapB a b m) := fun lA lB => by
          refine Ev.step (fun _ => rfl) ?_
          simp only [impl_MapOk.j2, Option.bind_some, Int.toNat_natCast]
          refine Ev.ifF (by simp) (Ev.ifT (by omega) (Ev.ifT (by omega) ?_))
          exact implMap_l1 a b m hm i hlt hg hA hB lA lB (fun g => ih (i + 1) (by omega) (fun j hj => by
            by_cases e : j = i
            · subst e; exact g
            · exact hg j (by omega))) i 0 (by omega) (fun q hq => absurd hq (Nat.not_lt_zero _))
        by_cases c : 0 < i
        · have w1 : wrap64 ((i : Int) - 1) = ((i - 1 : Nat) : Int) := by rw [wrap_id (by omega) (by omega)]; omega
          rw [w1]
          simp only [rd_pA, rd_pB]
          refine Ev.ifT (by omega) (Ev.ifT (by omega) (Ev.ifT (by omega) ?_))
          have gp := hg (i - 1) (by omega)
          by_cases cA : pA m i ≤ pA m (i - 1)
          · exact Ev.ifT cA (no 0 fun g => by have := g.lA (i - 1) (by omega); omega)
          · refine Ev.ifF cA ?_
            by_cases cB : pB m i ≤ pB m (i - 1)
            · rw [decide_eq_true cB]
              exact no 0 fun g => by have := g.lB (i - 1) (by omega); omega
            · rw [decide_eq_false cB]
              refine go (fun k hk => ?_) (fun k hk => ?_)
              · by_cases e : k = i - 1
                · subst e; omega
                · have := gp.lA k (by omega); omega
              · by_cases e : k = i - 1
                · subst e; omega
                · have := gp.lB k (by omega); omega
        · refine Ev.ifF (by omega) (go (fun k hk => by omega) (fun k hk => by omega))
      · exact Ev.ifF hB (no 0 fun g => hB g.hB)
    · exact Ev.ifF hA (no 0 fun g => hA g.hA)
theorem implMapOk_ev (a b : List NodeI) (m : List PairI) (hm : m.length ≤ 1048576) : Ev (fun r => impl_MapOk.f r a b m) (mapB a b m) := by
  unfold impl_MapOk.f
  have no : ¬ (Tr a ∧ Tr b) → Ev (fun r => impl_MapOk.j0 r a b m true) (mapB a b m) := fun h => by
    rw [mapB_false fun z => h ⟨z.ta, z.tb⟩]
    refine Ev.step (fun _ => rfl) ?_
    simp only [impl_MapOk.j0]
    exact Ev.ifT trivial (Ev.now _)
  refine Ev.bind (implTreeOk_ev a) ?_
  by_cases ta : Tr a
  · refine Ev.ifT (trB_true ta) (Ev.bind (implTreeOk_ev b) ?_)
    by_cases tb : Tr b
    · rw [trB_true tb]
      refine Ev.step (fun _ => rfl) ?_
      simp only [impl_MapOk.j0]
      exact Ev.ifF (by simp) (implMap_l0 a b ta tb m hm m.length 0 (by omega) (fun j h => absurd h (Nat.not_lt_zero _)))
    · rw [trB_false b tb]
      exact no fun z => tb z.2
  · refine Ev.ifF (by rw [trB_false a ta]; simp) (no fun z => ta z.1)
theorem specUnder_ev (l : List NodeI) (hm : l.length ≤ 9223372036854775807) {x y : Int} (hx : hasB l x = true) (hy : hasB l y = true) (hxy : x < y) : Ev (fun r => spec_Under.f r l x y) (decide (y < endN l x.toNat)) := by
  unfold spec_Under.f
  have t := ((hasB_iff l x).1 hx).1
  obtain ⟨i, rfl, h1, h2⟩ := has_nat hx
  rw [Int.toNat_natCast]
  refine Ev.bind (specAt_ev l hm _) (Ev.ifT hx (Ev.bind (specAt_ev l hm _) (Ev.ifT hy (Ev.ifT (by omega) (Ev.bind (specEndOf_ev l t i h1) (Ev.now _))))))
theorem specMap_l1 (a b : List NodeI) (m : List PairI) (hla : a.length ≤ 9223372036854775807) (hlb : b.length ≤ 9223372036854775807) (hm : m.length ≤ 1048576) (i : Nat) (hi : i < m.length) (hg : ∀ j, j < i → Good a b m j)
    (hA : hasB a (pA m i) = true) (hB : hasB b (pB m i) = true) (lA : ∀ k, k < i → pA m k < pA m i)
    (hn : Good a b m i → Ev (fun r => spec_MapOk.l0 r a b m ((i + 1 : Nat) : Int)) (mapB a b m)) (d : Nat) :
    ∀ k : Nat, k + d = i → (∀ q, q < k → pB m q < pB m i ∧ (pA m i < endN a (pA m q).toNat ↔ pB m i < endN b (pB m q).toNat)) → Ev (fun r => spec_MapOk.l1 r a b m i k) (mapB a b m) := by
  induction d with
  | zero =>
    intro k hk hq
    have e : k = i := by omega
    subst e
    refine Ev.step (fun _ => rfl) ?_
    simp only [spec_MapOk.l1]
    rw [wrap_succ hi (by omega)]
    exact Ev.ifF (by omega) (hn ⟨hA, hB, lA, fun q h => (hq q h).1, fun q h => (hq q h).2⟩)
  | succ d ih =>
    intro k hk hq
    have gk := hg k (by omega)
    refine Ev.step (fun _ => rfl) ?_
    simp only [spec_MapOk.l1, rd_pA, rd_pB]
    rw [wrap_succ (show k < i by omega) (by omega)]
    refine Ev.ifT (by omega) (Ev.ifT (by omega) (Ev.ifT (by omega) (Ev.ifT (by omega) (Ev.ifT (by omega) ?_))))
    by_cases cB : pB m k ≥ pB m i
    · rw [mapB_false fun z => by have := (z.good i hi).lB k (by omega); omega]
      exact Ev.ifT cB (Ev.now _)
    · refine Ev.ifF cB (Ev.bind (specUnder_ev a hla gk.hA hA (lA k (by omega))) (Ev.bind (specUnder_ev b hlb gk.hB hB (by omega)) ?_))
      by_cases c : (pA m i < endN a (pA m k).toNat ↔ pB m i < endN b (pB m k).toNat)
      · refine Ev.ifF ?_ (ih (k + 1) (by omega) (fun q hq' => by
          by_cases e : q = k
          · subst e; exact ⟨by omega, c⟩
          · exact hq q (by omega)))
        rw [bne_iff_ne, ne_eq, Bool.eq_iff_iff, decide_eq_true_iff, decide_eq_true_iff]
        exact fun z => z c
      · rw [mapB_false fun z => c ((z.good i hi).un k (by omega))]
        refine Ev.ifT ?_ (Ev.now _)
        rw [bne_iff_ne, ne_eq, Bool.eq_iff_iff, decide_eq_true_iff, decide_eq_true_iff]
        exact c
theorem specMap_l0 (a b : List NodeI) (m : List PairI) (hla : a.length ≤ 9223372036854775807) (hlb : b.length ≤ 9223372036854775807) (hm : m.length ≤ 1048576) (d : Nat) : ∀ i : Nat, i + d = m.length → (∀ j, j < i → Good a b m j) → Ev (fun r => spec_MapOk.l0 r a b m i) (mapB a b m) := by
  induction d with
  | zero =>
    intro i hi hg
    refine Ev.step (fun _ => rfl) ?_
    simp only [spec_MapOk.l0]
    refine Ev.ifF (by omega) (Ev.bind (specTreeOk_ev a hla) ?_)
    by_cases ta : Tr a
    · refine Ev.ifT (trB_true ta) (Ev.bind (specTreeOk_ev b hlb) ?_)
      by_cases tb : Tr b
      · rw [trB_true tb, (mapB_iff a b m).2 ⟨ta, tb, fun j hj => hg j (by omega)⟩]
        exact Ev.now _
      · rw [trB_false b tb, mapB_false fun z => tb z.tb]
        exact Ev.now _
    · rw [mapB_false fun z => ta z.ta]
      exact Ev.ifF (by rw [trB_false a ta]; simp) (Ev.now _)
  | succ d ih =>
    intro i hi hg
    have hlt : i < m.length := by omega
    have no : ¬ Good a b m i → Ev (fun r => spec_MapOk.j1 r a b m i true) (mapB a b m) := fun h => by
      rw [mapB_false fun z => h (z.good i hlt)]
      refine Ev.step (fun _ => rfl) ?_
      simp only [spec_MapOk.j1]
      exact Ev.ifT trivial (Ev.now _)
    refine Ev.step (fun _ => rfl) ?_
    simp only [spec_MapOk.l0, rd_pA, rd_pB]
    refine Ev.ifT (by omega) (Ev.ifT (by omega) (Ev.bind (specAt_ev a hla _) ?_))
    by_cases hA : hasB a (pA m i) = true
    · refine Ev.ifT hA (Ev.bind (specAt_ev b hlb _) ?_)
      by_cases hB : hasB b (pB m i) = true
      · refine Ev.ifT hB ?_
        have go : (∀ k, k < i → pA m k < pA m i) → Ev (fun r => spec_MapOk.j1 r a b m i false) (mapB a b m) := fun lA => by
          refine Ev.step (fun _ => rfl) ?_
          simp only [spec_MapOk.j1]
          refine Ev.ifF (by simp) ?_
          exact specMap_l1 a b m hla hlb hm i hlt hg hA hB lA (fun g => ih (i + 1) (by omega) (fun j hj => by
            by_cases e : j = i
            · subst e; exact g
            · exact hg j (by omega))) i 0 (by omega) (fun q hq => absurd hq (Nat.not_lt_zero _))
        by_cases c : 0 < i
        · have w1 : wrap64 ((i : Int) - 1) = ((i - 1 : Nat) : Int) := by rw [wrap_id (by omega) (by omega)]; omega
          rw [w1]
          simp only [rd_pA, rd_pB]
          refine Ev.ifT (by omega) (Ev.ifT (by omega) (Ev.ifT (by omega) ?_))
          have gp := hg (i - 1) (by omega)
          by_cases cA : pA m i ≤ pA m (i - 1)
          · rw [decide_eq_true cA]
            exact no fun g => by have := g.lA (i - 1) (by omega); omega
          · rw [decide_eq_false cA]
            refine go (fun k hk => ?_)
            by_cases e : k = i - 1
            · subst e; omega
            · have := gp.lA k (by omega); omega
        · refine Ev.ifF (by omega) (go (fun k hk => by omega))
      · exact Ev.ifF hB (no fun g => hB g.hB)
    · exact Ev.ifF hA (no fun g => hA g.hA)
theorem specMapOk_ev (a b : List NodeI) (m : List PairI) (hla : a.length ≤ 9223372036854775807) (hlb : b.length ≤ 9223372036854775807) (hm : m.length ≤ 1048576) : Ev (fun r => spec_MapOk.f r a b m) (mapB a b m) :=
  Ev.congr (fun _ => rfl) (specMap_l0 a b m hla hlb hm m.length 0 (by omega) (fun j h => absurd h (Nat.not_lt_zero _)))
end Go.Proofs.Ytmipigipfmcneaa.Q
namespace Go.Proofs.Ytmipigipfmcneaa.Q
open Go.RowKit Go.Proofs.YtmipigipfmcneaaW.PrintWords Go.Proofs.YtmipigipfmcneaaW.PrintLast Go.Proofs.YtmipigipfmcneaaW.PrintMore Go.Proofs.Ytmipigipfmcneaa.X Go.Proofs.Ytmipigipfmcneaa.Rd
set_option linter.unusedVariables false
set_option linter.unusedSimpArgs false
abbrev NodeL := S77
def toNode (x : NodeL) : NodeI := ⟨x.f0, x.f1⟩
theorem szNodeS_eq (l : List NodeL) (a : Int) (ha : 0 ≤ a) (ha' : a ≤ 1048576) (hl : l.length ≤ 9223372036854775807) :
    laws_szNodeS.f l a = some (if a < l.length then -1 else a - l.length) := by
  unfold laws_szNodeS.f
  rw [wrap_id (by omega) (by omega)]
  by_cases h : a < l.length
  · rw [if_pos (by omega), if_pos h]
  · rw [if_neg (by omega), if_neg h]
theorem toNodeS_l (l : List NodeL) (hl : l.length ≤ 1048576) (d : Nat) : ∀ (i : Nat) (acc : List NodeI), i + d = l.length → acc.length = l.length → acc.take i = (l.take i).map toNode →
    Ev (fun k => laws_toNodeS.l0 k l acc i) (l.map toNode) := by
  induction d with
  | zero =>
    intro i acc hi ha ht
    have : acc = l.map toNode := by
      rw [List.take_of_length_le (by omega), List.take_of_length_le (by omega)] at ht
      exact ht
    subst this
    refine Ev.step (f := fun _ => some (l.map toNode)) (fun k => ?_) (Ev.now _)
    simp only [laws_toNodeS.l0]
    rw [if_neg (by omega)]
  | succ d ih =>
    intro i acc hi ha ht
    have hlt : i < l.length := by omega
    refine Ev.step (f := fun k => laws_toNodeS.l0 k l (acc.set i (toNode l[i])) ((i + 1 : Nat) : Int)) (fun k => ?_) (ih (i + 1) (acc.set i (toNode l[i])) (by omega) (by simpa using ha) ?_)
    · simp only [laws_toNodeS.l0]
      rw [if_pos (by omega), if_pos (by omega)]
      simp only [laws_toNode.f, Option.bind_some]
      rw [if_pos (by omega), wrap_succ hlt (by omega)]
      simp only [rd_T77, Int.toNat_natCast, getD_lt l _ hlt]
      rfl
    · rw [take_succ_map toNode l i hlt, take_succ_append _ i (by simp; omega), List.getElem_set_self, List.take_set_of_le (Nat.le_refl i), ht]
theorem toNodeS_ev (l : List NodeL) (hl : l.length ≤ 1048576) : Ev (fun k => laws_toNodeS.f k l) (l.map toNode) := by
  have h := toNodeS_l l hl l.length 0 (List.replicate l.length z75) (by omega) (by simp) (by simp)
  refine Ev.congr (fun k => ?_) h
  unfold laws_toNodeS.f
  rw [if_pos (by omega), if_pos (by omega), Int.toNat_natCast]
  rfl
theorem eqNodeS_l (l : List NodeI) (hl : l.length ≤ 9223372036854775807) (d : Nat) : ∀ (i : Nat), i + d = l.length → Ev (fun k => laws_eqNodeS.l0 k l l i) true := by
  induction d with
  | zero =>
    intro i hi
    refine Ev.step (f := fun _ => some true) (fun k => ?_) (Ev.now _)
    simp only [laws_eqNodeS.l0]
    rw [if_neg (by omega)]
  | succ d ih =>
    intro i hi
    have hlt : i < l.length := by omega
    refine Ev.step (f := fun k => laws_eqNodeS.l0 k l l ((i + 1 : Nat) : Int)) (fun k => ?_) (ih (i + 1) (by omega))
    simp only [laws_eqNodeS.l0]
    rw [if_pos (by omega), if_pos (by omega), if_pos (by omega)]
    simp only [laws_eqNode.f, if_true, Option.bind_some]
    rw [wrap_succ hlt hl]
theorem eqNodeS_ev (l : List NodeI) (hl : l.length ≤ 9223372036854775807) : Ev (fun k => laws_eqNodeS.f k l l) true := by
  refine Ev.congr (fun k => ?_) (eqNodeS_l l hl l.length 0 (by omega))
  unfold laws_eqNodeS.f
  rw [if_pos rfl]; rfl
end Go.Proofs.Ytmipigipfmcneaa.Q
namespace Go.Proofs.Ytmipigipfmcneaa.Q
open Go.RowKit Go.Proofs.YtmipigipfmcneaaW.PrintWords Go.Proofs.YtmipigipfmcneaaW.PrintLast Go.Proofs.YtmipigipfmcneaaW.PrintMore Go.Proofs.Ytmipigipfmcneaa.X Go.Proofs.Ytmipigipfmcneaa.Rd
set_option linter.unusedVariables false
set_option linter.unusedSimpArgs false
theorem FnExactMapOk (a : List NodeL) (wa : WF29 a) (b : List NodeL) (wb : WF29 b) (m : List PairL) (wm : WF39 m) : ∃ k, laws_FnExactMapOk.f k a b m = some true := by
  refine Ev.rounds (g := fun k => laws_FnExactMapOk.f k a b m) ?_
  unfold laws_FnExactMapOk.f
  refine Ev.bindC (szNodeS_eq a _ (by omega) (by omega) wa.1) ?_
  by_cases h : (1048576 : Int) < a.length
  · rw [if_pos h]
    exact Ev.ifT (by omega) (Ev.now _)
  · rw [if_neg h]
    refine Ev.ifF (by omega) (Ev.bindC (szNodeS_eq b _ (by omega) (by omega) wb.1) ?_)
    by_cases h1 : (1048576 : Int) - a.length < b.length
    · rw [if_pos h1]
      exact Ev.ifT (by omega) (Ev.now _)
    · rw [if_neg h1]
      refine Ev.ifF (by omega) (Ev.bindC (szPairS_eq m _ (by omega) (by omega) wm.1) ?_)
      by_cases h2 : (1048576 : Int) - a.length - b.length < m.length
      · rw [if_pos h2]
        exact Ev.ifT (by omega) (Ev.now _)
      · rw [if_neg h2]
        refine Ev.ifF (by omega) ?_
        have ta := toNodeS_ev a (by omega)
        have tb := toNodeS_ev b (by omega)
        have tm := toPairS_ev m (by omega)
        have la : (a.map toNode).length = a.length := by simp
        have lb : (b.map toNode).length = b.length := by simp
        have lm : (m.map toPair).length = m.length := by simp
        refine Ev.bind ta (Ev.bind tb (Ev.bind tm (Ev.bind (specMapOk_ev _ _ _ (by omega) (by omega) (by omega)) (Ev.bind ta (Ev.bind tb (Ev.bind tm (Ev.bind (implMapOk_ev _ _ _ (by omega)) (Ev.ifF (by simp) ?_))))))))
        exact Ev.bind ta (Ev.bind (eqNodeS_ev _ (by omega)) (Ev.ifT rfl (Ev.bind tb (Ev.bind (eqNodeS_ev _ (by omega)) (Ev.ifT rfl (Ev.bind tm (Ev.bind (eqPairS_ev _ (by omega)) (Ev.ifT rfl (Ev.now _)))))))))
end Go.Proofs.Ytmipigipfmcneaa.Q
