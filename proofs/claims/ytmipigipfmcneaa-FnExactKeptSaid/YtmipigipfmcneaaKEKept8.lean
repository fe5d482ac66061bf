/- Part 8 of the proof of FnExactKept: what it needs. -/
import Derived.WalkKit
import Derived.ProofKit
import Derived.OpenShut
import Derived.ShutString
import Derived.ChangeOld
import Derived.Below
import Derived.Deep.Slices
import Derived.Test.YtmipigipfmcneaaKEKept3
import Derived.Test.YtmipigipfmcneaaKEKept4
import Derived.Test.YtmipigipfmcneaaKEKept5
import Derived.Test.YtmipigipfmcneaaKEKept6
import Derived.Test.YtmipigipfmcneaaKEKept7
namespace Go.Proofs.Ytmipigipfmcneaa.Rd
open Go.ChangeShapes Go.WideShapes Go.ChangeAt Go.RowKit Go.Proofs.YtmipigipfmcneaaW.PrintWords
structure Rd (P : Program) (t : TypeId) {α : Type} (d : Kd α) (wf : α → Prop) : Prop where
  size : P.cellsOf t = d.sz
  reads : ∀ {H : Type} {enc : TypeId × Value → H} {w : World} {spare : Nat → Bool} {held : Bool} {fuel : Nat} {cs : List Value} {x : DataW H × List MemPlace},
    DataW.trod enc P w 0 spare held fuel t cs = some x → ∃ y, d.K w y cs ∧ wf y
theorem rd_int {P : Program} {t : TypeId} {k : IntKind} (ht : P.underlying t = some (.int k)) (hc : P.cellsOf t = 1) : Rd P t (Kd.int k) (fun n => (Lit.int k n).wf = true) :=
  ⟨hc, fun h => by
    obtain ⟨n, rfl, _, hw⟩ := DataW.trod_int ht h
    exact ⟨n, rfl, hw⟩⟩
theorem rd_slice {P : Program} {t e : TypeId} {α : Type} [Inhabited α] {d : Kd α} {wf : α → Prop} (ht : P.underlying t = some (.slice e)) (hc : P.cellsOf t = 1) (h : Rd P e d wf) : Rd P t (Kd.slice e d) (fun xs => xs.length ≤ 9223372036854775807 ∧ ∀ x ∈ xs, wf x) :=
  ⟨hc, fun {H enc w spare held fuel cs x} hx => by
    rcases Go.Deep.open_slice ht hx with ⟨rfl, _⟩ | ⟨a, len, cap, m, n, D, Pl, rfl, _, hl, hm, hmm, _, hel⟩
    · exact ⟨[], ⟨none, 0, rfl, Nat.le_refl _, rfl, by simp, fun h => absurd h (Nat.lt_irrefl _)⟩, by simp, by simp⟩
    · have hle : len ≤ m := by rw [hmm]; split <;> omega
      obtain ⟨f, hf⟩ := Go.Deep.choose_lt (n := len) (p := fun i (y : α) => ∃ cs', w.cells? 0 (a.add (i * P.cellsOf e)) (P.cellsOf e) = some cs' ∧ d.K w y cs' ∧ wf y) (fun i hi => by
        obtain ⟨cs', h1, h2⟩ := hel i (by omega)
        obtain ⟨y, hy, hw⟩ := h.reads h2
        exact ⟨y, cs', h1, hy, hw⟩)
      have hlen : ((List.range len).map f).length = len := by simp
      refine ⟨(List.range len).map f, ⟨some a, cap, by rw [hlen], by rw [hlen]; exact hl, ?_⟩, by rw [hlen]; unfold maxLen at hm; omega, ?_⟩
      · refine ⟨rfl, by rw [hlen]; unfold maxLen at hm; omega, fun _ => ⟨a, rfl, fun j p hj => ?_⟩⟩
        have hj' : j < len ∧ f j = p := by
          rw [List.getElem?_map] at hj
          obtain ⟨i, hi, hp⟩ := Option.map_eq_some_iff.1 hj
          have := List.getElem?_eq_some_iff.1 hi
          obtain ⟨h1, h2⟩ := this
          simp at h1 h2
          subst h2
          exact ⟨h1, hp⟩
        obtain ⟨cs', h1, h2, _⟩ := hf j hj'.1
        rw [hj'.2] at h2
        obtain ⟨_, hn, hcell⟩ := World.cells?_some h1
        refine ⟨cs', d.K_len h2, h2, fun i u hu => ?_⟩
        have hi : i < cs'.length := (List.getElem?_eq_some_iff.1 hu).1
        have := hcell i (by omega)
        rw [Go.Deep.add_add, h.size] at this
        rw [this, hu]
      · intro x hx
        obtain ⟨i, hi, rfl⟩ := List.mem_map.1 hx
        obtain ⟨_, _, _, hw⟩ := hf i (by simpa using hi)
        exact hw⟩
structure RdF (P : Program) (o : Nat) (fs : List Field) {α : Type} (d : Kd α) (wf : α → Prop) : Prop where
  reads : ∀ {H : Type} {enc : TypeId × Value → H} {w : World} {spare : Nat → Bool} {held : Bool} {fuel : Nat} {cs : List Value}, o + d.sz ≤ cs.length →
    (∀ f ∈ fs, ∃ x, DataW.trod enc P w 0 spare held fuel f.type ((cs.drop f.offset).take (P.cellsOf f.type)) = some x) → ∃ y, d.K w y ((cs.drop o).take d.sz) ∧ wf y
theorem rdf_one {P : Program} {o : Nat} {f : Field} {α : Type} {d : Kd α} {wf : α → Prop} (ho : f.offset = o) (h : Rd P f.type d wf) : RdF P o [f] d wf :=
  ⟨fun _ hf => by
    obtain ⟨x, hx⟩ := hf f (by simp)
    rw [ho, h.size] at hx
    exact h.reads hx⟩
theorem rdf_cons {P : Program} {o : Nat} {f : Field} {fs : List Field} {α β : Type} {d : Kd α} {d' : Kd β} {wf : α → Prop} {wf' : β → Prop} (ho : f.offset = o) (h : Rd P f.type d wf) (h' : RdF P (o + d.sz) fs d' wf') :
    RdF P o (f :: fs) (Kd.pair d d') (fun x => wf x.1 ∧ wf' x.2) :=
  ⟨fun {H enc w spare held fuel cs} hl hf => by
    have hl' : o + (d.sz + d'.sz) ≤ cs.length := hl
    obtain ⟨x, hx⟩ := hf f (by simp)
    rw [ho, h.size] at hx
    obtain ⟨y, hy, hw⟩ := h.reads hx
    obtain ⟨y', hy', hw'⟩ := h'.reads (cs := cs) (by omega) (fun g hg => hf g (by simp [hg]))
    refine ⟨(y, y'), ⟨_, _, ?_, hy, hy'⟩, hw, hw'⟩
    show (cs.drop o).take (d.sz + d'.sz) = _
    rw [List.take_add, List.drop_drop]⟩
theorem rd_struct {P : Program} {t : TypeId} {fs : Array Field} {α β : Type} {d : Kd α} {wf : α → Prop} (g : β → α) (ht : P.underlying t = some (.struct fs)) (hc : P.cellsOf t = d.sz) (hg : ∀ y, ∃ x, g x = y) (h : RdF P 0 fs.toList d wf) :
    Rd P t (Kd.iso d g) (fun x => wf (g x)) :=
  ⟨hc, fun {H enc w spare held fuel cs x} hx => by
    obtain ⟨xs, n, _, _, hl, hlen, hf⟩ := DataW.trod_struct ht hx
    obtain ⟨y, hy, hw⟩ := h.reads (enc := enc) (w := w) (spare := spare) (held := held) (fuel := n) (cs := cs) (by omega) (fun f hfm => by
      obtain ⟨i, hi, rfl⟩ := List.getElem_of_mem hfm
      have h1 : fs[i]? = some fs[i] := Array.getElem?_eq_getElem (by simpa using hi)
      have h2 := hf i _ h1
      have h3 : i < xs.length := by rw [hlen]; simpa using hi
      rw [List.getElem?_eq_getElem h3] at h2
      exact ⟨_, h2⟩)
    rw [List.drop_zero, List.take_of_length_le (by omega)] at hy
    obtain ⟨z, rfl⟩ := hg y
    exact ⟨z, hy, hw⟩⟩
theorem own : ownKnob Try.prog.godebug = none := by kernel_rfl
theorem laidOut : laidOutB Try.prog = true := by kernel_rfl
end Go.Proofs.Ytmipigipfmcneaa.Rd
namespace Go.Proofs.Ytmipigipfmcneaa.Rd
open Go.ChangeShapes Go.WideShapes Go.ChangeAt Go.RowKit Go.Proofs.YtmipigipfmcneaaW.PrintWords Go.Proofs.Ytmipigipfmcneaa.X
theorem rdt3 : Rd Try.prog 3 (Kd.int .i64) (fun n => (Lit.int .i64 n).wf = true) := rd_int Try.underlying3 (by kernel_rfl)
instance : Inhabited S66 := ⟨z66⟩
def WF77 (x : S77) : Prop := (Lit.int .i64 x.f0).wf = true ∧ (Lit.int .i64 x.f1).wf = true
theorem rdt77 : Rd Try.prog 77 k77 WF77 := rd_struct (fun x : S77 => (x.f0, x.f1)) Try.underlying77 (by kernel_rfl) (fun y => ⟨⟨y.1, y.2⟩, rfl⟩) (rdf_cons rfl rdt3 (rdf_one rfl rdt3))
def WF29 (xs : (List S77)) : Prop := xs.length ≤ 9223372036854775807 ∧ ∀ x ∈ xs, WF77 x
instance : Inhabited S77 := ⟨z77⟩
theorem rdt29 : Rd Try.prog 29 (Kd.slice 77 k77) WF29 := rd_slice Try.underlying29 (by kernel_rfl) rdt77
def WF84 (x : S84) : Prop := (Lit.int .i64 x.f0).wf = true ∧ (Lit.int .i64 x.f1).wf = true
theorem rdt84 : Rd Try.prog 84 k84 WF84 := rd_struct (fun x : S84 => (x.f0, x.f1)) Try.underlying84 (by kernel_rfl) (fun y => ⟨⟨y.1, y.2⟩, rfl⟩) (rdf_cons rfl rdt3 (rdf_one rfl rdt3))
def WF39 (xs : (List S84)) : Prop := xs.length ≤ 9223372036854775807 ∧ ∀ x ∈ xs, WF84 x
instance : Inhabited S84 := ⟨z84⟩
theorem rdt39 : Rd Try.prog 39 (Kd.slice 84 k84) WF39 := rd_slice Try.underlying39 (by kernel_rfl) rdt84
end Go.Proofs.Ytmipigipfmcneaa.Rd
namespace Go.Proofs.Ytmipigipfmcneaa.Q
open Go.RowKit Go.Proofs.YtmipigipfmcneaaW.PrintWords Go.Proofs.YtmipigipfmcneaaW.PrintLast Go.Proofs.YtmipigipfmcneaaW.PrintMore Go.Proofs.Ytmipigipfmcneaa.X Go.Proofs.Ytmipigipfmcneaa.Rd
set_option linter.unusedVariables false
set_option linter.unusedSimpArgs false
theorem wrap_id {x : Int} (h : -9223372036854775808 ≤ x) (h' : x ≤ 9223372036854775807) : wrap64 x = x := by
  unfold wrap64; omega
theorem wrap_succ {i n : Nat} (h : i < n) (hn : n ≤ 9223372036854775807) : wrap64 ((i : Int) + 1) = ((i + 1 : Nat) : Int) := by
  unfold wrap64; omega
theorem Ev.constOf {α : Type} {o : Option α} {r : α} (h : o = some r) : Ev (fun _ => o) r := ⟨0, fun _ _ => h⟩
theorem Ev.bindC {α β : Type} {o : Option α} {f : Nat → α → Option β} {a : α} {r : β} (h : o = some a) (k : Ev (fun n => f n a) r) : Ev (fun n => o.bind (f n)) r :=
  Ev.bind (Ev.constOf h) k
theorem Ev.ifT {α : Type} {c : Prop} [Decidable c] {g f : Nat → Option α} {r : α} (h : c) (k : Ev g r) : Ev (fun n => if c then g n else f n) r := by
  simpa only [if_pos h] using k
theorem Ev.ifF {α : Type} {c : Prop} [Decidable c] {g f : Nat → Option α} {r : α} (h : ¬ c) (k : Ev f r) : Ev (fun n => if c then g n else f n) r := by
  simpa only [if_neg h] using k
theorem ite_dec {α : Type} {p : Prop} [Decidable p] (a b : α) : (if decide p = true then a else b) = if p then a else b := by
  by_cases h : p <;> simp [h]
theorem getD_nat {α : Type} (xs : List α) (i : Nat) (d : α) (h : i < xs.length) : xs.getD ((i : Int)).toNat d = xs[i] := by
  rw [Int.toNat_natCast, List.getD_eq_getElem?_getD, List.getElem?_eq_getElem h]; rfl
theorem getD_lt {α : Type} (xs : List α) {i : Nat} (d : α) (h : i < xs.length) : xs.getD i d = xs[i] := by
  rw [List.getD_eq_getElem?_getD, List.getElem?_eq_getElem h]; rfl
theorem take_succ_map {α β : Type} (f : α → β) (l : List α) (i : Nat) (h : i < l.length) : (l.take (i + 1)).map f = (l.take i).map f ++ [f l[i]] := by
  rw [List.take_succ_eq_append_getElem h, List.map_append]; rfl
theorem take_succ_append {α : Type} (l : List α) (i : Nat) (h : i < l.length) : l.take (i + 1) = l.take i ++ [l[i]] := List.take_succ_eq_append_getElem h
end Go.Proofs.Ytmipigipfmcneaa.Q
namespace Go.Proofs.Ytmipigipfmcneaa.Q
open Go.RowKit Go.Proofs.YtmipigipfmcneaaW.PrintWords Go.Proofs.YtmipigipfmcneaaW.PrintLast Go.Proofs.YtmipigipfmcneaaW.PrintMore Go.Proofs.Ytmipigipfmcneaa.X Go.Proofs.Ytmipigipfmcneaa.Rd
set_option linter.unusedVariables false
set_option linter.unusedSimpArgs false
abbrev NodeI := S75
def nd (l : List NodeI) (i : Nat) : NodeI := l.getD i z75
def lab (l : List NodeI) (i : Nat) : Int := (nd l i).f0
def dep (l : List NodeI) (i : Nat) : Int := (nd l i).f1
theorem rd_nd (l : List NodeI) (i : Nat) : rd_T75 l (i : Int) = nd l i := by
  simp [rd_T75, nd]
theorem rd_lab (l : List NodeI) (i : Nat) : (rd_T75 l (i : Int)).f0 = lab l i := by rw [rd_nd]; rfl
theorem rd_dep (l : List NodeI) (i : Nat) : (rd_T75 l (i : Int)).f1 = dep l i := by rw [rd_nd]; rfl
theorem rd_dep0 (l : List NodeI) : (rd_T75 l 0).f1 = dep l 0 := rd_dep l 0
structure Chk (l : List NodeI) (j : Nat) : Prop where
  l0 : 0 ≤ lab l j
  l5 : lab l j ≤ 5
  d0 : 0 ≤ dep l j
  d12 : dep l j ≤ 12
  root : j = 0 → dep l 0 = 0
  pos : 0 < j → 1 ≤ dep l j
  step : 0 < j → dep l j ≤ dep l (j - 1) + 1
structure Tr (l : List NodeI) : Prop where
  len1 : 1 ≤ l.length
  len24 : l.length ≤ 24
  chk : ∀ j, j < l.length → Chk l j
noncomputable def trB (l : List NodeI) : Bool := @decide (Tr l) (Classical.propDecidable _)
theorem trB_iff (l : List NodeI) : trB l = true ↔ Tr l := by
  unfold trB; exact @decide_eq_true_iff _ (Classical.propDecidable _)
theorem trB_false (l : List NodeI) (h : ¬ Tr l) : trB l = false := by
  rw [← Bool.not_eq_true, trB_iff]; exact h
theorem trB_true {l : List NodeI} (h : Tr l) : trB l = true := (trB_iff l).2 h
theorem within_eq (a b c : Int) : impl_within.f a b c = some (decide (b ≤ a ∧ a ≤ c)) := by
  unfold impl_within.f
  by_cases h : b ≤ a <;> simp [h]
theorem l1In_eq (a b c : Int) : spec_l1In.f a b c = some (decide (b ≤ a ∧ a ≤ c)) := by
  unfold spec_l1In.f
  by_cases h : b ≤ a
  · rw [if_pos h]; simp [h]
  · rw [if_neg h]; simp [h]
theorem implLabelOk_eq (a : Int) : impl_LabelOk.f a = some (decide (0 ≤ a ∧ a ≤ 5)) := by
  unfold impl_LabelOk.f; rw [within_eq]; rfl
theorem specLabelOk_eq (a : Int) : spec_LabelOk.f a = some (decide (0 ≤ a ∧ a ≤ 5)) := by
  unfold spec_LabelOk.f; rw [l1In_eq]; rfl
theorem implTreeOk_l (l : List NodeI) (h1 : 1 ≤ l.length) (h24 : l.length ≤ 24) (d : Nat) : ∀ i : Nat, i + d = l.length → (∀ j, j < i → Chk l j) → Ev (fun k => impl_TreeOk.l0 k l l l.length i) (trB l) := by
  induction d with
  | zero =>
    intro i hi hc
    rw [trB_true ⟨h1, h24, fun j hj => hc j (by omega)⟩]
    refine Ev.step (f := fun _ => some true) (fun k => ?_) (Ev.now _)
    simp only [impl_TreeOk.l0]
    rw [if_neg (by omega)]
  | succ d ih =>
    intro i hi hc
    have hlt : i < l.length := by omega
    have no : ¬ Chk l i → trB l = false := fun h => trB_false l fun t => h (t.chk i hlt)
    have e : ∀ k, impl_TreeOk.l0 (k + 1) l l l.length i = if (0 ≤ lab l i ∧ lab l i ≤ 5) then (if 0 ≤ dep l i ∧ dep l i ≤ 12 then ((impl_depthOk.f l i).bind fun t => if t = true then impl_TreeOk.l0 k l l l.length ((i + 1 : Nat) : Int) else some false) else some false) else some false := by
      intro k
      simp only [impl_TreeOk.l0]
      rw [if_pos (by omega), if_pos (by omega), if_pos (by omega), rd_lab, rd_dep, implLabelOk_eq, Option.bind_some, within_eq, wrap_succ hlt (by omega)]
      simp only [ite_dec, Option.bind_some]
    by_cases c1 : 0 ≤ lab l i ∧ lab l i ≤ 5
    · by_cases c2 : 0 ≤ dep l i ∧ dep l i ≤ 12
      · have dk : impl_depthOk.f l i = some (decide ((i = 0 → dep l 0 = 0) ∧ (0 < i → 1 ≤ dep l i ∧ dep l i ≤ dep l (i - 1) + 1))) := by
          unfold impl_depthOk.f
          by_cases c3 : i = 0
          · subst c3
            rw [if_pos (by omega), if_pos (by omega)]
            rw [rd_dep0]
            congr 1
            by_cases c4 : dep l 0 = 0 <;> simp [c4]
          · have hp := hc (i - 1) (by omega)
            have w1 : wrap64 ((i : Int) - 1) = ((i - 1 : Nat) : Int) := by rw [wrap_id (by omega) (by omega)]; omega
            rw [if_neg (by omega), if_pos (by omega), if_pos (by omega), w1, if_pos (by omega), if_pos (by omega), rd_dep, rd_dep, within_eq, Option.bind_some]
            have d12 := hp.d12
            have d0 := hp.d0
            rw [wrap_id (by omega) (by omega)]
            congr 1
            have c5 : 0 < i := by omega
            simp [c3, c5]
        by_cases c3 : (i = 0 → dep l 0 = 0) ∧ (0 < i → 1 ≤ dep l i ∧ dep l i ≤ dep l (i - 1) + 1)
        · refine Ev.step (f := fun k => impl_TreeOk.l0 k l l l.length ((i + 1 : Nat) : Int)) (fun k => ?_) (ih (i + 1) (by omega) (fun j hj => ?_))
          · rw [e, if_pos c1, if_pos c2, dk, Option.bind_some, if_pos (decide_eq_true c3)]
          · by_cases ej : j = i
            · subst ej
              exact ⟨c1.1, c1.2, c2.1, c2.2, c3.1, fun h => (c3.2 h).1, fun h => (c3.2 h).2⟩
            · exact hc j (by omega)
        · rw [no fun h => c3 ⟨h.root, fun hp => ⟨h.pos hp, h.step hp⟩⟩]
          refine Ev.step (f := fun _ => some false) (fun k => ?_) (Ev.now _)
          rw [e, if_pos c1, if_pos c2, dk, Option.bind_some, if_neg (by rw [decide_eq_false c3]; simp)]
      · rw [no fun h => c2 ⟨h.d0, h.d12⟩]
        refine Ev.step (f := fun _ => some false) (fun k => ?_) (Ev.now _)
        rw [e, if_pos c1, if_neg c2]
    · rw [no fun h => c1 ⟨h.l0, h.l5⟩]
      refine Ev.step (f := fun _ => some false) (fun k => ?_) (Ev.now _)
      rw [e, if_neg c1]
theorem implTreeOk_ev (l : List NodeI) : Ev (fun k => impl_TreeOk.f k l) (trB l) := by
  unfold impl_TreeOk.f
  refine Ev.bindC (within_eq _ _ _) ?_
  by_cases h : (1 : Int) ≤ l.length ∧ (l.length : Int) ≤ 24
  · refine Ev.ifT (by simpa using h) ?_
    exact implTreeOk_l l (by omega) (by omega) l.length 0 (by omega) (fun j hj => absurd hj (Nat.not_lt_zero _))
  · rw [trB_false l fun t => h ⟨by have := t.len1; omega, by have := t.len24; omega⟩]
    exact Ev.ifF (by simpa using h) (Ev.now _)
theorem specTreeOk_l (l : List NodeI) (hm : l.length ≤ 9223372036854775807) (d : Nat) : ∀ i : Nat, i + d = l.length → (∀ j, j < i → Chk l j) → Ev (fun k => spec_TreeOk.l0 k l i) (trB l) := by
  induction d with
  | zero =>
    intro i hi hc
    refine Ev.step (f := fun _ => some (trB l)) (fun k => ?_) (Ev.now _)
    simp only [spec_TreeOk.l0]
    rw [if_neg (by omega), l1In_eq]
    simp only [Option.bind_some]
    congr 1
    by_cases h : (1 : Int) ≤ l.length ∧ (l.length : Int) ≤ 24
    · rw [trB_true ⟨by omega, by omega, fun j hj => hc j (by omega)⟩]; simpa using h
    · rw [trB_false l fun t => h ⟨by have := t.len1; omega, by have := t.len24; omega⟩]; simpa using h
  | succ d ih =>
    intro i hi hc
    have hlt : i < l.length := by omega
    have no : ¬ Chk l i → trB l = false := fun h => trB_false l fun t => h (t.chk i hlt)
    have dn : (((dep l i == 0) != ((i : Int) == 0)) = true) ↔ ¬ (dep l i = 0 ↔ i = 0) := by
      rw [bne_iff_ne, ne_eq, Bool.eq_iff_iff, beq_iff_eq, beq_iff_eq, show ((i : Int) = 0 ↔ i = 0) from by omega]
    have e : ∀ k, spec_TreeOk.l0 (k + 1) l i = if (0 ≤ lab l i ∧ lab l i ≤ 5) then (if 0 ≤ dep l i ∧ dep l i ≤ 12 then (if ¬ (dep l i = 0 ↔ i = 0) then some false else if 0 < i ∧ dep l i > dep l (i - 1) + 1 then some false else spec_TreeOk.l0 k l ((i + 1 : Nat) : Int)) else some false) else some false := by
      intro k
      simp only [spec_TreeOk.l0]
      rw [if_pos (by omega), if_pos (by omega), rd_lab, rd_dep, specLabelOk_eq, Option.bind_some, l1In_eq, wrap_succ hlt (by omega)]
      simp only [ite_dec, Option.bind_some, dn]
      by_cases c4 : 0 < i
      · have hp := hc (i - 1) (by omega)
        have d12 := hp.d12
        have d0 := hp.d0
        have w1 : wrap64 ((i : Int) - 1) = ((i - 1 : Nat) : Int) := by rw [wrap_id (by omega) (by omega)]; omega
        rw [w1, rd_dep, wrap_id (x := dep l (i - 1) + 1) (by omega) (by omega), if_pos (show (i : Int) > 0 by omega), if_pos (show (0 : Int) ≤ ((i - 1 : Nat) : Int) by omega), if_pos (show ((i - 1 : Nat) : Int) < (l.length : Int) by omega)]
        simp only [c4, true_and]
      · rw [if_neg (show ¬ (i : Int) > 0 by omega)]
        simp only [c4, false_and, if_false]
    by_cases c1 : 0 ≤ lab l i ∧ lab l i ≤ 5
    · by_cases c2 : 0 ≤ dep l i ∧ dep l i ≤ 12
      · by_cases c3 : (dep l i = 0 ↔ i = 0)
        · by_cases c4 : 0 < i ∧ dep l i > dep l (i - 1) + 1
          · rw [no fun h => by have := h.step c4.1; omega]
            refine Ev.step (f := fun _ => some false) (fun k => ?_) (Ev.now _)
            rw [e, if_pos c1, if_pos c2, if_neg (fun h => h c3), if_pos c4]
          · refine Ev.step (f := fun k => spec_TreeOk.l0 k l ((i + 1 : Nat) : Int)) (fun k => ?_) (ih (i + 1) (by omega) (fun j hj => ?_))
            · rw [e, if_pos c1, if_pos c2, if_neg (fun h => h c3), if_neg c4]
            · by_cases ej : j = i
              · subst ej
                refine ⟨c1.1, c1.2, c2.1, c2.2, fun h => ?_, fun h => ?_, fun h => ?_⟩
                · subst h; exact c3.2 rfl
                · have : ¬ dep l j = 0 := fun z => by have := c3.1 z; omega
                  omega
                · have : ¬ dep l j > dep l (j - 1) + 1 := fun z => c4 ⟨h, z⟩
                  omega
              · exact hc j (by omega)
        · rw [no fun h => c3 ⟨fun z => by
            by_cases q : 0 < i
            · have := h.pos q; omega
            · omega, fun z => by subst z; exact h.root rfl⟩]
          refine Ev.step (f := fun _ => some false) (fun k => ?_) (Ev.now _)
          rw [e, if_pos c1, if_pos c2, if_pos c3]
      · rw [no fun h => c2 ⟨h.d0, h.d12⟩]
        refine Ev.step (f := fun _ => some false) (fun k => ?_) (Ev.now _)
        rw [e, if_pos c1, if_neg c2]
    · rw [no fun h => c1 ⟨h.l0, h.l5⟩]
      refine Ev.step (f := fun _ => some false) (fun k => ?_) (Ev.now _)
      rw [e, if_neg c1]
theorem specTreeOk_ev (l : List NodeI) (hm : l.length ≤ 9223372036854775807) : Ev (fun k => spec_TreeOk.f k l) (trB l) :=
  Ev.congr (fun _ => rfl) (specTreeOk_l l hm l.length 0 (by omega) (fun j hj => absurd hj (Nat.not_lt_zero _)))
noncomputable def hasB (l : List NodeI) (a : Int) : Bool := @decide (Tr l ∧ 0 ≤ a ∧ a < l.length) (Classical.propDecidable _)
theorem hasB_iff (l : List NodeI) (a : Int) : hasB l a = true ↔ (Tr l ∧ 0 ≤ a ∧ a < l.length) := by
  unfold hasB; exact @decide_eq_true_iff _ (Classical.propDecidable _)
theorem hasB_false {l : List NodeI} {a : Int} (h : ¬ (Tr l ∧ 0 ≤ a ∧ a < l.length)) : hasB l a = false := by
  rw [← Bool.not_eq_true, hasB_iff]; exact h
theorem implHas_ev (l : List NodeI) (a : Int) : Ev (fun k => impl_hasNode.f k l a) (hasB l a) := by
  unfold impl_hasNode.f
  refine Ev.bind (implTreeOk_ev l) ?_
  by_cases h : Tr l
  · refine Ev.ifT (trB_true h) (Ev.constOf ?_)
    have := h.len1
    have := h.len24
    rw [wrap_id (by omega) (by omega), within_eq, Option.bind_some]
    congr 1
    rw [Bool.eq_iff_iff, decide_eq_true_iff, hasB_iff]
    exact ⟨fun z => ⟨h, by omega, by omega⟩, fun z => by omega⟩
  · refine Ev.ifF (by rw [trB_false l h]; simp) ?_
    rw [hasB_false fun z => h z.1]
    exact Ev.now _
theorem specAt_ev (l : List NodeI) (hm : l.length ≤ 9223372036854775807) (a : Int) : Ev (fun k => spec_l3At.f k l a) (hasB l a) := by
  unfold spec_l3At.f
  refine Ev.bind (specTreeOk_ev l hm) ?_
  by_cases h : Tr l
  · refine Ev.ifT (trB_true h) (Ev.constOf ?_)
    have := h.len1
    have := h.len24
    rw [wrap_id (by omega) (by omega), l1In_eq, Option.bind_some]
    congr 1
    rw [Bool.eq_iff_iff, decide_eq_true_iff, hasB_iff]
    exact ⟨fun z => ⟨h, by omega, by omega⟩, fun z => by omega⟩
  · refine Ev.ifF (by rw [trB_false l h]; simp) ?_
    rw [hasB_false fun z => h z.1]
    exact Ev.now _
def endFrom (l : List NodeI) (d : Int) : Nat → Nat → Nat
  | 0, e => e
  | n + 1, e => if e < l.length ∧ dep l e > d then endFrom l d n (e + 1) else e
def endN (l : List NodeI) (i : Nat) : Nat := endFrom l (dep l i) l.length (i + 1)
theorem endFrom_spec (l : List NodeI) (d : Int) (n : Nat) : ∀ e, e ≤ l.length → l.length ≤ e + n → e ≤ endFrom l d n e ∧ endFrom l d n e ≤ l.length ∧ (∀ j, e ≤ j → j < endFrom l d n e → dep l j > d) ∧ (endFrom l d n e < l.length → dep l (endFrom l d n e) ≤ d) := by
  induction n with
  | zero => intro e h1 h2; simp only [endFrom]; exact ⟨Nat.le_refl _, h1, fun j a b => by omega, fun h => by omega⟩
  | succ n ih =>
    intro e h1 h2
    simp only [endFrom]
    by_cases c : e < l.length ∧ dep l e > d
    · rw [if_pos c]
      obtain ⟨a1, a2, a3, a4⟩ := ih (e + 1) (by omega) (by omega)
      refine ⟨by omega, a2, fun j hj1 hj2 => ?_, a4⟩
      by_cases ej : j = e
      · subst ej; exact c.2
      · exact a3 j (by omega) hj2
    · rw [if_neg c]
      refine ⟨Nat.le_refl _, h1, fun j a b => by omega, fun h => ?_⟩
      have : ¬ dep l e > d := fun z => c ⟨h, z⟩
      omega
theorem endN_spec (l : List NodeI) {i : Nat} (hi : i < l.length) : i < endN l i ∧ endN l i ≤ l.length ∧ (∀ j, i < j → j < endN l i → dep l j > dep l i) ∧ (endN l i < l.length → dep l (endN l i) ≤ dep l i) := by
  obtain ⟨a1, a2, a3, a4⟩ := endFrom_spec l (dep l i) l.length (i + 1) (by omega) (by omega)
  exact ⟨a1, a2, fun j h1 h2 => a3 j h1 h2, a4⟩
theorem endN_unique (l : List NodeI) {i e : Nat} (hi : i < l.length) (h1 : i < e) (h2 : e ≤ l.length) (h3 : ∀ j, i < j → j < e → dep l j > dep l i) (h4 : e < l.length → dep l e ≤ dep l i) : endN l i = e := by
  obtain ⟨a1, a2, a3, a4⟩ := endN_spec l hi
  rcases Nat.lt_trichotomy (endN l i) e with h | h | h
  · have := h3 _ a1 h
    have := a4 (by omega)
    omega
  · exact h
  · have := a3 e h1 h
    have := h4 (by omega)
    omega
theorem implEndOf_l (l : List NodeI) (hm : l.length ≤ 1048576) (i : Nat) (hi : i < l.length) (n : Nat) : ∀ e : Nat, e ≤ l.length → l.length ≤ e + n → Ev (fun k => impl_endOf.l0 k l i e) (endFrom l (dep l i) n e : Nat) := by
  induction n with
  | zero =>
    intro e h1 h2
    refine Ev.step (f := fun _ => some ((endFrom l (dep l i) 0 e : Nat) : Int)) (fun k => ?_) (Ev.now _)
    simp only [impl_endOf.l0, endFrom]
    rw [if_neg (by omega)]
  | succ n ih =>
    intro e h1 h2
    simp only [endFrom]
    by_cases c : e < l.length ∧ dep l e > dep l i
    · rw [if_pos c]
      refine Ev.step (f := fun k => impl_endOf.l0 k l i ((e + 1 : Nat) : Int)) (fun k => ?_) (ih (e + 1) (by omega) (by omega))
      simp only [impl_endOf.l0]
      rw [if_pos (by omega), if_pos (by omega), if_pos (by omega), if_pos (by omega), rd_dep, rd_dep, if_pos c.2, wrap_succ c.1 (by omega)]
    · rw [if_neg c]
      refine Ev.step (f := fun _ => some (e : Int)) (fun k => ?_) (Ev.now _)
      simp only [impl_endOf.l0]
      by_cases c1 : e < l.length
      · have c2 : ¬ dep l e > dep l i := fun z => c ⟨c1, z⟩
        rw [if_pos (by omega), if_pos (by omega), if_pos (by omega), if_pos (by omega), rd_dep, rd_dep, if_neg c2]
      · rw [if_neg (by omega)]
theorem implEndOf_ev (l : List NodeI) (hm : l.length ≤ 1048576) (i : Nat) (hi : i < l.length) : Ev (fun k => impl_endOf.f k l i) (endN l i : Nat) := by
  unfold impl_endOf.f
  rw [wrap_succ hi (by omega)]
  exact implEndOf_l l hm i hi l.length (i + 1) (by omega) (by omega)
theorem specEndOf_same (l : List NodeI) (a : Int) (k : Nat) : ∀ e : Int, spec_EndOf.l0 k l a e = impl_endOf.l0 k l a e := by
  induction k with
  | zero => intro e; simp only [spec_EndOf.l0, impl_endOf.l0]
  | succ k ih => intro e; simp only [spec_EndOf.l0, impl_endOf.l0, ih]
theorem specEndOf_ev (l : List NodeI) (t : Tr l) (i : Nat) (hi : i < l.length) : Ev (fun k => spec_EndOf.f k l i) (endN l i : Nat) := by
  have := t.len24
  unfold spec_EndOf.f
  refine Ev.bind (specAt_ev l (by omega) i) (Ev.ifT ((hasB_iff _ _).2 ⟨t, by omega, by omega⟩) ?_)
  simp only [specEndOf_same]
  exact implEndOf_ev l (by omega) i hi
end Go.Proofs.Ytmipigipfmcneaa.Q
namespace Go.Proofs.Ytmipigipfmcneaa.Q
open Go.RowKit Go.Proofs.YtmipigipfmcneaaW.PrintWords Go.Proofs.YtmipigipfmcneaaW.PrintLast Go.Proofs.YtmipigipfmcneaaW.PrintMore Go.Proofs.Ytmipigipfmcneaa.X Go.Proofs.Ytmipigipfmcneaa.Rd
set_option linter.unusedVariables false
set_option linter.unusedSimpArgs false
def kidsFrom (l : List NodeI) (i : Nat) : Nat → Nat → List Int
  | 0, _ => []
  | n + 1, k => if k < endN l i then (if dep l k = dep l i + 1 then (k : Int) :: kidsFrom l i n (k + 1) else kidsFrom l i n (k + 1)) else []
noncomputable def kidsOf (l : List NodeI) (a : Int) : List Int := if hasB l a = true then kidsFrom l a.toNat l.length (a.toNat + 1) else []
theorem kidsFrom_len (l : List NodeI) (i : Nat) (n : Nat) : ∀ k, (kidsFrom l i n k).length ≤ n := by
  induction n with
  | zero => intro k; simp [kidsFrom]
  | succ n ih =>
    intro k
    simp only [kidsFrom]
    have := ih (k + 1)
    split
    · split
      · simp only [List.length_cons]; omega
      · omega
    · simp
theorem kidsFrom_mem (l : List NodeI) (i : Nat) (n : Nat) : ∀ k, endN l i ≤ k + n → ∀ x : Int, x ∈ kidsFrom l i n k ↔ ∃ j : Nat, x = j ∧ k ≤ j ∧ j < endN l i ∧ dep l j = dep l i + 1 := by
  induction n with
  | zero => intro k hk x; simp only [kidsFrom, List.not_mem_nil, false_iff]; rintro ⟨j, _, h1, h2, _⟩; omega
  | succ n ih =>
    intro k hk x
    simp only [kidsFrom]
    have h := ih (k + 1) (by omega) x
    by_cases c : k < endN l i
    · rw [if_pos c]
      by_cases c2 : dep l k = dep l i + 1
      · rw [if_pos c2, List.mem_cons, h]
        constructor
        · rintro (e | ⟨j, e, h1, h2, h3⟩)
          · exact ⟨k, e, Nat.le_refl _, c, c2⟩
          · exact ⟨j, e, by omega, h2, h3⟩
        · rintro ⟨j, e, h1, h2, h3⟩
          by_cases q : j = k
          · subst q; exact .inl e
          · exact .inr ⟨j, e, by omega, h2, h3⟩
      · rw [if_neg c2, h]
        constructor
        · rintro ⟨j, e, h1, h2, h3⟩
          exact ⟨j, e, by omega, h2, h3⟩
        · rintro ⟨j, e, h1, h2, h3⟩
          by_cases q : j = k
          · subst q; exact absurd h3 c2
          · exact ⟨j, e, by omega, h2, h3⟩
    · rw [if_neg c]
      simp only [List.not_mem_nil, false_iff]
      rintro ⟨j, _, h1, h2, _⟩; omega
theorem wrapN {a : Nat} (h : a ≤ 1048576) : wrap64 ((a : Int) + 1) = ((a + 1 : Nat) : Int) := by rw [wrap_id (by omega) (by omega)]; omega
theorem specKids_l (l : List NodeI) (t : Tr l) (i : Nat) (hi : i < l.length) (n : Nat) : ∀ (k : Nat) (acc : List Int), acc.length + n ≤ 100000 → endN l i ≤ k + n → Ev (fun r => spec_KidsOf.l0 r l i acc k) (acc ++ kidsFrom l i n k) := by
  have h24 := t.len24
  have he := specEndOf_ev l t i hi
  have ha := specAt_ev l (by omega) (i : Int)
  have hb : hasB l i = true := (hasB_iff _ _).2 ⟨t, by omega, by omega⟩
  have hs := endN_spec l hi
  have hd := (t.chk i hi).d12
  have hd0 := (t.chk i hi).d0
  induction n with
  | zero =>
    intro k acc _ hk
    refine Ev.step (fun _ => rfl) ?_
    simp only [spec_KidsOf.l0, kidsFrom, List.append_nil]
    refine Ev.bind ha (Ev.ifT hb (Ev.bind he ?_))
    refine Ev.step (fun _ => rfl) ?_
    simp only [spec_KidsOf.j1]
    exact Ev.ifF (by simp; omega) (Ev.now _)
  | succ n ih =>
    intro k acc hl hk
    refine Ev.step (fun _ => rfl) ?_
    simp only [spec_KidsOf.l0, kidsFrom]
    refine Ev.bind ha (Ev.ifT hb (Ev.bind he ?_))
    refine Ev.step (fun _ => rfl) ?_
    simp only [spec_KidsOf.j1, rd_dep]
    by_cases c : k < endN l i
    · rw [if_pos c, wrapN (show k ≤ 1048576 by omega), wrap_id (x := dep l i + 1) (by omega) (by omega)]
      refine Ev.ifT (by simp; omega) (Ev.ifT (by omega) (Ev.ifT (by omega) (Ev.ifT (by omega) (Ev.ifT (by omega) ?_))))
      by_cases c2 : dep l k = dep l i + 1
      · rw [if_pos c2]
        refine Ev.ifT c2 (Ev.ifT (by omega) ?_)
        have := ih (k + 1) (acc ++ [(k : Int)]) (by simp; omega) (by omega)
        rw [List.append_assoc] at this
        exact this
      · rw [if_neg c2]
        exact Ev.ifF c2 (ih (k + 1) acc (by omega) (by omega))
    · rw [if_neg c, List.append_nil]
      exact Ev.ifF (by simp; omega) (Ev.now _)
theorem specKidsOf_ev (l : List NodeI) (hm : l.length ≤ 9223372036854775807) (a : Int) : Ev (fun r => spec_KidsOf.f r l a) (kidsOf l a) := by
  unfold spec_KidsOf.f
  by_cases h : hasB l a = true
  · obtain ⟨t, h0, h1⟩ := (hasB_iff l a).1 h
    obtain ⟨i, rfl⟩ := Int.eq_ofNat_of_zero_le h0
    have h24 := t.len24
    have hs := endN_spec l (i := i) (by omega)
    have := specKids_l l t i (by omega) l.length (i + 1) [] (by simp; omega) (by omega)
    rw [List.nil_append] at this
    rw [wrapN (show i ≤ 1048576 by omega)]
    unfold kidsOf
    rw [if_pos h, Int.toNat_natCast]
    exact this
  · unfold kidsOf
    rw [if_neg h]
    refine Ev.step (fun _ => rfl) ?_
    simp only [spec_KidsOf.l0]
    refine Ev.bind (specAt_ev l hm a) (Ev.ifF h ?_)
    refine Ev.step (fun _ => rfl) ?_
    simp only [spec_KidsOf.j1]
    exact Ev.ifF (by simp) (Ev.now _)
theorem kidsOf_none {l : List NodeI} {a : Int} (h : ¬ (Tr l ∧ 0 ≤ a ∧ a < l.length)) : kidsOf l a = [] := by
  unfold kidsOf
  rw [if_neg (by rw [hasB_false h]; simp)]
theorem kidsOf_mem {l : List NodeI} (t : Tr l) {i : Nat} (hi : i < l.length) (x : Int) : x ∈ kidsOf l i ↔ ∃ j : Nat, x = j ∧ i < j ∧ j < endN l i ∧ dep l j = dep l i + 1 := by
  have hb : hasB l i = true := (hasB_iff _ _).2 ⟨t, by omega, by omega⟩
  have hs := endN_spec l hi
  unfold kidsOf
  rw [if_pos hb, Int.toNat_natCast, kidsFrom_mem l i l.length (i + 1) (by omega)]
  exact Iff.rfl
theorem kidsOf_len (l : List NodeI) (a : Int) : (kidsOf l a).length ≤ 24 := by
  by_cases h : Tr l ∧ 0 ≤ a ∧ a < l.length
  · unfold kidsOf
    rw [if_pos ((hasB_iff _ _).2 h)]
    have := kidsFrom_len l a.toNat l.length (a.toNat + 1)
    have := h.1.len24
    omega
  · rw [kidsOf_none h]; simp
theorem has_nat {l : List NodeI} {x : Int} (h : hasB l x = true) : ∃ i : Nat, x = i ∧ i < l.length ∧ l.length ≤ 24 := by
  obtain ⟨t, h0, h1⟩ := (hasB_iff l x).1 h
  obtain ⟨i, rfl⟩ := Int.eq_ofNat_of_zero_le h0
  exact ⟨i, rfl, by omega, t.len24⟩
theorem implEnd_has (l : List NodeI) {x : Int} (h : hasB l x = true) : Ev (fun k => impl_endOf.f k l x) (endN l x.toNat : Nat) := by
  obtain ⟨i, rfl, h1, h2⟩ := has_nat h
  rw [Int.toNat_natCast]
  exact implEndOf_ev l (by omega) i h1
end Go.Proofs.Ytmipigipfmcneaa.Q
namespace Go.Proofs.Ytmipigipfmcneaa.Q
open Go.RowKit Go.Proofs.YtmipigipfmcneaaW.PrintWords Go.Proofs.YtmipigipfmcneaaW.PrintLast Go.Proofs.YtmipigipfmcneaaW.PrintMore Go.Proofs.Ytmipigipfmcneaa.X Go.Proofs.Ytmipigipfmcneaa.Rd
set_option linter.unusedVariables false
set_option linter.unusedSimpArgs false
theorem dep_nonneg {l : List NodeI} (t : Tr l) {j : Nat} (hj : j < l.length) : 0 ≤ dep l j := (t.chk j hj).d0
theorem dep_slope {l : List NodeI} (t : Tr l) (x : Nat) (d : Nat) : x + d < l.length → dep l (x + d) ≤ dep l x + d := by
  induction d with
  | zero => intro _; simp
  | succ d ih =>
    intro h
    have h1 := ih (by omega)
    have h2 := (t.chk (x + (d + 1)) h).step (by omega)
    rw [show x + (d + 1) - 1 = x + d by omega] at h2
    omega
theorem dep_slope' {l : List NodeI} (t : Tr l) {x y : Nat} (hxy : x ≤ y) (hy : y < l.length) : dep l y ≤ dep l x + ((y : Int) - x) := by
  have := dep_slope t x (y - x) (by omega)
  rw [show x + (y - x) = y by omega] at this
  omega
theorem dep_le {l : List NodeI} (t : Tr l) {j : Nat} (hj : j < l.length) : dep l j ≤ j := by
  have h := dep_slope' t (Nat.zero_le j) hj
  have r := (t.chk 0 (by omega)).root rfl
  omega
theorem end_nest {l : List NodeI} {i j : Nat} (hi : i < l.length) (h1 : i < j) (h2 : j < endN l i) : endN l j ≤ endN l i := by
  obtain ⟨a1, a2, a3, a4⟩ := endN_spec l hi
  obtain ⟨b1, b2, b3, b4⟩ := endN_spec l (i := j) (by omega)
  rcases Nat.lt_or_ge (endN l i) (endN l j) with h | h
  · have c1 := b3 (endN l i) (by omega) h
    have c2 := a4 (by omega)
    have c3 := a3 j h1 h2
    omega
  · exact h
def rk (l : List NodeI) (j : Nat) : Nat := endN l j - 1 - (dep l j).toNat
theorem rk_eq {l : List NodeI} (t : Tr l) {j : Nat} (hj : j < l.length) : (rk l j : Int) + dep l j + 1 = endN l j := by
  have h1 := dep_nonneg t hj
  have h2 := dep_le t hj
  have h3 := (endN_spec l hj).1
  unfold rk
  omega
theorem rk_lt {l : List NodeI} (t : Tr l) {j : Nat} (hj : j < l.length) : rk l j < l.length := by
  have h1 := rk_eq t hj
  have h2 := dep_nonneg t hj
  have h3 := (endN_spec l hj).2.1
  omega
theorem rk_under {l : List NodeI} (t : Tr l) {i j : Nat} (hi : i < l.length) (h1 : i < j) (h2 : j < endN l i) : rk l j < rk l i := by
  have a := endN_spec l hi
  have hj : j < l.length := by omega
  have h3 := rk_eq t hi
  have h4 := rk_eq t hj
  have h5 := end_nest hi h1 h2
  have h6 := a.2.2.1 j h1 h2
  omega
theorem rk_ahead {l : List NodeI} (t : Tr l) {i j : Nat} (hj : j < l.length) (hi : i < l.length) (h2 : endN l i ≤ j) : rk l i < rk l j := by
  have a := endN_spec l hi
  have b := endN_spec l hj
  have h3 := rk_eq t hi
  have h4 := rk_eq t hj
  have h5 := a.2.2.2 (by omega)
  have h6 := dep_slope' t h2 hj
  omega
theorem rk_inj {l : List NodeI} (t : Tr l) {i j : Nat} (hi : i < l.length) (hj : j < l.length) (h : rk l i = rk l j) : i = j := by
  rcases Nat.lt_trichotomy i j with c | c | c
  · rcases Nat.lt_or_ge j (endN l i) with d | d
    · have := rk_under t hi c d; omega
    · have := rk_ahead t hj hi d; omega
  · exact c
  · rcases Nat.lt_or_ge i (endN l j) with d | d
    · have := rk_under t hj c d; omega
    · have := rk_ahead t hi hj d; omega
theorem kidsFrom_filter (l : List NodeI) (i : Nat) (n : Nat) : ∀ k, endN l i ≤ k + n → kidsFrom l i n k = ((List.range' k (endN l i - k)).filter fun j => decide (dep l j = dep l i + 1)).map (fun j : Nat => (j : Int)) := by
  induction n with
  | zero => intro k hk; rw [show endN l i - k = 0 by omega]; rfl
  | succ n ih =>
    intro k hk
    simp only [kidsFrom]
    by_cases c : k < endN l i
    · rw [if_pos c, show endN l i - k = (endN l i - (k + 1)) + 1 by omega, List.range'_succ]
      by_cases c2 : dep l k = dep l i + 1
      · rw [if_pos c2, List.filter_cons_of_pos (by simpa using c2), List.map_cons, ih (k + 1) (by omega)]
      · rw [if_neg c2, List.filter_cons_of_neg (by simpa using c2), ih (k + 1) (by omega)]
    · rw [if_neg c, show endN l i - k = 0 by omega]; rfl
def kidsL (l : List NodeI) (i k : Nat) : List Int := ((List.range' k (endN l i - k)).filter fun j => decide (dep l j = dep l i + 1)).map (fun j : Nat => (j : Int))
theorem kidsOf_eq {l : List NodeI} (t : Tr l) {i : Nat} (hi : i < l.length) : kidsOf l i = kidsL l i (i + 1) := by
  have hb : hasB l i = true := (hasB_iff _ _).2 ⟨t, by omega, by omega⟩
  have hs := endN_spec l hi
  unfold kidsOf
  rw [if_pos hb, Int.toNat_natCast, kidsFrom_filter l i l.length (i + 1) (by omega)]
  rfl
theorem kidsL_end (l : List NodeI) (i k : Nat) (h : endN l i ≤ k) : kidsL l i k = [] := by
  unfold kidsL
  rw [show endN l i - k = 0 by omega]; rfl
theorem kidsL_next {l : List NodeI} {i k : Nat} (hi : i < l.length) (h1 : i < k) (h2 : k < endN l i) (h3 : dep l k = dep l i + 1) : kidsL l i k = (k : Int) :: kidsL l i (endN l k) := by
  have a := endN_spec l hi
  have b := endN_spec l (i := k) (by omega)
  have c := end_nest hi h1 h2
  unfold kidsL
  rw [show endN l i - k = 1 + ((endN l k - (k + 1)) + (endN l i - endN l k)) by omega, List.range'_append_1.symm, List.range'_append_1.symm, List.filter_append, List.filter_append, List.map_append, List.map_append]
  have e1 : (List.range' k 1).filter (fun j => decide (dep l j = dep l i + 1)) = [k] := by
    simp [List.range', h3]
  have e2 : (List.range' (k + 1) (endN l k - (k + 1))).filter (fun j => decide (dep l j = dep l i + 1)) = [] := by
    rw [List.filter_eq_nil_iff]
    intro x hx
    rw [List.mem_range'_1] at hx
    have := b.2.2.1 x (by omega) (by omega)
    simp only [decide_eq_true_eq]
    omega
  rw [e1, e2, show k + 1 + (endN l k - (k + 1)) = endN l k by omega]
  rfl
theorem kid_next {l : List NodeI} {i k : Nat} (hi : i < l.length) (h1 : i < k) (h2 : k < endN l i) (h3 : dep l k = dep l i + 1) : endN l k = endN l i ∨ endN l k < endN l i ∧ dep l (endN l k) = dep l i + 1 := by
  have a := endN_spec l hi
  have b := endN_spec l (i := k) (by omega)
  have c := end_nest hi h1 h2
  by_cases e : endN l k = endN l i
  · exact .inl e
  · have h4 := b.2.2.2 (by omega)
    have h5 := a.2.2.1 (endN l k) (by omega) (by omega)
    exact .inr ⟨by omega, by omega⟩
theorem kid_first {l : List NodeI} (t : Tr l) {i : Nat} (hi : i < l.length) : i + 1 = endN l i ∨ i + 1 < endN l i ∧ dep l (i + 1) = dep l i + 1 := by
  have a := endN_spec l hi
  by_cases e : i + 1 = endN l i
  · exact .inl e
  · have h4 := a.2.2.1 (i + 1) (by omega) (by omega)
    have h5 := (t.chk (i + 1) (by omega)).step (by omega)
    rw [Nat.add_sub_cancel] at h5
    exact .inr ⟨by omega, by omega⟩
def postN (l : List NodeI) : Nat → Nat → List Int
  | 0, i => [(i : Int)]
  | f + 1, i => (kidsL l i (i + 1)).flatMap (fun x => postN l f x.toNat) ++ [(i : Int)]
def IsP (l : List NodeI) (P : List Int) (lo hi : Nat) (a : Int) : Prop := P.length = hi - lo ∧ ∀ r, r < P.length → ∃ j : Nat, lo ≤ j ∧ j < hi ∧ P[r]? = some (j : Int) ∧ (rk l j : Int) = a + r
theorem IsP.append {l : List NodeI} {P Q : List Int} {lo mid hi : Nat} {a b : Int} (h : IsP l P lo mid a) (k : IsP l Q mid hi b) (h1 : lo ≤ mid) (h2 : mid ≤ hi) (hb : b = a + ((mid : Int) - lo)) : IsP l (P ++ Q) lo hi a := by
  obtain ⟨p1, p2⟩ := h
  obtain ⟨q1, q2⟩ := k
  refine ⟨by rw [List.length_append]; omega, fun r hr => ?_⟩
  rw [List.length_append] at hr
  by_cases c : r < P.length
  · obtain ⟨j, j1, j2, j3, j4⟩ := p2 r c
    exact ⟨j, j1, by omega, by rw [List.getElem?_append_left c]; exact j3, j4⟩
  · obtain ⟨j, j1, j2, j3, j4⟩ := q2 (r - P.length) (by omega)
    exact ⟨j, by omega, j2, by rw [List.getElem?_append_right (by omega)]; exact j3, by omega⟩
theorem IsP.none (l : List NodeI) (k : Nat) (a : Int) : IsP l [] k k a := ⟨by simp, fun r h => absurd h (by simp)⟩
theorem postN_isP {l : List NodeI} (t : Tr l) (f : Nat) : ∀ i, i < l.length → endN l i - i ≤ f + 1 → IsP l (postN l f i) i (endN l i) ((i : Int) - dep l i) := by
  induction f with
  | zero =>
    intro i hi hf
    have a := endN_spec l hi
    have e := rk_eq t hi
    refine ⟨by simp only [postN, List.length_singleton]; omega, fun r hr => ?_⟩
    simp only [postN, List.length_singleton] at hr
    obtain rfl : r = 0 := by omega
    exact ⟨i, Nat.le_refl _, a.1, rfl, by omega⟩
  | succ f ih =>
    intro i hi hf
    have a := endN_spec l hi
    have e := rk_eq t hi
    have kids : ∀ d k, endN l i - k ≤ d → i < k → k ≤ endN l i → (k = endN l i ∨ k < endN l i ∧ dep l k = dep l i + 1) → IsP l ((kidsL l i k).flatMap fun x => postN l f x.toNat) k (endN l i) ((k : Int) - (dep l i + 1)) := by
      intro d
      induction d with
      | zero =>
        intro k h1 h2 h3 h4
        obtain rfl : k = endN l i := by omega
        rw [kidsL_end l i _ (Nat.le_refl _)]
        exact IsP.none l _ _
      | succ d ihd =>
        intro k h1 h2 h3 h4
        by_cases c : k = endN l i
        · subst c
          rw [kidsL_end l i _ (Nat.le_refl _)]
          exact IsP.none l _ _
        · have h5 : dep l k = dep l i + 1 := by omega
          have b := endN_spec l (i := k) (by omega)
          have n1 := end_nest hi h2 (by omega)
          have n2 := kid_next hi h2 (by omega) h5
          rw [kidsL_next hi h2 (by omega) h5, List.flatMap_cons, Int.toNat_natCast]
          have q1 := ih k (by omega) (by omega)
          have q2 := ihd (endN l k) (by omega) (by omega) (by omega) n2
          rw [show (k : Int) - (dep l i + 1) = (k : Int) - dep l k by omega]
          exact q1.append q2 (by omega) (by omega) (by omega)
    have q := kids _ (i + 1) (Nat.le_refl _) (by omega) (by omega) (kid_first t hi)
    simp only [postN]
    obtain ⟨q1, q2⟩ := q
    refine ⟨by rw [List.length_append, List.length_singleton]; omega, fun r hr => ?_⟩
    rw [List.length_append, List.length_singleton] at hr
    by_cases c : r < ((kidsL l i (i + 1)).flatMap fun x => postN l f x.toNat).length
    · obtain ⟨j, j1, j2, j3, j4⟩ := q2 r c
      exact ⟨j, by omega, j2, by rw [List.getElem?_append_left c]; exact j3, by omega⟩
    · refine ⟨i, Nat.le_refl _, a.1, ?_, by omega⟩
      rw [List.getElem?_append_right (by omega), show r - ((kidsL l i (i + 1)).flatMap fun x => postN l f x.toNat).length = 0 by omega]
      rfl
theorem end_root {l : List NodeI} (t : Tr l) : endN l 0 = l.length := by
  have h1 := t.len1
  have r := (t.chk 0 (by omega)).root rfl
  refine endN_unique l (by omega) (by omega) (Nat.le_refl _) (fun j h2 h3 => ?_) (fun h => absurd h (Nat.lt_irrefl _))
  have := (t.chk j h3).pos h2
  omega
def pst (l : List NodeI) : List Int := postN l 24 0
theorem pst_isP {l : List NodeI} (t : Tr l) : IsP l (pst l) 0 l.length 0 := by
  have h1 := t.len1
  have h2 := t.len24
  have e := end_root t
  have r := (t.chk 0 (by omega)).root rfl
  have h := postN_isP t 24 0 (by omega) (by omega)
  rw [e, r] at h
  exact h
theorem pst_len {l : List NodeI} (t : Tr l) : (pst l).length = l.length := by
  have := (pst_isP t).1
  omega
theorem pst_at {l : List NodeI} (t : Tr l) {r : Nat} (hr : r < l.length) : ∃ j : Nat, j < l.length ∧ (pst l)[r]? = some (j : Int) ∧ rk l j = r := by
  obtain ⟨j, _, h2, h3, h4⟩ := (pst_isP t).2 r (by rw [pst_len t]; exact hr)
  exact ⟨j, h2, h3, by omega⟩
theorem pst_rk {l : List NodeI} (t : Tr l) {j : Nat} (hj : j < l.length) : (pst l)[rk l j]? = some (j : Int) := by
  obtain ⟨i, h2, h3, h4⟩ := pst_at t (rk_lt t hj)
  obtain rfl := rk_inj t hj h2 h4.symm
  exact h3
theorem pst_nodup {l : List NodeI} (t : Tr l) : (pst l).Nodup := by
  refine List.pairwise_iff_getElem.2 fun i j hi hj hij e => ?_
  have e' : (pst l)[i]? = (pst l)[j]? := by rw [List.getElem?_eq_getElem hi, List.getElem?_eq_getElem hj, e]
  rw [pst_len t] at hi hj
  obtain ⟨x, x1, x2, x3⟩ := pst_at t hi
  obtain ⟨y, y1, y2, y3⟩ := pst_at t hj
  rw [x2, y2] at e'
  have : x = y := by have := Option.some.inj e'; omega
  subst this
  omega
theorem pst_mem {l : List NodeI} (t : Tr l) (x : Int) : x ∈ pst l ↔ ∃ j : Nat, x = j ∧ j < l.length := by
  rw [List.mem_iff_getElem?]
  constructor
  · rintro ⟨r, hr⟩
    have h : r < l.length := by
      have := (List.getElem?_eq_some_iff.1 hr).1
      rw [pst_len t] at this; exact this
    obtain ⟨j, j1, j2, _⟩ := pst_at t h
    rw [j2] at hr
    exact ⟨j, (Option.some.inj hr).symm, j1⟩
  · rintro ⟨j, rfl, hj⟩
    exact ⟨_, pst_rk t hj⟩
theorem pst_perm {l : List NodeI} (t : Tr l) : (pst l).Perm ((List.range l.length).map fun j : Nat => (j : Int)) := by
  refine (List.perm_ext_iff_of_nodup (pst_nodup t) ?_).2 (fun x => ?_)
  · refine List.Pairwise.map _ (fun a b h => ?_) List.nodup_range
    intro e; exact h (by omega)
  · rw [pst_mem t, List.mem_map]
    constructor
    · rintro ⟨j, rfl, h⟩; exact ⟨j, List.mem_range.2 h, rfl⟩
    · rintro ⟨j, h, rfl⟩; exact ⟨j, rfl, List.mem_range.1 h⟩
theorem specPost_l (l : List NodeI) (i : Int) (kids : List Int) (g : Int → List Int) (hk : ∀ x ∈ kids, Ev (fun r => spec_l6Post.f r l x) (g x)) (hlen : kids.length ≤ 1048576) (d : Nat) : ∀ (j : Nat) (acc : List Int), j + d = kids.length → (acc ++ (kids.drop j).flatMap g).length ≤ 1048576 →
    Ev (fun r => spec_l6Post.l0 r l i acc kids j) (acc ++ (kids.drop j).flatMap g ++ [i]) := by
  induction d with
  | zero =>
    intro j acc hj hl
    refine Ev.step (fun _ => rfl) ?_
    simp only [spec_l6Post.l0]
    rw [List.drop_of_length_le (by omega)] at hl ⊢
    simp only [List.flatMap_nil, List.append_nil] at hl ⊢
    exact Ev.ifF (by omega) (Ev.ifT (by omega) (Ev.now _))
  | succ d ih =>
    intro j acc hj hl
    have hlt : j < kids.length := by omega
    refine Ev.step (fun _ => rfl) ?_
    simp only [spec_l6Post.l0]
    rw [List.drop_eq_getElem_cons hlt, List.flatMap_cons, ← List.append_assoc] at hl ⊢
    have hx := hk kids[j] (List.getElem_mem hlt)
    refine Ev.ifT (by omega) (Ev.ifT (by omega) ?_)
    simp only [rd, getD_nat kids j _ hlt]
    have h := ih (j + 1) (acc ++ g kids[j]) (by omega) hl
    simp only [List.length_append] at hl
    rw [wrap_succ hlt (by omega)]
    exact Ev.bind hx (Ev.ifT (by omega) h)
theorem spec_l6Post_ev {l : List NodeI} (t : Tr l) (f : Nat) : ∀ i, i < l.length → endN l i - i ≤ f + 1 → Ev (fun r => spec_l6Post.f r l i) (postN l f i) := by
  have h24 := t.len24
  induction f with
  | zero =>
    intro i hi hf
    have a := endN_spec l hi
    have k := specKidsOf_ev l (by omega) i
    rw [kidsOf_eq t hi, kidsL_end l i _ (by omega)] at k
    refine Ev.step (fun _ => rfl) ?_
    simp only [spec_l6Post.f]
    refine Ev.bind k ?_
    exact specPost_l l i [] (fun _ => []) (fun x h => absurd h (List.not_mem_nil)) (by simp) 0 0 [] rfl (by simp)
  | succ f ih =>
    intro i hi hf
    have a := endN_spec l hi
    have k := specKidsOf_ev l (by omega) i
    have hm := kidsOf_mem t hi
    have hl := kidsOf_len l i
    rw [kidsOf_eq t hi] at k hm hl
    have hP := (postN_isP t (f + 1) i hi (by omega)).1
    simp only [postN, List.length_append, List.length_singleton] at hP
    refine Ev.step (fun _ => rfl) ?_
    simp only [spec_l6Post.f, postN]
    refine Ev.bind k ?_
    have := specPost_l l i (kidsL l i (i + 1)) (fun x => postN l f x.toNat) (fun x hx => by
      obtain ⟨j, rfl, j1, j2, j3⟩ := (hm x).1 hx
      have n := end_nest hi j1 j2
      rw [Int.toNat_natCast]
      exact ih j (by omega) (by omega)) (by omega) _ 0 [] (Nat.zero_add _) (by simp only [List.drop_zero, List.nil_append]; omega)
    rw [List.drop_zero, List.nil_append] at this
    exact this
theorem specPost_ev (l : List NodeI) (hm : l.length ≤ 9223372036854775807) : Ev (fun r => spec_PostOrder.f r l) (if trB l = true then pst l else []) := by
  unfold spec_PostOrder.f
  refine Ev.bind (specTreeOk_ev l hm) ?_
  by_cases h : Tr l
  · have h1 := h.len1
    have h2 := h.len24
    rw [if_pos (trB_true h)]
    exact Ev.ifT (trB_true h) (Ev.bind (spec_l6Post_ev h 24 0 (by omega) (by have := (endN_spec l (i := 0) (by omega)).2.1; omega)) (Ev.now _))
  · rw [if_neg (by rw [trB_false l h]; simp)]
    exact Ev.ifF (by rw [trB_false l h]; simp) (Ev.now _)
end Go.Proofs.Ytmipigipfmcneaa.Q
namespace Go.Proofs.Ytmipigipfmcneaa.Q
open Go.RowKit Go.Proofs.YtmipigipfmcneaaW.PrintWords Go.Proofs.YtmipigipfmcneaaW.PrintLast Go.Proofs.YtmipigipfmcneaaW.PrintMore Go.Proofs.Ytmipigipfmcneaa.X Go.Proofs.Ytmipigipfmcneaa.Rd
set_option linter.unusedVariables false
set_option linter.unusedSimpArgs false
def idxFrom (x : Int) : List Int → Nat → Int
  | [], _ => -1
  | y :: ys, i => if x = y then i else idxFrom x ys (i + 1)
theorem idxFrom_neg (x : Int) (l : List Int) : ∀ i, idxFrom x l i = -1 ↔ x ∉ l := by
  induction l with
  | nil => intro i; simp [idxFrom]
  | cons y l ih =>
    intro i
    simp only [idxFrom, List.mem_cons, not_or]
    by_cases c : x = y
    · rw [if_pos c]
      constructor
      · intro h; omega
      · intro h; exact absurd c h.1
    · rw [if_neg c, ih]
      exact ⟨fun h => ⟨c, h⟩, fun h => h.2⟩
theorem idxFrom_ge (x : Int) (l : List Int) : ∀ i, idxFrom x l i = -1 ∨ 0 ≤ idxFrom x l i := by
  induction l with
  | nil => intro i; exact .inl rfl
  | cons y l ih =>
    intro i
    simp only [idxFrom]
    split
    · exact .inr (by omega)
    · exact ih _
theorem implIndex_l (l : List Int) (hl : l.length ≤ 1048576) (x : Int) (d : Nat) : ∀ j : Nat, j + d = l.length → Ev (fun r => slices_Index_int_int.l0 r l x l.length j) (idxFrom x (l.drop j) j) := by
  induction d with
  | zero =>
    intro j hj
    rw [List.drop_of_length_le (by omega)]
    refine Ev.step (fun _ => rfl) ?_
    simp only [slices_Index_int_int.l0]
    exact Ev.ifF (by omega) (Ev.now _)
  | succ d ih =>
    intro j hj
    have hlt : j < l.length := by omega
    rw [List.drop_eq_getElem_cons hlt]
    refine Ev.step (fun _ => rfl) ?_
    simp only [slices_Index_int_int.l0, rd, getD_nat l j _ hlt, idxFrom]
    rw [wrapN (show j ≤ 1048576 by omega)]
    refine Ev.ifT (by omega) (Ev.ifT (by omega) (Ev.ifT (by omega) ?_))
    by_cases c : x = l[j]
    · rw [if_pos c]; exact Ev.ifT c (Ev.now _)
    · rw [if_neg c]; exact Ev.ifF c (ih (j + 1) (by omega))
theorem implIndex_ev (l : List Int) (hl : l.length ≤ 1048576) (x : Int) : Ev (fun r => slices_Index_int_int.f r l x) (idxFrom x l 0) :=
  Ev.congr (fun _ => rfl) (implIndex_l l hl x l.length 0 (by omega))
end Go.Proofs.Ytmipigipfmcneaa.Q
namespace Go.Proofs.Ytmipigipfmcneaa.Q
open Go.RowKit Go.Proofs.YtmipigipfmcneaaW.PrintWords Go.Proofs.YtmipigipfmcneaaW.PrintLast Go.Proofs.YtmipigipfmcneaaW.PrintMore Go.Proofs.Ytmipigipfmcneaa.X Go.Proofs.Ytmipigipfmcneaa.Rd
set_option linter.unusedVariables false
set_option linter.unusedSimpArgs false
abbrev PairL := S84
abbrev PairI := S81
def toPair (x : PairL) : PairI := ⟨x.f0, x.f1⟩
theorem szPairS_eq (l : List PairL) (a : Int) (ha : 0 ≤ a) (ha' : a ≤ 1048576) (hl : l.length ≤ 9223372036854775807) :
    laws_szPairS.f l a = some (if a < l.length then -1 else a - l.length) := by
  unfold laws_szPairS.f
  rw [wrap_id (by omega) (by omega)]
  by_cases h : a < l.length
  · rw [if_pos (by omega), if_pos h]
  · rw [if_neg (by omega), if_neg h]
theorem toPairS_l (l : List PairL) (hl : l.length ≤ 1048576) (d : Nat) : ∀ (i : Nat) (acc : List PairI), i + d = l.length → acc.length = l.length → acc.take i = (l.take i).map toPair →
    Ev (fun k => laws_toPairS.l0 k l acc i) (l.map toPair) := by
  induction d with
  | zero =>
    intro i acc hi ha ht
    have : acc = l.map toPair := by
      rw [List.take_of_length_le (by omega), List.take_of_length_le (by omega)] at ht
      exact ht
    subst this
    refine Ev.step (f := fun _ => some (l.map toPair)) (fun k => ?_) (Ev.now _)
    simp only [laws_toPairS.l0]
    rw [if_neg (by omega)]
  | succ d ih =>
    intro i acc hi ha ht
    have hlt : i < l.length := by omega
    refine Ev.step (f := fun k => laws_toPairS.l0 k l (acc.set i (toPair l[i])) ((i + 1 : Nat) : Int)) (fun k => ?_) (ih (i + 1) (acc.set i (toPair l[i])) (by omega) (by simpa using ha) ?_)
    · simp only [laws_toPairS.l0]
      rw [if_pos (by omega), if_pos (by omega)]
      simp only [laws_toPair.f, Option.bind_some]
      rw [if_pos (by omega), wrap_succ hlt (by omega)]
      simp only [rd_T84, Int.toNat_natCast, getD_lt l _ hlt]
      rfl
    · rw [take_succ_map toPair l i hlt, take_succ_append _ i (by simp; omega), List.getElem_set_self, List.take_set_of_le (Nat.le_refl i), ht]
theorem toPairS_ev (l : List PairL) (hl : l.length ≤ 1048576) : Ev (fun k => laws_toPairS.f k l) (l.map toPair) := by
  have h := toPairS_l l hl l.length 0 (List.replicate l.length z81) (by omega) (by simp) (by simp)
  refine Ev.congr (fun k => ?_) h
  unfold laws_toPairS.f
  rw [if_pos (by omega), if_pos (by omega), Int.toNat_natCast]
  rfl
theorem eqPairS_l (l : List PairI) (hl : l.length ≤ 9223372036854775807) (d : Nat) : ∀ (i : Nat), i + d = l.length → Ev (fun k => laws_eqPairS.l0 k l l i) true := by
  induction d with
  | zero =>
    intro i hi
    refine Ev.step (f := fun _ => some true) (fun k => ?_) (Ev.now _)
    simp only [laws_eqPairS.l0]
    rw [if_neg (by omega)]
  | succ d ih =>
    intro i hi
    have hlt : i < l.length := by omega
    refine Ev.step (f := fun k => laws_eqPairS.l0 k l l ((i + 1 : Nat) : Int)) (fun k => ?_) (ih (i + 1) (by omega))
    simp only [laws_eqPairS.l0]
    rw [if_pos (by omega), if_pos (by omega), if_pos (by omega)]
    simp only [laws_eqPair.f, if_true, Option.bind_some]
    rw [wrap_succ hlt hl]
theorem eqPairS_ev (l : List PairI) (hl : l.length ≤ 9223372036854775807) : Ev (fun k => laws_eqPairS.f k l l) true := by
  refine Ev.congr (fun k => ?_) (eqPairS_l l hl l.length 0 (by omega))
  unfold laws_eqPairS.f
  rw [if_pos rfl]; rfl
def heldPair (m : Int) (l : List PairI) : Prop := ∀ j, (h : j < l.length) → l[j] = ⟨m + 2 * j, m + 2 * j + 1⟩
theorem markPairS_l (m : Int) (n : Nat) (hm0 : 0 ≤ m) (hm : m + 2 * n ≤ 4611686018427387904) (d : Nat) : ∀ (i : Nat) (l : List PairI), l.length = n → i + d = n → (∀ j, (h : j < l.length) → j < i → l[j] = ⟨m + 2 * j, m + 2 * j + 1⟩) →
    ∃ r, r.length = n ∧ heldPair m r ∧ Ev (fun k => laws_markPairS.l0 k l (m + 2 * i) i) (m + 2 * n, r) := by
  induction d with
  | zero =>
    intro i l hl hi hh
    refine ⟨l, hl, fun j h => hh j h (by omega), Ev.step (f := fun _ => some (m + 2 * n, l)) (fun k => ?_) (Ev.now _)⟩
    simp only [laws_markPairS.l0]
    rw [if_neg (by omega), show i = n by omega]
  | succ d ih =>
    intro i l hl hi hh
    have hlt : i < l.length := by omega
    obtain ⟨r, hr, hh', he⟩ := ih (i + 1) (l.set i ⟨m + 2 * i, m + 2 * i + 1⟩) (by simpa using hl) (by omega) (fun j hj hji => by
      rw [List.getElem_set]
      split
      · next e => subst e; rfl
      · exact hh j (by simpa using hj) (by omega))
    refine ⟨r, hr, hh', Ev.step (f := fun k => laws_markPairS.l0 k (l.set i ⟨m + 2 * i, m + 2 * i + 1⟩) (m + 2 * ((i + 1 : Nat) : Int)) ((i + 1 : Nat) : Int)) (fun k => ?_) he⟩
    simp only [laws_markPairS.l0]
    rw [if_pos (by omega), if_pos (by omega), Option.bind_some, wrap_succ hlt (by omega), wrap_id (x := m + 2 * (i : Int) + 1) (by omega) (by omega), wrap_id (by omega) (by omega)]
    simp only [rd_T81, Int.toNat_natCast, List.set_set, List.getD_eq_getElem?_getD, List.getElem?_set_self hlt, Option.getD_some]
    congr 1
    omega
theorem heldPairS_l (m : Int) (r : List PairI) (hm0 : 0 ≤ m) (hm : m + 2 * r.length ≤ 4611686018427387904) (hr : heldPair m r) (d : Nat) : ∀ (i : Nat), i + d = r.length → Ev (fun k => laws_heldPairS.l0 k r (m + 2 * i) i) (m + 2 * r.length) := by
  induction d with
  | zero =>
    intro i hi
    refine Ev.step (f := fun _ => some (m + 2 * r.length)) (fun k => ?_) (Ev.now _)
    simp only [laws_heldPairS.l0]
    rw [if_neg (by omega), show i = r.length by omega]
  | succ d ih =>
    intro i hi
    have hlt : i < r.length := by omega
    refine Ev.step (f := fun k => laws_heldPairS.l0 k r (m + 2 * ((i + 1 : Nat) : Int)) ((i + 1 : Nat) : Int)) (fun k => ?_) (ih (i + 1) (by omega))
    have e := hr i hlt
    simp only [laws_heldPairS.l0]
    rw [if_pos (by omega), if_pos (by omega)]
    simp only [rd_T81, getD_nat r i _ hlt, e, if_true]
    rw [wrap_id (x := m + 2 * (i : Int) + 1) (by omega) (by omega), if_pos rfl, wrap_id (by omega) (by omega), wrap_succ hlt (by omega)]
    congr 1
    omega
theorem markPairS_ev (m : Int) (l : List PairI) (hm0 : 0 ≤ m) (hm : m + 2 * l.length ≤ 4611686018427387904) :
    ∃ r, r.length = l.length ∧ Ev (fun k => laws_markPairS.f k l m) (m + 2 * l.length, r) ∧ Ev (fun k => laws_heldPairS.f k r m) (m + 2 * l.length) := by
  obtain ⟨r, hr, hh, he⟩ := markPairS_l m l.length hm0 hm l.length 0 l rfl (by omega) (fun j _ h => absurd h (Nat.not_lt_zero _))
  refine ⟨r, hr, Ev.congr (fun k => ?_) he, ?_⟩
  · unfold laws_markPairS.f
    simp
  · have h2 := heldPairS_l m r hm0 (by omega) hh r.length 0 (by omega)
    rw [hr] at h2
    refine Ev.congr (fun k => ?_) h2
    unfold laws_heldPairS.f
    simp
end Go.Proofs.Ytmipigipfmcneaa.Q
namespace Go.Proofs.Ytmipigipfmcneaa.Q
open Go.RowKit Go.Proofs.YtmipigipfmcneaaW.PrintWords Go.Proofs.YtmipigipfmcneaaW.PrintLast Go.Proofs.YtmipigipfmcneaaW.PrintMore Go.Proofs.Ytmipigipfmcneaa.X Go.Proofs.Ytmipigipfmcneaa.Rd
set_option linter.unusedVariables false
set_option linter.unusedSimpArgs false
abbrev NodeL := S77
def toNode (x : NodeL) : NodeI := ⟨x.f0, x.f1⟩
theorem szNodeS_eq (l : List NodeL) (a : Int) (ha : 0 ≤ a) (ha' : a ≤ 1048576) (hl : l.length ≤ 9223372036854775807) :
    laws_szNodeS.f l a = some (if a < l.length then -1 else a - l.length) := by
  unfold laws_szNodeS.f
  rw [wrap_id (by omega) (by omega)]
  by_cases h : a < l.length
  · rw [if_pos (by omega), if_pos h]
  · rw [if_neg (by omega), if_neg h]
theorem toNodeS_l (l : List NodeL) (hl : l.length ≤ 1048576) (d : Nat) : ∀ (i : Nat) (acc : List NodeI), i + d = l.length → acc.length = l.length → acc.take i = (l.take i).map toNode →
    Ev (fun k => laws_toNodeS.l0 k l acc i) (l.map toNode) := by
  induction d with
  | zero =>
    intro i acc hi ha ht
    have : acc = l.map toNode := by
      rw [List.take_of_length_le (by omega), List.take_of_length_le (by omega)] at ht
      exact ht
    subst this
    refine Ev.step (f := fun _ => some (l.map toNode)) (fun k => ?_) (Ev.now _)
    simp only [laws_toNodeS.l0]
    rw [if_neg (by omega)]
  | succ d ih =>
    intro i acc hi ha ht
    have hlt : i < l.length := by omega
    refine Ev.step (f := fun k => laws_toNodeS.l0 k l (acc.set i (toNode l[i])) ((i + 1 : Nat) : Int)) (fun k => ?_) (ih (i + 1) (acc.set i (toNode l[i])) (by omega) (by simpa using ha) ?_)
    · simp only [laws_toNodeS.l0]
      rw [if_pos (by omega), if_pos (by omega)]
      simp only [laws_toNode.f, Option.bind_some]
      rw [if_pos (by omega), wrap_succ hlt (by omega)]
      simp only [rd_T77, Int.toNat_natCast, getD_lt l _ hlt]
      rfl
    · rw [take_succ_map toNode l i hlt, take_succ_append _ i (by simp; omega), List.getElem_set_self, List.take_set_of_le (Nat.le_refl i), ht]
theorem toNodeS_ev (l : List NodeL) (hl : l.length ≤ 1048576) : Ev (fun k => laws_toNodeS.f k l) (l.map toNode) := by
  have h := toNodeS_l l hl l.length 0 (List.replicate l.length z75) (by omega) (by simp) (by simp)
  refine Ev.congr (fun k => ?_) h
  unfold laws_toNodeS.f
  rw [if_pos (by omega), if_pos (by omega), Int.toNat_natCast]
  rfl
theorem eqNodeS_l (l : List NodeI) (hl : l.length ≤ 9223372036854775807) (d : Nat) : ∀ (i : Nat), i + d = l.length → Ev (fun k => laws_eqNodeS.l0 k l l i) true := by
  induction d with
  | zero =>
    intro i hi
    refine Ev.step (f := fun _ => some true) (fun k => ?_) (Ev.now _)
    simp only [laws_eqNodeS.l0]
    rw [if_neg (by omega)]
  | succ d ih =>
    intro i hi
    have hlt : i < l.length := by omega
    refine Ev.step (f := fun k => laws_eqNodeS.l0 k l l ((i + 1 : Nat) : Int)) (fun k => ?_) (ih (i + 1) (by omega))
    simp only [laws_eqNodeS.l0]
    rw [if_pos (by omega), if_pos (by omega), if_pos (by omega)]
    simp only [laws_eqNode.f, if_true, Option.bind_some]
    rw [wrap_succ hlt hl]
theorem eqNodeS_ev (l : List NodeI) (hl : l.length ≤ 9223372036854775807) : Ev (fun k => laws_eqNodeS.f k l l) true := by
  refine Ev.congr (fun k => ?_) (eqNodeS_l l hl l.length 0 (by omega))
  unfold laws_eqNodeS.f
  rw [if_pos rfl]; rfl
def heldNode (m : Int) (l : List NodeI) : Prop := ∀ j, (h : j < l.length) → l[j] = ⟨m + 2 * j, m + 2 * j + 1⟩
theorem markNodeS_l (m : Int) (n : Nat) (hm0 : 0 ≤ m) (hm : m + 2 * n ≤ 4611686018427387904) (d : Nat) : ∀ (i : Nat) (l : List NodeI), l.length = n → i + d = n → (∀ j, (h : j < l.length) → j < i → l[j] = ⟨m + 2 * j, m + 2 * j + 1⟩) →
    ∃ r, r.length = n ∧ heldNode m r ∧ Ev (fun k => laws_markNodeS.l0 k l (m + 2 * i) i) (m + 2 * n, r) := by
  induction d with
  | zero =>
    intro i l hl hi hh
    refine ⟨l, hl, fun j h => hh j h (by omega), Ev.step (f := fun _ => some (m + 2 * n, l)) (fun k => ?_) (Ev.now _)⟩
    simp only [laws_markNodeS.l0]
    rw [if_neg (by omega), show i = n by omega]
  | succ d ih =>
    intro i l hl hi hh
    have hlt : i < l.length := by omega
    obtain ⟨r, hr, hh', he⟩ := ih (i + 1) (l.set i ⟨m + 2 * i, m + 2 * i + 1⟩) (by simpa using hl) (by omega) (fun j hj hji => by
      rw [List.getElem_set]
      split
      · next e => subst e; rfl
      · exact hh j (by simpa using hj) (by omega))
    refine ⟨r, hr, hh', Ev.step (f := fun k => laws_markNodeS.l0 k (l.set i ⟨m + 2 * i, m + 2 * i + 1⟩) (m + 2 * ((i + 1 : Nat) : Int)) ((i + 1 : Nat) : Int)) (fun k => ?_) he⟩
    simp only [laws_markNodeS.l0]
    rw [if_pos (by omega), if_pos (by omega), Option.bind_some, wrap_succ hlt (by omega), wrap_id (x := m + 2 * (i : Int) + 1) (by omega) (by omega), wrap_id (by omega) (by omega)]
    simp only [rd_T75, Int.toNat_natCast, List.set_set, List.getD_eq_getElem?_getD, List.getElem?_set_self hlt, Option.getD_some]
    congr 1
    omega
theorem heldNodeS_l (m : Int) (r : List NodeI) (hm0 : 0 ≤ m) (hm : m + 2 * r.length ≤ 4611686018427387904) (hr : heldNode m r) (d : Nat) : ∀ (i : Nat), i + d = r.length → Ev (fun k => laws_heldNodeS.l0 k r (m + 2 * i) i) (m + 2 * r.length) := by
  induction d with
  | zero =>
    intro i hi
    refine Ev.step (f := fun _ => some (m + 2 * r.length)) (fun k => ?_) (Ev.now _)
    simp only [laws_heldNodeS.l0]
    rw [if_neg (by omega), show i = r.length by omega]
  | succ d ih =>
    intro i hi
    have hlt : i < r.length := by omega
    refine Ev.step (f := fun k => laws_heldNodeS.l0 k r (m + 2 * ((i + 1 : Nat) : Int)) ((i + 1 : Nat) : Int)) (fun k => ?_) (ih (i + 1) (by omega))
    have e := hr i hlt
    simp only [laws_heldNodeS.l0]
    rw [if_pos (by omega), if_pos (by omega)]
    simp only [rd_T75, getD_nat r i _ hlt, e, if_true]
    rw [wrap_id (x := m + 2 * (i : Int) + 1) (by omega) (by omega), if_pos rfl, wrap_id (by omega) (by omega), wrap_succ hlt (by omega)]
    congr 1
    omega
theorem markNodeS_ev (m : Int) (l : List NodeI) (hm0 : 0 ≤ m) (hm : m + 2 * l.length ≤ 4611686018427387904) :
    ∃ r, r.length = l.length ∧ Ev (fun k => laws_markNodeS.f k l m) (m + 2 * l.length, r) ∧ Ev (fun k => laws_heldNodeS.f k r m) (m + 2 * l.length) := by
  obtain ⟨r, hr, hh, he⟩ := markNodeS_l m l.length hm0 hm l.length 0 l rfl (by omega) (fun j _ h => absurd h (Nat.not_lt_zero _))
  refine ⟨r, hr, Ev.congr (fun k => ?_) he, ?_⟩
  · unfold laws_markNodeS.f
    simp
  · have h2 := heldNodeS_l m r hm0 (by omega) hh r.length 0 (by omega)
    rw [hr] at h2
    refine Ev.congr (fun k => ?_) h2
    unfold laws_heldNodeS.f
    simp
end Go.Proofs.Ytmipigipfmcneaa.Q
namespace Go.Proofs.Ytmipigipfmcneaa.Q
open Go.RowKit Go.Proofs.YtmipigipfmcneaaW.PrintWords Go.Proofs.YtmipigipfmcneaaW.PrintLast Go.Proofs.YtmipigipfmcneaaW.PrintMore Go.Proofs.Ytmipigipfmcneaa.X Go.Proofs.Ytmipigipfmcneaa.Rd
set_option linter.unusedVariables false
set_option linter.unusedSimpArgs false
theorem specIsA_l (l : List PairI) (hl : l.length ≤ 9223372036854775807) (x : Int) (d : Nat) : ∀ i : Nat, i + d = l.length → Ev (fun r => spec_l10IsA.l0 r l x i) ((l.drop i).any fun p => p.f0 == x) := by
  induction d with
  | zero =>
    intro i hi
    refine Ev.step (fun _ => rfl) ?_
    simp only [spec_l10IsA.l0]
    rw [List.drop_of_length_le (by omega)]
    exact Ev.ifF (by omega) (Ev.now _)
  | succ d ih =>
    intro i hi
    have hlt : i < l.length := by omega
    refine Ev.step (fun _ => rfl) ?_
    simp only [spec_l10IsA.l0]
    refine Ev.ifT (by omega) (Ev.ifT (by omega) ?_)
    simp only [rd_T81, getD_nat l i _ hlt]
    rw [List.drop_eq_getElem_cons hlt, List.any_cons, wrap_succ hlt hl]
    by_cases c : l[i].f0 = x
    · rw [beq_iff_eq.mpr c, Bool.true_or]
      exact Ev.ifT c (Ev.now _)
    · rw [beq_eq_false_iff_ne.mpr c, Bool.false_or]
      exact Ev.ifF c (ih (i + 1) (by omega))
theorem specIsA_ev (l : List PairI) (hl : l.length ≤ 9223372036854775807) (x : Int) : Ev (fun r => spec_l10IsA.f r l x) (l.any fun p => p.f0 == x) :=
  specIsA_l l hl x l.length 0 (by omega)
theorem implUnmapped_eq (l : List NodeI) (m : List PairI) (hl : l.length ≤ 1048576) : impl_Unmapped.f l m = some (unm m l.length) := if_pos hl
end Go.Proofs.Ytmipigipfmcneaa.Q
namespace Go.Proofs.Ytmipigipfmcneaa.Q
open Go.RowKit Go.Proofs.YtmipigipfmcneaaW.PrintWords Go.Proofs.YtmipigipfmcneaaW.PrintLast Go.Proofs.YtmipigipfmcneaaW.PrintMore Go.Proofs.Ytmipigipfmcneaa.X Go.Proofs.Ytmipigipfmcneaa.Rd
set_option linter.unusedVariables false
set_option linter.unusedSimpArgs false
noncomputable def undB (l : List NodeI) (a b : Int) : Bool := hasB l a && hasB l b && decide (a < b ∧ b < endN l a.toNat)
theorem undB_nat {l : List NodeI} (t : Tr l) {i j : Nat} (hi : i < l.length) (hj : j < l.length) : undB l i j = decide (i < j ∧ j < endN l i) := by
  unfold undB
  rw [(hasB_iff l i).2 ⟨t, by omega, by omega⟩, (hasB_iff l j).2 ⟨t, by omega, by omega⟩, Int.toNat_natCast, Bool.true_and, Bool.true_and]
  exact decide_eq_decide.2 (by omega)
theorem implUnder_ev (l : List NodeI) (a b : Int) : Ev (fun k => impl_Under.f k l a b) (undB l a b) := by
  unfold impl_Under.f undB
  refine Ev.bind (implHas_ev l a) ?_
  by_cases h : hasB l a = true
  · refine Ev.ifT h (Ev.bind (implHas_ev l b) ?_)
    rw [h, Bool.true_and]
    by_cases h2 : hasB l b = true
    · refine Ev.ifT h2 ?_
      rw [h2, Bool.true_and]
      by_cases c : a < b
      · refine Ev.ifT c (Ev.bind (implEnd_has l h) ?_)
        rw [show decide (a < b ∧ b < (endN l a.toNat : Nat)) = decide (b < (endN l a.toNat : Nat)) from decide_eq_decide.2 ⟨fun x => x.2, fun x => ⟨c, x⟩⟩]
        exact Ev.now _
      · refine Ev.ifF c ?_
        rw [show decide (a < b ∧ b < (endN l a.toNat : Nat)) = false from decide_eq_false fun x => c x.1]
        exact Ev.now _
    · refine Ev.ifF h2 ?_
      rw [Bool.not_eq_true] at h2
      rw [h2, Bool.false_and]
      exact Ev.now _
  · refine Ev.ifF h ?_
    rw [Bool.not_eq_true] at h
    rw [h, Bool.false_and, Bool.false_and]
    exact Ev.now _
theorem implContains_ev (l : List Int) (hl : l.length ≤ 1048576) (x : Int) : Ev (fun k => slices_Contains_int_int.f k l x) (decide (x ∈ l)) := by
  unfold slices_Contains_int_int.f
  refine Ev.bind (implIndex_ev l hl x) ?_
  have h1 := idxFrom_neg x l 0
  have h2 := idxFrom_ge x l 0
  rw [show decide (x ∈ l) = decide (idxFrom x l 0 ≥ 0) from decide_eq_decide.2 (by
    constructor
    · intro h
      have : ¬ idxFrom x l 0 = -1 := fun e => (h1.1 e) h
      omega
    · intro h
      refine Classical.byContradiction fun h3 => ?_
      have := h1.2 h3
      omega)]
  exact Ev.now _
theorem unm_mem (m : List PairI) (n : Nat) (x : Int) : x ∈ unm m n ↔ ∃ j : Nat, x = j ∧ j < n ∧ (m.any fun p => p.f0 == (j : Int)) = false := by
  induction n with
  | zero => simp [unm]
  | succ n ih =>
    unfold unm
    by_cases h : (m.any fun p => p.f0 == (n : Int)) = true
    · rw [if_pos h, ih]
      constructor
      · rintro ⟨j, e, h1, h2⟩; exact ⟨j, e, by omega, h2⟩
      · rintro ⟨j, e, h1, h2⟩
        refine ⟨j, e, ?_, h2⟩
        by_cases q : j = n
        · subst q; rw [h] at h2; cases h2
        · omega
    · rw [if_neg h, List.mem_append, List.mem_singleton, ih]
      rw [Bool.not_eq_true] at h
      constructor
      · rintro (⟨j, e, h1, h2⟩ | e)
        · exact ⟨j, e, by omega, h2⟩
        · exact ⟨n, e, by omega, h⟩
      · rintro ⟨j, e, h1, h2⟩
        by_cases q : j = n
        · subst q; exact .inr e
        · exact .inl ⟨j, e, by omega, h2⟩
theorem unm_filter (m : List PairI) (n : Nat) : unm m n = ((List.range n).map fun j : Nat => (j : Int)).filter fun x => !(m.any fun p => p.f0 == x) := by
  induction n with
  | zero => rfl
  | succ n ih =>
    unfold unm
    rw [List.range_succ, List.map_append, List.filter_append, ← ih]
    cases h : (m.any fun p => p.f0 == (n : Int)) <;> simp [h]
noncomputable def over (l : List NodeI) (G : List Int) (j : Int) : Nat := (G.filter fun g => undB l g j).length
theorem over_le (l : List NodeI) (G : List Int) (j : Int) : over l G j ≤ G.length := List.length_filter_le _ _
theorem over_snoc (l : List NodeI) (G : List Int) (g j : Int) : over l (G ++ [g]) j = over l G j + if undB l g j = true then 1 else 0 := by
  unfold over
  rw [List.filter_append, List.length_append]
  cases h : undB l g j <;> simp [h]
noncomputable def kept (l : List NodeI) (m : List PairI) (G : List Int) : Nat → List NodeI
  | 0 => []
  | n + 1 => if (m.any fun p => p.f0 == (n : Int)) = true then kept l m G n ++ [⟨lab l n, dep l n - over l G n⟩] else kept l m G n
theorem kept_len (l : List NodeI) (m : List PairI) (G : List Int) (n : Nat) : (kept l m G n).length ≤ n := by
  induction n with
  | zero => exact Nat.le_refl _
  | succ n ih =>
    unfold kept
    split
    · simp; omega
    · omega
noncomputable def keptOf (l : List NodeI) (m : List PairI) : List NodeI := if trB l = true ∧ (m.any fun p => p.f0 == (0 : Int)) = true then kept l m (unm m l.length) l.length else []
theorem keptOf_len (l : List NodeI) (m : List PairI) : (keptOf l m).length ≤ l.length := by
  unfold keptOf
  split
  · exact kept_len _ _ _ _
  · simp
theorem implKept_l1 {l : List NodeI} (t : Tr l) (m : List PairI) (G : List Int) (hG : G.length ≤ 24) (i : Nat) (hi : i < l.length) (acc r : List NodeI) (ha : acc.length ≤ 24)
    (hr : Ev (fun k => impl_Kept.l0 k l (acc ++ [⟨lab l i, dep l i - over l G i⟩]) G l l.length ((i + 1 : Nat) : Int)) r) (d : Nat) : ∀ j : Nat, j + d = G.length → Ev (fun k => impl_Kept.l1 k l acc G i (dep l i - over l (G.take j) i) l l.length i G G.length j (lab l i) (dep l i)) r := by
  have hd := t.chk i hi
  have h24 := t.len24
  induction d with
  | zero =>
    intro j hj
    obtain rfl : j = G.length := by omega
    refine Ev.step (fun _ => rfl) ?_
    simp only [impl_Kept.l1]
    rw [List.take_length, wrap_succ hi (by omega)]
    exact Ev.ifF (by omega) (Ev.ifT (by omega) hr)
  | succ d ih =>
    intro j hj
    have hlt : j < G.length := by omega
    have h := ih (j + 1) (by omega)
    have ho := over_le l (G.take j) i
    rw [List.length_take] at ho
    have h0 := hd.d0
    have h12 := hd.d12
    rw [List.take_succ_eq_append_getElem hlt, over_snoc] at h
    refine Ev.step (fun _ => rfl) ?_
    simp only [impl_Kept.l1]
    refine Ev.ifT (by omega) (Ev.ifT (by omega) (Ev.ifT (by omega) ?_))
    simp only [rd, getD_nat G j _ hlt]
    rw [wrap_succ hlt (by omega), wrap_id (x := dep l i - over l (G.take j) i - 1) (by omega) (by omega)]
    refine Ev.bind (implUnder_ev l G[j] i) ?_
    by_cases c : undB l G[j] i = true
    · rw [if_pos c] at h
      rw [show dep l i - ((over l (G.take j) i + 1 : Nat) : Int) = dep l i - over l (G.take j) i - 1 by omega] at h
      exact Ev.ifT c h
    · rw [if_neg c] at h
      exact Ev.ifF c h
theorem implKept_l0 {l : List NodeI} (t : Tr l) (m : List PairI) (d : Nat) : ∀ i : Nat, i + d = l.length → Ev (fun k => impl_Kept.l0 k l (kept l m (unm m l.length) i) (unm m l.length) l l.length i) (kept l m (unm m l.length) l.length) := by
  have h24 := t.len24
  induction d with
  | zero =>
    intro i hi
    obtain rfl : i = l.length := by omega
    refine Ev.step (fun _ => rfl) ?_
    simp only [impl_Kept.l0]
    exact Ev.ifF (by omega) (Ev.now _)
  | succ d ih =>
    intro i hi
    have hlt : i < l.length := by omega
    have hu := unm_len m l.length
    have hk := kept_len l m (unm m l.length) i
    have h := ih (i + 1) (by omega)
    rw [show kept l m (unm m l.length) (i + 1) = if (m.any fun p => p.f0 == (i : Int)) = true then kept l m (unm m l.length) i ++ [⟨lab l i, dep l i - over l (unm m l.length) i⟩] else kept l m (unm m l.length) i from rfl] at h
    refine Ev.step (fun _ => rfl) ?_
    simp only [impl_Kept.l0]
    refine Ev.ifT (by omega) (Ev.ifT (by omega) (Ev.ifT (by omega) ?_))
    rw [rd_lab, rd_dep, wrap_succ hlt (by omega)]
    refine Ev.bind (implContains_ev (unm m l.length) (by omega) i) ?_
    by_cases c : (m.any fun p => p.f0 == (i : Int)) = true
    · rw [if_pos c] at h
      have hn : ¬ (i : Int) ∈ unm m l.length := by
        rw [unm_mem]
        rintro ⟨j, e, _, h2⟩
        obtain rfl : i = j := by omega
        rw [c] at h2; cases h2
      refine Ev.ifF (by simpa using hn) ?_
      have := implKept_l1 t m (unm m l.length) (by omega) i hlt (kept l m (unm m l.length) i) _ (by omega) h (unm m l.length).length 0 (Nat.zero_add _)
      rw [List.take_zero, show (over l [] i : Int) = 0 from rfl, Int.sub_zero] at this
      exact this
    · rw [if_neg c] at h
      rw [Bool.not_eq_true] at c
      exact Ev.ifT (decide_eq_true ((unm_mem m l.length i).2 ⟨i, rfl, hlt, c⟩)) h
theorem implKept_ev (l : List NodeI) (m : List PairI) (hl : l.length ≤ 1048576) : Ev (fun k => impl_Kept.f k l m) (keptOf l m) := by
  unfold impl_Kept.f keptOf
  simp only [Option.bind_some]
  refine Ev.bindC (implUnmapped_eq l m hl) (Ev.bind (implTreeOk_ev l) ?_)
  have hu := unm_len m l.length
  by_cases h : Tr l
  · have h1 := h.len1
    have h24 := h.len24
    refine Ev.ifT (trB_true h) (Ev.bind (implContains_ev (unm m l.length) (by omega) 0) ?_)
    refine Ev.step (fun _ => rfl) ?_
    simp only [impl_Kept.j0]
    by_cases c : (m.any fun p => p.f0 == (0 : Int)) = true
    · rw [if_pos ⟨trB_true h, c⟩]
      have hn : ¬ (0 : Int) ∈ unm m l.length := by
        rw [unm_mem]
        rintro ⟨j, e, _, h2⟩
        rw [← e, c] at h2; cases h2
      refine Ev.ifF (by simpa using hn) ?_
      exact implKept_l0 h m l.length 0 (Nat.zero_add _)
    · rw [if_neg fun x => c x.2]
      rw [Bool.not_eq_true] at c
      exact Ev.ifT (decide_eq_true ((unm_mem m l.length 0).2 ⟨0, rfl, by omega, c⟩)) (Ev.now _)
  · have hb := trB_false l h
    rw [if_neg (by rw [hb]; simp)]
    refine Ev.ifF (by rw [hb]; simp) ?_
    refine Ev.step (fun _ => rfl) ?_
    simp only [impl_Kept.j0]
    exact Ev.ifT trivial (Ev.now _)
noncomputable def lifted (l : List NodeI) (H : List Int) : List NodeI := (List.range l.length).map fun j : Nat => ⟨lab l j, dep l j - over l H j⟩
theorem lifted_len (l : List NodeI) (H : List Int) : (lifted l H).length = l.length := by simp [lifted]
theorem lifted_at (l : List NodeI) (H : List Int) {j : Nat} (hj : j < l.length) : (lifted l H)[j]'(by rw [lifted_len]; exact hj) = ⟨lab l j, dep l j - over l H j⟩ := by simp [lifted]
theorem lifted_none (l : List NodeI) : lifted l [] = l := by
  refine List.ext_getElem (lifted_len l []) fun j h1 h2 => ?_
  rw [lifted_at l [] h2]
  simp only [over, List.filter_nil, List.length_nil]
  have : l[j] = nd l j := by simp [nd, List.getD_eq_getElem?_getD, List.getElem?_eq_getElem h2]
  rw [this]
  simp [lab, dep]
noncomputable def half (l : List NodeI) (H : List Int) (i j : Nat) : List NodeI := (List.range l.length).map fun x : Nat => ⟨lab l x, dep l x - over l H x - if i < x ∧ x < j then 1 else 0⟩
theorem half_len (l : List NodeI) (H : List Int) (i j : Nat) : (half l H i j).length = l.length := by simp [half]
theorem half_at (l : List NodeI) (H : List Int) (i j : Nat) {x : Nat} (hx : x < l.length) : (half l H i j)[x]'(by rw [half_len]; exact hx) = ⟨lab l x, dep l x - over l H x - if i < x ∧ x < j then 1 else 0⟩ := by simp [half]
theorem half_first (l : List NodeI) (H : List Int) (i : Nat) : half l H i (i + 1) = lifted l H := by
  unfold half lifted
  refine List.map_congr_left fun x _ => ?_
  rw [if_neg (by omega), Int.sub_zero]
theorem half_step (l : List NodeI) (H : List Int) (i j : Nat) (hj : j < l.length) (hij : i < j) : (half l H i j).set j ⟨lab l j, dep l j - over l H j - 1⟩ = half l H i (j + 1) := by
  refine List.ext_getElem (by rw [List.length_set, half_len, half_len]) fun x h1 h2 => ?_
  rw [half_len] at h2
  rw [half_at l H i (j + 1) h2, List.getElem_set]
  by_cases e : j = x
  · subst e
    rw [if_pos rfl, if_pos (by omega)]
  · rw [if_neg e, half_at l H i j h2]
    by_cases c : i < x ∧ x < j
    · rw [if_pos c, if_pos (by omega)]
    · rw [if_neg c, if_neg (by omega)]
theorem half_last {l : List NodeI} (t : Tr l) (H : List Int) (i : Nat) (hi : i < l.length) : half l H i (endN l i) = lifted l (H ++ [(i : Int)]) := by
  unfold half lifted
  refine List.map_congr_left fun x hx => ?_
  have hx := List.mem_range.1 hx
  rw [over_snoc, undB_nat t hi hx]
  by_cases c : i < x ∧ x < endN l i
  · rw [if_pos c, if_pos (decide_eq_true c)]
    congr 1; omega
  · rw [if_neg c, if_neg (by simpa using c)]
    congr 1; omega
theorem rd_at (l : List NodeI) {j : Nat} (hj : j < l.length) : rd_T75 l (j : Int) = l[j] := by
  simp [rd_T75, List.getD_eq_getElem?_getD, List.getElem?_eq_getElem hj]
theorem specKept_l2 {l : List NodeI} (t : Tr l) (m : List PairI) (p : List Int) (r : List NodeI) (q : Int) (H : List Int) (hH : H.length ≤ 24) (i : Nat) (hi : i < l.length)
    (hr : Ev (fun k => spec_Kept.l1 k l m (lifted l (H ++ [(i : Int)])) p q (wrap64 ((i : Int) - 1))) r) (d : Nat) : ∀ j : Nat, i < j → j + d = endN l i → Ev (fun k => spec_Kept.l2 k l m (half l H i j) p q i j) r := by
  have h24 := t.len24
  have a := endN_spec l hi
  induction d with
  | zero =>
    intro j h1 h2
    obtain rfl : j = endN l i := by omega
    rw [half_last t H i hi]
    refine Ev.step (fun _ => rfl) ?_
    simp only [spec_Kept.l2, rd_dep]
    by_cases c : endN l i < l.length
    · have := a.2.2.2 c
      exact Ev.ifT (by omega) (Ev.ifT (by omega) (Ev.ifT (by omega) (Ev.ifT (by omega) (Ev.ifF (by omega) hr))))
    · exact Ev.ifF (by omega) hr
  | succ d ih =>
    intro j h1 h2
    have hj : j < l.length := by omega
    have h := ih (j + 1) (by omega) (by omega)
    have hd := t.chk j hj
    have h0 := hd.d0
    have h12 := hd.d12
    have ho := over_le l H j
    rw [← half_step l H i j hj h1] at h
    refine Ev.step (fun _ => rfl) ?_
    simp only [spec_Kept.l2, rd_dep]
    have g := a.2.2.1 j h1 (by omega)
    have e := rd_at (half l H i j) (j := j) (by rw [half_len]; exact hj)
    rw [half_at l H i j hj, if_neg (by omega), Int.sub_zero] at e
    have e2 : dep (half l H i j) j = dep l j - over l H j := by rw [← rd_dep, e]
    rw [half_len, e, e2, wrap_succ hj (by omega)]
    simp only [Int.toNat_natCast]
    rw [wrap_id (x := dep l j - over l H j - 1) (by omega) (by omega)]
    exact Ev.ifT (by omega) (Ev.ifT (by omega) (Ev.ifT (by omega) (Ev.ifT (by omega) (Ev.ifT g (Ev.ifT (by omega) h)))))
noncomputable def gone (m : List PairI) (P : List Int) : List Int := P.filter fun x => decide (1 ≤ x) && !(m.any fun p => p.f0 == x)
theorem gone_len (m : List PairI) (P : List Int) : (gone m P).length ≤ P.length := List.length_filter_le _ _
theorem specKept_l1 {l : List NodeI} (t : Tr l) (m : List PairI) (hm : m.length ≤ 9223372036854775807) (r : List NodeI) (q : Nat) (hq : q < l.length) (v : Nat) (hv : v < l.length) (hP : (pst l)[q]? = some (v : Int)) (H : List Int) (hH : H.length ≤ 23)
    (hr : Ev (fun k => spec_Kept.l0 k l m (lifted l (H ++ gone m [(v : Int)])) (pst l) ((q : Int) - 1)) r) : ∀ x : Nat, x < l.length → Ev (fun k => spec_Kept.l1 k l m (if x < v then lifted l (H ++ gone m [(v : Int)]) else lifted l H) (pst l) q x) r := by
  have h24 := t.len24
  have hpl := pst_len t
  intro x
  induction x with
  | zero =>
    intro _
    refine Ev.step (fun _ => rfl) ?_
    simp only [spec_Kept.l1]
    refine Ev.ifF (by omega) ?_
    rw [wrap_id (x := (q : Int) - 1) (by omega) (by omega)]
    by_cases c : 0 < v
    · rw [if_pos c]; exact hr
    · obtain rfl : v = 0 := by omega
      rw [if_neg c]
      rw [show gone m [((0 : Nat) : Int)] = [] from by simp [gone], List.append_nil] at hr
      exact hr
  | succ x ih =>
    intro hx
    have h := ih (by omega)
    have hval : (pst l).getD (q : Int).toNat 0 = (v : Int) := by
      rw [Int.toNat_natCast, List.getD_eq_getElem?_getD, hP]; rfl
    refine Ev.step (fun _ => rfl) ?_
    simp only [spec_Kept.l1, rd, hval]
    refine Ev.ifT (by omega) (Ev.ifT (by omega) (Ev.ifT (by omega) ?_))
    have hw : wrap64 (((x + 1 : Nat) : Int) - 1) = (x : Int) := by rw [wrap_id (by omega) (by omega)]; omega
    by_cases c : v = x + 1
    · subst c
      rw [if_neg (Nat.lt_irrefl _)]
      rw [if_pos (Nat.lt_succ_self _)] at h
      refine Ev.ifT rfl (Ev.bind (specIsA_ev m hm _) ?_)
      refine Ev.step (fun _ => rfl) ?_
      simp only [spec_Kept.j3]
      rw [hw]
      cases ca : (m.any fun p => p.f0 == ((x + 1 : Nat) : Int)) with
      | true =>
        rw [show gone m [((x + 1 : Nat) : Int)] = [] from by simp only [gone, List.filter_cons, ca]; simp, List.append_nil] at h
        exact Ev.ifF (by simp) h
      | false =>
        rw [show gone m [((x + 1 : Nat) : Int)] = [((x + 1 : Nat) : Int)] from by simp only [gone, List.filter_cons, ca]; simp; omega] at h
        refine Ev.ifT (by simp) ?_
        rw [wrap_succ hx (by omega), ← half_first l H (x + 1)]
        exact specKept_l2 t m (pst l) r q H (by omega) (x + 1) hx (by rw [hw]; exact h) _ (x + 2) (by omega) (Nat.add_sub_cancel' (endN_spec l hx).1)
    · refine Ev.ifF (by omega) ?_
      refine Ev.step (fun _ => rfl) ?_
      simp only [spec_Kept.j3]
      rw [hw]
      refine Ev.ifF (by simp) ?_
      by_cases c2 : x + 1 < v
      · rw [if_pos (by omega)] at h
        rw [if_pos c2]; exact h
      · rw [if_neg (by omega)] at h
        rw [if_neg c2]; exact h
theorem specKept_l3 {l : List NodeI} (m : List PairI) (hm : m.length ≤ 9223372036854775807) (G H : List Int) (hG : ∀ j : Nat, j < l.length → over l G j = over l H j) (hl : l.length ≤ 24) (d : Nat) : ∀ i : Nat, i + d = l.length → Ev (fun k => spec_Kept.l3 k m (lifted l H) (kept l m G i) i) (kept l m G l.length) := by
  induction d with
  | zero =>
    intro i hi
    obtain rfl : i = l.length := by omega
    refine Ev.step (fun _ => rfl) ?_
    simp only [spec_Kept.l3, lifted_len]
    exact Ev.ifF (by omega) (Ev.now _)
  | succ d ih =>
    intro i hi
    have hlt : i < l.length := by omega
    have hk := kept_len l m G i
    have h := ih (i + 1) (by omega)
    rw [show kept l m G (i + 1) = if (m.any fun p => p.f0 == (i : Int)) = true then kept l m G i ++ [⟨lab l i, dep l i - over l G i⟩] else kept l m G i from rfl] at h
    refine Ev.step (fun _ => rfl) ?_
    simp only [spec_Kept.l3, lifted_len]
    rw [rd_at (lifted l H) (j := i) (by rw [lifted_len]; exact hlt), lifted_at l H hlt, ← hG i hlt, wrap_succ hlt (by omega)]
    refine Ev.ifT (by omega) (Ev.bind (specIsA_ev m hm i) ?_)
    by_cases c : (m.any fun p => p.f0 == (i : Int)) = true
    · rw [if_pos c] at h
      exact Ev.ifT c (Ev.ifT (by omega) (Ev.ifT (by omega) h))
    · rw [if_neg c] at h
      exact Ev.ifF c h
theorem gone_append (m : List PairI) (P Q : List Int) : gone m (P ++ Q) = gone m P ++ gone m Q := by simp [gone]
theorem specKept_l0 {l : List NodeI} (t : Tr l) (m : List PairI) (hm : m.length ≤ 9223372036854775807) (r : List NodeI)
    (hr : ∀ H : List Int, H.Perm (gone m (pst l)) → Ev (fun k => spec_Kept.l3 k m (lifted l H) [] 0) r) : ∀ q : Nat, q ≤ l.length → ∀ H : List Int, H.Perm (gone m ((pst l).drop q)) → Ev (fun k => spec_Kept.l0 k l m (lifted l H) (pst l) ((q : Int) - 1)) r := by
  have h24 := t.len24
  have h1 := t.len1
  have hpl := pst_len t
  intro q
  induction q with
  | zero =>
    intro _ H hH
    refine Ev.step (fun _ => rfl) ?_
    simp only [spec_Kept.l0]
    rw [List.drop_zero] at hH
    exact Ev.ifF (by omega) (hr H hH)
  | succ q ih =>
    intro hq H hH
    obtain ⟨v, v1, v2, v3⟩ := pst_at t (show q < l.length by omega)
    refine Ev.step (fun _ => rfl) ?_
    simp only [spec_Kept.l0]
    rw [show ((q + 1 : Nat) : Int) - 1 = (q : Int) by omega, wrap_id (x := (l.length : Int) - 1) (by omega) (by omega)]
    refine Ev.ifT (by omega) ?_
    have hlen : H.length ≤ 23 := by
      have e1 := hH.length_eq
      have e2 := gone_len m ((pst l).drop (q + 1))
      rw [List.length_drop] at e2
      omega
    have key := specKept_l1 t m hm r q (by omega) v v1 v2 H hlen (ih (by omega) _ (by
      have hd : (pst l).drop q = (v : Int) :: (pst l).drop (q + 1) := by
        rw [List.drop_eq_getElem_cons (show q < (pst l).length by omega)]
        rw [List.getElem?_eq_getElem (show q < (pst l).length by omega)] at v2
        rw [Option.some.inj v2]
      rw [hd, show (v : Int) :: (pst l).drop (q + 1) = [(v : Int)] ++ (pst l).drop (q + 1) from rfl, gone_append]
      exact (List.perm_append_comm).trans ((List.Perm.refl _).append hH))) (l.length - 1) (by omega)
    rw [if_neg (by omega), show ((l.length - 1 : Nat) : Int) = (l.length : Int) - 1 by omega] at key
    exact key
theorem specKept_ev (l : List NodeI) (m : List PairI) (hl : l.length ≤ 1048576) (hm : m.length ≤ 9223372036854775807) : Ev (fun k => spec_Kept.f k l m) (keptOf l m) := by
  unfold spec_Kept.f keptOf
  have hc : spec_l3Copy.f l = some l := by
    unfold spec_l3Copy.f
    simp only [Option.bind_some, List.length_nil, List.nil_append]
    rw [if_pos (by omega)]
  refine Ev.bindC hc (Ev.bind (specPost_ev l (by omega)) (Ev.bind (specTreeOk_ev l (by omega)) ?_))
  by_cases h : Tr l
  · have h1 := h.len1
    have h24 := h.len24
    have hpl := pst_len h
    rw [if_pos (trB_true h)]
    refine Ev.ifT (trB_true h) (Ev.bind (specIsA_ev m hm 0) ?_)
    refine Ev.step (fun _ => rfl) ?_
    simp only [spec_Kept.j0]
    by_cases c : (m.any fun p => p.f0 == (0 : Int)) = true
    · rw [if_pos ⟨trB_true h, c⟩]
      refine Ev.ifF (by rw [c]; simp) ?_
      have key := specKept_l0 h m hm (kept l m (unm m l.length) l.length) (fun H hH => by
        refine specKept_l3 m hm (unm m l.length) H (fun j hj => ?_) h24 l.length 0 (Nat.zero_add _)
        unfold over
        refine (List.Perm.filter _ ?_).length_eq
        refine List.Perm.trans ?_ hH.symm
        rw [unm_filter]
        refine List.Perm.trans ?_ ((pst_perm h).symm.filter _)
        refine List.Perm.of_eq ?_
        refine List.filter_congr fun x hx => ?_
        obtain ⟨y, hy, rfl⟩ := List.mem_map.1 hx
        by_cases e : y = 0
        · subst e
          rw [show ((0 : Nat) : Int) = 0 from rfl, c]; rfl
        · rw [decide_eq_true (show (1 : Int) ≤ (y : Int) by omega), Bool.true_and]) l.length (Nat.le_refl _) [] (by rw [List.drop_of_length_le (by omega)]; exact List.Perm.refl _)
      rw [lifted_none] at key
      rw [hpl, wrap_id (x := (l.length : Int) - 1) (by omega) (by omega)]
      exact key
    · rw [if_neg fun x => c x.2]
      exact Ev.ifT (by rw [Bool.not_eq_true] at c; rw [c]; rfl) (Ev.now _)
  · have hb := trB_false l h
    rw [if_neg (by rw [hb]; simp), if_neg (by rw [hb]; simp)]
    refine Ev.ifF (by rw [hb]; simp) ?_
    refine Ev.step (fun _ => rfl) ?_
    simp only [spec_Kept.j0]
    exact Ev.ifT trivial (Ev.now _)
end Go.Proofs.Ytmipigipfmcneaa.Q
namespace Go.Proofs.Ytmipigipfmcneaa.Q
open Go.RowKit Go.Proofs.YtmipigipfmcneaaW.PrintWords Go.Proofs.YtmipigipfmcneaaW.PrintLast Go.Proofs.YtmipigipfmcneaaW.PrintMore Go.Proofs.Ytmipigipfmcneaa.X Go.Proofs.Ytmipigipfmcneaa.Rd
set_option linter.unusedVariables false
set_option linter.unusedSimpArgs false
theorem FnExactKept (l : List NodeL) (w : WF29 l) (m : List PairL) (w1 : WF39 m) : ∃ k, laws_FnExactKept.f k l m = some true := by
  refine Ev.rounds (g := fun k => laws_FnExactKept.f k l m) ?_
  unfold laws_FnExactKept.f
  refine Ev.bindC (szNodeS_eq l _ (by omega) (by omega) w.1) ?_
  by_cases h : (1048576 : Int) < l.length
  · rw [if_pos h]
    exact Ev.ifT (by omega) (Ev.now _)
  rw [if_neg h]
  refine Ev.ifF (by omega) (Ev.bindC (szPairS_eq m _ (by omega) (by omega) w1.1) ?_)
  by_cases h2 : (1048576 - (l.length : Int)) < m.length
  · rw [if_pos h2]
    exact Ev.ifT (by omega) (Ev.now _)
  · rw [if_neg h2]
    refine Ev.ifF (by omega) ?_
    have t := toNodeS_ev l (by omega)
    have t1 := toPairS_ev m (by omega)
    have hl : (l.map toNode).length = l.length := by simp
    have hm : (m.map toPair).length = m.length := by simp
    have s := specKept_ev (l.map toNode) (m.map toPair) (by omega) (by omega)
    have i := implKept_ev (l.map toNode) (m.map toPair) (by omega)
    have hres := keptOf_len (l.map toNode) (m.map toPair)
    generalize keptOf (l.map toNode) (m.map toPair) = res at s i hres
    have hp : res.length ≤ 1048576 := by omega
    have e := eqNodeS_ev res (by omega)
    obtain ⟨r1, _, m1, _⟩ := markNodeS_ev 1 (l.map toNode) (by omega) (by omega)
    obtain ⟨r3, _, m3, _⟩ := markPairS_ev (1 + 2 * (l.map toNode).length) (m.map toPair) (by omega) (by omega)
    obtain ⟨r2, _, m2, h2⟩ := markNodeS_ev 1 res (by omega) (by omega)
    refine Ev.bind t (Ev.bind t1 (Ev.bind s (Ev.bind t (Ev.bind t1 (Ev.bind i (Ev.bind e (Ev.ifT rfl (Ev.bind t (Ev.bind (eqNodeS_ev _ (by omega)) (Ev.ifT rfl (Ev.bind t1 (Ev.bind (eqPairS_ev _ (by omega)) (Ev.ifT rfl (Ev.bind m1 (Ev.bind m3 (Ev.ifF (by simp only; omega) (Ev.bind e ?_)))))))))))))))))
    refine Ev.step (fun _ => rfl) ?_
    simp only [laws_FnExactKept.j0]
    refine Ev.ifF (by simp) ?_
    refine Ev.bind m2 (Ev.bind h2 (Ev.ifF (by omega) (Ev.ifT rfl (Ev.bind t (Ev.bind t1 (Ev.bind i (Ev.bind e (Ev.ifT rfl (Ev.bind h2 (Ev.ifF (by omega) (Ev.ifT rfl (Ev.now _))))))))))))
end Go.Proofs.Ytmipigipfmcneaa.Q
