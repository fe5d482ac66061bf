/- Part 7 of the proof of FnExactMissing: what it needs. -/
import Derived.WalkKit
import Derived.ProofKit
import Derived.OpenShut
import Derived.ShutString
import Derived.ChangeOld
import Derived.Below
import Derived.Deep.Slices
import Derived.Test.YtmipigipfmcneaaKEMissing3
import Derived.Test.YtmipigipfmcneaaKEMissing4
import Derived.Test.YtmipigipfmcneaaKEMissing5
import Derived.Test.YtmipigipfmcneaaKEMissing6
namespace Go.Proofs.Ytmipigipfmcneaa.Rd
open Go.ChangeShapes Go.WideShapes Go.ChangeAt Go.RowKit Go.Proofs.YtmipigipfmcneaaW.PrintWords
structure Rd (P : Program) (t : TypeId) {α : Type} (d : Kd α) (wf : α → Prop) : Prop where
  size : P.cellsOf t = d.sz
  reads : ∀ {H : Type} {enc : TypeId × Value → H} {w : World} {spare : Nat → Bool} {held : Bool} {fuel : Nat} {cs : List Value} {x : DataW H × List MemPlace},
    DataW.trod enc P w 0 spare held fuel t cs = some x → ∃ y, d.K w y cs ∧ wf y
theorem rd_int {P : Program} {t : TypeId} {k : IntKind} (ht : P.underlying t = some (.int k)) (hc : P.cellsOf t = 1) : Rd P t (Kd.int k) (fun n => (Lit.int k n).wf = true) :=
  ⟨hc, fun h => by
    obtain ⟨n, rfl, _, hw⟩ := DataW.trod_int ht h
    exact ⟨n, rfl, hw⟩⟩
theorem rd_slice {P : Program} {t e : TypeId} {α : Type} [Inhabited α] {d : Kd α} {wf : α → Prop} (ht : P.underlying t = some (.slice e)) (hc : P.cellsOf t = 1) (h : Rd P e d wf) : Rd P t (Kd.slice e d) (fun xs => xs.length ≤ 9223372036854775807 ∧ ∀ x ∈ xs, wf x) :=
  ⟨hc, fun {H enc w spare held fuel cs x} hx => by
    rcases Go.Deep.open_slice ht hx with ⟨rfl, _⟩ | ⟨a, len, cap, m, n, D, Pl, rfl, _, hl, hm, hmm, _, hel⟩
    · exact ⟨[], ⟨none, 0, rfl, Nat.le_refl _, rfl, by simp, fun h => absurd h (Nat.lt_irrefl _)⟩, by simp, by simp⟩
    · have hle : len ≤ m := by rw [hmm]; split <;> omega
      obtain ⟨f, hf⟩ := Go.Deep.choose_lt (n := len) (p := fun i (y : α) => ∃ cs', w.cells? 0 (a.add (i * P.cellsOf e)) (P.cellsOf e) = some cs' ∧ d.K w y cs' ∧ wf y) (fun i hi => by
        obtain ⟨cs', h1, h2⟩ := hel i (by omega)
        obtain ⟨y, hy, hw⟩ := h.reads h2
        exact ⟨y, cs', h1, hy, hw⟩)
      have hlen : ((List.range len).map f).length = len := by simp
      refine ⟨(List.range len).map f, ⟨some a, cap, by rw [hlen], by rw [hlen]; exact hl, ?_⟩, by rw [hlen]; unfold maxLen at hm; omega, ?_⟩
      · refine ⟨rfl, by rw [hlen]; unfold maxLen at hm; omega, fun _ => ⟨a, rfl, fun j p hj => ?_⟩⟩
        have hj' : j < len ∧ f j = p := by
          rw [List.getElem?_map] at hj
          obtain ⟨i, hi, hp⟩ := Option.map_eq_some_iff.1 hj
          have := List.getElem?_eq_some_iff.1 hi
          obtain ⟨h1, h2⟩ := this
          simp at h1 h2
          subst h2
          exact ⟨h1, hp⟩
        obtain ⟨cs', h1, h2, _⟩ := hf j hj'.1
        rw [hj'.2] at h2
        obtain ⟨_, hn, hcell⟩ := World.cells?_some h1
        refine ⟨cs', d.K_len h2, h2, fun i u hu => ?_⟩
        have hi : i < cs'.length := (List.getElem?_eq_some_iff.1 hu).1
        have := hcell i (by omega)
        rw [Go.Deep.add_add, h.size] at this
        rw [this, hu]
      · intro x hx
        obtain ⟨i, hi, rfl⟩ := List.mem_map.1 hx
        obtain ⟨_, _, _, hw⟩ := hf i (by simpa using hi)
        exact hw⟩
structure RdF (P : Program) (o : Nat) (fs : List Field) {α : Type} (d : Kd α) (wf : α → Prop) : Prop where
  reads : ∀ {H : Type} {enc : TypeId × Value → H} {w : World} {spare : Nat → Bool} {held : Bool} {fuel : Nat} {cs : List Value}, o + d.sz ≤ cs.length →
    (∀ f ∈ fs, ∃ x, DataW.trod enc P w 0 spare held fuel f.type ((cs.drop f.offset).take (P.cellsOf f.type)) = some x) → ∃ y, d.K w y ((cs.drop o).take d.sz) ∧ wf y
theorem rdf_one {P : Program} {o : Nat} {f : Field} {α : Type} {d : Kd α} {wf : α → Prop} (ho : f.offset = o) (h : Rd P f.type d wf) : RdF P o [f] d wf :=
  ⟨fun _ hf => by
    obtain ⟨x, hx⟩ := hf f (by simp)
    rw [ho, h.size] at hx
    exact h.reads hx⟩
theorem rdf_cons {P : Program} {o : Nat} {f : Field} {fs : List Field} {α β : Type} {d : Kd α} {d' : Kd β} {wf : α → Prop} {wf' : β → Prop} (ho : f.offset = o) (h : Rd P f.type d wf) (h' : RdF P (o + d.sz) fs d' wf') :
    RdF P o (f :: fs) (Kd.pair d d') (fun x => wf x.1 ∧ wf' x.2) :=
  ⟨fun {H enc w spare held fuel cs} hl hf => by
    have hl' : o + (d.sz + d'.sz) ≤ cs.length := hl
    obtain ⟨x, hx⟩ := hf f (by simp)
    rw [ho, h.size] at hx
    obtain ⟨y, hy, hw⟩ := h.reads hx
    obtain ⟨y', hy', hw'⟩ := h'.reads (cs := cs) (by omega) (fun g hg => hf g (by simp [hg]))
    refine ⟨(y, y'), ⟨_, _, ?_, hy, hy'⟩, hw, hw'⟩
    show (cs.drop o).take (d.sz + d'.sz) = _
    rw [List.take_add, List.drop_drop]⟩
theorem rd_struct {P : Program} {t : TypeId} {fs : Array Field} {α β : Type} {d : Kd α} {wf : α → Prop} (g : β → α) (ht : P.underlying t = some (.struct fs)) (hc : P.cellsOf t = d.sz) (hg : ∀ y, ∃ x, g x = y) (h : RdF P 0 fs.toList d wf) :
    Rd P t (Kd.iso d g) (fun x => wf (g x)) :=
  ⟨hc, fun {H enc w spare held fuel cs x} hx => by
    obtain ⟨xs, n, _, _, hl, hlen, hf⟩ := DataW.trod_struct ht hx
    obtain ⟨y, hy, hw⟩ := h.reads (enc := enc) (w := w) (spare := spare) (held := held) (fuel := n) (cs := cs) (by omega) (fun f hfm => by
      obtain ⟨i, hi, rfl⟩ := List.getElem_of_mem hfm
      have h1 : fs[i]? = some fs[i] := Array.getElem?_eq_getElem (by simpa using hi)
      have h2 := hf i _ h1
      have h3 : i < xs.length := by rw [hlen]; simpa using hi
      rw [List.getElem?_eq_getElem h3] at h2
      exact ⟨_, h2⟩)
    rw [List.drop_zero, List.take_of_length_le (by omega)] at hy
    obtain ⟨z, rfl⟩ := hg y
    exact ⟨z, hy, hw⟩⟩
theorem own : ownKnob Try.prog.godebug = none := by kernel_rfl
theorem laidOut : laidOutB Try.prog = true := by kernel_rfl
end Go.Proofs.Ytmipigipfmcneaa.Rd
namespace Go.Proofs.Ytmipigipfmcneaa.Rd
open Go.ChangeShapes Go.WideShapes Go.ChangeAt Go.RowKit Go.Proofs.YtmipigipfmcneaaW.PrintWords Go.Proofs.Ytmipigipfmcneaa.X
theorem rdt3 : Rd Try.prog 3 (Kd.int .i64) (fun n => (Lit.int .i64 n).wf = true) := rd_int Try.underlying3 (by kernel_rfl)
instance : Inhabited S66 := ⟨z66⟩
def WF77 (x : S77) : Prop := (Lit.int .i64 x.f0).wf = true ∧ (Lit.int .i64 x.f1).wf = true
theorem rdt77 : Rd Try.prog 77 k77 WF77 := rd_struct (fun x : S77 => (x.f0, x.f1)) Try.underlying77 (by kernel_rfl) (fun y => ⟨⟨y.1, y.2⟩, rfl⟩) (rdf_cons rfl rdt3 (rdf_one rfl rdt3))
def WF29 (xs : (List S77)) : Prop := xs.length ≤ 9223372036854775807 ∧ ∀ x ∈ xs, WF77 x
instance : Inhabited S77 := ⟨z77⟩
theorem rdt29 : Rd Try.prog 29 (Kd.slice 77 k77) WF29 := rd_slice Try.underlying29 (by kernel_rfl) rdt77
def WF84 (x : S84) : Prop := (Lit.int .i64 x.f0).wf = true ∧ (Lit.int .i64 x.f1).wf = true
theorem rdt84 : Rd Try.prog 84 k84 WF84 := rd_struct (fun x : S84 => (x.f0, x.f1)) Try.underlying84 (by kernel_rfl) (fun y => ⟨⟨y.1, y.2⟩, rfl⟩) (rdf_cons rfl rdt3 (rdf_one rfl rdt3))
def WF39 (xs : (List S84)) : Prop := xs.length ≤ 9223372036854775807 ∧ ∀ x ∈ xs, WF84 x
instance : Inhabited S84 := ⟨z84⟩
theorem rdt39 : Rd Try.prog 39 (Kd.slice 84 k84) WF39 := rd_slice Try.underlying39 (by kernel_rfl) rdt84
end Go.Proofs.Ytmipigipfmcneaa.Rd
namespace Go.Proofs.Ytmipigipfmcneaa.Q
open Go.RowKit Go.Proofs.YtmipigipfmcneaaW.PrintWords Go.Proofs.YtmipigipfmcneaaW.PrintLast Go.Proofs.YtmipigipfmcneaaW.PrintMore Go.Proofs.Ytmipigipfmcneaa.X Go.Proofs.Ytmipigipfmcneaa.Rd
set_option linter.unusedVariables false
set_option linter.unusedSimpArgs false
theorem wrap_id {x : Int} (h : -9223372036854775808 ≤ x) (h' : x ≤ 9223372036854775807) : wrap64 x = x := by
  unfold wrap64; omega
theorem wrap_succ {i n : Nat} (h : i < n) (hn : n ≤ 9223372036854775807) : wrap64 ((i : Int) + 1) = ((i + 1 : Nat) : Int) := by
  unfold wrap64; omega
theorem Ev.constOf {α : Type} {o : Option α} {r : α} (h : o = some r) : Ev (fun _ => o) r := ⟨0, fun _ _ => h⟩
theorem Ev.bindC {α β : Type} {o : Option α} {f : Nat → α → Option β} {a : α} {r : β} (h : o = some a) (k : Ev (fun n => f n a) r) : Ev (fun n => o.bind (f n)) r :=
  Ev.bind (Ev.constOf h) k
theorem Ev.ifT {α : Type} {c : Prop} [Decidable c] {g f : Nat → Option α} {r : α} (h : c) (k : Ev g r) : Ev (fun n => if c then g n else f n) r := by
  simpa only [if_pos h] using k
theorem Ev.ifF {α : Type} {c : Prop} [Decidable c] {g f : Nat → Option α} {r : α} (h : ¬ c) (k : Ev f r) : Ev (fun n => if c then g n else f n) r := by
  simpa only [if_neg h] using k
theorem getD_nat {α : Type} (xs : List α) (i : Nat) (d : α) (h : i < xs.length) : xs.getD ((i : Int)).toNat d = xs[i] := by
  rw [Int.toNat_natCast, List.getD_eq_getElem?_getD, List.getElem?_eq_getElem h]; rfl
theorem getD_lt {α : Type} (xs : List α) {i : Nat} (d : α) (h : i < xs.length) : xs.getD i d = xs[i] := by
  rw [List.getD_eq_getElem?_getD, List.getElem?_eq_getElem h]; rfl
theorem take_succ_map {α β : Type} (f : α → β) (l : List α) (i : Nat) (h : i < l.length) : (l.take (i + 1)).map f = (l.take i).map f ++ [f l[i]] := by
  rw [List.take_succ_eq_append_getElem h, List.map_append]; rfl
theorem take_succ_append {α : Type} (l : List α) (i : Nat) (h : i < l.length) : l.take (i + 1) = l.take i ++ [l[i]] := List.take_succ_eq_append_getElem h
theorem eqLoop {A : Type} (F : Nat → List A → List A → Int → Option Bool) (e : Nat → A → A → Option Bool) (dA : A)
    (hF : ∀ k x y i, F (k + 1) x y i = if i < (x.length : Int) then (if 0 ≤ i then (if i < (y.length : Int) then ((e k (x.getD i.toNat dA) (y.getD i.toNat dA)).bind fun t => if t = true then F k x y (wrap64 (i + 1)) else some false) else none) else none) else some true)
    (l : List A) (hl : l.length ≤ 9223372036854775807) (he : ∀ x ∈ l, Ev (fun k => e k x x) true) (d : Nat) : ∀ (i : Nat), i + d = l.length → Ev (fun k => F k l l i) true := by
  induction d with
  | zero =>
    intro i hi
    refine Ev.step (f := fun _ => some true) (fun k => ?_) (Ev.now _)
    rw [hF, if_neg (by omega)]
  | succ d ih =>
    intro i hi
    have hlt : i < l.length := by omega
    refine Ev.step (f := fun k => (e k l[i] l[i]).bind fun t => if t = true then F k l l ((i + 1 : Nat) : Int) else some false) (fun k => ?_) (Ev.bind (he l[i] (List.getElem_mem hlt)) ?_)
    · rw [hF, if_pos (by omega), if_pos (by omega), if_pos (by omega), Int.toNat_natCast, getD_lt l _ hlt, wrap_succ hlt hl]
    · exact Ev.ifT rfl (ih (i + 1) (by omega))
end Go.Proofs.Ytmipigipfmcneaa.Q
namespace Go.Proofs.Ytmipigipfmcneaa.Q
open Go.RowKit Go.Proofs.YtmipigipfmcneaaW.PrintWords Go.Proofs.YtmipigipfmcneaaW.PrintLast Go.Proofs.YtmipigipfmcneaaW.PrintMore Go.Proofs.Ytmipigipfmcneaa.X Go.Proofs.Ytmipigipfmcneaa.Rd
set_option linter.unusedVariables false
set_option linter.unusedSimpArgs false
abbrev PairL := S84
abbrev PairI := S81
def toPair (x : PairL) : PairI := ⟨x.f0, x.f1⟩
theorem szPairS_eq (l : List PairL) (a : Int) (ha : 0 ≤ a) (ha' : a ≤ 1048576) (hl : l.length ≤ 9223372036854775807) :
    laws_szPairS.f l a = some (if a < l.length then -1 else a - l.length) := by
  unfold laws_szPairS.f
  rw [wrap_id (by omega) (by omega)]
  by_cases h : a < l.length
  · rw [if_pos (by omega), if_pos h]
  · rw [if_neg (by omega), if_neg h]
theorem toPairS_l (l : List PairL) (hl : l.length ≤ 1048576) (d : Nat) : ∀ (i : Nat) (acc : List PairI), i + d = l.length → acc.length = l.length → acc.take i = (l.take i).map toPair →
    Ev (fun k => laws_toPairS.l0 k l acc i) (l.map toPair) := by
  induction d with
  | zero =>
    intro i acc hi ha ht
    have : acc = l.map toPair := by
      rw [List.take_of_length_le (by omega), List.take_of_length_le (by omega)] at ht
      exact ht
    subst this
    refine Ev.step (f := fun _ => some (l.map toPair)) (fun k => ?_) (Ev.now _)
    simp only [laws_toPairS.l0]
    rw [if_neg (by omega)]
  | succ d ih =>
    intro i acc hi ha ht
    have hlt : i < l.length := by omega
    refine Ev.step (f := fun k => laws_toPairS.l0 k l (acc.set i (toPair l[i])) ((i + 1 : Nat) : Int)) (fun k => ?_) (ih (i + 1) (acc.set i (toPair l[i])) (by omega) (by simpa using ha) ?_)
    · simp only [laws_toPairS.l0]
      rw [if_pos (by omega), if_pos (by omega)]
      simp only [laws_toPair.f, Option.bind_some]
      rw [if_pos (by omega), wrap_succ hlt (by omega)]
      simp only [rd_T84, Int.toNat_natCast, getD_lt l _ hlt]
      rfl
    · rw [take_succ_map toPair l i hlt, take_succ_append _ i (by simp; omega), List.getElem_set_self, List.take_set_of_le (Nat.le_refl i), ht]
theorem toPairS_ev (l : List PairL) (hl : l.length ≤ 1048576) : Ev (fun k => laws_toPairS.f k l) (l.map toPair) := by
  have h := toPairS_l l hl l.length 0 (List.replicate l.length z81) (by omega) (by simp) (by simp)
  refine Ev.congr (fun k => ?_) h
  unfold laws_toPairS.f
  rw [if_pos (by omega), if_pos (by omega), Int.toNat_natCast]
  rfl
theorem eqPairS_l (l : List PairI) (hl : l.length ≤ 9223372036854775807) (d : Nat) : ∀ (i : Nat), i + d = l.length → Ev (fun k => laws_eqPairS.l0 k l l i) true := by
  induction d with
  | zero =>
    intro i hi
    refine Ev.step (f := fun _ => some true) (fun k => ?_) (Ev.now _)
    simp only [laws_eqPairS.l0]
    rw [if_neg (by omega)]
  | succ d ih =>
    intro i hi
    have hlt : i < l.length := by omega
    refine Ev.step (f := fun k => laws_eqPairS.l0 k l l ((i + 1 : Nat) : Int)) (fun k => ?_) (ih (i + 1) (by omega))
    simp only [laws_eqPairS.l0]
    rw [if_pos (by omega), if_pos (by omega), if_pos (by omega)]
    simp only [laws_eqPair.f, if_true, Option.bind_some]
    rw [wrap_succ hlt hl]
theorem eqPairS_ev (l : List PairI) (hl : l.length ≤ 9223372036854775807) : Ev (fun k => laws_eqPairS.f k l l) true := by
  refine Ev.congr (fun k => ?_) (eqPairS_l l hl l.length 0 (by omega))
  unfold laws_eqPairS.f
  rw [if_pos rfl]; rfl
def heldPair (m : Int) (l : List PairI) : Prop := ∀ j, (h : j < l.length) → l[j] = ⟨m + 2 * j, m + 2 * j + 1⟩
theorem markPairS_l (m : Int) (n : Nat) (hm0 : 0 ≤ m) (hm : m + 2 * n ≤ 4611686018427387904) (d : Nat) : ∀ (i : Nat) (l : List PairI), l.length = n → i + d = n → (∀ j, (h : j < l.length) → j < i → l[j] = ⟨m + 2 * j, m + 2 * j + 1⟩) →
    ∃ r, r.length = n ∧ heldPair m r ∧ Ev (fun k => laws_markPairS.l0 k l (m + 2 * i) i) (m + 2 * n, r) := by
  induction d with
  | zero =>
    intro i l hl hi hh
    refine ⟨l, hl, fun j h => hh j h (by omega), Ev.step (f := fun _ => some (m + 2 * n, l)) (fun k => ?_) (Ev.now _)⟩
    simp only [laws_markPairS.l0]
    rw [if_neg (by omega), show i = n by omega]
  | succ d ih =>
    intro i l hl hi hh
    have hlt : i < l.length := by omega
    obtain ⟨r, hr, hh', he⟩ := ih (i + 1) (l.set i ⟨m + 2 * i, m + 2 * i + 1⟩) (by simpa using hl) (by omega) (fun j hj hji => by
      rw [List.getElem_set]
      split
      · next e => subst e; rfl
      · exact hh j (by simpa using hj) (by omega))
    refine ⟨r, hr, hh', Ev.step (f := fun k => laws_markPairS.l0 k (l.set i ⟨m + 2 * i, m + 2 * i + 1⟩) (m + 2 * ((i + 1 : Nat) : Int)) ((i + 1 : Nat) : Int)) (fun k => ?_) he⟩
    simp only [laws_markPairS.l0]
    rw [if_pos (by omega), if_pos (by omega), Option.bind_some, wrap_succ hlt (by omega), wrap_id (x := m + 2 * (i : Int) + 1) (by omega) (by omega), wrap_id (by omega) (by omega)]
    simp only [rd_T81, Int.toNat_natCast, List.set_set, List.getD_eq_getElem?_getD, List.getElem?_set_self hlt, Option.getD_some]
    congr 1
    omega
theorem heldPairS_l (m : Int) (r : List PairI) (hm0 : 0 ≤ m) (hm : m + 2 * r.length ≤ 4611686018427387904) (hr : heldPair m r) (d : Nat) : ∀ (i : Nat), i + d = r.length → Ev (fun k => laws_heldPairS.l0 k r (m + 2 * i) i) (m + 2 * r.length) := by
  induction d with
  | zero =>
    intro i hi
    refine Ev.step (f := fun _ => some (m + 2 * r.length)) (fun k => ?_) (Ev.now _)
    simp only [laws_heldPairS.l0]
    rw [if_neg (by omega), show i = r.length by omega]
  | succ d ih =>
    intro i hi
    have hlt : i < r.length := by omega
    refine Ev.step (f := fun k => laws_heldPairS.l0 k r (m + 2 * ((i + 1 : Nat) : Int)) ((i + 1 : Nat) : Int)) (fun k => ?_) (ih (i + 1) (by omega))
    have e := hr i hlt
    simp only [laws_heldPairS.l0]
    rw [if_pos (by omega), if_pos (by omega)]
    simp only [rd_T81, getD_nat r i _ hlt, e, if_true]
    rw [wrap_id (x := m + 2 * (i : Int) + 1) (by omega) (by omega), if_pos rfl, wrap_id (by omega) (by omega), wrap_succ hlt (by omega)]
    congr 1
    omega
theorem markPairS_ev (m : Int) (l : List PairI) (hm0 : 0 ≤ m) (hm : m + 2 * l.length ≤ 4611686018427387904) :
    ∃ r, r.length = l.length ∧ Ev (fun k => laws_markPairS.f k l m) (m + 2 * l.length, r) ∧ Ev (fun k => laws_heldPairS.f k r m) (m + 2 * l.length) := by
  obtain ⟨r, hr, hh, he⟩ := markPairS_l m l.length hm0 hm l.length 0 l rfl (by omega) (fun j _ h => absurd h (Nat.not_lt_zero _))
  refine ⟨r, hr, Ev.congr (fun k => ?_) he, ?_⟩
  · unfold laws_markPairS.f
    simp
  · have h2 := heldPairS_l m r hm0 (by omega) hh r.length 0 (by omega)
    rw [hr] at h2
    refine Ev.congr (fun k => ?_) h2
    unfold laws_heldPairS.f
    simp
end Go.Proofs.Ytmipigipfmcneaa.Q
namespace Go.Proofs.Ytmipigipfmcneaa.Q
open Go.RowKit Go.Proofs.YtmipigipfmcneaaW.PrintWords Go.Proofs.YtmipigipfmcneaaW.PrintLast Go.Proofs.YtmipigipfmcneaaW.PrintMore Go.Proofs.Ytmipigipfmcneaa.X Go.Proofs.Ytmipigipfmcneaa.Rd
set_option linter.unusedVariables false
set_option linter.unusedSimpArgs false
def flipPair (x : PairI) : PairI := ⟨x.f1, x.f0⟩
theorem implTurned_l (l : List PairI) (hl : l.length ≤ 1048576) (d : Nat) : ∀ (i : Nat) (acc : List PairI), i + d = l.length → acc = (l.take i).map flipPair → Ev (fun k => impl_Turned.l0 k acc l l.length i) (l.map flipPair) := by
  induction d with
  | zero =>
    intro i acc hi ha
    rw [List.take_of_length_le (by omega)] at ha
    subst ha
    refine Ev.step (f := fun _ => some (l.map flipPair)) (fun k => ?_) (Ev.now _)
    simp only [impl_Turned.l0]
    rw [if_neg (by omega)]
  | succ d ih =>
    intro i acc hi ha
    have hlt : i < l.length := by omega
    have hal : acc.length = i := by rw [ha]; simp; omega
    refine Ev.step (f := fun k => impl_Turned.l0 k (acc ++ [flipPair l[i]]) l l.length ((i + 1 : Nat) : Int)) (fun k => ?_) (ih (i + 1) (acc ++ [flipPair l[i]]) (by omega) (by rw [take_succ_map flipPair l i hlt, ha]))
    simp only [impl_Turned.l0]
    rw [if_pos (by omega), if_pos (by omega), if_pos (by omega), if_pos (by omega), wrap_succ hlt (by omega)]
    simp only [rd_T81, getD_nat l i _ hlt]
    rfl
theorem implTurned_ev (l : List PairI) (hl : l.length ≤ 1048576) : Ev (fun k => impl_Turned.f k l) (l.map flipPair) :=
  Ev.congr (fun _ => rfl) (implTurned_l l hl l.length 0 [] (by omega) rfl)
end Go.Proofs.Ytmipigipfmcneaa.Q
namespace Go.Proofs.Ytmipigipfmcneaa.Q
open Go.RowKit Go.Proofs.YtmipigipfmcneaaW.PrintWords Go.Proofs.YtmipigipfmcneaaW.PrintLast Go.Proofs.YtmipigipfmcneaaW.PrintMore Go.Proofs.Ytmipigipfmcneaa.X Go.Proofs.Ytmipigipfmcneaa.Rd
set_option linter.unusedVariables false
set_option linter.unusedSimpArgs false
abbrev NodeI := S75
def nd (l : List NodeI) (i : Nat) : NodeI := l.getD i z75
end Go.Proofs.Ytmipigipfmcneaa.Q
namespace Go.Proofs.Ytmipigipfmcneaa.Q
open Go.RowKit Go.Proofs.YtmipigipfmcneaaW.PrintWords Go.Proofs.YtmipigipfmcneaaW.PrintLast Go.Proofs.YtmipigipfmcneaaW.PrintMore Go.Proofs.Ytmipigipfmcneaa.X Go.Proofs.Ytmipigipfmcneaa.Rd
set_option linter.unusedVariables false
set_option linter.unusedSimpArgs false
abbrev NodeL := S77
def toNode (x : NodeL) : NodeI := ⟨x.f0, x.f1⟩
theorem szNodeS_eq (l : List NodeL) (a : Int) (ha : 0 ≤ a) (ha' : a ≤ 1048576) (hl : l.length ≤ 9223372036854775807) :
    laws_szNodeS.f l a = some (if a < l.length then -1 else a - l.length) := by
  unfold laws_szNodeS.f
  rw [wrap_id (by omega) (by omega)]
  by_cases h : a < l.length
  · rw [if_pos (by omega), if_pos h]
  · rw [if_neg (by omega), if_neg h]
theorem toNodeS_l (l : List NodeL) (hl : l.length ≤ 1048576) (d : Nat) : ∀ (i : Nat) (acc : List NodeI), i + d = l.length → acc.length = l.length → acc.take i = (l.take i).map toNode →
    Ev (fun k => laws_toNodeS.l0 k l acc i) (l.map toNode) := by
  induction d with
  | zero =>
    intro i acc hi ha ht
    have : acc = l.map toNode := by
      rw [List.take_of_length_le (by omega), List.take_of_length_le (by omega)] at ht
      exact ht
    subst this
    refine Ev.step (f := fun _ => some (l.map toNode)) (fun k => ?_) (Ev.now _)
    simp only [laws_toNodeS.l0]
    rw [if_neg (by omega)]
  | succ d ih =>
    intro i acc hi ha ht
    have hlt : i < l.length := by omega
    refine Ev.step (f := fun k => laws_toNodeS.l0 k l (acc.set i (toNode l[i])) ((i + 1 : Nat) : Int)) (fun k => ?_) (ih (i + 1) (acc.set i (toNode l[i])) (by omega) (by simpa using ha) ?_)
    · simp only [laws_toNodeS.l0]
      rw [if_pos (by omega), if_pos (by omega)]
      simp only [laws_toNode.f, Option.bind_some]
      rw [if_pos (by omega), wrap_succ hlt (by omega)]
      simp only [rd_T77, Int.toNat_natCast, getD_lt l _ hlt]
      rfl
    · rw [take_succ_map toNode l i hlt, take_succ_append _ i (by simp; omega), List.getElem_set_self, List.take_set_of_le (Nat.le_refl i), ht]
theorem toNodeS_ev (l : List NodeL) (hl : l.length ≤ 1048576) : Ev (fun k => laws_toNodeS.f k l) (l.map toNode) := by
  have h := toNodeS_l l hl l.length 0 (List.replicate l.length z75) (by omega) (by simp) (by simp)
  refine Ev.congr (fun k => ?_) h
  unfold laws_toNodeS.f
  rw [if_pos (by omega), if_pos (by omega), Int.toNat_natCast]
  rfl
theorem eqNodeS_l (l : List NodeI) (hl : l.length ≤ 9223372036854775807) (d : Nat) : ∀ (i : Nat), i + d = l.length → Ev (fun k => laws_eqNodeS.l0 k l l i) true := by
  induction d with
  | zero =>
    intro i hi
    refine Ev.step (f := fun _ => some true) (fun k => ?_) (Ev.now _)
    simp only [laws_eqNodeS.l0]
    rw [if_neg (by omega)]
  | succ d ih =>
    intro i hi
    have hlt : i < l.length := by omega
    refine Ev.step (f := fun k => laws_eqNodeS.l0 k l l ((i + 1 : Nat) : Int)) (fun k => ?_) (ih (i + 1) (by omega))
    simp only [laws_eqNodeS.l0]
    rw [if_pos (by omega), if_pos (by omega), if_pos (by omega)]
    simp only [laws_eqNode.f, if_true, Option.bind_some]
    rw [wrap_succ hlt hl]
theorem eqNodeS_ev (l : List NodeI) (hl : l.length ≤ 9223372036854775807) : Ev (fun k => laws_eqNodeS.f k l l) true := by
  refine Ev.congr (fun k => ?_) (eqNodeS_l l hl l.length 0 (by omega))
  unfold laws_eqNodeS.f
  rw [if_pos rfl]; rfl
def heldNode (m : Int) (l : List NodeI) : Prop := ∀ j, (h : j < l.length) → l[j] = ⟨m + 2 * j, m + 2 * j + 1⟩
theorem markNodeS_l (m : Int) (n : Nat) (hm0 : 0 ≤ m) (hm : m + 2 * n ≤ 4611686018427387904) (d : Nat) : ∀ (i : Nat) (l : List NodeI), l.length = n → i + d = n → (∀ j, (h : j < l.length) → j < i → l[j] = ⟨m + 2 * j, m + 2 * j + 1⟩) →
    ∃ r, r.length = n ∧ heldNode m r ∧ Ev (fun k => laws_markNodeS.l0 k l (m + 2 * i) i) (m + 2 * n, r) := by
  induction d with
  | zero =>
    intro i l hl hi hh
    refine ⟨l, hl, fun j h => hh j h (by omega), Ev.step (f := fun _ => some (m + 2 * n, l)) (fun k => ?_) (Ev.now _)⟩
    simp only [laws_markNodeS.l0]
    rw [if_neg (by omega), show i = n by omega]
  | succ d ih =>
    intro i l hl hi hh
    have hlt : i < l.length := by omega
    obtain ⟨r, hr, hh', he⟩ := ih (i + 1) (l.set i ⟨m + 2 * i, m + 2 * i + 1⟩) (by simpa using hl) (by omega) (fun j hj hji => by
      rw [List.getElem_set]
      split
      · next e => subst e; rfl
      · exact hh j (by simpa using hj) (by omega))
    refine ⟨r, hr, hh', Ev.step (f := fun k => laws_markNodeS.l0 k (l.set i ⟨m + 2 * i, m + 2 * i + 1⟩) (m + 2 * ((i + 1 : Nat) : Int)) ((i + 1 : Nat) : Int)) (fun k => ?_) he⟩
    simp only [laws_markNodeS.l0]
    rw [if_pos (by omega), if_pos (by omega), Option.bind_some, wrap_succ hlt (by omega), wrap_id (x := m + 2 * (i : Int) + 1) (by omega) (by omega), wrap_id (by omega) (by omega)]
    simp only [rd_T75, Int.toNat_natCast, List.set_set, List.getD_eq_getElem?_getD, List.getElem?_set_self hlt, Option.getD_some]
    congr 1
    omega
theorem heldNodeS_l (m : Int) (r : List NodeI) (hm0 : 0 ≤ m) (hm : m + 2 * r.length ≤ 4611686018427387904) (hr : heldNode m r) (d : Nat) : ∀ (i : Nat), i + d = r.length → Ev (fun k => laws_heldNodeS.l0 k r (m + 2 * i) i) (m + 2 * r.length) := by
  induction d with
  | zero =>
    intro i hi
    refine Ev.step (f := fun _ => some (m + 2 * r.length)) (fun k => ?_) (Ev.now _)
    simp only [laws_heldNodeS.l0]
    rw [if_neg (by omega), show i = r.length by omega]
  | succ d ih =>
    intro i hi
    have hlt : i < r.length := by omega
    refine Ev.step (f := fun k => laws_heldNodeS.l0 k r (m + 2 * ((i + 1 : Nat) : Int)) ((i + 1 : Nat) : Int)) (fun k => ?_) (ih (i + 1) (by omega))
    have e := hr i hlt
    simp only [laws_heldNodeS.l0]
    rw [if_pos (by omega), if_pos (by omega)]
    simp only [rd_T75, getD_nat r i _ hlt, e, if_true]
    rw [wrap_id (x := m + 2 * (i : Int) + 1) (by omega) (by omega), if_pos rfl, wrap_id (by omega) (by omega), wrap_succ hlt (by omega)]
    congr 1
    omega
theorem markNodeS_ev (m : Int) (l : List NodeI) (hm0 : 0 ≤ m) (hm : m + 2 * l.length ≤ 4611686018427387904) :
    ∃ r, r.length = l.length ∧ Ev (fun k => laws_markNodeS.f k l m) (m + 2 * l.length, r) ∧ Ev (fun k => laws_heldNodeS.f k r m) (m + 2 * l.length) := by
  obtain ⟨r, hr, hh, he⟩ := markNodeS_l m l.length hm0 hm l.length 0 l rfl (by omega) (fun j _ h => absurd h (Nat.not_lt_zero _))
  refine ⟨r, hr, Ev.congr (fun k => ?_) he, ?_⟩
  · unfold laws_markNodeS.f
    simp
  · have h2 := heldNodeS_l m r hm0 (by omega) hh r.length 0 (by omega)
    rw [hr] at h2
    refine Ev.congr (fun k => ?_) h2
    unfold laws_heldNodeS.f
    simp
end Go.Proofs.Ytmipigipfmcneaa.Q
namespace Go.Proofs.Ytmipigipfmcneaa.Q
open Go.RowKit Go.Proofs.YtmipigipfmcneaaW.PrintWords Go.Proofs.YtmipigipfmcneaaW.PrintLast Go.Proofs.YtmipigipfmcneaaW.PrintMore Go.Proofs.Ytmipigipfmcneaa.X Go.Proofs.Ytmipigipfmcneaa.Rd
set_option linter.unusedVariables false
set_option linter.unusedSimpArgs false
theorem specIsB_l (l : List PairI) (hl : l.length ≤ 9223372036854775807) (x : Int) (d : Nat) : ∀ i : Nat, i + d = l.length → Ev (fun r => spec_l10IsB.l0 r l x i) ((l.drop i).any fun p => p.f1 == x) := by
  induction d with
  | zero =>
    intro i hi
    refine Ev.step (fun _ => rfl) ?_
    simp only [spec_l10IsB.l0]
    rw [List.drop_of_length_le (by omega)]
    exact Ev.ifF (by omega) (Ev.now _)
  | succ d ih =>
    intro i hi
    have hlt : i < l.length := by omega
    refine Ev.step (fun _ => rfl) ?_
    simp only [spec_l10IsB.l0]
    refine Ev.ifT (by omega) (Ev.ifT (by omega) ?_)
    simp only [rd_T81, getD_nat l i _ hlt]
    rw [List.drop_eq_getElem_cons hlt, List.any_cons, wrap_succ hlt hl]
    by_cases c : l[i].f1 = x
    · rw [beq_iff_eq.mpr c, Bool.true_or]
      exact Ev.ifT c (Ev.now _)
    · rw [beq_eq_false_iff_ne.mpr c, Bool.false_or]
      exact Ev.ifF c (ih (i + 1) (by omega))
theorem specIsB_ev (l : List PairI) (hl : l.length ≤ 9223372036854775807) (x : Int) : Ev (fun r => spec_l10IsB.f r l x) ((l.map flipPair).any fun p => p.f0 == x) := by
  rw [List.any_map]
  exact specIsB_l l hl x l.length 0 (by omega)
theorem specMissing_l (l : List NodeI) (m : List PairI) (hl : l.length ≤ 1048576) (hm : m.length ≤ 9223372036854775807) (d : Nat) : ∀ i : Nat, i + d = l.length → Ev (fun r => spec_Missing.l0 r l m (unm (m.map flipPair) i) i) (unm (m.map flipPair) l.length) := by
  induction d with
  | zero =>
    intro i hi
    obtain rfl : i = l.length := by omega
    refine Ev.step (fun _ => rfl) ?_
    simp only [spec_Missing.l0]
    exact Ev.ifF (by omega) (Ev.now _)
  | succ d ih =>
    intro i hi
    have hlt : i < l.length := by omega
    have hn := unm_len (m.map flipPair) i
    have h := ih (i + 1) (by omega)
    refine Ev.step (fun _ => rfl) ?_
    simp only [spec_Missing.l0]
    refine Ev.ifT (by omega) (Ev.bind (specIsB_ev m hm i) ?_)
    rw [wrap_succ hlt (by omega)]
    rw [show unm (m.map flipPair) (i + 1) = if ((m.map flipPair).any fun p => p.f0 == (i : Int)) = true then unm (m.map flipPair) i else unm (m.map flipPair) i ++ [(i : Int)] from rfl] at h
    by_cases c : ((m.map flipPair).any fun p => p.f0 == (i : Int)) = true
    · rw [if_pos c] at h
      exact Ev.ifT c h
    · rw [if_neg c] at h
      exact Ev.ifF c (Ev.ifT (by omega) h)
theorem specMissing_ev (l : List NodeI) (m : List PairI) (hl : l.length ≤ 1048576) (hm : m.length ≤ 9223372036854775807) : Ev (fun r => spec_Missing.f r l m) (unm (m.map flipPair) l.length) :=
  specMissing_l l m hl hm l.length 0 (by omega)
theorem implMissing_ev (l : List NodeI) (m : List PairI) (hl : l.length ≤ 1048576) (hm : m.length ≤ 1048576) : Ev (fun r => impl_Missing.f r l m) (unm (m.map flipPair) l.length) := by
  unfold impl_Missing.f
  exact Ev.bind (implTurned_ev m hm) (Ev.bindC (if_pos hl) (Ev.now _))
end Go.Proofs.Ytmipigipfmcneaa.Q
namespace Go.Proofs.Ytmipigipfmcneaa.Q
open Go.RowKit Go.Proofs.YtmipigipfmcneaaW.PrintWords Go.Proofs.YtmipigipfmcneaaW.PrintLast Go.Proofs.YtmipigipfmcneaaW.PrintMore Go.Proofs.Ytmipigipfmcneaa.X Go.Proofs.Ytmipigipfmcneaa.Rd
set_option linter.unusedVariables false
set_option linter.unusedSimpArgs false
theorem eqIntS_ev (l : List Int) (hl : l.length ≤ 9223372036854775807) : Ev (fun k => laws_eqIntS.f k l l) true := by
  have h := eqLoop laws_eqIntS.l0 (fun _ x y => some (decide (x = y))) 0 (fun k x y i => by
    simp only [laws_eqIntS.l0, Option.bind_some, rd]
    by_cases h : x.getD i.toNat 0 = y.getD i.toNat 0
    · simp only [h, decide_true, if_true]
    · simp only [h, decide_false, if_false, Bool.false_eq_true]) l hl (fun x _ => by simpa using Ev.now true) l.length 0 (by omega)
  refine Ev.congr (fun k => ?_) h
  unfold laws_eqIntS.f
  rw [if_pos rfl]; rfl
end Go.Proofs.Ytmipigipfmcneaa.Q
namespace Go.Proofs.Ytmipigipfmcneaa.Q
open Go.RowKit Go.Proofs.YtmipigipfmcneaaW.PrintWords Go.Proofs.YtmipigipfmcneaaW.PrintLast Go.Proofs.YtmipigipfmcneaaW.PrintMore Go.Proofs.Ytmipigipfmcneaa.X Go.Proofs.Ytmipigipfmcneaa.Rd
set_option linter.unusedVariables false
set_option linter.unusedSimpArgs false
def heldInt (m : Int) (l : List Int) : Prop := ∀ j, (h : j < l.length) → l[j] = m + j
theorem markIntS_l (m : Int) (n : Nat) (hm0 : 0 ≤ m) (hm : m + n ≤ 4611686018427387904) (d : Nat) : ∀ (i : Nat) (l : List Int), l.length = n → i + d = n → (∀ j, (h : j < l.length) → j < i → l[j] = m + j) →
    ∃ r, r.length = n ∧ heldInt m r ∧ Ev (fun k => laws_markIntS.l0 k l (m + i) i) (m + n, r) := by
  induction d with
  | zero =>
    intro i l hl hi hh
    refine ⟨l, hl, fun j h => hh j h (by omega), Ev.step (f := fun _ => some (m + n, l)) (fun k => ?_) (Ev.now _)⟩
    simp only [laws_markIntS.l0]
    rw [if_neg (by omega), show i = n by omega]
  | succ d ih =>
    intro i l hl hi hh
    have hlt : i < l.length := by omega
    obtain ⟨r, hr, hh', he⟩ := ih (i + 1) (l.set i (m + i)) (by simpa using hl) (by omega) (fun j hj hji => by
      rw [List.getElem_set]
      split
      · next e => subst e; rfl
      · exact hh j (by simpa using hj) (by omega))
    refine ⟨r, hr, hh', Ev.step (f := fun k => laws_markIntS.l0 k (l.set i (m + i)) (m + ((i + 1 : Nat) : Int)) ((i + 1 : Nat) : Int)) (fun k => ?_) he⟩
    simp only [laws_markIntS.l0]
    rw [if_pos (by omega), if_pos (by omega), wrap_succ hlt (by omega), wrap_id (x := m + (i : Int) + 1) (by omega) (by omega)]
    simp only [Int.toNat_natCast]
    rw [show m + (i : Int) + 1 = m + ((i + 1 : Nat) : Int) by omega]
theorem heldIntS_l (m : Int) (r : List Int) (hm0 : 0 ≤ m) (hm : m + r.length ≤ 4611686018427387904) (hr : heldInt m r) (d : Nat) : ∀ (i : Nat), i + d = r.length → Ev (fun k => laws_heldIntS.l0 k r (m + i) i) (m + r.length) := by
  induction d with
  | zero =>
    intro i hi
    refine Ev.step (f := fun _ => some (m + r.length)) (fun k => ?_) (Ev.now _)
    simp only [laws_heldIntS.l0]
    rw [if_neg (by omega), show i = r.length by omega]
  | succ d ih =>
    intro i hi
    have hlt : i < r.length := by omega
    refine Ev.step (f := fun k => laws_heldIntS.l0 k r (m + ((i + 1 : Nat) : Int)) ((i + 1 : Nat) : Int)) (fun k => ?_) (ih (i + 1) (by omega))
    have e := hr i hlt
    simp only [laws_heldIntS.l0]
    rw [if_pos (by omega), if_pos (by omega)]
    simp only [rd, getD_nat r i _ hlt, e, if_true]
    rw [wrap_id (x := m + (i : Int) + 1) (by omega) (by omega), wrap_succ hlt (by omega), show m + (i : Int) + 1 = m + ((i + 1 : Nat) : Int) by omega]
theorem markIntS_ev (m : Int) (l : List Int) (hm0 : 0 ≤ m) (hm : m + l.length ≤ 4611686018427387904) :
    ∃ r, r.length = l.length ∧ Ev (fun k => laws_markIntS.f k l m) (m + l.length, r) ∧ Ev (fun k => laws_heldIntS.f k r m) (m + l.length) := by
  obtain ⟨r, hr, hh, he⟩ := markIntS_l m l.length hm0 hm l.length 0 l rfl (by omega) (fun j _ h => absurd h (Nat.not_lt_zero _))
  refine ⟨r, hr, Ev.congr (fun k => ?_) he, ?_⟩
  · unfold laws_markIntS.f
    simp
  · have h2 := heldIntS_l m r hm0 (by omega) hh r.length 0 (by omega)
    rw [hr] at h2
    refine Ev.congr (fun k => ?_) h2
    unfold laws_heldIntS.f
    simp
end Go.Proofs.Ytmipigipfmcneaa.Q
namespace Go.Proofs.Ytmipigipfmcneaa.Q
open Go.RowKit Go.Proofs.YtmipigipfmcneaaW.PrintWords Go.Proofs.YtmipigipfmcneaaW.PrintLast Go.Proofs.YtmipigipfmcneaaW.PrintMore Go.Proofs.Ytmipigipfmcneaa.X Go.Proofs.Ytmipigipfmcneaa.Rd
set_option linter.unusedVariables false
set_option linter.unusedSimpArgs false
theorem FnExactMissing (l : List NodeL) (w : WF29 l) (m : List PairL) (w1 : WF39 m) : ∃ k, laws_FnExactMissing.f k l m = some true := by
  refine Ev.rounds (g := fun k => laws_FnExactMissing.f k l m) ?_
  unfold laws_FnExactMissing.f
  refine Ev.bindC (szNodeS_eq l _ (by omega) (by omega) w.1) ?_
  by_cases h : (1048576 : Int) < l.length
  · rw [if_pos h]
    exact Ev.ifT (by omega) (Ev.now _)
  rw [if_neg h]
  refine Ev.ifF (by omega) (Ev.bindC (szPairS_eq m _ (by omega) (by omega) w1.1) ?_)
  by_cases h2 : (1048576 - (l.length : Int)) < m.length
  · rw [if_pos h2]
    exact Ev.ifT (by omega) (Ev.now _)
  · rw [if_neg h2]
    refine Ev.ifF (by omega) ?_
    have t := toNodeS_ev l (by omega)
    have t1 := toPairS_ev m (by omega)
    have hl : (l.map toNode).length = l.length := by simp
    have hm : (m.map toPair).length = m.length := by simp
    have s := specMissing_ev (l.map toNode) (m.map toPair) (by omega) (by omega)
    have i := implMissing_ev (l.map toNode) (m.map toPair) (by omega) (by omega)
    have hres := unm_len ((m.map toPair).map flipPair) (l.map toNode).length
    generalize unm ((m.map toPair).map flipPair) (l.map toNode).length = res at s i hres
    have hp : res.length ≤ 1048576 := by omega
    have e := eqIntS_ev res (by omega)
    obtain ⟨r1, _, m1, _⟩ := markNodeS_ev 1 (l.map toNode) (by omega) (by omega)
    obtain ⟨r3, _, m3, _⟩ := markPairS_ev (1 + 2 * (l.map toNode).length) (m.map toPair) (by omega) (by omega)
    obtain ⟨r2, _, m2, h2⟩ := markIntS_ev 1 res (by omega) (by omega)
    refine Ev.bind t (Ev.bind t1 (Ev.bind s (Ev.bind t (Ev.bind t1 (Ev.bind i (Ev.bind e (Ev.ifT rfl (Ev.bind t (Ev.bind (eqNodeS_ev _ (by omega)) (Ev.ifT rfl (Ev.bind t1 (Ev.bind (eqPairS_ev _ (by omega)) (Ev.ifT rfl (Ev.bind m1 (Ev.bind m3 (Ev.ifF (by simp only; omega) (Ev.bind e ?_)))))))))))))))))
    refine Ev.step (fun _ => rfl) ?_
    simp only [laws_FnExactMissing.j0]
    refine Ev.ifF (by simp) ?_
    refine Ev.bind m2 (Ev.bind h2 (Ev.ifF (by omega) (Ev.ifT rfl (Ev.bind t (Ev.bind t1 (Ev.bind i (Ev.bind e (Ev.ifT rfl (Ev.bind h2 (Ev.ifF (by omega) (Ev.ifT rfl (Ev.now _))))))))))))
end Go.Proofs.Ytmipigipfmcneaa.Q
