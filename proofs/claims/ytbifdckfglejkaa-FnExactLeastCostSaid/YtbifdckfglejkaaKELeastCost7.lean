/- Part 7 of the proof of FnExactLeastCost: what it needs. -/
import Derived.WalkKit
import Derived.ProofKit
import Derived.OpenShut
import Derived.ShutString
import Derived.ChangeOld
import Derived.Below
import Derived.Deep.Slices
import Derived.Test.YtbifdckfglejkaaKELeastCost3
import Derived.Test.YtbifdckfglejkaaKELeastCost4
import Derived.Test.YtbifdckfglejkaaKELeastCost5
import Derived.Test.YtbifdckfglejkaaKELeastCost6
namespace Go.Proofs.Ytbifdckfglejkaa.Rd
open Go.ChangeShapes Go.WideShapes Go.ChangeAt Go.RowKit Go.Proofs.YtbifdckfglejkaaW.PrintWords
structure Rd (P : Program) (t : TypeId) {α : Type} (d : Kd α) (wf : α → Prop) : Prop where
  size : P.cellsOf t = d.sz
  reads : ∀ {H : Type} {enc : TypeId × Value → H} {w : World} {spare : Nat → Bool} {held : Bool} {fuel : Nat} {cs : List Value} {x : DataW H × List MemPlace},
    DataW.trod enc P w 0 spare held fuel t cs = some x → ∃ y, d.K w y cs ∧ wf y
theorem rd_int {P : Program} {t : TypeId} {k : IntKind} (ht : P.underlying t = some (.int k)) (hc : P.cellsOf t = 1) : Rd P t (Kd.int k) (fun n => (Lit.int k n).wf = true) :=
  ⟨hc, fun h => by
    obtain ⟨n, rfl, _, hw⟩ := DataW.trod_int ht h
    exact ⟨n, rfl, hw⟩⟩
theorem rd_slice {P : Program} {t e : TypeId} {α : Type} [Inhabited α] {d : Kd α} {wf : α → Prop} (ht : P.underlying t = some (.slice e)) (hc : P.cellsOf t = 1) (h : Rd P e d wf) : Rd P t (Kd.slice e d) (fun xs => xs.length ≤ 9223372036854775807 ∧ ∀ x ∈ xs, wf x) :=
  ⟨hc, fun {H enc w spare held fuel cs x} hx => by
    rcases Go.Deep.open_slice ht hx with ⟨rfl, _⟩ | ⟨a, len, cap, m, n, D, Pl, rfl, _, hl, hm, hmm, _, hel⟩
    · exact ⟨[], ⟨none, 0, rfl, Nat.le_refl _, rfl, by simp, fun h => absurd h (Nat.lt_irrefl _)⟩, by simp, by simp⟩
    · have hle : len ≤ m := by rw [hmm]; split <;> omega
      obtain ⟨f, hf⟩ := Go.Deep.choose_lt (n := len) (p := fun i (y : α) => ∃ cs', w.cells? 0 (a.add (i * P.cellsOf e)) (P.cellsOf e) = some cs' ∧ d.K w y cs' ∧ wf y) (fun i hi => by
        obtain ⟨cs', h1, h2⟩ := hel i (by omega)
        obtain ⟨y, hy, hw⟩ := h.reads h2
        exact ⟨y, cs', h1, hy, hw⟩)
      have hlen : ((List.range len).map f).length = len := by simp
      refine ⟨(List.range len).map f, ⟨some a, cap, by rw [hlen], by rw [hlen]; exact hl, ?_⟩, by rw [hlen]; unfold maxLen at hm; omega, ?_⟩
      · refine ⟨rfl, by rw [hlen]; unfold maxLen at hm; omega, fun _ => ⟨a, rfl, fun j p hj => ?_⟩⟩
        have hj' : j < len ∧ f j = p := by
          rw [List.getElem?_map] at hj
          obtain ⟨i, hi, hp⟩ := Option.map_eq_some_iff.1 hj
          have := List.getElem?_eq_some_iff.1 hi
          obtain ⟨h1, h2⟩ := this
          simp at h1 h2
          subst h2
          exact ⟨h1, hp⟩
        obtain ⟨cs', h1, h2, _⟩ := hf j hj'.1
        rw [hj'.2] at h2
        obtain ⟨_, hn, hcell⟩ := World.cells?_some h1
        refine ⟨cs', d.K_len h2, h2, fun i u hu => ?_⟩
        have hi : i < cs'.length := (List.getElem?_eq_some_iff.1 hu).1
        have := hcell i (by omega)
        rw [Go.Deep.add_add, h.size] at this
        rw [this, hu]
      · intro x hx
        obtain ⟨i, hi, rfl⟩ := List.mem_map.1 hx
        obtain ⟨_, _, _, hw⟩ := hf i (by simpa using hi)
        exact hw⟩
structure RdF (P : Program) (o : Nat) (fs : List Field) {α : Type} (d : Kd α) (wf : α → Prop) : Prop where
  reads : ∀ {H : Type} {enc : TypeId × Value → H} {w : World} {spare : Nat → Bool} {held : Bool} {fuel : Nat} {cs : List Value}, o + d.sz ≤ cs.length →
    (∀ f ∈ fs, ∃ x, DataW.trod enc P w 0 spare held fuel f.type ((cs.drop f.offset).take (P.cellsOf f.type)) = some x) → ∃ y, d.K w y ((cs.drop o).take d.sz) ∧ wf y
theorem rdf_one {P : Program} {o : Nat} {f : Field} {α : Type} {d : Kd α} {wf : α → Prop} (ho : f.offset = o) (h : Rd P f.type d wf) : RdF P o [f] d wf :=
  ⟨fun _ hf => by
    obtain ⟨x, hx⟩ := hf f (by simp)
    rw [ho, h.size] at hx
    exact h.reads hx⟩
theorem rdf_cons {P : Program} {o : Nat} {f : Field} {fs : List Field} {α β : Type} {d : Kd α} {d' : Kd β} {wf : α → Prop} {wf' : β → Prop} (ho : f.offset = o) (h : Rd P f.type d wf) (h' : RdF P (o + d.sz) fs d' wf') :
    RdF P o (f :: fs) (Kd.pair d d') (fun x => wf x.1 ∧ wf' x.2) :=
  ⟨fun {H enc w spare held fuel cs} hl hf => by
    have hl' : o + (d.sz + d'.sz) ≤ cs.length := hl
    obtain ⟨x, hx⟩ := hf f (by simp)
    rw [ho, h.size] at hx
    obtain ⟨y, hy, hw⟩ := h.reads hx
    obtain ⟨y', hy', hw'⟩ := h'.reads (cs := cs) (by omega) (fun g hg => hf g (by simp [hg]))
    refine ⟨(y, y'), ⟨_, _, ?_, hy, hy'⟩, hw, hw'⟩
    show (cs.drop o).take (d.sz + d'.sz) = _
    rw [List.take_add, List.drop_drop]⟩
theorem rd_struct {P : Program} {t : TypeId} {fs : Array Field} {α β : Type} {d : Kd α} {wf : α → Prop} (g : β → α) (ht : P.underlying t = some (.struct fs)) (hc : P.cellsOf t = d.sz) (hg : ∀ y, ∃ x, g x = y) (h : RdF P 0 fs.toList d wf) :
    Rd P t (Kd.iso d g) (fun x => wf (g x)) :=
  ⟨hc, fun {H enc w spare held fuel cs x} hx => by
    obtain ⟨xs, n, _, _, hl, hlen, hf⟩ := DataW.trod_struct ht hx
    obtain ⟨y, hy, hw⟩ := h.reads (enc := enc) (w := w) (spare := spare) (held := held) (fuel := n) (cs := cs) (by omega) (fun f hfm => by
      obtain ⟨i, hi, rfl⟩ := List.getElem_of_mem hfm
      have h1 : fs[i]? = some fs[i] := Array.getElem?_eq_getElem (by simpa using hi)
      have h2 := hf i _ h1
      have h3 : i < xs.length := by rw [hlen]; simpa using hi
      rw [List.getElem?_eq_getElem h3] at h2
      exact ⟨_, h2⟩)
    rw [List.drop_zero, List.take_of_length_le (by omega)] at hy
    obtain ⟨z, rfl⟩ := hg y
    exact ⟨z, hy, hw⟩⟩
theorem own : ownKnob Try.prog.godebug = none := by kernel_rfl
theorem laidOut : laidOutB Try.prog = true := by kernel_rfl
end Go.Proofs.Ytbifdckfglejkaa.Rd
namespace Go.Proofs.Ytbifdckfglejkaa.Rd
open Go.ChangeShapes Go.WideShapes Go.ChangeAt Go.RowKit Go.Proofs.YtbifdckfglejkaaW.PrintWords Go.Proofs.Ytbifdckfglejkaa.X
theorem rdt3 : Rd Try.prog 3 (Kd.int .i64) (fun n => (Lit.int .i64 n).wf = true) := rd_int Try.underlying3 (by kernel_rfl)
instance : Inhabited S143 := ⟨z143⟩
def WF39 (xs : (List Int)) : Prop := xs.length ≤ 9223372036854775807 ∧ ∀ x ∈ xs, (Lit.int .i64 x).wf = true
theorem rdt39 : Rd Try.prog 39 (Kd.slice 3 (Kd.int .i64)) WF39 := rd_slice Try.underlying39 (by kernel_rfl) rdt3
def WF120 (x : S120) : Prop := (Lit.int .i64 x.f0).wf = true ∧ (Lit.int .i64 x.f1).wf = true
theorem rdt120 : Rd Try.prog 120 k120 WF120 := rd_struct (fun x : S120 => (x.f0, x.f1)) Try.underlying120 (by kernel_rfl) (fun y => ⟨⟨y.1, y.2⟩, rfl⟩) (rdf_cons rfl rdt3 (rdf_one rfl rdt3))
def WF44 (xs : (List S120)) : Prop := xs.length ≤ 9223372036854775807 ∧ ∀ x ∈ xs, WF120 x
instance : Inhabited S120 := ⟨z120⟩
theorem rdt44 : Rd Try.prog 44 (Kd.slice 120 k120) WF44 := rd_slice Try.underlying44 (by kernel_rfl) rdt120
structure S46 where
  f0 : (List Int)
  f1 : (List Int)
  f2 : (List Int)
def k46 : Kd S46 := Kd.iso (Kd.pair (Kd.slice 3 (Kd.int .i64)) (Kd.pair (Kd.slice 3 (Kd.int .i64)) (Kd.slice 3 (Kd.int .i64)))) (fun x : S46 => (x.f0, x.f1, x.f2))
theorem k46_open {w : World} {x : S46} {cs : List Value} (h : k46.K w x cs) : ∃ A0 c0 A1 c1 A2 c2, cs = [.slice A0 x.f0.length c0, .slice A1 x.f1.length c1, .slice A2 x.f2.length c2] ∧ x.f0.length ≤ c0 ∧ Kd.C (Kd.int .i64) w A0 x.f0.length x.f0 ∧ x.f1.length ≤ c1 ∧ Kd.C (Kd.int .i64) w A1 x.f1.length x.f1 ∧ x.f2.length ≤ c2 ∧ Kd.C (Kd.int .i64) w A2 x.f2.length x.f2 := by
  obtain ⟨_, _, rfl, ⟨A0, c0, rfl, l0, g0⟩, ⟨_, _, rfl, ⟨A1, c1, rfl, l1, g1⟩, ⟨A2, c2, rfl, l2, g2⟩⟩⟩ := h
  exact ⟨A0, c0, A1, c1, A2, c2, rfl, l0, g0, l1, g1, l2, g2⟩
def WF46 (x : S46) : Prop := WF39 x.f0 ∧ WF39 x.f1 ∧ WF39 x.f2
theorem rdt46 : Rd Try.prog 46 k46 WF46 := rd_struct (fun x : S46 => (x.f0, x.f1, x.f2)) Try.underlying46 (by kernel_rfl) (fun y => ⟨⟨y.1, y.2.1, y.2.2⟩, rfl⟩) (rdf_cons rfl rdt39 (rdf_cons rfl rdt39 (rdf_one rfl rdt39)))
instance : Inhabited S124 := ⟨z124⟩
instance : Inhabited S63 := ⟨z63⟩
end Go.Proofs.Ytbifdckfglejkaa.Rd
namespace Go.Proofs.Ytbifdckfglejkaa.Q
open Go.RowKit Go.Proofs.YtbifdckfglejkaaW.PrintWords Go.Proofs.YtbifdckfglejkaaW.PrintLast Go.Proofs.YtbifdckfglejkaaW.PrintMore Go.Proofs.Ytbifdckfglejkaa.X Go.Proofs.Ytbifdckfglejkaa.Rd
set_option linter.unusedVariables false
set_option linter.unusedSimpArgs false
theorem wrap_id {x : Int} (h : -9223372036854775808 ≤ x) (h' : x ≤ 9223372036854775807) : wrap64 x = x := by
  unfold wrap64; omega
theorem wrap_succ {i n : Nat} (h : i < n) (hn : n ≤ 9223372036854775807) : wrap64 ((i : Int) + 1) = ((i + 1 : Nat) : Int) := by
  unfold wrap64; omega
theorem Ev.constOf {α : Type} {o : Option α} {r : α} (h : o = some r) : Ev (fun _ => o) r := ⟨0, fun _ _ => h⟩
theorem Ev.bindC {α β : Type} {o : Option α} {f : Nat → α → Option β} {a : α} {r : β} (h : o = some a) (k : Ev (fun n => f n a) r) : Ev (fun n => o.bind (f n)) r :=
  Ev.bind (Ev.constOf h) k
theorem Ev.ifT {α : Type} {c : Prop} [Decidable c] {g f : Nat → Option α} {r : α} (h : c) (k : Ev g r) : Ev (fun n => if c then g n else f n) r := by
  simpa only [if_pos h] using k
theorem Ev.ifF {α : Type} {c : Prop} [Decidable c] {g f : Nat → Option α} {r : α} (h : ¬ c) (k : Ev f r) : Ev (fun n => if c then g n else f n) r := by
  simpa only [if_neg h] using k
theorem ite_dec {α : Type} {p : Prop} [Decidable p] (a b : α) : (if decide p = true then a else b) = if p then a else b := by
  by_cases h : p <;> simp [h]
theorem getD_nat {α : Type} (xs : List α) (i : Nat) (d : α) (h : i < xs.length) : xs.getD ((i : Int)).toNat d = xs[i] := by
  rw [Int.toNat_natCast, List.getD_eq_getElem?_getD, List.getElem?_eq_getElem h]; rfl
theorem getD_lt {α : Type} (xs : List α) {i : Nat} (d : α) (h : i < xs.length) : xs.getD i d = xs[i] := by
  rw [List.getD_eq_getElem?_getD, List.getElem?_eq_getElem h]; rfl
theorem take_succ_map {α β : Type} (f : α → β) (l : List α) (i : Nat) (h : i < l.length) : (l.take (i + 1)).map f = (l.take i).map f ++ [f l[i]] := by
  rw [List.take_succ_eq_append_getElem h, List.map_append]; rfl
theorem take_succ_append {α : Type} (l : List α) (i : Nat) (h : i < l.length) : l.take (i + 1) = l.take i ++ [l[i]] := List.take_succ_eq_append_getElem h
theorem mapLoop {A B : Type} (F : Nat → List A → List B → Int → Option (List B)) (g : Nat → A → Option B) (h : A → B) (dA : A)
    (hF : ∀ k x acc i, F (k + 1) x acc i = if i < (x.length : Int) then (if 0 ≤ i then ((g k (x.getD i.toNat dA)).bind fun b => if i < (acc.length : Int) then F k x (acc.set i.toNat b) (wrap64 (i + 1)) else none) else none) else some acc)
    (l : List A) (hl : l.length ≤ 9223372036854775807) (hg : ∀ x ∈ l, Ev (fun k => g k x) (h x)) (d : Nat) : ∀ (i : Nat) (acc : List B), i + d = l.length → acc.length = l.length → acc.take i = (l.take i).map h →
    Ev (fun k => F k l acc i) (l.map h) := by
  induction d with
  | zero =>
    intro i acc hi ha ht
    have : acc = l.map h := by
      rw [List.take_of_length_le (by omega), List.take_of_length_le (by omega)] at ht
      exact ht
    subst this
    refine Ev.step (f := fun _ => some (l.map h)) (fun k => ?_) (Ev.now _)
    rw [hF, if_neg (by omega)]
  | succ d ih =>
    intro i acc hi ha ht
    have hlt : i < l.length := by omega
    have hn := ih (i + 1) (acc.set i (h l[i])) (by omega) (by simpa using ha) (by
      rw [take_succ_map h l i hlt, take_succ_append _ i (by simp; omega), List.getElem_set_self, List.take_set_of_le (Nat.le_refl i), ht])
    refine Ev.step (f := fun k => (g k l[i]).bind fun b => F k l (acc.set i b) ((i + 1 : Nat) : Int)) (fun k => ?_) (Ev.bind (hg l[i] (List.getElem_mem hlt)) hn)
    rw [hF, if_pos (by omega), if_pos (by omega), Int.toNat_natCast, getD_lt l _ hlt, wrap_succ hlt hl]
    congr 1
    funext b
    rw [if_pos (by omega)]
theorem mapLoop0 {A B : Type} (F : Nat → List A → List B → Int → Option (List B)) (g : Nat → A → Option B) (h : A → B) (dA : A) (z : B)
    (hF : ∀ k x acc i, F (k + 1) x acc i = if i < (x.length : Int) then (if 0 ≤ i then ((g k (x.getD i.toNat dA)).bind fun b => if i < (acc.length : Int) then F k x (acc.set i.toNat b) (wrap64 (i + 1)) else none) else none) else some acc)
    (l : List A) (hl : l.length ≤ 9223372036854775807) (hg : ∀ x ∈ l, Ev (fun k => g k x) (h x)) : Ev (fun k => F k l (List.replicate l.length z) 0) (l.map h) :=
  mapLoop F g h dA hF l hl hg l.length 0 (List.replicate l.length z) (by omega) (by simp) (by simp)
theorem eqLoop {A : Type} (F : Nat → List A → List A → Int → Option Bool) (e : Nat → A → A → Option Bool) (dA : A)
    (hF : ∀ k x y i, F (k + 1) x y i = if i < (x.length : Int) then (if 0 ≤ i then (if i < (y.length : Int) then ((e k (x.getD i.toNat dA) (y.getD i.toNat dA)).bind fun t => if t = true then F k x y (wrap64 (i + 1)) else some false) else none) else none) else some true)
    (l : List A) (hl : l.length ≤ 9223372036854775807) (he : ∀ x ∈ l, Ev (fun k => e k x x) true) (d : Nat) : ∀ (i : Nat), i + d = l.length → Ev (fun k => F k l l i) true := by
  induction d with
  | zero =>
    intro i hi
    refine Ev.step (f := fun _ => some true) (fun k => ?_) (Ev.now _)
    rw [hF, if_neg (by omega)]
  | succ d ih =>
    intro i hi
    have hlt : i < l.length := by omega
    refine Ev.step (f := fun k => (e k l[i] l[i]).bind fun t => if t = true then F k l l ((i + 1 : Nat) : Int) else some false) (fun k => ?_) (Ev.bind (he l[i] (List.getElem_mem hlt)) ?_)
    · rw [hF, if_pos (by omega), if_pos (by omega), if_pos (by omega), Int.toNat_natCast, getD_lt l _ hlt, wrap_succ hlt hl]
    · exact Ev.ifT rfl (ih (i + 1) (by omega))
end Go.Proofs.Ytbifdckfglejkaa.Q
namespace Go.Proofs.Ytbifdckfglejkaa.Q
open Go.RowKit Go.Proofs.YtbifdckfglejkaaW.PrintWords Go.Proofs.YtbifdckfglejkaaW.PrintLast Go.Proofs.YtbifdckfglejkaaW.PrintMore Go.Proofs.Ytbifdckfglejkaa.X Go.Proofs.Ytbifdckfglejkaa.Rd
set_option linter.unusedVariables false
set_option linter.unusedSimpArgs false
abbrev NodeI := S90
def nd (l : List NodeI) (i : Nat) : NodeI := l.getD i z90
def lab (l : List NodeI) (i : Nat) : Int := (nd l i).f0
def dep (l : List NodeI) (i : Nat) : Int := (nd l i).f1
theorem rd_nd (l : List NodeI) (i : Nat) : rd_T90 l (i : Int) = nd l i := by
  simp [rd_T90, nd]
theorem rd_lab (l : List NodeI) (i : Nat) : (rd_T90 l (i : Int)).f0 = lab l i := by rw [rd_nd]; rfl
theorem rd_dep (l : List NodeI) (i : Nat) : (rd_T90 l (i : Int)).f1 = dep l i := by rw [rd_nd]; rfl
theorem rd_dep0 (l : List NodeI) : (rd_T90 l 0).f1 = dep l 0 := rd_dep l 0
structure Chk (l : List NodeI) (j : Nat) : Prop where
  l0 : 0 ≤ lab l j
  l5 : lab l j ≤ 5
  d0 : 0 ≤ dep l j
  d12 : dep l j ≤ 12
  root : j = 0 → dep l 0 = 0
  pos : 0 < j → 1 ≤ dep l j
  step : 0 < j → dep l j ≤ dep l (j - 1) + 1
structure Tr (l : List NodeI) : Prop where
  len1 : 1 ≤ l.length
  len24 : l.length ≤ 24
  chk : ∀ j, j < l.length → Chk l j
noncomputable def trB (l : List NodeI) : Bool := @decide (Tr l) (Classical.propDecidable _)
theorem trB_iff (l : List NodeI) : trB l = true ↔ Tr l := by
  unfold trB; exact @decide_eq_true_iff _ (Classical.propDecidable _)
theorem trB_false (l : List NodeI) (h : ¬ Tr l) : trB l = false := by
  rw [← Bool.not_eq_true, trB_iff]; exact h
theorem trB_true {l : List NodeI} (h : Tr l) : trB l = true := (trB_iff l).2 h
theorem within_eq (a b c : Int) : impl_within.f a b c = some (decide (b ≤ a ∧ a ≤ c)) := by
  unfold impl_within.f
  by_cases h : b ≤ a <;> simp [h]
theorem l1In_eq (a b c : Int) : spec_l1In.f a b c = some (decide (b ≤ a ∧ a ≤ c)) := by
  unfold spec_l1In.f
  by_cases h : b ≤ a
  · rw [if_pos h]; simp [h]
  · rw [if_neg h]; simp [h]
theorem implLabelOk_eq (a : Int) : impl_LabelOk.f a = some (decide (0 ≤ a ∧ a ≤ 5)) := by
  unfold impl_LabelOk.f; rw [within_eq]; rfl
theorem specLabelOk_eq (a : Int) : spec_LabelOk.f a = some (decide (0 ≤ a ∧ a ≤ 5)) := by
  unfold spec_LabelOk.f; rw [l1In_eq]; rfl
theorem implTreeOk_l (l : List NodeI) (h1 : 1 ≤ l.length) (h24 : l.length ≤ 24) (d : Nat) : ∀ i : Nat, i + d = l.length → (∀ j, j < i → Chk l j) → Ev (fun k => impl_TreeOk.l0 k l l l.length i) (trB l) := by
  induction d with
  | zero =>
    intro i hi hc
    rw [trB_true ⟨h1, h24, fun j hj => hc j (by omega)⟩]
    refine Ev.step (f := fun _ => some true) (fun k => ?_) (Ev.now _)
    simp only [impl_TreeOk.l0]
    rw [if_neg (by omega)]
  | succ d ih =>
    intro i hi hc
    have hlt : i < l.length := by omega
    have no : ¬ Chk l i → trB l = false := fun h => trB_false l fun t => h (t.chk i hlt)
    have e : ∀ k, impl_TreeOk.l0 (k + 1) l l l.length i = if (0 ≤ lab l i ∧ lab l i ≤ 5) then (if 0 ≤ dep l i ∧ dep l i ≤ 12 then ((impl_depthOk.f l i).bind fun t => if t = true then impl_TreeOk.l0 k l l l.length ((i + 1 : Nat) : Int) else some false) else some false) else some false := by
      intro k
      simp only [impl_TreeOk.l0]
      rw [if_pos (by omega), if_pos (by omega), if_pos (by omega), rd_lab, rd_dep, implLabelOk_eq, Option.bind_some, within_eq, wrap_succ hlt (by omega)]
      simp only [ite_dec, Option.bind_some]
    by_cases c1 : 0 ≤ lab l i ∧ lab l i ≤ 5
    · by_cases c2 : 0 ≤ dep l i ∧ dep l i ≤ 12
      · have dk : impl_depthOk.f l i = some (decide ((i = 0 → dep l 0 = 0) ∧ (0 < i → 1 ≤ dep l i ∧ dep l i ≤ dep l (i - 1) + 1))) := by
          unfold impl_depthOk.f
          by_cases c3 : i = 0
          · subst c3
            rw [if_pos (by omega), if_pos (by omega)]
            rw [rd_dep0]
            congr 1
            by_cases c4 : dep l 0 = 0 <;> simp [c4]
          · have hp := hc (i - 1) (by omega)
            have w1 : wrap64 ((i : Int) - 1) = ((i - 1 : Nat) : Int) := by rw [wrap_id (by omega) (by omega)]; omega
            rw [if_neg (by omega), if_pos (by omega), if_pos (by omega), w1, if_pos (by omega), if_pos (by omega), rd_dep, rd_dep, within_eq, Option.bind_some]
            have d12 := hp.d12
            have d0 := hp.d0
            rw [wrap_id (by omega) (by omega)]
            congr 1
            have c5 : 0 < i := by omega
            simp [c3, c5]
        by_cases c3 : (i = 0 → dep l 0 = 0) ∧ (0 < i → 1 ≤ dep l i ∧ dep l i ≤ dep l (i - 1) + 1)
        · refine Ev.step (f := fun k => impl_TreeOk.l0 k l l l.length ((i + 1 : Nat) : Int)) (fun k => ?_) (ih (i + 1) (by omega) (fun j hj => ?_))
          · rw [e, if_pos c1, if_pos c2, dk, Option.bind_some, if_pos (decide_eq_true c3)]
          · by_cases ej : j = i
            · subst ej
              exact ⟨c1.1, c1.2, c2.1, c2.2, c3.1, fun h => (c3.2 h).1, fun h => (c3.2 h).2⟩
            · exact hc j (by omega)
        · rw [no fun h => c3 ⟨h.root, fun hp => ⟨h.pos hp, h.step hp⟩⟩]
          refine Ev.step (f := fun _ => some false) (fun k => ?_) (Ev.now _)
          rw [e, if_pos c1, if_pos c2, dk, Option.bind_some, if_neg (by rw [decide_eq_false c3]; simp)]
      · rw [no fun h => c2 ⟨h.d0, h.d12⟩]
        refine Ev.step (f := fun _ => some false) (fun k => ?_) (Ev.now _)
        rw [e, if_pos c1, if_neg c2]
    · rw [no fun h => c1 ⟨h.l0, h.l5⟩]
      refine Ev.step (f := fun _ => some false) (fun k => ?_) (Ev.now _)
      rw [e, if_neg c1]
theorem implTreeOk_ev (l : List NodeI) : Ev (fun k => impl_TreeOk.f k l) (trB l) := by
  unfold impl_TreeOk.f
  refine Ev.bindC (within_eq _ _ _) ?_
  by_cases h : (1 : Int) ≤ l.length ∧ (l.length : Int) ≤ 24
  · refine Ev.ifT (by simpa using h) ?_
    exact implTreeOk_l l (by omega) (by omega) l.length 0 (by omega) (fun j hj => absurd hj (Nat.not_lt_zero _))
  · rw [trB_false l fun t => h ⟨by have := t.len1; omega, by have := t.len24; omega⟩]
    exact Ev.ifF (by simpa using h) (Ev.now _)
theorem specTreeOk_l (l : List NodeI) (hm : l.length ≤ 9223372036854775807) (d : Nat) : ∀ i : Nat, i + d = l.length → (∀ j, j < i → Chk l j) → Ev (fun k => spec_TreeOk.l0 k l i) (trB l) := by
  induction d with
  | zero =>
    intro i hi hc
    refine Ev.step (f := fun _ => some (trB l)) (fun k => ?_) (Ev.now _)
    simp only [spec_TreeOk.l0]
    rw [if_neg (by omega), l1In_eq]
    simp only [Option.bind_some]
    congr 1
    by_cases h : (1 : Int) ≤ l.length ∧ (l.length : Int) ≤ 24
    · rw [trB_true ⟨by omega, by omega, fun j hj => hc j (by omega)⟩]; simpa using h
    · rw [trB_false l fun t => h ⟨by have := t.len1; omega, by have := t.len24; omega⟩]; simpa using h
  | succ d ih =>
    intro i hi hc
    have hlt : i < l.length := by omega
    have no : ¬ Chk l i → trB l = false := fun h => trB_false l fun t => h (t.chk i hlt)
    have dn : (((dep l i == 0) != ((i : Int) == 0)) = true) ↔ ¬ (dep l i = 0 ↔ i = 0) := by
      rw [bne_iff_ne, ne_eq, Bool.eq_iff_iff, beq_iff_eq, beq_iff_eq, show ((i : Int) = 0 ↔ i = 0) from by omega]
    have e : ∀ k, spec_TreeOk.l0 (k + 1) l i = if (0 ≤ lab l i ∧ lab l i ≤ 5) then (if 0 ≤ dep l i ∧ dep l i ≤ 12 then (if ¬ (dep l i = 0 ↔ i = 0) then some false else if 0 < i ∧ dep l i > dep l (i - 1) + 1 then some false else spec_TreeOk.l0 k l ((i + 1 : Nat) : Int)) else some false) else some false := by
      intro k
      simp only [spec_TreeOk.l0]
      rw [if_pos (by omega), if_pos (by omega), rd_lab, rd_dep, specLabelOk_eq, Option.bind_some, l1In_eq, wrap_succ hlt (by omega)]
      simp only [ite_dec, Option.bind_some, dn]
      by_cases c4 : 0 < i
      · have hp := hc (i - 1) (by omega)
        have d12 := hp.d12
        have d0 := hp.d0
        have w1 : wrap64 ((i : Int) - 1) = ((i - 1 : Nat) : Int) := by rw [wrap_id (by omega) (by omega)]; omega
        rw [w1, rd_dep, wrap_id (x := dep l (i - 1) + 1) (by omega) (by omega), if_pos (show (i : Int) > 0 by omega), if_pos (show (0 : Int) ≤ ((i - 1 : Nat) : Int) by omega), if_pos (show ((i - 1 : Nat) : Int) < (l.length : Int) by omega)]
        simp only [c4, true_and]
      · rw [if_neg (show ¬ (i : Int) > 0 by omega)]
        simp only [c4, false_and, if_false]
    by_cases c1 : 0 ≤ lab l i ∧ lab l i ≤ 5
    · by_cases c2 : 0 ≤ dep l i ∧ dep l i ≤ 12
      · by_cases c3 : (dep l i = 0 ↔ i = 0)
        · by_cases c4 : 0 < i ∧ dep l i > dep l (i - 1) + 1
          · rw [no fun h => by have := h.step c4.1; omega]
            refine Ev.step (f := fun _ => some false) (fun k => ?_) (Ev.now _)
            rw [e, if_pos c1, if_pos c2, if_neg (fun h => h c3), if_pos c4]
          · refine Ev.step (f := fun k => spec_TreeOk.l0 k l ((i + 1 : Nat) : Int)) (fun k => ?_) (ih (i + 1) (by omega) (fun j hj => ?_))
            · rw [e, if_pos c1, if_pos c2, if_neg (fun h => h c3), if_neg c4]
            · by_cases ej : j = i
              · subst ej
                refine ⟨c1.1, c1.2, c2.1, c2.2, fun h => ?_, fun h => ?_, fun h => ?_⟩
                · subst h; exact c3.2 rfl
                · have : ¬ dep l j = 0 := fun z => by have := c3.1 z; omega
                  omega
                · have : ¬ dep l j > dep l (j - 1) + 1 := fun z => c4 ⟨h, z⟩
                  omega
              · exact hc j (by omega)
        · rw [no fun h => c3 ⟨fun z => by
            by_cases q : 0 < i
            · have := h.pos q; omega
            · omega, fun z => by subst z; exact h.root rfl⟩]
          refine Ev.step (f := fun _ => some false) (fun k => ?_) (Ev.now _)
          rw [e, if_pos c1, if_pos c2, if_pos c3]
      · rw [no fun h => c2 ⟨h.d0, h.d12⟩]
        refine Ev.step (f := fun _ => some false) (fun k => ?_) (Ev.now _)
        rw [e, if_pos c1, if_neg c2]
    · rw [no fun h => c1 ⟨h.l0, h.l5⟩]
      refine Ev.step (f := fun _ => some false) (fun k => ?_) (Ev.now _)
      rw [e, if_neg c1]
theorem specTreeOk_ev (l : List NodeI) (hm : l.length ≤ 9223372036854775807) : Ev (fun k => spec_TreeOk.f k l) (trB l) :=
  Ev.congr (fun _ => rfl) (specTreeOk_l l hm l.length 0 (by omega) (fun j hj => absurd hj (Nat.not_lt_zero _)))
noncomputable def hasB (l : List NodeI) (a : Int) : Bool := @decide (Tr l ∧ 0 ≤ a ∧ a < l.length) (Classical.propDecidable _)
theorem hasB_iff (l : List NodeI) (a : Int) : hasB l a = true ↔ (Tr l ∧ 0 ≤ a ∧ a < l.length) := by
  unfold hasB; exact @decide_eq_true_iff _ (Classical.propDecidable _)
theorem hasB_false {l : List NodeI} {a : Int} (h : ¬ (Tr l ∧ 0 ≤ a ∧ a < l.length)) : hasB l a = false := by
  rw [← Bool.not_eq_true, hasB_iff]; exact h
theorem implHas_ev (l : List NodeI) (a : Int) : Ev (fun k => impl_hasNode.f k l a) (hasB l a) := by
  unfold impl_hasNode.f
  refine Ev.bind (implTreeOk_ev l) ?_
  by_cases h : Tr l
  · refine Ev.ifT (trB_true h) (Ev.constOf ?_)
    have := h.len1
    have := h.len24
    rw [wrap_id (by omega) (by omega), within_eq, Option.bind_some]
    congr 1
    rw [Bool.eq_iff_iff, decide_eq_true_iff, hasB_iff]
    exact ⟨fun z => ⟨h, by omega, by omega⟩, fun z => by omega⟩
  · refine Ev.ifF (by rw [trB_false l h]; simp) ?_
    rw [hasB_false fun z => h z.1]
    exact Ev.now _
theorem specAt_ev (l : List NodeI) (hm : l.length ≤ 9223372036854775807) (a : Int) : Ev (fun k => spec_l3At.f k l a) (hasB l a) := by
  unfold spec_l3At.f
  refine Ev.bind (specTreeOk_ev l hm) ?_
  by_cases h : Tr l
  · refine Ev.ifT (trB_true h) (Ev.constOf ?_)
    have := h.len1
    have := h.len24
    rw [wrap_id (by omega) (by omega), l1In_eq, Option.bind_some]
    congr 1
    rw [Bool.eq_iff_iff, decide_eq_true_iff, hasB_iff]
    exact ⟨fun z => ⟨h, by omega, by omega⟩, fun z => by omega⟩
  · refine Ev.ifF (by rw [trB_false l h]; simp) ?_
    rw [hasB_false fun z => h z.1]
    exact Ev.now _
def endFrom (l : List NodeI) (d : Int) : Nat → Nat → Nat
  | 0, e => e
  | n + 1, e => if e < l.length ∧ dep l e > d then endFrom l d n (e + 1) else e
def endN (l : List NodeI) (i : Nat) : Nat := endFrom l (dep l i) l.length (i + 1)
theorem implEndOf_l (l : List NodeI) (hm : l.length ≤ 1048576) (i : Nat) (hi : i < l.length) (n : Nat) : ∀ e : Nat, e ≤ l.length → l.length ≤ e + n → Ev (fun k => impl_endOf.l0 k l i e) (endFrom l (dep l i) n e : Nat) := by
  induction n with
  | zero =>
    intro e h1 h2
    refine Ev.step (f := fun _ => some ((endFrom l (dep l i) 0 e : Nat) : Int)) (fun k => ?_) (Ev.now _)
    simp only [impl_endOf.l0, endFrom]
    rw [if_neg (by omega)]
  | succ n ih =>
    intro e h1 h2
    simp only [endFrom]
    by_cases c : e < l.length ∧ dep l e > dep l i
    · rw [if_pos c]
      refine Ev.step (f := fun k => impl_endOf.l0 k l i ((e + 1 : Nat) : Int)) (fun k => ?_) (ih (e + 1) (by omega) (by omega))
      simp only [impl_endOf.l0]
      rw [if_pos (by omega), if_pos (by omega), if_pos (by omega), if_pos (by omega), rd_dep, rd_dep, if_pos c.2, wrap_succ c.1 (by omega)]
    · rw [if_neg c]
      refine Ev.step (f := fun _ => some (e : Int)) (fun k => ?_) (Ev.now _)
      simp only [impl_endOf.l0]
      by_cases c1 : e < l.length
      · have c2 : ¬ dep l e > dep l i := fun z => c ⟨c1, z⟩
        rw [if_pos (by omega), if_pos (by omega), if_pos (by omega), if_pos (by omega), rd_dep, rd_dep, if_neg c2]
      · rw [if_neg (by omega)]
theorem implEndOf_ev (l : List NodeI) (hm : l.length ≤ 1048576) (i : Nat) (hi : i < l.length) : Ev (fun k => impl_endOf.f k l i) (endN l i : Nat) := by
  unfold impl_endOf.f
  rw [wrap_succ hi (by omega)]
  exact implEndOf_l l hm i hi l.length (i + 1) (by omega) (by omega)
theorem specEndOf_same (l : List NodeI) (a : Int) (k : Nat) : ∀ e : Int, spec_EndOf.l0 k l a e = impl_endOf.l0 k l a e := by
  induction k with
  | zero => intro e; simp only [spec_EndOf.l0, impl_endOf.l0]
  | succ k ih => intro e; simp only [spec_EndOf.l0, impl_endOf.l0, ih]
theorem specEndOf_ev (l : List NodeI) (t : Tr l) (i : Nat) (hi : i < l.length) : Ev (fun k => spec_EndOf.f k l i) (endN l i : Nat) := by
  have := t.len24
  unfold spec_EndOf.f
  refine Ev.bind (specAt_ev l (by omega) i) (Ev.ifT ((hasB_iff _ _).2 ⟨t, by omega, by omega⟩) ?_)
  simp only [specEndOf_same]
  exact implEndOf_ev l (by omega) i hi
theorem has_nat {l : List NodeI} {x : Int} (h : hasB l x = true) : ∃ i : Nat, x = i ∧ i < l.length ∧ l.length ≤ 24 := by
  obtain ⟨t, h0, h1⟩ := (hasB_iff l x).1 h
  obtain ⟨i, rfl⟩ := Int.eq_ofNat_of_zero_le h0
  exact ⟨i, rfl, by omega, t.len24⟩
theorem implEnd_has (l : List NodeI) {x : Int} (h : hasB l x = true) : Ev (fun k => impl_endOf.f k l x) (endN l x.toNat : Nat) := by
  obtain ⟨i, rfl, h1, h2⟩ := has_nat h
  rw [Int.toNat_natCast]
  exact implEndOf_ev l (by omega) i h1
end Go.Proofs.Ytbifdckfglejkaa.Q
namespace Go.Proofs.Ytbifdckfglejkaa.Q
open Go.RowKit Go.Proofs.YtbifdckfglejkaaW.PrintWords Go.Proofs.YtbifdckfglejkaaW.PrintLast Go.Proofs.YtbifdckfglejkaaW.PrintMore Go.Proofs.Ytbifdckfglejkaa.X Go.Proofs.Ytbifdckfglejkaa.Rd
set_option linter.unusedVariables false
set_option linter.unusedSimpArgs false
abbrev NodeL := S120
def toNode (x : NodeL) : NodeI := ⟨x.f0, x.f1⟩
theorem szNodeS_eq (l : List NodeL) (a : Int) (ha : 0 ≤ a) (ha' : a ≤ 1048576) (hl : l.length ≤ 9223372036854775807) :
    laws_szNodeS.f l a = some (if a < l.length then -1 else a - l.length) := by
  unfold laws_szNodeS.f
  rw [wrap_id (by omega) (by omega)]
  by_cases h : a < l.length
  · rw [if_pos (by omega), if_pos h]
  · rw [if_neg (by omega), if_neg h]
theorem toNodeS_l (l : List NodeL) (hl : l.length ≤ 1048576) (d : Nat) : ∀ (i : Nat) (acc : List NodeI), i + d = l.length → acc.length = l.length → acc.take i = (l.take i).map toNode →
    Ev (fun k => laws_toNodeS.l0 k l acc i) (l.map toNode) := by
  induction d with
  | zero =>
    intro i acc hi ha ht
    have : acc = l.map toNode := by
      rw [List.take_of_length_le (by omega), List.take_of_length_le (by omega)] at ht
      exact ht
    subst this
    refine Ev.step (f := fun _ => some (l.map toNode)) (fun k => ?_) (Ev.now _)
    simp only [laws_toNodeS.l0]
    rw [if_neg (by omega)]
  | succ d ih =>
    intro i acc hi ha ht
    have hlt : i < l.length := by omega
    refine Ev.step (f := fun k => laws_toNodeS.l0 k l (acc.set i (toNode l[i])) ((i + 1 : Nat) : Int)) (fun k => ?_) (ih (i + 1) (acc.set i (toNode l[i])) (by omega) (by simpa using ha) ?_)
    · simp only [laws_toNodeS.l0]
      rw [if_pos (by omega), if_pos (by omega)]
      simp only [laws_toNode.f, Option.bind_some]
      rw [if_pos (by omega), wrap_succ hlt (by omega)]
      simp only [rd_T120, Int.toNat_natCast, getD_lt l _ hlt]
      rfl
    · rw [take_succ_map toNode l i hlt, take_succ_append _ i (by simp; omega), List.getElem_set_self, List.take_set_of_le (Nat.le_refl i), ht]
theorem toNodeS_ev (l : List NodeL) (hl : l.length ≤ 1048576) : Ev (fun k => laws_toNodeS.f k l) (l.map toNode) := by
  have h := toNodeS_l l hl l.length 0 (List.replicate l.length z90) (by omega) (by simp) (by simp)
  refine Ev.congr (fun k => ?_) h
  unfold laws_toNodeS.f
  rw [if_pos (by omega), if_pos (by omega), Int.toNat_natCast]
  rfl
theorem eqNodeS_l (l : List NodeI) (hl : l.length ≤ 9223372036854775807) (d : Nat) : ∀ (i : Nat), i + d = l.length → Ev (fun k => laws_eqNodeS.l0 k l l i) true := by
  induction d with
  | zero =>
    intro i hi
    refine Ev.step (f := fun _ => some true) (fun k => ?_) (Ev.now _)
    simp only [laws_eqNodeS.l0]
    rw [if_neg (by omega)]
  | succ d ih =>
    intro i hi
    have hlt : i < l.length := by omega
    refine Ev.step (f := fun k => laws_eqNodeS.l0 k l l ((i + 1 : Nat) : Int)) (fun k => ?_) (ih (i + 1) (by omega))
    simp only [laws_eqNodeS.l0]
    rw [if_pos (by omega), if_pos (by omega), if_pos (by omega)]
    simp only [laws_eqNode.f, if_true, Option.bind_some]
    rw [wrap_succ hlt hl]
theorem eqNodeS_ev (l : List NodeI) (hl : l.length ≤ 9223372036854775807) : Ev (fun k => laws_eqNodeS.f k l l) true := by
  refine Ev.congr (fun k => ?_) (eqNodeS_l l hl l.length 0 (by omega))
  unfold laws_eqNodeS.f
  rw [if_pos rfl]; rfl
end Go.Proofs.Ytbifdckfglejkaa.Q
namespace Go.Proofs.Ytbifdckfglejkaa.Q
open Go.RowKit Go.Proofs.YtbifdckfglejkaaW.PrintWords Go.Proofs.YtbifdckfglejkaaW.PrintLast Go.Proofs.YtbifdckfglejkaaW.PrintMore Go.Proofs.Ytbifdckfglejkaa.X Go.Proofs.Ytbifdckfglejkaa.Rd
set_option linter.unusedVariables false
set_option linter.unusedSimpArgs false
theorem toIntS_ev (l : List Int) (hl : l.length ≤ 1048576) : Ev (fun k => laws_toIntS.f k l) l := by
  have h := mapLoop0 laws_toIntS.l0 (fun _ x => some x) (fun x => x) 0 0 (fun k x acc i => by simp only [laws_toIntS.l0, Option.bind_some, rd]) l (by omega) (fun x _ => Ev.now x)
  rw [List.map_id'] at h
  refine Ev.congr (fun k => ?_) h
  unfold laws_toIntS.f
  rw [if_pos (by omega), if_pos (by omega), Int.toNat_natCast]
theorem eqIntS_ev (l : List Int) (hl : l.length ≤ 9223372036854775807) : Ev (fun k => laws_eqIntS.f k l l) true := by
  have h := eqLoop laws_eqIntS.l0 (fun _ x y => some (decide (x = y))) 0 (fun k x y i => by
    simp only [laws_eqIntS.l0, Option.bind_some, rd]
    by_cases h : x.getD i.toNat 0 = y.getD i.toNat 0
    · simp only [h, decide_true, if_true]
    · simp only [h, decide_false, if_false, Bool.false_eq_true]) l hl (fun x _ => by simpa using Ev.now true) l.length 0 (by omega)
  refine Ev.congr (fun k => ?_) h
  unfold laws_eqIntS.f
  rw [if_pos rfl]; rfl
end Go.Proofs.Ytbifdckfglejkaa.Q
namespace Go.Proofs.Ytbifdckfglejkaa.Q
open Go.RowKit Go.Proofs.YtbifdckfglejkaaW.PrintWords Go.Proofs.YtbifdckfglejkaaW.PrintLast Go.Proofs.YtbifdckfglejkaaW.PrintMore Go.Proofs.Ytbifdckfglejkaa.X Go.Proofs.Ytbifdckfglejkaa.Rd
set_option linter.unusedVariables false
set_option linter.unusedSimpArgs false
theorem szIntS_eq (l : List Int) (a : Int) (ha : 0 ≤ a) (ha' : a ≤ 1048576) (hl : l.length ≤ 9223372036854775807) :
    laws_szIntS.f l a = some (if a < l.length then -1 else a - l.length) := by
  unfold laws_szIntS.f
  rw [wrap_id (by omega) (by omega)]
  by_cases h : a < l.length
  · rw [if_pos (by omega), if_pos h]
  · rw [if_neg (by omega), if_neg h]
end Go.Proofs.Ytbifdckfglejkaa.Q
namespace Go.Proofs.Ytbifdckfglejkaa.Q
open Go.RowKit Go.Proofs.YtbifdckfglejkaaW.PrintWords Go.Proofs.YtbifdckfglejkaaW.PrintLast Go.Proofs.YtbifdckfglejkaaW.PrintMore Go.Proofs.Ytbifdckfglejkaa.X Go.Proofs.Ytbifdckfglejkaa.Rd
set_option linter.unusedVariables false
set_option linter.unusedSimpArgs false
abbrev CostL := S46
theorem szCost_eq (d i r : List Int) (a : Int) (ha : 0 ≤ a) (ha' : a ≤ 1048576) (hd : d.length ≤ 9223372036854775807) (hi : i.length ≤ 9223372036854775807) (hr : r.length ≤ 9223372036854775807) :
    ∃ z, laws_szCost.f d i r a = some z ∧ (z < 0 ∨ (0 ≤ z ∧ z = a - d.length - i.length - r.length)) := by
  unfold laws_szCost.f
  rw [szIntS_eq d a ha ha' hd, Option.bind_some]
  by_cases h1 : a < d.length
  · rw [if_pos h1, if_pos (by omega)]
    exact ⟨_, rfl, .inl (by omega)⟩
  rw [if_neg h1, if_neg (by omega), szIntS_eq i _ (by omega) (by omega) hi, Option.bind_some]
  by_cases h2 : a - d.length < i.length
  · rw [if_pos h2, if_pos (by omega)]
    exact ⟨_, rfl, .inl (by omega)⟩
  rw [if_neg h2, if_neg (by omega), szIntS_eq r _ (by omega) (by omega) hr, Option.bind_some]
  by_cases h3 : a - d.length - i.length < r.length
  · rw [if_pos h3, if_pos (by omega)]
    exact ⟨_, rfl, .inl (by omega)⟩
  · rw [if_neg h3, if_neg (by omega)]
    exact ⟨_, rfl, .inr ⟨by omega, rfl⟩⟩
theorem toCost_ev (d i r : List Int) (hd : d.length ≤ 1048576) (hi : i.length ≤ 1048576) (hr : r.length ≤ 1048576) : Ev (fun k => laws_toCost.f k d i r) (d, i, r) :=
  Ev.bind (toIntS_ev d hd) (Ev.bind (toIntS_ev i hi) (Ev.bind (toIntS_ev r hr) (Ev.now _)))
theorem eqCost_ev (d i r : List Int) (hd : d.length ≤ 9223372036854775807) (hi : i.length ≤ 9223372036854775807) (hr : r.length ≤ 9223372036854775807) : Ev (fun k => laws_eqCost.f k d i r d i r) true :=
  Ev.bind (eqIntS_ev d hd) (Ev.ifT rfl (Ev.bind (eqIntS_ev i hi) (Ev.ifT rfl (Ev.bind (eqIntS_ev r hr) (Ev.ifT rfl (Ev.now _))))))
end Go.Proofs.Ytbifdckfglejkaa.Q
namespace Go.Proofs.Ytbifdckfglejkaa.Q
open Go.RowKit Go.Proofs.YtbifdckfglejkaaW.PrintWords Go.Proofs.YtbifdckfglejkaaW.PrintLast Go.Proofs.YtbifdckfglejkaaW.PrintMore Go.Proofs.Ytbifdckfglejkaa.X Go.Proofs.Ytbifdckfglejkaa.Rd
abbrev PairI := S122
end Go.Proofs.Ytbifdckfglejkaa.Q
namespace Go.Proofs.Ytbifdckfglejkaa.Q
open Go.RowKit Go.Proofs.YtbifdckfglejkaaW.PrintWords Go.Proofs.YtbifdckfglejkaaW.PrintLast Go.Proofs.YtbifdckfglejkaaW.PrintMore Go.Proofs.Ytbifdckfglejkaa.X Go.Proofs.Ytbifdckfglejkaa.Rd
set_option linter.unusedVariables false
set_option linter.unusedSimpArgs false
def pr (m : List PairI) (i : Nat) : PairI := m.getD i z122
def pA (m : List PairI) (i : Nat) : Int := (pr m i).f0
def pB (m : List PairI) (i : Nat) : Int := (pr m i).f1
theorem rd_pA (m : List PairI) (i : Nat) : (rd_T122 m (i : Int)).f0 = pA m i := by simp [rd_T122, pA, pr]
theorem rd_pB (m : List PairI) (i : Nat) : (rd_T122 m (i : Int)).f1 = pB m i := by simp [rd_T122, pB, pr]
structure Good (a b : List NodeI) (m : List PairI) (i : Nat) : Prop where
  hA : hasB a (pA m i) = true
  hB : hasB b (pB m i) = true
  lA : ∀ k, k < i → pA m k < pA m i
  lB : ∀ k, k < i → pB m k < pB m i
  un : ∀ k, k < i → (pA m i < endN a (pA m k).toNat ↔ pB m i < endN b (pB m k).toNat)
structure MOk (a b : List NodeI) (m : List PairI) : Prop where
  ta : Tr a
  tb : Tr b
  good : ∀ i, i < m.length → Good a b m i
noncomputable def mapB (a b : List NodeI) (m : List PairI) : Bool := @decide (MOk a b m) (Classical.propDecidable _)
theorem mapB_iff (a b : List NodeI) (m : List PairI) : mapB a b m = true ↔ MOk a b m := by
  unfold mapB; exact @decide_eq_true_iff _ (Classical.propDecidable _)
theorem mapB_false {a b : List NodeI} {m : List PairI} (h : ¬ MOk a b m) : mapB a b m = false := by
  rw [← Bool.not_eq_true, mapB_iff]; exact h
theorem implMap_l1 (a b : List NodeI) (m : List PairI) (hm : m.length ≤ 1048576) (i : Nat) (hi : i < m.length) (hg : ∀ j, j < i → Good a b m j)
    (hA : hasB a (pA m i) = true) (hB : hasB b (pB m i) = true) (lA : ∀ k, k < i → pA m k < pA m i) (lB : ∀ k, k < i → pB m k < pB m i)
    (hn : Good a b m i → Ev (fun r => impl_MapOk.l0 r a b m m m.length ((i + 1 : Nat) : Int)) (mapB a b m)) (d : Nat) :
    ∀ k : Nat, k + d = i → (∀ q, q < k → (pA m i < endN a (pA m q).toNat ↔ pB m i < endN b (pB m q).toNat)) → Ev (fun r => impl_MapOk.l1 r a b m m m.length i (m.take i) (m.take i).length k (pA m i) (pB m i)) (mapB a b m) := by
  have hl : (m.take i).length = i := by simp; omega
  induction d with
  | zero =>
    intro k hk hq
    have e : k = i := by omega
    subst e
    refine Ev.step (fun _ => rfl) ?_
    simp only [impl_MapOk.l1, hl]
    rw [wrap_succ hi (by omega)]
    exact Ev.ifF (by omega) (hn ⟨hA, hB, lA, lB, hq⟩)
  | succ d ih =>
    intro k hk hq
    have gk := hg k (by omega)
    have tk : (rd_T122 (m.take i) (k : Int)) = pr m k := by
      simp only [rd_T122, pr, Int.toNat_natCast, List.getD_eq_getElem?_getD]
      rw [List.getElem?_take_of_lt (by omega)]
    refine Ev.step (fun _ => rfl) ?_
    simp only [impl_MapOk.l1, hl, tk]
    rw [wrap_succ (show k < i by omega) (by omega)]
    refine Ev.ifT (by omega) (Ev.ifT (by omega) (Ev.ifT (by omega) (Ev.bind (implEnd_has a gk.hA) (Ev.bind (implEnd_has b gk.hB) ?_))))
    by_cases c : (pA m i < endN a (pA m k).toNat ↔ pB m i < endN b (pB m k).toNat)
    · have := ih (k + 1) (by omega) (fun q hq' => by
        by_cases e : q = k
        · subst e; exact c
        · exact hq q (by omega))
      simp only [hl] at this
      refine Ev.ifF ?_ this
      rw [bne_iff_ne, ne_eq, Bool.eq_iff_iff, decide_eq_true_iff, decide_eq_true_iff]
      exact fun z => z c
    · rw [mapB_false fun z => c ((z.good i hi).un k (by omega))]
      refine Ev.ifT ?_ (Ev.now _)
      rw [bne_iff_ne, ne_eq, Bool.eq_iff_iff, decide_eq_true_iff, decide_eq_true_iff]
      exact c
theorem implMap_l0 (a b : List NodeI) (ta : Tr a) (tb : Tr b) (m : List PairI) (hm : m.length ≤ 1048576) (d : Nat) : ∀ i : Nat, i + d = m.length → (∀ j, j < i → Good a b m j) → Ev (fun r => impl_MapOk.l0 r a b m m m.length i) (mapB a b m) := by
  induction d with
  | zero =>
    intro i hi hg
    refine Ev.step (fun _ => rfl) ?_
    simp only [impl_MapOk.l0]
    rw [(mapB_iff a b m).2 ⟨ta, tb, fun j hj => hg j (by omega)⟩]
    exact Ev.ifF (by omega) (Ev.now _)
  | succ d ih =>
    intro i hi hg
    have hlt : i < m.length := by omega
    have no : Nat → ¬ Good a b m i → Ev (fun r => impl_MapOk.j2 r a b m i m m.length i true (pA m i) (pB m i)) (mapB a b m) := fun _ h => by
      rw [mapB_false fun z => h (z.good i hlt)]
      refine Ev.step (fun _ => rfl) ?_
      simp only [impl_MapOk.j2]
      exact Ev.ifT trivial (Ev.now _)
    refine Ev.step (fun _ => rfl) ?_
    simp only [impl_MapOk.l0, rd_pA, rd_pB]
    refine Ev.ifT (by omega) (Ev.ifT (by omega) (Ev.ifT (by omega) (Ev.bind (implHas_ev a _) ?_)))
    by_cases hA : hasB a (pA m i) = true
    · refine Ev.ifT hA (Ev.bind (implHas_ev b _) ?_)
      by_cases hB : hasB b (pB m i) = true
      · refine Ev.ifT hB ?_
        have go : (∀ k, k < i → pA m k < pA m i) → (∀ k, k < i → pB m k < pB m i) → Ev (fun r => impl_MapOk.j2 r a b m i m m.length i false (pA m i) (pB m i)) (mapB a b m) := fun lA lB => by
          refine Ev.step (fun _ => rfl) ?_
          simp only [impl_MapOk.j2, Option.bind_some, Int.toNat_natCast]
          refine Ev.ifF (by simp) (Ev.ifT (by omega) (Ev.ifT (by omega) ?_))
          exact implMap_l1 a b m hm i hlt hg hA hB lA lB (fun g => ih (i + 1) (by omega) (fun j hj => by
            by_cases e : j = i
            · subst e; exact g
            · exact hg j (by omega))) i 0 (by omega) (fun q hq => absurd hq (Nat.not_lt_zero _))
        by_cases c : 0 < i
        · have w1 : wrap64 ((i : Int) - 1) = ((i - 1 : Nat) : Int) := by rw [wrap_id (by omega) (by omega)]; omega
          rw [w1]
          simp only [rd_pA, rd_pB]
          refine Ev.ifT (by omega) (Ev.ifT (by omega) (Ev.ifT (by omega) ?_))
          have gp := hg (i - 1) (by omega)
          by_cases cA : pA m i ≤ pA m (i - 1)
          · exact Ev.ifT cA (no 0 fun g => by have := g.lA (i - 1) (by omega); omega)
          · refine Ev.ifF cA ?_
            by_cases cB : pB m i ≤ pB m (i - 1)
            · rw [decide_eq_true cB]
              exact no 0 fun g => by have := g.lB (i - 1) (by omega); omega
            · rw [decide_eq_false cB]
              refine go (fun k hk => ?_) (fun k hk => ?_)
              · by_cases e : k = i - 1
                · subst e; omega
                · have := gp.lA k (by omega); omega
              · by_cases e : k = i - 1
                · subst e; omega
                · have := gp.lB k (by omega); omega
        · refine Ev.ifF (by omega) (go (fun k hk => by omega) (fun k hk => by omega))
      · exact Ev.ifF hB (no 0 fun g => hB g.hB)
    · exact Ev.ifF hA (no 0 fun g => hA g.hA)
theorem implMapOk_ev (a b : List NodeI) (m : List PairI) (hm : m.length ≤ 1048576) : Ev (fun r => impl_MapOk.f r a b m) (mapB a b m) := by
  unfold impl_MapOk.f
  have no : ¬ (Tr a ∧ Tr b) → Ev (fun r => impl_MapOk.j0 r a b m true) (mapB a b m) := fun h => by
    rw [mapB_false fun z => h ⟨z.ta, z.tb⟩]
    refine Ev.step (fun _ => rfl) ?_
    simp only [impl_MapOk.j0]
    exact Ev.ifT trivial (Ev.now _)
  refine Ev.bind (implTreeOk_ev a) ?_
  by_cases ta : Tr a
  · refine Ev.ifT (trB_true ta) (Ev.bind (implTreeOk_ev b) ?_)
    by_cases tb : Tr b
    · rw [trB_true tb]
      refine Ev.step (fun _ => rfl) ?_
      simp only [impl_MapOk.j0]
      exact Ev.ifF (by simp) (implMap_l0 a b ta tb m hm m.length 0 (by omega) (fun j h => absurd h (Nat.not_lt_zero _)))
    · rw [trB_false b tb]
      exact no fun z => tb z.2
  · refine Ev.ifF (by rw [trB_false a ta]; simp) (no fun z => ta z.1)
theorem specUnder_ev (l : List NodeI) (hm : l.length ≤ 9223372036854775807) {x y : Int} (hx : hasB l x = true) (hy : hasB l y = true) (hxy : x < y) : Ev (fun r => spec_Under.f r l x y) (decide (y < endN l x.toNat)) := by
  unfold spec_Under.f
  have t := ((hasB_iff l x).1 hx).1
  obtain ⟨i, rfl, h1, h2⟩ := has_nat hx
  rw [Int.toNat_natCast]
  refine Ev.bind (specAt_ev l hm _) (Ev.ifT hx (Ev.bind (specAt_ev l hm _) (Ev.ifT hy (Ev.ifT (by omega) (Ev.bind (specEndOf_ev l t i h1) (Ev.now _))))))
theorem specMap_l1 (a b : List NodeI) (m : List PairI) (hla : a.length ≤ 9223372036854775807) (hlb : b.length ≤ 9223372036854775807) (hm : m.length ≤ 1048576) (i : Nat) (hi : i < m.length) (hg : ∀ j, j < i → Good a b m j)
    (hA : hasB a (pA m i) = true) (hB : hasB b (pB m i) = true) (lA : ∀ k, k < i → pA m k < pA m i)
    (hn : Good a b m i → Ev (fun r => spec_MapOk.l0 r a b m ((i + 1 : Nat) : Int)) (mapB a b m)) (d : Nat) :
    ∀ k : Nat, k + d = i → (∀ q, q < k → pB m q < pB m i ∧ (pA m i < endN a (pA m q).toNat ↔ pB m i < endN b (pB m q).toNat)) → Ev (fun r => spec_MapOk.l1 r a b m i k) (mapB a b m) := by
  induction d with
  | zero =>
    intro k hk hq
    have e : k = i := by omega
    subst e
    refine Ev.step (fun _ => rfl) ?_
    simp only [spec_MapOk.l1]
    rw [wrap_succ hi (by omega)]
    exact Ev.ifF (by omega) (hn ⟨hA, hB, lA, fun q h => (hq q h).1, fun q h => (hq q h).2⟩)
  | succ d ih =>
    intro k hk hq
    have gk := hg k (by omega)
    refine Ev.step (fun _ => rfl) ?_
    simp only [spec_MapOk.l1, rd_pA, rd_pB]
    rw [wrap_succ (show k < i by omega) (by omega)]
    refine Ev.ifT (by omega) (Ev.ifT (by omega) (Ev.ifT (by omega) (Ev.ifT (by omega) (Ev.ifT (by omega) ?_))))
    by_cases cB : pB m k ≥ pB m i
    · rw [mapB_false fun z => by have := (z.good i hi).lB k (by omega); omega]
      exact Ev.ifT cB (Ev.now _)
    · refine Ev.ifF cB (Ev.bind (specUnder_ev a hla gk.hA hA (lA k (by omega))) (Ev.bind (specUnder_ev b hlb gk.hB hB (by omega)) ?_))
      by_cases c : (pA m i < endN a (pA m k).toNat ↔ pB m i < endN b (pB m k).toNat)
      · refine Ev.ifF ?_ (ih (k + 1) (by omega) (fun q hq' => by
          by_cases e : q = k
          · subst e; exact ⟨by omega, c⟩
          · exact hq q (by omega)))
        rw [bne_iff_ne, ne_eq, Bool.eq_iff_iff, decide_eq_true_iff, decide_eq_true_iff]
        exact fun z => z c
      · rw [mapB_false fun z => c ((z.good i hi).un k (by omega))]
        refine Ev.ifT ?_ (Ev.now _)
        rw [bne_iff_ne, ne_eq, Bool.eq_iff_iff, decide_eq_true_iff, decide_eq_true_iff]
        exact c
theorem specMap_l0 (a b : List NodeI) (m : List PairI) (hla : a.length ≤ 9223372036854775807) (hlb : b.length ≤ 9223372036854775807) (hm : m.length ≤ 1048576) (d : Nat) : ∀ i : Nat, i + d = m.length → (∀ j, j < i → Good a b m j) → Ev (fun r => spec_MapOk.l0 r a b m i) (mapB a b m) := by
  induction d with
  | zero =>
    intro i hi hg
    refine Ev.step (fun _ => rfl) ?_
    simp only [spec_MapOk.l0]
    refine Ev.ifF (by omega) (Ev.bind (specTreeOk_ev a hla) ?_)
    by_cases ta : Tr a
    · refine Ev.ifT (trB_true ta) (Ev.bind (specTreeOk_ev b hlb) ?_)
      by_cases tb : Tr b
      · rw [trB_true tb, (mapB_iff a b m).2 ⟨ta, tb, fun j hj => hg j (by omega)⟩]
        exact Ev.now _
      · rw [trB_false b tb, mapB_false fun z => tb z.tb]
        exact Ev.now _
    · rw [mapB_false fun z => ta z.ta]
      exact Ev.ifF (by rw [trB_false a ta]; simp) (Ev.now _)
  | succ d ih =>
    intro i hi hg
    have hlt : i < m.length := by omega
    have no : ¬ Good a b m i → Ev (fun r => spec_MapOk.j1 r a b m i true) (mapB a b m) := fun h => by
      rw [mapB_false fun z => h (z.good i hlt)]
      refine Ev.step (fun _ => rfl) ?_
      simp only [spec_MapOk.j1]
      exact Ev.ifT trivial (Ev.now _)
    refine Ev.step (fun _ => rfl) ?_
    simp only [spec_MapOk.l0, rd_pA, rd_pB]
    refine Ev.ifT (by omega) (Ev.ifT (by omega) (Ev.bind (specAt_ev a hla _) ?_))
    by_cases hA : hasB a (pA m i) = true
    · refine Ev.ifT hA (Ev.bind (specAt_ev b hlb _) ?_)
      by_cases hB : hasB b (pB m i) = true
      · refine Ev.ifT hB ?_
        have go : (∀ k, k < i → pA m k < pA m i) → Ev (fun r => spec_MapOk.j1 r a b m i false) (mapB a b m) := fun lA => by
          refine Ev.step (fun _ => rfl) ?_
          simp only [spec_MapOk.j1]
          refine Ev.ifF (by simp) ?_
          exact specMap_l1 a b m hla hlb hm i hlt hg hA hB lA (fun g => ih (i + 1) (by omega) (fun j hj => by
            by_cases e : j = i
            · subst e; exact g
            · exact hg j (by omega))) i 0 (by omega) (fun q hq => absurd hq (Nat.not_lt_zero _))
        by_cases c : 0 < i
        · have w1 : wrap64 ((i : Int) - 1) = ((i - 1 : Nat) : Int) := by rw [wrap_id (by omega) (by omega)]; omega
          rw [w1]
          simp only [rd_pA, rd_pB]
          refine Ev.ifT (by omega) (Ev.ifT (by omega) (Ev.ifT (by omega) ?_))
          have gp := hg (i - 1) (by omega)
          by_cases cA : pA m i ≤ pA m (i - 1)
          · rw [decide_eq_true cA]
            exact no fun g => by have := g.lA (i - 1) (by omega); omega
          · rw [decide_eq_false cA]
            refine go (fun k hk => ?_)
            by_cases e : k = i - 1
            · subst e; omega
            · have := gp.lA k (by omega); omega
        · refine Ev.ifF (by omega) (go (fun k hk => by omega))
      · exact Ev.ifF hB (no fun g => hB g.hB)
    · exact Ev.ifF hA (no fun g => hA g.hA)
theorem specMapOk_ev (a b : List NodeI) (m : List PairI) (hla : a.length ≤ 9223372036854775807) (hlb : b.length ≤ 9223372036854775807) (hm : m.length ≤ 1048576) : Ev (fun r => spec_MapOk.f r a b m) (mapB a b m) :=
  Ev.congr (fun _ => rfl) (specMap_l0 a b m hla hlb hm m.length 0 (by omega) (fun j h => absurd h (Nat.not_lt_zero _)))
end Go.Proofs.Ytbifdckfglejkaa.Q
namespace Go.Proofs.Ytbifdckfglejkaa.Q
open Go.RowKit Go.Proofs.YtbifdckfglejkaaW.PrintWords Go.Proofs.YtbifdckfglejkaaW.PrintLast Go.Proofs.YtbifdckfglejkaaW.PrintMore Go.Proofs.Ytbifdckfglejkaa.X Go.Proofs.Ytbifdckfglejkaa.Rd
set_option linter.unusedVariables false
set_option linter.unusedSimpArgs false
def inRow (l : List Int) (n : Int) : Bool := decide ((l.length : Int) = n) && !(l.any (outP 1000))
theorem inRow_iff {l : List Int} {n : Int} : inRow l n = true ↔ (l.length : Int) = n ∧ ∀ x ∈ l, 0 ≤ x ∧ x ≤ 1000 := by
  unfold inRow
  rw [Bool.and_eq_true, decide_eq_true_eq, Bool.not_eq_true', List.any_eq_false]
  refine and_congr_right fun _ => forall_congr' fun x => forall_congr' fun _ => ?_
  unfold outP
  simp
def diagFrom (r : List Int) : Nat → Nat → Bool
  | 0, _ => true
  | d + 1, a => if r.getD (7 * a) 0 = 0 then diagFrom r d (a + 1) else false
def costB (d i r : List Int) : Bool := inRow d 6 && inRow i 6 && inRow r 36 && diagFrom r 6 0
structure Co (d i r : List Int) : Prop where
  dl : d.length = 6
  il : i.length = 6
  rl : r.length = 36
  dp : ∀ x ∈ d, 0 ≤ x ∧ x ≤ 1000
  ip : ∀ x ∈ i, 0 ≤ x ∧ x ≤ 1000
  rp : ∀ x ∈ r, 0 ≤ x ∧ x ≤ 1000
  diag : ∀ a : Nat, a < 6 → r.getD (7 * a) 0 = 0
theorem diagFrom_iff (r : List Int) (d : Nat) : ∀ a, diagFrom r d a = true ↔ ∀ b, a ≤ b → b < a + d → r.getD (7 * b) 0 = 0 := by
  induction d with
  | zero => intro a; simp only [diagFrom, true_iff]; intro b h1 h2; omega
  | succ d ih =>
    intro a
    simp only [diagFrom]
    by_cases c : r.getD (7 * a) 0 = 0
    · rw [if_pos c, ih (a + 1)]
      constructor
      · intro h b h1 h2
        by_cases e : b = a
        · subst e; exact c
        · exact h b (by omega) (by omega)
      · intro h b h1 h2
        exact h b (by omega) (by omega)
    · rw [if_neg c]
      simp only [Bool.false_eq_true, false_iff]
      intro h
      exact c (h a (Nat.le_refl _) (by omega))
theorem costB_iff {d i r : List Int} : costB d i r = true ↔ Co d i r := by
  unfold costB
  rw [Bool.and_eq_true, Bool.and_eq_true, Bool.and_eq_true, inRow_iff, inRow_iff, inRow_iff, diagFrom_iff]
  constructor
  · rintro ⟨⟨⟨⟨h1, h2⟩, h3, h4⟩, h5, h6⟩, h7⟩
    exact ⟨by omega, by omega, by omega, h2, h4, h6, fun a ha => h7 a (Nat.zero_le _) (by omega)⟩
  · intro h
    exact ⟨⟨⟨⟨by rw [h.dl]; rfl, h.dp⟩, by rw [h.il]; rfl, h.ip⟩, by rw [h.rl]; rfl, h.rp⟩, fun b _ hb => h.diag b (by omega)⟩
theorem price_at {l : List Int} (h : ∀ x ∈ l, 0 ≤ x ∧ x ≤ 1000) (j : Nat) : 0 ≤ l.getD j 0 ∧ l.getD j 0 ≤ 1000 := by
  rw [List.getD_eq_getElem?_getD]
  by_cases c : j < l.length
  · rw [List.getElem?_eq_getElem c]
    exact h _ (List.getElem_mem c)
  · rw [List.getElem?_eq_none (by omega)]
    simp
theorem specRow_l (l : List Int) (hl : l.length ≤ 9223372036854775807) (n : Int) (d : Nat) : ∀ j : Nat, j + d = l.length → Ev (fun k => spec_l7In.l0 k l n j) (decide ((l.length : Int) = n) && !((l.drop j).any (outP 1000))) := by
  induction d with
  | zero =>
    intro j hj
    refine Ev.step (fun _ => rfl) ?_
    simp only [spec_l7In.l0]
    rw [List.drop_of_length_le (by omega), List.any_nil, Bool.not_false, Bool.and_true]
    refine Ev.ifF (by omega) ?_
    rw [show (decide ((l.length : Int) = n)) = ((l.length : Int) == n) from by rw [Bool.eq_iff_iff, decide_eq_true_eq, beq_iff_eq]]
    exact Ev.now _
  | succ d ih =>
    intro j hj
    have hlt : j < l.length := by omega
    refine Ev.step (fun _ => rfl) ?_
    simp only [spec_l7In.l0, rd, getD_nat l j _ hlt]
    rw [List.drop_eq_getElem_cons hlt, List.any_cons, wrap_succ hlt hl]
    have e : spec_l1In.f l[j] 0 1000 = some (!outP 1000 l[j]) := by
      unfold spec_l1In.f outP
      by_cases h : 0 ≤ l[j]
      · rw [if_pos h]; simp [h]
      · rw [if_neg h]; simp [h]
    refine Ev.ifT (by omega) (Ev.ifT (by omega) (Ev.bindC e ?_))
    cases outP 1000 l[j]
    · rw [Bool.false_or]
      exact Ev.ifT rfl (ih (j + 1) (by omega))
    · rw [Bool.true_or, Bool.not_true, Bool.and_false]
      exact Ev.ifF (by simp) (Ev.now _)
theorem specRow_ev (l : List Int) (hl : l.length ≤ 9223372036854775807) (n : Int) : Ev (fun k => spec_l7In.f k l n) (inRow l n) :=
  specRow_l l hl n l.length 0 (by omega)
theorem implRow_eq (l : List Int) (n : Int) : impl_pricesOk.f l n = some (inRow l n) := rfl
theorem specDiag_l (d i r : List Int) (hr : r.length = 36) (e : Nat) : ∀ a : Nat, a + e = 6 → Ev (fun k => spec_CostOk.l0 k a d i r) (diagFrom r e a) := by
  induction e with
  | zero =>
    intro a ha
    refine Ev.step (fun _ => rfl) ?_
    simp only [spec_CostOk.l0, diagFrom]
    exact Ev.ifF (by omega) (Ev.now _)
  | succ e ih =>
    intro a ha
    refine Ev.step (fun _ => rfl) ?_
    have w1 : wrap64 (wrap64 ((a : Int) * 6) + a) = ((7 * a : Nat) : Int) := by rw [wrap_id (x := (a : Int) * 6) (by omega) (by omega), wrap_id (by omega) (by omega)]; omega
    simp only [spec_CostOk.l0, diagFrom, w1, rd, Int.toNat_natCast]
    refine Ev.ifT (by omega) (Ev.ifT (by omega) (Ev.ifT (by omega) ?_))
    rw [wrap_succ (show a < 6 by omega) (by omega)]
    by_cases c : r.getD (7 * a) 0 = 0
    · rw [if_pos c]; exact Ev.ifT c (ih (a + 1) (by omega))
    · rw [if_neg c]; exact Ev.ifF c (Ev.now _)
theorem implDiag_l (d i r : List Int) (hr : r.length = 36) (e : Nat) : ∀ a : Nat, a + e = 6 → Ev (fun k => impl_CostOk.l0 k a d i r) (diagFrom r e a) := by
  induction e with
  | zero =>
    intro a ha
    refine Ev.step (fun _ => rfl) ?_
    simp only [impl_CostOk.l0, diagFrom]
    exact Ev.ifF (by omega) (Ev.now _)
  | succ e ih =>
    intro a ha
    refine Ev.step (fun _ => rfl) ?_
    have w1 : wrap64 (wrap64 ((a : Int) * 6) + a) = ((7 * a : Nat) : Int) := by rw [wrap_id (x := (a : Int) * 6) (by omega) (by omega), wrap_id (by omega) (by omega)]; omega
    simp only [impl_CostOk.l0, diagFrom, w1, rd, Int.toNat_natCast]
    refine Ev.ifT (by omega) (Ev.ifT (by omega) (Ev.ifT (by omega) ?_))
    rw [wrap_succ (show a < 6 by omega) (by omega)]
    by_cases c : r.getD (7 * a) 0 = 0
    · rw [if_pos c]; exact Ev.ifT c (ih (a + 1) (by omega))
    · rw [if_neg c]; exact Ev.ifF c (Ev.now _)
theorem implCostOk_ev (d i r : List Int) : Ev (fun k => impl_CostOk.f k d i r) (costB d i r) := by
  unfold impl_CostOk.f costB
  refine Ev.bindC (implRow_eq d 6) ?_
  cases h1 : inRow d 6 with
  | false =>
    refine Ev.ifF (by simp) (Ev.step (fun _ => rfl) ?_)
    simp only [impl_CostOk.j0]
    exact Ev.ifT trivial (Ev.now _)
  | true =>
    refine Ev.ifT rfl (Ev.bindC (implRow_eq i 6) ?_)
    cases h2 : inRow i 6 with
    | false =>
      refine Ev.ifF (by simp) (Ev.step (fun _ => rfl) ?_)
      simp only [impl_CostOk.j0]
      exact Ev.ifT trivial (Ev.now _)
    | true =>
      refine Ev.ifT rfl (Ev.bindC (implRow_eq r 36) (Ev.step (fun _ => rfl) ?_))
      simp only [impl_CostOk.j0]
      cases h3 : inRow r 36 with
      | false => exact Ev.ifT rfl (Ev.now _)
      | true => exact Ev.ifF (by simp) (implDiag_l d i r (by have := (inRow_iff.1 h3).1; omega) 6 0 rfl)
theorem specCostOk_ev (d i r : List Int) (hd : d.length ≤ 9223372036854775807) (hi : i.length ≤ 9223372036854775807) (hr : r.length ≤ 9223372036854775807) : Ev (fun k => spec_CostOk.f k d i r) (costB d i r) := by
  unfold spec_CostOk.f costB
  refine Ev.bind (specRow_ev d hd 6) ?_
  cases h1 : inRow d 6 with
  | false =>
    refine Ev.ifF (by simp) (Ev.step (fun _ => rfl) ?_)
    simp only [spec_CostOk.j0]
    exact Ev.ifT trivial (Ev.now _)
  | true =>
    refine Ev.ifT rfl (Ev.bind (specRow_ev i hi 6) ?_)
    cases h2 : inRow i 6 with
    | false =>
      refine Ev.ifF (by simp) (Ev.step (fun _ => rfl) ?_)
      simp only [spec_CostOk.j0]
      exact Ev.ifT trivial (Ev.now _)
    | true =>
      refine Ev.ifT rfl (Ev.bind (specRow_ev r hr 36) (Ev.step (fun _ => rfl) ?_))
      simp only [spec_CostOk.j0]
      cases h3 : inRow r 36 with
      | false => exact Ev.ifT rfl (Ev.now _)
      | true => exact Ev.ifF (by simp) (specDiag_l d i r (by have := (inRow_iff.1 h3).1; omega) 6 0 rfl)
end Go.Proofs.Ytbifdckfglejkaa.Q
namespace Go.Proofs.Ytbifdckfglejkaa.Q
open Go.RowKit Go.Proofs.YtbifdckfglejkaaW.PrintWords Go.Proofs.YtbifdckfglejkaaW.PrintLast Go.Proofs.YtbifdckfglejkaaW.PrintMore Go.Proofs.Ytbifdckfglejkaa.X Go.Proofs.Ytbifdckfglejkaa.Rd
set_option linter.unusedVariables false
set_option linter.unusedSimpArgs false
theorem specRel_ev {d i r : List Int} (h : Co d i r) {a b : Int} (a0 : 0 ≤ a) (a5 : a ≤ 5) (b0 : 0 ≤ b) (b5 : b ≤ 5) : Ev (fun k => spec_RelCost.f k d i r a b) (r.getD (6 * a.toNat + b.toNat) 0) := by
  have h1 := h.dl
  have h2 := h.il
  have h3 := h.rl
  have w1 : wrap64 (wrap64 (a * 6) + b) = ((6 * a.toNat + b.toNat : Nat) : Int) := by rw [wrap_id (x := a * 6) (by omega) (by omega), wrap_id (by omega) (by omega)]; omega
  unfold spec_RelCost.f
  have hc := specCostOk_ev d i r (by omega) (by omega) (by omega)
  rw [costB_iff.2 h] at hc
  simp only [specLabelOk_eq, w1, rd, Int.toNat_natCast]
  exact Ev.bind hc (Ev.ifT rfl (Ev.bindC rfl (Ev.ifT (by simp; omega) (Ev.bindC rfl (Ev.ifT (by simp; omega) (Ev.ifT (by omega) (Ev.ifT (by omega) (Ev.now _))))))))
end Go.Proofs.Ytbifdckfglejkaa.Q
namespace Go.Proofs.Ytbifdckfglejkaa.Q
open Go.RowKit Go.Proofs.YtbifdckfglejkaaW.PrintWords Go.Proofs.YtbifdckfglejkaaW.PrintLast Go.Proofs.YtbifdckfglejkaaW.PrintMore Go.Proofs.Ytbifdckfglejkaa.X Go.Proofs.Ytbifdckfglejkaa.Rd
set_option linter.unusedVariables false
set_option linter.unusedSimpArgs false
theorem specDel_ev {d i r : List Int} (h : Co d i r) {a : Int} (a0 : 0 ≤ a) (a5 : a ≤ 5) : Ev (fun k => spec_DelCost.f k d i r a) (d.getD a.toNat 0) := by
  have h1 := h.dl
  have h2 := h.il
  have h3 := h.rl
  unfold spec_DelCost.f
  have hc := specCostOk_ev d i r (by omega) (by omega) (by omega)
  rw [costB_iff.2 h] at hc
  simp only [specLabelOk_eq, rd]
  exact Ev.bind hc (Ev.ifT rfl (Ev.bindC rfl (Ev.ifT (by simp; omega) (Ev.ifT (by omega) (Ev.ifT (by omega) (Ev.now _))))))
end Go.Proofs.Ytbifdckfglejkaa.Q
namespace Go.Proofs.Ytbifdckfglejkaa.Q
open Go.RowKit Go.Proofs.YtbifdckfglejkaaW.PrintWords Go.Proofs.YtbifdckfglejkaaW.PrintLast Go.Proofs.YtbifdckfglejkaaW.PrintMore Go.Proofs.Ytbifdckfglejkaa.X Go.Proofs.Ytbifdckfglejkaa.Rd
set_option linter.unusedVariables false
set_option linter.unusedSimpArgs false
theorem specIns_ev {d i r : List Int} (h : Co d i r) {a : Int} (a0 : 0 ≤ a) (a5 : a ≤ 5) : Ev (fun k => spec_InsCost.f k d i r a) (i.getD a.toNat 0) := by
  have h1 := h.dl
  have h2 := h.il
  have h3 := h.rl
  unfold spec_InsCost.f
  have hc := specCostOk_ev d i r (by omega) (by omega) (by omega)
  rw [costB_iff.2 h] at hc
  simp only [specLabelOk_eq, rd]
  exact Ev.bind hc (Ev.ifT rfl (Ev.bindC rfl (Ev.ifT (by simp; omega) (Ev.ifT (by omega) (Ev.ifT (by omega) (Ev.now _))))))
end Go.Proofs.Ytbifdckfglejkaa.Q
namespace Go.Proofs.Ytbifdckfglejkaa.Q
open Go.RowKit Go.Proofs.YtbifdckfglejkaaW.PrintWords Go.Proofs.YtbifdckfglejkaaW.PrintLast Go.Proofs.YtbifdckfglejkaaW.PrintMore Go.Proofs.Ytbifdckfglejkaa.X Go.Proofs.Ytbifdckfglejkaa.Rd
set_option linter.unusedVariables false
set_option linter.unusedSimpArgs false
theorem implRel_ev {d i r : List Int} (h : Co d i r) {a b : Int} (a0 : 0 ≤ a) (a5 : a ≤ 5) (b0 : 0 ≤ b) (b5 : b ≤ 5) : Ev (fun k => impl_RelCost.f k d i r a b) (r.getD (6 * a.toNat + b.toNat) 0) := by
  have h1 := h.dl
  have h2 := h.il
  have h3 := h.rl
  have w1 : wrap64 (wrap64 (a * 6) + b) = ((6 * a.toNat + b.toNat : Nat) : Int) := by rw [wrap_id (x := a * 6) (by omega) (by omega), wrap_id (by omega) (by omega)]; omega
  unfold impl_RelCost.f
  have hc := implCostOk_ev d i r
  rw [costB_iff.2 h] at hc
  simp only [implLabelOk_eq, w1, rd, Int.toNat_natCast]
  exact Ev.bind hc (Ev.ifT rfl (Ev.bindC rfl (Ev.ifT (by simp; omega) (Ev.bindC rfl (Ev.ifT (by simp; omega) (Ev.ifT (by omega) (Ev.ifT (by omega) (Ev.now _))))))))
end Go.Proofs.Ytbifdckfglejkaa.Q
namespace Go.Proofs.Ytbifdckfglejkaa.Q
open Go.RowKit Go.Proofs.YtbifdckfglejkaaW.PrintWords Go.Proofs.YtbifdckfglejkaaW.PrintLast Go.Proofs.YtbifdckfglejkaaW.PrintMore Go.Proofs.Ytbifdckfglejkaa.X Go.Proofs.Ytbifdckfglejkaa.Rd
set_option linter.unusedVariables false
set_option linter.unusedSimpArgs false
def isA (m : List PairI) (i : Nat) : Bool := m.any fun p => p.f0 == (i : Int)
def isB (m : List PairI) (i : Nat) : Bool := m.any fun p => p.f1 == (i : Int)
def delAt (l : List NodeI) (d : List Int) (i : Nat) : Int := d.getD (lab l i).toNat 0
def mDel (l : List NodeI) (d : List Int) (m : List PairI) : Nat → Int
  | 0 => 0
  | n + 1 => mDel l d m n + if isA m n = true then 0 else delAt l d n
def mIns (l : List NodeI) (d : List Int) (m : List PairI) : Nat → Int
  | 0 => 0
  | n + 1 => mIns l d m n + if isB m n = true then 0 else delAt l d n
def relP (a b : List NodeI) (r : List Int) (p : PairI) : Int := r.getD (6 * (lab a p.f0.toNat).toNat + (lab b p.f1.toNat).toNat) 0
def mRel (a b : List NodeI) (r : List Int) (m : List PairI) : Int := (m.map (relP a b r)).sum
def mCost (a b : List NodeI) (d i r : List Int) (m : List PairI) : Int := mDel a d m a.length + mIns b i m b.length + mRel a b r m
noncomputable def mapCost (a b : List NodeI) (d i r : List Int) (m : List PairI) : Int := if mapB a b m = true then (if costB d i r = true then mCost a b d i r m else -1) else -1
theorem delAt_bd {l : List NodeI} {d : List Int} (h : ∀ x ∈ d, 0 ≤ x ∧ x ≤ 1000) (n : Nat) : 0 ≤ delAt l d n ∧ delAt l d n ≤ 1000 := price_at h _
theorem mDel_bd {l : List NodeI} {d : List Int} (h : ∀ x ∈ d, 0 ≤ x ∧ x ≤ 1000) (m : List PairI) (n : Nat) : 0 ≤ mDel l d m n ∧ mDel l d m n ≤ 1000 * n := by
  induction n with
  | zero => simp [mDel]
  | succ n ih =>
    have := delAt_bd (l := l) h n
    simp only [mDel]
    split <;> omega
theorem mIns_bd {l : List NodeI} {d : List Int} (h : ∀ x ∈ d, 0 ≤ x ∧ x ≤ 1000) (m : List PairI) (n : Nat) : 0 ≤ mIns l d m n ∧ mIns l d m n ≤ 1000 * n := by
  induction n with
  | zero => simp [mIns]
  | succ n ih =>
    have := delAt_bd (l := l) h n
    simp only [mIns]
    split <;> omega
theorem mRel_bd {a b : List NodeI} {r : List Int} (h : ∀ x ∈ r, 0 ≤ x ∧ x ≤ 1000) (m : List PairI) : 0 ≤ mRel a b r m ∧ mRel a b r m ≤ 1000 * m.length := by
  unfold mRel
  induction m with
  | nil => simp
  | cons p m ih =>
    have := price_at h (6 * (lab a p.f0.toNat).toNat + (lab b p.f1.toNat).toNat)
    rw [List.map_cons, List.sum_cons, List.length_cons]
    unfold relP at ih ⊢
    omega
theorem pr_at (m : List PairI) {i : Nat} (h : i < m.length) : pr m i = m[i] := by simp [pr, List.getD_eq_getElem?_getD, List.getElem?_eq_getElem h]
structure MIn (a b : List NodeI) (p : PairI) : Prop where
  a0 : 0 ≤ p.f0
  a1 : p.f0 < a.length
  b0 : 0 ≤ p.f1
  b1 : p.f1 < b.length
theorem mok_in {a b : List NodeI} {m : List PairI} (h : MOk a b m) : ∀ p ∈ m, MIn a b p := by
  intro p hp
  obtain ⟨i, hi, rfl⟩ := List.getElem_of_mem hp
  have g := h.good i hi
  have hA := (hasB_iff _ _).1 g.hA
  have hB := (hasB_iff _ _).1 g.hB
  unfold pA at hA
  unfold pB at hB
  rw [pr_at m hi] at hA hB
  exact ⟨hA.2.1, hA.2.2, hB.2.1, hB.2.2⟩
theorem mok_lt {a b : List NodeI} {m : List PairI} (h : MOk a b m) : m.Pairwise fun p q => p.f0 < q.f0 ∧ p.f1 < q.f1 := by
  refine List.pairwise_iff_getElem.2 fun i j hi hj hij => ?_
  have g := h.good j hj
  have hA := g.lA i hij
  have hB := g.lB i hij
  unfold pA at hA
  unfold pB at hB
  rw [pr_at m hi, pr_at m hj] at hA hB
  exact ⟨hA, hB⟩
theorem mok_len {a b : List NodeI} {m : List PairI} (h : MOk a b m) : m.length ≤ 24 := by
  refine Classical.byContradiction fun hn => ?_
  have key : ∀ i : Nat, i < m.length → (i : Int) ≤ pA m i := by
    intro i
    induction i with
    | zero => intro hi; have := (hasB_iff _ _).1 (h.good 0 hi).hA; omega
    | succ i ih =>
      intro hi
      have h1 := ih (by omega)
      have h2 := (h.good (i + 1) hi).lA i (by omega)
      omega
  have h1 := key 24 (by omega)
  have h2 := (hasB_iff _ _).1 (h.good 24 (by omega)).hA
  have := h.ta.len24
  omega
theorem implDelL (l : List NodeI) (t : Tr l) (d : List Int) (hd : d.length = 6) (hp : ∀ x ∈ d, 0 ≤ x ∧ x ≤ 1000) (m : List PairI) (e : Nat) : ∀ i : Nat, i + e = l.length → mcDel d m (l.drop i) i (mDel l d m i) = some (mDel l d m l.length) := by
  have h24 := t.len24
  induction e with
  | zero =>
    intro i hi
    obtain rfl : i = l.length := by omega
    rw [List.drop_length]
    rfl
  | succ e ih =>
    intro i hi
    have hlt : i < l.length := by omega
    have h := ih (i + 1) (by omega)
    have c := t.chk i hlt
    have c0 := c.l0
    have c5 := c.l5
    have hl : (l[i]).f0 = lab l i := by simp [lab, nd, List.getD_eq_getElem?_getD, List.getElem?_eq_getElem hlt]
    have b1 := mDel_bd (l := l) hp m i
    have b2 := delAt_bd (l := l) hp i
    rw [List.drop_eq_getElem_cons hlt]
    simp only [mcDel]
    simp only [mDel] at h
    by_cases q : isA m i = true
    · rw [if_pos q, Int.add_zero] at h
      rw [if_pos (show (m.any fun p => p.f0 == (i : Int)) = true from q)]
      exact h
    · rw [if_neg q] at h
      rw [if_neg (show ¬ (m.any fun p => p.f0 == (i : Int)) = true from q), hl, if_pos (by omega), show rd d (lab l i) = delAt l d i from rfl, wrap_id (by omega) (by omega)]
      exact h
theorem implInsL (l : List NodeI) (t : Tr l) (d : List Int) (hd : d.length = 6) (hp : ∀ x ∈ d, 0 ≤ x ∧ x ≤ 1000) (m : List PairI) (n0 : Int) (h0 : 0 ≤ n0) (h1 : n0 ≤ 1000000) (e : Nat) : ∀ i : Nat, i + e = l.length → mcIns d m (l.drop i) i (n0 + mIns l d m i) = some (n0 + mIns l d m l.length) := by
  have h24 := t.len24
  induction e with
  | zero =>
    intro i hi
    obtain rfl : i = l.length := by omega
    rw [List.drop_length]
    rfl
  | succ e ih =>
    intro i hi
    have hlt : i < l.length := by omega
    have h := ih (i + 1) (by omega)
    have c := t.chk i hlt
    have c0 := c.l0
    have c5 := c.l5
    have hl : (l[i]).f0 = lab l i := by simp [lab, nd, List.getD_eq_getElem?_getD, List.getElem?_eq_getElem hlt]
    have b1 := mIns_bd (l := l) hp m i
    have b2 := delAt_bd (l := l) hp i
    rw [List.drop_eq_getElem_cons hlt]
    simp only [mcIns]
    simp only [mIns] at h
    by_cases q : isB m i = true
    · rw [if_pos q, Int.add_zero] at h
      rw [if_pos (show (m.any fun p => p.f1 == (i : Int)) = true from q)]
      exact h
    · rw [if_neg q] at h
      rw [if_neg (show ¬ (m.any fun p => p.f1 == (i : Int)) = true from q), hl, if_pos (by omega), show rd d (lab l i) = delAt l d i from rfl, wrap_id (by omega) (by omega), Int.add_assoc]
      exact h
theorem implRelL {a b : List NodeI} (ta : Tr a) (tb : Tr b) {d i r : List Int} (hc : Co d i r) (m : List PairI) : ∀ n : Int, 0 ≤ n → n + 1000 * m.length ≤ 10000000 → (∀ p ∈ m, MIn a b p) → Ev (fun k => mcRel k a b d i r m n) (n + mRel a b r m) := by
  induction m with
  | nil => intro n h0 h1 _; simp only [mcRel, mRel, List.map_nil, List.sum_nil, Int.add_zero]; exact Ev.now _
  | cons p m ih =>
    intro n h0 h1 hin
    have hp := hin p List.mem_cons_self
    have c1 := ta.chk p.f0.toNat (by have := hp.a0; have := hp.a1; omega)
    have c2 := tb.chk p.f1.toNat (by have := hp.b0; have := hp.b1; omega)
    have hr := price_at hc.rp (6 * (lab a p.f0.toNat).toNat + (lab b p.f1.toNat).toNat)
    have ea : (rd_T90 a p.f0).f0 = lab a p.f0.toNat := by rw [← rd_lab a p.f0.toNat, Int.toNat_of_nonneg hp.a0]
    have eb : (rd_T90 b p.f1).f0 = lab b p.f1.toNat := by rw [← rd_lab b p.f1.toNat, Int.toNat_of_nonneg hp.b0]
    rw [List.length_cons] at h1
    have h := ih (n + relP a b r p) (by unfold relP; omega) (by unfold relP; omega) (fun q hq => hin q (List.mem_cons_of_mem _ hq))
    simp only [mcRel, ea, eb]
    refine Ev.ifT ⟨⟨hp.a0, hp.a1⟩, hp.b0, hp.b1⟩ (Ev.bind (implRel_ev hc c1.l0 c1.l5 c2.l0 c2.l5) ?_)
    rw [wrap_id (by omega) (by omega), show mRel a b r (p :: m) = relP a b r p + mRel a b r m from by simp [mRel], ← Int.add_assoc]
    exact h
theorem implMapCost_ev (a b : List NodeI) (d i r : List Int) (m : List PairI) (hm : m.length ≤ 1048576) : Ev (fun k => impl_MapCost.f k a b d i r m) (mapCost a b d i r m) := by
  unfold impl_MapCost.f mapCost
  refine Ev.bind (implMapOk_ev a b m hm) ?_
  by_cases h : MOk a b m
  · rw [(mapB_iff a b m).2 h, if_pos rfl]
    refine Ev.ifT rfl (Ev.bind (implCostOk_ev d i r) ?_)
    by_cases c : Co d i r
    · rw [costB_iff.2 c, if_pos rfl]
      have h1 := implDelL a h.ta d c.dl c.dp m a.length 0 (Nat.zero_add _)
      have b1 := mDel_bd (l := a) c.dp m a.length
      have l1 := h.ta.len24
      have l2 := h.tb.len24
      have l3 := mok_len h
      have h2 := implInsL b h.tb i c.il c.ip m (mDel a d m a.length) b1.1 (by omega) b.length 0 (Nat.zero_add _)
      have b2 := mIns_bd (l := b) c.ip m b.length
      rw [List.drop_zero] at h1 h2
      simp only [mDel] at h1
      simp only [mIns, Int.add_zero] at h2
      exact Ev.ifT rfl (Ev.bindC h1 (Ev.bindC h2 (implRelL h.ta h.tb c m _ (by omega) (by omega) (mok_in h))))
    · have : costB d i r = false := by rw [← Bool.not_eq_true, costB_iff]; exact c
      rw [this]
      exact Ev.ifF (by simp) (Ev.now _)
  · rw [mapB_false h]
    exact Ev.ifF (by simp) (Ev.now _)
def ofB (m : List PairI) (x : Int) : Int := ((m.find? fun p => p.f0 == x).map fun p => p.f1).getD (-1)
def backA (m : List PairI) (x : Int) : Int := ((m.find? fun p => p.f1 == x).map fun p => p.f0).getD (-1)
theorem ofB_pos {p : PairI} {m : List PairI} {x : Int} (h : p.f0 = x) : ofB (p :: m) x = p.f1 := by simp [ofB, List.find?_cons, h]
theorem ofB_neg {p : PairI} {m : List PairI} {x : Int} (h : ¬ p.f0 = x) : ofB (p :: m) x = ofB m x := by simp [ofB, List.find?_cons, beq_eq_false_iff_ne.mpr h]
theorem backA_pos {p : PairI} {m : List PairI} {x : Int} (h : p.f1 = x) : backA (p :: m) x = p.f0 := by simp [backA, List.find?_cons, h]
theorem backA_neg {p : PairI} {m : List PairI} {x : Int} (h : ¬ p.f1 = x) : backA (p :: m) x = backA m x := by simp [backA, List.find?_cons, beq_eq_false_iff_ne.mpr h]
theorem specOf_l (m : List PairI) (hm : m.length ≤ 9223372036854775807) (x : Int) (d : Nat) : ∀ j : Nat, j + d = m.length → Ev (fun k => spec_l10Of.l0 k m x j) (ofB (m.drop j) x) := by
  induction d with
  | zero =>
    intro j hj
    refine Ev.step (fun _ => rfl) ?_
    simp only [spec_l10Of.l0]
    rw [List.drop_of_length_le (by omega)]
    exact Ev.ifF (by omega) (Ev.now _)
  | succ d ih =>
    intro j hj
    have hlt : j < m.length := by omega
    refine Ev.step (fun _ => rfl) ?_
    simp only [spec_l10Of.l0, rd_T122, getD_nat m j _ hlt]
    rw [wrap_succ hlt hm, List.drop_eq_getElem_cons hlt]
    refine Ev.ifT (by omega) (Ev.ifT (by omega) ?_)
    by_cases c : m[j].f0 = x
    · rw [ofB_pos c]
      exact Ev.ifT c (Ev.now _)
    · rw [ofB_neg c]
      exact Ev.ifF c (ih (j + 1) (by omega))
theorem specBack_l (m : List PairI) (hm : m.length ≤ 9223372036854775807) (x : Int) (d : Nat) : ∀ j : Nat, j + d = m.length → Ev (fun k => spec_l10Back.l0 k m x j) (backA (m.drop j) x) := by
  induction d with
  | zero =>
    intro j hj
    refine Ev.step (fun _ => rfl) ?_
    simp only [spec_l10Back.l0]
    rw [List.drop_of_length_le (by omega)]
    exact Ev.ifF (by omega) (Ev.now _)
  | succ d ih =>
    intro j hj
    have hlt : j < m.length := by omega
    refine Ev.step (fun _ => rfl) ?_
    simp only [spec_l10Back.l0, rd_T122, getD_nat m j _ hlt]
    rw [wrap_succ hlt hm, List.drop_eq_getElem_cons hlt]
    refine Ev.ifT (by omega) (Ev.ifT (by omega) ?_)
    by_cases c : m[j].f1 = x
    · rw [backA_pos c]
      exact Ev.ifT c (Ev.now _)
    · rw [backA_neg c]
      exact Ev.ifF c (ih (j + 1) (by omega))
theorem ofB_none {m : List PairI} {x : Int} (h : (m.any fun p => p.f0 == x) = false) : ofB m x = -1 := by
  unfold ofB
  rw [List.find?_eq_none.2 (by simpa using h)]; rfl
theorem backA_none {m : List PairI} {x : Int} (h : (m.any fun p => p.f1 == x) = false) : backA m x = -1 := by
  unfold backA
  rw [List.find?_eq_none.2 (by simpa using h)]; rfl
theorem ofB_some {m : List PairI} {x : Int} (h : (m.any fun p => p.f0 == x) = true) : ∃ p ∈ m, p.f0 = x ∧ ofB m x = p.f1 := by
  cases e : m.find? (fun p => p.f0 == x) with
  | none =>
    rw [List.find?_eq_none] at e
    rw [List.any_eq_true] at h
    obtain ⟨p, hp, hx⟩ := h
    exact absurd hx (e p hp)
  | some p => exact ⟨p, List.mem_of_find?_eq_some e, by simpa using List.find?_some e, by unfold ofB; rw [e]; rfl⟩
theorem backA_some {m : List PairI} {x : Int} (h : (m.any fun p => p.f1 == x) = true) : ∃ p ∈ m, p.f1 = x ∧ backA m x = p.f0 := by
  cases e : m.find? (fun p => p.f1 == x) with
  | none =>
    rw [List.find?_eq_none] at e
    rw [List.any_eq_true] at h
    obtain ⟨p, hp, hx⟩ := h
    exact absurd hx (e p hp)
  | some p => exact ⟨p, List.mem_of_find?_eq_some e, by simpa using List.find?_some e, by unfold backA; rw [e]; rfl⟩
def below (m : List PairI) (n : Nat) : List PairI := m.filter fun p => decide (p.f0 < (n : Int))
theorem mRel_below (a b : List NodeI) (r : List Int) (m : List PairI) (hm : m.Pairwise fun p q => p.f0 < q.f0 ∧ p.f1 < q.f1) (n : Nat) :
    mRel a b r (below m (n + 1)) = mRel a b r (below m n) + if isA m n = true then relP a b r ⟨n, ofB m n⟩ else 0 := by
  induction m with
  | nil => simp [below, mRel, isA]
  | cons p m ih =>
    have h1 := ih (List.pairwise_cons.1 hm).2
    have h2 := (List.pairwise_cons.1 hm).1
    by_cases c : p.f0 = (n : Int)
    · have hn : isA m n = false := by
        unfold isA
        rw [List.any_eq_false]
        intro q hq
        have := (h2 q hq).1
        simp only [beq_iff_eq]
        omega
      rw [hn] at h1
      have e1 : isA (p :: m) n = true := by simp [isA, c]
      have e2 : ofB (p :: m) n = p.f1 := by simp [ofB, List.find?_cons, c]
      have e3 : below (p :: m) (n + 1) = p :: below m (n + 1) := by
        unfold below
        rw [List.filter_cons_of_pos (by simp only [decide_eq_true_eq]; omega)]
      have e4 : below (p :: m) n = below m n := by
        unfold below
        rw [List.filter_cons_of_neg (by simp only [decide_eq_true_eq]; omega)]
      rw [e1, if_pos rfl, e2, e3, e4]
      rw [if_neg (by simp)] at h1
      have : mRel a b r (p :: below m (n + 1)) = relP a b r p + mRel a b r (below m (n + 1)) := by simp [mRel]
      rw [this, show relP a b r ⟨(n : Int), p.f1⟩ = relP a b r p from by unfold relP; simp only [c]]
      omega
    · have e1 : isA (p :: m) n = isA m n := by simp [isA, beq_eq_false_iff_ne.mpr c]
      have e2 : ofB (p :: m) n = ofB m n := by simp [ofB, List.find?_cons, beq_eq_false_iff_ne.mpr c]
      rw [e1, e2]
      by_cases c2 : p.f0 < (n : Int)
      · have e3 : below (p :: m) (n + 1) = p :: below m (n + 1) := by
          unfold below
          rw [List.filter_cons_of_pos (by simp only [decide_eq_true_eq]; omega)]
        have e4 : below (p :: m) n = p :: below m n := by
          unfold below
          rw [List.filter_cons_of_pos (by simp only [decide_eq_true_eq]; omega)]
        have q : ∀ z, mRel a b r (p :: z) = relP a b r p + mRel a b r z := fun z => by simp [mRel]
        rw [e3, e4, q, q]
        omega
      · have e3 : below (p :: m) (n + 1) = below m (n + 1) := by
          unfold below
          rw [List.filter_cons_of_neg (by simp only [decide_eq_true_eq]; omega)]
        have e4 : below (p :: m) n = below m n := by
          unfold below
          rw [List.filter_cons_of_neg (by simp only [decide_eq_true_eq]; omega)]
        rw [e3, e4]
        exact h1
theorem below_all {a b : List NodeI} {m : List PairI} (h : ∀ p ∈ m, MIn a b p) : below m a.length = m := by
  unfold below
  rw [List.filter_eq_self]
  intro p hp
  have := (h p hp).a1
  simpa using this
theorem below_len (m : List PairI) (n : Nat) : (below m n).length ≤ m.length := List.length_filter_le _ _
theorem specCost_l1 {a b : List NodeI} {d i r : List Int} {m : List PairI} (h : MOk a b m) (c : Co d i r) (n0 : Int) (h0 : 0 ≤ n0) (h1 : n0 ≤ 1000000) (e : Nat) : ∀ x : Nat, x + e = b.length → Ev (fun k => spec_MapCost.l1 k b m (n0 + mIns b i m x) x d i r) (n0 + mIns b i m b.length) := by
  have l2 := h.tb.len24
  have l3 := mok_len h
  induction e with
  | zero =>
    intro x hx
    obtain rfl : x = b.length := by omega
    refine Ev.step (fun _ => rfl) ?_
    simp only [spec_MapCost.l1]
    exact Ev.ifF (by omega) (Ev.now _)
  | succ e ih =>
    intro x hx
    have hlt : x < b.length := by omega
    have hn := ih (x + 1) (by omega)
    have ck := h.tb.chk x hlt
    have bi := mIns_bd (l := b) c.ip m x
    have bd := delAt_bd (l := b) c.ip x
    simp only [mIns] at hn
    refine Ev.step (fun _ => rfl) ?_
    simp only [spec_MapCost.l1, rd_lab]
    rw [wrap_succ hlt (by omega)]
    have hb := specBack_l m (by omega) x m.length 0 (Nat.zero_add _)
    rw [List.drop_zero] at hb
    refine Ev.ifT (by omega) (Ev.bind hb ?_)
    cases q : isB m x with
    | true =>
      rw [q, if_pos rfl, Int.add_zero] at hn
      obtain ⟨p, hp, _, e2⟩ := backA_some q
      have := (mok_in h p hp).a0
      rw [e2]
      exact Ev.ifF (by omega) hn
    | false =>
      rw [q, if_neg (by simp)] at hn
      rw [backA_none q]
      refine Ev.ifT (by omega) (Ev.ifT (by omega) (Ev.bind (specIns_ev c ck.l0 ck.l5) ?_))
      rw [show i.getD (lab b x).toNat 0 = delAt b i x from rfl, wrap_id (by omega) (by omega), Int.add_assoc]
      exact hn
theorem specCost_l0 {a b : List NodeI} {d i r : List Int} {m : List PairI} (h : MOk a b m) (c : Co d i r) (e : Nat) : ∀ x : Nat, x + e = a.length → Ev (fun k => spec_MapCost.l0 k a b m (mDel a d m x + mRel a b r (below m x)) x d i r) (mCost a b d i r m) := by
  have l1 := h.ta.len24
  have l2 := h.tb.len24
  have l3 := mok_len h
  induction e with
  | zero =>
    intro x hx
    obtain rfl : x = a.length := by omega
    have b1 := mDel_bd (l := a) c.dp m a.length
    have b2 := mRel_bd (a := a) (b := b) c.rp m
    have hn := specCost_l1 h c (mDel a d m a.length + mRel a b r m) (by omega) (by omega) b.length 0 (Nat.zero_add _)
    rw [below_all (mok_in h)]
    rw [show mCost a b d i r m = mDel a d m a.length + mRel a b r m + mIns b i m b.length from by unfold mCost; omega]
    refine Ev.step (fun _ => rfl) ?_
    simp only [spec_MapCost.l0]
    refine Ev.ifF (by omega) ?_
    simp only [mIns, Int.add_zero] at hn
    exact hn
  | succ e ih =>
    intro x hx
    have hlt : x < a.length := by omega
    have hn := ih (x + 1) (by omega)
    have ck := h.ta.chk x hlt
    have bi := mDel_bd (l := a) c.dp m x
    have bd := delAt_bd (l := a) c.dp x
    have br := mRel_bd (a := a) (b := b) c.rp (below m x)
    have bl := below_len m x
    rw [mRel_below a b r m (mok_lt h) x] at hn
    simp only [mDel] at hn
    refine Ev.step (fun _ => rfl) ?_
    simp only [spec_MapCost.l0, rd_lab]
    rw [wrap_succ hlt (by omega)]
    have hb := specOf_l m (by omega) x m.length 0 (Nat.zero_add _)
    rw [List.drop_zero] at hb
    refine Ev.ifT (by omega) (Ev.bind hb ?_)
    cases q : isA m x with
    | true =>
      rw [q, if_pos rfl, if_pos rfl, Int.add_zero] at hn
      obtain ⟨p, hp, _, e2⟩ := ofB_some q
      have hi := mok_in h p hp
      have i0 := hi.b0
      have i1 := hi.b1
      have ck2 := h.tb.chk p.f1.toNat (by omega)
      have hr := price_at c.rp (6 * (lab a x).toNat + (lab b p.f1.toNat).toNat)
      rw [e2] at hn ⊢
      refine Ev.ifF (by omega) (Ev.ifT (by omega) (Ev.ifT (by omega) (Ev.ifT (by omega) ?_)))
      have eb : (rd_T90 b p.f1).f0 = lab b p.f1.toNat := by rw [← rd_lab b p.f1.toNat, Int.toNat_of_nonneg i0]
      rw [eb]
      refine Ev.bind (specRel_ev c ck.l0 ck.l5 ck2.l0 ck2.l5) ?_
      rw [show relP a b r ⟨(x : Int), p.f1⟩ = r.getD (6 * (lab a x).toNat + (lab b p.f1.toNat).toNat) 0 from by unfold relP; rw [Int.toNat_natCast], ← Int.add_assoc] at hn
      rw [wrap_id (by omega) (by omega)]
      exact hn
    | false =>
      rw [q, if_neg (by simp), if_neg (by simp), Int.add_zero] at hn
      rw [ofB_none q]
      refine Ev.ifT (by omega) (Ev.ifT (by omega) (Ev.bind (specDel_ev c ck.l0 ck.l5) ?_))
      rw [show d.getD (lab a x).toNat 0 = delAt a d x from rfl, wrap_id (by omega) (by omega), show mDel a d m x + mRel a b r (below m x) + delAt a d x = mDel a d m x + delAt a d x + mRel a b r (below m x) by omega]
      exact hn
theorem specMapCost_ev (a b : List NodeI) (d i r : List Int) (m : List PairI) (ha : a.length ≤ 9223372036854775807) (hb : b.length ≤ 9223372036854775807) (hd : d.length ≤ 9223372036854775807) (hi : i.length ≤ 9223372036854775807) (hr : r.length ≤ 9223372036854775807) (hm : m.length ≤ 1048576) :
    Ev (fun k => spec_MapCost.f k a b d i r m) (mapCost a b d i r m) := by
  unfold spec_MapCost.f mapCost
  refine Ev.bind (specMapOk_ev a b m ha hb hm) ?_
  by_cases h : MOk a b m
  · rw [(mapB_iff a b m).2 h, if_pos rfl]
    refine Ev.ifT rfl (Ev.bind (specCostOk_ev d i r hd hi hr) ?_)
    refine Ev.step (fun _ => rfl) ?_
    simp only [spec_MapCost.j0]
    by_cases c : Co d i r
    · rw [costB_iff.2 c, if_pos rfl]
      have key := specCost_l0 h c a.length 0 (Nat.zero_add _)
      rw [show mDel a d m 0 + mRel a b r (below m 0) = 0 from by
        have : below m 0 = [] := by
          unfold below
          rw [List.filter_eq_nil_iff]
          intro p hp
          have := (mok_in h p hp).a0
          simp only [decide_eq_true_eq]
          omega
        rw [this]; rfl] at key
      exact Ev.ifF (by simp) key
    · have : costB d i r = false := by rw [← Bool.not_eq_true, costB_iff]; exact c
      rw [this]
      exact Ev.ifT rfl (Ev.now _)
  · rw [mapB_false h]
    refine Ev.ifF (by simp) (Ev.step (fun _ => rfl) ?_)
    simp only [spec_MapCost.j0]
    exact Ev.ifT trivial (Ev.now _)
end Go.Proofs.Ytbifdckfglejkaa.Q
