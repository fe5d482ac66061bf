/- Part 8 of the proof of FnExactDomSize: what it needs. -/
import Derived.WalkKit
import Derived.ProofKit
import Derived.OpenShut
import Derived.ShutString
import Derived.ChangeOld
import Derived.Below
import Derived.Deep.Slices
import Derived.Test.YtbifdckfglejkaaKEDomSize4
import Derived.Test.YtbifdckfglejkaaKEDomSize5
import Derived.Test.YtbifdckfglejkaaKEDomSize6
import Derived.Test.YtbifdckfglejkaaKEDomSize7
namespace Go.Proofs.Ytbifdckfglejkaa.Rd
open Go.ChangeShapes Go.WideShapes Go.ChangeAt Go.RowKit Go.Proofs.YtbifdckfglejkaaW.PrintWords
structure Rd (P : Program) (t : TypeId) {α : Type} (d : Kd α) (wf : α → Prop) : Prop where
  size : P.cellsOf t = d.sz
  reads : ∀ {H : Type} {enc : TypeId × Value → H} {w : World} {spare : Nat → Bool} {held : Bool} {fuel : Nat} {cs : List Value} {x : DataW H × List MemPlace},
    DataW.trod enc P w 0 spare held fuel t cs = some x → ∃ y, d.K w y cs ∧ wf y
theorem rd_int {P : Program} {t : TypeId} {k : IntKind} (ht : P.underlying t = some (.int k)) (hc : P.cellsOf t = 1) : Rd P t (Kd.int k) (fun n => (Lit.int k n).wf = true) :=
  ⟨hc, fun h => by
    obtain ⟨n, rfl, _, hw⟩ := DataW.trod_int ht h
    exact ⟨n, rfl, hw⟩⟩
theorem rd_bool {P : Program} {t : TypeId} (ht : P.underlying t = some .bool) (hc : P.cellsOf t = 1) : Rd P t Kd.bool (fun _ => True) :=
  ⟨hc, fun h => by
    obtain ⟨b, rfl, _⟩ := DataW.trod_bool ht h
    exact ⟨b, rfl, trivial⟩⟩
theorem rd_slice {P : Program} {t e : TypeId} {α : Type} [Inhabited α] {d : Kd α} {wf : α → Prop} (ht : P.underlying t = some (.slice e)) (hc : P.cellsOf t = 1) (h : Rd P e d wf) : Rd P t (Kd.slice e d) (fun xs => xs.length ≤ 9223372036854775807 ∧ ∀ x ∈ xs, wf x) :=
  ⟨hc, fun {H enc w spare held fuel cs x} hx => by
    rcases Go.Deep.open_slice ht hx with ⟨rfl, _⟩ | ⟨a, len, cap, m, n, D, Pl, rfl, _, hl, hm, hmm, _, hel⟩
    · exact ⟨[], ⟨none, 0, rfl, Nat.le_refl _, rfl, by simp, fun h => absurd h (Nat.lt_irrefl _)⟩, by simp, by simp⟩
    · have hle : len ≤ m := by rw [hmm]; split <;> omega
      obtain ⟨f, hf⟩ := Go.Deep.choose_lt (n := len) (p := fun i (y : α) => ∃ cs', w.cells? 0 (a.add (i * P.cellsOf e)) (P.cellsOf e) = some cs' ∧ d.K w y cs' ∧ wf y) (fun i hi => by
        obtain ⟨cs', h1, h2⟩ := hel i (by omega)
        obtain ⟨y, hy, hw⟩ := h.reads h2
        exact ⟨y, cs', h1, hy, hw⟩)
      have hlen : ((List.range len).map f).length = len := by simp
      refine ⟨(List.range len).map f, ⟨some a, cap, by rw [hlen], by rw [hlen]; exact hl, ?_⟩, by rw [hlen]; unfold maxLen at hm; omega, ?_⟩
      · refine ⟨rfl, by rw [hlen]; unfold maxLen at hm; omega, fun _ => ⟨a, rfl, fun j p hj => ?_⟩⟩
        have hj' : j < len ∧ f j = p := by
          rw [List.getElem?_map] at hj
          obtain ⟨i, hi, hp⟩ := Option.map_eq_some_iff.1 hj
          have := List.getElem?_eq_some_iff.1 hi
          obtain ⟨h1, h2⟩ := this
          simp at h1 h2
          subst h2
          exact ⟨h1, hp⟩
        obtain ⟨cs', h1, h2, _⟩ := hf j hj'.1
        rw [hj'.2] at h2
        obtain ⟨_, hn, hcell⟩ := World.cells?_some h1
        refine ⟨cs', d.K_len h2, h2, fun i u hu => ?_⟩
        have hi : i < cs'.length := (List.getElem?_eq_some_iff.1 hu).1
        have := hcell i (by omega)
        rw [Go.Deep.add_add, h.size] at this
        rw [this, hu]
      · intro x hx
        obtain ⟨i, hi, rfl⟩ := List.mem_map.1 hx
        obtain ⟨_, _, _, hw⟩ := hf i (by simpa using hi)
        exact hw⟩
structure RdF (P : Program) (o : Nat) (fs : List Field) {α : Type} (d : Kd α) (wf : α → Prop) : Prop where
  reads : ∀ {H : Type} {enc : TypeId × Value → H} {w : World} {spare : Nat → Bool} {held : Bool} {fuel : Nat} {cs : List Value}, o + d.sz ≤ cs.length →
    (∀ f ∈ fs, ∃ x, DataW.trod enc P w 0 spare held fuel f.type ((cs.drop f.offset).take (P.cellsOf f.type)) = some x) → ∃ y, d.K w y ((cs.drop o).take d.sz) ∧ wf y
theorem rdf_one {P : Program} {o : Nat} {f : Field} {α : Type} {d : Kd α} {wf : α → Prop} (ho : f.offset = o) (h : Rd P f.type d wf) : RdF P o [f] d wf :=
  ⟨fun _ hf => by
    obtain ⟨x, hx⟩ := hf f (by simp)
    rw [ho, h.size] at hx
    exact h.reads hx⟩
theorem rdf_cons {P : Program} {o : Nat} {f : Field} {fs : List Field} {α β : Type} {d : Kd α} {d' : Kd β} {wf : α → Prop} {wf' : β → Prop} (ho : f.offset = o) (h : Rd P f.type d wf) (h' : RdF P (o + d.sz) fs d' wf') :
    RdF P o (f :: fs) (Kd.pair d d') (fun x => wf x.1 ∧ wf' x.2) :=
  ⟨fun {H enc w spare held fuel cs} hl hf => by
    have hl' : o + (d.sz + d'.sz) ≤ cs.length := hl
    obtain ⟨x, hx⟩ := hf f (by simp)
    rw [ho, h.size] at hx
    obtain ⟨y, hy, hw⟩ := h.reads hx
    obtain ⟨y', hy', hw'⟩ := h'.reads (cs := cs) (by omega) (fun g hg => hf g (by simp [hg]))
    refine ⟨(y, y'), ⟨_, _, ?_, hy, hy'⟩, hw, hw'⟩
    show (cs.drop o).take (d.sz + d'.sz) = _
    rw [List.take_add, List.drop_drop]⟩
theorem rd_struct {P : Program} {t : TypeId} {fs : Array Field} {α β : Type} {d : Kd α} {wf : α → Prop} (g : β → α) (ht : P.underlying t = some (.struct fs)) (hc : P.cellsOf t = d.sz) (hg : ∀ y, ∃ x, g x = y) (h : RdF P 0 fs.toList d wf) :
    Rd P t (Kd.iso d g) (fun x => wf (g x)) :=
  ⟨hc, fun {H enc w spare held fuel cs x} hx => by
    obtain ⟨xs, n, _, _, hl, hlen, hf⟩ := DataW.trod_struct ht hx
    obtain ⟨y, hy, hw⟩ := h.reads (enc := enc) (w := w) (spare := spare) (held := held) (fuel := n) (cs := cs) (by omega) (fun f hfm => by
      obtain ⟨i, hi, rfl⟩ := List.getElem_of_mem hfm
      have h1 : fs[i]? = some fs[i] := Array.getElem?_eq_getElem (by simpa using hi)
      have h2 := hf i _ h1
      have h3 : i < xs.length := by rw [hlen]; simpa using hi
      rw [List.getElem?_eq_getElem h3] at h2
      exact ⟨_, h2⟩)
    rw [List.drop_zero, List.take_of_length_le (by omega)] at hy
    obtain ⟨z, rfl⟩ := hg y
    exact ⟨z, hy, hw⟩⟩
theorem own : ownKnob Try.prog.godebug = none := by kernel_rfl
theorem laidOut : laidOutB Try.prog = true := by kernel_rfl
end Go.Proofs.Ytbifdckfglejkaa.Rd
namespace Go.Proofs.Ytbifdckfglejkaa.Rd
open Go.ChangeShapes Go.WideShapes Go.ChangeAt Go.RowKit Go.Proofs.YtbifdckfglejkaaW.PrintWords Go.Proofs.Ytbifdckfglejkaa.X
theorem rdt4 : Rd Try.prog 4 Kd.bool (fun _ => True) := rd_bool Try.underlying4 (by kernel_rfl)
theorem rdt3 : Rd Try.prog 3 (Kd.int .i64) (fun n => (Lit.int .i64 n).wf = true) := rd_int Try.underlying3 (by kernel_rfl)
def WF143 (x : S143) : Prop := True ∧ (Lit.int .i64 x.f1).wf = true ∧ (Lit.int .i64 x.f2).wf = true ∧ (Lit.int .i64 x.f3).wf = true ∧ (Lit.int .i64 x.f4).wf = true ∧ (Lit.int .i64 x.f5).wf = true ∧ (Lit.int .i64 x.f6).wf = true
theorem rdt143 : Rd Try.prog 143 k143 WF143 := rd_struct (fun x : S143 => (x.f0, x.f1, x.f2, x.f3, x.f4, x.f5, x.f6)) Try.underlying143 (by kernel_rfl) (fun y => ⟨⟨y.1, y.2.1, y.2.2.1, y.2.2.2.1, y.2.2.2.2.1, y.2.2.2.2.2.1, y.2.2.2.2.2.2⟩, rfl⟩) (rdf_cons rfl rdt4 (rdf_cons rfl rdt3 (rdf_cons rfl rdt3 (rdf_cons rfl rdt3 (rdf_cons rfl rdt3 (rdf_cons rfl rdt3 (rdf_one rfl rdt3)))))))
def WF22 (xs : (List S143)) : Prop := xs.length ≤ 9223372036854775807 ∧ ∀ x ∈ xs, WF143 x
instance : Inhabited S143 := ⟨z143⟩
theorem rdt22 : Rd Try.prog 22 (Kd.slice 143 k143) WF22 := rd_slice Try.underlying22 (by kernel_rfl) rdt143
structure S24 where
  f0 : (List S143)
def k24 : Kd S24 := Kd.iso (Kd.slice 143 k143) (fun x : S24 => x.f0)
theorem k24_open {w : World} {x : S24} {cs : List Value} (h : k24.K w x cs) : ∃ A0 c0, cs = [.slice A0 x.f0.length c0] ∧ x.f0.length ≤ c0 ∧ Kd.C k143 w A0 x.f0.length x.f0 := by
  obtain ⟨A0, c0, rfl, l0, g0⟩ := h
  exact ⟨A0, c0, rfl, l0, g0⟩
def WF24 (x : S24) : Prop := WF22 x.f0
theorem rdt24 : Rd Try.prog 24 k24 WF24 := rd_struct (fun x : S24 => x.f0) Try.underlying24 (by kernel_rfl) (fun y => ⟨⟨y⟩, rfl⟩) (rdf_one rfl rdt22)
instance : Inhabited S120 := ⟨z120⟩
instance : Inhabited S124 := ⟨z124⟩
instance : Inhabited S63 := ⟨z63⟩
end Go.Proofs.Ytbifdckfglejkaa.Rd
namespace Go.Proofs.Ytbifdckfglejkaa.Q
open Go.RowKit Go.Proofs.YtbifdckfglejkaaW.PrintWords Go.Proofs.YtbifdckfglejkaaW.PrintLast Go.Proofs.YtbifdckfglejkaaW.PrintMore Go.Proofs.Ytbifdckfglejkaa.X Go.Proofs.Ytbifdckfglejkaa.Rd
set_option linter.unusedVariables false
set_option linter.unusedSimpArgs false
theorem wrap_id {x : Int} (h : -9223372036854775808 ≤ x) (h' : x ≤ 9223372036854775807) : wrap64 x = x := by
  unfold wrap64; omega
theorem wrap_succ {i n : Nat} (h : i < n) (hn : n ≤ 9223372036854775807) : wrap64 ((i : Int) + 1) = ((i + 1 : Nat) : Int) := by
  unfold wrap64; omega
theorem Ev.constOf {α : Type} {o : Option α} {r : α} (h : o = some r) : Ev (fun _ => o) r := ⟨0, fun _ _ => h⟩
theorem Ev.bindC {α β : Type} {o : Option α} {f : Nat → α → Option β} {a : α} {r : β} (h : o = some a) (k : Ev (fun n => f n a) r) : Ev (fun n => o.bind (f n)) r :=
  Ev.bind (Ev.constOf h) k
theorem Ev.ifT {α : Type} {c : Prop} [Decidable c] {g f : Nat → Option α} {r : α} (h : c) (k : Ev g r) : Ev (fun n => if c then g n else f n) r := by
  simpa only [if_pos h] using k
theorem Ev.ifF {α : Type} {c : Prop} [Decidable c] {g f : Nat → Option α} {r : α} (h : ¬ c) (k : Ev f r) : Ev (fun n => if c then g n else f n) r := by
  simpa only [if_neg h] using k
theorem getD_nat {α : Type} (xs : List α) (i : Nat) (d : α) (h : i < xs.length) : xs.getD ((i : Int)).toNat d = xs[i] := by
  rw [Int.toNat_natCast, List.getD_eq_getElem?_getD, List.getElem?_eq_getElem h]; rfl
theorem getD_lt {α : Type} (xs : List α) {i : Nat} (d : α) (h : i < xs.length) : xs.getD i d = xs[i] := by
  rw [List.getD_eq_getElem?_getD, List.getElem?_eq_getElem h]; rfl
theorem take_succ_map {α β : Type} (f : α → β) (l : List α) (i : Nat) (h : i < l.length) : (l.take (i + 1)).map f = (l.take i).map f ++ [f l[i]] := by
  rw [List.take_succ_eq_append_getElem h, List.map_append]; rfl
theorem take_succ_append {α : Type} (l : List α) (i : Nat) (h : i < l.length) : l.take (i + 1) = l.take i ++ [l[i]] := List.take_succ_eq_append_getElem h
theorem mapLoop {A B : Type} (F : Nat → List A → List B → Int → Option (List B)) (g : Nat → A → Option B) (h : A → B) (dA : A)
    (hF : ∀ k x acc i, F (k + 1) x acc i = if i < (x.length : Int) then (if 0 ≤ i then ((g k (x.getD i.toNat dA)).bind fun b => if i < (acc.length : Int) then F k x (acc.set i.toNat b) (wrap64 (i + 1)) else none) else none) else some acc)
    (l : List A) (hl : l.length ≤ 9223372036854775807) (hg : ∀ x ∈ l, Ev (fun k => g k x) (h x)) (d : Nat) : ∀ (i : Nat) (acc : List B), i + d = l.length → acc.length = l.length → acc.take i = (l.take i).map h →
    Ev (fun k => F k l acc i) (l.map h) := by
  induction d with
  | zero =>
    intro i acc hi ha ht
    have : acc = l.map h := by
      rw [List.take_of_length_le (by omega), List.take_of_length_le (by omega)] at ht
      exact ht
    subst this
    refine Ev.step (f := fun _ => some (l.map h)) (fun k => ?_) (Ev.now _)
    rw [hF, if_neg (by omega)]
  | succ d ih =>
    intro i acc hi ha ht
    have hlt : i < l.length := by omega
    have hn := ih (i + 1) (acc.set i (h l[i])) (by omega) (by simpa using ha) (by
      rw [take_succ_map h l i hlt, take_succ_append _ i (by simp; omega), List.getElem_set_self, List.take_set_of_le (Nat.le_refl i), ht])
    refine Ev.step (f := fun k => (g k l[i]).bind fun b => F k l (acc.set i b) ((i + 1 : Nat) : Int)) (fun k => ?_) (Ev.bind (hg l[i] (List.getElem_mem hlt)) hn)
    rw [hF, if_pos (by omega), if_pos (by omega), Int.toNat_natCast, getD_lt l _ hlt, wrap_succ hlt hl]
    congr 1
    funext b
    rw [if_pos (by omega)]
theorem mapLoop0 {A B : Type} (F : Nat → List A → List B → Int → Option (List B)) (g : Nat → A → Option B) (h : A → B) (dA : A) (z : B)
    (hF : ∀ k x acc i, F (k + 1) x acc i = if i < (x.length : Int) then (if 0 ≤ i then ((g k (x.getD i.toNat dA)).bind fun b => if i < (acc.length : Int) then F k x (acc.set i.toNat b) (wrap64 (i + 1)) else none) else none) else some acc)
    (l : List A) (hl : l.length ≤ 9223372036854775807) (hg : ∀ x ∈ l, Ev (fun k => g k x) (h x)) : Ev (fun k => F k l (List.replicate l.length z) 0) (l.map h) :=
  mapLoop F g h dA hF l hl hg l.length 0 (List.replicate l.length z) (by omega) (by simp) (by simp)
theorem eqLoop {A : Type} (F : Nat → List A → List A → Int → Option Bool) (e : Nat → A → A → Option Bool) (dA : A)
    (hF : ∀ k x y i, F (k + 1) x y i = if i < (x.length : Int) then (if 0 ≤ i then (if i < (y.length : Int) then ((e k (x.getD i.toNat dA) (y.getD i.toNat dA)).bind fun t => if t = true then F k x y (wrap64 (i + 1)) else some false) else none) else none) else some true)
    (l : List A) (hl : l.length ≤ 9223372036854775807) (he : ∀ x ∈ l, Ev (fun k => e k x x) true) (d : Nat) : ∀ (i : Nat), i + d = l.length → Ev (fun k => F k l l i) true := by
  induction d with
  | zero =>
    intro i hi
    refine Ev.step (f := fun _ => some true) (fun k => ?_) (Ev.now _)
    rw [hF, if_neg (by omega)]
  | succ d ih =>
    intro i hi
    have hlt : i < l.length := by omega
    refine Ev.step (f := fun k => (e k l[i] l[i]).bind fun t => if t = true then F k l l ((i + 1 : Nat) : Int) else some false) (fun k => ?_) (Ev.bind (he l[i] (List.getElem_mem hlt)) ?_)
    · rw [hF, if_pos (by omega), if_pos (by omega), if_pos (by omega), Int.toNat_natCast, getD_lt l _ hlt, wrap_succ hlt hl]
    · exact Ev.ifT rfl (ih (i + 1) (by omega))
end Go.Proofs.Ytbifdckfglejkaa.Q
namespace Go.Proofs.Ytbifdckfglejkaa.Q
open Go.RowKit Go.Proofs.YtbifdckfglejkaaW.PrintWords Go.Proofs.YtbifdckfglejkaaW.PrintLast Go.Proofs.YtbifdckfglejkaaW.PrintMore Go.Proofs.Ytbifdckfglejkaa.X Go.Proofs.Ytbifdckfglejkaa.Rd
set_option linter.unusedVariables false
set_option linter.unusedSimpArgs false
abbrev DomNL := S143
abbrev DomNI := S99
abbrev DomL := S24
def toDomNode (x : DomNL) : DomNI := ⟨x.f0, x.f1, x.f2, x.f3, x.f4, x.f5, x.f6⟩
theorem szDom_eq (l : List DomNL) (a : Int) (ha : 0 ≤ a) (ha' : a ≤ 1048576) (hl : l.length ≤ 9223372036854775807) :
    laws_szDom.f l a = some (if a < l.length then -1 else a - l.length) := by
  unfold laws_szDom.f laws_szDomNodeS.f
  rw [wrap_id (by omega) (by omega)]
  by_cases h : a < l.length
  · rw [if_pos (by omega), if_pos h, Option.bind_some, if_pos (by omega)]
  · rw [if_neg (by omega), if_neg h, Option.bind_some, if_neg (by omega)]
theorem toDom_ev (l : List DomNL) (hl : l.length ≤ 1048576) : Ev (fun k => laws_toDom.f k l) (l.map toDomNode) := by
  have h := mapLoop0 laws_toDomNodeS.l0 (fun _ x => some (toDomNode x)) toDomNode z143 z99
    (fun k x acc i => by simp only [laws_toDomNodeS.l0, laws_toDomNode.f, Option.bind_some, rd_T143, toDomNode]) l (by omega) (fun x _ => Ev.now _)
  unfold laws_toDom.f
  refine Ev.bind (Ev.congr (fun k => ?_) h) (Ev.now _)
  unfold laws_toDomNodeS.f
  rw [if_pos (by omega), if_pos (by omega), Int.toNat_natCast]
theorem eqDomNode_some (x : DomNI) : laws_eqDomNode.f x.f0 x.f1 x.f2 x.f3 x.f4 x.f5 x.f6 x.f0 x.f1 x.f2 x.f3 x.f4 x.f5 x.f6 = some true := by
  unfold laws_eqDomNode.f
  simp
theorem eqDom_ev (l : List DomNI) (hl : l.length ≤ 9223372036854775807) : Ev (fun k => laws_eqDom.f k l l) true := by
  have h := eqLoop laws_eqDomNodeS.l0 (fun _ x y => laws_eqDomNode.f x.f0 x.f1 x.f2 x.f3 x.f4 x.f5 x.f6 y.f0 y.f1 y.f2 y.f3 y.f4 y.f5 y.f6) z99 (fun k x y i => by simp only [laws_eqDomNodeS.l0, rd_T99]) l hl
    (fun x _ => Ev.constOf (eqDomNode_some x)) l.length 0 (by omega)
  unfold laws_eqDom.f
  refine Ev.bind (a := true) (Ev.congr (fun k => ?_) h) (Ev.ifT rfl (Ev.now _))
  unfold laws_eqDomNodeS.f
  rw [if_pos rfl]; rfl
end Go.Proofs.Ytbifdckfglejkaa.Q
namespace Go.Proofs.Ytbifdckfglejkaa.Q
open Go.RowKit Go.Proofs.YtbifdckfglejkaaW.PrintWords Go.Proofs.YtbifdckfglejkaaW.PrintLast Go.Proofs.YtbifdckfglejkaaW.PrintMore Go.Proofs.Ytbifdckfglejkaa.X Go.Proofs.Ytbifdckfglejkaa.Rd
set_option linter.unusedVariables false
set_option linter.unusedSimpArgs false
abbrev NodeI := S90
def nd (l : List NodeI) (i : Nat) : NodeI := l.getD i z90
def dep (l : List NodeI) (i : Nat) : Int := (nd l i).f1
theorem within_eq (a b c : Int) : impl_within.f a b c = some (decide (b ≤ a ∧ a ≤ c)) := by
  unfold impl_within.f
  by_cases h : b ≤ a <;> simp [h]
theorem l1In_eq (a b c : Int) : spec_l1In.f a b c = some (decide (b ≤ a ∧ a ≤ c)) := by
  unfold spec_l1In.f
  by_cases h : b ≤ a
  · rw [if_pos h]; simp [h]
  · rw [if_neg h]; simp [h]
theorem implLabelOk_eq (a : Int) : impl_LabelOk.f a = some (decide (0 ≤ a ∧ a ≤ 5)) := by
  unfold impl_LabelOk.f; rw [within_eq]; rfl
theorem specLabelOk_eq (a : Int) : spec_LabelOk.f a = some (decide (0 ≤ a ∧ a ≤ 5)) := by
  unfold spec_LabelOk.f; rw [l1In_eq]; rfl
end Go.Proofs.Ytbifdckfglejkaa.Q
namespace Go.Proofs.Ytbifdckfglejkaa.Q
open Go.RowKit Go.Proofs.YtbifdckfglejkaaW.PrintWords Go.Proofs.YtbifdckfglejkaaW.PrintLast Go.Proofs.YtbifdckfglejkaaW.PrintMore Go.Proofs.Ytbifdckfglejkaa.X Go.Proofs.Ytbifdckfglejkaa.Rd
set_option linter.unusedVariables false
set_option linter.unusedSimpArgs false
theorem implHas_l (l : List Int) (hl : l.length ≤ 1048576) (x : Int) (d : Nat) : ∀ j : Nat, j + d = l.length → ∃ r, Ev (fun k => slices_Index_int_int.l0 k l x l.length j) r ∧ (r ≥ 0 ↔ x ∈ l.drop j) := by
  induction d with
  | zero =>
    intro j hj
    refine ⟨-1, Ev.step (fun _ => rfl) ?_, ?_⟩
    · simp only [slices_Index_int_int.l0]
      exact Ev.ifF (by omega) (Ev.now _)
    · rw [List.drop_of_length_le (by omega)]
      simp
  | succ d ih =>
    intro j hj
    have hlt : j < l.length := by omega
    obtain ⟨r, h1, h2⟩ := ih (j + 1) (by omega)
    rw [List.drop_eq_getElem_cons hlt]
    by_cases c : x = l[j]
    · refine ⟨j, Ev.step (fun _ => rfl) ?_, ⟨fun _ => by rw [← c]; exact List.mem_cons_self, fun _ => by omega⟩⟩
      simp only [slices_Index_int_int.l0, rd, getD_nat l j _ hlt]
      exact Ev.ifT (by omega) (Ev.ifT (by omega) (Ev.ifT (by omega) (Ev.ifT c (Ev.now _))))
    · refine ⟨r, Ev.step (fun _ => rfl) ?_, ?_⟩
      · simp only [slices_Index_int_int.l0, rd, getD_nat l j _ hlt]
        rw [wrap_succ hlt (by omega)]
        exact Ev.ifT (by omega) (Ev.ifT (by omega) (Ev.ifT (by omega) (Ev.ifF c h1)))
      · rw [h2, List.mem_cons]
        exact ⟨fun h => .inr h, fun h => h.resolve_left c⟩
theorem implContains_ev (l : List Int) (hl : l.length ≤ 1048576) (x : Int) : Ev (fun k => slices_Contains_int_int.f k l x) (decide (x ∈ l)) := by
  unfold slices_Contains_int_int.f
  obtain ⟨r, h1, h2⟩ := implHas_l l hl x l.length 0 (Nat.zero_add _)
  rw [List.drop_zero] at h2
  refine Ev.bind h1 ?_
  rw [show decide (x ∈ l) = decide (r ≥ 0) from decide_eq_decide.2 h2.symm]
  exact Ev.now _
end Go.Proofs.Ytbifdckfglejkaa.Q
namespace Go.Proofs.Ytbifdckfglejkaa.Q
open Go.RowKit Go.Proofs.YtbifdckfglejkaaW.PrintWords Go.Proofs.YtbifdckfglejkaaW.PrintLast Go.Proofs.YtbifdckfglejkaaW.PrintMore Go.Proofs.Ytbifdckfglejkaa.X Go.Proofs.Ytbifdckfglejkaa.Rd
set_option linter.unusedVariables false
set_option linter.unusedSimpArgs false
abbrev DN := S99
abbrev dn (d : List DN) (x : Int) : DN := rd_T99 d x
inductive RT (d : List DN) : Bool → Int → Int → List (Int × Int) → Prop
  | sub {dep i : Int} {L : List (Int × Int)} : 0 ≤ i → i < d.length → dep ≤ 12 → RT d false dep (dn d i).f3 L → RT d true dep i ((i, dep) :: L)
  | nil {dep : Int} : RT d false dep (-1) []
  | cons {dep k : Int} {L1 L2 : List (Int × Int)} : 0 ≤ k → k < d.length → RT d true (dep + 1) k L1 → RT d false dep (dn d k).f6 L2 → RT d false dep k (L1 ++ L2)
theorem RT.det {d : List DN} {b : Bool} {dep k : Int} {L : List (Int × Int)} (h : RT d b dep k L) : ∀ L', RT d b dep k L' → L = L' := by
  induction h with
  | sub h1 h2 h3 h4 ih => intro L' h'; cases h' with
    | sub _ _ _ k4 => rw [ih _ k4]
  | nil => intro L' h'; cases h' with
    | nil => rfl
    | cons k1 => omega
  | cons h1 h2 h3 h4 ih1 ih2 => intro L' h'; cases h' with
    | nil => omega
    | cons _ _ k3 k4 => rw [ih1 _ k3, ih2 _ k4]
theorem RT.head {d : List DN} {dep i : Int} {L : List (Int × Int)} (h : RT d true dep i L) : ∃ L', L = (i, dep) :: L' := by
  cases h with
  | sub _ _ _ _ => exact ⟨_, rfl⟩
inductive Chain (d : List DN) (i : Int) : Int → Int → Prop
  | nil {last : Int} : (dn d i).f4 = last → Chain d i last (-1)
  | cons {last k : Int} : 0 ≤ k → k < d.length → (dn d k).f2 = i → (dn d k).f5 = last → Chain d i k (dn d k).f6 → Chain d i last k
structure Fine (d : List DN) (x : Int) : Prop where
  live : (dn d x).f0 = true
  l0 : 0 ≤ (dn d x).f1
  l5 : (dn d x).f1 ≤ 5
  chain : Chain d x (-1) (dn d x).f3
abbrev nodes (L : List (Int × Int)) : List Int := L.map Prod.fst
structure Well (d : List DN) (S : List Int) (L : List (Int × Int)) : Prop where
  nodup : (S ++ nodes L).Nodup
  fine : ∀ p ∈ L, Fine d p.1
theorem Well.left {d : List DN} {S : List Int} {L1 L2 : List (Int × Int)} (h : Well d S (L1 ++ L2)) : Well d S L1 := by
  refine ⟨?_, fun p hp => h.fine p (List.mem_append_left _ hp)⟩
  have := h.nodup
  rw [show S ++ nodes (L1 ++ L2) = (S ++ nodes L1) ++ nodes L2 from by simp [nodes]] at this
  exact (List.nodup_append.1 this).1
theorem Well.right {d : List DN} {S : List Int} {L1 L2 : List (Int × Int)} (h : Well d S (L1 ++ L2)) : Well d (S ++ nodes L1) L2 := by
  refine ⟨?_, fun p hp => h.fine p (List.mem_append_right _ hp)⟩
  have := h.nodup
  rw [show S ++ nodes (L1 ++ L2) = (S ++ nodes L1) ++ nodes L2 from by simp [nodes]] at this
  exact this
theorem Well.join {d : List DN} {S : List Int} {L1 L2 : List (Int × Int)} (h1 : Well d S L1) (h2 : Well d (S ++ nodes L1) L2) : Well d S (L1 ++ L2) := by
  refine ⟨?_, fun p hp => ?_⟩
  · rw [show S ++ nodes (L1 ++ L2) = (S ++ nodes L1) ++ nodes L2 from by simp [nodes]]
    exact h2.nodup
  · rcases List.mem_append.1 hp with hp | hp
    · exact h1.fine p hp
    · exact h2.fine p hp
theorem few (n : Nat) : ∀ l : List Int, l.Nodup → (∀ x ∈ l, 0 ≤ x ∧ x < (n : Int)) → l.length ≤ n := by
  induction n with
  | zero =>
    intro l _ h
    cases l with
    | nil => exact Nat.le_refl _
    | cons x l => have := h x List.mem_cons_self; omega
  | succ n ih =>
    intro l hn h
    have h1 := ih (l.filter fun x => decide (x ≠ (n : Int))) (hn.filter _) (fun x hx => by
      obtain ⟨hm, hd⟩ := List.mem_filter.1 hx
      have := h x hm
      have : x ≠ (n : Int) := by simpa using hd
      omega)
    have h2 : (l.filter fun x => decide (x = (n : Int))).length ≤ 1 := by
      have h3 := (hn.filter fun x => decide (x = (n : Int)))
      have h4 : ∀ x ∈ l.filter (fun x => decide (x = (n : Int))), x = (n : Int) := fun x hx => by simpa using (List.mem_filter.1 hx).2
      generalize l.filter (fun x => decide (x = (n : Int))) = q at h3 h4
      cases q with
      | nil => simp
      | cons a q =>
        cases q with
        | nil => simp
        | cons b q =>
          have e1 := h4 a (by simp)
          have e2 := h4 b (by simp)
          have h6 := (List.nodup_cons.1 (show (a :: b :: q).Nodup from h3)).1
          exact absurd (by rw [e1, e2]; simp) h6
    have h5 : ∀ q : List Int, q.length = (q.filter fun x => decide (x ≠ (n : Int))).length + (q.filter fun x => decide (x = (n : Int))).length := by
      intro q
      induction q with
      | nil => rfl
      | cons a q ihq =>
        by_cases c : a = (n : Int)
        · rw [List.filter_cons_of_neg (by simpa using c), List.filter_cons_of_pos (by simpa using c)]
          simp only [List.length_cons]
          omega
        · rw [List.filter_cons_of_pos (by simpa using c), List.filter_cons_of_neg (by simpa using c)]
          simp only [List.length_cons]
          omega
    have := h5 l
    omega
def tnode (d : List DN) (p : Int × Int) : NodeI := ⟨(dn d p.1).f1, p.2⟩
structure Met (d : List DN) (S : List Int) : Prop where
  nodup : S.Nodup
  inr : ∀ x ∈ S, 0 ≤ x ∧ x < (d.length : Int)
theorem Met.few {d : List DN} {S : List Int} (h : Met d S) (hd : d.length ≤ 24) : S.length ≤ 24 := Nat.le_trans (Q.few _ _ h.nodup h.inr) hd
theorem RT.inr {d : List DN} {b : Bool} {dep k : Int} {L : List (Int × Int)} (h : RT d b dep k L) : ∀ x ∈ nodes L, 0 ≤ x ∧ x < (d.length : Int) := by
  induction h with
  | sub h1 h2 _ _ ih =>
    intro x hx
    rw [nodes, List.map_cons, List.mem_cons] at hx
    rcases hx with rfl | hx
    · exact ⟨h1, h2⟩
    · exact ih x hx
  | nil => intro x hx; exact absurd hx List.not_mem_nil
  | cons _ _ _ _ ih1 ih2 =>
    intro x hx
    rw [nodes, List.map_append, List.mem_append] at hx
    rcases hx with hx | hx
    · exact ih1 x hx
    · exact ih2 x hx
theorem Met.more {d : List DN} {S : List Int} {L : List (Int × Int)} {b : Bool} {dep k : Int} (h : Met d S) (w : Well d S L) (t : RT d b dep k L) : Met d (S ++ nodes L) :=
  ⟨w.nodup, fun x hx => by
    rcases List.mem_append.1 hx with hx | hx
    · exact h.inr x hx
    · exact t.inr x hx⟩
def VisitT (d : List DN) (m : Nat) : Prop := ∀ (i dep : Int) (T : List NodeI) (S : List Int), Met d S → T.length = S.length → 25 ≤ S.length + m → 0 ≤ i → i < d.length → i ∉ S → 0 ≤ dep → dep ≤ 13 →
  (∃ L, RT d true dep i L ∧ Well d S L ∧ Ev (fun k => impl_Dom_visit.f k d i dep T S) (T ++ L.map (tnode d), S ++ nodes L, true)) ∨
  ((¬ ∃ L, RT d true dep i L ∧ Well d S L) ∧ ∃ t s, t.length ≤ 24 ∧ Ev (fun k => impl_Dom_visit.f k d i dep T S) (t, s, false))
def LoopT (d : List DN) (m : Nat) : Prop := ∀ (i dep : Int) (T : List NodeI) (S : List Int) (last c : Int), Met d S → T.length = S.length → 25 ≤ S.length + m → 0 ≤ dep → dep ≤ 12 →
  (∃ L, RT d false dep c L ∧ Well d S L ∧ Chain d i last c ∧ Ev (fun k => impl_Dom_visit.l0 k i dep T S last c d (dn d i).f0 (dn d i).f1 (dn d i).f2 (dn d i).f3 (dn d i).f4 (dn d i).f5 (dn d i).f6) (T ++ L.map (tnode d), S ++ nodes L, true)) ∨
  ((¬ ∃ L, RT d false dep c L ∧ Well d S L ∧ Chain d i last c) ∧ ∃ t s, t.length ≤ 24 ∧ Ev (fun k => impl_Dom_visit.l0 k i dep T S last c d (dn d i).f0 (dn d i).f1 (dn d i).f2 (dn d i).f3 (dn d i).f4 (dn d i).f5 (dn d i).f6) (t, s, false))
theorem visit_of {d : List DN} (hd : d.length ≤ 24) {m : Nat} (hl : LoopT d m) : VisitT d (m + 1) := by
  intro i dep T S hM hT hm hi hn hS h0 h13
  have hf := hM.few hd
  have e : ∀ b r, Ev (fun k => impl_Dom_visit.j0 k i dep T S b d (dn d i).f0 (dn d i).f1 (dn d i).f2 (dn d i).f3 (dn d i).f4 (dn d i).f5 (dn d i).f6) r → (b = true → r = (T, S, false)) → True := fun _ _ _ _ => trivial
  have jt : Ev (fun k => impl_Dom_visit.j0 k i dep T S true d (dn d i).f0 (dn d i).f1 (dn d i).f2 (dn d i).f3 (dn d i).f4 (dn d i).f5 (dn d i).f6) (T, S, false) := by
    refine Ev.step (fun _ => rfl) ?_
    simp only [impl_Dom_visit.j0]
    exact Ev.ifT trivial (Ev.now _)
  by_cases c1 : (dn d i).f0 = true
  · by_cases c2 : 0 ≤ (dn d i).f1 ∧ (dn d i).f1 ≤ 5
    · by_cases c3 : dep > 12
      · refine .inr ⟨?_, T, S, by omega, ?_⟩
        · rintro ⟨L, h1, _⟩
          cases h1 with
          | sub _ _ h3 _ => omega
        · refine Ev.step (fun _ => rfl) ?_
          simp only [impl_Dom_visit.f]
          refine Ev.ifT hi (Ev.ifT hn (Ev.ifT c1 (Ev.bindC (implLabelOk_eq _) (Ev.ifT (decide_eq_true c2) ?_))))
          rw [decide_eq_true c3]
          exact jt
      · have hM2 : Met d (S ++ [i]) := ⟨by
            rw [List.nodup_append]
            refine ⟨hM.nodup, by simp, fun a ha b hb => ?_⟩
            rw [List.mem_singleton] at hb
            subst hb
            intro e
            subst e
            exact hS ha, fun x hx => by
            rcases List.mem_append.1 hx with hx | hx
            · exact hM.inr x hx
            · rw [List.mem_singleton] at hx; subst hx; exact ⟨hi, hn⟩⟩
        have run : ∀ r, Ev (fun k => impl_Dom_visit.l0 k i dep (T ++ [tnode d (i, dep)]) (S ++ [i]) (-1) (dn d i).f3 d (dn d i).f0 (dn d i).f1 (dn d i).f2 (dn d i).f3 (dn d i).f4 (dn d i).f5 (dn d i).f6) r → Ev (fun k => impl_Dom_visit.f k d i dep T S) r := by
          intro r hr
          refine Ev.step (fun _ => rfl) ?_
          simp only [impl_Dom_visit.f]
          refine Ev.ifT hi (Ev.ifT hn (Ev.ifT c1 (Ev.bindC (implLabelOk_eq _) (Ev.ifT (decide_eq_true c2) ?_))))
          rw [decide_eq_false c3]
          refine Ev.step (fun _ => rfl) ?_
          simp only [impl_Dom_visit.j0]
          exact Ev.ifF (by simp) (Ev.ifT (by omega) (Ev.ifT (by omega) hr))
        rcases hl i dep (T ++ [tnode d (i, dep)]) (S ++ [i]) (-1) (dn d i).f3 hM2 (by simp; omega) (by simp; omega) h0 (by omega) with ⟨L, h1, h2, h3, h4⟩ | ⟨h1, t, s, h2, h3⟩
        · refine .inl ⟨(i, dep) :: L, .sub hi hn (by omega) h1, ⟨?_, ?_⟩, ?_⟩
          · have := h2.nodup
            rw [List.append_assoc] at this
            exact this
          · intro p hp
            rcases List.mem_cons.1 hp with rfl | hp
            · exact ⟨c1, c2.1, c2.2, h3⟩
            · exact h2.fine p hp
          · have := run _ h4
            rw [List.append_assoc, List.append_assoc] at this
            exact this
        · refine .inr ⟨?_, t, s, h2, run _ h3⟩
          rintro ⟨L, k1, k2⟩
          cases k1 with
          | sub _ _ _ k4 =>
            refine h1 ⟨_, k4, ⟨?_, fun p hp => k2.fine p (List.mem_cons_of_mem _ hp)⟩, (k2.fine _ List.mem_cons_self).chain⟩
            have := k2.nodup
            rw [nodes, List.map_cons] at this
            rw [List.append_assoc]
            exact this
    · refine .inr ⟨?_, T, S, by omega, ?_⟩
      · rintro ⟨L, h1, h2⟩
        obtain ⟨L', rfl⟩ := h1.head
        have := h2.fine _ List.mem_cons_self
        exact c2 ⟨this.l0, this.l5⟩
      · refine Ev.step (fun _ => rfl) ?_
        simp only [impl_Dom_visit.f]
        exact Ev.ifT hi (Ev.ifT hn (Ev.ifT c1 (Ev.bindC (implLabelOk_eq _) (Ev.ifF (by rw [decide_eq_false c2]; simp) jt))))
  · refine .inr ⟨?_, T, S, by omega, ?_⟩
    · rintro ⟨L, h1, h2⟩
      obtain ⟨L', rfl⟩ := h1.head
      exact c1 (h2.fine _ List.mem_cons_self).live
    · refine Ev.step (fun _ => rfl) ?_
      simp only [impl_Dom_visit.f]
      exact Ev.ifT hi (Ev.ifT hn (Ev.ifF c1 jt))
theorem loop_of {d : List DN} (hd : d.length ≤ 24) {m : Nat} (hv : VisitT d (m + 1)) (hl : LoopT d m) : LoopT d (m + 1) := by
  intro i dep T S last c hM hT hm h0 h12
  have hf := hM.few hd
  by_cases c1 : c = -1
  · subst c1
    by_cases c2 : (dn d i).f4 = last
    · refine .inl ⟨[], .nil, ⟨by rw [nodes, List.map_nil, List.append_nil]; exact hM.nodup, by simp⟩, .nil c2, ?_⟩
      refine Ev.step (fun _ => rfl) ?_
      simp only [impl_Dom_visit.l0, nodes, List.map_nil, List.append_nil]
      rw [beq_iff_eq.mpr c2]
      exact Ev.ifT trivial (Ev.now _)
    · refine .inr ⟨?_, T, S, by omega, ?_⟩
      · rintro ⟨L, _, _, h3⟩
        cases h3 with
        | nil h => exact c2 h
        | cons h => omega
      · refine Ev.step (fun _ => rfl) ?_
        simp only [impl_Dom_visit.l0]
        rw [beq_eq_false_iff_ne.mpr c2]
        exact Ev.ifT trivial (Ev.now _)
  · have jt : Ev (fun k => impl_Dom_visit.j2 k i dep T S c true d (dn d i).f0 (dn d i).f1 (dn d i).f2 (dn d i).f3 (dn d i).f4 (dn d i).f5 (dn d i).f6) (T, S, false) := by
      refine Ev.step (fun _ => rfl) ?_
      simp only [impl_Dom_visit.j2]
      exact Ev.ifT trivial (Ev.now _)
    by_cases c2 : 0 ≤ c ∧ c ≤ (d.length : Int) - 1
    · by_cases c3 : c ∈ S
      · refine .inr ⟨?_, T, S, by omega, ?_⟩
        · rintro ⟨L, h1, h2, _⟩
          cases h1 with
          | nil => exact c1 rfl
          | cons _ _ h3 _ =>
            obtain ⟨L', rfl⟩ := h3.head
            have := h2.nodup
            rw [List.nodup_append] at this
            exact this.2.2 c c3 c (by simp [nodes]) rfl
        · refine Ev.step (fun _ => rfl) ?_
          simp only [impl_Dom_visit.l0]
          rw [wrap_id (x := (d.length : Int) - 1) (by omega) (by omega)]
          exact Ev.ifF c1 (Ev.bindC (within_eq _ _ _) (Ev.ifT (decide_eq_true c2) (Ev.bind (implContains_ev S (by omega) c) (Ev.ifT (decide_eq_true c3) jt))))
      · have pre : ∀ (b : Bool) (r), ((dn d c).f2 = i ∧ (dn d c).f5 = last → b = false) → (¬ ((dn d c).f2 = i ∧ (dn d c).f5 = last) → b = true) → Ev (fun k => impl_Dom_visit.j2 k i dep T S c b d (dn d i).f0 (dn d i).f1 (dn d i).f2 (dn d i).f3 (dn d i).f4 (dn d i).f5 (dn d i).f6) r →
            Ev (fun k => impl_Dom_visit.l0 k i dep T S last c d (dn d i).f0 (dn d i).f1 (dn d i).f2 (dn d i).f3 (dn d i).f4 (dn d i).f5 (dn d i).f6) r := by
          intro b r hb1 hb2 hr
          refine Ev.step (fun _ => rfl) ?_
          simp only [impl_Dom_visit.l0]
          rw [wrap_id (x := (d.length : Int) - 1) (by omega) (by omega)]
          refine Ev.ifF c1 (Ev.bindC (within_eq _ _ _) (Ev.ifT (decide_eq_true c2) (Ev.bind (implContains_ev S (by omega) c) (Ev.ifF (by simpa using c3) (Ev.ifT (by omega) (Ev.ifT (by omega) ?_))))))
          by_cases c4 : (dn d c).f2 = i
          · refine Ev.ifT c4 ?_
            by_cases c5 : (dn d c).f5 = last
            · rw [hb1 ⟨c4, c5⟩] at hr
              rw [bne_eq_false_iff_eq.mpr c5]
              exact hr
            · rw [hb2 (fun z => c5 z.2)] at hr
              rw [bne_iff_ne.mpr c5]
              exact hr
          · rw [hb2 (fun z => c4 z.1)] at hr
            exact Ev.ifF c4 hr
        by_cases c4 : (dn d c).f2 = i ∧ (dn d c).f5 = last
        · have go2 : ∀ t s ok r, Ev (fun k => impl_Dom_visit.f k d c (dep + 1) T S) (t, s, ok) → (ok = true → Ev (fun k => impl_Dom_visit.l0 k i dep t s c (dn d c).f6 d (dn d i).f0 (dn d i).f1 (dn d i).f2 (dn d i).f3 (dn d i).f4 (dn d i).f5 (dn d i).f6) r) → (ok = false → r = (t, s, false)) →
              Ev (fun k => impl_Dom_visit.l0 k i dep T S last c d (dn d i).f0 (dn d i).f1 (dn d i).f2 (dn d i).f3 (dn d i).f4 (dn d i).f5 (dn d i).f6) r := by
            intro t s ok r hv1 hr1 hr2
            refine pre false r (fun _ => rfl) (fun z => absurd c4 z) ?_
            refine Ev.step (fun _ => rfl) ?_
            simp only [impl_Dom_visit.j2]
            rw [wrap_id (x := dep + 1) (by omega) (by omega)]
            refine Ev.ifF (by simp) (Ev.bind hv1 ?_)
            cases ok with
            | true => exact Ev.ifT rfl (Ev.ifT (by omega) (Ev.ifT (by omega) (hr1 rfl)))
            | false => rw [hr2 rfl]; exact Ev.ifF (by simp) (Ev.now _)
          rcases hv c (dep + 1) T S hM hT hm c2.1 (by omega) c3 (by omega) (by omega) with ⟨L1, h1, h2, h3⟩ | ⟨h1, t, s, h2, h3⟩
          · obtain ⟨L1', e1⟩ := h1.head
            have hlen : 1 ≤ L1.length := by rw [e1]; simp
            rcases hl i dep (T ++ L1.map (tnode d)) (S ++ nodes L1) c (dn d c).f6 (hM.more h2 h1) (by simp [nodes]; omega) (by simp [nodes]; omega) h0 h12 with ⟨L2, k1, k2, k3, k4⟩ | ⟨k1, t, s, k2, k3⟩
            · refine .inl ⟨L1 ++ L2, .cons c2.1 (by omega) h1 k1, h2.join k2, .cons c2.1 (by omega) c4.1 c4.2 k3, ?_⟩
              refine go2 _ _ true _ h3 (fun _ => ?_) (fun z => by cases z)
              rw [List.append_assoc, List.append_assoc] at k4
              simp only [nodes, List.map_append] at k4 ⊢
              exact k4
            · refine .inr ⟨?_, t, s, k2, go2 _ _ true _ h3 (fun _ => k3) (fun z => by cases z)⟩
              rintro ⟨L, q1, q2, q3⟩
              cases q1 with
              | nil => exact c1 rfl
              | cons _ _ q4 q5 =>
                obtain rfl := h1.det _ q4
                cases q3 with
                | nil => exact c1 rfl
                | cons _ _ _ _ q6 => exact k1 ⟨_, q5, q2.right, q6⟩
          · refine .inr ⟨?_, t, s, h2, go2 _ _ false _ h3 (fun z => by cases z) (fun _ => rfl)⟩
            rintro ⟨L, q1, q2, q3⟩
            cases q1 with
            | nil => exact c1 rfl
            | cons _ _ q4 q5 => exact h1 ⟨_, q4, q2.left⟩
        · refine .inr ⟨?_, T, S, by omega, pre true _ (fun z => absurd z c4) (fun _ => rfl) jt⟩
          rintro ⟨L, _, _, h3⟩
          cases h3 with
          | nil => exact c1 rfl
          | cons _ _ h4 h5 _ => exact c4 ⟨h4, h5⟩
    · refine .inr ⟨?_, T, S, by omega, ?_⟩
      · rintro ⟨L, h1, _⟩
        cases h1 with
        | nil => exact c1 rfl
        | cons h3 h4 _ _ => exact c2 ⟨h3, by omega⟩
      · refine Ev.step (fun _ => rfl) ?_
        simp only [impl_Dom_visit.l0]
        rw [wrap_id (x := (d.length : Int) - 1) (by omega) (by omega)]
        exact Ev.ifF c1 (Ev.bindC (within_eq _ _ _) (Ev.ifF (by rw [decide_eq_false c2]; simp) jt))
theorem visit_all {d : List DN} (hd : d.length ≤ 24) (m : Nat) : VisitT d m ∧ LoopT d m := by
  induction m with
  | zero =>
    refine ⟨?_, ?_⟩
    · intro i dep T S hM hT hm
      have := hM.few hd
      omega
    · intro i dep T S last c hM hT hm
      have := hM.few hd
      omega
  | succ m ih =>
    have h1 := visit_of hd ih.2
    exact ⟨h1, loop_of hd h1 ih.2⟩
def WalkT (d : List DN) (m : Nat) : Prop := ∀ (i dep : Int) (O E : List Int), O.length = E.length → O.length ≤ 50 → 25 ≤ O.length + m → 0 ≤ dep → dep ≤ 13 →
  (∃ L, RT d true dep i L ∧ O.length + L.length ≤ 24 ∧ Ev (fun k => spec_l16Walk.f k d i dep O E) (O ++ nodes L, E ++ L.map Prod.snd)) ∨
  ((¬ ∃ L, RT d true dep i L ∧ O.length + L.length ≤ 24) ∧ ∃ o e, o.length = e.length ∧ 24 < o.length ∧ o.length ≤ 50 ∧ Ev (fun k => spec_l16Walk.f k d i dep O E) (o, e))
def RowT (d : List DN) (m : Nat) : Prop := ∀ (dep : Int) (O E : List Int) (c : Int), O.length = E.length → O.length ≤ 50 → 25 ≤ O.length + m → 0 ≤ dep → dep ≤ 12 →
  (∃ L, RT d false dep c L ∧ O.length + L.length ≤ 24 ∧ Ev (fun k => spec_l16Walk.l0 k dep O E c d) (O ++ nodes L, E ++ L.map Prod.snd)) ∨
  ((¬ ∃ L, RT d false dep c L ∧ O.length + L.length ≤ 24) ∧ ∃ o e, o.length = e.length ∧ 24 < o.length ∧ o.length ≤ 50 ∧ Ev (fun k => spec_l16Walk.l0 k dep O E c d) (o, e))
theorem giveUp {d : List DN} {i dep : Int} {O E : List Int} : Ev (fun k => spec_l16Walk.j0 k i dep O E true d) (List.replicate 25 0, List.replicate 25 0) := by
  refine Ev.step (fun _ => rfl) ?_
  simp only [spec_l16Walk.j0]
  exact Ev.ifT trivial (Ev.ifT (by omega) (Ev.now _))
theorem walk_full {d : List DN} {i dep : Int} {O E : List Int} (h : 24 < O.length) : Ev (fun k => spec_l16Walk.f k d i dep O E) (List.replicate 25 0, List.replicate 25 0) := by
  refine Ev.step (fun _ => rfl) ?_
  simp only [spec_l16Walk.f]
  exact Ev.ifT (by omega) giveUp
theorem row_end {d : List DN} {dep : Int} {O E : List Int} (c : Int) (h : c = -1 ∨ 24 < O.length) : Ev (fun k => spec_l16Walk.l0 k dep O E c d) (O, E) := by
  refine Ev.step (fun _ => rfl) ?_
  simp only [spec_l16Walk.l0]
  by_cases c1 : c = -1
  · refine Ev.ifT c1 (Ev.step (fun _ => rfl) ?_)
    simp only [spec_l16Walk.j2]
    exact Ev.ifF (by simp) (Ev.now _)
  · refine Ev.ifF c1 (Ev.step (fun _ => rfl) ?_)
    simp only [spec_l16Walk.j2]
    exact Ev.ifF (by simp; omega) (Ev.now _)
theorem walk_of {d : List DN} (hd : d.length ≤ 24) {m : Nat} (hl : RowT d m) : WalkT d (m + 1) := by
  intro i dep O E hO h50 hm h0 h13
  by_cases c0 : 24 < O.length
  · exact .inr ⟨fun ⟨L, _, h⟩ => by omega, _, _, rfl, by simp, by simp, walk_full c0⟩
  have jf : ∀ b r, Ev (fun k => spec_l16Walk.j0 k i dep O E b d) r → (dep ≤ 12 → b = !decide (0 ≤ i ∧ i ≤ (d.length : Int) - 1)) → dep ≤ 12 → Ev (fun k => spec_l16Walk.f k d i dep O E) r := by
    intro b r hr hb hdep
    rw [hb hdep] at hr
    refine Ev.step (fun _ => rfl) ?_
    simp only [spec_l16Walk.f]
    rw [wrap_id (x := (d.length : Int) - 1) (by omega) (by omega)]
    exact Ev.ifF (by omega) (Ev.ifF (by omega) (Ev.bindC (l1In_eq _ _ _) hr))
  by_cases c1 : dep > 12
  · refine .inr ⟨?_, List.replicate 25 0, List.replicate 25 0, rfl, by simp, by simp, ?_⟩
    · rintro ⟨L, h1, _⟩
      cases h1 with
      | sub _ _ h3 _ => omega
    · refine Ev.step (fun _ => rfl) ?_
      simp only [spec_l16Walk.f]
      exact Ev.ifF (by omega) (Ev.ifT c1 giveUp)
  · by_cases c2 : 0 ≤ i ∧ i ≤ (d.length : Int) - 1
    · have run : ∀ r, Ev (fun k => spec_l16Walk.l0 k dep (O ++ [i]) (E ++ [dep]) (dn d i).f3 d) r → Ev (fun k => spec_l16Walk.f k d i dep O E) r := by
        intro r hr
        refine jf false r ?_ (fun _ => by rw [decide_eq_true c2]; rfl) (by omega)
        refine Ev.step (fun _ => rfl) ?_
        simp only [spec_l16Walk.j0]
        exact Ev.ifF (by simp) (Ev.ifT (by omega) (Ev.ifT (by omega) (Ev.ifT (by omega) (Ev.ifT (by omega) hr))))
      rcases hl dep (O ++ [i]) (E ++ [dep]) (dn d i).f3 (by simp; omega) (by simp; omega) (by simp; omega) h0 (by omega) with ⟨L, h1, h2, h3⟩ | ⟨h1, o, e, h2, h3, h4, h5⟩
      · refine .inl ⟨(i, dep) :: L, .sub c2.1 (by omega) (by omega) h1, by simp at h2 ⊢; omega, ?_⟩
        have := run _ h3
        rw [List.append_assoc, List.append_assoc] at this
        exact this
      · refine .inr ⟨?_, o, e, h2, h3, h4, run _ h5⟩
        rintro ⟨L, k1, k2⟩
        cases k1 with
        | sub _ _ _ k4 => exact h1 ⟨_, k4, by simp at k2 ⊢; omega⟩
    · refine .inr ⟨?_, _, _, rfl, by simp, by simp, jf true _ giveUp (fun _ => by rw [decide_eq_false c2]; rfl) (by omega)⟩
      rintro ⟨L, h1, _⟩
      cases h1 with
      | sub h3 h4 _ _ => exact c2 ⟨h3, by omega⟩
theorem row_of {d : List DN} (hd : d.length ≤ 24) {m : Nat} (hv : WalkT d (m + 1)) (hl : RowT d m) : RowT d (m + 1) := by
  intro dep O E c hO h50 hm h0 h12
  by_cases c1 : c = -1
  · subst c1
    by_cases c2 : 24 < O.length
    · exact .inr ⟨fun ⟨L, _, h⟩ => by omega, O, E, hO, c2, h50, row_end _ (.inl rfl)⟩
    · refine .inl ⟨[], .nil, by simp; omega, ?_⟩
      simp only [nodes, List.map_nil, List.append_nil]
      exact row_end _ (.inl rfl)
  by_cases c2 : 24 < O.length
  · exact .inr ⟨fun ⟨L, _, h⟩ => by omega, O, E, hO, c2, h50, row_end _ (.inr c2)⟩
  have pre : ∀ r, Ev (fun k => (some (decide (0 ≤ c ∧ c ≤ (d.length : Int) - 1))).bind fun t118 => (if t118 = true then ((spec_l16Walk.f k d c (dep + 1) O E).bind fun bt119 => (if 0 ≤ c then (if c < (d.length : Int) then (spec_l16Walk.l0 k dep bt119.1 bt119.2 (dn d c).f6 d) else (none)) else (none))) else (if 25 ≤ 35184372088832 then (some ((List.replicate 25 (0 : Int)), (List.replicate 25 (0 : Int)))) else (none)))) r → Ev (fun k => spec_l16Walk.l0 k dep O E c d) r := by
    intro r hr
    refine Ev.step (fun _ => rfl) ?_
    simp only [spec_l16Walk.l0]
    refine Ev.ifF c1 (Ev.step (fun _ => rfl) ?_)
    simp only [spec_l16Walk.j2]
    rw [wrap_id (x := (d.length : Int) - 1) (by omega) (by omega), wrap_id (x := dep + 1) (by omega) (by omega), l1In_eq]
    exact Ev.ifT (by simp; omega) hr
  by_cases c3 : 0 ≤ c ∧ c ≤ (d.length : Int) - 1
  · rcases hv c (dep + 1) O E hO h50 hm (by omega) (by omega) with ⟨L1, h1, h2, h3⟩ | ⟨h1, o, e, h2, h3, h4, h5⟩
    · obtain ⟨L1', e1⟩ := h1.head
      have hlen : 1 ≤ L1.length := by rw [e1]; simp
      have go2 : ∀ r, Ev (fun k => spec_l16Walk.l0 k dep (O ++ nodes L1) (E ++ L1.map Prod.snd) (dn d c).f6 d) r → Ev (fun k => spec_l16Walk.l0 k dep O E c d) r := fun r hr =>
        pre r (Ev.bindC rfl (Ev.ifT (decide_eq_true c3) (Ev.bind h3 (Ev.ifT c3.1 (Ev.ifT (by omega) hr)))))
      rcases hl dep (O ++ nodes L1) (E ++ L1.map Prod.snd) (dn d c).f6 (by simp [nodes]; omega) (by simp [nodes]; omega) (by simp [nodes]; omega) h0 h12 with ⟨L2, k1, k2, k3⟩ | ⟨k1, o, e, k2, k3, k4, k5⟩
      · refine .inl ⟨L1 ++ L2, .cons c3.1 (by omega) h1 k1, by simp [nodes] at k2 ⊢; omega, ?_⟩
        have := go2 _ k3
        rw [List.append_assoc, List.append_assoc] at this
        rw [nodes, List.map_append, List.map_append]
        exact this
      · refine .inr ⟨?_, o, e, k2, k3, k4, go2 _ k5⟩
        rintro ⟨L, q1, q2⟩
        cases q1 with
        | nil => exact c1 rfl
        | cons _ _ q4 q5 =>
          obtain rfl := h1.det _ q4
          exact k1 ⟨_, q5, by simp [nodes] at q2 ⊢; omega⟩
    · refine .inr ⟨?_, o, e, h2, h3, h4, pre _ (Ev.bindC rfl (Ev.ifT (decide_eq_true c3) (Ev.bind h5 (Ev.ifT c3.1 (Ev.ifT (by omega) (row_end _ (.inr h3)))))))⟩
      rintro ⟨L, q1, q2⟩
      cases q1 with
      | nil => exact c1 rfl
      | cons _ _ q4 q5 => exact h1 ⟨_, q4, by simp at q2; omega⟩
  · refine .inr ⟨?_, _, _, rfl, by simp, by simp, pre _ (Ev.bindC rfl (Ev.ifF (by rw [decide_eq_false c3]; simp) (Ev.ifT (by omega) (Ev.now _))))⟩
    rintro ⟨L, h1, _⟩
    cases h1 with
    | nil => exact c1 rfl
    | cons h3 h4 _ _ => exact c3 ⟨h3, by omega⟩
theorem walk_all {d : List DN} (hd : d.length ≤ 24) (m : Nat) : WalkT d m ∧ RowT d m := by
  induction m with
  | zero =>
    refine ⟨?_, ?_⟩
    · intro i dep O E hO h50 hm h0 h13
      exact .inr ⟨fun ⟨L, _, h⟩ => by omega, _, _, rfl, by simp, by simp, walk_full (by omega)⟩
    · intro dep O E c hO h50 hm h0 h12
      exact .inr ⟨fun ⟨L, _, h⟩ => by omega, O, E, hO, by omega, h50, row_end _ (.inr (by omega))⟩
  | succ m ih =>
    have h1 := walk_of hd ih.2
    exact ⟨h1, row_of hd h1 ih.2⟩
theorem RT.row {d : List DN} {b : Bool} {dep k : Int} {L : List (Int × Int)} (h : RT d b dep k L) : ∀ p ∈ L, ∃ dep' L', RT d false dep' (dn d p.1).f3 L' := by
  induction h with
  | sub h1 h2 _ h4 ih =>
    intro p hp
    rcases List.mem_cons.1 hp with rfl | hp
    · exact ⟨_, _, h4⟩
    · exact ih p hp
  | nil => intro p hp; exact absurd hp List.not_mem_nil
  | cons _ _ _ _ ih1 ih2 =>
    intro p hp
    rcases List.mem_append.1 hp with hp | hp
    · exact ih1 p hp
    · exact ih2 p hp
noncomputable def chainB (d : List DN) (i last c : Int) : Bool := @decide (Chain d i last c) (Classical.propDecidable _)
theorem chainB_iff (d : List DN) (i last c : Int) : chainB d i last c = true ↔ Chain d i last c := by
  unfold chainB; exact @decide_eq_true_iff _ (Classical.propDecidable _)
theorem chainB_false {d : List DN} {i last c : Int} (h : ¬ Chain d i last c) : chainB d i last c = false := by
  rw [← Bool.not_eq_true, chainB_iff]; exact h
theorem links_l {d : List DN} {dep c : Int} {L : List (Int × Int)} {b : Bool} (h : RT d b dep c L) : b = false → ∀ (i last : Int), Ev (fun k => spec_l16Links.l0 k i last c d (dn d i).f0 (dn d i).f1 (dn d i).f2 (dn d i).f3 (dn d i).f4 (dn d i).f5 (dn d i).f6) (chainB d i last c) := by
  induction h with
  | sub _ _ _ _ _ => intro hb; cases hb
  | nil =>
    intro _ i last
    refine Ev.step (fun _ => rfl) ?_
    simp only [spec_l16Links.l0]
    refine Ev.ifT trivial ?_
    by_cases c2 : (dn d i).f4 = last
    · rw [(chainB_iff d i last (-1)).2 (.nil c2), beq_iff_eq.mpr c2]
      exact Ev.now _
    · rw [chainB_false (fun h => by
        cases h with
        | nil h => exact c2 h
        | cons h => omega), beq_eq_false_iff_ne.mpr c2]
      exact Ev.now _
  | @cons dep k L1 L2 h1 h2 h3 h4 ih1 ih2 =>
    intro _ i last
    have ih := ih2 rfl i k
    refine Ev.step (fun _ => rfl) ?_
    simp only [spec_l16Links.l0]
    refine Ev.ifF (by omega) (Ev.ifT h1 (Ev.ifT h2 ?_))
    by_cases c1 : (dn d k).f2 = i
    · refine Ev.ifT c1 ?_
      by_cases c2 : (dn d k).f5 = last
      · refine Ev.ifT c2 ?_
        have : chainB d i last k = chainB d i k (dn d k).f6 := by
          rw [Bool.eq_iff_iff, chainB_iff, chainB_iff]
          constructor
          · intro h
            cases h with
            | nil => omega
            | cons _ _ _ _ h => exact h
          · intro h
            exact .cons h1 h2 c1 c2 h
        rw [this]
        exact ih
      · rw [chainB_false (fun h => by
          cases h with
          | nil => omega
          | cons _ _ _ q _ => exact c2 q)]
        exact Ev.ifF c2 (Ev.now _)
    · rw [chainB_false (fun h => by
        cases h with
        | nil => omega
        | cons _ _ q _ _ => exact c1 q)]
      exact Ev.ifF c1 (Ev.now _)
theorem links_ev {d : List DN} {dep : Int} {i : Int} {L : List (Int × Int)} (h0 : 0 ≤ i) (h1 : i < d.length) (h : RT d false dep (dn d i).f3 L) : Ev (fun k => spec_l16Links.f k d i) (chainB d i (-1) (dn d i).f3) := by
  unfold spec_l16Links.f
  exact Ev.ifT h0 (Ev.ifT h1 (links_l h rfl i (-1)))
end Go.Proofs.Ytbifdckfglejkaa.Q
namespace Go.Proofs.Ytbifdckfglejkaa.Q
open Go.RowKit Go.Proofs.YtbifdckfglejkaaW.PrintWords Go.Proofs.YtbifdckfglejkaaW.PrintLast Go.Proofs.YtbifdckfglejkaaW.PrintMore Go.Proofs.Ytbifdckfglejkaa.X Go.Proofs.Ytbifdckfglejkaa.Rd
set_option linter.unusedVariables false
set_option linter.unusedSimpArgs false
def emptyB (x : DN) : Bool := !(!(x.f0 == false) || (!(x.f1 == 0) || (!(x.f2 == -1) || (!(x.f3 == -1) || (!(x.f4 == -1) || (!(x.f5 == -1) || (!(x.f6 == -1))))))))
structure OkD (d : List DN) (L : List (Int × Int)) : Prop where
  n1 : 1 ≤ d.length
  n24 : d.length ≤ 24
  par : (dn d 0).f2 = -1
  prv : (dn d 0).f5 = -1
  nxt : (dn d 0).f6 = -1
  tree : RT d true 0 0 L
  well : Well d [] L
  rest : ∀ i : Nat, i < d.length → (i : Int) ∉ nodes L → emptyB (dn d i) = true
theorem OkD.det {d : List DN} {L L' : List (Int × Int)} (h : OkD d L) (h' : OkD d L') : L = L' := h.tree.det _ h'.tree
theorem OkD.len {d : List DN} {L : List (Int × Int)} (h : OkD d L) : L.length ≤ 24 := by
  have := few d.length (nodes L) (by have := h.well.nodup; rw [List.nil_append] at this; exact this) h.tree.inr
  rw [nodes, List.length_map] at this
  have := h.n24
  omega
def restB (d : List DN) (S : List Int) : Nat → Nat → Bool
  | 0, _ => true
  | e + 1, i => (decide ((i : Int) ∈ S) || emptyB (dn d i)) && restB d S e (i + 1)
theorem restB_iff (d : List DN) (S : List Int) (e : Nat) : ∀ i, restB d S e i = true ↔ ∀ j : Nat, i ≤ j → j < i + e → (j : Int) ∉ S → emptyB (dn d j) = true := by
  induction e with
  | zero => intro i; simp only [restB, true_iff]; intro j h1 h2; omega
  | succ e ih =>
    intro i
    simp only [restB]
    rw [Bool.and_eq_true, ih (i + 1), Bool.or_eq_true, decide_eq_true_eq]
    constructor
    · rintro ⟨h1, h2⟩ j h3 h4 h5
      by_cases c : j = i
      · subst c
        exact h1.resolve_left h5
      · exact h2 j (by omega) (by omega) h5
    · intro h
      refine ⟨?_, fun j h3 h4 h5 => h j (by omega) (by omega) h5⟩
      by_cases c : (i : Int) ∈ S
      · exact .inl c
      · exact .inr (h i (Nat.le_refl _) (by omega) c)
theorem implRest_l (d : List DN) (hd : d.length ≤ 24) (T : List NodeI) (S : List Int) (hS : S.length ≤ 1048576) (e : Nat) : ∀ (i : Nat) (ok : Bool), i + e = d.length → Ev (fun k => impl_Dom_walked.l0 k T S ok d d.length i) (T, S, ok && restB d S e i) := by
  induction e with
  | zero =>
    intro i ok hi
    refine Ev.step (fun _ => rfl) ?_
    simp only [impl_Dom_walked.l0, restB, Bool.and_true]
    exact Ev.ifF (by omega) (Ev.now _)
  | succ e ih =>
    intro i ok hi
    have hlt : i < d.length := by omega
    refine Ev.step (fun _ => rfl) ?_
    simp only [impl_Dom_walked.l0, restB]
    rw [wrap_succ hlt (by omega)]
    refine Ev.ifT (by omega) (Ev.ifT (by omega) (Ev.ifT (by omega) ?_))
    cases ok with
    | false =>
      have := ih (i + 1) false (by omega)
      rw [Bool.false_and] at this ⊢
      exact Ev.ifF (by simp) this
    | true =>
      refine Ev.ifT rfl (Ev.bind (implContains_ev S hS i) ?_)
      rw [Bool.true_and]
      by_cases c : (i : Int) ∈ S
      · have := ih (i + 1) true (by omega)
        rw [decide_eq_true c, Bool.true_or, Bool.true_and]
        exact Ev.ifT rfl this
      · rw [decide_eq_false c, Bool.false_or]
        refine Ev.ifF (by simp) (Ev.bindC rfl ?_)
        cases q : emptyB (dn d i) with
        | true =>
          have := ih (i + 1) true (by omega)
          rw [Bool.true_and]
          refine Ev.ifF ?_ this
          unfold emptyB at q
          rw [Bool.not_eq_true']  at q
          rw [show (!((dn d i).f0 == false) || (!((dn d i).f1 == 0) || (!((dn d i).f2 == -1) || (!((dn d i).f3 == -1) || (!((dn d i).f4 == -1) || (!((dn d i).f5 == -1) || (!((dn d i).f6 == -1)))))))) = false from q]
          simp
        | false =>
          have := ih (i + 1) false (by omega)
          rw [Bool.false_and] at this ⊢
          refine Ev.ifT ?_ this
          unfold emptyB at q
          rw [Bool.not_eq_false'] at q
          exact q
theorem implWalked_ev (d : List DN) (hl : d.length ≤ 9223372036854775807) : (∃ L, OkD d L ∧ Ev (fun k => impl_Dom_walked.f k d) (L.map (tnode d), nodes L, true)) ∨
    ((¬ ∃ L, OkD d L) ∧ ∃ t s, t.length ≤ 24 ∧ Ev (fun k => impl_Dom_walked.f k d) (t, s, false)) := by
  have jt : Ev (fun k => impl_Dom_walked.j0 k true d) (([] : List NodeI), ([] : List Int), false) := by
    refine Ev.step (fun _ => rfl) ?_
    simp only [impl_Dom_walked.j0]
    exact Ev.ifT trivial (Ev.now _)
  by_cases c1 : (1 : Int) ≤ d.length ∧ (d.length : Int) ≤ 24
  · have pre : ∀ (b : Bool) r, ((dn d 0).f2 = -1 ∧ (dn d 0).f5 = -1 ∧ (dn d 0).f6 = -1 → b = false) → (¬ ((dn d 0).f2 = -1 ∧ (dn d 0).f5 = -1 ∧ (dn d 0).f6 = -1) → b = true) → Ev (fun k => impl_Dom_walked.j0 k b d) r → Ev (fun k => impl_Dom_walked.f k d) r := by
      intro b r hb1 hb2 hr
      unfold impl_Dom_walked.f
      refine Ev.bindC (within_eq _ _ _) (Ev.ifT (decide_eq_true c1) (Ev.ifT (by omega) ?_))
      by_cases c2 : (dn d 0).f2 = -1
      · refine Ev.ifT c2 ?_
        by_cases c3 : (dn d 0).f5 = -1
        · refine Ev.ifT c3 ?_
          by_cases c4 : (dn d 0).f6 = -1
          · rw [hb1 ⟨c2, c3, c4⟩] at hr
            rw [show ((rd_T99 d 0).f6 != -1) = false from bne_eq_false_iff_eq.mpr c4]
            exact hr
          · rw [hb2 (fun z => c4 z.2.2)] at hr
            rw [show ((rd_T99 d 0).f6 != -1) = true from bne_iff_ne.mpr c4]
            exact hr
        · rw [hb2 (fun z => c3 z.2.1)] at hr
          exact Ev.ifF c3 hr
      · rw [hb2 (fun z => c2 z.1)] at hr
        exact Ev.ifF c2 hr
    by_cases c2 : (dn d 0).f2 = -1 ∧ (dn d 0).f5 = -1 ∧ (dn d 0).f6 = -1
    · rcases (visit_all (d := d) (by omega) 25).1 0 0 [] [] ⟨List.nodup_nil, by simp⟩ rfl (by simp) (Int.le_refl _) (by omega) (by simp) (Int.le_refl _) (by omega) with ⟨L, h1, h2, h3⟩ | ⟨h1, t, s, h2, h3⟩
      · rw [List.nil_append, List.nil_append] at h3
        have hL : (nodes L).length ≤ 24 := by
          have := few d.length (nodes L) (by have := h2.nodup; rw [List.nil_append] at this; exact this) h1.inr
          omega
        have run : Ev (fun k => impl_Dom_walked.f k d) (L.map (tnode d), nodes L, true && restB d (nodes L) d.length 0) := by
          refine pre false _ (fun _ => rfl) (fun z => absurd c2 z) (Ev.step (fun _ => rfl) ?_)
          simp only [impl_Dom_walked.j0]
          exact Ev.ifF (by simp) (Ev.bind h3 (implRest_l d (by omega) _ _ (show (nodes L).length ≤ 1048576 by omega) d.length 0 true (Nat.zero_add _)))
        rw [Bool.true_and] at run
        cases q : restB d (nodes L) d.length 0 with
        | true =>
          rw [q] at run
          have q2 := (restB_iff d (nodes L) d.length 0).1 q
          exact .inl ⟨L, ⟨by omega, by omega, c2.1, c2.2.1, c2.2.2, h1, h2, fun i hi hn => q2 i (Nat.zero_le _) (by omega) hn⟩, run⟩
        | false =>
          rw [q] at run
          refine .inr ⟨?_, _, _, by rw [nodes, List.length_map] at hL; rw [List.length_map]; exact hL, run⟩
          rintro ⟨L', h⟩
          obtain rfl := h1.det _ h.tree
          have : restB d (nodes L) d.length 0 = true := (restB_iff _ _ _ _).2 fun j _ hj hn => h.rest j (by omega) hn
          rw [q] at this
          cases this
      · refine .inr ⟨fun ⟨L, h⟩ => h1 ⟨L, h.tree, h.well⟩, t, s, h2, ?_⟩
        have hs : Ev (fun k => impl_Dom_walked.l0 k t s false d d.length 0) (t, s, false) := by
          have key : ∀ e i : Nat, i + e = d.length → Ev (fun k => impl_Dom_walked.l0 k t s false d d.length i) (t, s, false) := by
            intro e
            induction e with
            | zero =>
              intro i hi
              refine Ev.step (fun _ => rfl) ?_
              simp only [impl_Dom_walked.l0]
              exact Ev.ifF (by omega) (Ev.now _)
            | succ e ih =>
              intro i hi
              refine Ev.step (fun _ => rfl) ?_
              simp only [impl_Dom_walked.l0]
              rw [wrap_succ (show i < d.length by omega) (by omega)]
              exact Ev.ifT (by omega) (Ev.ifT (by omega) (Ev.ifT (by omega) (Ev.ifF (by simp) (ih (i + 1) (by omega)))))
          exact key d.length 0 (Nat.zero_add _)
        refine pre false _ (fun _ => rfl) (fun z => absurd c2 z) (Ev.step (fun _ => rfl) ?_)
        simp only [impl_Dom_walked.j0]
        exact Ev.ifF (by simp) (Ev.bind h3 hs)
    · exact .inr ⟨fun ⟨L, h⟩ => c2 ⟨h.par, h.prv, h.nxt⟩, _, _, by simp, pre true _ (fun z => absurd z c2) (fun _ => rfl) jt⟩
  · refine .inr ⟨fun ⟨L, h⟩ => c1 ⟨by have := h.n1; omega, by have := h.n24; omega⟩, [], [], by simp, ?_⟩
    unfold impl_Dom_walked.f
    exact Ev.bindC (within_eq _ _ _) (Ev.ifF (by rw [decide_eq_false c1]; simp) (Ev.now _))
structure Good1 (d : List DN) (N : List Int) : Prop where
  nodup : N.Nodup
  fine : ∀ x ∈ N, (dn d x).f0 = true ∧ 0 ≤ (dn d x).f1 ∧ (dn d x).f1 ≤ 5
def tellsOf (d : List DN) (N : List Int) (F : List Bool) : Prop := F.length = d.length ∧ ∀ x : Nat, x < d.length → F.getD x false = decide ((x : Int) ∈ N)
theorem specFlags_l {d : List DN} (hd : d.length ≤ 24) {N : List Int} (hN : N.length ≤ 1048576) (hr : ∀ x ∈ N, 0 ≤ x ∧ x < (d.length : Int)) (e : Nat) : ∀ (j : Nat) (F : List Bool), j + e = N.length → tellsOf d (N.take j) F → Good1 d (N.take j) →
    (Good1 d N ∧ ∃ F', tellsOf d N F' ∧ ∀ r, Ev (fun k => spec_DomOk.l1 k F' 0 d) r → Ev (fun k => spec_DomOk.l0 k N F j d) r) ∨ (¬ Good1 d N ∧ Ev (fun k => spec_DomOk.l0 k N F j d) false) := by
  induction e with
  | zero =>
    intro j F hj hF hG
    rw [List.take_of_length_le (by omega)] at hF hG
    refine .inl ⟨hG, F, hF, fun r h => Ev.step (fun _ => rfl) ?_⟩
    simp only [spec_DomOk.l0]
    exact Ev.ifF (by omega) h
  | succ e ih =>
    intro j F hj hF hG
    have hlt : j < N.length := by omega
    have hx := hr N[j] (List.getElem_mem hlt)
    have hmem : N[j] ∈ N := List.getElem_mem hlt
    have hFl := hF.1
    have hFx : rdOf false F N[j] = decide (N[j] ∈ N.take j) := by
      have := hF.2 N[j].toNat (by omega)
      rw [Int.toNat_of_nonneg hx.1] at this
      exact this
    have pre : ∀ r, Ev (fun k => if rdOf false F N[j] = true then some false else if N[j] < (d.length : Int) then (if (dn d N[j]).f0 = true then (spec_LabelOk.f (dn d N[j]).f1).bind fun t => if t = true then spec_DomOk.l0 k N (F.set N[j].toNat true) ((j + 1 : Nat) : Int) d else some false else some false) else none) r → Ev (fun k => spec_DomOk.l0 k N F j d) r := by
      intro r h
      refine Ev.step (fun _ => rfl) ?_
      simp only [spec_DomOk.l0, rd, getD_nat N j _ hlt]
      rw [wrap_succ hlt (by omega)]
      exact Ev.ifT (by omega) (Ev.ifT (by omega) (Ev.ifT hx.1 (Ev.ifT (by omega) h)))
    rw [hFx] at pre
    by_cases c1 : N[j] ∈ N.take j
    · refine .inr ⟨fun h => ?_, pre _ (Ev.ifT (decide_eq_true c1) (Ev.now _))⟩
      have h1 := h.nodup
      rw [← List.take_append_drop j N, List.nodup_append] at h1
      exact h1.2.2 _ c1 N[j] (by rw [List.drop_eq_getElem_cons hlt]; exact List.mem_cons_self) rfl
    · by_cases c2 : (dn d N[j]).f0 = true
      · by_cases c3 : 0 ≤ (dn d N[j]).f1 ∧ (dn d N[j]).f1 ≤ 5
        · have ht : N.take (j + 1) = N.take j ++ [N[j]] := List.take_succ_eq_append_getElem hlt
          have run : ∀ r, Ev (fun k => spec_DomOk.l0 k N (F.set N[j].toNat true) ((j + 1 : Nat) : Int) d) r → Ev (fun k => spec_DomOk.l0 k N F j d) r := fun r h =>
            pre r (Ev.ifF (by simpa using c1) (Ev.ifT hx.2 (Ev.ifT c2 (Ev.bindC (specLabelOk_eq _) (Ev.ifT (decide_eq_true c3) h)))))
          rcases ih (j + 1) (F.set N[j].toNat true) (by omega) ⟨by rw [List.length_set]; exact hFl, fun x hxl => by
            rw [ht, List.getD_eq_getElem?_getD, List.getElem?_set]
            by_cases e2 : N[j].toNat = x
            · rw [if_pos e2, if_pos (by omega)]
              have : (x : Int) = N[j] := by omega
              rw [this]
              exact (decide_eq_true (List.mem_append_right _ (List.mem_singleton.2 rfl))).symm
            · rw [if_neg e2, ← List.getD_eq_getElem?_getD, hF.2 x hxl]
              refine decide_eq_decide.2 ?_
              rw [List.mem_append, List.mem_singleton]
              exact ⟨.inl, fun h => h.resolve_right (by omega)⟩⟩ ⟨by
            rw [ht, List.nodup_append]
            exact ⟨hG.nodup, by simp, fun a ha b hb => by
              rw [List.mem_singleton] at hb
              subst hb
              intro e; subst e; exact c1 ha⟩, fun x hxm => by
            rw [ht, List.mem_append, List.mem_singleton] at hxm
            rcases hxm with hxm | rfl
            · exact hG.fine x hxm
            · exact ⟨c2, c3.1, c3.2⟩⟩ with ⟨h1, F', h2, h3⟩ | ⟨h1, h2⟩
          · exact .inl ⟨h1, F', h2, fun r h => run r (h3 r h)⟩
          · exact .inr ⟨h1, run _ h2⟩
        · exact .inr ⟨fun h => c3 (h.fine _ hmem).2, pre _ (Ev.ifF (by simpa using c1) (Ev.ifT hx.2 (Ev.ifT c2 (Ev.bindC (specLabelOk_eq _) (Ev.ifF (by rw [decide_eq_false c3]; simp) (Ev.now _))))))⟩
      · exact .inr ⟨fun h => c2 (h.fine _ hmem).1, pre _ (Ev.ifF (by simpa using c1) (Ev.ifT hx.2 (Ev.ifF c2 (Ev.now _))))⟩
noncomputable def lastB (d : List DN) (N : List Int) : Nat → Nat → Bool
  | 0, _ => true
  | e + 1, i => (if (i : Int) ∈ N then chainB d i (-1) (dn d i).f3 else emptyB (dn d i)) && lastB d N e (i + 1)
theorem lastB_iff (d : List DN) (N : List Int) (e : Nat) : ∀ i, lastB d N e i = true ↔ ∀ j : Nat, i ≤ j → j < i + e → ((j : Int) ∈ N → Chain d j (-1) (dn d j).f3) ∧ ((j : Int) ∉ N → emptyB (dn d j) = true) := by
  induction e with
  | zero => intro i; simp only [lastB, true_iff]; intro j h1 h2; omega
  | succ e ih =>
    intro i
    simp only [lastB]
    rw [Bool.and_eq_true, ih (i + 1)]
    constructor
    · rintro ⟨h1, h2⟩ j h3 h4
      by_cases c : j = i
      · subst c
        by_cases q : (j : Int) ∈ N
        · rw [if_pos q] at h1
          exact ⟨fun _ => (chainB_iff _ _ _ _).1 h1, fun z => absurd q z⟩
        · rw [if_neg q] at h1
          exact ⟨fun z => absurd z q, fun _ => h1⟩
      · exact h2 j (by omega) (by omega)
    · intro h
      refine ⟨?_, fun j h3 h4 => h j (by omega) (by omega)⟩
      have h1 := h i (Nat.le_refl _) (by omega)
      by_cases q : (i : Int) ∈ N
      · rw [if_pos q]; exact (chainB_iff _ _ _ _).2 (h1.1 q)
      · rw [if_neg q]; exact h1.2 q
theorem specLast_l {d : List DN} (hd : d.length ≤ 24) {N : List Int} {F : List Bool} (hF : tellsOf d N F) (hk : ∀ x ∈ N, ∃ dep L, RT d false dep (dn d x).f3 L) (e : Nat) : ∀ i : Nat, i + e = d.length → Ev (fun k => spec_DomOk.l1 k F i d) (lastB d N e i) := by
  have hFl := hF.1
  induction e with
  | zero =>
    intro i hi
    refine Ev.step (fun _ => rfl) ?_
    simp only [spec_DomOk.l1, lastB]
    exact Ev.ifF (by omega) (Ev.now _)
  | succ e ih =>
    intro i hi
    have hlt : i < d.length := by omega
    have hn := ih (i + 1) (by omega)
    have hFx : rdOf false F (i : Int) = decide ((i : Int) ∈ N) := by
      have := hF.2 i hlt
      show F.getD (i : Int).toNat false = _
      rw [Int.toNat_natCast]
      exact this
    refine Ev.step (fun _ => rfl) ?_
    simp only [spec_DomOk.l1, lastB, hFx]
    rw [wrap_succ hlt (by omega)]
    refine Ev.ifT (by omega) (Ev.ifT (by omega) (Ev.ifT (by omega) ?_))
    by_cases c : (i : Int) ∈ N
    · rw [if_pos c]
      obtain ⟨dep, L, hL⟩ := hk _ c
      refine Ev.ifT (decide_eq_true c) (Ev.bind (links_ev (by omega) (by omega) hL) ?_)
      cases chainB d i (-1) (dn d i).f3 with
      | true => rw [Bool.true_and]; exact Ev.ifT rfl hn
      | false => rw [Bool.false_and]; exact Ev.ifF (by simp) (Ev.now _)
    · rw [if_neg c]
      refine Ev.ifF (by simpa using c) (Ev.bindC rfl ?_)
      cases q : emptyB (dn d i) with
      | true =>
        rw [Bool.true_and]
        refine Ev.ifF ?_ hn
        unfold emptyB at q
        rw [Bool.not_eq_true'] at q
        rw [show (!((dn d i).f0 == false) || (!((dn d i).f1 == 0) || (!((dn d i).f2 == -1) || (!((dn d i).f3 == -1) || (!((dn d i).f4 == -1) || (!((dn d i).f5 == -1) || (!((dn d i).f6 == -1)))))))) = false from q]
        simp
      | false =>
        rw [Bool.false_and]
        refine Ev.ifT ?_ (Ev.now _)
        unfold emptyB at q
        rw [Bool.not_eq_false'] at q
        exact q
theorem specDomOk_ev (d : List DN) (hl : d.length ≤ 9223372036854775807) : (∃ L, OkD d L ∧ Ev (fun k => spec_DomOk.f k d) true ∧ Ev (fun k => spec_l16Walk.f k d 0 0 [] []) (nodes L, L.map Prod.snd)) ∨ ((¬ ∃ L, OkD d L) ∧ Ev (fun k => spec_DomOk.f k d) false) := by
  have jt : Ev (fun k => spec_DomOk.j0 k true d) false := by
    refine Ev.step (fun _ => rfl) ?_
    simp only [spec_DomOk.j0]
    exact Ev.ifT trivial (Ev.now _)
  by_cases c1 : (1 : Int) ≤ d.length ∧ (d.length : Int) ≤ 24
  · have pre : ∀ (b : Bool) r, ((dn d 0).f0 = true ∧ (dn d 0).f2 = -1 ∧ (dn d 0).f5 = -1 ∧ (dn d 0).f6 = -1 → b = false) → (¬ ((dn d 0).f0 = true ∧ (dn d 0).f2 = -1 ∧ (dn d 0).f5 = -1 ∧ (dn d 0).f6 = -1) → b = true) → Ev (fun k => spec_DomOk.j0 k b d) r → Ev (fun k => spec_DomOk.f k d) r := by
      intro b r hb1 hb2 hr
      unfold spec_DomOk.f
      refine Ev.bindC (l1In_eq _ _ _) (Ev.ifT (decide_eq_true c1) (Ev.ifT (by omega) ?_))
      by_cases c0 : (dn d 0).f0 = true
      · refine Ev.ifT c0 ?_
        by_cases c2 : (dn d 0).f2 = -1
        · refine Ev.ifT c2 ?_
          by_cases c3 : (dn d 0).f5 = -1
          · refine Ev.ifT c3 ?_
            by_cases c4 : (dn d 0).f6 = -1
            · rw [hb1 ⟨c0, c2, c3, c4⟩] at hr
              rw [show ((rd_T99 d 0).f6 != -1) = false from bne_eq_false_iff_eq.mpr c4]
              exact hr
            · rw [hb2 (fun z => c4 z.2.2.2)] at hr
              rw [show ((rd_T99 d 0).f6 != -1) = true from bne_iff_ne.mpr c4]
              exact hr
          · rw [hb2 (fun z => c3 z.2.2.1)] at hr
            exact Ev.ifF c3 hr
        · rw [hb2 (fun z => c2 z.2.1)] at hr
          exact Ev.ifF c2 hr
      · rw [hb2 (fun z => c0 z.1)] at hr
        exact Ev.ifF c0 hr
    by_cases c2 : (dn d 0).f0 = true ∧ (dn d 0).f2 = -1 ∧ (dn d 0).f5 = -1 ∧ (dn d 0).f6 = -1
    · rcases (walk_all (d := d) (by omega) 25).1 0 0 [] [] rfl (by simp) (by simp) (Int.le_refl _) (by omega) with ⟨L, h1, h2, h3⟩ | ⟨h1, o, e, h2, h3, h4, h5⟩
      · rw [List.nil_append, List.nil_append] at h3
        simp only [List.length_nil, Nat.zero_add] at h2
        have hN : (nodes L).length ≤ 24 := by rw [nodes, List.length_map]; exact h2
        have run : ∀ r, Ev (fun k => spec_DomOk.l0 k (nodes L) (List.replicate d.length false) 0 d) r → Ev (fun k => spec_DomOk.f k d) r := by
          intro r hr
          refine pre false _ (fun _ => rfl) (fun z => absurd c2 z) (Ev.step (fun _ => rfl) ?_)
          simp only [spec_DomOk.j0]
          refine Ev.ifF (by simp) (Ev.bind h3 (Ev.ifF (show ¬ ((nodes L).length : Int) > 24 by omega) (Ev.ifT (by omega) (Ev.ifT (by omega) ?_))))
          rw [Int.toNat_natCast]
          exact hr
        rcases specFlags_l (d := d) (by omega) (N := nodes L) (by omega) h1.inr (nodes L).length 0 (List.replicate d.length false) (Nat.zero_add _) ⟨by simp, fun x hx => by
            rw [List.take_zero, List.getD_eq_getElem?_getD, List.getElem?_replicate, if_pos hx]
            simp⟩ ⟨by simp, by simp⟩ with ⟨k1, F', k2, k3⟩ | ⟨k1, k2⟩
        · have kl := specLast_l (d := d) (by omega) k2 (fun x hx => by
            obtain ⟨p, hp, rfl⟩ := List.mem_map.1 hx
            exact h1.row p hp) d.length 0 (Nat.zero_add _)
          have k4 := run _ (k3 _ kl)
          cases q : lastB d (nodes L) d.length 0 with
          | true =>
            rw [q] at k4
            have q2 := (lastB_iff d (nodes L) d.length 0).1 q
            refine .inl ⟨L, ⟨by omega, by omega, c2.2.1, c2.2.2.1, c2.2.2.2, h1, ⟨by rw [List.nil_append]; exact k1.nodup, fun p hp => ?_⟩, fun i hi hn => (q2 i (Nat.zero_le _) (by omega)).2 hn⟩, k4, h3⟩
            have hm : p.1 ∈ nodes L := List.mem_map_of_mem hp
            have hf := k1.fine _ hm
            have hi := h1.inr _ hm
            have := (q2 p.1.toNat (Nat.zero_le _) (by omega)).1
            rw [Int.toNat_of_nonneg hi.1] at this
            exact ⟨hf.1, hf.2.1, hf.2.2, this hm⟩
          | false =>
            rw [q] at k4
            refine .inr ⟨?_, k4⟩
            rintro ⟨L', h⟩
            obtain rfl := h1.det _ h.tree
            have : lastB d (nodes L) d.length 0 = true := (lastB_iff _ _ _ _).2 fun j _ hj => ⟨fun hm => by
              obtain ⟨p, hp, e2⟩ := List.mem_map.1 hm
              have := (h.well.fine p hp).chain
              rw [e2] at this
              exact this, fun hn => h.rest j (by omega) hn⟩
            rw [q] at this
            cases this
        · refine .inr ⟨?_, run _ k2⟩
          rintro ⟨L', h⟩
          obtain rfl := h1.det _ h.tree
          refine k1 ⟨by have := h.well.nodup; rw [List.nil_append] at this; exact this, fun x hx => ?_⟩
          obtain ⟨p, hp, rfl⟩ := List.mem_map.1 hx
          have := h.well.fine p hp
          exact ⟨this.live, this.l0, this.l5⟩
      · refine .inr ⟨fun ⟨L, h⟩ => h1 ⟨L, h.tree, by have := h.len; simpa using this⟩, ?_⟩
        refine pre false _ (fun _ => rfl) (fun z => absurd c2 z) (Ev.step (fun _ => rfl) ?_)
        simp only [spec_DomOk.j0]
        exact Ev.ifF (by simp) (Ev.bind h5 (Ev.ifT (show (o.length : Int) > 24 by omega) (Ev.now _)))
    · refine .inr ⟨fun ⟨L, h⟩ => c2 ⟨?_, h.par, h.prv, h.nxt⟩, pre true _ (fun z => absurd z c2) (fun _ => rfl) jt⟩
      obtain ⟨L', e⟩ := h.tree.head
      exact (h.well.fine (0, 0) (by rw [e]; exact List.mem_cons_self)).live
  · refine .inr ⟨fun ⟨L, h⟩ => c1 ⟨by have := h.n1; omega, by have := h.n24; omega⟩, ?_⟩
    unfold spec_DomOk.f
    exact Ev.bindC (l1In_eq _ _ _) (Ev.ifF (by rw [decide_eq_false c1]; simp) jt)
noncomputable def domL (d : List DN) : Option (List (Int × Int)) := @dite _ (∃ L, OkD d L) (Classical.propDecidable _) (fun h => some (Classical.choose h)) (fun _ => none)
theorem domL_some {d : List DN} {L : List (Int × Int)} (h : OkD d L) : domL d = some L := by
  unfold domL
  rw [dif_pos ⟨L, h⟩]
  rw [OkD.det (Classical.choose_spec (⟨L, h⟩ : ∃ L, OkD d L)) h]
theorem domL_none {d : List DN} (h : ¬ ∃ L, OkD d L) : domL d = none := by
  unfold domL
  rw [dif_neg h]
end Go.Proofs.Ytbifdckfglejkaa.Q
namespace Go.Proofs.Ytbifdckfglejkaa.Q
open Go.RowKit Go.Proofs.YtbifdckfglejkaaW.PrintWords Go.Proofs.YtbifdckfglejkaaW.PrintLast Go.Proofs.YtbifdckfglejkaaW.PrintMore Go.Proofs.Ytbifdckfglejkaa.X Go.Proofs.Ytbifdckfglejkaa.Rd
set_option linter.unusedVariables false
set_option linter.unusedSimpArgs false
noncomputable def domTree (d : List DN) : List NodeI := match domL d with
  | some L => L.map (tnode d)
  | none => []
theorem domTree_some {d : List DN} {L : List (Int × Int)} (h : OkD d L) : domTree d = L.map (tnode d) := by
  unfold domTree
  rw [domL_some h]
theorem domTree_none {d : List DN} (h : ¬ ∃ L, OkD d L) : domTree d = [] := by
  unfold domTree
  rw [domL_none h]
theorem implDomTree_ev (d : List DN) (hl : d.length ≤ 9223372036854775807) : Ev (fun k => impl_DomTree.f k d) (domTree d) := by
  unfold impl_DomTree.f
  rcases implWalked_ev d hl with ⟨L, h1, h2⟩ | ⟨h1, t, s, _, h2⟩
  · rw [domTree_some h1]
    exact Ev.bind h2 (Ev.ifT rfl (Ev.now _))
  · rw [domTree_none h1]
    exact Ev.bind h2 (Ev.ifF (by simp) (Ev.now _))
theorem specTree_l {d : List DN} (hd : d.length ≤ 24) {L : List (Int × Int)} (hL : L.length ≤ 24) (hr : ∀ x ∈ nodes L, 0 ≤ x ∧ x < (d.length : Int)) (e : Nat) : ∀ (j : Nat), j + e = L.length → Ev (fun k => spec_DomTree.l0 k ((L.take j).map (tnode d)) (nodes L) (L.map Prod.snd) j d) (L.map (tnode d)) := by
  induction e with
  | zero =>
    intro j hj
    refine Ev.step (fun _ => rfl) ?_
    simp only [spec_DomTree.l0]
    rw [List.take_of_length_le (by omega)]
    exact Ev.ifF (by simp [nodes]; omega) (Ev.now _)
  | succ e ih =>
    intro j hj
    have hlt : j < L.length := by omega
    have hn := ih (j + 1) (by omega)
    have e1 : rd (nodes L) (j : Int) = L[j].1 := by
      show (nodes L).getD (j : Int).toNat 0 = _
      rw [getD_nat _ j _ (by rw [nodes, List.length_map]; exact hlt)]
      simp [nodes]
    have e2 : rd (L.map Prod.snd) (j : Int) = L[j].2 := by
      show (L.map Prod.snd).getD (j : Int).toNat 0 = _
      rw [getD_nat _ j _ (by rw [List.length_map]; exact hlt)]
      simp
    have hx := hr L[j].1 (List.mem_map_of_mem (List.getElem_mem hlt))
    rw [List.take_succ_eq_append_getElem hlt, List.map_append] at hn
    refine Ev.step (fun _ => rfl) ?_
    simp only [spec_DomTree.l0, e1, e2]
    rw [wrap_succ hlt (by omega)]
    refine Ev.ifT (by simp [nodes]; omega) (Ev.ifT (by omega) (Ev.ifT hx.1 (Ev.ifT hx.2 (Ev.ifT (by simp; omega) (Ev.ifT (by simp; omega) ?_)))))
    exact hn
theorem specDomTree_ev (d : List DN) (hl : d.length ≤ 9223372036854775807) : Ev (fun k => spec_DomTree.f k d) (domTree d) := by
  unfold spec_DomTree.f
  refine Ev.bindC rfl ?_
  rcases specDomOk_ev d hl with ⟨L, h1, h2, h3⟩ | ⟨h1, h2⟩
  · rw [domTree_some h1]
    exact Ev.bind h2 (Ev.ifT rfl (Ev.bind h3 (specTree_l h1.n24 h1.len h1.tree.inr L.length 0 (Nat.zero_add _))))
  · rw [domTree_none h1]
    exact Ev.bind h2 (Ev.ifF (by simp) (Ev.now _))
end Go.Proofs.Ytbifdckfglejkaa.Q
namespace Go.Proofs.Ytbifdckfglejkaa.Q
open Go.RowKit Go.Proofs.YtbifdckfglejkaaW.PrintWords Go.Proofs.YtbifdckfglejkaaW.PrintLast Go.Proofs.YtbifdckfglejkaaW.PrintMore Go.Proofs.Ytbifdckfglejkaa.X Go.Proofs.Ytbifdckfglejkaa.Rd
set_option linter.unusedVariables false
set_option linter.unusedSimpArgs false
theorem FnExactDomSize (x : DomL) (w : WF24 x) : ∃ k, laws_FnExactDomSize.f k x.f0 = some true := by
  refine Ev.rounds (g := fun k => laws_FnExactDomSize.f k x.f0) ?_
  unfold laws_FnExactDomSize.f
  refine Ev.bindC (szDom_eq x.f0 _ (by omega) (by omega) w.1) ?_
  by_cases h : (1048576 : Int) < x.f0.length
  · rw [if_pos h]
    exact Ev.ifT (by omega) (Ev.now _)
  rw [if_neg h]
  have t := toDom_ev x.f0 (by omega)
  have hl : (x.f0.map toDomNode).length ≤ 1048576 := by simp; omega
  generalize x.f0.map toDomNode = d at t hl
  have s : Ev (fun k => spec_DomSize.f k d) ((domTree d).length : Int) := Ev.bind (specDomTree_ev d (by omega)) (Ev.now _)
  have i : Ev (fun k => impl_DomSize.f k d) ((domTree d).length : Int) := Ev.bind (implDomTree_ev d (by omega)) (Ev.now _)
  exact Ev.ifF (by omega) (Ev.bind t (Ev.bind s (Ev.bind t (Ev.bind i (Ev.ifT rfl (Ev.bind t (Ev.bind (eqDom_ev d (by omega)) (Ev.ifT rfl (Ev.now _)))))))))
end Go.Proofs.Ytbifdckfglejkaa.Q
