/- Part 9 of the proof of FnExactDomFind: what it needs. -/
import Derived.WalkKit
import Derived.ProofKit
import Derived.OpenShut
import Derived.ShutString
import Derived.ChangeOld
import Derived.Below
import Derived.Deep.Slices
import Derived.Test.YtbifdckfglejkaaKEDomFind4
import Derived.Test.YtbifdckfglejkaaKEDomFind5
import Derived.Test.YtbifdckfglejkaaKEDomFind6
import Derived.Test.YtbifdckfglejkaaKEDomFind7
import Derived.Test.YtbifdckfglejkaaKEDomFind8
namespace Go.Proofs.Ytbifdckfglejkaa.Rd
open Go.ChangeShapes Go.WideShapes Go.ChangeAt Go.RowKit Go.Proofs.YtbifdckfglejkaaW.PrintWords
structure Rd (P : Program) (t : TypeId) {α : Type} (d : Kd α) (wf : α → Prop) : Prop where
  size : P.cellsOf t = d.sz
  reads : ∀ {H : Type} {enc : TypeId × Value → H} {w : World} {spare : Nat → Bool} {held : Bool} {fuel : Nat} {cs : List Value} {x : DataW H × List MemPlace},
    DataW.trod enc P w 0 spare held fuel t cs = some x → ∃ y, d.K w y cs ∧ wf y
theorem rd_int {P : Program} {t : TypeId} {k : IntKind} (ht : P.underlying t = some (.int k)) (hc : P.cellsOf t = 1) : Rd P t (Kd.int k) (fun n => (Lit.int k n).wf = true) :=
  ⟨hc, fun h => by
    obtain ⟨n, rfl, _, hw⟩ := DataW.trod_int ht h
    exact ⟨n, rfl, hw⟩⟩
theorem rd_bool {P : Program} {t : TypeId} (ht : P.underlying t = some .bool) (hc : P.cellsOf t = 1) : Rd P t Kd.bool (fun _ => True) :=
  ⟨hc, fun h => by
    obtain ⟨b, rfl, _⟩ := DataW.trod_bool ht h
    exact ⟨b, rfl, trivial⟩⟩
theorem rd_slice {P : Program} {t e : TypeId} {α : Type} [Inhabited α] {d : Kd α} {wf : α → Prop} (ht : P.underlying t = some (.slice e)) (hc : P.cellsOf t = 1) (h : Rd P e d wf) : Rd P t (Kd.slice e d) (fun xs => xs.length ≤ 9223372036854775807 ∧ ∀ x ∈ xs, wf x) :=
  ⟨hc, fun {H enc w spare held fuel cs x} hx => by
    rcases Go.Deep.open_slice ht hx with ⟨rfl, _⟩ | ⟨a, len, cap, m, n, D, Pl, rfl, _, hl, hm, hmm, _, hel⟩
    · exact ⟨[], ⟨none, 0, rfl, Nat.le_refl _, rfl, by simp, fun h => absurd h (Nat.lt_irrefl _)⟩, by simp, by simp⟩
    · have hle : len ≤ m := by rw [hmm]; split <;> omega
      obtain ⟨f, hf⟩ := Go.Deep.choose_lt (n := len) (p := fun i (y : α) => ∃ cs', w.cells? 0 (a.add (i * P.cellsOf e)) (P.cellsOf e) = some cs' ∧ d.K w y cs' ∧ wf y) (fun i hi => by
        obtain ⟨cs', h1, h2⟩ := hel i (by omega)
        obtain ⟨y, hy, hw⟩ := h.reads h2
        exact ⟨y, cs', h1, hy, hw⟩)
      have hlen : ((List.range len).map f).length = len := by simp
      refine ⟨(List.range len).map f, ⟨some a, cap, by rw [hlen], by rw [hlen]; exact hl, ?_⟩, by rw [hlen]; unfold maxLen at hm; omega, ?_⟩
      · refine ⟨rfl, by rw [hlen]; unfold maxLen at hm; omega, fun _ => ⟨a, rfl, fun j p hj => ?_⟩⟩
        have hj' : j < len ∧ f j = p := by
          rw [List.getElem?_map] at hj
          obtain ⟨i, hi, hp⟩ := Option.map_eq_some_iff.1 hj
          have := List.getElem?_eq_some_iff.1 hi
          obtain ⟨h1, h2⟩ := this
          simp at h1 h2
          subst h2
          exact ⟨h1, hp⟩
        obtain ⟨cs', h1, h2, _⟩ := hf j hj'.1
        rw [hj'.2] at h2
        obtain ⟨_, hn, hcell⟩ := World.cells?_some h1
        refine ⟨cs', d.K_len h2, h2, fun i u hu => ?_⟩
        have hi : i < cs'.length := (List.getElem?_eq_some_iff.1 hu).1
        have := hcell i (by omega)
        rw [Go.Deep.add_add, h.size] at this
        rw [this, hu]
      · intro x hx
        obtain ⟨i, hi, rfl⟩ := List.mem_map.1 hx
        obtain ⟨_, _, _, hw⟩ := hf i (by simpa using hi)
        exact hw⟩
structure RdF (P : Program) (o : Nat) (fs : List Field) {α : Type} (d : Kd α) (wf : α → Prop) : Prop where
  reads : ∀ {H : Type} {enc : TypeId × Value → H} {w : World} {spare : Nat → Bool} {held : Bool} {fuel : Nat} {cs : List Value}, o + d.sz ≤ cs.length →
    (∀ f ∈ fs, ∃ x, DataW.trod enc P w 0 spare held fuel f.type ((cs.drop f.offset).take (P.cellsOf f.type)) = some x) → ∃ y, d.K w y ((cs.drop o).take d.sz) ∧ wf y
theorem rdf_one {P : Program} {o : Nat} {f : Field} {α : Type} {d : Kd α} {wf : α → Prop} (ho : f.offset = o) (h : Rd P f.type d wf) : RdF P o [f] d wf :=
  ⟨fun _ hf => by
    obtain ⟨x, hx⟩ := hf f (by simp)
    rw [ho, h.size] at hx
    exact h.reads hx⟩
theorem rdf_cons {P : Program} {o : Nat} {f : Field} {fs : List Field} {α β : Type} {d : Kd α} {d' : Kd β} {wf : α → Prop} {wf' : β → Prop} (ho : f.offset = o) (h : Rd P f.type d wf) (h' : RdF P (o + d.sz) fs d' wf') :
    RdF P o (f :: fs) (Kd.pair d d') (fun x => wf x.1 ∧ wf' x.2) :=
  ⟨fun {H enc w spare held fuel cs} hl hf => by
    have hl' : o + (d.sz + d'.sz) ≤ cs.length := hl
    obtain ⟨x, hx⟩ := hf f (by simp)
    rw [ho, h.size] at hx
    obtain ⟨y, hy, hw⟩ := h.reads hx
    obtain ⟨y', hy', hw'⟩ := h'.reads (cs := cs) (by omega) (fun g hg => hf g (by simp [hg]))
    refine ⟨(y, y'), ⟨_, _, ?_, hy, hy'⟩, hw, hw'⟩
    show (cs.drop o).take (d.sz + d'.sz) = _
    rw [List.take_add, List.drop_drop]⟩
theorem rd_struct {P : Program} {t : TypeId} {fs : Array Field} {α β : Type} {d : Kd α} {wf : α → Prop} (g : β → α) (ht : P.underlying t = some (.struct fs)) (hc : P.cellsOf t = d.sz) (hg : ∀ y, ∃ x, g x = y) (h : RdF P 0 fs.toList d wf) :
    Rd P t (Kd.iso d g) (fun x => wf (g x)) :=
  ⟨hc, fun {H enc w spare held fuel cs x} hx => by
    obtain ⟨xs, n, _, _, hl, hlen, hf⟩ := DataW.trod_struct ht hx
    obtain ⟨y, hy, hw⟩ := h.reads (enc := enc) (w := w) (spare := spare) (held := held) (fuel := n) (cs := cs) (by omega) (fun f hfm => by
      obtain ⟨i, hi, rfl⟩ := List.getElem_of_mem hfm
      have h1 : fs[i]? = some fs[i] := Array.getElem?_eq_getElem (by simpa using hi)
      have h2 := hf i _ h1
      have h3 : i < xs.length := by rw [hlen]; simpa using hi
      rw [List.getElem?_eq_getElem h3] at h2
      exact ⟨_, h2⟩)
    rw [List.drop_zero, List.take_of_length_le (by omega)] at hy
    obtain ⟨z, rfl⟩ := hg y
    exact ⟨z, hy, hw⟩⟩
theorem own : ownKnob Try.prog.godebug = none := by kernel_rfl
theorem laidOut : laidOutB Try.prog = true := by kernel_rfl
end Go.Proofs.Ytbifdckfglejkaa.Rd
namespace Go.Proofs.Ytbifdckfglejkaa.Rd
open Go.ChangeShapes Go.WideShapes Go.ChangeAt Go.RowKit Go.Proofs.YtbifdckfglejkaaW.PrintWords Go.Proofs.Ytbifdckfglejkaa.X
theorem rdt4 : Rd Try.prog 4 Kd.bool (fun _ => True) := rd_bool Try.underlying4 (by kernel_rfl)
theorem rdt3 : Rd Try.prog 3 (Kd.int .i64) (fun n => (Lit.int .i64 n).wf = true) := rd_int Try.underlying3 (by kernel_rfl)
def WF143 (x : S143) : Prop := True ∧ (Lit.int .i64 x.f1).wf = true ∧ (Lit.int .i64 x.f2).wf = true ∧ (Lit.int .i64 x.f3).wf = true ∧ (Lit.int .i64 x.f4).wf = true ∧ (Lit.int .i64 x.f5).wf = true ∧ (Lit.int .i64 x.f6).wf = true
theorem rdt143 : Rd Try.prog 143 k143 WF143 := rd_struct (fun x : S143 => (x.f0, x.f1, x.f2, x.f3, x.f4, x.f5, x.f6)) Try.underlying143 (by kernel_rfl) (fun y => ⟨⟨y.1, y.2.1, y.2.2.1, y.2.2.2.1, y.2.2.2.2.1, y.2.2.2.2.2.1, y.2.2.2.2.2.2⟩, rfl⟩) (rdf_cons rfl rdt4 (rdf_cons rfl rdt3 (rdf_cons rfl rdt3 (rdf_cons rfl rdt3 (rdf_cons rfl rdt3 (rdf_cons rfl rdt3 (rdf_one rfl rdt3)))))))
def WF22 (xs : (List S143)) : Prop := xs.length ≤ 9223372036854775807 ∧ ∀ x ∈ xs, WF143 x
instance : Inhabited S143 := ⟨z143⟩
theorem rdt22 : Rd Try.prog 22 (Kd.slice 143 k143) WF22 := rd_slice Try.underlying22 (by kernel_rfl) rdt143
structure S24 where
  f0 : (List S143)
def k24 : Kd S24 := Kd.iso (Kd.slice 143 k143) (fun x : S24 => x.f0)
theorem k24_open {w : World} {x : S24} {cs : List Value} (h : k24.K w x cs) : ∃ A0 c0, cs = [.slice A0 x.f0.length c0] ∧ x.f0.length ≤ c0 ∧ Kd.C k143 w A0 x.f0.length x.f0 := by
  obtain ⟨A0, c0, rfl, l0, g0⟩ := h
  exact ⟨A0, c0, rfl, l0, g0⟩
def WF24 (x : S24) : Prop := WF22 x.f0
theorem rdt24 : Rd Try.prog 24 k24 WF24 := rd_struct (fun x : S24 => x.f0) Try.underlying24 (by kernel_rfl) (fun y => ⟨⟨y⟩, rfl⟩) (rdf_one rfl rdt22)
def WF39 (xs : (List Int)) : Prop := xs.length ≤ 9223372036854775807 ∧ ∀ x ∈ xs, (Lit.int .i64 x).wf = true
theorem rdt39 : Rd Try.prog 39 (Kd.slice 3 (Kd.int .i64)) WF39 := rd_slice Try.underlying39 (by kernel_rfl) rdt3
instance : Inhabited S120 := ⟨z120⟩
instance : Inhabited S124 := ⟨z124⟩
instance : Inhabited S63 := ⟨z63⟩
end Go.Proofs.Ytbifdckfglejkaa.Rd
namespace Go.Proofs.Ytbifdckfglejkaa.Q
open Go.RowKit Go.Proofs.YtbifdckfglejkaaW.PrintWords Go.Proofs.YtbifdckfglejkaaW.PrintLast Go.Proofs.YtbifdckfglejkaaW.PrintMore Go.Proofs.Ytbifdckfglejkaa.X Go.Proofs.Ytbifdckfglejkaa.Rd
set_option linter.unusedVariables false
set_option linter.unusedSimpArgs false
theorem wrap_id {x : Int} (h : -9223372036854775808 ≤ x) (h' : x ≤ 9223372036854775807) : wrap64 x = x := by
  unfold wrap64; omega
theorem wrap_succ {i n : Nat} (h : i < n) (hn : n ≤ 9223372036854775807) : wrap64 ((i : Int) + 1) = ((i + 1 : Nat) : Int) := by
  unfold wrap64; omega
theorem Ev.constOf {α : Type} {o : Option α} {r : α} (h : o = some r) : Ev (fun _ => o) r := ⟨0, fun _ _ => h⟩
theorem Ev.bindC {α β : Type} {o : Option α} {f : Nat → α → Option β} {a : α} {r : β} (h : o = some a) (k : Ev (fun n => f n a) r) : Ev (fun n => o.bind (f n)) r :=
  Ev.bind (Ev.constOf h) k
theorem Ev.ifT {α : Type} {c : Prop} [Decidable c] {g f : Nat → Option α} {r : α} (h : c) (k : Ev g r) : Ev (fun n => if c then g n else f n) r := by
  simpa only [if_pos h] using k
theorem Ev.ifF {α : Type} {c : Prop} [Decidable c] {g f : Nat → Option α} {r : α} (h : ¬ c) (k : Ev f r) : Ev (fun n => if c then g n else f n) r := by
  simpa only [if_neg h] using k
theorem ite_dec {α : Type} {p : Prop} [Decidable p] (a b : α) : (if decide p = true then a else b) = if p then a else b := by
  by_cases h : p <;> simp [h]
theorem getD_nat {α : Type} (xs : List α) (i : Nat) (d : α) (h : i < xs.length) : xs.getD ((i : Int)).toNat d = xs[i] := by
  rw [Int.toNat_natCast, List.getD_eq_getElem?_getD, List.getElem?_eq_getElem h]; rfl
theorem getD_lt {α : Type} (xs : List α) {i : Nat} (d : α) (h : i < xs.length) : xs.getD i d = xs[i] := by
  rw [List.getD_eq_getElem?_getD, List.getElem?_eq_getElem h]; rfl
theorem take_succ_map {α β : Type} (f : α → β) (l : List α) (i : Nat) (h : i < l.length) : (l.take (i + 1)).map f = (l.take i).map f ++ [f l[i]] := by
  rw [List.take_succ_eq_append_getElem h, List.map_append]; rfl
theorem take_succ_append {α : Type} (l : List α) (i : Nat) (h : i < l.length) : l.take (i + 1) = l.take i ++ [l[i]] := List.take_succ_eq_append_getElem h
theorem mapLoop {A B : Type} (F : Nat → List A → List B → Int → Option (List B)) (g : Nat → A → Option B) (h : A → B) (dA : A)
    (hF : ∀ k x acc i, F (k + 1) x acc i = if i < (x.length : Int) then (if 0 ≤ i then ((g k (x.getD i.toNat dA)).bind fun b => if i < (acc.length : Int) then F k x (acc.set i.toNat b) (wrap64 (i + 1)) else none) else none) else some acc)
    (l : List A) (hl : l.length ≤ 9223372036854775807) (hg : ∀ x ∈ l, Ev (fun k => g k x) (h x)) (d : Nat) : ∀ (i : Nat) (acc : List B), i + d = l.length → acc.length = l.length → acc.take i = (l.take i).map h →
    Ev (fun k => F k l acc i) (l.map h) := by
  induction d with
  | zero =>
    intro i acc hi ha ht
    have : acc = l.map h := by
      rw [List.take_of_length_le (by omega), List.take_of_length_le (by omega)] at ht
      exact ht
    subst this
    refine Ev.step (f := fun _ => some (l.map h)) (fun k => ?_) (Ev.now _)
    rw [hF, if_neg (by omega)]
  | succ d ih =>
    intro i acc hi ha ht
    have hlt : i < l.length := by omega
    have hn := ih (i + 1) (acc.set i (h l[i])) (by omega) (by simpa using ha) (by
      rw [take_succ_map h l i hlt, take_succ_append _ i (by simp; omega), List.getElem_set_self, List.take_set_of_le (Nat.le_refl i), ht])
    refine Ev.step (f := fun k => (g k l[i]).bind fun b => F k l (acc.set i b) ((i + 1 : Nat) : Int)) (fun k => ?_) (Ev.bind (hg l[i] (List.getElem_mem hlt)) hn)
    rw [hF, if_pos (by omega), if_pos (by omega), Int.toNat_natCast, getD_lt l _ hlt, wrap_succ hlt hl]
    congr 1
    funext b
    rw [if_pos (by omega)]
theorem mapLoop0 {A B : Type} (F : Nat → List A → List B → Int → Option (List B)) (g : Nat → A → Option B) (h : A → B) (dA : A) (z : B)
    (hF : ∀ k x acc i, F (k + 1) x acc i = if i < (x.length : Int) then (if 0 ≤ i then ((g k (x.getD i.toNat dA)).bind fun b => if i < (acc.length : Int) then F k x (acc.set i.toNat b) (wrap64 (i + 1)) else none) else none) else some acc)
    (l : List A) (hl : l.length ≤ 9223372036854775807) (hg : ∀ x ∈ l, Ev (fun k => g k x) (h x)) : Ev (fun k => F k l (List.replicate l.length z) 0) (l.map h) :=
  mapLoop F g h dA hF l hl hg l.length 0 (List.replicate l.length z) (by omega) (by simp) (by simp)
theorem eqLoop {A : Type} (F : Nat → List A → List A → Int → Option Bool) (e : Nat → A → A → Option Bool) (dA : A)
    (hF : ∀ k x y i, F (k + 1) x y i = if i < (x.length : Int) then (if 0 ≤ i then (if i < (y.length : Int) then ((e k (x.getD i.toNat dA) (y.getD i.toNat dA)).bind fun t => if t = true then F k x y (wrap64 (i + 1)) else some false) else none) else none) else some true)
    (l : List A) (hl : l.length ≤ 9223372036854775807) (he : ∀ x ∈ l, Ev (fun k => e k x x) true) (d : Nat) : ∀ (i : Nat), i + d = l.length → Ev (fun k => F k l l i) true := by
  induction d with
  | zero =>
    intro i hi
    refine Ev.step (f := fun _ => some true) (fun k => ?_) (Ev.now _)
    rw [hF, if_neg (by omega)]
  | succ d ih =>
    intro i hi
    have hlt : i < l.length := by omega
    refine Ev.step (f := fun k => (e k l[i] l[i]).bind fun t => if t = true then F k l l ((i + 1 : Nat) : Int) else some false) (fun k => ?_) (Ev.bind (he l[i] (List.getElem_mem hlt)) ?_)
    · rw [hF, if_pos (by omega), if_pos (by omega), if_pos (by omega), Int.toNat_natCast, getD_lt l _ hlt, wrap_succ hlt hl]
    · exact Ev.ifT rfl (ih (i + 1) (by omega))
end Go.Proofs.Ytbifdckfglejkaa.Q
namespace Go.Proofs.Ytbifdckfglejkaa.Q
open Go.RowKit Go.Proofs.YtbifdckfglejkaaW.PrintWords Go.Proofs.YtbifdckfglejkaaW.PrintLast Go.Proofs.YtbifdckfglejkaaW.PrintMore Go.Proofs.Ytbifdckfglejkaa.X Go.Proofs.Ytbifdckfglejkaa.Rd
set_option linter.unusedVariables false
set_option linter.unusedSimpArgs false
abbrev DomNL := S143
abbrev DomNI := S99
abbrev DomL := S24
def toDomNode (x : DomNL) : DomNI := ⟨x.f0, x.f1, x.f2, x.f3, x.f4, x.f5, x.f6⟩
theorem szDom_eq (l : List DomNL) (a : Int) (ha : 0 ≤ a) (ha' : a ≤ 1048576) (hl : l.length ≤ 9223372036854775807) :
    laws_szDom.f l a = some (if a < l.length then -1 else a - l.length) := by
  unfold laws_szDom.f laws_szDomNodeS.f
  rw [wrap_id (by omega) (by omega)]
  by_cases h : a < l.length
  · rw [if_pos (by omega), if_pos h, Option.bind_some, if_pos (by omega)]
  · rw [if_neg (by omega), if_neg h, Option.bind_some, if_neg (by omega)]
theorem toDom_ev (l : List DomNL) (hl : l.length ≤ 1048576) : Ev (fun k => laws_toDom.f k l) (l.map toDomNode) := by
  have h := mapLoop0 laws_toDomNodeS.l0 (fun _ x => some (toDomNode x)) toDomNode z143 z99
    (fun k x acc i => by simp only [laws_toDomNodeS.l0, laws_toDomNode.f, Option.bind_some, rd_T143, toDomNode]) l (by omega) (fun x _ => Ev.now _)
  unfold laws_toDom.f
  refine Ev.bind (Ev.congr (fun k => ?_) h) (Ev.now _)
  unfold laws_toDomNodeS.f
  rw [if_pos (by omega), if_pos (by omega), Int.toNat_natCast]
theorem eqDomNode_some (x : DomNI) : laws_eqDomNode.f x.f0 x.f1 x.f2 x.f3 x.f4 x.f5 x.f6 x.f0 x.f1 x.f2 x.f3 x.f4 x.f5 x.f6 = some true := by
  unfold laws_eqDomNode.f
  simp
theorem eqDom_ev (l : List DomNI) (hl : l.length ≤ 9223372036854775807) : Ev (fun k => laws_eqDom.f k l l) true := by
  have h := eqLoop laws_eqDomNodeS.l0 (fun _ x y => laws_eqDomNode.f x.f0 x.f1 x.f2 x.f3 x.f4 x.f5 x.f6 y.f0 y.f1 y.f2 y.f3 y.f4 y.f5 y.f6) z99 (fun k x y i => by simp only [laws_eqDomNodeS.l0, rd_T99]) l hl
    (fun x _ => Ev.constOf (eqDomNode_some x)) l.length 0 (by omega)
  unfold laws_eqDom.f
  refine Ev.bind (a := true) (Ev.congr (fun k => ?_) h) (Ev.ifT rfl (Ev.now _))
  unfold laws_eqDomNodeS.f
  rw [if_pos rfl]; rfl
end Go.Proofs.Ytbifdckfglejkaa.Q
namespace Go.Proofs.Ytbifdckfglejkaa.Q
open Go.RowKit Go.Proofs.YtbifdckfglejkaaW.PrintWords Go.Proofs.YtbifdckfglejkaaW.PrintLast Go.Proofs.YtbifdckfglejkaaW.PrintMore Go.Proofs.Ytbifdckfglejkaa.X Go.Proofs.Ytbifdckfglejkaa.Rd
set_option linter.unusedVariables false
set_option linter.unusedSimpArgs false
theorem toIntS_ev (l : List Int) (hl : l.length ≤ 1048576) : Ev (fun k => laws_toIntS.f k l) l := by
  have h := mapLoop0 laws_toIntS.l0 (fun _ x => some x) (fun x => x) 0 0 (fun k x acc i => by simp only [laws_toIntS.l0, Option.bind_some, rd]) l (by omega) (fun x _ => Ev.now x)
  rw [List.map_id'] at h
  refine Ev.congr (fun k => ?_) h
  unfold laws_toIntS.f
  rw [if_pos (by omega), if_pos (by omega), Int.toNat_natCast]
theorem eqIntS_ev (l : List Int) (hl : l.length ≤ 9223372036854775807) : Ev (fun k => laws_eqIntS.f k l l) true := by
  have h := eqLoop laws_eqIntS.l0 (fun _ x y => some (decide (x = y))) 0 (fun k x y i => by
    simp only [laws_eqIntS.l0, Option.bind_some, rd]
    by_cases h : x.getD i.toNat 0 = y.getD i.toNat 0
    · simp only [h, decide_true, if_true]
    · simp only [h, decide_false, if_false, Bool.false_eq_true]) l hl (fun x _ => by simpa using Ev.now true) l.length 0 (by omega)
  refine Ev.congr (fun k => ?_) h
  unfold laws_eqIntS.f
  rw [if_pos rfl]; rfl
end Go.Proofs.Ytbifdckfglejkaa.Q
namespace Go.Proofs.Ytbifdckfglejkaa.Q
open Go.RowKit Go.Proofs.YtbifdckfglejkaaW.PrintWords Go.Proofs.YtbifdckfglejkaaW.PrintLast Go.Proofs.YtbifdckfglejkaaW.PrintMore Go.Proofs.Ytbifdckfglejkaa.X Go.Proofs.Ytbifdckfglejkaa.Rd
set_option linter.unusedVariables false
set_option linter.unusedSimpArgs false
abbrev NodeI := S90
def nd (l : List NodeI) (i : Nat) : NodeI := l.getD i z90
def lab (l : List NodeI) (i : Nat) : Int := (nd l i).f0
def dep (l : List NodeI) (i : Nat) : Int := (nd l i).f1
theorem rd_nd (l : List NodeI) (i : Nat) : rd_T90 l (i : Int) = nd l i := by
  simp [rd_T90, nd]
theorem rd_lab (l : List NodeI) (i : Nat) : (rd_T90 l (i : Int)).f0 = lab l i := by rw [rd_nd]; rfl
theorem rd_dep (l : List NodeI) (i : Nat) : (rd_T90 l (i : Int)).f1 = dep l i := by rw [rd_nd]; rfl
theorem rd_dep0 (l : List NodeI) : (rd_T90 l 0).f1 = dep l 0 := rd_dep l 0
structure Chk (l : List NodeI) (j : Nat) : Prop where
  l0 : 0 ≤ lab l j
  l5 : lab l j ≤ 5
  d0 : 0 ≤ dep l j
  d12 : dep l j ≤ 12
  root : j = 0 → dep l 0 = 0
  pos : 0 < j → 1 ≤ dep l j
  step : 0 < j → dep l j ≤ dep l (j - 1) + 1
structure Tr (l : List NodeI) : Prop where
  len1 : 1 ≤ l.length
  len24 : l.length ≤ 24
  chk : ∀ j, j < l.length → Chk l j
noncomputable def trB (l : List NodeI) : Bool := @decide (Tr l) (Classical.propDecidable _)
theorem trB_iff (l : List NodeI) : trB l = true ↔ Tr l := by
  unfold trB; exact @decide_eq_true_iff _ (Classical.propDecidable _)
theorem trB_false (l : List NodeI) (h : ¬ Tr l) : trB l = false := by
  rw [← Bool.not_eq_true, trB_iff]; exact h
theorem trB_true {l : List NodeI} (h : Tr l) : trB l = true := (trB_iff l).2 h
theorem within_eq (a b c : Int) : impl_within.f a b c = some (decide (b ≤ a ∧ a ≤ c)) := by
  unfold impl_within.f
  by_cases h : b ≤ a <;> simp [h]
theorem l1In_eq (a b c : Int) : spec_l1In.f a b c = some (decide (b ≤ a ∧ a ≤ c)) := by
  unfold spec_l1In.f
  by_cases h : b ≤ a
  · rw [if_pos h]; simp [h]
  · rw [if_neg h]; simp [h]
theorem implLabelOk_eq (a : Int) : impl_LabelOk.f a = some (decide (0 ≤ a ∧ a ≤ 5)) := by
  unfold impl_LabelOk.f; rw [within_eq]; rfl
theorem specLabelOk_eq (a : Int) : spec_LabelOk.f a = some (decide (0 ≤ a ∧ a ≤ 5)) := by
  unfold spec_LabelOk.f; rw [l1In_eq]; rfl
theorem implTreeOk_l (l : List NodeI) (h1 : 1 ≤ l.length) (h24 : l.length ≤ 24) (d : Nat) : ∀ i : Nat, i + d = l.length → (∀ j, j < i → Chk l j) → Ev (fun k => impl_TreeOk.l0 k l l l.length i) (trB l) := by
  induction d with
  | zero =>
    intro i hi hc
    rw [trB_true ⟨h1, h24, fun j hj => hc j (by omega)⟩]
    refine Ev.step (f := fun _ => some true) (fun k => ?_) (Ev.now _)
    simp only [impl_TreeOk.l0]
    rw [if_neg (by omega)]
  | succ d ih =>
    intro i hi hc
    have hlt : i < l.length := by omega
    have no : ¬ Chk l i → trB l = false := fun h => trB_false l fun t => h (t.chk i hlt)
    have e : ∀ k, impl_TreeOk.l0 (k + 1) l l l.length i = if (0 ≤ lab l i ∧ lab l i ≤ 5) then (if 0 ≤ dep l i ∧ dep l i ≤ 12 then ((impl_depthOk.f l i).bind fun t => if t = true then impl_TreeOk.l0 k l l l.length ((i + 1 : Nat) : Int) else some false) else some false) else some false := by
      intro k
      simp only [impl_TreeOk.l0]
      rw [if_pos (by omega), if_pos (by omega), if_pos (by omega), rd_lab, rd_dep, implLabelOk_eq, Option.bind_some, within_eq, wrap_succ hlt (by omega)]
      simp only [ite_dec, Option.bind_some]
    by_cases c1 : 0 ≤ lab l i ∧ lab l i ≤ 5
    · by_cases c2 : 0 ≤ dep l i ∧ dep l i ≤ 12
      · have dk : impl_depthOk.f l i = some (decide ((i = 0 → dep l 0 = 0) ∧ (0 < i → 1 ≤ dep l i ∧ dep l i ≤ dep l (i - 1) + 1))) := by
          unfold impl_depthOk.f
          by_cases c3 : i = 0
          · subst c3
            rw [if_pos (by omega), if_pos (by omega)]
            rw [rd_dep0]
            congr 1
            by_cases c4 : dep l 0 = 0 <;> simp [c4]
          · have hp := hc (i - 1) (by omega)
            have w1 : wrap64 ((i : Int) - 1) = ((i - 1 : Nat) : Int) := by rw [wrap_id (by omega) (by omega)]; omega
            rw [if_neg (by omega), if_pos (by omega), if_pos (by omega), w1, if_pos (by omega), if_pos (by omega), rd_dep, rd_dep, within_eq, Option.bind_some]
            have d12 := hp.d12
            have d0 := hp.d0
            rw [wrap_id (by omega) (by omega)]
            congr 1
            have c5 : 0 < i := by omega
            simp [c3, c5]
        by_cases c3 : (i = 0 → dep l 0 = 0) ∧ (0 < i → 1 ≤ dep l i ∧ dep l i ≤ dep l (i - 1) + 1)
        · refine Ev.step (f := fun k => impl_TreeOk.l0 k l l l.length ((i + 1 : Nat) : Int)) (fun k => ?_) (ih (i + 1) (by omega) (fun j hj => ?_))
          · rw [e, if_pos c1, if_pos c2, dk, Option.bind_some, if_pos (decide_eq_true c3)]
          · by_cases ej : j = i
            · subst ej
              exact ⟨c1.1, c1.2, c2.1, c2.2, c3.1, fun h => (c3.2 h).1, fun h => (c3.2 h).2⟩
            · exact hc j (by omega)
        · rw [no fun h => c3 ⟨h.root, fun hp => ⟨h.pos hp, h.step hp⟩⟩]
          refine Ev.step (f := fun _ => some false) (fun k => ?_) (Ev.now _)
          rw [e, if_pos c1, if_pos c2, dk, Option.bind_some, if_neg (by rw [decide_eq_false c3]; simp)]
      · rw [no fun h => c2 ⟨h.d0, h.d12⟩]
        refine Ev.step (f := fun _ => some false) (fun k => ?_) (Ev.now _)
        rw [e, if_pos c1, if_neg c2]
    · rw [no fun h => c1 ⟨h.l0, h.l5⟩]
      refine Ev.step (f := fun _ => some false) (fun k => ?_) (Ev.now _)
      rw [e, if_neg c1]
theorem implTreeOk_ev (l : List NodeI) : Ev (fun k => impl_TreeOk.f k l) (trB l) := by
  unfold impl_TreeOk.f
  refine Ev.bindC (within_eq _ _ _) ?_
  by_cases h : (1 : Int) ≤ l.length ∧ (l.length : Int) ≤ 24
  · refine Ev.ifT (by simpa using h) ?_
    exact implTreeOk_l l (by omega) (by omega) l.length 0 (by omega) (fun j hj => absurd hj (Nat.not_lt_zero _))
  · rw [trB_false l fun t => h ⟨by have := t.len1; omega, by have := t.len24; omega⟩]
    exact Ev.ifF (by simpa using h) (Ev.now _)
noncomputable def hasB (l : List NodeI) (a : Int) : Bool := @decide (Tr l ∧ 0 ≤ a ∧ a < l.length) (Classical.propDecidable _)
theorem hasB_iff (l : List NodeI) (a : Int) : hasB l a = true ↔ (Tr l ∧ 0 ≤ a ∧ a < l.length) := by
  unfold hasB; exact @decide_eq_true_iff _ (Classical.propDecidable _)
theorem hasB_false {l : List NodeI} {a : Int} (h : ¬ (Tr l ∧ 0 ≤ a ∧ a < l.length)) : hasB l a = false := by
  rw [← Bool.not_eq_true, hasB_iff]; exact h
theorem implHas_ev (l : List NodeI) (a : Int) : Ev (fun k => impl_hasNode.f k l a) (hasB l a) := by
  unfold impl_hasNode.f
  refine Ev.bind (implTreeOk_ev l) ?_
  by_cases h : Tr l
  · refine Ev.ifT (trB_true h) (Ev.constOf ?_)
    have := h.len1
    have := h.len24
    rw [wrap_id (by omega) (by omega), within_eq, Option.bind_some]
    congr 1
    rw [Bool.eq_iff_iff, decide_eq_true_iff, hasB_iff]
    exact ⟨fun z => ⟨h, by omega, by omega⟩, fun z => by omega⟩
  · refine Ev.ifF (by rw [trB_false l h]; simp) ?_
    rw [hasB_false fun z => h z.1]
    exact Ev.now _
def endFrom (l : List NodeI) (d : Int) : Nat → Nat → Nat
  | 0, e => e
  | n + 1, e => if e < l.length ∧ dep l e > d then endFrom l d n (e + 1) else e
def endN (l : List NodeI) (i : Nat) : Nat := endFrom l (dep l i) l.length (i + 1)
theorem endFrom_spec (l : List NodeI) (d : Int) (n : Nat) : ∀ e, e ≤ l.length → l.length ≤ e + n → e ≤ endFrom l d n e ∧ endFrom l d n e ≤ l.length ∧ (∀ j, e ≤ j → j < endFrom l d n e → dep l j > d) ∧ (endFrom l d n e < l.length → dep l (endFrom l d n e) ≤ d) := by
  induction n with
  | zero => intro e h1 h2; simp only [endFrom]; exact ⟨Nat.le_refl _, h1, fun j a b => by omega, fun h => by omega⟩
  | succ n ih =>
    intro e h1 h2
    simp only [endFrom]
    by_cases c : e < l.length ∧ dep l e > d
    · rw [if_pos c]
      obtain ⟨a1, a2, a3, a4⟩ := ih (e + 1) (by omega) (by omega)
      refine ⟨by omega, a2, fun j hj1 hj2 => ?_, a4⟩
      by_cases ej : j = e
      · subst ej; exact c.2
      · exact a3 j (by omega) hj2
    · rw [if_neg c]
      refine ⟨Nat.le_refl _, h1, fun j a b => by omega, fun h => ?_⟩
      have : ¬ dep l e > d := fun z => c ⟨h, z⟩
      omega
theorem endN_spec (l : List NodeI) {i : Nat} (hi : i < l.length) : i < endN l i ∧ endN l i ≤ l.length ∧ (∀ j, i < j → j < endN l i → dep l j > dep l i) ∧ (endN l i < l.length → dep l (endN l i) ≤ dep l i) := by
  obtain ⟨a1, a2, a3, a4⟩ := endFrom_spec l (dep l i) l.length (i + 1) (by omega) (by omega)
  exact ⟨a1, a2, fun j h1 h2 => a3 j h1 h2, a4⟩
theorem endN_unique (l : List NodeI) {i e : Nat} (hi : i < l.length) (h1 : i < e) (h2 : e ≤ l.length) (h3 : ∀ j, i < j → j < e → dep l j > dep l i) (h4 : e < l.length → dep l e ≤ dep l i) : endN l i = e := by
  obtain ⟨a1, a2, a3, a4⟩ := endN_spec l hi
  rcases Nat.lt_trichotomy (endN l i) e with h | h | h
  · have := h3 _ a1 h
    have := a4 (by omega)
    omega
  · exact h
  · have := a3 e h1 h
    have := h4 (by omega)
    omega
theorem implEndOf_l (l : List NodeI) (hm : l.length ≤ 1048576) (i : Nat) (hi : i < l.length) (n : Nat) : ∀ e : Nat, e ≤ l.length → l.length ≤ e + n → Ev (fun k => impl_endOf.l0 k l i e) (endFrom l (dep l i) n e : Nat) := by
  induction n with
  | zero =>
    intro e h1 h2
    refine Ev.step (f := fun _ => some ((endFrom l (dep l i) 0 e : Nat) : Int)) (fun k => ?_) (Ev.now _)
    simp only [impl_endOf.l0, endFrom]
    rw [if_neg (by omega)]
  | succ n ih =>
    intro e h1 h2
    simp only [endFrom]
    by_cases c : e < l.length ∧ dep l e > dep l i
    · rw [if_pos c]
      refine Ev.step (f := fun k => impl_endOf.l0 k l i ((e + 1 : Nat) : Int)) (fun k => ?_) (ih (e + 1) (by omega) (by omega))
      simp only [impl_endOf.l0]
      rw [if_pos (by omega), if_pos (by omega), if_pos (by omega), if_pos (by omega), rd_dep, rd_dep, if_pos c.2, wrap_succ c.1 (by omega)]
    · rw [if_neg c]
      refine Ev.step (f := fun _ => some (e : Int)) (fun k => ?_) (Ev.now _)
      simp only [impl_endOf.l0]
      by_cases c1 : e < l.length
      · have c2 : ¬ dep l e > dep l i := fun z => c ⟨c1, z⟩
        rw [if_pos (by omega), if_pos (by omega), if_pos (by omega), if_pos (by omega), rd_dep, rd_dep, if_neg c2]
      · rw [if_neg (by omega)]
theorem implEndOf_ev (l : List NodeI) (hm : l.length ≤ 1048576) (i : Nat) (hi : i < l.length) : Ev (fun k => impl_endOf.f k l i) (endN l i : Nat) := by
  unfold impl_endOf.f
  rw [wrap_succ hi (by omega)]
  exact implEndOf_l l hm i hi l.length (i + 1) (by omega) (by omega)
end Go.Proofs.Ytbifdckfglejkaa.Q
namespace Go.Proofs.Ytbifdckfglejkaa.Q
open Go.RowKit Go.Proofs.YtbifdckfglejkaaW.PrintWords Go.Proofs.YtbifdckfglejkaaW.PrintLast Go.Proofs.YtbifdckfglejkaaW.PrintMore Go.Proofs.Ytbifdckfglejkaa.X Go.Proofs.Ytbifdckfglejkaa.Rd
set_option linter.unusedVariables false
set_option linter.unusedSimpArgs false
theorem implHas_l (l : List Int) (hl : l.length ≤ 1048576) (x : Int) (d : Nat) : ∀ j : Nat, j + d = l.length → ∃ r, Ev (fun k => slices_Index_int_int.l0 k l x l.length j) r ∧ (r ≥ 0 ↔ x ∈ l.drop j) := by
  induction d with
  | zero =>
    intro j hj
    refine ⟨-1, Ev.step (fun _ => rfl) ?_, ?_⟩
    · simp only [slices_Index_int_int.l0]
      exact Ev.ifF (by omega) (Ev.now _)
    · rw [List.drop_of_length_le (by omega)]
      simp
  | succ d ih =>
    intro j hj
    have hlt : j < l.length := by omega
    obtain ⟨r, h1, h2⟩ := ih (j + 1) (by omega)
    rw [List.drop_eq_getElem_cons hlt]
    by_cases c : x = l[j]
    · refine ⟨j, Ev.step (fun _ => rfl) ?_, ⟨fun _ => by rw [← c]; exact List.mem_cons_self, fun _ => by omega⟩⟩
      simp only [slices_Index_int_int.l0, rd, getD_nat l j _ hlt]
      exact Ev.ifT (by omega) (Ev.ifT (by omega) (Ev.ifT (by omega) (Ev.ifT c (Ev.now _))))
    · refine ⟨r, Ev.step (fun _ => rfl) ?_, ?_⟩
      · simp only [slices_Index_int_int.l0, rd, getD_nat l j _ hlt]
        rw [wrap_succ hlt (by omega)]
        exact Ev.ifT (by omega) (Ev.ifT (by omega) (Ev.ifT (by omega) (Ev.ifF c h1)))
      · rw [h2, List.mem_cons]
        exact ⟨fun h => .inr h, fun h => h.resolve_left c⟩
theorem implContains_ev (l : List Int) (hl : l.length ≤ 1048576) (x : Int) : Ev (fun k => slices_Contains_int_int.f k l x) (decide (x ∈ l)) := by
  unfold slices_Contains_int_int.f
  obtain ⟨r, h1, h2⟩ := implHas_l l hl x l.length 0 (Nat.zero_add _)
  rw [List.drop_zero] at h2
  refine Ev.bind h1 ?_
  rw [show decide (x ∈ l) = decide (r ≥ 0) from decide_eq_decide.2 h2.symm]
  exact Ev.now _
end Go.Proofs.Ytbifdckfglejkaa.Q
namespace Go.Proofs.Ytbifdckfglejkaa.Q
open Go.RowKit Go.Proofs.YtbifdckfglejkaaW.PrintWords Go.Proofs.YtbifdckfglejkaaW.PrintLast Go.Proofs.YtbifdckfglejkaaW.PrintMore Go.Proofs.Ytbifdckfglejkaa.X Go.Proofs.Ytbifdckfglejkaa.Rd
set_option linter.unusedVariables false
set_option linter.unusedSimpArgs false
abbrev DN := S99
abbrev dn (d : List DN) (x : Int) : DN := rd_T99 d x
inductive RT (d : List DN) : Bool → Int → Int → List (Int × Int) → Prop
  | sub {dep i : Int} {L : List (Int × Int)} : 0 ≤ i → i < d.length → dep ≤ 12 → RT d false dep (dn d i).f3 L → RT d true dep i ((i, dep) :: L)
  | nil {dep : Int} : RT d false dep (-1) []
  | cons {dep k : Int} {L1 L2 : List (Int × Int)} : 0 ≤ k → k < d.length → RT d true (dep + 1) k L1 → RT d false dep (dn d k).f6 L2 → RT d false dep k (L1 ++ L2)
theorem RT.det {d : List DN} {b : Bool} {dep k : Int} {L : List (Int × Int)} (h : RT d b dep k L) : ∀ L', RT d b dep k L' → L = L' := by
  induction h with
  | sub h1 h2 h3 h4 ih => intro L' h'; cases h' with
    | sub _ _ _ k4 => rw [ih _ k4]
  | nil => intro L' h'; cases h' with
    | nil => rfl
    | cons k1 => omega
  | cons h1 h2 h3 h4 ih1 ih2 => intro L' h'; cases h' with
    | nil => omega
    | cons _ _ k3 k4 => rw [ih1 _ k3, ih2 _ k4]
theorem RT.head {d : List DN} {dep i : Int} {L : List (Int × Int)} (h : RT d true dep i L) : ∃ L', L = (i, dep) :: L' := by
  cases h with
  | sub _ _ _ _ => exact ⟨_, rfl⟩
inductive Chain (d : List DN) (i : Int) : Int → Int → Prop
  | nil {last : Int} : (dn d i).f4 = last → Chain d i last (-1)
  | cons {last k : Int} : 0 ≤ k → k < d.length → (dn d k).f2 = i → (dn d k).f5 = last → Chain d i k (dn d k).f6 → Chain d i last k
structure Fine (d : List DN) (x : Int) : Prop where
  live : (dn d x).f0 = true
  l0 : 0 ≤ (dn d x).f1
  l5 : (dn d x).f1 ≤ 5
  chain : Chain d x (-1) (dn d x).f3
abbrev nodes (L : List (Int × Int)) : List Int := L.map Prod.fst
structure Well (d : List DN) (S : List Int) (L : List (Int × Int)) : Prop where
  nodup : (S ++ nodes L).Nodup
  fine : ∀ p ∈ L, Fine d p.1
theorem Well.left {d : List DN} {S : List Int} {L1 L2 : List (Int × Int)} (h : Well d S (L1 ++ L2)) : Well d S L1 := by
  refine ⟨?_, fun p hp => h.fine p (List.mem_append_left _ hp)⟩
  have := h.nodup
  rw [show S ++ nodes (L1 ++ L2) = (S ++ nodes L1) ++ nodes L2 from by simp [nodes]] at this
  exact (List.nodup_append.1 this).1
theorem Well.right {d : List DN} {S : List Int} {L1 L2 : List (Int × Int)} (h : Well d S (L1 ++ L2)) : Well d (S ++ nodes L1) L2 := by
  refine ⟨?_, fun p hp => h.fine p (List.mem_append_right _ hp)⟩
  have := h.nodup
  rw [show S ++ nodes (L1 ++ L2) = (S ++ nodes L1) ++ nodes L2 from by simp [nodes]] at this
  exact this
theorem Well.join {d : List DN} {S : List Int} {L1 L2 : List (Int × Int)} (h1 : Well d S L1) (h2 : Well d (S ++ nodes L1) L2) : Well d S (L1 ++ L2) := by
  refine ⟨?_, fun p hp => ?_⟩
  · rw [show S ++ nodes (L1 ++ L2) = (S ++ nodes L1) ++ nodes L2 from by simp [nodes]]
    exact h2.nodup
  · rcases List.mem_append.1 hp with hp | hp
    · exact h1.fine p hp
    · exact h2.fine p hp
theorem few (n : Nat) : ∀ l : List Int, l.Nodup → (∀ x ∈ l, 0 ≤ x ∧ x < (n : Int)) → l.length ≤ n := by
  induction n with
  | zero =>
    intro l _ h
    cases l with
    | nil => exact Nat.le_refl _
    | cons x l => have := h x List.mem_cons_self; omega
  | succ n ih =>
    intro l hn h
    have h1 := ih (l.filter fun x => decide (x ≠ (n : Int))) (hn.filter _) (fun x hx => by
      obtain ⟨hm, hd⟩ := List.mem_filter.1 hx
      have := h x hm
      have : x ≠ (n : Int) := by simpa using hd
      omega)
    have h2 : (l.filter fun x => decide (x = (n : Int))).length ≤ 1 := by
      have h3 := (hn.filter fun x => decide (x = (n : Int)))
      have h4 : ∀ x ∈ l.filter (fun x => decide (x = (n : Int))), x = (n : Int) := fun x hx => by simpa using (List.mem_filter.1 hx).2
      generalize l.filter (fun x => decide (x = (n : Int))) = q at h3 h4
      cases q with
      | nil => simp
      | cons a q =>
        cases q with
        | nil => simp
        | cons b q =>
          have e1 := h4 a (by simp)
          have e2 := h4 b (by simp)
          have h6 := (List.nodup_cons.1 (show (a :: b :: q).Nodup from h3)).1
          exact absurd (by rw [e1, e2]; simp) h6
    have h5 : ∀ q : List Int, q.length = (q.filter fun x => decide (x ≠ (n : Int))).length + (q.filter fun x => decide (x = (n : Int))).length := by
      intro q
      induction q with
      | nil => rfl
      | cons a q ihq =>
        by_cases c : a = (n : Int)
        · rw [List.filter_cons_of_neg (by simpa using c), List.filter_cons_of_pos (by simpa using c)]
          simp only [List.length_cons]
          omega
        · rw [List.filter_cons_of_pos (by simpa using c), List.filter_cons_of_neg (by simpa using c)]
          simp only [List.length_cons]
          omega
    have := h5 l
    omega
def tnode (d : List DN) (p : Int × Int) : NodeI := ⟨(dn d p.1).f1, p.2⟩
structure Met (d : List DN) (S : List Int) : Prop where
  nodup : S.Nodup
  inr : ∀ x ∈ S, 0 ≤ x ∧ x < (d.length : Int)
theorem Met.few {d : List DN} {S : List Int} (h : Met d S) (hd : d.length ≤ 24) : S.length ≤ 24 := Nat.le_trans (Q.few _ _ h.nodup h.inr) hd
theorem RT.inr {d : List DN} {b : Bool} {dep k : Int} {L : List (Int × Int)} (h : RT d b dep k L) : ∀ x ∈ nodes L, 0 ≤ x ∧ x < (d.length : Int) := by
  induction h with
  | sub h1 h2 _ _ ih =>
    intro x hx
    rw [nodes, List.map_cons, List.mem_cons] at hx
    rcases hx with rfl | hx
    · exact ⟨h1, h2⟩
    · exact ih x hx
  | nil => intro x hx; exact absurd hx List.not_mem_nil
  | cons _ _ _ _ ih1 ih2 =>
    intro x hx
    rw [nodes, List.map_append, List.mem_append] at hx
    rcases hx with hx | hx
    · exact ih1 x hx
    · exact ih2 x hx
theorem Met.more {d : List DN} {S : List Int} {L : List (Int × Int)} {b : Bool} {dep k : Int} (h : Met d S) (w : Well d S L) (t : RT d b dep k L) : Met d (S ++ nodes L) :=
  ⟨w.nodup, fun x hx => by
    rcases List.mem_append.1 hx with hx | hx
    · exact h.inr x hx
    · exact t.inr x hx⟩
def VisitT (d : List DN) (m : Nat) : Prop := ∀ (i dep : Int) (T : List NodeI) (S : List Int), Met d S → T.length = S.length → 25 ≤ S.length + m → 0 ≤ i → i < d.length → i ∉ S → 0 ≤ dep → dep ≤ 13 →
  (∃ L, RT d true dep i L ∧ Well d S L ∧ Ev (fun k => impl_Dom_visit.f k d i dep T S) (T ++ L.map (tnode d), S ++ nodes L, true)) ∨
  ((¬ ∃ L, RT d true dep i L ∧ Well d S L) ∧ ∃ t s, t.length ≤ 24 ∧ Ev (fun k => impl_Dom_visit.f k d i dep T S) (t, s, false))
def LoopT (d : List DN) (m : Nat) : Prop := ∀ (i dep : Int) (T : List NodeI) (S : List Int) (last c : Int), Met d S → T.length = S.length → 25 ≤ S.length + m → 0 ≤ dep → dep ≤ 12 →
  (∃ L, RT d false dep c L ∧ Well d S L ∧ Chain d i last c ∧ Ev (fun k => impl_Dom_visit.l0 k i dep T S last c d (dn d i).f0 (dn d i).f1 (dn d i).f2 (dn d i).f3 (dn d i).f4 (dn d i).f5 (dn d i).f6) (T ++ L.map (tnode d), S ++ nodes L, true)) ∨
  ((¬ ∃ L, RT d false dep c L ∧ Well d S L ∧ Chain d i last c) ∧ ∃ t s, t.length ≤ 24 ∧ Ev (fun k => impl_Dom_visit.l0 k i dep T S last c d (dn d i).f0 (dn d i).f1 (dn d i).f2 (dn d i).f3 (dn d i).f4 (dn d i).f5 (dn d i).f6) (t, s, false))
theorem visit_of {d : List DN} (hd : d.length ≤ 24) {m : Nat} (hl : LoopT d m) : VisitT d (m + 1) := by
  intro i dep T S hM hT hm hi hn hS h0 h13
  have hf := hM.few hd
  have e : ∀ b r, Ev (fun k => impl_Dom_visit.j0 k i dep T S b d (dn d i).f0 (dn d i).f1 (dn d i).f2 (dn d i).f3 (dn d i).f4 (dn d i).f5 (dn d i).f6) r → (b = true → r = (T, S, false)) → True := fun _ _ _ _ => trivial
  have jt : Ev (fun k => impl_Dom_visit.j0 k i dep T S true d (dn d i).f0 (dn d i).f1 (dn d i).f2 (dn d i).f3 (dn d i).f4 (dn d i).f5 (dn d i).f6) (T, S, false) := by
    refine Ev.step (fun _ => rfl) ?_
    simp only [impl_Dom_visit.j0]
    exact Ev.ifT trivial (Ev.now _)
  by_cases c1 : (dn d i).f0 = true
  · by_cases c2 : 0 ≤ (dn d i).f1 ∧ (dn d i).f1 ≤ 5
    · by_cases c3 : dep > 12
      · refine .inr ⟨?_, T, S, by omega, ?_⟩
        · rintro ⟨L, h1, _⟩
          cases h1 with
          | sub _ _ h3 _ => omega
        · refine Ev.step (fun _ => rfl) ?_
          simp only [impl_Dom_visit.f]
          refine Ev.ifT hi (Ev.ifT hn (Ev.ifT c1 (Ev.bindC (implLabelOk_eq _) (Ev.ifT (decide_eq_true c2) ?_))))
          rw [decide_eq_true c3]
          exact jt
      · have hM2 : Met d (S ++ [i]) := ⟨by
            rw [List.nodup_append]
            refine ⟨hM.nodup, by simp, fun a ha b hb => ?_⟩
            rw [List.mem_singleton] at hb
            subst hb
            intro e
            subst e
            exact hS ha, fun x hx => by
            rcases List.mem_append.1 hx with hx | hx
            · exact hM.inr x hx
            · rw [List.mem_singleton] at hx; subst hx; exact ⟨hi, hn⟩⟩
        have run : ∀ r, Ev (fun k => impl_Dom_visit.l0 k i dep (T ++ [tnode d (i, dep)]) (S ++ [i]) (-1) (dn d i).f3 d (dn d i).f0 (dn d i).f1 (dn d i).f2 (dn d i).f3 (dn d i).f4 (dn d i).f5 (dn d i).f6) r → Ev (fun k => impl_Dom_visit.f k d i dep T S) r := by
          intro r hr
          refine Ev.step (fun _ => rfl) ?_
          simp only [impl_Dom_visit.f]
          refine Ev.ifT hi (Ev.ifT hn (Ev.ifT c1 (Ev.bindC (implLabelOk_eq _) (Ev.ifT (decide_eq_true c2) ?_))))
          rw [decide_eq_false c3]
          refine Ev.step (fun _ => rfl) ?_
          simp only [impl_Dom_visit.j0]
          exact Ev.ifF (by simp) (Ev.ifT (by omega) (Ev.ifT (by omega) hr))
        rcases hl i dep (T ++ [tnode d (i, dep)]) (S ++ [i]) (-1) (dn d i).f3 hM2 (by simp; omega) (by simp; omega) h0 (by omega) with ⟨L, h1, h2, h3, h4⟩ | ⟨h1, t, s, h2, h3⟩
        · refine .inl ⟨(i, dep) :: L, .sub hi hn (by omega) h1, ⟨?_, ?_⟩, ?_⟩
          · have := h2.nodup
            rw [List.append_assoc] at this
            exact this
          · intro p hp
            rcases List.mem_cons.1 hp with rfl | hp
            · exact ⟨c1, c2.1, c2.2, h3⟩
            · exact h2.fine p hp
          · have := run _ h4
            rw [List.append_assoc, List.append_assoc] at this
            exact this
        · refine .inr ⟨?_, t, s, h2, run _ h3⟩
          rintro ⟨L, k1, k2⟩
          cases k1 with
          | sub _ _ _ k4 =>
            refine h1 ⟨_, k4, ⟨?_, fun p hp => k2.fine p (List.mem_cons_of_mem _ hp)⟩, (k2.fine _ List.mem_cons_self).chain⟩
            have := k2.nodup
            rw [nodes, List.map_cons] at this
            rw [List.append_assoc]
            exact this
    · refine .inr ⟨?_, T, S, by omega, ?_⟩
      · rintro ⟨L, h1, h2⟩
        obtain ⟨L', rfl⟩ := h1.head
        have := h2.fine _ List.mem_cons_self
        exact c2 ⟨this.l0, this.l5⟩
      · refine Ev.step (fun _ => rfl) ?_
        simp only [impl_Dom_visit.f]
        exact Ev.ifT hi (Ev.ifT hn (Ev.ifT c1 (Ev.bindC (implLabelOk_eq _) (Ev.ifF (by rw [decide_eq_false c2]; simp) jt))))
  · refine .inr ⟨?_, T, S, by omega, ?_⟩
    · rintro ⟨L, h1, h2⟩
      obtain ⟨L', rfl⟩ := h1.head
      exact c1 (h2.fine _ List.mem_cons_self).live
    · refine Ev.step (fun _ => rfl) ?_
      simp only [impl_Dom_visit.f]
      exact Ev.ifT hi (Ev.ifT hn (Ev.ifF c1 jt))
theorem loop_of {d : List DN} (hd : d.length ≤ 24) {m : Nat} (hv : VisitT d (m + 1)) (hl : LoopT d m) : LoopT d (m + 1) := by
  intro i dep T S last c hM hT hm h0 h12
  have hf := hM.few hd
  by_cases c1 : c = -1
  · subst c1
    by_cases c2 : (dn d i).f4 = last
    · refine .inl ⟨[], .nil, ⟨by rw [nodes, List.map_nil, List.append_nil]; exact hM.nodup, by simp⟩, .nil c2, ?_⟩
      refine Ev.step (fun _ => rfl) ?_
      simp only [impl_Dom_visit.l0, nodes, List.map_nil, List.append_nil]
      rw [beq_iff_eq.mpr c2]
      exact Ev.ifT trivial (Ev.now _)
    · refine .inr ⟨?_, T, S, by omega, ?_⟩
      · rintro ⟨L, _, _, h3⟩
        cases h3 with
        | nil h => exact c2 h
        | cons h => omega
      · refine Ev.step (fun _ => rfl) ?_
        simp only [impl_Dom_visit.l0]
        rw [beq_eq_false_iff_ne.mpr c2]
        exact Ev.ifT trivial (Ev.now _)
  · have jt : Ev (fun k => impl_Dom_visit.j2 k i dep T S c true d (dn d i).f0 (dn d i).f1 (dn d i).f2 (dn d i).f3 (dn d i).f4 (dn d i).f5 (dn d i).f6) (T, S, false) := by
      refine Ev.step (fun _ => rfl) ?_
      simp only [impl_Dom_visit.j2]
      exact Ev.ifT trivial (Ev.now _)
    by_cases c2 : 0 ≤ c ∧ c ≤ (d.length : Int) - 1
    · by_cases c3 : c ∈ S
      · refine .inr ⟨?_, T, S, by omega, ?_⟩
        · rintro ⟨L, h1, h2, _⟩
          cases h1 with
          | nil => exact c1 rfl
          | cons _ _ h3 _ =>
            obtain ⟨L', rfl⟩ := h3.head
            have := h2.nodup
            rw [List.nodup_append] at this
            exact this.2.2 c c3 c (by simp [nodes]) rfl
        · refine Ev.step (fun _ => rfl) ?_
          simp only [impl_Dom_visit.l0]
          rw [wrap_id (x := (d.length : Int) - 1) (by omega) (by omega)]
          exact Ev.ifF c1 (Ev.bindC (within_eq _ _ _) (Ev.ifT (decide_eq_true c2) (Ev.bind (implContains_ev S (by omega) c) (Ev.ifT (decide_eq_true c3) jt))))
      · have pre : ∀ (b : Bool) (r), ((dn d c).f2 = i ∧ (dn d c).f5 = last → b = false) → (¬ ((dn d c).f2 = i ∧ (dn d c).f5 = last) → b = true) → Ev (fun k => impl_Dom_visit.j2 k i dep T S c b d (dn d i).f0 (dn d i).f1 (dn d i).f2 (dn d i).f3 (dn d i).f4 (dn d i).f5 (dn d i).f6) r →
            Ev (fun k => impl_Dom_visit.l0 k i dep T S last c d (dn d i).f0 (dn d i).f1 (dn d i).f2 (dn d i).f3 (dn d i).f4 (dn d i).f5 (dn d i).f6) r := by
          intro b r hb1 hb2 hr
          refine Ev.step (fun _ => rfl) ?_
          simp only [impl_Dom_visit.l0]
          rw [wrap_id (x := (d.length : Int) - 1) (by omega) (by omega)]
          refine Ev.ifF c1 (Ev.bindC (within_eq _ _ _) (Ev.ifT (decide_eq_true c2) (Ev.bind (implContains_ev S (by omega) c) (Ev.ifF (by simpa using c3) (Ev.ifT (by omega) (Ev.ifT (by omega) ?_))))))
          by_cases c4 : (dn d c).f2 = i
          · refine Ev.ifT c4 ?_
            by_cases c5 : (dn d c).f5 = last
            · rw [hb1 ⟨c4, c5⟩] at hr
              rw [bne_eq_false_iff_eq.mpr c5]
              exact hr
            · rw [hb2 (fun z => c5 z.2)] at hr
              rw [bne_iff_ne.mpr c5]
              exact hr
          · rw [hb2 (fun z => c4 z.1)] at hr
            exact Ev.ifF c4 hr
        by_cases c4 : (dn d c).f2 = i ∧ (dn d c).f5 = last
        · have go2 : ∀ t s ok r, Ev (fun k => impl_Dom_visit.f k d c (dep + 1) T S) (t, s, ok) → (ok = true → Ev (fun k => impl_Dom_visit.l0 k i dep t s c (dn d c).f6 d (dn d i).f0 (dn d i).f1 (dn d i).f2 (dn d i).f3 (dn d i).f4 (dn d i).f5 (dn d i).f6) r) → (ok = false → r = (t, s, false)) →
              Ev (fun k => impl_Dom_visit.l0 k i dep T S last c d (dn d i).f0 (dn d i).f1 (dn d i).f2 (dn d i).f3 (dn d i).f4 (dn d i).f5 (dn d i).f6) r := by
            intro t s ok r hv1 hr1 hr2
            refine pre false r (fun _ => rfl) (fun z => absurd c4 z) ?_
            refine Ev.step (fun _ => rfl) ?_
            simp only [impl_Dom_visit.j2]
            rw [wrap_id (x := dep + 1) (by omega) (by omega)]
            refine Ev.ifF (by simp) (Ev.bind hv1 ?_)
            cases ok with
            | true => exact Ev.ifT rfl (Ev.ifT (by omega) (Ev.ifT (by omega) (hr1 rfl)))
            | false => rw [hr2 rfl]; exact Ev.ifF (by simp) (Ev.now _)
          rcases hv c (dep + 1) T S hM hT hm c2.1 (by omega) c3 (by omega) (by omega) with ⟨L1, h1, h2, h3⟩ | ⟨h1, t, s, h2, h3⟩
          · obtain ⟨L1', e1⟩ := h1.head
            have hlen : 1 ≤ L1.length := by rw [e1]; simp
            rcases hl i dep (T ++ L1.map (tnode d)) (S ++ nodes L1) c (dn d c).f6 (hM.more h2 h1) (by simp [nodes]; omega) (by simp [nodes]; omega) h0 h12 with ⟨L2, k1, k2, k3, k4⟩ | ⟨k1, t, s, k2, k3⟩
            · refine .inl ⟨L1 ++ L2, .cons c2.1 (by omega) h1 k1, h2.join k2, .cons c2.1 (by omega) c4.1 c4.2 k3, ?_⟩
              refine go2 _ _ true _ h3 (fun _ => ?_) (fun z => by cases z)
              rw [List.append_assoc, List.append_assoc] at k4
              simp only [nodes, List.map_append] at k4 ⊢
              exact k4
            · refine .inr ⟨?_, t, s, k2, go2 _ _ true _ h3 (fun _ => k3) (fun z => by cases z)⟩
              rintro ⟨L, q1, q2, q3⟩
              cases q1 with
              | nil => exact c1 rfl
              | cons _ _ q4 q5 =>
                obtain rfl := h1.det _ q4
                cases q3 with
                | nil => exact c1 rfl
                | cons _ _ _ _ q6 => exact k1 ⟨_, q5, q2.right, q6⟩
          · refine .inr ⟨?_, t, s, h2, go2 _ _ false _ h3 (fun z => by cases z) (fun _ => rfl)⟩
            rintro ⟨L, q1, q2, q3⟩
            cases q1 with
            | nil => exact c1 rfl
            | cons _ _ q4 q5 => exact h1 ⟨_, q4, q2.left⟩
        · refine .inr ⟨?_, T, S, by omega, pre true _ (fun z => absurd z c4) (fun _ => rfl) jt⟩
          rintro ⟨L, _, _, h3⟩
          cases h3 with
          | nil => exact c1 rfl
          | cons _ _ h4 h5 _ => exact c4 ⟨h4, h5⟩
    · refine .inr ⟨?_, T, S, by omega, ?_⟩
      · rintro ⟨L, h1, _⟩
        cases h1 with
        | nil => exact c1 rfl
        | cons h3 h4 _ _ => exact c2 ⟨h3, by omega⟩
      · refine Ev.step (fun _ => rfl) ?_
        simp only [impl_Dom_visit.l0]
        rw [wrap_id (x := (d.length : Int) - 1) (by omega) (by omega)]
        exact Ev.ifF c1 (Ev.bindC (within_eq _ _ _) (Ev.ifF (by rw [decide_eq_false c2]; simp) jt))
theorem visit_all {d : List DN} (hd : d.length ≤ 24) (m : Nat) : VisitT d m ∧ LoopT d m := by
  induction m with
  | zero =>
    refine ⟨?_, ?_⟩
    · intro i dep T S hM hT hm
      have := hM.few hd
      omega
    · intro i dep T S last c hM hT hm
      have := hM.few hd
      omega
  | succ m ih =>
    have h1 := visit_of hd ih.2
    exact ⟨h1, loop_of hd h1 ih.2⟩
def WalkT (d : List DN) (m : Nat) : Prop := ∀ (i dep : Int) (O E : List Int), O.length = E.length → O.length ≤ 50 → 25 ≤ O.length + m → 0 ≤ dep → dep ≤ 13 →
  (∃ L, RT d true dep i L ∧ O.length + L.length ≤ 24 ∧ Ev (fun k => spec_l16Walk.f k d i dep O E) (O ++ nodes L, E ++ L.map Prod.snd)) ∨
  ((¬ ∃ L, RT d true dep i L ∧ O.length + L.length ≤ 24) ∧ ∃ o e, o.length = e.length ∧ 24 < o.length ∧ o.length ≤ 50 ∧ Ev (fun k => spec_l16Walk.f k d i dep O E) (o, e))
def RowT (d : List DN) (m : Nat) : Prop := ∀ (dep : Int) (O E : List Int) (c : Int), O.length = E.length → O.length ≤ 50 → 25 ≤ O.length + m → 0 ≤ dep → dep ≤ 12 →
  (∃ L, RT d false dep c L ∧ O.length + L.length ≤ 24 ∧ Ev (fun k => spec_l16Walk.l0 k dep O E c d) (O ++ nodes L, E ++ L.map Prod.snd)) ∨
  ((¬ ∃ L, RT d false dep c L ∧ O.length + L.length ≤ 24) ∧ ∃ o e, o.length = e.length ∧ 24 < o.length ∧ o.length ≤ 50 ∧ Ev (fun k => spec_l16Walk.l0 k dep O E c d) (o, e))
theorem giveUp {d : List DN} {i dep : Int} {O E : List Int} : Ev (fun k => spec_l16Walk.j0 k i dep O E true d) (List.replicate 25 0, List.replicate 25 0) := by
  refine Ev.step (fun _ => rfl) ?_
  simp only [spec_l16Walk.j0]
  exact Ev.ifT trivial (Ev.ifT (by omega) (Ev.now _))
theorem walk_full {d : List DN} {i dep : Int} {O E : List Int} (h : 24 < O.length) : Ev (fun k => spec_l16Walk.f k d i dep O E) (List.replicate 25 0, List.replicate 25 0) := by
  refine Ev.step (fun _ => rfl) ?_
  simp only [spec_l16Walk.f]
  exact Ev.ifT (by omega) giveUp
theorem row_end {d : List DN} {dep : Int} {O E : List Int} (c : Int) (h : c = -1 ∨ 24 < O.length) : Ev (fun k => spec_l16Walk.l0 k dep O E c d) (O, E) := by
  refine Ev.step (fun _ => rfl) ?_
  simp only [spec_l16Walk.l0]
  by_cases c1 : c = -1
  · refine Ev.ifT c1 (Ev.step (fun _ => rfl) ?_)
    simp only [spec_l16Walk.j2]
    exact Ev.ifF (by simp) (Ev.now _)
  · refine Ev.ifF c1 (Ev.step (fun _ => rfl) ?_)
    simp only [spec_l16Walk.j2]
    exact Ev.ifF (by simp; omega) (Ev.now _)
theorem walk_of {d : List DN} (hd : d.length ≤ 24) {m : Nat} (hl : RowT d m) : WalkT d (m + 1) := by
  intro i dep O E hO h50 hm h0 h13
  by_cases c0 : 24 < O.length
  · exact .inr ⟨fun ⟨L, _, h⟩ => by omega, _, _, rfl, by simp, by simp, walk_full c0⟩
  have jf : ∀ b r, Ev (fun k => spec_l16Walk.j0 k i dep O E b d) r → (dep ≤ 12 → b = !decide (0 ≤ i ∧ i ≤ (d.length : Int) - 1)) → dep ≤ 12 → Ev (fun k => spec_l16Walk.f k d i dep O E) r := by
    intro b r hr hb hdep
    rw [hb hdep] at hr
    refine Ev.step (fun _ => rfl) ?_
    simp only [spec_l16Walk.f]
    rw [wrap_id (x := (d.length : Int) - 1) (by omega) (by omega)]
    exact Ev.ifF (by omega) (Ev.ifF (by omega) (Ev.bindC (l1In_eq _ _ _) hr))
  by_cases c1 : dep > 12
  · refine .inr ⟨?_, List.replicate 25 0, List.replicate 25 0, rfl, by simp, by simp, ?_⟩
    · rintro ⟨L, h1, _⟩
      cases h1 with
      | sub _ _ h3 _ => omega
    · refine Ev.step (fun _ => rfl) ?_
      simp only [spec_l16Walk.f]
      exact Ev.ifF (by omega) (Ev.ifT c1 giveUp)
  · by_cases c2 : 0 ≤ i ∧ i ≤ (d.length : Int) - 1
    · have run : ∀ r, Ev (fun k => spec_l16Walk.l0 k dep (O ++ [i]) (E ++ [dep]) (dn d i).f3 d) r → Ev (fun k => spec_l16Walk.f k d i dep O E) r := by
        intro r hr
        refine jf false r ?_ (fun _ => by rw [decide_eq_true c2]; rfl) (by omega)
        refine Ev.step (fun _ => rfl) ?_
        simp only [spec_l16Walk.j0]
        exact Ev.ifF (by simp) (Ev.ifT (by omega) (Ev.ifT (by omega) (Ev.ifT (by omega) (Ev.ifT (by omega) hr))))
      rcases hl dep (O ++ [i]) (E ++ [dep]) (dn d i).f3 (by simp; omega) (by simp; omega) (by simp; omega) h0 (by omega) with ⟨L, h1, h2, h3⟩ | ⟨h1, o, e, h2, h3, h4, h5⟩
      · refine .inl ⟨(i, dep) :: L, .sub c2.1 (by omega) (by omega) h1, by simp at h2 ⊢; omega, ?_⟩
        have := run _ h3
        rw [List.append_assoc, List.append_assoc] at this
        exact this
      · refine .inr ⟨?_, o, e, h2, h3, h4, run _ h5⟩
        rintro ⟨L, k1, k2⟩
        cases k1 with
        | sub _ _ _ k4 => exact h1 ⟨_, k4, by simp at k2 ⊢; omega⟩
    · refine .inr ⟨?_, _, _, rfl, by simp, by simp, jf true _ giveUp (fun _ => by rw [decide_eq_false c2]; rfl) (by omega)⟩
      rintro ⟨L, h1, _⟩
      cases h1 with
      | sub h3 h4 _ _ => exact c2 ⟨h3, by omega⟩
theorem row_of {d : List DN} (hd : d.length ≤ 24) {m : Nat} (hv : WalkT d (m + 1)) (hl : RowT d m) : RowT d (m + 1) := by
  intro dep O E c hO h50 hm h0 h12
  by_cases c1 : c = -1
  · subst c1
    by_cases c2 : 24 < O.length
    · exact .inr ⟨fun ⟨L, _, h⟩ => by omega, O, E, hO, c2, h50, row_end _ (.inl rfl)⟩
    · refine .inl ⟨[], .nil, by simp; omega, ?_⟩
      simp only [nodes, List.map_nil, List.append_nil]
      exact row_end _ (.inl rfl)
  by_cases c2 : 24 < O.length
  · exact .inr ⟨fun ⟨L, _, h⟩ => by omega, O, E, hO, c2, h50, row_end _ (.inr c2)⟩
  have pre : ∀ r, Ev (fun k => (some (decide (0 ≤ c ∧ c ≤ (d.length : Int) - 1))).bind fun t118 => (if t118 = true then ((spec_l16Walk.f k d c (dep + 1) O E).bind fun bt119 => (if 0 ≤ c then (if c < (d.length : Int) then (spec_l16Walk.l0 k dep bt119.1 bt119.2 (dn d c).f6 d) else (none)) else (none))) else (if 25 ≤ 35184372088832 then (some ((List.replicate 25 (0 : Int)), (List.replicate 25 (0 : Int)))) else (none)))) r → Ev (fun k => spec_l16Walk.l0 k dep O E c d) r := by
    intro r hr
    refine Ev.step (fun _ => rfl) ?_
    simp only [spec_l16Walk.l0]
    refine Ev.ifF c1 (Ev.step (fun _ => rfl) ?_)
    simp only [spec_l16Walk.j2]
    rw [wrap_id (x := (d.length : Int) - 1) (by omega) (by omega), wrap_id (x := dep + 1) (by omega) (by omega), l1In_eq]
    exact Ev.ifT (by simp; omega) hr
  by_cases c3 : 0 ≤ c ∧ c ≤ (d.length : Int) - 1
  · rcases hv c (dep + 1) O E hO h50 hm (by omega) (by omega) with ⟨L1, h1, h2, h3⟩ | ⟨h1, o, e, h2, h3, h4, h5⟩
    · obtain ⟨L1', e1⟩ := h1.head
      have hlen : 1 ≤ L1.length := by rw [e1]; simp
      have go2 : ∀ r, Ev (fun k => spec_l16Walk.l0 k dep (O ++ nodes L1) (E ++ L1.map Prod.snd) (dn d c).f6 d) r → Ev (fun k => spec_l16Walk.l0 k dep O E c d) r := fun r hr =>
        pre r (Ev.bindC rfl (Ev.ifT (decide_eq_true c3) (Ev.bind h3 (Ev.ifT c3.1 (Ev.ifT (by omega) hr)))))
      rcases hl dep (O ++ nodes L1) (E ++ L1.map Prod.snd) (dn d c).f6 (by simp [nodes]; omega) (by simp [nodes]; omega) (by simp [nodes]; omega) h0 h12 with ⟨L2, k1, k2, k3⟩ | ⟨k1, o, e, k2, k3, k4, k5⟩
      · refine .inl ⟨L1 ++ L2, .cons c3.1 (by omega) h1 k1, by simp [nodes] at k2 ⊢; omega, ?_⟩
        have := go2 _ k3
        rw [List.append_assoc, List.append_assoc] at this
        rw [nodes, List.map_append, List.map_append]
        exact this
      · refine .inr ⟨?_, o, e, k2, k3, k4, go2 _ k5⟩
        rintro ⟨L, q1, q2⟩
        cases q1 with
        | nil => exact c1 rfl
        | cons _ _ q4 q5 =>
          obtain rfl := h1.det _ q4
          exact k1 ⟨_, q5, by simp [nodes] at q2 ⊢; omega⟩
    · refine .inr ⟨?_, o, e, h2, h3, h4, pre _ (Ev.bindC rfl (Ev.ifT (decide_eq_true c3) (Ev.bind h5 (Ev.ifT c3.1 (Ev.ifT (by omega) (row_end _ (.inr h3)))))))⟩
      rintro ⟨L, q1, q2⟩
      cases q1 with
      | nil => exact c1 rfl
      | cons _ _ q4 q5 => exact h1 ⟨_, q4, by simp at q2; omega⟩
  · refine .inr ⟨?_, _, _, rfl, by simp, by simp, pre _ (Ev.bindC rfl (Ev.ifF (by rw [decide_eq_false c3]; simp) (Ev.ifT (by omega) (Ev.now _))))⟩
    rintro ⟨L, h1, _⟩
    cases h1 with
    | nil => exact c1 rfl
    | cons h3 h4 _ _ => exact c3 ⟨h3, by omega⟩
theorem walk_all {d : List DN} (hd : d.length ≤ 24) (m : Nat) : WalkT d m ∧ RowT d m := by
  induction m with
  | zero =>
    refine ⟨?_, ?_⟩
    · intro i dep O E hO h50 hm h0 h13
      exact .inr ⟨fun ⟨L, _, h⟩ => by omega, _, _, rfl, by simp, by simp, walk_full (by omega)⟩
    · intro dep O E c hO h50 hm h0 h12
      exact .inr ⟨fun ⟨L, _, h⟩ => by omega, O, E, hO, by omega, h50, row_end _ (.inr (by omega))⟩
  | succ m ih =>
    have h1 := walk_of hd ih.2
    exact ⟨h1, row_of hd h1 ih.2⟩
theorem RT.row {d : List DN} {b : Bool} {dep k : Int} {L : List (Int × Int)} (h : RT d b dep k L) : ∀ p ∈ L, ∃ dep' L', RT d false dep' (dn d p.1).f3 L' := by
  induction h with
  | sub h1 h2 _ h4 ih =>
    intro p hp
    rcases List.mem_cons.1 hp with rfl | hp
    · exact ⟨_, _, h4⟩
    · exact ih p hp
  | nil => intro p hp; exact absurd hp List.not_mem_nil
  | cons _ _ _ _ ih1 ih2 =>
    intro p hp
    rcases List.mem_append.1 hp with hp | hp
    · exact ih1 p hp
    · exact ih2 p hp
noncomputable def chainB (d : List DN) (i last c : Int) : Bool := @decide (Chain d i last c) (Classical.propDecidable _)
theorem chainB_iff (d : List DN) (i last c : Int) : chainB d i last c = true ↔ Chain d i last c := by
  unfold chainB; exact @decide_eq_true_iff _ (Classical.propDecidable _)
theorem chainB_false {d : List DN} {i last c : Int} (h : ¬ Chain d i last c) : chainB d i last c = false := by
  rw [← Bool.not_eq_true, chainB_iff]; exact h
theorem links_l {d : List DN} {dep c : Int} {L : List (Int × Int)} {b : Bool} (h : RT d b dep c L) : b = false → ∀ (i last : Int), Ev (fun k => spec_l16Links.l0 k i last c d (dn d i).f0 (dn d i).f1 (dn d i).f2 (dn d i).f3 (dn d i).f4 (dn d i).f5 (dn d i).f6) (chainB d i last c) := by
  induction h with
  | sub _ _ _ _ _ => intro hb; cases hb
  | nil =>
    intro _ i last
    refine Ev.step (fun _ => rfl) ?_
    simp only [spec_l16Links.l0]
    refine Ev.ifT trivial ?_
    by_cases c2 : (dn d i).f4 = last
    · rw [(chainB_iff d i last (-1)).2 (.nil c2), beq_iff_eq.mpr c2]
      exact Ev.now _
    · rw [chainB_false (fun h => by
        cases h with
        | nil h => exact c2 h
        | cons h => omega), beq_eq_false_iff_ne.mpr c2]
      exact Ev.now _
  | @cons dep k L1 L2 h1 h2 h3 h4 ih1 ih2 =>
    intro _ i last
    have ih := ih2 rfl i k
    refine Ev.step (fun _ => rfl) ?_
    simp only [spec_l16Links.l0]
    refine Ev.ifF (by omega) (Ev.ifT h1 (Ev.ifT h2 ?_))
    by_cases c1 : (dn d k).f2 = i
    · refine Ev.ifT c1 ?_
      by_cases c2 : (dn d k).f5 = last
      · refine Ev.ifT c2 ?_
        have : chainB d i last k = chainB d i k (dn d k).f6 := by
          rw [Bool.eq_iff_iff, chainB_iff, chainB_iff]
          constructor
          · intro h
            cases h with
            | nil => omega
            | cons _ _ _ _ h => exact h
          · intro h
            exact .cons h1 h2 c1 c2 h
        rw [this]
        exact ih
      · rw [chainB_false (fun h => by
          cases h with
          | nil => omega
          | cons _ _ _ q _ => exact c2 q)]
        exact Ev.ifF c2 (Ev.now _)
    · rw [chainB_false (fun h => by
        cases h with
        | nil => omega
        | cons _ _ q _ _ => exact c1 q)]
      exact Ev.ifF c1 (Ev.now _)
theorem links_ev {d : List DN} {dep : Int} {i : Int} {L : List (Int × Int)} (h0 : 0 ≤ i) (h1 : i < d.length) (h : RT d false dep (dn d i).f3 L) : Ev (fun k => spec_l16Links.f k d i) (chainB d i (-1) (dn d i).f3) := by
  unfold spec_l16Links.f
  exact Ev.ifT h0 (Ev.ifT h1 (links_l h rfl i (-1)))
end Go.Proofs.Ytbifdckfglejkaa.Q
namespace Go.Proofs.Ytbifdckfglejkaa.Q
open Go.RowKit Go.Proofs.YtbifdckfglejkaaW.PrintWords Go.Proofs.YtbifdckfglejkaaW.PrintLast Go.Proofs.YtbifdckfglejkaaW.PrintMore Go.Proofs.Ytbifdckfglejkaa.X Go.Proofs.Ytbifdckfglejkaa.Rd
set_option linter.unusedVariables false
set_option linter.unusedSimpArgs false
def emptyB (x : DN) : Bool := !(!(x.f0 == false) || (!(x.f1 == 0) || (!(x.f2 == -1) || (!(x.f3 == -1) || (!(x.f4 == -1) || (!(x.f5 == -1) || (!(x.f6 == -1))))))))
structure OkD (d : List DN) (L : List (Int × Int)) : Prop where
  n1 : 1 ≤ d.length
  n24 : d.length ≤ 24
  par : (dn d 0).f2 = -1
  prv : (dn d 0).f5 = -1
  nxt : (dn d 0).f6 = -1
  tree : RT d true 0 0 L
  well : Well d [] L
  rest : ∀ i : Nat, i < d.length → (i : Int) ∉ nodes L → emptyB (dn d i) = true
theorem OkD.det {d : List DN} {L L' : List (Int × Int)} (h : OkD d L) (h' : OkD d L') : L = L' := h.tree.det _ h'.tree
theorem OkD.len {d : List DN} {L : List (Int × Int)} (h : OkD d L) : L.length ≤ 24 := by
  have := few d.length (nodes L) (by have := h.well.nodup; rw [List.nil_append] at this; exact this) h.tree.inr
  rw [nodes, List.length_map] at this
  have := h.n24
  omega
def restB (d : List DN) (S : List Int) : Nat → Nat → Bool
  | 0, _ => true
  | e + 1, i => (decide ((i : Int) ∈ S) || emptyB (dn d i)) && restB d S e (i + 1)
theorem restB_iff (d : List DN) (S : List Int) (e : Nat) : ∀ i, restB d S e i = true ↔ ∀ j : Nat, i ≤ j → j < i + e → (j : Int) ∉ S → emptyB (dn d j) = true := by
  induction e with
  | zero => intro i; simp only [restB, true_iff]; intro j h1 h2; omega
  | succ e ih =>
    intro i
    simp only [restB]
    rw [Bool.and_eq_true, ih (i + 1), Bool.or_eq_true, decide_eq_true_eq]
    constructor
    · rintro ⟨h1, h2⟩ j h3 h4 h5
      by_cases c : j = i
      · subst c
        exact h1.resolve_left h5
      · exact h2 j (by omega) (by omega) h5
    · intro h
      refine ⟨?_, fun j h3 h4 h5 => h j (by omega) (by omega) h5⟩
      by_cases c : (i : Int) ∈ S
      · exact .inl c
      · exact .inr (h i (Nat.le_refl _) (by omega) c)
theorem implRest_l (d : List DN) (hd : d.length ≤ 24) (T : List NodeI) (S : List Int) (hS : S.length ≤ 1048576) (e : Nat) : ∀ (i : Nat) (ok : Bool), i + e = d.length → Ev (fun k => impl_Dom_walked.l0 k T S ok d d.length i) (T, S, ok && restB d S e i) := by
  induction e with
  | zero =>
    intro i ok hi
    refine Ev.step (fun _ => rfl) ?_
    simp only [impl_Dom_walked.l0, restB, Bool.and_true]
    exact Ev.ifF (by omega) (Ev.now _)
  | succ e ih =>
    intro i ok hi
    have hlt : i < d.length := by omega
    refine Ev.step (fun _ => rfl) ?_
    simp only [impl_Dom_walked.l0, restB]
    rw [wrap_succ hlt (by omega)]
    refine Ev.ifT (by omega) (Ev.ifT (by omega) (Ev.ifT (by omega) ?_))
    cases ok with
    | false =>
      have := ih (i + 1) false (by omega)
      rw [Bool.false_and] at this ⊢
      exact Ev.ifF (by simp) this
    | true =>
      refine Ev.ifT rfl (Ev.bind (implContains_ev S hS i) ?_)
      rw [Bool.true_and]
      by_cases c : (i : Int) ∈ S
      · have := ih (i + 1) true (by omega)
        rw [decide_eq_true c, Bool.true_or, Bool.true_and]
        exact Ev.ifT rfl this
      · rw [decide_eq_false c, Bool.false_or]
        refine Ev.ifF (by simp) (Ev.bindC rfl ?_)
        cases q : emptyB (dn d i) with
        | true =>
          have := ih (i + 1) true (by omega)
          rw [Bool.true_and]
          refine Ev.ifF ?_ this
          unfold emptyB at q
          rw [Bool.not_eq_true']  at q
          rw [show (!((dn d i).f0 == false) || (!((dn d i).f1 == 0) || (!((dn d i).f2 == -1) || (!((dn d i).f3 == -1) || (!((dn d i).f4 == -1) || (!((dn d i).f5 == -1) || (!((dn d i).f6 == -1)))))))) = false from q]
          simp
        | false =>
          have := ih (i + 1) false (by omega)
          rw [Bool.false_and] at this ⊢
          refine Ev.ifT ?_ this
          unfold emptyB at q
          rw [Bool.not_eq_false'] at q
          exact q
theorem implWalked_ev (d : List DN) (hl : d.length ≤ 9223372036854775807) : (∃ L, OkD d L ∧ Ev (fun k => impl_Dom_walked.f k d) (L.map (tnode d), nodes L, true)) ∨
    ((¬ ∃ L, OkD d L) ∧ ∃ t s, t.length ≤ 24 ∧ Ev (fun k => impl_Dom_walked.f k d) (t, s, false)) := by
  have jt : Ev (fun k => impl_Dom_walked.j0 k true d) (([] : List NodeI), ([] : List Int), false) := by
    refine Ev.step (fun _ => rfl) ?_
    simp only [impl_Dom_walked.j0]
    exact Ev.ifT trivial (Ev.now _)
  by_cases c1 : (1 : Int) ≤ d.length ∧ (d.length : Int) ≤ 24
  · have pre : ∀ (b : Bool) r, ((dn d 0).f2 = -1 ∧ (dn d 0).f5 = -1 ∧ (dn d 0).f6 = -1 → b = false) → (¬ ((dn d 0).f2 = -1 ∧ (dn d 0).f5 = -1 ∧ (dn d 0).f6 = -1) → b = true) → Ev (fun k => impl_Dom_walked.j0 k b d) r → Ev (fun k => impl_Dom_walked.f k d) r := by
      intro b r hb1 hb2 hr
      unfold impl_Dom_walked.f
      refine Ev.bindC (within_eq _ _ _) (Ev.ifT (decide_eq_true c1) (Ev.ifT (by omega) ?_))
      by_cases c2 : (dn d 0).f2 = -1
      · refine Ev.ifT c2 ?_
        by_cases c3 : (dn d 0).f5 = -1
        · refine Ev.ifT c3 ?_
          by_cases c4 : (dn d 0).f6 = -1
          · rw [hb1 ⟨c2, c3, c4⟩] at hr
            rw [show ((rd_T99 d 0).f6 != -1) = false from bne_eq_false_iff_eq.mpr c4]
            exact hr
          · rw [hb2 (fun z => c4 z.2.2)] at hr
            rw [show ((rd_T99 d 0).f6 != -1) = true from bne_iff_ne.mpr c4]
            exact hr
        · rw [hb2 (fun z => c3 z.2.1)] at hr
          exact Ev.ifF c3 hr
      · rw [hb2 (fun z => c2 z.1)] at hr
        exact Ev.ifF c2 hr
    by_cases c2 : (dn d 0).f2 = -1 ∧ (dn d 0).f5 = -1 ∧ (dn d 0).f6 = -1
    · rcases (visit_all (d := d) (by omega) 25).1 0 0 [] [] ⟨List.nodup_nil, by simp⟩ rfl (by simp) (Int.le_refl _) (by omega) (by simp) (Int.le_refl _) (by omega) with ⟨L, h1, h2, h3⟩ | ⟨h1, t, s, h2, h3⟩
      · rw [List.nil_append, List.nil_append] at h3
        have hL : (nodes L).length ≤ 24 := by
          have := few d.length (nodes L) (by have := h2.nodup; rw [List.nil_append] at this; exact this) h1.inr
          omega
        have run : Ev (fun k => impl_Dom_walked.f k d) (L.map (tnode d), nodes L, true && restB d (nodes L) d.length 0) := by
          refine pre false _ (fun _ => rfl) (fun z => absurd c2 z) (Ev.step (fun _ => rfl) ?_)
          simp only [impl_Dom_walked.j0]
          exact Ev.ifF (by simp) (Ev.bind h3 (implRest_l d (by omega) _ _ (show (nodes L).length ≤ 1048576 by omega) d.length 0 true (Nat.zero_add _)))
        rw [Bool.true_and] at run
        cases q : restB d (nodes L) d.length 0 with
        | true =>
          rw [q] at run
          have q2 := (restB_iff d (nodes L) d.length 0).1 q
          exact .inl ⟨L, ⟨by omega, by omega, c2.1, c2.2.1, c2.2.2, h1, h2, fun i hi hn => q2 i (Nat.zero_le _) (by omega) hn⟩, run⟩
        | false =>
          rw [q] at run
          refine .inr ⟨?_, _, _, by rw [nodes, List.length_map] at hL; rw [List.length_map]; exact hL, run⟩
          rintro ⟨L', h⟩
          obtain rfl := h1.det _ h.tree
          have : restB d (nodes L) d.length 0 = true := (restB_iff _ _ _ _).2 fun j _ hj hn => h.rest j (by omega) hn
          rw [q] at this
          cases this
      · refine .inr ⟨fun ⟨L, h⟩ => h1 ⟨L, h.tree, h.well⟩, t, s, h2, ?_⟩
        have hs : Ev (fun k => impl_Dom_walked.l0 k t s false d d.length 0) (t, s, false) := by
          have key : ∀ e i : Nat, i + e = d.length → Ev (fun k => impl_Dom_walked.l0 k t s false d d.length i) (t, s, false) := by
            intro e
            induction e with
            | zero =>
              intro i hi
              refine Ev.step (fun _ => rfl) ?_
              simp only [impl_Dom_walked.l0]
              exact Ev.ifF (by omega) (Ev.now _)
            | succ e ih =>
              intro i hi
              refine Ev.step (fun _ => rfl) ?_
              simp only [impl_Dom_walked.l0]
              rw [wrap_succ (show i < d.length by omega) (by omega)]
              exact Ev.ifT (by omega) (Ev.ifT (by omega) (Ev.ifT (by omega) (Ev.ifF (by simp) (ih (i + 1) (by omega)))))
          exact key d.length 0 (Nat.zero_add _)
        refine pre false _ (fun _ => rfl) (fun z => absurd c2 z) (Ev.step (fun _ => rfl) ?_)
        simp only [impl_Dom_walked.j0]
        exact Ev.ifF (by simp) (Ev.bind h3 hs)
    · exact .inr ⟨fun ⟨L, h⟩ => c2 ⟨h.par, h.prv, h.nxt⟩, _, _, by simp, pre true _ (fun z => absurd z c2) (fun _ => rfl) jt⟩
  · refine .inr ⟨fun ⟨L, h⟩ => c1 ⟨by have := h.n1; omega, by have := h.n24; omega⟩, [], [], by simp, ?_⟩
    unfold impl_Dom_walked.f
    exact Ev.bindC (within_eq _ _ _) (Ev.ifF (by rw [decide_eq_false c1]; simp) (Ev.now _))
structure Good1 (d : List DN) (N : List Int) : Prop where
  nodup : N.Nodup
  fine : ∀ x ∈ N, (dn d x).f0 = true ∧ 0 ≤ (dn d x).f1 ∧ (dn d x).f1 ≤ 5
def tellsOf (d : List DN) (N : List Int) (F : List Bool) : Prop := F.length = d.length ∧ ∀ x : Nat, x < d.length → F.getD x false = decide ((x : Int) ∈ N)
theorem specFlags_l {d : List DN} (hd : d.length ≤ 24) {N : List Int} (hN : N.length ≤ 1048576) (hr : ∀ x ∈ N, 0 ≤ x ∧ x < (d.length : Int)) (e : Nat) : ∀ (j : Nat) (F : List Bool), j + e = N.length → tellsOf d (N.take j) F → Good1 d (N.take j) →
    (Good1 d N ∧ ∃ F', tellsOf d N F' ∧ ∀ r, Ev (fun k => spec_DomOk.l1 k F' 0 d) r → Ev (fun k => spec_DomOk.l0 k N F j d) r) ∨ (¬ Good1 d N ∧ Ev (fun k => spec_DomOk.l0 k N F j d) false) := by
  induction e with
  | zero =>
    intro j F hj hF hG
    rw [List.take_of_length_le (by omega)] at hF hG
    refine .inl ⟨hG, F, hF, fun r h => Ev.step (fun _ => rfl) ?_⟩
    simp only [spec_DomOk.l0]
    exact Ev.ifF (by omega) h
  | succ e ih =>
    intro j F hj hF hG
    have hlt : j < N.length := by omega
    have hx := hr N[j] (List.getElem_mem hlt)
    have hmem : N[j] ∈ N := List.getElem_mem hlt
    have hFl := hF.1
    have hFx : rdOf false F N[j] = decide (N[j] ∈ N.take j) := by
      have := hF.2 N[j].toNat (by omega)
      rw [Int.toNat_of_nonneg hx.1] at this
      exact this
    have pre : ∀ r, Ev (fun k => if rdOf false F N[j] = true then some false else if N[j] < (d.length : Int) then (if (dn d N[j]).f0 = true then (spec_LabelOk.f (dn d N[j]).f1).bind fun t => if t = true then spec_DomOk.l0 k N (F.set N[j].toNat true) ((j + 1 : Nat) : Int) d else some false else some false) else none) r → Ev (fun k => spec_DomOk.l0 k N F j d) r := by
      intro r h
      refine Ev.step (fun _ => rfl) ?_
      simp only [spec_DomOk.l0, rd, getD_nat N j _ hlt]
      rw [wrap_succ hlt (by omega)]
      exact Ev.ifT (by omega) (Ev.ifT (by omega) (Ev.ifT hx.1 (Ev.ifT (by omega) h)))
    rw [hFx] at pre
    by_cases c1 : N[j] ∈ N.take j
    · refine .inr ⟨fun h => ?_, pre _ (Ev.ifT (decide_eq_true c1) (Ev.now _))⟩
      have h1 := h.nodup
      rw [← List.take_append_drop j N, List.nodup_append] at h1
      exact h1.2.2 _ c1 N[j] (by rw [List.drop_eq_getElem_cons hlt]; exact List.mem_cons_self) rfl
    · by_cases c2 : (dn d N[j]).f0 = true
      · by_cases c3 : 0 ≤ (dn d N[j]).f1 ∧ (dn d N[j]).f1 ≤ 5
        · have ht : N.take (j + 1) = N.take j ++ [N[j]] := List.take_succ_eq_append_getElem hlt
          have run : ∀ r, Ev (fun k => spec_DomOk.l0 k N (F.set N[j].toNat true) ((j + 1 : Nat) : Int) d) r → Ev (fun k => spec_DomOk.l0 k N F j d) r := fun r h =>
            pre r (Ev.ifF (by simpa using c1) (Ev.ifT hx.2 (Ev.ifT c2 (Ev.bindC (specLabelOk_eq _) (Ev.ifT (decide_eq_true c3) h)))))
          rcases ih (j + 1) (F.set N[j].toNat true) (by omega) ⟨by rw [List.length_set]; exact hFl, fun x hxl => by
            rw [ht, List.getD_eq_getElem?_getD, List.getElem?_set]
            by_cases e2 : N[j].toNat = x
            · rw [if_pos e2, if_pos (by omega)]
              have : (x : Int) = N[j] := by omega
              rw [this]
              exact (decide_eq_true (List.mem_append_right _ (List.mem_singleton.2 rfl))).symm
            · rw [if_neg e2, ← List.getD_eq_getElem?_getD, hF.2 x hxl]
              refine decide_eq_decide.2 ?_
              rw [List.mem_append, List.mem_singleton]
              exact ⟨.inl, fun h => h.resolve_right (by omega)⟩⟩ ⟨by
            rw [ht, List.nodup_append]
            exact ⟨hG.nodup, by simp, fun a ha b hb => by
              rw [List.mem_singleton] at hb
              subst hb
              intro e; subst e; exact c1 ha⟩, fun x hxm => by
            rw [ht, List.mem_append, List.mem_singleton] at hxm
            rcases hxm with hxm | rfl
            · exact hG.fine x hxm
            · exact ⟨c2, c3.1, c3.2⟩⟩ with ⟨h1, F', h2, h3⟩ | ⟨h1, h2⟩
          · exact .inl ⟨h1, F', h2, fun r h => run r (h3 r h)⟩
          · exact .inr ⟨h1, run _ h2⟩
        · exact .inr ⟨fun h => c3 (h.fine _ hmem).2, pre _ (Ev.ifF (by simpa using c1) (Ev.ifT hx.2 (Ev.ifT c2 (Ev.bindC (specLabelOk_eq _) (Ev.ifF (by rw [decide_eq_false c3]; simp) (Ev.now _))))))⟩
      · exact .inr ⟨fun h => c2 (h.fine _ hmem).1, pre _ (Ev.ifF (by simpa using c1) (Ev.ifT hx.2 (Ev.ifF c2 (Ev.now _))))⟩
noncomputable def lastB (d : List DN) (N : List Int) : Nat → Nat → Bool
  | 0, _ => true
  | e + 1, i => (if (i : Int) ∈ N then chainB d i (-1) (dn d i).f3 else emptyB (dn d i)) && lastB d N e (i + 1)
theorem lastB_iff (d : List DN) (N : List Int) (e : Nat) : ∀ i, lastB d N e i = true ↔ ∀ j : Nat, i ≤ j → j < i + e → ((j : Int) ∈ N → Chain d j (-1) (dn d j).f3) ∧ ((j : Int) ∉ N → emptyB (dn d j) = true) := by
  induction e with
  | zero => intro i; simp only [lastB, true_iff]; intro j h1 h2; omega
  | succ e ih =>
    intro i
    simp only [lastB]
    rw [Bool.and_eq_true, ih (i + 1)]
    constructor
    · rintro ⟨h1, h2⟩ j h3 h4
      by_cases c : j = i
      · subst c
        by_cases q : (j : Int) ∈ N
        · rw [if_pos q] at h1
          exact ⟨fun _ => (chainB_iff _ _ _ _).1 h1, fun z => absurd q z⟩
        · rw [if_neg q] at h1
          exact ⟨fun z => absurd z q, fun _ => h1⟩
      · exact h2 j (by omega) (by omega)
    · intro h
      refine ⟨?_, fun j h3 h4 => h j (by omega) (by omega)⟩
      have h1 := h i (Nat.le_refl _) (by omega)
      by_cases q : (i : Int) ∈ N
      · rw [if_pos q]; exact (chainB_iff _ _ _ _).2 (h1.1 q)
      · rw [if_neg q]; exact h1.2 q
theorem specLast_l {d : List DN} (hd : d.length ≤ 24) {N : List Int} {F : List Bool} (hF : tellsOf d N F) (hk : ∀ x ∈ N, ∃ dep L, RT d false dep (dn d x).f3 L) (e : Nat) : ∀ i : Nat, i + e = d.length → Ev (fun k => spec_DomOk.l1 k F i d) (lastB d N e i) := by
  have hFl := hF.1
  induction e with
  | zero =>
    intro i hi
    refine Ev.step (fun _ => rfl) ?_
    simp only [spec_DomOk.l1, lastB]
    exact Ev.ifF (by omega) (Ev.now _)
  | succ e ih =>
    intro i hi
    have hlt : i < d.length := by omega
    have hn := ih (i + 1) (by omega)
    have hFx : rdOf false F (i : Int) = decide ((i : Int) ∈ N) := by
      have := hF.2 i hlt
      show F.getD (i : Int).toNat false = _
      rw [Int.toNat_natCast]
      exact this
    refine Ev.step (fun _ => rfl) ?_
    simp only [spec_DomOk.l1, lastB, hFx]
    rw [wrap_succ hlt (by omega)]
    refine Ev.ifT (by omega) (Ev.ifT (by omega) (Ev.ifT (by omega) ?_))
    by_cases c : (i : Int) ∈ N
    · rw [if_pos c]
      obtain ⟨dep, L, hL⟩ := hk _ c
      refine Ev.ifT (decide_eq_true c) (Ev.bind (links_ev (by omega) (by omega) hL) ?_)
      cases chainB d i (-1) (dn d i).f3 with
      | true => rw [Bool.true_and]; exact Ev.ifT rfl hn
      | false => rw [Bool.false_and]; exact Ev.ifF (by simp) (Ev.now _)
    · rw [if_neg c]
      refine Ev.ifF (by simpa using c) (Ev.bindC rfl ?_)
      cases q : emptyB (dn d i) with
      | true =>
        rw [Bool.true_and]
        refine Ev.ifF ?_ hn
        unfold emptyB at q
        rw [Bool.not_eq_true'] at q
        rw [show (!((dn d i).f0 == false) || (!((dn d i).f1 == 0) || (!((dn d i).f2 == -1) || (!((dn d i).f3 == -1) || (!((dn d i).f4 == -1) || (!((dn d i).f5 == -1) || (!((dn d i).f6 == -1)))))))) = false from q]
        simp
      | false =>
        rw [Bool.false_and]
        refine Ev.ifT ?_ (Ev.now _)
        unfold emptyB at q
        rw [Bool.not_eq_false'] at q
        exact q
theorem specDomOk_ev (d : List DN) (hl : d.length ≤ 9223372036854775807) : (∃ L, OkD d L ∧ Ev (fun k => spec_DomOk.f k d) true ∧ Ev (fun k => spec_l16Walk.f k d 0 0 [] []) (nodes L, L.map Prod.snd)) ∨ ((¬ ∃ L, OkD d L) ∧ Ev (fun k => spec_DomOk.f k d) false) := by
  have jt : Ev (fun k => spec_DomOk.j0 k true d) false := by
    refine Ev.step (fun _ => rfl) ?_
    simp only [spec_DomOk.j0]
    exact Ev.ifT trivial (Ev.now _)
  by_cases c1 : (1 : Int) ≤ d.length ∧ (d.length : Int) ≤ 24
  · have pre : ∀ (b : Bool) r, ((dn d 0).f0 = true ∧ (dn d 0).f2 = -1 ∧ (dn d 0).f5 = -1 ∧ (dn d 0).f6 = -1 → b = false) → (¬ ((dn d 0).f0 = true ∧ (dn d 0).f2 = -1 ∧ (dn d 0).f5 = -1 ∧ (dn d 0).f6 = -1) → b = true) → Ev (fun k => spec_DomOk.j0 k b d) r → Ev (fun k => spec_DomOk.f k d) r := by
      intro b r hb1 hb2 hr
      unfold spec_DomOk.f
      refine Ev.bindC (l1In_eq _ _ _) (Ev.ifT (decide_eq_true c1) (Ev.ifT (by omega) ?_))
      by_cases c0 : (dn d 0).f0 = true
      · refine Ev.ifT c0 ?_
        by_cases c2 : (dn d 0).f2 = -1
        · refine Ev.ifT c2 ?_
          by_cases c3 : (dn d 0).f5 = -1
          · refine Ev.ifT c3 ?_
            by_cases c4 : (dn d 0).f6 = -1
            · rw [hb1 ⟨c0, c2, c3, c4⟩] at hr
              rw [show ((rd_T99 d 0).f6 != -1) = false from bne_eq_false_iff_eq.mpr c4]
              exact hr
            · rw [hb2 (fun z => c4 z.2.2.2)] at hr
              rw [show ((rd_T99 d 0).f6 != -1) = true from bne_iff_ne.mpr c4]
              exact hr
          · rw [hb2 (fun z => c3 z.2.2.1)] at hr
            exact Ev.ifF c3 hr
        · rw [hb2 (fun z => c2 z.2.1)] at hr
          exact Ev.ifF c2 hr
      · rw [hb2 (fun z => c0 z.1)] at hr
        exact Ev.ifF c0 hr
    by_cases c2 : (dn d 0).f0 = true ∧ (dn d 0).f2 = -1 ∧ (dn d 0).f5 = -1 ∧ (dn d 0).f6 = -1
    · rcases (walk_all (d := d) (by omega) 25).1 0 0 [] [] rfl (by simp) (by simp) (Int.le_refl _) (by omega) with ⟨L, h1, h2, h3⟩ | ⟨h1, o, e, h2, h3, h4, h5⟩
      · rw [List.nil_append, List.nil_append] at h3
        simp only [List.length_nil, Nat.zero_add] at h2
        have hN : (nodes L).length ≤ 24 := by rw [nodes, List.length_map]; exact h2
        have run : ∀ r, Ev (fun k => spec_DomOk.l0 k (nodes L) (List.replicate d.length false) 0 d) r → Ev (fun k => spec_DomOk.f k d) r := by
          intro r hr
          refine pre false _ (fun _ => rfl) (fun z => absurd c2 z) (Ev.step (fun _ => rfl) ?_)
          simp only [spec_DomOk.j0]
          refine Ev.ifF (by simp) (Ev.bind h3 (Ev.ifF (show ¬ ((nodes L).length : Int) > 24 by omega) (Ev.ifT (by omega) (Ev.ifT (by omega) ?_))))
          rw [Int.toNat_natCast]
          exact hr
        rcases specFlags_l (d := d) (by omega) (N := nodes L) (by omega) h1.inr (nodes L).length 0 (List.replicate d.length false) (Nat.zero_add _) ⟨by simp, fun x hx => by
            rw [List.take_zero, List.getD_eq_getElem?_getD, List.getElem?_replicate, if_pos hx]
            simp⟩ ⟨by simp, by simp⟩ with ⟨k1, F', k2, k3⟩ | ⟨k1, k2⟩
        · have kl := specLast_l (d := d) (by omega) k2 (fun x hx => by
            obtain ⟨p, hp, rfl⟩ := List.mem_map.1 hx
            exact h1.row p hp) d.length 0 (Nat.zero_add _)
          have k4 := run _ (k3 _ kl)
          cases q : lastB d (nodes L) d.length 0 with
          | true =>
            rw [q] at k4
            have q2 := (lastB_iff d (nodes L) d.length 0).1 q
            refine .inl ⟨L, ⟨by omega, by omega, c2.2.1, c2.2.2.1, c2.2.2.2, h1, ⟨by rw [List.nil_append]; exact k1.nodup, fun p hp => ?_⟩, fun i hi hn => (q2 i (Nat.zero_le _) (by omega)).2 hn⟩, k4, h3⟩
            have hm : p.1 ∈ nodes L := List.mem_map_of_mem hp
            have hf := k1.fine _ hm
            have hi := h1.inr _ hm
            have := (q2 p.1.toNat (Nat.zero_le _) (by omega)).1
            rw [Int.toNat_of_nonneg hi.1] at this
            exact ⟨hf.1, hf.2.1, hf.2.2, this hm⟩
          | false =>
            rw [q] at k4
            refine .inr ⟨?_, k4⟩
            rintro ⟨L', h⟩
            obtain rfl := h1.det _ h.tree
            have : lastB d (nodes L) d.length 0 = true := (lastB_iff _ _ _ _).2 fun j _ hj => ⟨fun hm => by
              obtain ⟨p, hp, e2⟩ := List.mem_map.1 hm
              have := (h.well.fine p hp).chain
              rw [e2] at this
              exact this, fun hn => h.rest j (by omega) hn⟩
            rw [q] at this
            cases this
        · refine .inr ⟨?_, run _ k2⟩
          rintro ⟨L', h⟩
          obtain rfl := h1.det _ h.tree
          refine k1 ⟨by have := h.well.nodup; rw [List.nil_append] at this; exact this, fun x hx => ?_⟩
          obtain ⟨p, hp, rfl⟩ := List.mem_map.1 hx
          have := h.well.fine p hp
          exact ⟨this.live, this.l0, this.l5⟩
      · refine .inr ⟨fun ⟨L, h⟩ => h1 ⟨L, h.tree, by have := h.len; simpa using this⟩, ?_⟩
        refine pre false _ (fun _ => rfl) (fun z => absurd c2 z) (Ev.step (fun _ => rfl) ?_)
        simp only [spec_DomOk.j0]
        exact Ev.ifF (by simp) (Ev.bind h5 (Ev.ifT (show (o.length : Int) > 24 by omega) (Ev.now _)))
    · refine .inr ⟨fun ⟨L, h⟩ => c2 ⟨?_, h.par, h.prv, h.nxt⟩, pre true _ (fun z => absurd z c2) (fun _ => rfl) jt⟩
      obtain ⟨L', e⟩ := h.tree.head
      exact (h.well.fine (0, 0) (by rw [e]; exact List.mem_cons_self)).live
  · refine .inr ⟨fun ⟨L, h⟩ => c1 ⟨by have := h.n1; omega, by have := h.n24; omega⟩, ?_⟩
    unfold spec_DomOk.f
    exact Ev.bindC (l1In_eq _ _ _) (Ev.ifF (by rw [decide_eq_false c1]; simp) jt)
end Go.Proofs.Ytbifdckfglejkaa.Q
namespace Go.Proofs.Ytbifdckfglejkaa.Q
open Go.RowKit Go.Proofs.YtbifdckfglejkaaW.PrintWords Go.Proofs.YtbifdckfglejkaaW.PrintLast Go.Proofs.YtbifdckfglejkaaW.PrintMore Go.Proofs.Ytbifdckfglejkaa.X Go.Proofs.Ytbifdckfglejkaa.Rd
set_option linter.unusedVariables false
set_option linter.unusedSimpArgs false
def kidsFrom (l : List NodeI) (i : Nat) : Nat → Nat → List Int
  | 0, _ => []
  | n + 1, k => if k < endN l i then (if dep l k = dep l i + 1 then (k : Int) :: kidsFrom l i n (k + 1) else kidsFrom l i n (k + 1)) else []
noncomputable def kidsOf (l : List NodeI) (a : Int) : List Int := if hasB l a = true then kidsFrom l a.toNat l.length (a.toNat + 1) else []
theorem kidsFrom_len (l : List NodeI) (i : Nat) (n : Nat) : ∀ k, (kidsFrom l i n k).length ≤ n := by
  induction n with
  | zero => intro k; simp [kidsFrom]
  | succ n ih =>
    intro k
    simp only [kidsFrom]
    have := ih (k + 1)
    split
    · split
      · simp only [List.length_cons]; omega
      · omega
    · simp
theorem wrapN {a : Nat} (h : a ≤ 1048576) : wrap64 ((a : Int) + 1) = ((a + 1 : Nat) : Int) := by rw [wrap_id (by omega) (by omega)]; omega
theorem implKids_l (l : List NodeI) (t : Tr l) (i : Nat) (hi : i < l.length) (n : Nat) : ∀ (k : Nat) (acc : List Int), acc.length + n ≤ 100000 → endN l i ≤ k + n → Ev (fun r => impl_KidsOf.l0 r l i acc k) (acc ++ kidsFrom l i n k) := by
  have h24 := t.len24
  have he := implEndOf_ev l (by omega) i hi
  have hs := endN_spec l hi
  have hd := (t.chk i hi).d12
  have hd0 := (t.chk i hi).d0
  induction n with
  | zero =>
    intro k acc ha hk
    refine Ev.step (fun _ => rfl) ?_
    simp only [impl_KidsOf.l0, kidsFrom, List.append_nil]
    exact Ev.bind he (Ev.ifF (by omega) (Ev.now _))
  | succ n ih =>
    intro k acc ha hk
    refine Ev.step (fun _ => rfl) ?_
    simp only [impl_KidsOf.l0, kidsFrom, rd_dep]
    refine Ev.bind he ?_
    by_cases c : k < endN l i
    · rw [if_pos c, wrapN (show k ≤ 1048576 by omega), wrap_id (x := dep l i + 1) (by omega) (by omega)]
      refine Ev.ifT (by omega) (Ev.ifT (by omega) (Ev.ifT (by omega) (Ev.ifT (by omega) (Ev.ifT (by omega) ?_))))
      by_cases c2 : dep l k = dep l i + 1
      · rw [if_pos c2]
        refine Ev.ifT c2 (Ev.ifT (by omega) ?_)
        have := ih (k + 1) (acc ++ [(k : Int)]) (by simp; omega) (by omega)
        rw [List.append_assoc] at this
        exact this
      · rw [if_neg c2]
        exact Ev.ifF c2 (ih (k + 1) acc (by omega) (by omega))
    · rw [if_neg c, List.append_nil]
      exact Ev.ifF (by omega) (Ev.now _)
theorem implKidsOf_ev (l : List NodeI) (a : Int) : Ev (fun r => impl_KidsOf.f r l a) (kidsOf l a) := by
  unfold impl_KidsOf.f
  simp only [Option.bind_some]
  refine Ev.bind (implHas_ev l a) ?_
  by_cases h : hasB l a = true
  · obtain ⟨t, h0, h1⟩ := (hasB_iff l a).1 h
    obtain ⟨i, rfl⟩ := Int.eq_ofNat_of_zero_le h0
    have h24 := t.len24
    have hs := endN_spec l (i := i) (by omega)
    have := implKids_l l t i (by omega) l.length (i + 1) [] (by simp; omega) (by omega)
    rw [List.nil_append] at this
    refine Ev.ifT h ?_
    rw [wrapN (show i ≤ 1048576 by omega)]
    unfold kidsOf
    rw [if_pos h, Int.toNat_natCast]
    exact this
  · refine Ev.ifF h ?_
    unfold kidsOf
    rw [if_neg h]
    exact Ev.now _
theorem kidsOf_none {l : List NodeI} {a : Int} (h : ¬ (Tr l ∧ 0 ≤ a ∧ a < l.length)) : kidsOf l a = [] := by
  unfold kidsOf
  rw [if_neg (by rw [hasB_false h]; simp)]
theorem kidsOf_len (l : List NodeI) (a : Int) : (kidsOf l a).length ≤ 24 := by
  by_cases h : Tr l ∧ 0 ≤ a ∧ a < l.length
  · unfold kidsOf
    rw [if_pos ((hasB_iff _ _).2 h)]
    have := kidsFrom_len l a.toNat l.length (a.toNat + 1)
    have := h.1.len24
    omega
  · rw [kidsOf_none h]; simp
end Go.Proofs.Ytbifdckfglejkaa.Q
namespace Go.Proofs.Ytbifdckfglejkaa.Q
open Go.RowKit Go.Proofs.YtbifdckfglejkaaW.PrintWords Go.Proofs.YtbifdckfglejkaaW.PrintLast Go.Proofs.YtbifdckfglejkaaW.PrintMore Go.Proofs.Ytbifdckfglejkaa.X Go.Proofs.Ytbifdckfglejkaa.Rd
set_option linter.unusedVariables false
set_option linter.unusedSimpArgs false
def rk (l : List NodeI) (j : Nat) : Nat := endN l j - 1 - (dep l j).toNat
theorem kidsFrom_filter (l : List NodeI) (i : Nat) (n : Nat) : ∀ k, endN l i ≤ k + n → kidsFrom l i n k = ((List.range' k (endN l i - k)).filter fun j => decide (dep l j = dep l i + 1)).map (fun j : Nat => (j : Int)) := by
  induction n with
  | zero => intro k hk; rw [show endN l i - k = 0 by omega]; rfl
  | succ n ih =>
    intro k hk
    simp only [kidsFrom]
    by_cases c : k < endN l i
    · rw [if_pos c, show endN l i - k = (endN l i - (k + 1)) + 1 by omega, List.range'_succ]
      by_cases c2 : dep l k = dep l i + 1
      · rw [if_pos c2, List.filter_cons_of_pos (by simpa using c2), List.map_cons, ih (k + 1) (by omega)]
      · rw [if_neg c2, List.filter_cons_of_neg (by simpa using c2), ih (k + 1) (by omega)]
    · rw [if_neg c, show endN l i - k = 0 by omega]; rfl
def kidsL (l : List NodeI) (i k : Nat) : List Int := ((List.range' k (endN l i - k)).filter fun j => decide (dep l j = dep l i + 1)).map (fun j : Nat => (j : Int))
theorem kidsOf_eq {l : List NodeI} (t : Tr l) {i : Nat} (hi : i < l.length) : kidsOf l i = kidsL l i (i + 1) := by
  have hb : hasB l i = true := (hasB_iff _ _).2 ⟨t, by omega, by omega⟩
  have hs := endN_spec l hi
  unfold kidsOf
  rw [if_pos hb, Int.toNat_natCast, kidsFrom_filter l i l.length (i + 1) (by omega)]
  rfl
def IsP (l : List NodeI) (P : List Int) (lo hi : Nat) (a : Int) : Prop := P.length = hi - lo ∧ ∀ r, r < P.length → ∃ j : Nat, lo ≤ j ∧ j < hi ∧ P[r]? = some (j : Int) ∧ (rk l j : Int) = a + r
theorem IsP.append {l : List NodeI} {P Q : List Int} {lo mid hi : Nat} {a b : Int} (h : IsP l P lo mid a) (k : IsP l Q mid hi b) (h1 : lo ≤ mid) (h2 : mid ≤ hi) (hb : b = a + ((mid : Int) - lo)) : IsP l (P ++ Q) lo hi a := by
  obtain ⟨p1, p2⟩ := h
  obtain ⟨q1, q2⟩ := k
  refine ⟨by rw [List.length_append]; omega, fun r hr => ?_⟩
  rw [List.length_append] at hr
  by_cases c : r < P.length
  · obtain ⟨j, j1, j2, j3, j4⟩ := p2 r c
    exact ⟨j, j1, by omega, by rw [List.getElem?_append_left c]; exact j3, j4⟩
  · obtain ⟨j, j1, j2, j3, j4⟩ := q2 (r - P.length) (by omega)
    exact ⟨j, by omega, j2, by rw [List.getElem?_append_right (by omega)]; exact j3, by omega⟩
theorem IsP.none (l : List NodeI) (k : Nat) (a : Int) : IsP l [] k k a := ⟨by simp, fun r h => absurd h (by simp)⟩
end Go.Proofs.Ytbifdckfglejkaa.Q
namespace Go.Proofs.Ytbifdckfglejkaa.Q
open Go.RowKit Go.Proofs.YtbifdckfglejkaaW.PrintWords Go.Proofs.YtbifdckfglejkaaW.PrintLast Go.Proofs.YtbifdckfglejkaaW.PrintMore Go.Proofs.Ytbifdckfglejkaa.X Go.Proofs.Ytbifdckfglejkaa.Rd
set_option linter.unusedVariables false
set_option linter.unusedSimpArgs false
noncomputable def nodeGo (l : List NodeI) : List Int → Int → Int
  | [], i => i
  | p :: ps, i => if 0 ≤ p ∧ p < (kidsOf l i).length then nodeGo l ps ((kidsOf l i).getD p.toNat 0) else -1
noncomputable def nodeAt (l : List NodeI) (path : List Int) : Int := if trB l = true then nodeGo l path 0 else -1
theorem implNodeAt_l (l : List NodeI) (path : List Int) (hp : path.length ≤ 1048576) (d : Nat) : ∀ (j : Nat) (i : Int), j + d = path.length → Ev (fun r => impl_NodeAt.l0 r l i path path.length j) (nodeGo l (path.drop j) i) := by
  induction d with
  | zero =>
    intro j i hj
    rw [List.drop_of_length_le (by omega)]
    refine Ev.step (fun _ => rfl) ?_
    simp only [impl_NodeAt.l0]
    exact Ev.ifF (by omega) (Ev.now _)
  | succ d ih =>
    intro j i hj
    have hlt : j < path.length := by omega
    have hk := kidsOf_len l i
    rw [List.drop_eq_getElem_cons hlt]
    refine Ev.step (fun _ => rfl) ?_
    simp only [impl_NodeAt.l0, rd, getD_nat path j _ hlt, nodeGo]
    refine Ev.ifT (by omega) (Ev.ifT (by omega) (Ev.ifT (by omega) (Ev.bind (implKidsOf_ev l i) (Ev.bindC (within_eq _ _ _) ?_))))
    rw [wrap_id (x := ((kidsOf l i).length : Int) - 1) (by omega) (by omega), wrapN (show j ≤ 1048576 by omega)]
    by_cases c : 0 ≤ path[j] ∧ path[j] < (kidsOf l i).length
    · rw [if_pos c]
      exact Ev.ifT (by simp; omega) (Ev.ifT c.1 (Ev.ifT c.2 (ih (j + 1) _ (by omega))))
    · rw [if_neg c]
      exact Ev.ifF (by simp; omega) (Ev.now _)
theorem implNodeAt_ev (l : List NodeI) (hl : l.length ≤ 9223372036854775807) (path : List Int) (hp : path.length ≤ 1048576) : Ev (fun r => impl_NodeAt.f r l path) (nodeAt l path) := by
  unfold impl_NodeAt.f nodeAt
  refine Ev.bind (implTreeOk_ev l) ?_
  by_cases h : trB l = true
  · rw [if_pos h]
    exact Ev.ifT h (implNodeAt_l l path hp path.length 0 0 (by omega))
  · rw [if_neg h]
    exact Ev.ifF h (Ev.now _)
end Go.Proofs.Ytbifdckfglejkaa.Q
namespace Go.Proofs.Ytbifdckfglejkaa.Q
open Go.RowKit Go.Proofs.YtbifdckfglejkaaW.PrintWords Go.Proofs.YtbifdckfglejkaaW.PrintLast Go.Proofs.YtbifdckfglejkaaW.PrintMore Go.Proofs.Ytbifdckfglejkaa.X Go.Proofs.Ytbifdckfglejkaa.Rd
set_option linter.unusedVariables false
set_option linter.unusedSimpArgs false
theorem RT.deep {d : List DN} {b : Bool} {t c : Int} {L : List (Int × Int)} (h : RT d b t c L) : ∀ p ∈ L, (if b = true then t else t + 1) ≤ p.2 ∧ p.2 ≤ 12 := by
  induction h with
  | @sub t i L h1 h2 h3 h4 ih =>
    intro p hp
    rw [if_pos rfl]
    rcases List.mem_cons.1 hp with rfl | hp
    · exact ⟨Int.le_refl _, h3⟩
    · have := ih p hp
      rw [if_neg (by simp)] at this
      omega
  | nil => intro p hp; exact absurd hp List.not_mem_nil
  | @cons t k L1 L2 h1 h2 h3 h4 ih1 ih2 =>
    intro p hp
    rw [if_neg (by simp)]
    rcases List.mem_append.1 hp with hp | hp
    · have := ih1 p hp
      rw [if_pos rfl] at this
      omega
    · have := ih2 p hp
      rw [if_neg (by simp)] at this
      omega
def StepOk : Int → List (Int × Int) → Prop
  | _, [] => True
  | q, p :: L => p.2 ≤ q + 1 ∧ StepOk p.2 L
theorem RT.steps {d : List DN} {b : Bool} {t c : Int} {L : List (Int × Int)} (h : RT d b t c L) : ∀ (q : Int) (R : List (Int × Int)), (if b = true then t - 1 else t) ≤ q → (∀ z, t ≤ z → StepOk z R) → StepOk q (L ++ R) := by
  induction h with
  | @sub t i L h1 h2 h3 h4 ih =>
    intro q R hq hR
    rw [if_pos rfl] at hq
    refine ⟨by simp only; omega, ih t R (by rw [if_neg (by simp)]; exact Int.le_refl _) hR⟩
  | nil => intro q R hq hR; rw [if_neg (by simp)] at hq; exact hR q hq
  | @cons t k L1 L2 h1 h2 h3 h4 ih1 ih2 =>
    intro q R hq hR
    rw [if_neg (by simp)] at hq
    rw [List.append_assoc]
    refine ih1 q (L2 ++ R) (by rw [if_pos rfl]; omega) (fun z hz => ih2 z R (by rw [if_neg (by simp)]; omega) hR)
theorem stepOk_at (L : List (Int × Int)) : ∀ (q : Int), StepOk q L → ∀ (j : Nat) (h : j + 1 < L.length), L[j + 1].2 ≤ (L[j]'(by omega)).2 + 1 := by
  induction L with
  | nil => intro q _ j h; simp at h
  | cons p L ih =>
    intro q hq j h
    cases j with
    | zero =>
      cases L with
      | nil => simp at h
      | cons r L => exact hq.2.1
    | succ j => exact ih p.2 hq.2 j (by simpa using h)
theorem nd_at (d : List DN) (L : List (Int × Int)) {j : Nat} (h : j < L.length) : nd (L.map (tnode d)) j = tnode d L[j] := by
  simp [nd, List.getD_eq_getElem?_getD, List.getElem?_eq_getElem h]
theorem dep_at (d : List DN) (L : List (Int × Int)) {j : Nat} (h : j < L.length) : dep (L.map (tnode d)) j = L[j].2 := by
  unfold dep; rw [nd_at d L h]; rfl
theorem lab_at (d : List DN) (L : List (Int × Int)) {j : Nat} (h : j < L.length) : lab (L.map (tnode d)) j = (dn d L[j].1).f1 := by
  unfold lab; rw [nd_at d L h]; rfl
theorem okD_tr {d : List DN} {L : List (Int × Int)} (h : OkD d L) : Tr (L.map (tnode d)) := by
  obtain ⟨R, e⟩ := h.tree.head
  have hlen : 1 ≤ L.length := by rw [e]; simp
  have hst : StepOk (-1) L := by
    have := h.tree.steps (-1) [] (by rw [if_pos rfl]; omega) (fun _ _ => trivial)
    rw [List.append_nil] at this
    exact this
  refine ⟨by rw [List.length_map]; exact hlen, by rw [List.length_map]; exact h.len, fun j hj => ?_⟩
  rw [List.length_map] at hj
  have hm := List.getElem_mem hj
  have hd := h.tree.deep _ hm
  rw [if_pos rfl] at hd
  have hf := h.well.fine _ hm
  have h0 : dep (L.map (tnode d)) 0 = 0 := by
    rw [dep_at d L (by omega)]
    simp only [e, List.getElem_cons_zero]
  refine ⟨by rw [lab_at d L hj]; exact hf.l0, by rw [lab_at d L hj]; exact hf.l5, by rw [dep_at d L hj]; exact hd.1, by rw [dep_at d L hj]; exact hd.2, fun _ => h0, fun hp => ?_, fun hp => ?_⟩
  · rw [dep_at d L hj]
    have ht := h.tree
    rw [e] at ht
    cases ht with
    | sub _ _ _ hr =>
      have hmr : L[j] ∈ R := by
        have : L[j]? = (((0 : Int), (0 : Int)) :: R)[j]? := by rw [e]
        rw [List.getElem?_eq_getElem hj] at this
        obtain ⟨q, rfl⟩ : ∃ q, j = q + 1 := ⟨j - 1, by omega⟩
        rw [List.getElem?_cons_succ] at this
        exact List.mem_of_getElem? this.symm
      have := (hr.deep _ hmr).1
      rw [if_neg (by simp)] at this
      omega
  · rw [dep_at d L hj, dep_at d L (show j - 1 < L.length by omega)]
    have := stepOk_at L (-1) hst (j - 1) (by omega)
    simp only [show j - 1 + 1 = j from by omega] at this
    exact this
def cnt (t : Int) (R : List (Int × Int)) : Nat := (R.filter fun p => decide (p.2 = t + 1)).length
theorem cnt_append (t : Int) (A B : List (Int × Int)) : cnt t (A ++ B) = cnt t A + cnt t B := by simp [cnt]
theorem cnt_block {d : List DN} {t k : Int} {L : List (Int × Int)} (h : RT d true (t + 1) k L) : cnt t L = 1 := by
  cases h with
  | sub _ _ _ hr =>
    unfold cnt
    rw [List.filter_cons_of_pos (by simp), List.filter_eq_nil_iff.2 (fun p hp => by
      have := (hr.deep p hp).1
      rw [if_neg (by simp)] at this
      simp only [decide_eq_true_eq]
      omega)]
    rfl
theorem kid_l {d : List DN} {b : Bool} {t c : Int} {R : List (Int × Int)} (h : RT d b t c R) : b = false → ∀ (n r : Nat), n ≤ r → r ≤ 1048576 →
    (∃ R1 B R2 y, R = R1 ++ B ++ R2 ∧ RT d true (t + 1) y B ∧ RT d false t (dn d y).f6 R2 ∧ cnt t R1 = r - n ∧ Ev (fun k => spec_l16Kid.l0 k r c n d) y) ∨ (cnt t R ≤ r - n ∧ Ev (fun k => spec_l16Kid.l0 k r c n d) (-1)) := by
  induction h with
  | sub _ _ _ _ _ => intro hb; cases hb
  | nil =>
    intro _ n r hn hr
    refine .inr ⟨by simp [cnt], Ev.step (fun _ => rfl) ?_⟩
    simp only [spec_l16Kid.l0]
    exact Ev.ifT trivial (Ev.ifF (by omega) (Ev.now _))
  | @cons t k L1 L2 h1 h2 h3 h4 ih1 ih2 =>
    intro _ n r hn hr
    have hc := cnt_block h3
    by_cases e : n = r
    · refine .inl ⟨[], L1, L2, k, rfl, h3, h4, by subst e; simp [cnt], Ev.step (fun _ => rfl) ?_⟩
      simp only [spec_l16Kid.l0]
      exact Ev.ifF (by omega) (Ev.ifF (by omega) (Ev.ifF (by omega) (Ev.now _)))
    · have run : ∀ z, Ev (fun q => spec_l16Kid.l0 q r (dn d k).f6 ((n + 1 : Nat) : Int) d) z → Ev (fun q => spec_l16Kid.l0 q r k n d) z := by
        intro z hz
        refine Ev.step (fun _ => rfl) ?_
        simp only [spec_l16Kid.l0]
        rw [wrap_succ (show n < r by omega) (by omega)]
        exact Ev.ifF (by omega) (Ev.ifT (by omega) (Ev.ifT h1 (Ev.ifT h2 hz)))
      rcases ih2 rfl (n + 1) r (by omega) hr with ⟨R1, B, R2, y, q1, q2, q3, q4, q5⟩ | ⟨q1, q2⟩
      · refine .inl ⟨L1 ++ R1, B, R2, y, by rw [q1]; simp, q2, q3, ?_, run _ q5⟩
        rw [cnt_append, hc, q4]
        omega
      · refine .inr ⟨?_, run _ q2⟩
        rw [cnt_append, hc]
        omega
theorem kidNeg_l {d : List DN} {b : Bool} {t c : Int} {R : List (Int × Int)} (h : RT d b t c R) : b = false → ∀ (r : Int), r < 0 → Ev (fun k => spec_l16Kid.l0 k r c 0 d) (-1) := by
  intro hb r hr
  refine Ev.step (fun _ => rfl) ?_
  simp only [spec_l16Kid.l0]
  by_cases e : c = -1
  · exact Ev.ifT e (Ev.ifT hr (Ev.now _))
  · exact Ev.ifF e (Ev.ifF (by omega) (Ev.ifT hr (Ev.now _)))
theorem filt_row (d : List DN) (v : Int) (R : List (Int × Int)) : ∀ (P Q : List (Int × Int)), ((List.range' P.length R.length).filter fun j => decide (dep ((P ++ R ++ Q).map (tnode d)) j = v)).length = (R.filter fun p => decide (p.2 = v)).length := by
  induction R with
  | nil => intro P Q; rfl
  | cons r R ih =>
    intro P Q
    have h := ih (P ++ [r]) Q
    rw [List.length_append, List.length_singleton, show P ++ [r] ++ R ++ Q = P ++ (r :: R) ++ Q from by simp] at h
    have e : dep ((P ++ (r :: R) ++ Q).map (tnode d)) P.length = r.2 := by
      rw [dep_at d _ (by simp)]
      simp
    rw [List.length_cons, List.range'_succ]
    by_cases c : r.2 = v
    · rw [List.filter_cons_of_pos (p := fun j => decide (dep ((P ++ (r :: R) ++ Q).map (tnode d)) j = v)) (decide_eq_true (e.trans c)), List.filter_cons_of_pos (p := fun p : Int × Int => decide (p.2 = v)) (decide_eq_true c), List.length_cons, List.length_cons, h]
    · rw [List.filter_cons_of_neg (p := fun j => decide (dep ((P ++ (r :: R) ++ Q).map (tnode d)) j = v)) (fun z => c (e.symm.trans (of_decide_eq_true z))), List.filter_cons_of_neg (p := fun p : Int × Int => decide (p.2 = v)) (fun z => c (of_decide_eq_true z)), h]
structure At (d : List DN) (L : List (Int × Int)) (p : Nat) (x t : Int) : Prop where
  split : ∃ P R Q, L = P ++ (x, t) :: R ++ Q ∧ P.length = p ∧ RT d false t (dn d x).f3 R ∧ ∀ q ∈ Q.head?, q.2 ≤ t
  x0 : 0 ≤ x
  x1 : x < d.length
theorem At.lt {d : List DN} {L : List (Int × Int)} {p : Nat} {x t : Int} (h : At d L p x t) : p < L.length ∧ L[p]? = some (x, t) := by
  obtain ⟨P, R, Q, rfl, rfl, _, _⟩ := h.split
  refine ⟨by simp <;> omega, ?_⟩
  rw [List.append_assoc, List.getElem?_append_right (Nat.le_refl _)]
  simp
theorem At.kids {d : List DN} {L : List (Int × Int)} (hT : Tr (L.map (tnode d))) {p : Nat} {x t : Int} (h : At d L p x t) :
    ∃ R, RT d false t (dn d x).f3 R ∧ (kidsOf (L.map (tnode d)) p).length = cnt t R ∧ ∀ R1 B R2 y, R = R1 ++ B ++ R2 → RT d true (t + 1) y B → RT d false t (dn d y).f6 R2 →
      (kidsOf (L.map (tnode d)) p).getD (cnt t R1) 0 = ((p + 1 + R1.length : Nat) : Int) ∧ At d L (p + 1 + R1.length) y (t + 1) := by
  have hlt := h.lt.1
  obtain ⟨P, R, Q, e, hp, hR, hQ⟩ := h.split
  have hL : L.length = p + 1 + R.length + Q.length := by rw [e]; simp; omega
  have hp' : p < (L.map (tnode d)).length := by rw [List.length_map]; exact hlt
  have dp : dep (L.map (tnode d)) p = t := by
    rw [dep_at d L hlt]
    have := h.lt.2
    rw [List.getElem?_eq_getElem hlt] at this
    rw [Option.some.inj this]
  have inR : ∀ j, p < j → j < p + 1 + R.length → ∃ q ∈ R, dep (L.map (tnode d)) j = q.2 := by
    intro j h1 h2
    have hj : j < L.length := by omega
    have hm : L[j]? = R[j - (p + 1)]? := by
      rw [e, List.append_assoc, List.getElem?_append_right (by omega), hp, show j - p = (j - (p + 1)) + 1 by omega, List.cons_append, List.getElem?_cons_succ, List.getElem?_append_left (by omega)]
    rw [List.getElem?_eq_getElem hj] at hm
    exact ⟨L[j], List.mem_of_getElem? hm.symm, dep_at d L hj⟩
  have hend : endN (L.map (tnode d)) p = p + 1 + R.length := by
    refine endN_unique _ hp' (by omega) (by rw [List.length_map]; omega) (fun j h1 h2 => ?_) (fun h1 => ?_)
    · obtain ⟨q, hq, e2⟩ := inR j h1 h2
      have := (hR.deep q hq).1
      rw [if_neg (by simp)] at this
      rw [e2, dp]
      omega
    · rw [List.length_map] at h1
      rw [dp, dep_at d L h1]
      have hm : L[p + 1 + R.length]? = Q[0]? := by
        rw [e, List.append_assoc, List.getElem?_append_right (by omega), hp, show p + 1 + R.length - p = R.length + 1 by omega, List.cons_append, List.getElem?_cons_succ, List.getElem?_append_right (Nat.le_refl _), Nat.sub_self]
      rw [List.getElem?_eq_getElem h1, ← List.head?_eq_getElem?] at hm
      exact hQ _ (by rw [← hm]; rfl)
  have hk : kidsOf (L.map (tnode d)) p = ((List.range' (p + 1) R.length).filter fun j => decide (dep (L.map (tnode d)) j = t + 1)).map (fun j : Nat => (j : Int)) := by
    rw [kidsOf_eq hT hp']
    unfold kidsL
    rw [hend, show p + 1 + R.length - (p + 1) = R.length by omega, dp]
  have eL : ∀ A : List (Int × Int), L = (P ++ [(x, t)]) ++ R ++ Q := fun _ => by rw [e]; simp
  have pl : (P ++ [(x, t)]).length = p + 1 := by simp; exact hp
  refine ⟨R, hR, ?_, ?_⟩
  · have := filt_row d (t + 1) R (P ++ [(x, t)]) Q
    rw [← eL [], pl] at this
    rw [hk, List.length_map, this]
    rfl
  · intro R1 B R2 y e1 hB hR2
    obtain ⟨B', rfl⟩ := hB.head
    have f1 := filt_row d (t + 1) R1 (P ++ [(x, t)]) (((y, t + 1) :: B') ++ R2 ++ Q)
    have eL2 : (P ++ [(x, t)]) ++ R1 ++ (((y, t + 1) :: B') ++ R2 ++ Q) = L := by rw [e, e1]; simp
    rw [eL2, pl] at f1
    have hlt2 : p + 1 + R1.length < L.length := by rw [hL, e1]; simp; omega
    have dq : dep (L.map (tnode d)) (p + 1 + R1.length) = t + 1 := by
      rw [dep_at d L hlt2]
      have : L[p + 1 + R1.length]? = some (y, t + 1) := by
        rw [← eL2, List.getElem?_append_right (by simp; omega), show p + 1 + R1.length - (P ++ [(x, t)] ++ R1).length = 0 by simp; omega]
        rfl
      rw [List.getElem?_eq_getElem hlt2] at this
      rw [Option.some.inj this]
    refine ⟨?_, ⟨⟨P ++ [(x, t)] ++ R1, B', R2 ++ Q, ?_, by simp; omega, ?_, ?_⟩, ?_, ?_⟩⟩
    · rw [hk, show R.length = R1.length + (1 + (B'.length + R2.length)) from by rw [e1]; simp; omega, List.range'_append_1.symm, List.filter_append, List.map_append, List.getD_eq_getElem?_getD, List.getElem?_append_right (by rw [List.length_map, f1]; exact Nat.le_refl _), List.length_map, f1,
        show cnt t R1 - (R1.filter fun p => decide (p.2 = t + 1)).length = 0 from Nat.sub_self _, List.range'_append_1.symm, List.filter_append]
      have : (List.range' (p + 1 + R1.length) 1).filter (fun j => decide (dep (L.map (tnode d)) j = t + 1)) = [p + 1 + R1.length] := by
        simp [List.range', dq]
      rw [this]
      rfl
    · rw [← eL2]; simp
    · cases hB with
      | sub _ _ _ hb => exact hb
    · intro q hq
      cases R2 with
      | nil =>
        have := hQ q (by simpa using hq)
        omega
      | cons r R2 =>
        have e3 : q = r := by
          rw [List.cons_append, List.head?_cons] at hq
          exact (Option.some.inj hq).symm
        subst e3
        generalize hk6 : (dn d y).f6 = k6 at hR2
        generalize hcat : q :: R2 = RR at hR2
        cases hR2 with
        | nil => cases hcat
        | cons _ _ h3 _ =>
          rename_i L1 L2 _ _
          obtain ⟨z, e4⟩ := h3.head
          rw [e4] at hcat
          have : q = (k6, t + 1) := by
            have := congrArg List.head? hcat
            simp at this
            exact this
          rw [this]
          exact Int.le_refl _
    · cases hB with
      | sub h1 _ _ _ => exact h1
    · cases hB with
      | sub _ h2 _ _ => exact h2
theorem find_l {d : List DN} {L : List (Int × Int)} (h : OkD d L) (path : List Int) (hp : path.length ≤ 1048576) (e : Nat) : ∀ (j p : Nat) (x t : Int), j + e = path.length → At d L p x t →
    (∃ p' y t', nodeGo (L.map (tnode d)) (path.drop j) p = (p' : Nat) ∧ At d L p' y t' ∧ Ev (fun k => spec_DomFind.l0 k path x j d) y) ∨ (nodeGo (L.map (tnode d)) (path.drop j) p = -1 ∧ Ev (fun k => spec_DomFind.l0 k path x j d) (-1)) := by
  induction e with
  | zero =>
    intro j p x t hj hA
    rw [List.drop_of_length_le (by omega)]
    refine .inl ⟨p, x, t, rfl, hA, Ev.step (fun _ => rfl) ?_⟩
    simp only [spec_DomFind.l0]
    exact Ev.ifF (by omega) (Ev.now _)
  | succ e ih =>
    intro j p x t hj hA
    have hlt : j < path.length := by omega
    obtain ⟨R, hR, hlen, hkid⟩ := hA.kids (okD_tr h)
    have kl := kidsOf_len (L.map (tnode d)) p
    rw [List.drop_eq_getElem_cons hlt]
    have stop : ∀ n : Nat, Ev (fun k => spec_DomFind.l0 k path (-1) n d) (-1) := by
      intro n
      refine Ev.step (fun _ => rfl) ?_
      simp only [spec_DomFind.l0]
      by_cases c : (n : Int) < (path.length : Int)
      · exact Ev.ifT c (Ev.ifF (by omega) (Ev.now _))
      · exact Ev.ifF c (Ev.now _)
    have run : ∀ y z, Ev (fun k => spec_l16Kid.l0 k path[j] (dn d x).f3 0 d) y → Ev (fun k => spec_DomFind.l0 k path y ((j + 1 : Nat) : Int) d) z → Ev (fun k => spec_DomFind.l0 k path x j d) z := by
      intro y z h1 h2
      refine Ev.step (fun _ => rfl) ?_
      simp only [spec_DomFind.l0, rd, getD_nat path j _ hlt]
      rw [wrap_succ hlt (by omega)]
      refine Ev.ifT (by omega) (Ev.ifT hA.x0 (Ev.ifT (by omega) (Ev.bind ?_ h2)))
      unfold spec_l16Kid.f
      exact Ev.ifT hA.x0 (Ev.ifT hA.x1 h1)
    simp only [nodeGo]
    by_cases c0 : path[j] < 0
    · rw [if_neg (by omega)]
      exact .inr ⟨rfl, run _ _ (kidNeg_l hR rfl _ c0) (stop _)⟩
    · obtain ⟨r, hr⟩ := Int.eq_ofNat_of_zero_le (show 0 ≤ path[j] by omega)
      rw [hr] at run ⊢
      by_cases c1 : r < cnt t R
      · rcases kid_l hR rfl 0 r (Nat.zero_le _) (by omega) with ⟨R1, B, R2, y, q1, q2, q3, q4, q5⟩ | ⟨q1, _⟩
        · rw [Nat.sub_zero] at q4
          obtain ⟨k1, k2⟩ := hkid R1 B R2 y q1 q2 q3
          rw [q4] at k1
          rw [if_pos ⟨by omega, by omega⟩, Int.toNat_natCast, k1]
          rcases ih (j + 1) _ y _ (by omega) k2 with ⟨p', y', t', u1, u2, u3⟩ | ⟨u1, u2⟩
          · exact .inl ⟨p', y', t', u1, u2, run _ _ q5 u3⟩
          · exact .inr ⟨u1, run _ _ q5 u2⟩
        · omega
      · rw [if_neg (by omega)]
        by_cases c2 : r ≤ 1048576
        · rcases kid_l hR rfl 0 r (Nat.zero_le _) c2 with ⟨R1, B, R2, y, q1, q2, q3, q4, q5⟩ | ⟨_, q2⟩
          · have := congrArg (cnt t) q1
            rw [cnt_append, cnt_append, cnt_block q2, q4] at this
            omega
          · exact .inr ⟨rfl, run _ _ q2 (stop _)⟩
        · have key : ∀ (b : Bool) (t' c : Int) (R' : List (Int × Int)), RT d b t' c R' → b = false → ∀ n : Nat, n + cnt t' R' ≤ 1048576 → Ev (fun k => spec_l16Kid.l0 k r c n d) (-1) := by
            intro b t' c R' hRT
            induction hRT with
            | sub _ _ _ _ _ => intro hb; cases hb
            | nil =>
              intro _ n hn
              refine Ev.step (fun _ => rfl) ?_
              simp only [spec_l16Kid.l0]
              exact Ev.ifT trivial (Ev.ifF (by omega) (Ev.now _))
            | @cons t2 k2 L1 L2 h1 h2 h3 h4 _ ih2 =>
              intro _ n hn
              rw [cnt_append, cnt_block h3] at hn
              refine Ev.step (fun _ => rfl) ?_
              simp only [spec_l16Kid.l0]
              rw [wrap_succ (show n < 1048577 by omega) (by omega)]
              exact Ev.ifF (by omega) (Ev.ifT (by omega) (Ev.ifT h1 (Ev.ifT h2 (ih2 rfl (n + 1) (by omega)))))
          exact .inr ⟨rfl, run _ _ (key _ _ _ _ hR rfl 0 (by omega)) (stop _)⟩
theorem domFind_both (d : List DN) (hl : d.length ≤ 9223372036854775807) (path : List Int) (hp : path.length ≤ 1048576) : ∃ r, Ev (fun k => impl_DomFind.f k d path) r ∧ Ev (fun k => spec_DomFind.f k d path) r := by
  unfold impl_DomFind.f spec_DomFind.f
  rcases implWalked_ev d hl with ⟨L, h1, h2⟩ | ⟨h1, t, s, ht, h2⟩
  · have hT := okD_tr h1
    have hA : At d L 0 0 0 := by
      have ht := h1.tree
      obtain ⟨R, e⟩ := ht.head
      rw [e] at ht
      cases ht with
      | sub a1 a2 _ a4 => exact ⟨⟨[], R, [], by rw [e]; simp, rfl, a4, by simp⟩, a1, a2⟩
    have hspec : Ev (fun k => spec_DomOk.f k d) true := by
      rcases specDomOk_ev d hl with ⟨L', _, q, _⟩ | ⟨q, _⟩
      · exact q
      · exact absurd ⟨L, h1⟩ q
    have hlen : L.length ≤ 24 := h1.len
    have na := implNodeAt_ev (L.map (tnode d)) (by rw [List.length_map]; omega) path hp
    unfold nodeAt at na
    rw [if_pos (trB_true hT)] at na
    rcases find_l h1 path hp path.length 0 0 0 0 (Nat.zero_add _) hA with ⟨p', y, t', u1, u2, u3⟩ | ⟨u1, u2⟩
    · rw [List.drop_zero, Int.natCast_zero] at u1
      rw [u1] at na
      have q := u2.lt
      refine ⟨y, Ev.bind h2 (Ev.bind na (Ev.ifT rfl (Ev.ifF (by omega) (Ev.ifT (by omega) (Ev.ifT (by simp [nodes]; omega) ?_))))), Ev.bind hspec (Ev.ifT rfl u3)⟩
      have : rd (nodes L) (p' : Int) = y := by
        show (nodes L).getD (p' : Int).toNat 0 = _
        rw [Int.toNat_natCast, List.getD_eq_getElem?_getD, nodes, List.getElem?_map, q.2]
        rfl
      rw [this]
      exact Ev.now _
    · rw [List.drop_zero, Int.natCast_zero] at u1
      rw [u1] at na
      exact ⟨-1, Ev.bind h2 (Ev.bind na (Ev.ifT rfl (Ev.ifT (by omega) (Ev.now _)))), Ev.bind hspec (Ev.ifT rfl u2)⟩
  · have na := implNodeAt_ev t (by omega) path hp
    have hspec : Ev (fun k => spec_DomOk.f k d) false := by
      rcases specDomOk_ev d hl with ⟨L', q, _⟩ | ⟨_, q⟩
      · exact absurd ⟨L', q⟩ h1
      · exact q
    exact ⟨-1, Ev.bind h2 (Ev.bind na (Ev.ifF (by simp) (Ev.now _))), Ev.bind hspec (Ev.ifF (by simp) (Ev.now _))⟩
end Go.Proofs.Ytbifdckfglejkaa.Q
namespace Go.Proofs.Ytbifdckfglejkaa.Q
open Go.RowKit Go.Proofs.YtbifdckfglejkaaW.PrintWords Go.Proofs.YtbifdckfglejkaaW.PrintLast Go.Proofs.YtbifdckfglejkaaW.PrintMore Go.Proofs.Ytbifdckfglejkaa.X Go.Proofs.Ytbifdckfglejkaa.Rd
set_option linter.unusedVariables false
set_option linter.unusedSimpArgs false
theorem FnExactDomFind (x : DomL) (w : WF24 x) (p : List Int) (w1 : WF39 p) : ∃ k, laws_FnExactDomFind.f k x.f0 p = some true := by
  refine Ev.rounds (g := fun k => laws_FnExactDomFind.f k x.f0 p) ?_
  unfold laws_FnExactDomFind.f
  by_cases h0 : (p.length : Int) > 1048576
  · exact Ev.ifT h0 (Ev.now _)
  refine Ev.ifF h0 (Ev.bindC (szDom_eq x.f0 _ (by omega) (by omega) w.1) ?_)
  by_cases h : (1048576 : Int) < x.f0.length
  · rw [if_pos h]
    exact Ev.ifT (by omega) (Ev.now _)
  rw [if_neg h]
  have t := toDom_ev x.f0 (by omega)
  have hl : (x.f0.map toDomNode).length ≤ 1048576 := by simp; omega
  generalize x.f0.map toDomNode = d at t hl
  have tp := toIntS_ev p (by omega)
  obtain ⟨r, i, s⟩ := domFind_both d (by omega) p (by omega)
  exact Ev.ifF (by omega) (Ev.bind t (Ev.bind tp (Ev.bind s (Ev.bind t (Ev.bind tp (Ev.bind i (Ev.ifT rfl (Ev.bind t (Ev.bind (eqDom_ev d (by omega)) (Ev.ifT rfl (Ev.bind tp (Ev.bind (eqIntS_ev p (by omega)) (Ev.ifT rfl (Ev.now _))))))))))))))
end Go.Proofs.Ytbifdckfglejkaa.Q
