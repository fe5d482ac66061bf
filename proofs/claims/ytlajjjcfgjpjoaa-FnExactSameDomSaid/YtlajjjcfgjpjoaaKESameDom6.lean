/- Part 6 of the proof of FnExactSameDom: what it needs. -/
import Derived.WalkKit
import Derived.ProofKit
import Derived.OpenShut
import Derived.ShutString
import Derived.ChangeOld
import Derived.Below
import Derived.Deep.Slices
import Derived.Test.YtlajjjcfgjpjoaaKESameDom4
import Derived.Test.YtlajjjcfgjpjoaaKESameDom5
namespace Go.Proofs.Ytlajjjcfgjpjoaa.Rd
open Go.ChangeShapes Go.WideShapes Go.ChangeAt Go.RowKit Go.Proofs.YtlajjjcfgjpjoaaW.PrintWords
structure Rd (P : Program) (t : TypeId) {α : Type} (d : Kd α) (wf : α → Prop) : Prop where
  size : P.cellsOf t = d.sz
  reads : ∀ {H : Type} {enc : TypeId × Value → H} {w : World} {spare : Nat → Bool} {held : Bool} {fuel : Nat} {cs : List Value} {x : DataW H × List MemPlace},
    DataW.trod enc P w 0 spare held fuel t cs = some x → ∃ y, d.K w y cs ∧ wf y
theorem rd_int {P : Program} {t : TypeId} {k : IntKind} (ht : P.underlying t = some (.int k)) (hc : P.cellsOf t = 1) : Rd P t (Kd.int k) (fun n => (Lit.int k n).wf = true) :=
  ⟨hc, fun h => by
    obtain ⟨n, rfl, _, hw⟩ := DataW.trod_int ht h
    exact ⟨n, rfl, hw⟩⟩
theorem rd_bool {P : Program} {t : TypeId} (ht : P.underlying t = some .bool) (hc : P.cellsOf t = 1) : Rd P t Kd.bool (fun _ => True) :=
  ⟨hc, fun h => by
    obtain ⟨b, rfl, _⟩ := DataW.trod_bool ht h
    exact ⟨b, rfl, trivial⟩⟩
theorem rd_slice {P : Program} {t e : TypeId} {α : Type} [Inhabited α] {d : Kd α} {wf : α → Prop} (ht : P.underlying t = some (.slice e)) (hc : P.cellsOf t = 1) (h : Rd P e d wf) : Rd P t (Kd.slice e d) (fun xs => xs.length ≤ 9223372036854775807 ∧ ∀ x ∈ xs, wf x) :=
  ⟨hc, fun {H enc w spare held fuel cs x} hx => by
    rcases Go.Deep.open_slice ht hx with ⟨rfl, _⟩ | ⟨a, len, cap, m, n, D, Pl, rfl, _, hl, hm, hmm, _, hel⟩
    · exact ⟨[], ⟨none, 0, rfl, Nat.le_refl _, rfl, by simp, fun h => absurd h (Nat.lt_irrefl _)⟩, by simp, by simp⟩
    · have hle : len ≤ m := by rw [hmm]; split <;> omega
      obtain ⟨f, hf⟩ := Go.Deep.choose_lt (n := len) (p := fun i (y : α) => ∃ cs', w.cells? 0 (a.add (i * P.cellsOf e)) (P.cellsOf e) = some cs' ∧ d.K w y cs' ∧ wf y) (fun i hi => by
        obtain ⟨cs', h1, h2⟩ := hel i (by omega)
        obtain ⟨y, hy, hw⟩ := h.reads h2
        exact ⟨y, cs', h1, hy, hw⟩)
      have hlen : ((List.range len).map f).length = len := by simp
      refine ⟨(List.range len).map f, ⟨some a, cap, by rw [hlen], by rw [hlen]; exact hl, ?_⟩, by rw [hlen]; unfold maxLen at hm; omega, ?_⟩
      · refine ⟨rfl, by rw [hlen]; unfold maxLen at hm; omega, fun _ => ⟨a, rfl, fun j p hj => ?_⟩⟩
        have hj' : j < len ∧ f j = p := by
          rw [List.getElem?_map] at hj
          obtain ⟨i, hi, hp⟩ := Option.map_eq_some_iff.1 hj
          have := List.getElem?_eq_some_iff.1 hi
          obtain ⟨h1, h2⟩ := this
          simp at h1 h2
          subst h2
          exact ⟨h1, hp⟩
        obtain ⟨cs', h1, h2, _⟩ := hf j hj'.1
        rw [hj'.2] at h2
        obtain ⟨_, hn, hcell⟩ := World.cells?_some h1
        refine ⟨cs', d.K_len h2, h2, fun i u hu => ?_⟩
        have hi : i < cs'.length := (List.getElem?_eq_some_iff.1 hu).1
        have := hcell i (by omega)
        rw [Go.Deep.add_add, h.size] at this
        rw [this, hu]
      · intro x hx
        obtain ⟨i, hi, rfl⟩ := List.mem_map.1 hx
        obtain ⟨_, _, _, hw⟩ := hf i (by simpa using hi)
        exact hw⟩
structure RdF (P : Program) (o : Nat) (fs : List Field) {α : Type} (d : Kd α) (wf : α → Prop) : Prop where
  reads : ∀ {H : Type} {enc : TypeId × Value → H} {w : World} {spare : Nat → Bool} {held : Bool} {fuel : Nat} {cs : List Value}, o + d.sz ≤ cs.length →
    (∀ f ∈ fs, ∃ x, DataW.trod enc P w 0 spare held fuel f.type ((cs.drop f.offset).take (P.cellsOf f.type)) = some x) → ∃ y, d.K w y ((cs.drop o).take d.sz) ∧ wf y
theorem rdf_one {P : Program} {o : Nat} {f : Field} {α : Type} {d : Kd α} {wf : α → Prop} (ho : f.offset = o) (h : Rd P f.type d wf) : RdF P o [f] d wf :=
  ⟨fun _ hf => by
    obtain ⟨x, hx⟩ := hf f (by simp)
    rw [ho, h.size] at hx
    exact h.reads hx⟩
theorem rdf_cons {P : Program} {o : Nat} {f : Field} {fs : List Field} {α β : Type} {d : Kd α} {d' : Kd β} {wf : α → Prop} {wf' : β → Prop} (ho : f.offset = o) (h : Rd P f.type d wf) (h' : RdF P (o + d.sz) fs d' wf') :
    RdF P o (f :: fs) (Kd.pair d d') (fun x => wf x.1 ∧ wf' x.2) :=
  ⟨fun {H enc w spare held fuel cs} hl hf => by
    have hl' : o + (d.sz + d'.sz) ≤ cs.length := hl
    obtain ⟨x, hx⟩ := hf f (by simp)
    rw [ho, h.size] at hx
    obtain ⟨y, hy, hw⟩ := h.reads hx
    obtain ⟨y', hy', hw'⟩ := h'.reads (cs := cs) (by omega) (fun g hg => hf g (by simp [hg]))
    refine ⟨(y, y'), ⟨_, _, ?_, hy, hy'⟩, hw, hw'⟩
    show (cs.drop o).take (d.sz + d'.sz) = _
    rw [List.take_add, List.drop_drop]⟩
theorem rd_struct {P : Program} {t : TypeId} {fs : Array Field} {α β : Type} {d : Kd α} {wf : α → Prop} (g : β → α) (ht : P.underlying t = some (.struct fs)) (hc : P.cellsOf t = d.sz) (hg : ∀ y, ∃ x, g x = y) (h : RdF P 0 fs.toList d wf) :
    Rd P t (Kd.iso d g) (fun x => wf (g x)) :=
  ⟨hc, fun {H enc w spare held fuel cs x} hx => by
    obtain ⟨xs, n, _, _, hl, hlen, hf⟩ := DataW.trod_struct ht hx
    obtain ⟨y, hy, hw⟩ := h.reads (enc := enc) (w := w) (spare := spare) (held := held) (fuel := n) (cs := cs) (by omega) (fun f hfm => by
      obtain ⟨i, hi, rfl⟩ := List.getElem_of_mem hfm
      have h1 : fs[i]? = some fs[i] := Array.getElem?_eq_getElem (by simpa using hi)
      have h2 := hf i _ h1
      have h3 : i < xs.length := by rw [hlen]; simpa using hi
      rw [List.getElem?_eq_getElem h3] at h2
      exact ⟨_, h2⟩)
    rw [List.drop_zero, List.take_of_length_le (by omega)] at hy
    obtain ⟨z, rfl⟩ := hg y
    exact ⟨z, hy, hw⟩⟩
theorem own : ownKnob Try.prog.godebug = none := by kernel_rfl
theorem laidOut : laidOutB Try.prog = true := by kernel_rfl
end Go.Proofs.Ytlajjjcfgjpjoaa.Rd
namespace Go.Proofs.Ytlajjjcfgjpjoaa.Rd
open Go.ChangeShapes Go.WideShapes Go.ChangeAt Go.RowKit Go.Proofs.YtlajjjcfgjpjoaaW.PrintWords Go.Proofs.Ytlajjjcfgjpjoaa.X
theorem rdt3 : Rd Try.prog 3 (Kd.int .i64) (fun n => (Lit.int .i64 n).wf = true) := rd_int Try.underlying3 (by kernel_rfl)
instance : Inhabited S87 := ⟨z87⟩
theorem rdt4 : Rd Try.prog 4 Kd.bool (fun _ => True) := rd_bool Try.underlying4 (by kernel_rfl)
def WF133 (x : S133) : Prop := True ∧ (Lit.int .i64 x.f1).wf = true ∧ (Lit.int .i64 x.f2).wf = true ∧ (Lit.int .i64 x.f3).wf = true ∧ (Lit.int .i64 x.f4).wf = true ∧ (Lit.int .i64 x.f5).wf = true ∧ (Lit.int .i64 x.f6).wf = true
theorem rdt133 : Rd Try.prog 133 k133 WF133 := rd_struct (fun x : S133 => (x.f0, x.f1, x.f2, x.f3, x.f4, x.f5, x.f6)) Try.underlying133 (by kernel_rfl) (fun y => ⟨⟨y.1, y.2.1, y.2.2.1, y.2.2.2.1, y.2.2.2.2.1, y.2.2.2.2.2.1, y.2.2.2.2.2.2⟩, rfl⟩) (rdf_cons rfl rdt4 (rdf_cons rfl rdt3 (rdf_cons rfl rdt3 (rdf_cons rfl rdt3 (rdf_cons rfl rdt3 (rdf_cons rfl rdt3 (rdf_one rfl rdt3)))))))
def WF50 (xs : (List S133)) : Prop := xs.length ≤ 9223372036854775807 ∧ ∀ x ∈ xs, WF133 x
instance : Inhabited S133 := ⟨z133⟩
theorem rdt50 : Rd Try.prog 50 (Kd.slice 133 k133) WF50 := rd_slice Try.underlying50 (by kernel_rfl) rdt133
structure S52 where
  f0 : (List S133)
def k52 : Kd S52 := Kd.iso (Kd.slice 133 k133) (fun x : S52 => x.f0)
theorem k52_open {w : World} {x : S52} {cs : List Value} (h : k52.K w x cs) : ∃ A0 c0, cs = [.slice A0 x.f0.length c0] ∧ x.f0.length ≤ c0 ∧ Kd.C k133 w A0 x.f0.length x.f0 := by
  obtain ⟨A0, c0, rfl, l0, g0⟩ := h
  exact ⟨A0, c0, rfl, l0, g0⟩
def WF52 (x : S52) : Prop := WF50 x.f0
theorem rdt52 : Rd Try.prog 52 k52 WF52 := rd_struct (fun x : S52 => x.f0) Try.underlying52 (by kernel_rfl) (fun y => ⟨⟨y⟩, rfl⟩) (rdf_one rfl rdt50)
instance : Inhabited S68 := ⟨z68⟩
end Go.Proofs.Ytlajjjcfgjpjoaa.Rd
namespace Go.Proofs.Ytlajjjcfgjpjoaa.Q
open Go.RowKit Go.Proofs.YtlajjjcfgjpjoaaW.PrintWords Go.Proofs.YtlajjjcfgjpjoaaW.PrintLast Go.Proofs.YtlajjjcfgjpjoaaW.PrintMore Go.Proofs.Ytlajjjcfgjpjoaa.X Go.Proofs.Ytlajjjcfgjpjoaa.Rd
set_option linter.unusedVariables false
set_option linter.unusedSimpArgs false
theorem wrap_id {x : Int} (h : -9223372036854775808 ≤ x) (h' : x ≤ 9223372036854775807) : wrap64 x = x := by
  unfold wrap64; omega
theorem wrap_succ {i n : Nat} (h : i < n) (hn : n ≤ 9223372036854775807) : wrap64 ((i : Int) + 1) = ((i + 1 : Nat) : Int) := by
  unfold wrap64; omega
theorem Ev.constOf {α : Type} {o : Option α} {r : α} (h : o = some r) : Ev (fun _ => o) r := ⟨0, fun _ _ => h⟩
theorem Ev.bindC {α β : Type} {o : Option α} {f : Nat → α → Option β} {a : α} {r : β} (h : o = some a) (k : Ev (fun n => f n a) r) : Ev (fun n => o.bind (f n)) r :=
  Ev.bind (Ev.constOf h) k
theorem Ev.ifT {α : Type} {c : Prop} [Decidable c] {g f : Nat → Option α} {r : α} (h : c) (k : Ev g r) : Ev (fun n => if c then g n else f n) r := by
  simpa only [if_pos h] using k
theorem Ev.ifF {α : Type} {c : Prop} [Decidable c] {g f : Nat → Option α} {r : α} (h : ¬ c) (k : Ev f r) : Ev (fun n => if c then g n else f n) r := by
  simpa only [if_neg h] using k
theorem getD_lt {α : Type} (xs : List α) {i : Nat} (d : α) (h : i < xs.length) : xs.getD i d = xs[i] := by
  rw [List.getD_eq_getElem?_getD, List.getElem?_eq_getElem h]; rfl
theorem take_succ_map {α β : Type} (f : α → β) (l : List α) (i : Nat) (h : i < l.length) : (l.take (i + 1)).map f = (l.take i).map f ++ [f l[i]] := by
  rw [List.take_succ_eq_append_getElem h, List.map_append]; rfl
theorem take_succ_append {α : Type} (l : List α) (i : Nat) (h : i < l.length) : l.take (i + 1) = l.take i ++ [l[i]] := List.take_succ_eq_append_getElem h
theorem upLoop {σ ρ : Type} (F : Nat → σ → Int → Option ρ) (n : Nat) (Inv : Nat → σ → Prop)
    (hs : ∀ i s, i < n → Inv i s → (∃ r, Ev (fun k => F k s i) r) ∨ ∃ s', Inv (i + 1) s' ∧ ∀ r, Ev (fun k => F k s' ((i + 1 : Nat) : Int)) r → Ev (fun k => F k s i) r)
    (he : ∀ s, Inv n s → ∃ r, Ev (fun k => F k s n) r) : ∀ (d i : Nat) s, i + d = n → Inv i s → ∃ r, Ev (fun k => F k s i) r := by
  intro d
  induction d with
  | zero => intro i s hi hv; obtain rfl : i = n := by omega
            exact he s hv
  | succ d ih =>
    intro i s hi hv
    rcases hs i s (by omega) hv with h | ⟨s', hv', h⟩
    · exact h
    · obtain ⟨r, hr⟩ := ih (i + 1) s' (by omega) hv'
      exact ⟨r, h r hr⟩
theorem mapLoop {A B : Type} (F : Nat → List A → List B → Int → Option (List B)) (g : Nat → A → Option B) (h : A → B) (dA : A)
    (hF : ∀ k x acc i, F (k + 1) x acc i = if i < (x.length : Int) then (if 0 ≤ i then ((g k (x.getD i.toNat dA)).bind fun b => if i < (acc.length : Int) then F k x (acc.set i.toNat b) (wrap64 (i + 1)) else none) else none) else some acc)
    (l : List A) (hl : l.length ≤ 9223372036854775807) (hg : ∀ x ∈ l, Ev (fun k => g k x) (h x)) (d : Nat) : ∀ (i : Nat) (acc : List B), i + d = l.length → acc.length = l.length → acc.take i = (l.take i).map h →
    Ev (fun k => F k l acc i) (l.map h) := by
  induction d with
  | zero =>
    intro i acc hi ha ht
    have : acc = l.map h := by
      rw [List.take_of_length_le (by omega), List.take_of_length_le (by omega)] at ht
      exact ht
    subst this
    refine Ev.step (f := fun _ => some (l.map h)) (fun k => ?_) (Ev.now _)
    rw [hF, if_neg (by omega)]
  | succ d ih =>
    intro i acc hi ha ht
    have hlt : i < l.length := by omega
    have hn := ih (i + 1) (acc.set i (h l[i])) (by omega) (by simpa using ha) (by
      rw [take_succ_map h l i hlt, take_succ_append _ i (by simp; omega), List.getElem_set_self, List.take_set_of_le (Nat.le_refl i), ht])
    refine Ev.step (f := fun k => (g k l[i]).bind fun b => F k l (acc.set i b) ((i + 1 : Nat) : Int)) (fun k => ?_) (Ev.bind (hg l[i] (List.getElem_mem hlt)) hn)
    rw [hF, if_pos (by omega), if_pos (by omega), Int.toNat_natCast, getD_lt l _ hlt, wrap_succ hlt hl]
    congr 1
    funext b
    rw [if_pos (by omega)]
theorem mapLoop0 {A B : Type} (F : Nat → List A → List B → Int → Option (List B)) (g : Nat → A → Option B) (h : A → B) (dA : A) (z : B)
    (hF : ∀ k x acc i, F (k + 1) x acc i = if i < (x.length : Int) then (if 0 ≤ i then ((g k (x.getD i.toNat dA)).bind fun b => if i < (acc.length : Int) then F k x (acc.set i.toNat b) (wrap64 (i + 1)) else none) else none) else some acc)
    (l : List A) (hl : l.length ≤ 9223372036854775807) (hg : ∀ x ∈ l, Ev (fun k => g k x) (h x)) : Ev (fun k => F k l (List.replicate l.length z) 0) (l.map h) :=
  mapLoop F g h dA hF l hl hg l.length 0 (List.replicate l.length z) (by omega) (by simp) (by simp)
theorem eqLoop {A : Type} (F : Nat → List A → List A → Int → Option Bool) (e : Nat → A → A → Option Bool) (dA : A)
    (hF : ∀ k x y i, F (k + 1) x y i = if i < (x.length : Int) then (if 0 ≤ i then (if i < (y.length : Int) then ((e k (x.getD i.toNat dA) (y.getD i.toNat dA)).bind fun t => if t = true then F k x y (wrap64 (i + 1)) else some false) else none) else none) else some true)
    (l : List A) (hl : l.length ≤ 9223372036854775807) (he : ∀ x ∈ l, Ev (fun k => e k x x) true) (d : Nat) : ∀ (i : Nat), i + d = l.length → Ev (fun k => F k l l i) true := by
  induction d with
  | zero =>
    intro i hi
    refine Ev.step (f := fun _ => some true) (fun k => ?_) (Ev.now _)
    rw [hF, if_neg (by omega)]
  | succ d ih =>
    intro i hi
    have hlt : i < l.length := by omega
    refine Ev.step (f := fun k => (e k l[i] l[i]).bind fun t => if t = true then F k l l ((i + 1 : Nat) : Int) else some false) (fun k => ?_) (Ev.bind (he l[i] (List.getElem_mem hlt)) ?_)
    · rw [hF, if_pos (by omega), if_pos (by omega), if_pos (by omega), Int.toNat_natCast, getD_lt l _ hlt, wrap_succ hlt hl]
    · exact Ev.ifT rfl (ih (i + 1) (by omega))
end Go.Proofs.Ytlajjjcfgjpjoaa.Q
namespace Go.Proofs.Ytlajjjcfgjpjoaa.Q
open Go.RowKit Go.Proofs.YtlajjjcfgjpjoaaW.PrintWords Go.Proofs.YtlajjjcfgjpjoaaW.PrintLast Go.Proofs.YtlajjjcfgjpjoaaW.PrintMore Go.Proofs.Ytlajjjcfgjpjoaa.X Go.Proofs.Ytlajjjcfgjpjoaa.Rd
set_option linter.unusedVariables false
set_option linter.unusedSimpArgs false
abbrev DomNL := S133
abbrev DomNI := S103
abbrev DomL := S52
def toDomNode (x : DomNL) : DomNI := ⟨x.f0, x.f1, x.f2, x.f3, x.f4, x.f5, x.f6⟩
theorem szDom_eq (l : List DomNL) (a : Int) (ha : 0 ≤ a) (ha' : a ≤ 1048576) (hl : l.length ≤ 9223372036854775807) :
    laws_szDom.f l a = some (if a < l.length then -1 else a - l.length) := by
  unfold laws_szDom.f laws_szDomNodeS.f
  rw [wrap_id (by omega) (by omega)]
  by_cases h : a < l.length
  · rw [if_pos (by omega), if_pos h, Option.bind_some, if_pos (by omega)]
  · rw [if_neg (by omega), if_neg h, Option.bind_some, if_neg (by omega)]
theorem toDom_ev (l : List DomNL) (hl : l.length ≤ 1048576) : Ev (fun k => laws_toDom.f k l) (l.map toDomNode) := by
  have h := mapLoop0 laws_toDomNodeS.l0 (fun _ x => some (toDomNode x)) toDomNode z133 z103
    (fun k x acc i => by simp only [laws_toDomNodeS.l0, laws_toDomNode.f, Option.bind_some, rd_T133, toDomNode]) l (by omega) (fun x _ => Ev.now _)
  unfold laws_toDom.f
  refine Ev.bind (Ev.congr (fun k => ?_) h) (Ev.now _)
  unfold laws_toDomNodeS.f
  rw [if_pos (by omega), if_pos (by omega), Int.toNat_natCast]
theorem eqDomNode_some (x : DomNI) : laws_eqDomNode.f x.f0 x.f1 x.f2 x.f3 x.f4 x.f5 x.f6 x.f0 x.f1 x.f2 x.f3 x.f4 x.f5 x.f6 = some true := by
  unfold laws_eqDomNode.f
  simp
theorem eqDom_ev (l : List DomNI) (hl : l.length ≤ 9223372036854775807) : Ev (fun k => laws_eqDom.f k l l) true := by
  have h := eqLoop laws_eqDomNodeS.l0 (fun _ x y => laws_eqDomNode.f x.f0 x.f1 x.f2 x.f3 x.f4 x.f5 x.f6 y.f0 y.f1 y.f2 y.f3 y.f4 y.f5 y.f6) z103 (fun k x y i => by simp only [laws_eqDomNodeS.l0, rd_T103]) l hl
    (fun x _ => Ev.constOf (eqDomNode_some x)) l.length 0 (by omega)
  unfold laws_eqDom.f
  refine Ev.bind (a := true) (Ev.congr (fun k => ?_) h) (Ev.ifT rfl (Ev.now _))
  unfold laws_eqDomNodeS.f
  rw [if_pos rfl]; rfl
end Go.Proofs.Ytlajjjcfgjpjoaa.Q
namespace Go.Proofs.Ytlajjjcfgjpjoaa.Q
open Go.RowKit Go.Proofs.YtlajjjcfgjpjoaaW.PrintWords Go.Proofs.YtlajjjcfgjpjoaaW.PrintLast Go.Proofs.YtlajjjcfgjpjoaaW.PrintMore Go.Proofs.Ytlajjjcfgjpjoaa.X Go.Proofs.Ytlajjjcfgjpjoaa.Rd
set_option linter.unusedVariables false
set_option linter.unusedSimpArgs false
theorem sameDom_same (a b : List DomNI) (hl : (a.length : Int) = b.length) (k : Nat) : ∀ (i : Int), impl_DomNode.l0 k a b a.length i = spec_SameDom.l0 k i a b := by
  induction k with
  | zero => intro i; simp only [impl_DomNode.l0, spec_SameDom.l0]
  | succ k ih =>
    intro i
    simp only [impl_DomNode.l0, spec_SameDom.l0, ih]
    by_cases h : i < (a.length : Int)
    · simp only [if_pos h]
    · simp only [if_neg h]
theorem specSameDom_ev (a b : List DomNI) (hm : a.length ≤ 1048576) : ∃ r, Ev (fun k => spec_SameDom.f k a b) r := by
  unfold spec_SameDom.f
  by_cases hl : (a.length : Int) = b.length
  · have h := upLoop (fun k (_ : Unit) i => spec_SameDom.l0 k i a b) a.length (fun _ _ => True) (fun i s hi _ => by
      have e : ∀ k, spec_SameDom.l0 (k + 1) i a b = if (!(a[i].f0 == (b[i]'(by omega)).f0) || (!(a[i].f1 == (b[i]'(by omega)).f1) || (!(a[i].f2 == (b[i]'(by omega)).f2) || (!(a[i].f3 == (b[i]'(by omega)).f3) || (!(a[i].f4 == (b[i]'(by omega)).f4) || (!(a[i].f5 == (b[i]'(by omega)).f5) || (!(a[i].f6 == (b[i]'(by omega)).f6)))))))) = true then some false else spec_SameDom.l0 k ((i + 1 : Nat) : Int) a b := by
        intro k
        simp only [spec_SameDom.l0]
        rw [if_pos (by omega), if_pos (by omega), if_pos (by omega), wrap_succ hi (by omega)]
        simp only [rd_T103, Int.toNat_natCast, getD_lt a _ hi, getD_lt b _ (show i < b.length by omega)]
      by_cases c : (!(a[i].f0 == (b[i]'(by omega)).f0) || (!(a[i].f1 == (b[i]'(by omega)).f1) || (!(a[i].f2 == (b[i]'(by omega)).f2) || (!(a[i].f3 == (b[i]'(by omega)).f3) || (!(a[i].f4 == (b[i]'(by omega)).f4) || (!(a[i].f5 == (b[i]'(by omega)).f5) || (!(a[i].f6 == (b[i]'(by omega)).f6)))))))) = true
      · exact .inl ⟨false, Ev.step (f := fun _ => some false) (fun k => by rw [e, if_pos c]) (Ev.now _)⟩
      · exact .inr ⟨(), trivial, fun r hr => Ev.step (fun k => by rw [e, if_neg c]) hr⟩)
      (fun s _ => ⟨true, Ev.step (f := fun _ => some true) (fun k => by simp only [spec_SameDom.l0]; rw [if_neg (by omega)]) (Ev.now _)⟩) a.length 0 () (by omega) trivial
    obtain ⟨r, hr⟩ := h
    exact ⟨r, Ev.ifT hl hr⟩
  · exact ⟨false, Ev.ifF hl (Ev.now _)⟩
theorem implSameDom_f (a b : List DomNI) (k : Nat) : impl_SameDom.f k a b = spec_SameDom.f k a b := by
  unfold impl_SameDom.f impl_DomNode.f spec_SameDom.f
  by_cases h : (a.length : Int) = b.length
  · rw [if_pos h, if_pos h, sameDom_same a b h]
    cases spec_SameDom.l0 k 0 a b <;> rfl
  · rw [if_neg h, if_neg h]; rfl
theorem FnExactSameDom (x : DomL) (w : WF52 x) (y : DomL) (w1 : WF52 y) : ∃ k, laws_FnExactSameDom.f k x.f0 y.f0 = some true := by
  refine Ev.rounds (g := fun k => laws_FnExactSameDom.f k x.f0 y.f0) ?_
  unfold laws_FnExactSameDom.f
  refine Ev.bindC (szDom_eq x.f0 _ (by omega) (by omega) w.1) ?_
  by_cases h : (1048576 : Int) < x.f0.length
  · rw [if_pos h]
    exact Ev.ifT (by omega) (Ev.now _)
  · rw [if_neg h]
    refine Ev.ifF (by omega) ?_
    refine Ev.bindC (szDom_eq y.f0 _ (by omega) (by omega) w1.1) ?_
    by_cases h1 : (1048576 : Int) - x.f0.length < y.f0.length
    · rw [if_pos h1]
      exact Ev.ifT (by omega) (Ev.now _)
    · rw [if_neg h1]
      refine Ev.ifF (by omega) ?_
      have t := toDom_ev x.f0 (by omega)
      have t1 := toDom_ev y.f0 (by omega)
      obtain ⟨b, s⟩ := specSameDom_ev (x.f0.map toDomNode) (y.f0.map toDomNode) (by simp; omega)
      have i : Ev (fun k => impl_SameDom.f k (x.f0.map toDomNode) (y.f0.map toDomNode)) b := Ev.congr (fun k => implSameDom_f _ _ k) s
      refine Ev.bind t (Ev.bind t1 (Ev.bind s (Ev.bind t (Ev.bind t1 (Ev.bind i (Ev.ifF (by simp) ?_))))))
      exact Ev.bind t (Ev.bind (eqDom_ev _ (by simp; omega)) (Ev.ifT rfl (Ev.bind t1 (Ev.bind (eqDom_ev _ (by simp; omega)) (Ev.ifT rfl (Ev.now _))))))
end Go.Proofs.Ytlajjjcfgjpjoaa.Q
