/- Part 4 of the proof of FnExactSameOps: what it needs. -/
import Derived.WalkKit
import Derived.ProofKit
import Derived.OpenShut
import Derived.ShutString
import Derived.ChangeOld
import Derived.Below
import Derived.Deep.Slices
import Derived.Test.YtmdokpbjgjljnaaKESameOps3
namespace Go.Proofs.Ytmdokpbjgjljnaa.Rd
open Go.ChangeShapes Go.WideShapes Go.ChangeAt Go.RowKit Go.Proofs.YtmdokpbjgjljnaaW.PrintWords
structure Rd (P : Program) (t : TypeId) {α : Type} (d : Kd α) (wf : α → Prop) : Prop where
  size : P.cellsOf t = d.sz
  reads : ∀ {H : Type} {enc : TypeId × Value → H} {w : World} {spare : Nat → Bool} {held : Bool} {fuel : Nat} {cs : List Value} {x : DataW H × List MemPlace},
    DataW.trod enc P w 0 spare held fuel t cs = some x → ∃ y, d.K w y cs ∧ wf y
theorem rd_int {P : Program} {t : TypeId} {k : IntKind} (ht : P.underlying t = some (.int k)) (hc : P.cellsOf t = 1) : Rd P t (Kd.int k) (fun n => (Lit.int k n).wf = true) :=
  ⟨hc, fun h => by
    obtain ⟨n, rfl, _, hw⟩ := DataW.trod_int ht h
    exact ⟨n, rfl, hw⟩⟩
theorem rd_slice {P : Program} {t e : TypeId} {α : Type} [Inhabited α] {d : Kd α} {wf : α → Prop} (ht : P.underlying t = some (.slice e)) (hc : P.cellsOf t = 1) (h : Rd P e d wf) : Rd P t (Kd.slice e d) (fun xs => xs.length ≤ 9223372036854775807 ∧ ∀ x ∈ xs, wf x) :=
  ⟨hc, fun {H enc w spare held fuel cs x} hx => by
    rcases Go.Deep.open_slice ht hx with ⟨rfl, _⟩ | ⟨a, len, cap, m, n, D, Pl, rfl, _, hl, hm, hmm, _, hel⟩
    · exact ⟨[], ⟨none, 0, rfl, Nat.le_refl _, rfl, by simp, fun h => absurd h (Nat.lt_irrefl _)⟩, by simp, by simp⟩
    · have hle : len ≤ m := by rw [hmm]; split <;> omega
      obtain ⟨f, hf⟩ := Go.Deep.choose_lt (n := len) (p := fun i (y : α) => ∃ cs', w.cells? 0 (a.add (i * P.cellsOf e)) (P.cellsOf e) = some cs' ∧ d.K w y cs' ∧ wf y) (fun i hi => by
        obtain ⟨cs', h1, h2⟩ := hel i (by omega)
        obtain ⟨y, hy, hw⟩ := h.reads h2
        exact ⟨y, cs', h1, hy, hw⟩)
      have hlen : ((List.range len).map f).length = len := by simp
      refine ⟨(List.range len).map f, ⟨some a, cap, by rw [hlen], by rw [hlen]; exact hl, ?_⟩, by rw [hlen]; unfold maxLen at hm; omega, ?_⟩
      · refine ⟨rfl, by rw [hlen]; unfold maxLen at hm; omega, fun _ => ⟨a, rfl, fun j p hj => ?_⟩⟩
        have hj' : j < len ∧ f j = p := by
          rw [List.getElem?_map] at hj
          obtain ⟨i, hi, hp⟩ := Option.map_eq_some_iff.1 hj
          have := List.getElem?_eq_some_iff.1 hi
          obtain ⟨h1, h2⟩ := this
          simp at h1 h2
          subst h2
          exact ⟨h1, hp⟩
        obtain ⟨cs', h1, h2, _⟩ := hf j hj'.1
        rw [hj'.2] at h2
        obtain ⟨_, hn, hcell⟩ := World.cells?_some h1
        refine ⟨cs', d.K_len h2, h2, fun i u hu => ?_⟩
        have hi : i < cs'.length := (List.getElem?_eq_some_iff.1 hu).1
        have := hcell i (by omega)
        rw [Go.Deep.add_add, h.size] at this
        rw [this, hu]
      · intro x hx
        obtain ⟨i, hi, rfl⟩ := List.mem_map.1 hx
        obtain ⟨_, _, _, hw⟩ := hf i (by simpa using hi)
        exact hw⟩
structure RdF (P : Program) (o : Nat) (fs : List Field) {α : Type} (d : Kd α) (wf : α → Prop) : Prop where
  reads : ∀ {H : Type} {enc : TypeId × Value → H} {w : World} {spare : Nat → Bool} {held : Bool} {fuel : Nat} {cs : List Value}, o + d.sz ≤ cs.length →
    (∀ f ∈ fs, ∃ x, DataW.trod enc P w 0 spare held fuel f.type ((cs.drop f.offset).take (P.cellsOf f.type)) = some x) → ∃ y, d.K w y ((cs.drop o).take d.sz) ∧ wf y
theorem rdf_one {P : Program} {o : Nat} {f : Field} {α : Type} {d : Kd α} {wf : α → Prop} (ho : f.offset = o) (h : Rd P f.type d wf) : RdF P o [f] d wf :=
  ⟨fun _ hf => by
    obtain ⟨x, hx⟩ := hf f (by simp)
    rw [ho, h.size] at hx
    exact h.reads hx⟩
theorem rdf_cons {P : Program} {o : Nat} {f : Field} {fs : List Field} {α β : Type} {d : Kd α} {d' : Kd β} {wf : α → Prop} {wf' : β → Prop} (ho : f.offset = o) (h : Rd P f.type d wf) (h' : RdF P (o + d.sz) fs d' wf') :
    RdF P o (f :: fs) (Kd.pair d d') (fun x => wf x.1 ∧ wf' x.2) :=
  ⟨fun {H enc w spare held fuel cs} hl hf => by
    have hl' : o + (d.sz + d'.sz) ≤ cs.length := hl
    obtain ⟨x, hx⟩ := hf f (by simp)
    rw [ho, h.size] at hx
    obtain ⟨y, hy, hw⟩ := h.reads hx
    obtain ⟨y', hy', hw'⟩ := h'.reads (cs := cs) (by omega) (fun g hg => hf g (by simp [hg]))
    refine ⟨(y, y'), ⟨_, _, ?_, hy, hy'⟩, hw, hw'⟩
    show (cs.drop o).take (d.sz + d'.sz) = _
    rw [List.take_add, List.drop_drop]⟩
theorem rd_struct {P : Program} {t : TypeId} {fs : Array Field} {α β : Type} {d : Kd α} {wf : α → Prop} (g : β → α) (ht : P.underlying t = some (.struct fs)) (hc : P.cellsOf t = d.sz) (hg : ∀ y, ∃ x, g x = y) (h : RdF P 0 fs.toList d wf) :
    Rd P t (Kd.iso d g) (fun x => wf (g x)) :=
  ⟨hc, fun {H enc w spare held fuel cs x} hx => by
    obtain ⟨xs, n, _, _, hl, hlen, hf⟩ := DataW.trod_struct ht hx
    obtain ⟨y, hy, hw⟩ := h.reads (enc := enc) (w := w) (spare := spare) (held := held) (fuel := n) (cs := cs) (by omega) (fun f hfm => by
      obtain ⟨i, hi, rfl⟩ := List.getElem_of_mem hfm
      have h1 : fs[i]? = some fs[i] := Array.getElem?_eq_getElem (by simpa using hi)
      have h2 := hf i _ h1
      have h3 : i < xs.length := by rw [hlen]; simpa using hi
      rw [List.getElem?_eq_getElem h3] at h2
      exact ⟨_, h2⟩)
    rw [List.drop_zero, List.take_of_length_le (by omega)] at hy
    obtain ⟨z, rfl⟩ := hg y
    exact ⟨z, hy, hw⟩⟩
theorem own : ownKnob Try.prog.godebug = none := by kernel_rfl
theorem laidOut : laidOutB Try.prog = true := by kernel_rfl
end Go.Proofs.Ytmdokpbjgjljnaa.Rd
namespace Go.Proofs.Ytmdokpbjgjljnaa.Rd
open Go.ChangeShapes Go.WideShapes Go.ChangeAt Go.RowKit Go.Proofs.YtmdokpbjgjljnaaW.PrintWords Go.Proofs.Ytmdokpbjgjljnaa.X
theorem rdt3 : Rd Try.prog 3 (Kd.int .i64) (fun n => (Lit.int .i64 n).wf = true) := rd_int Try.underlying3 (by kernel_rfl)
def WF45 (xs : (List Int)) : Prop := xs.length ≤ 9223372036854775807 ∧ ∀ x ∈ xs, (Lit.int .i64 x).wf = true
theorem rdt45 : Rd Try.prog 45 (Kd.slice 3 (Kd.int .i64)) WF45 := rd_slice Try.underlying45 (by kernel_rfl) rdt3
def WF61 (x : S61) : Prop := (Lit.int .i64 x.f0).wf = true ∧ WF45 x.f1 ∧ (Lit.int .i64 x.f2).wf = true ∧ (Lit.int .i64 x.f3).wf = true ∧ (Lit.int .i64 x.f4).wf = true
theorem rdt61 : Rd Try.prog 61 k61 WF61 := rd_struct (fun x : S61 => (x.f0, x.f1, x.f2, x.f3, x.f4)) Try.underlying61 (by kernel_rfl) (fun y => ⟨⟨y.1, y.2.1, y.2.2.1, y.2.2.2.1, y.2.2.2.2⟩, rfl⟩) (rdf_cons rfl rdt3 (rdf_cons rfl rdt45 (rdf_cons rfl rdt3 (rdf_cons rfl rdt3 (rdf_one rfl rdt3)))))
def WF22 (xs : (List S61)) : Prop := xs.length ≤ 9223372036854775807 ∧ ∀ x ∈ xs, WF61 x
instance : Inhabited S61 := ⟨z61⟩
theorem rdt22 : Rd Try.prog 22 (Kd.slice 61 k61) WF22 := rd_slice Try.underlying22 (by kernel_rfl) rdt61
instance : Inhabited S82 := ⟨z82⟩
end Go.Proofs.Ytmdokpbjgjljnaa.Rd
namespace Go.Proofs.Ytmdokpbjgjljnaa.Q
open Go.RowKit Go.Proofs.YtmdokpbjgjljnaaW.PrintWords Go.Proofs.YtmdokpbjgjljnaaW.PrintLast Go.Proofs.YtmdokpbjgjljnaaW.PrintMore Go.Proofs.Ytmdokpbjgjljnaa.X Go.Proofs.Ytmdokpbjgjljnaa.Rd
set_option linter.unusedVariables false
set_option linter.unusedSimpArgs false
theorem wrap_id {x : Int} (h : -9223372036854775808 ≤ x) (h' : x ≤ 9223372036854775807) : wrap64 x = x := by
  unfold wrap64; omega
theorem wrap_succ {i n : Nat} (h : i < n) (hn : n ≤ 9223372036854775807) : wrap64 ((i : Int) + 1) = ((i + 1 : Nat) : Int) := by
  unfold wrap64; omega
theorem Ev.ifT {α : Type} {c : Prop} [Decidable c] {g f : Nat → Option α} {r : α} (h : c) (k : Ev g r) : Ev (fun n => if c then g n else f n) r := by
  simpa only [if_pos h] using k
theorem Ev.ifF {α : Type} {c : Prop} [Decidable c] {g f : Nat → Option α} {r : α} (h : ¬ c) (k : Ev f r) : Ev (fun n => if c then g n else f n) r := by
  simpa only [if_neg h] using k
theorem getD_lt {α : Type} (xs : List α) {i : Nat} (d : α) (h : i < xs.length) : xs.getD i d = xs[i] := by
  rw [List.getD_eq_getElem?_getD, List.getElem?_eq_getElem h]; rfl
theorem take_succ_map {α β : Type} (f : α → β) (l : List α) (i : Nat) (h : i < l.length) : (l.take (i + 1)).map f = (l.take i).map f ++ [f l[i]] := by
  rw [List.take_succ_eq_append_getElem h, List.map_append]; rfl
theorem take_succ_append {α : Type} (l : List α) (i : Nat) (h : i < l.length) : l.take (i + 1) = l.take i ++ [l[i]] := List.take_succ_eq_append_getElem h
theorem mapLoop {A B : Type} (F : Nat → List A → List B → Int → Option (List B)) (g : Nat → A → Option B) (h : A → B) (dA : A)
    (hF : ∀ k x acc i, F (k + 1) x acc i = if i < (x.length : Int) then (if 0 ≤ i then ((g k (x.getD i.toNat dA)).bind fun b => if i < (acc.length : Int) then F k x (acc.set i.toNat b) (wrap64 (i + 1)) else none) else none) else some acc)
    (l : List A) (hl : l.length ≤ 9223372036854775807) (hg : ∀ x ∈ l, Ev (fun k => g k x) (h x)) (d : Nat) : ∀ (i : Nat) (acc : List B), i + d = l.length → acc.length = l.length → acc.take i = (l.take i).map h →
    Ev (fun k => F k l acc i) (l.map h) := by
  induction d with
  | zero =>
    intro i acc hi ha ht
    have : acc = l.map h := by
      rw [List.take_of_length_le (by omega), List.take_of_length_le (by omega)] at ht
      exact ht
    subst this
    refine Ev.step (f := fun _ => some (l.map h)) (fun k => ?_) (Ev.now _)
    rw [hF, if_neg (by omega)]
  | succ d ih =>
    intro i acc hi ha ht
    have hlt : i < l.length := by omega
    have hn := ih (i + 1) (acc.set i (h l[i])) (by omega) (by simpa using ha) (by
      rw [take_succ_map h l i hlt, take_succ_append _ i (by simp; omega), List.getElem_set_self, List.take_set_of_le (Nat.le_refl i), ht])
    refine Ev.step (f := fun k => (g k l[i]).bind fun b => F k l (acc.set i b) ((i + 1 : Nat) : Int)) (fun k => ?_) (Ev.bind (hg l[i] (List.getElem_mem hlt)) hn)
    rw [hF, if_pos (by omega), if_pos (by omega), Int.toNat_natCast, getD_lt l _ hlt, wrap_succ hlt hl]
    congr 1
    funext b
    rw [if_pos (by omega)]
theorem mapLoop0 {A B : Type} (F : Nat → List A → List B → Int → Option (List B)) (g : Nat → A → Option B) (h : A → B) (dA : A) (z : B)
    (hF : ∀ k x acc i, F (k + 1) x acc i = if i < (x.length : Int) then (if 0 ≤ i then ((g k (x.getD i.toNat dA)).bind fun b => if i < (acc.length : Int) then F k x (acc.set i.toNat b) (wrap64 (i + 1)) else none) else none) else some acc)
    (l : List A) (hl : l.length ≤ 9223372036854775807) (hg : ∀ x ∈ l, Ev (fun k => g k x) (h x)) : Ev (fun k => F k l (List.replicate l.length z) 0) (l.map h) :=
  mapLoop F g h dA hF l hl hg l.length 0 (List.replicate l.length z) (by omega) (by simp) (by simp)
theorem eqLoop {A : Type} (F : Nat → List A → List A → Int → Option Bool) (e : Nat → A → A → Option Bool) (dA : A)
    (hF : ∀ k x y i, F (k + 1) x y i = if i < (x.length : Int) then (if 0 ≤ i then (if i < (y.length : Int) then ((e k (x.getD i.toNat dA) (y.getD i.toNat dA)).bind fun t => if t = true then F k x y (wrap64 (i + 1)) else some false) else none) else none) else some true)
    (l : List A) (hl : l.length ≤ 9223372036854775807) (he : ∀ x ∈ l, Ev (fun k => e k x x) true) (d : Nat) : ∀ (i : Nat), i + d = l.length → Ev (fun k => F k l l i) true := by
  induction d with
  | zero =>
    intro i hi
    refine Ev.step (f := fun _ => some true) (fun k => ?_) (Ev.now _)
    rw [hF, if_neg (by omega)]
  | succ d ih =>
    intro i hi
    have hlt : i < l.length := by omega
    refine Ev.step (f := fun k => (e k l[i] l[i]).bind fun t => if t = true then F k l l ((i + 1 : Nat) : Int) else some false) (fun k => ?_) (Ev.bind (he l[i] (List.getElem_mem hlt)) ?_)
    · rw [hF, if_pos (by omega), if_pos (by omega), if_pos (by omega), Int.toNat_natCast, getD_lt l _ hlt, wrap_succ hlt hl]
    · exact Ev.ifT rfl (ih (i + 1) (by omega))
end Go.Proofs.Ytmdokpbjgjljnaa.Q
namespace Go.Proofs.Ytmdokpbjgjljnaa.Q
open Go.RowKit Go.Proofs.YtmdokpbjgjljnaaW.PrintWords Go.Proofs.YtmdokpbjgjljnaaW.PrintLast Go.Proofs.YtmdokpbjgjljnaaW.PrintMore Go.Proofs.Ytmdokpbjgjljnaa.X Go.Proofs.Ytmdokpbjgjljnaa.Rd
set_option linter.unusedVariables false
set_option linter.unusedSimpArgs false
theorem toIntS_ev (l : List Int) (hl : l.length ≤ 1048576) : Ev (fun k => laws_toIntS.f k l) l := by
  have h := mapLoop0 laws_toIntS.l0 (fun _ x => some x) (fun x => x) 0 0 (fun k x acc i => by simp only [laws_toIntS.l0, Option.bind_some, rd]) l (by omega) (fun x _ => Ev.now x)
  rw [List.map_id'] at h
  refine Ev.congr (fun k => ?_) h
  unfold laws_toIntS.f
  rw [if_pos (by omega), if_pos (by omega), Int.toNat_natCast]
theorem eqIntS_ev (l : List Int) (hl : l.length ≤ 9223372036854775807) : Ev (fun k => laws_eqIntS.f k l l) true := by
  have h := eqLoop laws_eqIntS.l0 (fun _ x y => some (decide (x = y))) 0 (fun k x y i => by
    simp only [laws_eqIntS.l0, Option.bind_some, rd]
    by_cases h : x.getD i.toNat 0 = y.getD i.toNat 0
    · simp only [h, decide_true, if_true]
    · simp only [h, decide_false, if_false, Bool.false_eq_true]) l hl (fun x _ => by simpa using Ev.now true) l.length 0 (by omega)
  refine Ev.congr (fun k => ?_) h
  unfold laws_eqIntS.f
  rw [if_pos rfl]; rfl
end Go.Proofs.Ytmdokpbjgjljnaa.Q
namespace Go.Proofs.Ytmdokpbjgjljnaa.Q
open Go.RowKit Go.Proofs.YtmdokpbjgjljnaaW.PrintWords Go.Proofs.YtmdokpbjgjljnaaW.PrintLast Go.Proofs.YtmdokpbjgjljnaaW.PrintMore Go.Proofs.Ytmdokpbjgjljnaa.X Go.Proofs.Ytmdokpbjgjljnaa.Rd
set_option linter.unusedVariables false
set_option linter.unusedSimpArgs false
theorem szIntS_eq (l : List Int) (a : Int) (ha : 0 ≤ a) (ha' : a ≤ 1048576) (hl : l.length ≤ 9223372036854775807) :
    laws_szIntS.f l a = some (if a < l.length then -1 else a - l.length) := by
  unfold laws_szIntS.f
  rw [wrap_id (by omega) (by omega)]
  by_cases h : a < l.length
  · rw [if_pos (by omega), if_pos h]
  · rw [if_neg (by omega), if_neg h]
end Go.Proofs.Ytmdokpbjgjljnaa.Q
namespace Go.Proofs.Ytmdokpbjgjljnaa.Q
open Go.RowKit Go.Proofs.YtmdokpbjgjljnaaW.PrintWords Go.Proofs.YtmdokpbjgjljnaaW.PrintLast Go.Proofs.YtmdokpbjgjljnaaW.PrintMore Go.Proofs.Ytmdokpbjgjljnaa.X Go.Proofs.Ytmdokpbjgjljnaa.Rd
abbrev OpI := S47
end Go.Proofs.Ytmdokpbjgjljnaa.Q
namespace Go.Proofs.Ytmdokpbjgjljnaa.Q
open Go.RowKit Go.Proofs.YtmdokpbjgjljnaaW.PrintWords Go.Proofs.YtmdokpbjgjljnaaW.PrintLast Go.Proofs.YtmdokpbjgjljnaaW.PrintMore Go.Proofs.Ytmdokpbjgjljnaa.X Go.Proofs.Ytmdokpbjgjljnaa.Rd
set_option linter.unusedVariables false
set_option linter.unusedSimpArgs false
abbrev OpL := S61
def toOp (x : OpL) : OpI := ⟨x.f0, x.f1, x.f2, x.f3, x.f4⟩
theorem szOp_eq (x : OpL) (a : Int) (ha : 0 ≤ a) (ha' : a ≤ 1048576) (hl : x.f1.length ≤ 9223372036854775807) :
    laws_szOp.f x.f0 x.f1 x.f2 x.f3 x.f4 a = some (if a < x.f1.length then -1 else a - x.f1.length) := by
  unfold laws_szOp.f
  rw [szIntS_eq _ _ ha ha' hl, Option.bind_some]
  by_cases h : a < x.f1.length
  · rw [if_pos h, if_pos (by omega)]
  · rw [if_neg h, if_neg (by omega)]
theorem szOpS_l (l : List OpL) (hl : l.length ≤ 1048576) (hw : ∀ x ∈ l, x.f1.length ≤ 9223372036854775807) (d : Nat) : ∀ (i : Nat) (a : Int), i + d = l.length → 0 ≤ a → a ≤ 1048576 →
    ∃ r, Ev (fun k => laws_szOpS.l0 k l a i) r ∧ (r = -1 ∨ (0 ≤ r ∧ r ≤ a ∧ ∀ j, i ≤ j → (h : j < l.length) → (l[j].f1.length : Int) + r ≤ a)) := by
  induction d with
  | zero =>
    intro i a hi h0 h1
    refine ⟨a, Ev.step (f := fun _ => some a) (fun k => ?_) (Ev.now _), .inr ⟨h0, by omega, fun j hj h => by omega⟩⟩
    simp only [laws_szOpS.l0]
    rw [if_neg (by omega)]
  | succ d ih =>
    intro i a hi h0 h1
    have hlt : i < l.length := by omega
    have hs : ∀ k, laws_szOpS.l0 (k + 1) l a i = (if a < l[i].f1.length then some (-1) else laws_szOpS.l0 k l (a - l[i].f1.length) ((i + 1 : Nat) : Int)) := by
      intro k
      simp only [laws_szOpS.l0]
      rw [if_pos (by omega), if_pos (by omega), wrap_succ hlt (by omega)]
      simp only [rd_T61, Int.toNat_natCast, getD_lt l _ hlt]
      rw [szOp_eq _ _ h0 h1 (hw _ (List.getElem_mem hlt)), Option.bind_some]
      by_cases h : a < l[i].f1.length
      · rw [if_pos h, if_pos (by omega), if_pos h]
      · rw [if_neg h, if_neg (by omega), if_neg h]
    by_cases h : a < l[i].f1.length
    · refine ⟨-1, Ev.step (f := fun _ => some (-1)) (fun k => ?_) (Ev.now _), .inl rfl⟩
      rw [hs, if_pos h]
    · obtain ⟨r, hr, hp⟩ := ih (i + 1) (a - l[i].f1.length) (by omega) (by omega) (by omega)
      refine ⟨r, Ev.step (f := fun k => laws_szOpS.l0 k l (a - l[i].f1.length) ((i + 1 : Nat) : Int)) (fun k => ?_) hr, ?_⟩
      · rw [hs, if_neg h]
      · rcases hp with hp | ⟨p0, p1, p2⟩
        · exact .inl hp
        · refine .inr ⟨p0, by omega, fun j hj h' => ?_⟩
          by_cases e : j = i
          · subst e; omega
          · have := p2 j (by omega) h'
            omega
theorem szOpS_ev (l : List OpL) (a : Int) (ha : 0 ≤ a) (ha' : a ≤ 1048576) (hl : l.length ≤ 9223372036854775807) (hw : ∀ x ∈ l, x.f1.length ≤ 9223372036854775807) :
    ∃ r, Ev (fun k => laws_szOpS.f k l a) r ∧ (r = -1 ∨ (0 ≤ r ∧ (l.length : Int) + r ≤ a ∧ ∀ x ∈ l, x.f1.length ≤ 1048576)) := by
  unfold laws_szOpS.f
  rw [wrap_id (by omega) (by omega)]
  by_cases h : a < l.length
  · exact ⟨-1, Ev.ifT (by omega) (Ev.now _), .inl rfl⟩
  · obtain ⟨r, hr, hp⟩ := szOpS_l l (by omega) hw l.length 0 (a - l.length) (by omega) (by omega) (by omega)
    refine ⟨r, Ev.ifF (by omega) hr, ?_⟩
    rcases hp with hp | ⟨p0, p1, p2⟩
    · exact .inl hp
    · refine .inr ⟨p0, by omega, fun x hx => ?_⟩
      obtain ⟨j, hj, rfl⟩ := List.getElem_of_mem hx
      have := p2 j (by omega) hj
      omega
theorem toOp_ev (x : OpL) (h : x.f1.length ≤ 1048576) : Ev (fun k => laws_toOp.f k x.f0 x.f1 x.f2 x.f3 x.f4) (x.f0, x.f1, x.f2, x.f3, x.f4) := by
  unfold laws_toOp.f
  exact Ev.bind (toIntS_ev _ h) (Ev.now _)
theorem toOpS_ev (l : List OpL) (hl : l.length ≤ 1048576) (hw : ∀ x ∈ l, x.f1.length ≤ 1048576) : Ev (fun k => laws_toOpS.f k l) (l.map toOp) := by
  have h := mapLoop0 laws_toOpS.l0 (fun k x => (laws_toOp.f k x.f0 x.f1 x.f2 x.f3 x.f4).bind fun b => some (⟨b.1, b.2.1, b.2.2.1, b.2.2.2.1, b.2.2.2.2⟩ : OpI)) toOp z61 z47
    (fun k x acc i => by simp only [laws_toOpS.l0, Option.bind_assoc, Option.bind_some, rd_T61]) l (by omega) (fun x hx => Ev.bind (toOp_ev x (hw x hx)) (Ev.now _))
  refine Ev.congr (fun k => ?_) h
  unfold laws_toOpS.f
  rw [if_pos (by omega), if_pos (by omega), Int.toNat_natCast]
theorem eqOp_ev (x : OpI) (h : x.f1.length ≤ 9223372036854775807) : Ev (fun k => laws_eqOp.f k x.f0 x.f1 x.f2 x.f3 x.f4 x.f0 x.f1 x.f2 x.f3 x.f4) true := by
  unfold laws_eqOp.f
  exact Ev.ifT rfl (Ev.bind (eqIntS_ev _ h) (Ev.ifT rfl (Ev.ifT rfl (Ev.ifT rfl (Ev.ifT rfl (Ev.now _))))))
theorem eqOpS_ev (l : List OpI) (hl : l.length ≤ 9223372036854775807) (hw : ∀ x ∈ l, x.f1.length ≤ 9223372036854775807) : Ev (fun k => laws_eqOpS.f k l l) true := by
  have h := eqLoop laws_eqOpS.l0 (fun k x y => laws_eqOp.f k x.f0 x.f1 x.f2 x.f3 x.f4 y.f0 y.f1 y.f2 y.f3 y.f4) z47 (fun k x y i => by simp only [laws_eqOpS.l0, rd_T47]) l hl (fun x hx => eqOp_ev x (hw x hx)) l.length 0 (by omega)
  refine Ev.congr (fun k => ?_) h
  unfold laws_eqOpS.f
  rw [if_pos rfl]; rfl
theorem toOp_mem (l : List OpL) (hw : ∀ x ∈ l, x.f1.length ≤ 1048576) : ∀ x ∈ l.map toOp, x.f1.length ≤ 1048576 := by
  intro x hx
  obtain ⟨y, hy, rfl⟩ := List.mem_map.1 hx
  exact hw y hy
end Go.Proofs.Ytmdokpbjgjljnaa.Q
namespace Go.Proofs.Ytmdokpbjgjljnaa.Q
open Go.RowKit Go.Proofs.YtmdokpbjgjljnaaW.PrintWords Go.Proofs.YtmdokpbjgjljnaaW.PrintLast Go.Proofs.YtmdokpbjgjljnaaW.PrintMore Go.Proofs.Ytmdokpbjgjljnaa.X Go.Proofs.Ytmdokpbjgjljnaa.Rd
set_option linter.unusedVariables false
set_option linter.unusedSimpArgs false
def eqIL : List Int → List Int → Bool
  | x :: xs, y :: ys => if x = y then eqIL xs ys else false
  | _, _ => true
def intsB (a b : List Int) : Bool := if a.length = b.length then eqIL a b else false
theorem rd_nat (l : List Int) {j : Nat} (h : j < l.length) : rd l (j : Int) = l[j] := by
  unfold rd; rw [Int.toNat_natCast, List.getD_eq_getElem?_getD, List.getElem?_eq_getElem h]; rfl
theorem eqIL_step {a b : List Int} {j : Nat} (ha : j < a.length) (hb : j < b.length) : eqIL (a.drop j) (b.drop j) = if a[j] = b[j] then eqIL (a.drop (j + 1)) (b.drop (j + 1)) else false := by
  rw [List.drop_eq_getElem_cons ha, List.drop_eq_getElem_cons hb]; rfl
theorem implEqInt_l {a b : List Int} (hl : a.length = b.length) (hm : a.length ≤ 1048576) (e : Nat) : ∀ j : Nat, j + e = a.length → Ev (fun k => slices_Equal_int_int.l0 k a b (a.length : Int) (j : Int)) (eqIL (a.drop j) (b.drop j)) := by
  induction e with
  | zero =>
    intro j hj
    refine Ev.step (fun _ => rfl) ?_
    simp only [slices_Equal_int_int.l0]
    rw [List.drop_of_length_le (by omega), List.drop_of_length_le (by omega)]
    exact Ev.ifF (by omega) (Ev.now _)
  | succ e ih =>
    intro j hj
    have hlt : j < a.length := by omega
    refine Ev.step (fun _ => rfl) ?_
    simp only [slices_Equal_int_int.l0, rd_nat a hlt, rd_nat b (show j < b.length by omega), wrap_succ hlt (by omega)]
    rw [eqIL_step hlt (show j < b.length by omega)]
    refine Ev.ifT (by omega) (Ev.ifT (by omega) (Ev.ifT (by omega) (Ev.ifT (by omega) ?_)))
    by_cases c : a[j] = b[j]
    · rw [if_pos c]; exact Ev.ifT c (ih (j + 1) (by omega))
    · rw [if_neg c]; exact Ev.ifF c (Ev.now _)
theorem implEqInt_ev {a b : List Int} (hm : a.length ≤ 1048576) : Ev (fun k => slices_Equal_int_int.f k a b) (intsB a b) := by
  unfold slices_Equal_int_int.f intsB
  by_cases c : a.length = b.length
  · rw [if_pos c]; exact Ev.ifT (by omega) (implEqInt_l c hm a.length 0 (Nat.zero_add _))
  · rw [if_neg c]; exact Ev.ifF (by omega) (Ev.now _)
theorem specEqInt_l {a b : List Int} (hl : a.length = b.length) (hm : a.length ≤ 1048576) (e : Nat) : ∀ j : Nat, j + e = a.length → Ev (fun k => spec_l7Same.l0 k a b (j : Int)) (eqIL (a.drop j) (b.drop j)) := by
  induction e with
  | zero =>
    intro j hj
    refine Ev.step (fun _ => rfl) ?_
    simp only [spec_l7Same.l0]
    rw [List.drop_of_length_le (by omega), List.drop_of_length_le (by omega)]
    exact Ev.ifF (by omega) (Ev.now _)
  | succ e ih =>
    intro j hj
    have hlt : j < a.length := by omega
    refine Ev.step (fun _ => rfl) ?_
    simp only [spec_l7Same.l0, rd_nat a hlt, rd_nat b (show j < b.length by omega), wrap_succ hlt (by omega)]
    rw [eqIL_step hlt (show j < b.length by omega)]
    refine Ev.ifT (by omega) (Ev.ifT (by omega) (Ev.ifT (by omega) ?_))
    by_cases c : a[j] = b[j]
    · rw [if_pos c]; exact Ev.ifT c (ih (j + 1) (by omega))
    · rw [if_neg c]; exact Ev.ifF c (Ev.now _)
theorem specEqInt_ev {a b : List Int} (hm : a.length ≤ 1048576) : Ev (fun k => spec_l7Same.f k a b) (intsB a b) := by
  unfold spec_l7Same.f intsB
  by_cases c : a.length = b.length
  · rw [if_pos c]; exact Ev.ifT (by omega) (specEqInt_l c hm a.length 0 (Nat.zero_add _))
  · rw [if_neg c]; exact Ev.ifF (by omega) (Ev.now _)
def opB (x y : OpI) : Bool := if x.f0 = y.f0 then if x.f2 = y.f2 then if x.f3 = y.f3 then if x.f4 = y.f4 then intsB x.f1 y.f1 else false else false else false else false
def opsGo : List OpI → List OpI → Bool
  | x :: xs, y :: ys => if opB x y = true then opsGo xs ys else false
  | _, _ => true
def opsB (a b : List OpI) : Bool := if a.length = b.length then opsGo a b else false
theorem sameF_ev {x y : OpI} (hx : x.f1.length ≤ 1048576) : Ev (fun k => sameF k x y) (opB x y) := by
  unfold sameF opB
  by_cases c0 : x.f0 = y.f0
  · rw [if_pos c0]
    by_cases c2 : x.f2 = y.f2
    · rw [if_pos c2]
      by_cases c3 : x.f3 = y.f3
      · rw [if_pos c3]
        by_cases c4 : x.f4 = y.f4
        · rw [if_pos c4]; exact Ev.ifT c0 (Ev.ifT c2 (Ev.ifT c3 (Ev.ifT c4 (implEqInt_ev hx))))
        · rw [if_neg c4]; exact Ev.ifT c0 (Ev.ifT c2 (Ev.ifT c3 (Ev.ifF c4 (Ev.now _))))
      · rw [if_neg c3]; exact Ev.ifT c0 (Ev.ifT c2 (Ev.ifF c3 (Ev.now _)))
    · rw [if_neg c2]; exact Ev.ifT c0 (Ev.ifF c2 (Ev.now _))
  · rw [if_neg c0]; exact Ev.ifF c0 (Ev.now _)
theorem sameGo_ev (a : List OpI) (ha : ∀ x ∈ a, x.f1.length ≤ 1048576) : ∀ b, Ev (fun k => sameGo k a b) (opsGo a b) := by
  induction a with
  | nil => intro b; simp only [sameGo, opsGo]; exact Ev.now _
  | cons x xs ih =>
    intro b
    cases b with
    | nil => simp only [sameGo, opsGo]; exact Ev.now _
    | cons y ys =>
      simp only [sameGo, opsGo]
      refine Ev.bind (sameF_ev (ha x List.mem_cons_self)) ?_
      by_cases c : opB x y = true
      · rw [if_pos c]; exact Ev.ifT c (ih (fun z hz => ha z (List.mem_cons_of_mem _ hz)) ys)
      · rw [if_neg c]; exact Ev.ifF c (Ev.now _)
theorem implSameOps_ev (a b : List OpI) (ha : ∀ x ∈ a, x.f1.length ≤ 1048576) : Ev (fun k => impl_SameOps.f k a b) (opsB a b) := by
  unfold impl_SameOps.f opsB
  by_cases c : a.length = b.length
  · rw [if_pos c]; exact Ev.ifT c (sameGo_ev a ha b)
  · rw [if_neg c]; exact Ev.ifF c (Ev.now _)
theorem specSame15_ev {x y : OpI} (hx : x.f1.length ≤ 1048576) : Ev (fun k => spec_l15Same.f k x.f0 x.f1 x.f2 x.f3 x.f4 y.f0 y.f1 y.f2 y.f3 y.f4) (opB x y) := by
  unfold spec_l15Same.f
  by_cases c0 : x.f0 = y.f0
  · refine Ev.ifT c0 (Ev.bind (specEqInt_ev hx) ?_)
    by_cases c1 : intsB x.f1 y.f1 = true
    · refine Ev.ifT c1 ?_
      by_cases c2 : x.f2 = y.f2
      · refine Ev.ifT c2 ?_
        by_cases c3 : x.f3 = y.f3
        · refine Ev.ifT c3 ?_
          by_cases c4 : x.f4 = y.f4
          · have hb : opB x y = true := by unfold opB; rw [if_pos c0, if_pos c2, if_pos c3, if_pos c4, c1]
            rw [hb, show (x.f4 == y.f4) = true from beq_iff_eq.2 c4]; exact Ev.now _
          · have hb : opB x y = false := by unfold opB; rw [if_pos c0, if_pos c2, if_pos c3, if_neg c4]
            rw [hb, show (x.f4 == y.f4) = false from beq_eq_false_iff_ne.2 c4]; exact Ev.now _
        · have hb : opB x y = false := by unfold opB; rw [if_pos c0, if_pos c2, if_neg c3]
          rw [hb]; exact Ev.ifF c3 (Ev.now _)
      · have hb : opB x y = false := by unfold opB; rw [if_pos c0, if_neg c2]
        rw [hb]; exact Ev.ifF c2 (Ev.now _)
    · have h : intsB x.f1 y.f1 = false := by simpa using c1
      have hb : opB x y = false := by
        unfold opB
        rw [h, if_pos c0]
        split
        · split
          · split <;> rfl
          · rfl
        · rfl
      rw [hb]; exact Ev.ifF c1 (Ev.now _)
  · have hb : opB x y = false := by unfold opB; rw [if_neg c0]
    rw [hb]; exact Ev.ifF c0 (Ev.now _)
theorem specSameOps_l {a b : List OpI} (hl : a.length = b.length) (hm : a.length ≤ 1048576) (ha : ∀ x ∈ a, x.f1.length ≤ 1048576) (e : Nat) : ∀ j : Nat, j + e = a.length → Ev (fun k => spec_SameOps.l0 k a b (j : Int)) (opsGo (a.drop j) (b.drop j)) := by
  induction e with
  | zero =>
    intro j hj
    refine Ev.step (fun _ => rfl) ?_
    simp only [spec_SameOps.l0]
    rw [List.drop_of_length_le (by omega), List.drop_of_length_le (by omega)]
    exact Ev.ifF (by omega) (Ev.now _)
  | succ e ih =>
    intro j hj
    have hlt : j < a.length := by omega
    have hlb : j < b.length := by omega
    refine Ev.step (fun _ => rfl) ?_
    simp only [spec_SameOps.l0, rd_op a hlt, rd_op b hlb, wrap_succ hlt (by omega)]
    rw [List.drop_eq_getElem_cons hlt, List.drop_eq_getElem_cons hlb]
    simp only [opsGo]
    refine Ev.ifT (by omega) (Ev.ifT (by omega) (Ev.ifT (by omega) (Ev.bind (specSame15_ev (ha _ (List.getElem_mem hlt))) ?_)))
    by_cases c : opB a[j] b[j] = true
    · rw [if_pos c]; exact Ev.ifT c (ih (j + 1) (by omega))
    · rw [if_neg c]; exact Ev.ifF c (Ev.now _)
theorem specSameOps_ev {a b : List OpI} (hm : a.length ≤ 1048576) (ha : ∀ x ∈ a, x.f1.length ≤ 1048576) : Ev (fun k => spec_SameOps.f k a b) (opsB a b) := by
  unfold spec_SameOps.f opsB
  by_cases c : a.length = b.length
  · rw [if_pos c]; exact Ev.ifT (by omega) (specSameOps_l c hm ha a.length 0 (Nat.zero_add _))
  · rw [if_neg c]; exact Ev.ifF (by omega) (Ev.now _)
theorem FnExactSameOps (a : List OpL) (wa : WF22 a) (b : List OpL) (wb : WF22 b) : ∃ k, laws_FnExactSameOps.f k a b = some true := by
  refine Ev.rounds (g := fun k => laws_FnExactSameOps.f k a b) ?_
  unfold laws_FnExactSameOps.f
  obtain ⟨r, hr, hp⟩ := szOpS_ev a 1048576 (by omega) (by omega) wa.1 (fun x hx => (wa.2 x hx).2.1.1)
  refine Ev.bind hr ?_
  rcases hp with rfl | ⟨p0, p1, p2⟩
  · exact Ev.ifT (by omega) (Ev.now _)
  refine Ev.ifF (by omega) ?_
  obtain ⟨r2, hr2, hp2⟩ := szOpS_ev b r (by omega) (by omega) wb.1 (fun x hx => (wb.2 x hx).2.1.1)
  refine Ev.bind hr2 ?_
  rcases hp2 with rfl | ⟨q0, q1, q2⟩
  · exact Ev.ifT (by omega) (Ev.now _)
  refine Ev.ifF (by omega) ?_
  have ta := toOpS_ev a (by omega) p2
  have tb := toOpS_ev b (by omega) q2
  have ma := toOp_mem a p2
  have mb := toOp_mem b q2
  have la : (a.map toOp).length = a.length := by simp
  have lb : (b.map toOp).length = b.length := by simp
  have s := specSameOps_ev (a := a.map toOp) (b := b.map toOp) (by omega) ma
  have i := implSameOps_ev (a.map toOp) (b.map toOp) ma
  have ea := eqOpS_ev (a.map toOp) (by omega) (fun x hx => by have := ma x hx; omega)
  have eb := eqOpS_ev (b.map toOp) (by omega) (fun x hx => by have := mb x hx; omega)
  exact Ev.bind ta (Ev.bind tb (Ev.bind s (Ev.bind ta (Ev.bind tb (Ev.bind i (Ev.ifF (by simp) (Ev.bind ta (Ev.bind ea (Ev.ifT rfl (Ev.bind tb (Ev.bind eb (Ev.ifT rfl (Ev.now _)))))))))))))
end Go.Proofs.Ytmdokpbjgjljnaa.Q
