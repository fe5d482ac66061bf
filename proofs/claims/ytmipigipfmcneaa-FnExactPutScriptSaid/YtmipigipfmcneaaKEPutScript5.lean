/- Part 5 of the proof of FnExactPutScript: what it needs. -/
import Derived.WalkKit
import Derived.ProofKit
import Derived.OpenShut
import Derived.ShutString
import Derived.ChangeOld
import Derived.Below
import Derived.Deep.Slices
import Derived.Test.YtmipigipfmcneaaKEPutScript3
import Derived.Test.YtmipigipfmcneaaKEPutScript4
namespace Go.Proofs.Ytmipigipfmcneaa.Rd
open Go.ChangeShapes Go.WideShapes Go.ChangeAt Go.RowKit Go.Proofs.YtmipigipfmcneaaW.PrintWords
structure Rd (P : Program) (t : TypeId) {α : Type} (d : Kd α) (wf : α → Prop) : Prop where
  size : P.cellsOf t = d.sz
  reads : ∀ {H : Type} {enc : TypeId × Value → H} {w : World} {spare : Nat → Bool} {held : Bool} {fuel : Nat} {cs : List Value} {x : DataW H × List MemPlace},
    DataW.trod enc P w 0 spare held fuel t cs = some x → ∃ y, d.K w y cs ∧ wf y
theorem rd_int {P : Program} {t : TypeId} {k : IntKind} (ht : P.underlying t = some (.int k)) (hc : P.cellsOf t = 1) : Rd P t (Kd.int k) (fun n => (Lit.int k n).wf = true) :=
  ⟨hc, fun h => by
    obtain ⟨n, rfl, _, hw⟩ := DataW.trod_int ht h
    exact ⟨n, rfl, hw⟩⟩
theorem rd_slice {P : Program} {t e : TypeId} {α : Type} [Inhabited α] {d : Kd α} {wf : α → Prop} (ht : P.underlying t = some (.slice e)) (hc : P.cellsOf t = 1) (h : Rd P e d wf) : Rd P t (Kd.slice e d) (fun xs => xs.length ≤ 9223372036854775807 ∧ ∀ x ∈ xs, wf x) :=
  ⟨hc, fun {H enc w spare held fuel cs x} hx => by
    rcases Go.Deep.open_slice ht hx with ⟨rfl, _⟩ | ⟨a, len, cap, m, n, D, Pl, rfl, _, hl, hm, hmm, _, hel⟩
    · exact ⟨[], ⟨none, 0, rfl, Nat.le_refl _, rfl, by simp, fun h => absurd h (Nat.lt_irrefl _)⟩, by simp, by simp⟩
    · have hle : len ≤ m := by rw [hmm]; split <;> omega
      obtain ⟨f, hf⟩ := Go.Deep.choose_lt (n := len) (p := fun i (y : α) => ∃ cs', w.cells? 0 (a.add (i * P.cellsOf e)) (P.cellsOf e) = some cs' ∧ d.K w y cs' ∧ wf y) (fun i hi => by
        obtain ⟨cs', h1, h2⟩ := hel i (by omega)
        obtain ⟨y, hy, hw⟩ := h.reads h2
        exact ⟨y, cs', h1, hy, hw⟩)
      have hlen : ((List.range len).map f).length = len := by simp
      refine ⟨(List.range len).map f, ⟨some a, cap, by rw [hlen], by rw [hlen]; exact hl, ?_⟩, by rw [hlen]; unfold maxLen at hm; omega, ?_⟩
      · refine ⟨rfl, by rw [hlen]; unfold maxLen at hm; omega, fun _ => ⟨a, rfl, fun j p hj => ?_⟩⟩
        have hj' : j < len ∧ f j = p := by
          rw [List.getElem?_map] at hj
          obtain ⟨i, hi, hp⟩ := Option.map_eq_some_iff.1 hj
          have := List.getElem?_eq_some_iff.1 hi
          obtain ⟨h1, h2⟩ := this
          simp at h1 h2
          subst h2
          exact ⟨h1, hp⟩
        obtain ⟨cs', h1, h2, _⟩ := hf j hj'.1
        rw [hj'.2] at h2
        obtain ⟨_, hn, hcell⟩ := World.cells?_some h1
        refine ⟨cs', d.K_len h2, h2, fun i u hu => ?_⟩
        have hi : i < cs'.length := (List.getElem?_eq_some_iff.1 hu).1
        have := hcell i (by omega)
        rw [Go.Deep.add_add, h.size] at this
        rw [this, hu]
      · intro x hx
        obtain ⟨i, hi, rfl⟩ := List.mem_map.1 hx
        obtain ⟨_, _, _, hw⟩ := hf i (by simpa using hi)
        exact hw⟩
structure RdF (P : Program) (o : Nat) (fs : List Field) {α : Type} (d : Kd α) (wf : α → Prop) : Prop where
  reads : ∀ {H : Type} {enc : TypeId × Value → H} {w : World} {spare : Nat → Bool} {held : Bool} {fuel : Nat} {cs : List Value}, o + d.sz ≤ cs.length →
    (∀ f ∈ fs, ∃ x, DataW.trod enc P w 0 spare held fuel f.type ((cs.drop f.offset).take (P.cellsOf f.type)) = some x) → ∃ y, d.K w y ((cs.drop o).take d.sz) ∧ wf y
theorem rdf_one {P : Program} {o : Nat} {f : Field} {α : Type} {d : Kd α} {wf : α → Prop} (ho : f.offset = o) (h : Rd P f.type d wf) : RdF P o [f] d wf :=
  ⟨fun _ hf => by
    obtain ⟨x, hx⟩ := hf f (by simp)
    rw [ho, h.size] at hx
    exact h.reads hx⟩
theorem rdf_cons {P : Program} {o : Nat} {f : Field} {fs : List Field} {α β : Type} {d : Kd α} {d' : Kd β} {wf : α → Prop} {wf' : β → Prop} (ho : f.offset = o) (h : Rd P f.type d wf) (h' : RdF P (o + d.sz) fs d' wf') :
    RdF P o (f :: fs) (Kd.pair d d') (fun x => wf x.1 ∧ wf' x.2) :=
  ⟨fun {H enc w spare held fuel cs} hl hf => by
    have hl' : o + (d.sz + d'.sz) ≤ cs.length := hl
    obtain ⟨x, hx⟩ := hf f (by simp)
    rw [ho, h.size] at hx
    obtain ⟨y, hy, hw⟩ := h.reads hx
    obtain ⟨y', hy', hw'⟩ := h'.reads (cs := cs) (by omega) (fun g hg => hf g (by simp [hg]))
    refine ⟨(y, y'), ⟨_, _, ?_, hy, hy'⟩, hw, hw'⟩
    show (cs.drop o).take (d.sz + d'.sz) = _
    rw [List.take_add, List.drop_drop]⟩
theorem rd_struct {P : Program} {t : TypeId} {fs : Array Field} {α β : Type} {d : Kd α} {wf : α → Prop} (g : β → α) (ht : P.underlying t = some (.struct fs)) (hc : P.cellsOf t = d.sz) (hg : ∀ y, ∃ x, g x = y) (h : RdF P 0 fs.toList d wf) :
    Rd P t (Kd.iso d g) (fun x => wf (g x)) :=
  ⟨hc, fun {H enc w spare held fuel cs x} hx => by
    obtain ⟨xs, n, _, _, hl, hlen, hf⟩ := DataW.trod_struct ht hx
    obtain ⟨y, hy, hw⟩ := h.reads (enc := enc) (w := w) (spare := spare) (held := held) (fuel := n) (cs := cs) (by omega) (fun f hfm => by
      obtain ⟨i, hi, rfl⟩ := List.getElem_of_mem hfm
      have h1 : fs[i]? = some fs[i] := Array.getElem?_eq_getElem (by simpa using hi)
      have h2 := hf i _ h1
      have h3 : i < xs.length := by rw [hlen]; simpa using hi
      rw [List.getElem?_eq_getElem h3] at h2
      exact ⟨_, h2⟩)
    rw [List.drop_zero, List.take_of_length_le (by omega)] at hy
    obtain ⟨z, rfl⟩ := hg y
    exact ⟨z, hy, hw⟩⟩
theorem own : ownKnob Try.prog.godebug = none := by kernel_rfl
theorem laidOut : laidOutB Try.prog = true := by kernel_rfl
end Go.Proofs.Ytmipigipfmcneaa.Rd
namespace Go.Proofs.Ytmipigipfmcneaa.Rd
open Go.ChangeShapes Go.WideShapes Go.ChangeAt Go.RowKit Go.Proofs.YtmipigipfmcneaaW.PrintWords Go.Proofs.Ytmipigipfmcneaa.X
theorem rdt3 : Rd Try.prog 3 (Kd.int .i64) (fun n => (Lit.int .i64 n).wf = true) := rd_int Try.underlying3 (by kernel_rfl)
def WF30 (xs : (List Int)) : Prop := xs.length ≤ 9223372036854775807 ∧ ∀ x ∈ xs, (Lit.int .i64 x).wf = true
theorem rdt30 : Rd Try.prog 30 (Kd.slice 3 (Kd.int .i64)) WF30 := rd_slice Try.underlying30 (by kernel_rfl) rdt3
def WF66 (x : S66) : Prop := (Lit.int .i64 x.f0).wf = true ∧ WF30 x.f1 ∧ (Lit.int .i64 x.f2).wf = true ∧ (Lit.int .i64 x.f3).wf = true ∧ (Lit.int .i64 x.f4).wf = true
theorem rdt66 : Rd Try.prog 66 k66 WF66 := rd_struct (fun x : S66 => (x.f0, x.f1, x.f2, x.f3, x.f4)) Try.underlying66 (by kernel_rfl) (fun y => ⟨⟨y.1, y.2.1, y.2.2.1, y.2.2.2.1, y.2.2.2.2⟩, rfl⟩) (rdf_cons rfl rdt3 (rdf_cons rfl rdt30 (rdf_cons rfl rdt3 (rdf_cons rfl rdt3 (rdf_one rfl rdt3)))))
def WF22 (xs : (List S66)) : Prop := xs.length ≤ 9223372036854775807 ∧ ∀ x ∈ xs, WF66 x
instance : Inhabited S66 := ⟨z66⟩
theorem rdt22 : Rd Try.prog 22 (Kd.slice 66 k66) WF22 := rd_slice Try.underlying22 (by kernel_rfl) rdt66
instance : Inhabited S77 := ⟨z77⟩
instance : Inhabited S84 := ⟨z84⟩
end Go.Proofs.Ytmipigipfmcneaa.Rd
namespace Go.Proofs.Ytmipigipfmcneaa.Q
open Go.RowKit Go.Proofs.YtmipigipfmcneaaW.PrintWords Go.Proofs.YtmipigipfmcneaaW.PrintLast Go.Proofs.YtmipigipfmcneaaW.PrintMore Go.Proofs.Ytmipigipfmcneaa.X Go.Proofs.Ytmipigipfmcneaa.Rd
set_option linter.unusedVariables false
set_option linter.unusedSimpArgs false
theorem wrap_id {x : Int} (h : -9223372036854775808 ≤ x) (h' : x ≤ 9223372036854775807) : wrap64 x = x := by
  unfold wrap64; omega
theorem wrap_succ {i n : Nat} (h : i < n) (hn : n ≤ 9223372036854775807) : wrap64 ((i : Int) + 1) = ((i + 1 : Nat) : Int) := by
  unfold wrap64; omega
theorem Ev.constOf {α : Type} {o : Option α} {r : α} (h : o = some r) : Ev (fun _ => o) r := ⟨0, fun _ _ => h⟩
theorem Ev.bindC {α β : Type} {o : Option α} {f : Nat → α → Option β} {a : α} {r : β} (h : o = some a) (k : Ev (fun n => f n a) r) : Ev (fun n => o.bind (f n)) r :=
  Ev.bind (Ev.constOf h) k
theorem Ev.ifT {α : Type} {c : Prop} [Decidable c] {g f : Nat → Option α} {r : α} (h : c) (k : Ev g r) : Ev (fun n => if c then g n else f n) r := by
  simpa only [if_pos h] using k
theorem Ev.ifF {α : Type} {c : Prop} [Decidable c] {g f : Nat → Option α} {r : α} (h : ¬ c) (k : Ev f r) : Ev (fun n => if c then g n else f n) r := by
  simpa only [if_neg h] using k
theorem getD_nat {α : Type} (xs : List α) (i : Nat) (d : α) (h : i < xs.length) : xs.getD ((i : Int)).toNat d = xs[i] := by
  rw [Int.toNat_natCast, List.getD_eq_getElem?_getD, List.getElem?_eq_getElem h]; rfl
theorem getD_lt {α : Type} (xs : List α) {i : Nat} (d : α) (h : i < xs.length) : xs.getD i d = xs[i] := by
  rw [List.getD_eq_getElem?_getD, List.getElem?_eq_getElem h]; rfl
theorem take_succ_map {α β : Type} (f : α → β) (l : List α) (i : Nat) (h : i < l.length) : (l.take (i + 1)).map f = (l.take i).map f ++ [f l[i]] := by
  rw [List.take_succ_eq_append_getElem h, List.map_append]; rfl
theorem take_succ_append {α : Type} (l : List α) (i : Nat) (h : i < l.length) : l.take (i + 1) = l.take i ++ [l[i]] := List.take_succ_eq_append_getElem h
theorem mapLoop {A B : Type} (F : Nat → List A → List B → Int → Option (List B)) (g : Nat → A → Option B) (h : A → B) (dA : A)
    (hF : ∀ k x acc i, F (k + 1) x acc i = if i < (x.length : Int) then (if 0 ≤ i then ((g k (x.getD i.toNat dA)).bind fun b => if i < (acc.length : Int) then F k x (acc.set i.toNat b) (wrap64 (i + 1)) else none) else none) else some acc)
    (l : List A) (hl : l.length ≤ 9223372036854775807) (hg : ∀ x ∈ l, Ev (fun k => g k x) (h x)) (d : Nat) : ∀ (i : Nat) (acc : List B), i + d = l.length → acc.length = l.length → acc.take i = (l.take i).map h →
    Ev (fun k => F k l acc i) (l.map h) := by
  induction d with
  | zero =>
    intro i acc hi ha ht
    have : acc = l.map h := by
      rw [List.take_of_length_le (by omega), List.take_of_length_le (by omega)] at ht
      exact ht
    subst this
    refine Ev.step (f := fun _ => some (l.map h)) (fun k => ?_) (Ev.now _)
    rw [hF, if_neg (by omega)]
  | succ d ih =>
    intro i acc hi ha ht
    have hlt : i < l.length := by omega
    have hn := ih (i + 1) (acc.set i (h l[i])) (by omega) (by simpa using ha) (by
      rw [take_succ_map h l i hlt, take_succ_append _ i (by simp; omega), List.getElem_set_self, List.take_set_of_le (Nat.le_refl i), ht])
    refine Ev.step (f := fun k => (g k l[i]).bind fun b => F k l (acc.set i b) ((i + 1 : Nat) : Int)) (fun k => ?_) (Ev.bind (hg l[i] (List.getElem_mem hlt)) hn)
    rw [hF, if_pos (by omega), if_pos (by omega), Int.toNat_natCast, getD_lt l _ hlt, wrap_succ hlt hl]
    congr 1
    funext b
    rw [if_pos (by omega)]
theorem mapLoop0 {A B : Type} (F : Nat → List A → List B → Int → Option (List B)) (g : Nat → A → Option B) (h : A → B) (dA : A) (z : B)
    (hF : ∀ k x acc i, F (k + 1) x acc i = if i < (x.length : Int) then (if 0 ≤ i then ((g k (x.getD i.toNat dA)).bind fun b => if i < (acc.length : Int) then F k x (acc.set i.toNat b) (wrap64 (i + 1)) else none) else none) else some acc)
    (l : List A) (hl : l.length ≤ 9223372036854775807) (hg : ∀ x ∈ l, Ev (fun k => g k x) (h x)) : Ev (fun k => F k l (List.replicate l.length z) 0) (l.map h) :=
  mapLoop F g h dA hF l hl hg l.length 0 (List.replicate l.length z) (by omega) (by simp) (by simp)
theorem eqLoop {A : Type} (F : Nat → List A → List A → Int → Option Bool) (e : Nat → A → A → Option Bool) (dA : A)
    (hF : ∀ k x y i, F (k + 1) x y i = if i < (x.length : Int) then (if 0 ≤ i then (if i < (y.length : Int) then ((e k (x.getD i.toNat dA) (y.getD i.toNat dA)).bind fun t => if t = true then F k x y (wrap64 (i + 1)) else some false) else none) else none) else some true)
    (l : List A) (hl : l.length ≤ 9223372036854775807) (he : ∀ x ∈ l, Ev (fun k => e k x x) true) (d : Nat) : ∀ (i : Nat), i + d = l.length → Ev (fun k => F k l l i) true := by
  induction d with
  | zero =>
    intro i hi
    refine Ev.step (f := fun _ => some true) (fun k => ?_) (Ev.now _)
    rw [hF, if_neg (by omega)]
  | succ d ih =>
    intro i hi
    have hlt : i < l.length := by omega
    refine Ev.step (f := fun k => (e k l[i] l[i]).bind fun t => if t = true then F k l l ((i + 1 : Nat) : Int) else some false) (fun k => ?_) (Ev.bind (he l[i] (List.getElem_mem hlt)) ?_)
    · rw [hF, if_pos (by omega), if_pos (by omega), if_pos (by omega), Int.toNat_natCast, getD_lt l _ hlt, wrap_succ hlt hl]
    · exact Ev.ifT rfl (ih (i + 1) (by omega))
end Go.Proofs.Ytmipigipfmcneaa.Q
namespace Go.Proofs.Ytmipigipfmcneaa.Q
open Go.RowKit Go.Proofs.YtmipigipfmcneaaW.PrintWords Go.Proofs.YtmipigipfmcneaaW.PrintLast Go.Proofs.YtmipigipfmcneaaW.PrintMore Go.Proofs.Ytmipigipfmcneaa.X Go.Proofs.Ytmipigipfmcneaa.Rd
set_option linter.unusedVariables false
set_option linter.unusedSimpArgs false
def v1 (n : Int) : ByteArray := strOfNums [n % 256]
theorem v1_size (n : Int) : (v1 n).size = 1 := rfl
theorem specVar_small (n : Int) (h0 : 0 ≤ n) (h1 : n ≤ 127) : Ev (fun k => spec_Var.f k n) (v1 n) := by
  unfold spec_Var.f spec_l1In.f
  rw [if_pos h0]
  refine Ev.bindC rfl (Ev.ifT (by simp; omega) ?_)
  refine Ev.step (fun _ => rfl) ?_
  simp only [spec_Var.l0]
  exact Ev.ifF (by omega) (Ev.ifT (by simp) (Ev.now _))
theorem implVar_small (n : Int) (h0 : 0 ≤ n) (h1 : n ≤ 127) : Ev (fun k => impl_Var.f k n) (v1 n) := by
  unfold impl_Var.f impl_within.f
  rw [if_pos h0]
  refine Ev.bindC rfl (Ev.ifT (by simp; omega) ?_)
  refine Ev.step (fun _ => rfl) ?_
  simp only [impl_Var.l0]
  exact Ev.ifF (by omega) (Ev.ifT (by simp) (Ev.now _))
def catS : List Int → ByteArray
  | [] => ByteArray.empty
  | x :: p => v1 x ++ catS p
theorem catS_size (p : List Int) : (catS p).size = p.length := by
  induction p with
  | nil => rfl
  | cons x p ih => simp only [catS, ByteArray.size_append, v1_size, ih, List.length_cons]; omega
end Go.Proofs.Ytmipigipfmcneaa.Q
namespace Go.Proofs.Ytmipigipfmcneaa.Q
open Go.RowKit Go.Proofs.YtmipigipfmcneaaW.PrintWords Go.Proofs.YtmipigipfmcneaaW.PrintLast Go.Proofs.YtmipigipfmcneaaW.PrintMore Go.Proofs.Ytmipigipfmcneaa.X Go.Proofs.Ytmipigipfmcneaa.Rd
set_option linter.unusedVariables false
set_option linter.unusedSimpArgs false
theorem toIntS_ev (l : List Int) (hl : l.length ≤ 1048576) : Ev (fun k => laws_toIntS.f k l) l := by
  have h := mapLoop0 laws_toIntS.l0 (fun _ x => some x) (fun x => x) 0 0 (fun k x acc i => by simp only [laws_toIntS.l0, Option.bind_some, rd]) l (by omega) (fun x _ => Ev.now x)
  rw [List.map_id'] at h
  refine Ev.congr (fun k => ?_) h
  unfold laws_toIntS.f
  rw [if_pos (by omega), if_pos (by omega), Int.toNat_natCast]
theorem eqIntS_ev (l : List Int) (hl : l.length ≤ 9223372036854775807) : Ev (fun k => laws_eqIntS.f k l l) true := by
  have h := eqLoop laws_eqIntS.l0 (fun _ x y => some (decide (x = y))) 0 (fun k x y i => by
    simp only [laws_eqIntS.l0, Option.bind_some, rd]
    by_cases h : x.getD i.toNat 0 = y.getD i.toNat 0
    · simp only [h, decide_true, if_true]
    · simp only [h, decide_false, if_false, Bool.false_eq_true]) l hl (fun x _ => by simpa using Ev.now true) l.length 0 (by omega)
  refine Ev.congr (fun k => ?_) h
  unfold laws_eqIntS.f
  rw [if_pos rfl]; rfl
end Go.Proofs.Ytmipigipfmcneaa.Q
namespace Go.Proofs.Ytmipigipfmcneaa.Q
open Go.RowKit Go.Proofs.YtmipigipfmcneaaW.PrintWords Go.Proofs.YtmipigipfmcneaaW.PrintLast Go.Proofs.YtmipigipfmcneaaW.PrintMore Go.Proofs.Ytmipigipfmcneaa.X Go.Proofs.Ytmipigipfmcneaa.Rd
set_option linter.unusedVariables false
set_option linter.unusedSimpArgs false
abbrev OpL := S66
abbrev OpI := S68
def toOp (x : OpL) : OpI := ⟨x.f0, x.f1, x.f2, x.f3, x.f4⟩
theorem szIntS_eq (l : List Int) (a : Int) (ha : 0 ≤ a) (ha' : a ≤ 1048576) (hl : l.length ≤ 9223372036854775807) :
    laws_szIntS.f l a = some (if a < l.length then -1 else a - l.length) := by
  unfold laws_szIntS.f
  rw [wrap_id (by omega) (by omega)]
  by_cases h : a < l.length
  · rw [if_pos (by omega), if_pos h]
  · rw [if_neg (by omega), if_neg h]
theorem szOp_eq (x : OpL) (a : Int) (ha : 0 ≤ a) (ha' : a ≤ 1048576) (hl : x.f1.length ≤ 9223372036854775807) :
    laws_szOp.f x.f0 x.f1 x.f2 x.f3 x.f4 a = some (if a < x.f1.length then -1 else a - x.f1.length) := by
  unfold laws_szOp.f
  rw [szIntS_eq _ _ ha ha' hl, Option.bind_some]
  by_cases h : a < x.f1.length
  · rw [if_pos h, if_pos (by omega)]
  · rw [if_neg h, if_neg (by omega)]
theorem szOpS_l (l : List OpL) (hl : l.length ≤ 1048576) (hw : ∀ x ∈ l, x.f1.length ≤ 9223372036854775807) (d : Nat) : ∀ (i : Nat) (a : Int), i + d = l.length → 0 ≤ a → a ≤ 1048576 →
    ∃ r, Ev (fun k => laws_szOpS.l0 k l a i) r ∧ (r = -1 ∨ (0 ≤ r ∧ r ≤ a ∧ ∀ j, i ≤ j → (h : j < l.length) → (l[j].f1.length : Int) + r ≤ a)) := by
  induction d with
  | zero =>
    intro i a hi h0 h1
    refine ⟨a, Ev.step (f := fun _ => some a) (fun k => ?_) (Ev.now _), .inr ⟨h0, by omega, fun j hj h => by omega⟩⟩
    simp only [laws_szOpS.l0]
    rw [if_neg (by omega)]
  | succ d ih =>
    intro i a hi h0 h1
    have hlt : i < l.length := by omega
    have hs : ∀ k, laws_szOpS.l0 (k + 1) l a i = (if a < l[i].f1.length then some (-1) else laws_szOpS.l0 k l (a - l[i].f1.length) ((i + 1 : Nat) : Int)) := by
      intro k
      simp only [laws_szOpS.l0]
      rw [if_pos (by omega), if_pos (by omega), wrap_succ hlt (by omega)]
      simp only [rd_T66, Int.toNat_natCast, getD_lt l _ hlt]
      rw [szOp_eq _ _ h0 h1 (hw _ (List.getElem_mem hlt)), Option.bind_some]
      by_cases h : a < l[i].f1.length
      · rw [if_pos h, if_pos (by omega), if_pos h]
      · rw [if_neg h, if_neg (by omega), if_neg h]
    by_cases h : a < l[i].f1.length
    · refine ⟨-1, Ev.step (f := fun _ => some (-1)) (fun k => ?_) (Ev.now _), .inl rfl⟩
      rw [hs, if_pos h]
    · obtain ⟨r, hr, hp⟩ := ih (i + 1) (a - l[i].f1.length) (by omega) (by omega) (by omega)
      refine ⟨r, Ev.step (f := fun k => laws_szOpS.l0 k l (a - l[i].f1.length) ((i + 1 : Nat) : Int)) (fun k => ?_) hr, ?_⟩
      · rw [hs, if_neg h]
      · rcases hp with hp | ⟨p0, p1, p2⟩
        · exact .inl hp
        · refine .inr ⟨p0, by omega, fun j hj h' => ?_⟩
          by_cases e : j = i
          · subst e; omega
          · have := p2 j (by omega) h'
            omega
theorem szOpS_ev (l : List OpL) (a : Int) (ha : 0 ≤ a) (ha' : a ≤ 1048576) (hl : l.length ≤ 9223372036854775807) (hw : ∀ x ∈ l, x.f1.length ≤ 9223372036854775807) :
    ∃ r, Ev (fun k => laws_szOpS.f k l a) r ∧ (r = -1 ∨ (0 ≤ r ∧ (l.length : Int) + r ≤ a ∧ ∀ x ∈ l, x.f1.length ≤ 1048576)) := by
  unfold laws_szOpS.f
  rw [wrap_id (by omega) (by omega)]
  by_cases h : a < l.length
  · exact ⟨-1, Ev.ifT (by omega) (Ev.now _), .inl rfl⟩
  · obtain ⟨r, hr, hp⟩ := szOpS_l l (by omega) hw l.length 0 (a - l.length) (by omega) (by omega) (by omega)
    refine ⟨r, Ev.ifF (by omega) hr, ?_⟩
    rcases hp with hp | ⟨p0, p1, p2⟩
    · exact .inl hp
    · refine .inr ⟨p0, by omega, fun x hx => ?_⟩
      obtain ⟨j, hj, rfl⟩ := List.getElem_of_mem hx
      have := p2 j (by omega) hj
      omega
theorem toOp_ev (x : OpL) (h : x.f1.length ≤ 1048576) : Ev (fun k => laws_toOp.f k x.f0 x.f1 x.f2 x.f3 x.f4) (x.f0, x.f1, x.f2, x.f3, x.f4) := by
  unfold laws_toOp.f
  exact Ev.bind (toIntS_ev _ h) (Ev.now _)
theorem toOpS_ev (l : List OpL) (hl : l.length ≤ 1048576) (hw : ∀ x ∈ l, x.f1.length ≤ 1048576) : Ev (fun k => laws_toOpS.f k l) (l.map toOp) := by
  have h := mapLoop0 laws_toOpS.l0 (fun k x => (laws_toOp.f k x.f0 x.f1 x.f2 x.f3 x.f4).bind fun b => some (⟨b.1, b.2.1, b.2.2.1, b.2.2.2.1, b.2.2.2.2⟩ : OpI)) toOp z66 z68
    (fun k x acc i => by simp only [laws_toOpS.l0, Option.bind_assoc, Option.bind_some, rd_T66]) l (by omega) (fun x hx => Ev.bind (toOp_ev x (hw x hx)) (Ev.now _))
  refine Ev.congr (fun k => ?_) h
  unfold laws_toOpS.f
  rw [if_pos (by omega), if_pos (by omega), Int.toNat_natCast]
theorem eqOp_ev (x : OpI) (h : x.f1.length ≤ 9223372036854775807) : Ev (fun k => laws_eqOp.f k x.f0 x.f1 x.f2 x.f3 x.f4 x.f0 x.f1 x.f2 x.f3 x.f4) true := by
  unfold laws_eqOp.f
  exact Ev.ifT rfl (Ev.bind (eqIntS_ev _ h) (Ev.ifT rfl (Ev.ifT rfl (Ev.ifT rfl (Ev.ifT rfl (Ev.now _))))))
theorem eqOpS_ev (l : List OpI) (hl : l.length ≤ 9223372036854775807) (hw : ∀ x ∈ l, x.f1.length ≤ 9223372036854775807) : Ev (fun k => laws_eqOpS.f k l l) true := by
  have h := eqLoop laws_eqOpS.l0 (fun k x y => laws_eqOp.f k x.f0 x.f1 x.f2 x.f3 x.f4 y.f0 y.f1 y.f2 y.f3 y.f4) z68 (fun k x y i => by simp only [laws_eqOpS.l0, rd_T68]) l hl (fun x hx => eqOp_ev x (hw x hx)) l.length 0 (by omega)
  refine Ev.congr (fun k => ?_) h
  unfold laws_eqOpS.f
  rw [if_pos rfl]; rfl
theorem toOp_mem (l : List OpL) (hw : ∀ x ∈ l, x.f1.length ≤ 1048576) : ∀ x ∈ l.map toOp, x.f1.length ≤ 1048576 := by
  intro x hx
  obtain ⟨y, hy, rfl⟩ := List.mem_map.1 hx
  exact hw y hy
end Go.Proofs.Ytmipigipfmcneaa.Q
namespace Go.Proofs.Ytmipigipfmcneaa.Q
open Go.RowKit Go.Proofs.YtmipigipfmcneaaW.PrintWords Go.Proofs.YtmipigipfmcneaaW.PrintLast Go.Proofs.YtmipigipfmcneaaW.PrintMore Go.Proofs.Ytmipigipfmcneaa.X Go.Proofs.Ytmipigipfmcneaa.Rd
set_option linter.unusedVariables false
set_option linter.unusedSimpArgs false
theorem l1In_eq (x lo hi : Int) : spec_l1In.f x lo hi = some (decide (lo ≤ x ∧ x ≤ hi)) := by
  unfold spec_l1In.f
  by_cases h : lo ≤ x
  · rw [if_pos h]; simp [h]
  · rw [if_neg h]; simp [h]
theorem specLabelOk_eq (x : Int) : spec_LabelOk.f x = some (inP 5 x) := by
  unfold spec_LabelOk.f
  rw [l1In_eq]; rfl
def opB (x : OpI) : Bool := if (12 : Int) < x.f1.length then false else if x.f1.any (outP 24) = true then false else opTail x.f0 x.f2 x.f3 x.f4
theorem specPath15_l (l : List Int) (hl : l.length ≤ 9223372036854775807) (d : Nat) : ∀ i : Nat, i + d = l.length → Ev (fun r => spec_l15Path.l0 r l i) (!((l.drop i).any (outP 24)) && decide ((l.length : Int) ≤ 12)) := by
  induction d with
  | zero =>
    intro i hi
    refine Ev.step (fun _ => rfl) ?_
    simp only [spec_l15Path.l0]
    rw [List.drop_of_length_le (by omega)]
    exact Ev.ifF (by omega) (Ev.now _)
  | succ d ih =>
    intro i hi
    have hlt : i < l.length := by omega
    refine Ev.step (fun _ => rfl) ?_
    simp only [spec_l15Path.l0]
    refine Ev.ifT (by omega) (Ev.ifT (by omega) ?_)
    simp only [rd, getD_nat l i _ hlt]
    rw [l1In_eq, List.drop_eq_getElem_cons hlt, List.any_cons, wrap_succ hlt hl]
    by_cases c : 0 ≤ l[i] ∧ l[i] ≤ 24
    · have e : outP 24 l[i] = false := by simp [outP, c]
      rw [e, Bool.false_or]
      refine Ev.bindC rfl (Ev.ifT (decide_eq_true c) (ih (i + 1) (by omega)))
    · have e : outP 24 l[i] = true := by unfold outP; rw [decide_eq_false c]; rfl
      rw [e, Bool.true_or, Bool.not_true, Bool.false_and]
      exact Ev.bindC rfl (Ev.ifF (by rw [decide_eq_false c]; simp) (Ev.now _))
theorem specOpOk_ev (x : OpI) (hl : x.f1.length ≤ 9223372036854775807) : Ev (fun r => spec_OpOk.f r x.f0 x.f1 x.f2 x.f3 x.f4) (opB x) := by
  unfold spec_OpOk.f
  refine Ev.bind (specPath15_l x.f1 hl x.f1.length 0 (by omega)) ?_
  unfold opB
  rw [List.drop_zero]
  by_cases c : (12 : Int) < x.f1.length
  · rw [if_pos c, decide_eq_false (by omega), Bool.and_false]
    exact Ev.ifF (by simp) (Ev.now _)
  · rw [if_neg c, decide_eq_true (by omega), Bool.and_true]
    by_cases h : x.f1.any (outP 24) = true
    · rw [if_pos h, h]
      exact Ev.ifF (by simp) (Ev.now _)
    · rw [if_neg h]
      refine Ev.ifT (by simpa using h) ?_
      unfold opTail
      by_cases k1 : x.f0 = 1
      · refine Ev.ifT k1 ?_
        rw [if_pos k1, specLabelOk_eq]
        refine Ev.bindC rfl ?_
        cases inP 5 x.f2
        · exact Ev.ifF (by simp) (Ev.now _)
        · refine Ev.ifT rfl ?_
          by_cases c3 : x.f3 = 0
          · refine Ev.ifT c3 ?_
            simp only [c3, beq_self_eq_true, Bool.true_and]
            exact Ev.now _
          · refine Ev.ifF c3 ?_
            rw [beq_eq_false_iff_ne.mpr c3]
            exact Ev.now _
      · refine Ev.ifF k1 ?_
        rw [if_neg k1]
        by_cases k2 : x.f0 = 2
        · refine Ev.ifT k2 ?_
          rw [if_pos k2]
          by_cases c2 : x.f2 = 0
          · refine Ev.ifT c2 ?_
            by_cases c3 : x.f3 = 0
            · refine Ev.ifT c3 ?_
              simp only [c2, c3, beq_self_eq_true, Bool.true_and]
              exact Ev.now _
            · refine Ev.ifF c3 ?_
              rw [beq_eq_false_iff_ne.mpr c3, Bool.and_false, Bool.false_and]
              exact Ev.now _
          · refine Ev.ifF c2 ?_
            rw [beq_eq_false_iff_ne.mpr c2, Bool.false_and, Bool.false_and]
            exact Ev.now _
        · refine Ev.ifF k2 ?_
          rw [if_neg k2]
          by_cases k3 : x.f0 = 3
          · refine Ev.ifT k3 ?_
            rw [if_pos k3, specLabelOk_eq, l1In_eq, l1In_eq]
            refine Ev.bindC rfl ?_
            cases inP 5 x.f2
            · exact Ev.ifF (by simp) (Ev.now _)
            · refine Ev.ifT rfl (Ev.bindC rfl ?_)
              change Ev (fun _ => if inP 24 x.f3 = true then _ else _) _
              cases inP 24 x.f3
              · exact Ev.ifF (by simp) (Ev.now _)
              · exact Ev.ifT rfl (Ev.bindC rfl (Ev.now _))
          · refine Ev.ifF k3 ?_
            rw [if_neg k3]
            exact Ev.now _
end Go.Proofs.Ytmipigipfmcneaa.Q
namespace Go.Proofs.Ytmipigipfmcneaa.Q
open Go.RowKit Go.Proofs.YtmipigipfmcneaaW.PrintWords Go.Proofs.YtmipigipfmcneaaW.PrintLast Go.Proofs.YtmipigipfmcneaaW.PrintMore Go.Proofs.Ytmipigipfmcneaa.X Go.Proofs.Ytmipigipfmcneaa.Rd
set_option linter.unusedVariables false
set_option linter.unusedSimpArgs false
def scriptB (l : List OpI) : Bool := decide ((l.length : Int) ≤ 60) && !(l.any fun x => !opB x)
theorem specScriptOk_l (l : List OpI) (hl : l.length ≤ 9223372036854775807) (hw : ∀ x ∈ l, x.f1.length ≤ 1048576) (d : Nat) : ∀ i : Nat, i + d = l.length →
    Ev (fun r => spec_ScriptOk.l0 r l i) (decide ((l.length : Int) ≤ 60) && !((l.drop i).any fun x => !opB x)) := by
  induction d with
  | zero =>
    intro i hi
    refine Ev.step (fun _ => rfl) ?_
    simp only [spec_ScriptOk.l0]
    rw [List.drop_of_length_le (by omega), List.any_nil, Bool.not_false, Bool.and_true]
    exact Ev.ifF (by omega) (Ev.now _)
  | succ d ih =>
    intro i hi
    have hlt : i < l.length := by omega
    refine Ev.step (fun _ => rfl) ?_
    simp only [spec_ScriptOk.l0]
    refine Ev.ifT (by omega) (Ev.ifT (by omega) ?_)
    simp only [rd_T68, getD_nat l i _ hlt]
    rw [List.drop_eq_getElem_cons hlt, List.any_cons, wrap_succ hlt hl]
    have hm := hw l[i] (List.getElem_mem hlt)
    refine Ev.bind (specOpOk_ev l[i] (by omega)) ?_
    cases opB l[i]
    · rw [Bool.not_false, Bool.true_or, Bool.not_true, Bool.and_false]
      exact Ev.ifF (by simp) (Ev.now _)
    · rw [Bool.not_true, Bool.false_or]
      exact Ev.ifT rfl (ih (i + 1) (by omega))
theorem specScriptOk_ev (l : List OpI) (hl : l.length ≤ 9223372036854775807) (hw : ∀ x ∈ l, x.f1.length ≤ 1048576) : Ev (fun r => spec_ScriptOk.f r l) (scriptB l) :=
  specScriptOk_l l hl hw l.length 0 (by omega)
theorem implScriptOk_eq (l : List OpI) : impl_ScriptOk.f l = some (scriptB l) := rfl
end Go.Proofs.Ytmipigipfmcneaa.Q
namespace Go.Proofs.Ytmipigipfmcneaa.Q
open Go.RowKit Go.Proofs.YtmipigipfmcneaaW.PrintWords Go.Proofs.YtmipigipfmcneaaW.PrintLast Go.Proofs.YtmipigipfmcneaaW.PrintMore Go.Proofs.Ytmipigipfmcneaa.X Go.Proofs.Ytmipigipfmcneaa.Rd
set_option linter.unusedVariables false
set_option linter.unusedSimpArgs false
structure Small (x : OpI) : Prop where
  k0 : 0 ≤ x.f0
  k1 : x.f0 ≤ 3
  len : x.f1.length ≤ 12
  path : ∀ p ∈ x.f1, 0 ≤ p ∧ p ≤ 24
  lab : x.f0 ≠ 2 → 0 ≤ x.f2 ∧ x.f2 ≤ 5
  frm : x.f0 = 3 → 0 ≤ x.f3 ∧ x.f3 ≤ 24
  cnt : x.f0 = 3 → 0 ≤ x.f4 ∧ x.f4 ≤ 24
theorem small_of {x : OpI} (h : opB x = true) : Small x := by
  unfold opB at h
  by_cases c1 : (12 : Int) < x.f1.length
  · rw [if_pos c1] at h; cases h
  rw [if_neg c1] at h
  by_cases c2 : x.f1.any (outP 24) = true
  · rw [if_pos c2] at h; cases h
  rw [if_neg c2] at h
  have hp : ∀ p ∈ x.f1, 0 ≤ p ∧ p ≤ 24 := by
    intro p hp
    refine Classical.byContradiction fun q => c2 (List.any_eq_true.2 ⟨p, hp, ?_⟩)
    unfold outP
    rw [decide_eq_false q]; rfl
  unfold opTail at h
  by_cases e1 : x.f0 = 1
  · rw [if_pos e1] at h
    simp only [Bool.and_eq_true, inP, decide_eq_true_eq] at h
    exact ⟨by omega, by omega, by omega, hp, fun _ => h.1.1, fun e => by omega, fun e => by omega⟩
  rw [if_neg e1] at h
  by_cases e2 : x.f0 = 2
  · exact ⟨by omega, by omega, by omega, hp, fun e => absurd e2 e, fun e => by omega, fun e => by omega⟩
  rw [if_neg e2] at h
  by_cases e3 : x.f0 = 3
  · rw [if_pos e3] at h
    simp only [Bool.and_eq_true, inP, decide_eq_true_eq] at h
    exact ⟨by omega, by omega, by omega, hp, fun _ => h.1.1, fun _ => h.1.2, fun _ => h.2⟩
  · rw [if_neg e3] at h; cases h
def labS (x : OpI) : ByteArray := if x.f0 = 2 then ByteArray.empty else v1 x.f2
def insS (x : OpI) : ByteArray := if x.f0 = 3 then v1 x.f3 ++ v1 x.f4 else ByteArray.empty
def opS (x : OpI) : ByteArray := (v1 x.f0 ++ v1 x.f1.length) ++ (catS x.f1 ++ (labS x ++ insS x))
theorem labS_size (x : OpI) : (labS x).size ≤ 1 := by
  unfold labS
  split
  · exact Nat.zero_le _
  · exact Nat.le_refl _
theorem insS_size (x : OpI) : (insS x).size ≤ 2 := by
  unfold insS
  split
  · exact Nat.le_refl _
  · exact Nat.zero_le _
theorem opS_size {x : OpI} (h : Small x) : (opS x).size ≤ 17 := by
  have h1 := labS_size x
  have h2 := insS_size x
  have h3 := h.len
  unfold opS
  simp only [ByteArray.size_append, v1_size, catS_size]
  omega
def opsS : List OpI → ByteArray
  | [] => ByteArray.empty
  | x :: l => opS x ++ opsS l
theorem specOp_j1 {x : OpI} (h : Small x) (acc : ByteArray) (ha : acc.size ≤ 1048576) : Ev (fun k => spec_l15Op.j1 k acc x.f0 x.f1 x.f2 x.f3 x.f4) (acc ++ insS x) := by
  refine Ev.step (fun _ => rfl) ?_
  simp only [spec_l15Op.j1]
  unfold insS
  by_cases c : x.f0 = 3
  · have h1 := h.frm c
    have h2 := h.cnt c
    rw [if_pos c, ← ByteArray.append_assoc]
    refine Ev.ifT c (Ev.bind (specVar_small x.f3 h1.1 (by omega)) ?_)
    simp only [v1_size, ByteArray.size_append]
    refine Ev.ifT (by omega) (Ev.bind (specVar_small x.f4 h2.1 (by omega)) ?_)
    simp only [v1_size]
    exact Ev.ifT (by omega) (Ev.now _)
  · rw [if_neg c, ByteArray.append_empty]
    exact Ev.ifF c (Ev.now _)
theorem specOp_l0 {x : OpI} (h : Small x) (d : Nat) : ∀ (j : Nat) (acc : ByteArray), j + d = x.f1.length → acc.size + d ≤ 1000000 → Ev (fun k => spec_l15Op.l0 k acc j x.f0 x.f1 x.f2 x.f3 x.f4) (acc ++ (catS (x.f1.drop j) ++ (labS x ++ insS x))) := by
  have h12 := h.len
  induction d with
  | zero =>
    intro j acc hj ha
    refine Ev.step (fun _ => rfl) ?_
    simp only [spec_l15Op.l0]
    rw [List.drop_of_length_le (by omega)]
    refine Ev.ifF (by omega) ?_
    simp only [catS, ByteArray.empty_append]
    unfold labS
    by_cases c : x.f0 = 2
    · rw [if_pos c, ByteArray.empty_append]
      exact Ev.ifT c (specOp_j1 h acc (by omega))
    · have h1 := h.lab c
      rw [if_neg c, ← ByteArray.append_assoc]
      refine Ev.ifF c (Ev.bind (specVar_small x.f2 h1.1 (by omega)) ?_)
      simp only [v1_size]
      exact Ev.ifT (by omega) (specOp_j1 h _ (by simp only [ByteArray.size_append, v1_size]; omega))
  | succ d ih =>
    intro j acc hj ha
    have hlt : j < x.f1.length := by omega
    have hp := h.path _ (List.getElem_mem hlt)
    refine Ev.step (fun _ => rfl) ?_
    simp only [spec_l15Op.l0, rd, getD_nat x.f1 j _ hlt]
    rw [List.drop_eq_getElem_cons hlt, wrap_succ hlt (by omega)]
    refine Ev.ifT (by omega) (Ev.ifT (by omega) (Ev.bind (specVar_small _ hp.1 (by omega)) ?_))
    simp only [v1_size, catS]
    have := ih (j + 1) (acc ++ v1 x.f1[j]) (by omega) (by simp only [ByteArray.size_append, v1_size]; omega)
    rw [ByteArray.append_assoc, ← ByteArray.append_assoc (b := catS _)] at this
    rw [ByteArray.append_assoc (a := v1 _)]
    rw [ByteArray.append_assoc] at this
    exact Ev.ifT (by omega) this
theorem specOp_ev {x : OpI} (h : Small x) : Ev (fun k => spec_l15Op.f k x.f0 x.f1 x.f2 x.f3 x.f4) (opS x) := by
  have h12 := h.len
  unfold spec_l15Op.f
  refine Ev.bind (specVar_small x.f0 h.k0 (by have := h.k1; omega)) (Ev.bind (specVar_small _ (by omega) (by omega)) ?_)
  simp only [v1_size]
  exact Ev.ifT (by omega) (specOp_l0 h x.f1.length 0 (v1 x.f0 ++ v1 x.f1.length) (by omega) (by simp only [ByteArray.size_append, v1_size]; omega))
theorem specPut_l (l : List OpI) (hl : l.length ≤ 60) (hs : ∀ x ∈ l, Small x) (d : Nat) : ∀ (i : Nat) (acc : ByteArray), i + d = l.length → acc.size + 17 * d ≤ 100000 → Ev (fun k => spec_PutScript.l0 k l acc i) (acc ++ opsS (l.drop i)) := by
  induction d with
  | zero =>
    intro i acc hi ha
    refine Ev.step (fun _ => rfl) ?_
    simp only [spec_PutScript.l0]
    rw [List.drop_of_length_le (by omega), opsS, ByteArray.append_empty]
    exact Ev.ifF (by omega) (Ev.now _)
  | succ d ih =>
    intro i acc hi ha
    have hlt : i < l.length := by omega
    have hx := hs _ (List.getElem_mem hlt)
    have hz := opS_size hx
    refine Ev.step (fun _ => rfl) ?_
    simp only [spec_PutScript.l0, rd_T68, getD_nat l i _ hlt]
    rw [List.drop_eq_getElem_cons hlt, wrap_succ hlt (by omega), opsS, ← ByteArray.append_assoc]
    exact Ev.ifT (by omega) (Ev.ifT (by omega) (Ev.bind (specOp_ev hx) (Ev.ifT (by omega) (ih (i + 1) _ (by omega) (by rw [ByteArray.size_append]; omega)))))
def putS (l : List OpI) : ByteArray := if scriptB l = true then v1 l.length ++ opsS l else ByteArray.empty
theorem script_small {l : List OpI} (h : scriptB l = true) : l.length ≤ 60 ∧ ∀ x ∈ l, Small x := by
  unfold scriptB at h
  simp only [Bool.and_eq_true, decide_eq_true_eq, Bool.not_eq_true', List.any_eq_false, Bool.not_eq_true, Bool.not_eq_false] at h
  exact ⟨by omega, fun x hx => small_of (by simpa using h.2 x hx)⟩
theorem specPut_ev (l : List OpI) (hl : l.length ≤ 9223372036854775807) (hw : ∀ x ∈ l, x.f1.length ≤ 1048576) : Ev (fun k => spec_PutScript.f k l) (putS l) := by
  unfold spec_PutScript.f putS
  refine Ev.bind (specScriptOk_ev l hl hw) ?_
  by_cases h : scriptB l = true
  · obtain ⟨h1, h2⟩ := script_small h
    rw [if_pos h]
    exact Ev.ifT h (Ev.bind (specVar_small _ (by omega) (by omega)) (specPut_l l h1 h2 l.length 0 (v1 l.length) (by omega) (by rw [v1_size]; omega)))
  · rw [if_neg h]
    exact Ev.ifF h (Ev.now _)
theorem implPut_step {x : OpI} (h : Small x) (acc : ByteArray) (ha : acc.size ≤ 200000) (l : List OpI) (n i : Int) (r : ByteArray) (hr : Ev (fun k => impl_PutScript.l0 k (acc ++ (labS x ++ insS x)) l n (wrap64 (i + 1))) r) :
    Ev (fun k => if x.f0 = 2 then impl_PutScript.j2 k acc l n i x.f0 x.f1 x.f2 x.f3 x.f4 else (impl_Var.f k x.f2).bind fun t => if acc.size + t.size ≤ 9223372036854775807 then impl_PutScript.j2 k (acc ++ t) l n i x.f0 x.f1 x.f2 x.f3 x.f4 else none) r := by
  have key : ∀ a : ByteArray, a.size ≤ 300000 → Ev (fun k => impl_PutScript.l0 k (a ++ insS x) l n (wrap64 (i + 1))) r → Ev (fun k => impl_PutScript.j2 k a l n i x.f0 x.f1 x.f2 x.f3 x.f4) r := by
    intro a ha hr
    refine Ev.step (fun _ => rfl) ?_
    simp only [impl_PutScript.j2]
    unfold insS at hr
    by_cases c : x.f0 = 3
    · have h1 := h.frm c
      have h2 := h.cnt c
      rw [if_pos c] at hr
      refine Ev.ifT c (Ev.bind (implVar_small x.f3 h1.1 (by omega)) (Ev.bind (implVar_small x.f4 h2.1 (by omega)) ?_))
      simp only [ByteArray.size_append, v1_size]
      exact Ev.ifT (by omega) (Ev.ifT (by omega) hr)
    · rw [if_neg c, ByteArray.append_empty] at hr
      exact Ev.ifF c hr
  unfold labS at hr
  by_cases c : x.f0 = 2
  · rw [if_pos c, ByteArray.empty_append] at hr
    exact Ev.ifT c (key acc (by omega) hr)
  · have h1 := h.lab c
    rw [if_neg c, ← ByteArray.append_assoc] at hr
    refine Ev.ifF c (Ev.bind (implVar_small x.f2 h1.1 (by omega)) ?_)
    simp only [v1_size]
    exact Ev.ifT (by omega) (key _ (by rw [ByteArray.size_append, v1_size]; omega) hr)
theorem implPut_l1 {x : OpI} (h : Small x) (l : List OpI) (n i : Int) (r : ByteArray) (d : Nat) : ∀ (j : Nat) (acc : ByteArray), j + d = x.f1.length → acc.size + d ≤ 150000 → Ev (fun k => impl_PutScript.l0 k (acc ++ (catS (x.f1.drop j) ++ (labS x ++ insS x))) l n (wrap64 (i + 1))) r →
    Ev (fun k => impl_PutScript.l1 k acc l n i x.f1 x.f1.length j x.f0 x.f1 x.f2 x.f3 x.f4) r := by
  have h12 := h.len
  induction d with
  | zero =>
    intro j acc hj ha hr
    refine Ev.step (fun _ => rfl) ?_
    simp only [impl_PutScript.l1]
    rw [List.drop_of_length_le (by omega)] at hr
    simp only [catS, ByteArray.empty_append] at hr
    exact Ev.ifF (by omega) (implPut_step h acc (by omega) l n i r hr)
  | succ d ih =>
    intro j acc hj ha hr
    have hlt : j < x.f1.length := by omega
    have hp := h.path _ (List.getElem_mem hlt)
    refine Ev.step (fun _ => rfl) ?_
    simp only [impl_PutScript.l1, rd, getD_nat x.f1 j _ hlt]
    rw [List.drop_eq_getElem_cons hlt, catS, ByteArray.append_assoc (a := v1 _), ← ByteArray.append_assoc (b := v1 _)] at hr
    rw [wrap_succ hlt (by omega)]
    refine Ev.ifT (by omega) (Ev.ifT (by omega) (Ev.ifT (by omega) (Ev.bind (implVar_small _ hp.1 (by omega)) ?_)))
    simp only [v1_size]
    exact Ev.ifT (by omega) (ih (j + 1) _ (by omega) (by simp only [ByteArray.size_append, v1_size]; omega) hr)
theorem implPut_l0 (l : List OpI) (hl : l.length ≤ 60) (hs : ∀ x ∈ l, Small x) (d : Nat) : ∀ (i : Nat) (acc : ByteArray), i + d = l.length → acc.size + 17 * d ≤ 100000 → Ev (fun k => impl_PutScript.l0 k acc l l.length i) (acc ++ opsS (l.drop i)) := by
  induction d with
  | zero =>
    intro i acc hi ha
    refine Ev.step (fun _ => rfl) ?_
    simp only [impl_PutScript.l0]
    rw [List.drop_of_length_le (by omega), opsS, ByteArray.append_empty]
    exact Ev.ifF (by omega) (Ev.now _)
  | succ d ih =>
    intro i acc hi ha
    have hlt : i < l.length := by omega
    have hx := hs _ (List.getElem_mem hlt)
    have hz := opS_size hx
    have h12 := hx.len
    have hn := ih (i + 1) (acc ++ opS l[i]) (by omega) (by rw [ByteArray.size_append]; omega)
    refine Ev.step (fun _ => rfl) ?_
    simp only [impl_PutScript.l0, rd_T68, getD_nat l i _ hlt]
    rw [List.drop_eq_getElem_cons hlt, opsS, ← ByteArray.append_assoc]
    refine Ev.ifT (by omega) (Ev.ifT (by omega) (Ev.ifT (by omega) (Ev.bind (implVar_small _ hx.k0 (by have := hx.k1; omega)) (Ev.bind (implVar_small _ (by omega) (by omega)) ?_))))
    simp only [ByteArray.size_append, v1_size]
    refine Ev.ifT (by omega) (Ev.ifT (by omega) ?_)
    refine implPut_l1 hx l l.length i _ l[i].f1.length 0 _ (by omega) (by simp only [ByteArray.size_append, v1_size]; omega) ?_
    rw [wrap_succ hlt (by omega), List.drop_zero, ByteArray.append_assoc (a := acc)]
    exact hn
theorem implPut_ev (l : List OpI) : Ev (fun k => impl_PutScript.f k l) (putS l) := by
  unfold impl_PutScript.f putS
  refine Ev.bindC (implScriptOk_eq l) ?_
  by_cases h : scriptB l = true
  · obtain ⟨h1, h2⟩ := script_small h
    rw [if_pos h]
    exact Ev.ifT h (Ev.bind (implVar_small _ (by omega) (by omega)) (implPut_l0 l h1 h2 l.length 0 (v1 l.length) (by omega) (by rw [v1_size]; omega)))
  · rw [if_neg h]
    exact Ev.ifF h (Ev.now _)
end Go.Proofs.Ytmipigipfmcneaa.Q
namespace Go.Proofs.Ytmipigipfmcneaa.Q
open Go.RowKit Go.Proofs.YtmipigipfmcneaaW.PrintWords Go.Proofs.YtmipigipfmcneaaW.PrintLast Go.Proofs.YtmipigipfmcneaaW.PrintMore Go.Proofs.Ytmipigipfmcneaa.X Go.Proofs.Ytmipigipfmcneaa.Rd
set_option linter.unusedVariables false
set_option linter.unusedSimpArgs false
theorem FnExactPutScript (l : List OpL) (w : WF22 l) : ∃ k, laws_FnExactPutScript.f k l = some true := by
  refine Ev.rounds (g := fun k => laws_FnExactPutScript.f k l) ?_
  unfold laws_FnExactPutScript.f
  obtain ⟨r, hr, hp⟩ := szOpS_ev l 1048576 (by omega) (by omega) w.1 (fun x hx => (w.2 x hx).2.1.1)
  refine Ev.bind hr ?_
  rcases hp with rfl | ⟨p0, p1, p2⟩
  · exact Ev.ifT (by omega) (Ev.now _)
  · refine Ev.ifF (by omega) ?_
    have t := toOpS_ev l (by omega) p2
    have hm := toOp_mem l p2
    have s := specPut_ev (l.map toOp) (by simp; omega) hm
    have i := implPut_ev (l.map toOp)
    exact Ev.bind t (Ev.bind s (Ev.bind t (Ev.bind i (Ev.ifT rfl (Ev.bind t (Ev.bind (eqOpS_ev _ (by simp; omega) (fun x hx => by have := hm x hx; omega)) (Ev.ifT rfl (Ev.now _))))))))
end Go.Proofs.Ytmipigipfmcneaa.Q
