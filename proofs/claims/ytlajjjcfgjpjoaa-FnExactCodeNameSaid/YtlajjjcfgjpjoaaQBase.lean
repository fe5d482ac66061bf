/- Plain lemmas on the printed functions' own words. No claim by itself. -/
import Derived.Test.YtlajjjcfgjpjoaaRdT
namespace Go.Proofs.Ytlajjjcfgjpjoaa.Q
open Go.RowKit Go.Proofs.YtlajjjcfgjpjoaaW.PrintWords Go.Proofs.YtlajjjcfgjpjoaaW.PrintLast Go.Proofs.YtlajjjcfgjpjoaaW.PrintMore Go.Proofs.Ytlajjjcfgjpjoaa.X Go.Proofs.Ytlajjjcfgjpjoaa.Rd
set_option linter.unusedVariables false
set_option linter.unusedSimpArgs false

theorem wrap_id {x : Int} (h : -9223372036854775808 ≤ x) (h' : x ≤ 9223372036854775807) : wrap64 x = x := by
  unfold wrap64; omega
theorem wrap_succ {i n : Nat} (h : i < n) (hn : n ≤ 9223372036854775807) : wrap64 ((i : Int) + 1) = ((i + 1 : Nat) : Int) := by
  unfold wrap64; omega
theorem Ev.constOf {α : Type} {o : Option α} {r : α} (h : o = some r) : Ev (fun _ => o) r := ⟨0, fun _ _ => h⟩
theorem Ev.bindC {α β : Type} {o : Option α} {f : Nat → α → Option β} {a : α} {r : β} (h : o = some a) (k : Ev (fun n => f n a) r) : Ev (fun n => o.bind (f n)) r :=
  Ev.bind (Ev.constOf h) k
theorem Ev.ifT {α : Type} {c : Prop} [Decidable c] {g f : Nat → Option α} {r : α} (h : c) (k : Ev g r) : Ev (fun n => if c then g n else f n) r := by
  simpa only [if_pos h] using k
theorem Ev.ifF {α : Type} {c : Prop} [Decidable c] {g f : Nat → Option α} {r : α} (h : ¬ c) (k : Ev f r) : Ev (fun n => if c then g n else f n) r := by
  simpa only [if_neg h] using k
theorem getD_nat {α : Type} (xs : List α) (i : Nat) (d : α) (h : i < xs.length) : xs.getD ((i : Int)).toNat d = xs[i] := by
  rw [Int.toNat_natCast, List.getD_eq_getElem?_getD, List.getElem?_eq_getElem h]; rfl
theorem getD_lt {α : Type} (xs : List α) {i : Nat} (d : α) (h : i < xs.length) : xs.getD i d = xs[i] := by
  rw [List.getD_eq_getElem?_getD, List.getElem?_eq_getElem h]; rfl
theorem take_succ_map {α β : Type} (f : α → β) (l : List α) (i : Nat) (h : i < l.length) : (l.take (i + 1)).map f = (l.take i).map f ++ [f l[i]] := by
  rw [List.take_succ_eq_append_getElem h, List.map_append]; rfl
theorem take_succ_append {α : Type} (l : List α) (i : Nat) (h : i < l.length) : l.take (i + 1) = l.take i ++ [l[i]] := List.take_succ_eq_append_getElem h
/-- A loop that counts up to n: each round ends it or goes on. -/
theorem upLoop {σ ρ : Type} (F : Nat → σ → Int → Option ρ) (n : Nat) (Inv : Nat → σ → Prop)
    (hs : ∀ i s, i < n → Inv i s → (∃ r, Ev (fun k => F k s i) r) ∨ ∃ s', Inv (i + 1) s' ∧ ∀ r, Ev (fun k => F k s' ((i + 1 : Nat) : Int)) r → Ev (fun k => F k s i) r)
    (he : ∀ s, Inv n s → ∃ r, Ev (fun k => F k s n) r) : ∀ (d i : Nat) s, i + d = n → Inv i s → ∃ r, Ev (fun k => F k s i) r := by
  intro d
  induction d with
  | zero => intro i s hi hv; obtain rfl : i = n := by omega
            exact he s hv
  | succ d ih =>
    intro i s hi hv
    rcases hs i s (by omega) hv with h | ⟨s', hv', h⟩
    · exact h
    · obtain ⟨r, hr⟩ := ih (i + 1) s' (by omega) hv'
      exact ⟨r, h r hr⟩

/-- The loop of the helpers that copy a list into the mirror's type. -/
theorem mapLoop {A B : Type} (F : Nat → List A → List B → Int → Option (List B)) (g : Nat → A → Option B) (h : A → B) (dA : A)
    (hF : ∀ k x acc i, F (k + 1) x acc i = if i < (x.length : Int) then (if 0 ≤ i then ((g k (x.getD i.toNat dA)).bind fun b => if i < (acc.length : Int) then F k x (acc.set i.toNat b) (wrap64 (i + 1)) else none) else none) else some acc)
    (l : List A) (hl : l.length ≤ 9223372036854775807) (hg : ∀ x ∈ l, Ev (fun k => g k x) (h x)) (d : Nat) : ∀ (i : Nat) (acc : List B), i + d = l.length → acc.length = l.length → acc.take i = (l.take i).map h →
    Ev (fun k => F k l acc i) (l.map h) := by
  induction d with
  | zero =>
    intro i acc hi ha ht
    have : acc = l.map h := by
      rw [List.take_of_length_le (by omega), List.take_of_length_le (by omega)] at ht
      exact ht
    subst this
    refine Ev.step (f := fun _ => some (l.map h)) (fun k => ?_) (Ev.now _)
    rw [hF, if_neg (by omega)]
  | succ d ih =>
    intro i acc hi ha ht
    have hlt : i < l.length := by omega
    have hn := ih (i + 1) (acc.set i (h l[i])) (by omega) (by simpa using ha) (by
      rw [take_succ_map h l i hlt, take_succ_append _ i (by simp; omega), List.getElem_set_self, List.take_set_of_le (Nat.le_refl i), ht])
    refine Ev.step (f := fun k => (g k l[i]).bind fun b => F k l (acc.set i b) ((i + 1 : Nat) : Int)) (fun k => ?_) (Ev.bind (hg l[i] (List.getElem_mem hlt)) hn)
    rw [hF, if_pos (by omega), if_pos (by omega), Int.toNat_natCast, getD_lt l _ hlt, wrap_succ hlt hl]
    congr 1
    funext b
    rw [if_pos (by omega)]
theorem mapLoop0 {A B : Type} (F : Nat → List A → List B → Int → Option (List B)) (g : Nat → A → Option B) (h : A → B) (dA : A) (z : B)
    (hF : ∀ k x acc i, F (k + 1) x acc i = if i < (x.length : Int) then (if 0 ≤ i then ((g k (x.getD i.toNat dA)).bind fun b => if i < (acc.length : Int) then F k x (acc.set i.toNat b) (wrap64 (i + 1)) else none) else none) else some acc)
    (l : List A) (hl : l.length ≤ 9223372036854775807) (hg : ∀ x ∈ l, Ev (fun k => g k x) (h x)) : Ev (fun k => F k l (List.replicate l.length z) 0) (l.map h) :=
  mapLoop F g h dA hF l hl hg l.length 0 (List.replicate l.length z) (by omega) (by simp) (by simp)

/-- The loop of the helpers that compare two lists, at one list. -/
theorem eqLoop {A : Type} (F : Nat → List A → List A → Int → Option Bool) (e : Nat → A → A → Option Bool) (dA : A)
    (hF : ∀ k x y i, F (k + 1) x y i = if i < (x.length : Int) then (if 0 ≤ i then (if i < (y.length : Int) then ((e k (x.getD i.toNat dA) (y.getD i.toNat dA)).bind fun t => if t = true then F k x y (wrap64 (i + 1)) else some false) else none) else none) else some true)
    (l : List A) (hl : l.length ≤ 9223372036854775807) (he : ∀ x ∈ l, Ev (fun k => e k x x) true) (d : Nat) : ∀ (i : Nat), i + d = l.length → Ev (fun k => F k l l i) true := by
  induction d with
  | zero =>
    intro i hi
    refine Ev.step (f := fun _ => some true) (fun k => ?_) (Ev.now _)
    rw [hF, if_neg (by omega)]
  | succ d ih =>
    intro i hi
    have hlt : i < l.length := by omega
    refine Ev.step (f := fun k => (e k l[i] l[i]).bind fun t => if t = true then F k l l ((i + 1 : Nat) : Int) else some false) (fun k => ?_) (Ev.bind (he l[i] (List.getElem_mem hlt)) ?_)
    · rw [hF, if_pos (by omega), if_pos (by omega), if_pos (by omega), Int.toNat_natCast, getD_lt l _ hlt, wrap_succ hlt hl]
    · exact Ev.ifT rfl (ih (i + 1) (by omega))
end Go.Proofs.Ytlajjjcfgjpjoaa.Q
