/- Plain lemmas on the helpers for pairs of the laws. No claim by itself. -/
import Derived.Test.YtlajjjcfgjpjoaaQBase
import Derived.Test.YtlajjjcfgjpjoaaXf19
import Derived.Test.YtlajjjcfgjpjoaaXf21
import Derived.Test.YtlajjjcfgjpjoaaXf23
import Derived.Test.YtlajjjcfgjpjoaaXf28
import Derived.Test.YtlajjjcfgjpjoaaXf29
namespace Go.Proofs.Ytlajjjcfgjpjoaa.Q
open Go.RowKit Go.Proofs.YtlajjjcfgjpjoaaW.PrintWords Go.Proofs.YtlajjjcfgjpjoaaW.PrintLast Go.Proofs.YtlajjjcfgjpjoaaW.PrintMore Go.Proofs.Ytlajjjcfgjpjoaa.X Go.Proofs.Ytlajjjcfgjpjoaa.Rd
abbrev PairL := S87
abbrev PairI := S85
def toPair (x : PairL) : PairI := ⟨x.f0, x.f1⟩

theorem szPairS_eq (l : List PairL) (a : Int) (ha : 0 ≤ a) (ha' : a ≤ 1048576) (hl : l.length ≤ 9223372036854775807) :
    laws_szPairS.f l a = some (if a < l.length then -1 else a - l.length) := by
  unfold laws_szPairS.f
  rw [wrap_id (by omega) (by omega)]
  by_cases h : a < l.length
  · rw [if_pos (by omega), if_pos h]
  · rw [if_neg (by omega), if_neg h]

theorem toPairS_l (l : List PairL) (hl : l.length ≤ 1048576) (d : Nat) : ∀ (i : Nat) (acc : List PairI), i + d = l.length → acc.length = l.length → acc.take i = (l.take i).map toPair →
    Ev (fun k => laws_toPairS.l0 k l acc i) (l.map toPair) := by
  induction d with
  | zero =>
    intro i acc hi ha ht
    have : acc = l.map toPair := by
      rw [List.take_of_length_le (by omega), List.take_of_length_le (by omega)] at ht
      exact ht
    subst this
    refine Ev.step (f := fun _ => some (l.map toPair)) (fun k => ?_) (Ev.now _)
    simp only [laws_toPairS.l0]
    rw [if_neg (by omega)]
  | succ d ih =>
    intro i acc hi ha ht
    have hlt : i < l.length := by omega
    refine Ev.step (f := fun k => laws_toPairS.l0 k l (acc.set i (toPair l[i])) ((i + 1 : Nat) : Int)) (fun k => ?_) (ih (i + 1) (acc.set i (toPair l[i])) (by omega) (by simpa using ha) ?_)
    · simp only [laws_toPairS.l0]
      rw [if_pos (by omega), if_pos (by omega)]
      simp only [laws_toPair.f, Option.bind_some]
      rw [if_pos (by omega), wrap_succ hlt (by omega)]
      simp only [rd_T87, Int.toNat_natCast, getD_lt l _ hlt]
      rfl
    · rw [take_succ_map toPair l i hlt, take_succ_append _ i (by simp; omega), List.getElem_set_self, List.take_set_of_le (Nat.le_refl i), ht]
theorem toPairS_ev (l : List PairL) (hl : l.length ≤ 1048576) : Ev (fun k => laws_toPairS.f k l) (l.map toPair) := by
  have h := toPairS_l l hl l.length 0 (List.replicate l.length z85) (by omega) (by simp) (by simp)
  refine Ev.congr (fun k => ?_) h
  unfold laws_toPairS.f
  rw [if_pos (by omega), if_pos (by omega), Int.toNat_natCast]
  rfl

theorem eqPairS_l (l : List PairI) (hl : l.length ≤ 9223372036854775807) (d : Nat) : ∀ (i : Nat), i + d = l.length → Ev (fun k => laws_eqPairS.l0 k l l i) true := by
  induction d with
  | zero =>
    intro i hi
    refine Ev.step (f := fun _ => some true) (fun k => ?_) (Ev.now _)
    simp only [laws_eqPairS.l0]
    rw [if_neg (by omega)]
  | succ d ih =>
    intro i hi
    have hlt : i < l.length := by omega
    refine Ev.step (f := fun k => laws_eqPairS.l0 k l l ((i + 1 : Nat) : Int)) (fun k => ?_) (ih (i + 1) (by omega))
    simp only [laws_eqPairS.l0]
    rw [if_pos (by omega), if_pos (by omega), if_pos (by omega)]
    simp only [laws_eqPair.f, if_true, Option.bind_some]
    rw [wrap_succ hlt hl]
theorem eqPairS_ev (l : List PairI) (hl : l.length ≤ 9223372036854775807) : Ev (fun k => laws_eqPairS.f k l l) true := by
  refine Ev.congr (fun k => ?_) (eqPairS_l l hl l.length 0 (by omega))
  unfold laws_eqPairS.f
  rw [if_pos rfl]; rfl

def heldPair (m : Int) (l : List PairI) : Prop := ∀ j, (h : j < l.length) → l[j] = ⟨m + 2 * j, m + 2 * j + 1⟩
theorem markPairS_l (m : Int) (n : Nat) (hm0 : 0 ≤ m) (hm : m + 2 * n ≤ 4611686018427387904) (d : Nat) : ∀ (i : Nat) (l : List PairI), l.length = n → i + d = n → (∀ j, (h : j < l.length) → j < i → l[j] = ⟨m + 2 * j, m + 2 * j + 1⟩) →
    ∃ r, r.length = n ∧ heldPair m r ∧ Ev (fun k => laws_markPairS.l0 k l (m + 2 * i) i) (m + 2 * n, r) := by
  induction d with
  | zero =>
    intro i l hl hi hh
    refine ⟨l, hl, fun j h => hh j h (by omega), Ev.step (f := fun _ => some (m + 2 * n, l)) (fun k => ?_) (Ev.now _)⟩
    simp only [laws_markPairS.l0]
    rw [if_neg (by omega), show i = n by omega]
  | succ d ih =>
    intro i l hl hi hh
    have hlt : i < l.length := by omega
    obtain ⟨r, hr, hh', he⟩ := ih (i + 1) (l.set i ⟨m + 2 * i, m + 2 * i + 1⟩) (by simpa using hl) (by omega) (fun j hj hji => by
      rw [List.getElem_set]
      split
      · next e => subst e; rfl
      · exact hh j (by simpa using hj) (by omega))
    refine ⟨r, hr, hh', Ev.step (f := fun k => laws_markPairS.l0 k (l.set i ⟨m + 2 * i, m + 2 * i + 1⟩) (m + 2 * ((i + 1 : Nat) : Int)) ((i + 1 : Nat) : Int)) (fun k => ?_) he⟩
    simp only [laws_markPairS.l0]
    rw [if_pos (by omega), if_pos (by omega), Option.bind_some, wrap_succ hlt (by omega), wrap_id (x := m + 2 * (i : Int) + 1) (by omega) (by omega), wrap_id (by omega) (by omega)]
    simp only [rd_T85, Int.toNat_natCast, List.set_set, List.getD_eq_getElem?_getD, List.getElem?_set_self hlt, Option.getD_some]
    congr 1
    omega
theorem heldPairS_l (m : Int) (r : List PairI) (hm0 : 0 ≤ m) (hm : m + 2 * r.length ≤ 4611686018427387904) (hr : heldPair m r) (d : Nat) : ∀ (i : Nat), i + d = r.length → Ev (fun k => laws_heldPairS.l0 k r (m + 2 * i) i) (m + 2 * r.length) := by
  induction d with
  | zero =>
    intro i hi
    refine Ev.step (f := fun _ => some (m + 2 * r.length)) (fun k => ?_) (Ev.now _)
    simp only [laws_heldPairS.l0]
    rw [if_neg (by omega), show i = r.length by omega]
  | succ d ih =>
    intro i hi
    have hlt : i < r.length := by omega
    refine Ev.step (f := fun k => laws_heldPairS.l0 k r (m + 2 * ((i + 1 : Nat) : Int)) ((i + 1 : Nat) : Int)) (fun k => ?_) (ih (i + 1) (by omega))
    have e := hr i hlt
    simp only [laws_heldPairS.l0]
    rw [if_pos (by omega), if_pos (by omega)]
    simp only [rd_T85, getD_nat r i _ hlt, e, if_true]
    rw [wrap_id (x := m + 2 * (i : Int) + 1) (by omega) (by omega), if_pos rfl, wrap_id (by omega) (by omega), wrap_succ hlt (by omega)]
    congr 1
    omega
/-- What mark leaves, held finds; from m on. -/
theorem markPairS_ev (m : Int) (l : List PairI) (hm0 : 0 ≤ m) (hm : m + 2 * l.length ≤ 4611686018427387904) :
    ∃ r, r.length = l.length ∧ Ev (fun k => laws_markPairS.f k l m) (m + 2 * l.length, r) ∧ Ev (fun k => laws_heldPairS.f k r m) (m + 2 * l.length) := by
  obtain ⟨r, hr, hh, he⟩ := markPairS_l m l.length hm0 hm l.length 0 l rfl (by omega) (fun j _ h => absurd h (Nat.not_lt_zero _))
  refine ⟨r, hr, Ev.congr (fun k => ?_) he, ?_⟩
  · unfold laws_markPairS.f
    simp
  · have h2 := heldPairS_l m r hm0 (by omega) hh r.length 0 (by omega)
    rw [hr] at h2
    refine Ev.congr (fun k => ?_) h2
    unfold laws_heldPairS.f
    simp
end Go.Proofs.Ytlajjjcfgjpjoaa.Q
