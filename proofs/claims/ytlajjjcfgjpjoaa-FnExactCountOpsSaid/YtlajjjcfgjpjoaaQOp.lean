/- Plain lemmas on the laws' helpers for operations. No claim by itself. -/
import Derived.Test.YtlajjjcfgjpjoaaQInt
import Derived.Test.YtlajjjcfgjpjoaaXf47
import Derived.Test.YtlajjjcfgjpjoaaXf49
import Derived.Test.YtlajjjcfgjpjoaaXf51
namespace Go.Proofs.Ytlajjjcfgjpjoaa.Q
open Go.RowKit Go.Proofs.YtlajjjcfgjpjoaaW.PrintWords Go.Proofs.YtlajjjcfgjpjoaaW.PrintLast Go.Proofs.YtlajjjcfgjpjoaaW.PrintMore Go.Proofs.Ytlajjjcfgjpjoaa.X Go.Proofs.Ytlajjjcfgjpjoaa.Rd
set_option linter.unusedVariables false
set_option linter.unusedSimpArgs false
abbrev OpL := S68
abbrev OpI := S71
def toOp (x : OpL) : OpI := ⟨x.f0, x.f1, x.f2, x.f3, x.f4⟩
theorem szIntS_eq (l : List Int) (a : Int) (ha : 0 ≤ a) (ha' : a ≤ 1048576) (hl : l.length ≤ 9223372036854775807) :
    laws_szIntS.f l a = some (if a < l.length then -1 else a - l.length) := by
  unfold laws_szIntS.f
  rw [wrap_id (by omega) (by omega)]
  by_cases h : a < l.length
  · rw [if_pos (by omega), if_pos h]
  · rw [if_neg (by omega), if_neg h]
theorem szOp_eq (x : OpL) (a : Int) (ha : 0 ≤ a) (ha' : a ≤ 1048576) (hl : x.f1.length ≤ 9223372036854775807) :
    laws_szOp.f x.f0 x.f1 x.f2 x.f3 x.f4 a = some (if a < x.f1.length then -1 else a - x.f1.length) := by
  unfold laws_szOp.f
  rw [szIntS_eq _ _ ha ha' hl, Option.bind_some]
  by_cases h : a < x.f1.length
  · rw [if_pos h, if_pos (by omega)]
  · rw [if_neg h, if_neg (by omega)]
/-- Either the data is too much, or all lengths are small. -/
theorem szOpS_l (l : List OpL) (hl : l.length ≤ 1048576) (hw : ∀ x ∈ l, x.f1.length ≤ 9223372036854775807) (d : Nat) : ∀ (i : Nat) (a : Int), i + d = l.length → 0 ≤ a → a ≤ 1048576 →
    ∃ r, Ev (fun k => laws_szOpS.l0 k l a i) r ∧ (r = -1 ∨ (0 ≤ r ∧ r ≤ a ∧ ∀ j, i ≤ j → (h : j < l.length) → (l[j].f1.length : Int) + r ≤ a)) := by
  induction d with
  | zero =>
    intro i a hi h0 h1
    refine ⟨a, Ev.step (f := fun _ => some a) (fun k => ?_) (Ev.now _), .inr ⟨h0, by omega, fun j hj h => by omega⟩⟩
    simp only [laws_szOpS.l0]
    rw [if_neg (by omega)]
  | succ d ih =>
    intro i a hi h0 h1
    have hlt : i < l.length := by omega
    have hs : ∀ k, laws_szOpS.l0 (k + 1) l a i = (if a < l[i].f1.length then some (-1) else laws_szOpS.l0 k l (a - l[i].f1.length) ((i + 1 : Nat) : Int)) := by
      intro k
      simp only [laws_szOpS.l0]
      rw [if_pos (by omega), if_pos (by omega), wrap_succ hlt (by omega)]
      simp only [rd_T68, Int.toNat_natCast, getD_lt l _ hlt]
      rw [szOp_eq _ _ h0 h1 (hw _ (List.getElem_mem hlt)), Option.bind_some]
      by_cases h : a < l[i].f1.length
      · rw [if_pos h, if_pos (by omega), if_pos h]
      · rw [if_neg h, if_neg (by omega), if_neg h]
    by_cases h : a < l[i].f1.length
    · refine ⟨-1, Ev.step (f := fun _ => some (-1)) (fun k => ?_) (Ev.now _), .inl rfl⟩
      rw [hs, if_pos h]
    · obtain ⟨r, hr, hp⟩ := ih (i + 1) (a - l[i].f1.length) (by omega) (by omega) (by omega)
      refine ⟨r, Ev.step (f := fun k => laws_szOpS.l0 k l (a - l[i].f1.length) ((i + 1 : Nat) : Int)) (fun k => ?_) hr, ?_⟩
      · rw [hs, if_neg h]
      · rcases hp with hp | ⟨p0, p1, p2⟩
        · exact .inl hp
        · refine .inr ⟨p0, by omega, fun j hj h' => ?_⟩
          by_cases e : j = i
          · subst e; omega
          · have := p2 j (by omega) h'
            omega
theorem szOpS_ev (l : List OpL) (a : Int) (ha : 0 ≤ a) (ha' : a ≤ 1048576) (hl : l.length ≤ 9223372036854775807) (hw : ∀ x ∈ l, x.f1.length ≤ 9223372036854775807) :
    ∃ r, Ev (fun k => laws_szOpS.f k l a) r ∧ (r = -1 ∨ (0 ≤ r ∧ (l.length : Int) + r ≤ a ∧ ∀ x ∈ l, x.f1.length ≤ 1048576)) := by
  unfold laws_szOpS.f
  rw [wrap_id (by omega) (by omega)]
  by_cases h : a < l.length
  · exact ⟨-1, Ev.ifT (by omega) (Ev.now _), .inl rfl⟩
  · obtain ⟨r, hr, hp⟩ := szOpS_l l (by omega) hw l.length 0 (a - l.length) (by omega) (by omega) (by omega)
    refine ⟨r, Ev.ifF (by omega) hr, ?_⟩
    rcases hp with hp | ⟨p0, p1, p2⟩
    · exact .inl hp
    · refine .inr ⟨p0, by omega, fun x hx => ?_⟩
      obtain ⟨j, hj, rfl⟩ := List.getElem_of_mem hx
      have := p2 j (by omega) hj
      omega
theorem toOp_ev (x : OpL) (h : x.f1.length ≤ 1048576) : Ev (fun k => laws_toOp.f k x.f0 x.f1 x.f2 x.f3 x.f4) (x.f0, x.f1, x.f2, x.f3, x.f4) := by
  unfold laws_toOp.f
  exact Ev.bind (toIntS_ev _ h) (Ev.now _)
theorem toOpS_ev (l : List OpL) (hl : l.length ≤ 1048576) (hw : ∀ x ∈ l, x.f1.length ≤ 1048576) : Ev (fun k => laws_toOpS.f k l) (l.map toOp) := by
  have h := mapLoop0 laws_toOpS.l0 (fun k x => (laws_toOp.f k x.f0 x.f1 x.f2 x.f3 x.f4).bind fun b => some (⟨b.1, b.2.1, b.2.2.1, b.2.2.2.1, b.2.2.2.2⟩ : OpI)) toOp z68 z71
    (fun k x acc i => by simp only [laws_toOpS.l0, Option.bind_assoc, Option.bind_some, rd_T68]) l (by omega) (fun x hx => Ev.bind (toOp_ev x (hw x hx)) (Ev.now _))
  refine Ev.congr (fun k => ?_) h
  unfold laws_toOpS.f
  rw [if_pos (by omega), if_pos (by omega), Int.toNat_natCast]
theorem eqOp_ev (x : OpI) (h : x.f1.length ≤ 9223372036854775807) : Ev (fun k => laws_eqOp.f k x.f0 x.f1 x.f2 x.f3 x.f4 x.f0 x.f1 x.f2 x.f3 x.f4) true := by
  unfold laws_eqOp.f
  exact Ev.ifT rfl (Ev.bind (eqIntS_ev _ h) (Ev.ifT rfl (Ev.ifT rfl (Ev.ifT rfl (Ev.ifT rfl (Ev.now _))))))
theorem eqOpS_ev (l : List OpI) (hl : l.length ≤ 9223372036854775807) (hw : ∀ x ∈ l, x.f1.length ≤ 9223372036854775807) : Ev (fun k => laws_eqOpS.f k l l) true := by
  have h := eqLoop laws_eqOpS.l0 (fun k x y => laws_eqOp.f k x.f0 x.f1 x.f2 x.f3 x.f4 y.f0 y.f1 y.f2 y.f3 y.f4) z71 (fun k x y i => by simp only [laws_eqOpS.l0, rd_T71]) l hl (fun x hx => eqOp_ev x (hw x hx)) l.length 0 (by omega)
  refine Ev.congr (fun k => ?_) h
  unfold laws_eqOpS.f
  rw [if_pos rfl]; rfl
theorem toOp_mem (l : List OpL) (hw : ∀ x ∈ l, x.f1.length ≤ 1048576) : ∀ x ∈ l.map toOp, x.f1.length ≤ 1048576 := by
  intro x hx
  obtain ⟨y, hy, rfl⟩ := List.mem_map.1 hx
  exact hw y hy
end Go.Proofs.Ytlajjjcfgjpjoaa.Q
