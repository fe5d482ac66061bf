/- Part 9 of the proof of FnApplied: what it needs. -/
import Derived.Shelf.RegionOpenPlain
import Derived.Test.YtbifdckfglejkaaKLApplied8
namespace Go.Proofs.Ytbifdckfglejkaa.X
open Go.RowKit Go.Proofs.YtbifdckfglejkaaW.PrintWords Go.Proofs.YtbifdckfglejkaaW.PrintLast Go.Proofs.YtbifdckfglejkaaW.PrintMore
set_option linter.unusedVariables false
set_option linter.unusedSimpArgs false
theorem nodeInfo : ∃ i0 : TypeInfo, Try.prog.info? 90 = some i0 ∧ i0.zero = some (.agg #[.int .i64 0, .int .i64 0]) ∧ i0.size = 2 := by
 have h := info90
 cases q : Try.prog.info? 90 with
 | none => rw [q] at h; cases h
 | some i0 =>
  rw [q] at h
  injection h with h
  injection h with h1 h2
  injection h2 with h2 h3
  exact ⟨i0, rfl, h1, h2⟩
theorem nodeZero (w : World) : (zeroValue 90).run Try.prog w = .ok (.agg #[.int .i64 0, .int .i64 0]) w := by
 obtain ⟨i0, h1, h2, h3⟩ := nodeInfo
 simp [zeroValue, typeInfo, h1, h2]
theorem zeros_n (m : Nat) : (Builtin.zeroCells (Value.agg #[.int .i64 0, .int .i64 0]).cells m).toList = ncells (List.replicate m ⟨0, 0⟩) := by
 have e : (Value.agg #[.int .i64 0, .int .i64 0]).cells = #[.int .i64 0, .int .i64 0] := rfl
 rw [e]
 apply List.ext_getElem?
 intro k
 by_cases c : k < m * 2
 ·have hx : (List.replicate m (⟨0, 0⟩ : NdI))[k / 2]? = some ⟨0, 0⟩ := by rw [List.getElem?_replicate, if_pos (by omega)]
  have h := ncells_get _ _ _ hx
  have h1 : (Builtin.zeroCells #[Value.int .i64 0, Value.int .i64 0] m).toList[k]? = some (.int .i64 0) := by
   simp only [Builtin.zeroCells, Array.toList_map, Array.toList_range, List.getElem?_map]
   rw [List.getElem?_range (by simpa using c)]
   rcases Nat.mod_two_eq_zero_or_one k with e | e <;> simp [e]
  rw [h1]
  rcases Nat.mod_two_eq_zero_or_one k with e | e
  ·have h2 := h.1
   rw [show k / 2 * 2 = k by omega] at h2
   exact h2.symm
  ·have h2 := h.2
   rw [show k / 2 * 2 + 1 = k by omega] at h2
   exact h2.symm
 ·rw [List.getElem?_eq_none (by simp [Builtin.zeroCells]; omega), List.getElem?_eq_none (by rw [ncells_len, List.length_replicate]; omega)]
theorem run_clearN (w : World) (ty : TypeId) (g o n c : Nat) (cur : List Value) (t : TypeId) (hn : 0 < n) (hg : w.heap[g]? = some (.cells cur.toArray t (0, 0))) (hf : o + n * 2 ≤ cur.length) :
  (Builtin.clear_ #[34] ty #[.slice (some ⟨g, o, none⟩) n c]).run Try.prog w = .ok (.tuple #[]) (w.setCells g o (ncells (List.replicate n ⟨0, 0⟩))) := by
 have hst := run_storeCells_cells (P := Try.prog) g o (ncells (List.replicate n ⟨0, 0⟩)) 0 w
  (by rw [ncells_len, List.length_replicate]; intro j hj; rw [blk_cell hg, List.getElem?_toArray, List.getElem?_eq_getElem (by omega)]; rfl)
  (by intro j _; exact blk_frozen hg _) (ncells_one _)
 simp only [Nat.add_zero] at hst
 obtain ⟨m, rfl⟩ : ∃ m, n = m + 1 := ⟨n - 1, by omega⟩
 simp [Builtin.clear_, run_underlying Try.underlying34, nodeZero, zeros_n, hst]
theorem ncells_take (l : List NdI) (i : Nat) : (ncells l).take (i * 2) = ncells (l.take i) := by
 induction l generalizing i with
 | nil => simp [ncells]
 | cons x l ih =>
  cases i with
  | zero => simp [ncells]
  | succ i => rw [show (i + 1) * 2 = i * 2 + 1 + 1 by omega]; simp only [ncells, List.take_succ_cons, ih]
theorem ncells_drop (l : List NdI) (i : Nat) : (ncells l).drop (i * 2) = ncells (l.drop i) := by
 induction l generalizing i with
 | nil => simp [ncells]
 | cons x l ih =>
  cases i with
  | zero => simp [ncells]
  | succ i => rw [show (i + 1) * 2 = i * 2 + 1 + 1 by omega]; simp only [ncells, List.drop_succ_cons, ih]
theorem NR.put {w : World} {base g cap : Nat} {l : List NdI} (h : NR w base g cap l) (i : Nat) (m : List NdI) (hi : i + m.length ≤ cap) (hil : i ≤ l.length) :
  ∃ cs, w.setCells g (i * 2) (ncells m) = w.setRow g cs ∧ NR (w.setRow g cs) base g cap (l.take i ++ m ++ l.drop (i + m.length)) := by
 obtain ⟨ext, h1, h2⟩ := h.row
 have hn := ncells_len l
 have hm := ncells_len m
 rw [List.length_append] at h2
 refine ⟨_, setCells_row _ _ _ _ h1 (by rw [List.length_append, hm]; omega), h.le, by simp only [List.length_append, List.length_take, List.length_drop]; have := h.fits; omega, h.mx, ext.drop ((i + m.length) * 2 - l.length * 2), ?_, ?_⟩
 ·rw [setRow_heap w g _ _ _ _ h1, ncells_app, ncells_app, ← ncells_take, ← ncells_drop, hm, List.take_append_of_le_length (by omega), List.drop_append, hn, show i * 2 + m.length * 2 = (i + m.length) * 2 by omega]
  simp only [List.append_assoc]
 ·rw [List.length_append, ncells_len, List.length_drop]
  simp only [List.length_append, List.length_take, List.length_drop]
  omega
theorem NR.zero {w : World} {base g cap : Nat} {l : List NdI} (h : NR w base g cap l) (i : Nat) (hi : i ≤ l.length) : NR w base g cap (l.take i) := by
 obtain ⟨ext, h1, h2⟩ := h.row
 have e : ncells l = ncells (l.take i) ++ ncells (l.drop i) := by rw [← ncells_app, List.take_append_drop]
 refine ⟨h.le, by rw [List.length_take]; have := h.fits; omega, h.mx, ncells (l.drop i) ++ ext, ?_, ?_⟩
 ·rw [← List.append_assoc, ← e]; exact h1
 ·rw [← List.append_assoc, ← e]; exact h2
theorem NR.drew {w : World} {base g cap : Nat} {l : List NdI} (h : NR w base g cap l) (q : Nat) : NR (w.drewN q) base g cap l := h.keep rfl
set_option maxHeartbeats 4000000 in
set_option maxRecDepth 100000 in
theorem Delete_calls (w : World) (base g cap i j : Nat) (l : List NdI) (hR : NR w base g cap l) (hi : i < j) (hj : j ≤ l.length) (hm : cap ≤ 9223372036854775807) :
  Calls Try.prog 106 #[.slice (some ⟨g, 0, none⟩) l.length cap, .int .i64 i, .int .i64 j] w fun e w' => e = .returned (.slice (some ⟨g, 0, none⟩) (i + (l.length - j)) cap) ∧ NR w' base g cap (l.take i ++ l.drop j) ∧ ∃ q cs, w' = (w.drewN q).setRow g cs := by
 have hf := hR.fits
 have hic : i ≤ cap := by omega
 have hjc : j ≤ cap := by omega
 have heq : ¬ i = j := by omega
 obtain ⟨i0, hi0, hiz, his⟩ := nodeInfo
 -- the cells that are moved to the left
 have hD : NR w.drew base g cap l := hR.keep rfl
 have hdl : (l.drop j).length = l.length - j := by simp
 obtain ⟨cs1, hc1, hN1⟩ := hD.put i (l.drop j) (by omega) (by omega)
 obtain ⟨A, hA, hsrc⟩ : ∃ A : Addr, (if cap = j then some (⟨g, 0, none⟩ : Addr) else some ⟨g, j * 2, none⟩) = some A ∧ Hid (∀ t u, (ncells (l.drop j))[t]? = some u → w.drew.cell? (A.add t) = some u) := by
  obtain ⟨ext, h1, h2⟩ := hD.row
  by_cases h : cap = j
  ·refine ⟨⟨g, 0, none⟩, by simp [h], fun t u hu => ?_⟩
   have := (List.getElem?_eq_some_iff.1 hu).1
   rw [ncells_len, hdl] at this
   omega
  ·refine ⟨⟨g, j * 2, none⟩, by simp [h], fun t u hu => ?_⟩
   rw [Addr.add_lit, blk_cell h1, List.getElem?_toArray, List.getElem?_append_left (by have := (List.getElem?_eq_some_iff.1 hu).1; rw [ncells_len, hdl] at this; rw [ncells_len]; omega)]
   rw [← ncells_drop, List.getElem?_drop] at hu
   exact hu
 have s1 : Hid ((ncells (l.drop j)).length = (l.length - j) * 2) := by rw [ncells_len, hdl]; rfl
 have s2 : Hid (∀ u ∈ ncells (l.drop j), u.oneCell' = true) := ncells_one _
 have s3 : Hid (∀ t, t < (ncells (l.drop j)).length → (w.drew.cell? ⟨g, 0 + i * 2 + t, none⟩).isSome = true ∧ w.drew.frozen? ⟨g, 0 + i * 2 + t, none⟩ = false) := by
  intro t ht
  obtain ⟨ext, h1, h2⟩ := hD.row
  rw [ncells_len, hdl] at ht
  have hn := ncells_len l
  rw [List.length_append] at h2
  refine ⟨?_, blk_frozen h1 _⟩
  rw [blk_cell h1, List.getElem?_toArray, List.getElem?_eq_getElem (by rw [List.length_append]; omega)]
  rfl
 obtain ⟨W1, hW1⟩ : ∃ W1, W1 = w.drew.setCells g (0 + i * 2) (ncells (l.drop j)) := ⟨_, rfl⟩
 have hW1' : W1 = w.drew.setRow g cs1 := by rw [hW1, Nat.zero_add]; exact hc1
 rw [← hW1'] at hN1
 -- what is behind is cleared
 have hl2 : (l.take i ++ l.drop j ++ l.drop (i + (l.drop j).length)).length = l.length := by simp only [List.length_append, List.length_take, List.length_drop]; omega
 obtain ⟨cs2, hc2, hN2⟩ := hN1.put (i + (l.length - j)) (List.replicate (j - i) ⟨0, 0⟩) (by rw [List.length_replicate]; omega) (by rw [hl2]; omega)
 have hcl : ∀ ty, (Builtin.clear_ #[34] ty #[.slice (some ⟨g, (i + (l.length - j)) * 2, none⟩) (l.length - (i + (l.length - j))) (cap - (i + (l.length - j)))]).run Try.prog W1 = .ok (.tuple #[]) (W1.setRow g cs2) := by
  intro ty
  obtain ⟨ext, h1, h2⟩ := hN1.row
  rw [run_clearN W1 ty g _ _ _ _ _ (by omega) h1 (by rw [h2]; omega), show l.length - (i + (l.length - j)) = j - i by omega, hc2]
 have HW := Aside0.mk hW1'
 have hW : Hid (W1 = w.drew.setCells g (0 + i * 2) (ncells (l.drop j))) := hW1
 have HN2 := Aside0.mk hN2
 have hmix : Try.prog.follows Departure.mixedOrders = true := by kernel_rfl
 have HI0 := Aside0.mk hi0
 have HIS := Aside0.mk his
 obtain ⟨n, hn⟩ : ∃ n, n = l.length := ⟨_, rfl⟩
 have HNL := Aside0.mk hn
 rw [← hn] at hj hf s1 hcl ⊢
 generalize ncells (l.drop j) = news at hsrc s1 s2 s3 hW
 clear hR hW1 hW1' hN1 hN2 hD hc1 hc2 hdl hl2 hi0 hiz his hn
 go_enter Try.func106, Try.ntmps106
 go_wp2_with fail
 go_region_law_o (refine step_append_room rfl (.tmp 22) (.tmp 25) 34 rfl 90 i0 2 Try.underlying34 HI0.out HIS.out g 0 i cap (by simp [Act.eval, Act.put]) A (n - j) (cap - j) news (by simp [Act.eval, Act.put]) s1.out hsrc.out s2.out (by omega) s3.out ?_; rw [← hW.out])
 go_wp2
 go_ret
 have hn := HNL.out
 subst hn
 have e1 : (l.take i ++ l.drop j).length = i + (l.length - j) := by simp only [List.length_append, List.length_take, List.length_drop]; omega
 refine ⟨rfl, ?_, 1, cs2, by rw [HW.out, setRow_setRow]; rfl⟩
 have h := HN2.out.zero (i + (l.length - j)) (by simp only [List.length_append, List.length_take, List.length_drop, List.length_replicate]; omega)
 rw [← e1, List.take_left, List.append_assoc, List.take_left] at h
 exact h
end Go.Proofs.Ytbifdckfglejkaa.X
