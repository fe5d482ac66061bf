/- Part 10 of the proof of FnExactApplyOp: what it needs. -/
import Derived.Shelf.Spec.SlicesInsert
import Derived.Lib.AppendZerosOnto
import Derived.Laws.NewBlocks
import Derived.Test.YtbifdckfglejkaaKEApplyOp3
import Derived.Test.YtbifdckfglejkaaKEApplyOp4
import Derived.Test.YtbifdckfglejkaaKEApplyOp5
import Derived.Test.YtbifdckfglejkaaKEApplyOp8
import Derived.Test.YtbifdckfglejkaaKEApplyOp9
namespace Go.Proofs.Ytbifdckfglejkaa.X
open Go.RowKit Go.Lib Go.Proofs.YtbifdckfglejkaaW.PrintWords Go.Proofs.YtbifdckfglejkaaW.PrintLast Go.Proofs.YtbifdckfglejkaaW.PrintMore
set_option linter.unusedVariables false
set_option linter.unusedSimpArgs false
theorem NR.owns {w : World} {base g cap : Nat} {l : List NdI} (h : NR w base g cap l) : w.ownsRow base 90 2 (.slice (some ⟨g, 0, none⟩) l.length cap) l.length (ncells l) := by
 obtain ⟨ext, h1, h2⟩ := h.row
 refine ⟨ncells_len l, .inr ⟨g, cap, _, rfl, h.le, h1, h.fits, h.mx, h2, ?_⟩⟩
 show List.take (l.length * 2) (ncells l ++ ext) = ncells l
 rw [← ncells_len, List.take_left]
theorem NR.of_owns {w : World} {base : Nat} {v : Value} {l : List NdI} (h : w.ownsRow base 90 2 v l.length (ncells l)) (hl : 0 < l.length) : ∃ g cap, v = .slice (some ⟨g, 0, none⟩) l.length cap ∧ NR w base g cap l :=
 NR.of (ok := fun _ => True) ⟨fun _ _ => trivial, ncells l, h, ncells_reps l⟩ hl
theorem grown_setRow (w : World) (q g : Nat) (cs : Array Value) : w.grownBy ((w.drewN q).setRow g cs) (some g) :=
 ⟨rfl, rfl, rfl, by simp [World.setRow], fun k _ hk => by rw [setRow_other _ _ _ _ (fun e => hk (by rw [e]))]; rfl⟩
theorem NR.src {w : World} {base g cap : Nat} {l : List NdI} (h : NR w base g cap l) (i : Nat) : ∀ j u, (ncells (l.drop i))[j]? = some u → w.cell? ((⟨g, i * 2, none⟩ : Addr).add j) = some u := by
 intro j u hu
 obtain ⟨ext, h1, h2⟩ := h.row
 rw [← ncells_drop, List.getElem?_drop] at hu
 rw [Addr.add_lit, blk_cell h1, List.getElem?_toArray, List.getElem?_append_left (by have := (List.getElem?_eq_some_iff.1 hu).1; omega)]
 exact hu
theorem run_copyN (w : World) (ty : TypeId) (b o dLen dCap : Nat) (a : Addr) (sLen sCap n : Nat) (cs : List Value) (hn : n = Nat.min sLen dLen) (hl : cs.length = n * 2)
  (hsrc : ∀ j v, cs[j]? = some v → w.cell? (a.add j) = some v) (hc : ∀ j, j < cs.length → (w.cell? ⟨b, o + j, none⟩).isSome = true) (hf : ∀ j, j < cs.length → w.frozen? ⟨b, o + j, none⟩ = false) (h1 : ∀ v ∈ cs, v.oneCell' = true) :
  (Builtin.copy_ #[34, 34] ty #[.slice (some ⟨b, o, none⟩) dLen dCap, .slice (some a) sLen sCap]).run Try.prog w = .ok (goInt n) (w.setCells b o cs) := by
 obtain ⟨i0, h01, h02, h03⟩ := nodeInfo
 have hst := run_storeCells_cells (P := Try.prog) b o cs 0 w (by simpa using hc) (by simpa using hf) h1
 have hfc := run_firstCells_some (P := Try.prog) w 2 n a sLen sCap cs hl hsrc
 simp only [Nat.add_zero] at hst
 simp [Builtin.copy_, run_underlying Try.underlying34, Builtin.lenOf, sizeOf, typeInfo, h01, h03, ← hn, hfc, hst]
theorem nodeBytes : ∃ i0 : TypeInfo, Try.prog.info? 90 = some i0 ∧ i0.zero = some (.agg #[.int .i64 0, .int .i64 0]) ∧ i0.size = 2 ∧ i0.bytes = 16 := by
 have h := info90
 cases q : Try.prog.info? 90 with
 | none => rw [q] at h; cases h
 | some i0 =>
  rw [q] at h
  injection h with h
  injection h with h1 h2
  injection h2 with h2 h3
  exact ⟨i0, rfl, h1, h2, h3⟩
set_option maxHeartbeats 4000000 in
set_option maxRecDepth 100000 in
theorem Insert_end (w : World) (base g cap vb vc m n : Nat) (l vs : List NdI) (hR : NR w base g cap l) (hV : NR w base vb vc vs) (hl0 : 0 < l.length) (hm0 : 0 < m) (hm : m = vs.length) (hn : n = l.length) (hbig : n + m ≤ 1048576) :
  Calls Try.prog 107 #[.slice (some ⟨g, 0, none⟩) n cap, .int .i64 n, .slice (some ⟨vb, 0, none⟩) m vc] w fun e w' =>
   ∃ g' cap', e = .returned (.slice (some ⟨g', 0, none⟩) (n + m) cap') ∧ NR w' base g' cap' (l ++ vs) ∧ w.grownBy w' (some g) := by
 obtain ⟨i0, h01, h02, h03, h04⟩ := nodeBytes
 have hO := hR.owns
 have hlt := hR.lt
 have hle := hR.le
 have hs := hV.src 0
 have hvl := ncells_len vs
 rw [Nat.zero_mul, List.drop_zero] at hs
 rw [← hn] at hO
 rw [← hm] at hvl
 have HO := Aside0.mk hO
 have HS := Aside0.mk hs
 have HVL := Aside0.mk hvl
 have HI := Aside0.mk (And.intro h01 (And.intro h02 (And.intro h03 h04)))
 have HN := Aside0.mk hn
 have HM := Aside0.mk hm
 have hz1 : ¬ ((m : Int) = 0) := by omega
 have hbase : base ≤ w.heap.size := by omega
 have hmix : Try.prog.follows Departure.mixedOrders = true := by kernel_rfl
 have hmx : n + m ≤ maxLen := by unfold maxLen; omega
 have hnm : ncells l ++ ncells vs = ncells (l ++ vs) := (ncells_app l vs).symm
 have HNM := Aside0.mk hnm
 clear hR hV hO hs hvl h01 h02 h03 h04 hn hm hle hlt hnm
 go_enter Try.func107, Try.ntmps107
 go_wp2_with (at_builtin; refine wpList_append_own _ rfl _ _ 34 rfl base 90 i0 (.agg #[.int .i64 0, .int .i64 0]) 2 16 Try.underlying34 HI.out.1 HI.out.2.1 HI.out.2.2.1 HI.out.2.2.2 rfl (by omega) _ n (ncells l) rfl HO.out ⟨vb, 0, none⟩ m vc (ncells vs) rfl HVL.out HS.out (ncells_one vs) hmx (by omega) hbase ?_; intro v' w' h1 h2 _; have H1 := Aside0.mk h1; have H2 := Aside0.mk h2; clear h1 h2)
 all_goals
  go_ret
  obtain ⟨g', cap', e, hN⟩ := NR.of_owns (base := base) (v := v') (l := l ++ vs) (by rw [List.length_append, ← HN.out, ← HM.out, ← HNM.out]; exact H1.out) (by rw [List.length_append]; omega)
  rw [List.length_append, ← HN.out, ← HM.out] at e
  exact ⟨g', cap', congrArg Ending.returned e, hN, H2.out⟩
set_option maxHeartbeats 4000000 in
set_option maxRecDepth 100000 in
theorem Insert_shift (w : World) (base g cap vb vc i m n : Nat) (l vs : List NdI) (hR : NR w base g cap l) (hV : NR w base vb vc vs) (hvg : vb ≠ g) (hm0 : 0 < m) (hm : m = vs.length) (hn : n = l.length) (hi : i < n) (hmi : i + m ≤ n) (hroom : n + m ≤ cap) (hbig : n + m ≤ 1048576) (hcap : cap ≤ 9223372036854775807) :
  Calls Try.prog 107 #[.slice (some ⟨g, 0, none⟩) n cap, .int .i64 i, .slice (some ⟨vb, 0, none⟩) m vc] w fun e w' =>
   e = .returned (.slice (some ⟨g, 0, none⟩) (n + m) cap) ∧ NR w' base g cap (l.take i ++ vs ++ l.drop i) ∧ ∃ q cs, w' = (w.drewN q).setRow g cs := by
 have hz1 : ¬ ((m : Int) = 0) := by omega
 have hz2 : ¬ ((i : Int) = (n : Int)) := by omega
 have hD : NR w.drew base g cap l := hR.keep rfl
 have hdl : (l.drop i).length = n - i := by simp [hn]
 have hov : ∀ lb cb, (callFunc 132 #[.slice (some ⟨vb, 0, none⟩) m vc, .slice (some ⟨g, (i + m) * 2, none⟩) lb cb]).run Try.prog w = .ok (.value (.bool false)) w := fun lb cb => by
  obtain ⟨e1, h1, h2⟩ := hR.row
  obtain ⟨e2, h3, h4⟩ := hV.row
  have hsz : ∀ w, (Go.sizeOf 90).run Try.prog w = .ok 2 w := by
   intro w
   obtain ⟨i0, h01, h02, h03⟩ := nodeInfo
   simp [Go.sizeOf, typeInfo, h01, h03]
  rw [run_callFunc_extern Try.func132 (by kernel_rfl) (by kernel_rfl) (by kernel_rfl) (e := Extern.SlicesOverlaps.overlaps #[34, 34] #[4]) (by kernel_rfl),
   Lib.run_overlaps_apart w 34 4 90 Try.underlying34 2 hsz ⟨vb, 0, none⟩ ⟨g, (i + m) * 2, none⟩ m vc lb cb hvg 90 90 (vc * 2) (cap * 2) (by simp only [World.shape?, h3, List.size_toArray, h4]) (by simp only [World.shape?, h1, List.size_toArray, h2]) (by omega) (blk_frozen h3 _) (blk_frozen h3 _)]
  rfl
 have hw1 : IntKind.i64.wrap ((i : Int) + (m : Int)) = (i : Int) + (m : Int) := by rw [IntKind.wrap_i64]; omega
 have hb1 : (0 : Int) ≤ (i : Int) + (m : Int) := by omega
 have hin : i ≤ n := by omega
 have htn : ((i : Int) + (m : Int)).toNat = i + m := by omega
 have hb2 : ¬ (cap = i + m) := by omega
 have hb3 : (i : Int) ≤ (n : Int) + (m : Int) := by omega
 have hb4 : ¬ (cap = i) := by omega
 obtain ⟨ext, hr1, hr2⟩ := hD.row
 obtain ⟨ext2, hr3, hr4⟩ := hV.row
 have hcl := ncells_len l
 have hvl := ncells_len vs
 have cellAt : ∀ (W : World), (W.heap[g]? = w.heap[g]?) → ∀ k, k < cap * 2 → (W.cell? ⟨g, k, none⟩).isSome = true ∧ W.frozen? ⟨g, k, none⟩ = false := by
  intro W hW k hk
  have h := hW.trans hr1
  refine ⟨?_, blk_frozen h _⟩
  rw [blk_cell h, List.getElem?_toArray, List.getElem?_eq_getElem (by omega)]
  rfl
 have hcp1 : ∀ ty dc sc, (Builtin.copy_ #[34, 34] ty #[.slice (some ⟨g, (i + m) * 2, none⟩) (n + m - (i + m)) dc, .slice (some ⟨g, i * 2, none⟩) (n + m - i) sc]).run Try.prog w.drew = .ok (goInt (n - i : Nat)) (w.drew.setCells g ((i + m) * 2) (ncells (l.drop i))) := fun ty dc sc =>
  run_copyN w.drew ty g ((i + m) * 2) (n + m - (i + m)) dc ⟨g, i * 2, none⟩ (n + m - i) sc (n - i) (ncells (l.drop i)) (by simp only [Nat.min_def]; split <;> omega) (by rw [ncells_len, hdl]) (hD.src i)
   (fun j hj => by rw [ncells_len, hdl] at hj; exact (cellAt w.drew rfl _ (by omega)).1) (fun j hj => by rw [ncells_len, hdl] at hj; exact (cellAt w.drew rfl _ (by omega)).2) (ncells_one _)
 obtain ⟨cs1, hc1, hN1⟩ := hD.put (i + m) (l.drop i) (by rw [hdl]; omega) (by omega)
 obtain ⟨W1, hW1⟩ : ∃ W1, W1 = w.drew.setCells g ((i + m) * 2) (ncells (l.drop i)) := ⟨_, rfl⟩
 have hW1' : W1 = w.drew.setRow g cs1 := hW1.trans hc1
 rw [← hW1'] at hN1
 have e1 : l.drop (i + m + (l.drop i).length) = [] := List.drop_eq_nil_of_le (by rw [hdl]; omega)
 rw [e1, List.append_nil] at hN1
 have hL1 : (l.take (i + m) ++ l.drop i).length = n + m := by rw [List.length_append, List.length_take, hdl, ← hn]; omega
 obtain ⟨cs2, hc2, hN2⟩ := hN1.put i vs (by omega) (by omega)
 have e2 : (l.take (i + m) ++ l.drop i).take i ++ vs ++ (l.take (i + m) ++ l.drop i).drop (i + vs.length) = l.take i ++ vs ++ l.drop i := by
  rw [List.take_append_of_le_length (by rw [List.length_take]; omega), List.take_take, show min i (i + m) = i by omega, ← hm]
  rw [show l.take (i + m) ++ l.drop i = l.take (i + m) ++ l.drop i from rfl, List.drop_append, List.length_take, show i + m - min (i + m) l.length = 0 by omega, List.drop_zero, List.drop_eq_nil_of_le (by rw [List.length_take]; omega), List.nil_append]
 rw [e2] at hN2
 have hVs : ∀ (W : World), W.heap = W1.heap → ∀ j v, (ncells vs)[j]? = some v → W.cell? ((⟨vb, 0, none⟩ : Addr).add j) = some v := by
  intro W hW j v hj
  have h := hV.src 0 j v (by rw [List.drop_zero]; exact hj)
  have h5 : W.heap[vb]? = w.heap[vb]? := by rw [hW, hW1', setRow_other _ _ _ _ hvg]; rfl
  rw [Nat.zero_mul, Addr.add_lit] at h
  rw [Addr.add_lit]
  exact (World.cell?_of_block (a := ⟨vb, 0 + j, none⟩) h5).trans h
 have hcp2 : ∀ (W : World), W.heap = W1.heap → ∀ ty dc, (Builtin.copy_ #[34, 34] ty #[.slice (some ⟨g, i * 2, none⟩) (n + m - i) dc, .slice (some ⟨vb, 0, none⟩) m vc]).run Try.prog W = .ok (goInt m) (W.setCells g (i * 2) (ncells vs)) := by
  intro W hW ty dc
  obtain ⟨ext', h5, h6⟩ := hN1.row
  have h7 := (show W.heap[g]? = W1.heap[g]? by rw [hW]).trans h5
  have hq : ∀ k, k < cap * 2 → (W.cell? ⟨g, k, none⟩).isSome = true ∧ W.frozen? ⟨g, k, none⟩ = false := by
   intro k hk
   refine ⟨?_, blk_frozen h7 _⟩
   rw [blk_cell h7, List.getElem?_toArray, List.getElem?_eq_getElem (by omega)]
   rfl
  exact run_copyN W ty g (i * 2) (n + m - i) dc ⟨vb, 0, none⟩ m vc m (ncells vs) (by simp only [Nat.min_def]; split <;> omega) (by omega) (hVs W hW)
   (fun j hj => (hq _ (by omega)).1) (fun j hj => (hq _ (by omega)).2) (ncells_one _)
 have hmix : Try.prog.follows Departure.mixedOrders = true := by kernel_rfl
 rw [← hW1] at hcp1
 have HN2 := Aside0.mk hN2
 have HW := Aside0.mk hW1'
 have HC2 := Aside0.mk hc2
 clear hR hV hD hr1 hr2 hr3 hr4 hcl hvl cellAt hVs hN1 hc1 hW1 hW1' e1 hL1 e2 hN2 hdl hn hm hc2
 go_enter Try.func107, Try.ntmps107
 go_wp2_with (simp only [hov])
 go_region_law_o (refine Go.Proofs.step_copy_runI rfl _ _ 34 34 rfl _ _ (by simp [Act.eval, Act.put]) (by simp [Act.eval, Act.put]) (hcp1 _ _ _) ?_)
 go_wp2_with (at_builtin; refine Go.Proofs.wpList_copy_runI _ rfl _ _ 34 34 rfl _ _ rfl rfl (hcp2 _ rfl _ _) ?_)
 go_ret
 refine ⟨rfl, ?_, 1, cs2, ?_⟩
 ·rw [HC2.out]; exact HN2.out
 ·rw [HC2.out, HW.out, setRow_setRow]; rfl
set_option maxHeartbeats 4000000 in
set_option maxRecDepth 100000 in
theorem Insert_grow (w : World) (base g cap vb vc i m n : Nat) (l vs : List NdI) (hR : NR w base g cap l) (hV : NR w base vb vc vs) (hm0 : 0 < m) (hm : m = vs.length) (hn : n = l.length) (hi : i < n) (hmi : i + m ≤ n) (hroom : cap < n + m) (hbig : n + m ≤ 1048576) :
  Calls Try.prog 107 #[.slice (some ⟨g, 0, none⟩) n cap, .int .i64 i, .slice (some ⟨vb, 0, none⟩) m vc] w fun e w' =>
   ∃ g' cap', e = .returned (.slice (some ⟨g', 0, none⟩) (n + m) cap') ∧ NR w' base g' cap' (l.take i ++ vs ++ l.drop i) ∧ w.grownBy w' (some g) := by
 obtain ⟨i0, h01, h02, h03, h04⟩ := nodeBytes
 have hz1 : ¬ ((m : Int) = 0) := by omega
 have hz2 : ¬ ((i : Int) = (n : Int)) := by omega
 have hz3 : (cap : Int) < (n : Int) + (m : Int) := by omega
 have hfit := hR.fits
 have hgw := hR.lt
 have hvw := hV.lt
 have hle := hR.le
 have hdl : (l.drop i).length = n - i := by simp [hn]
 have hcl := ncells_len l
 have hvl := ncells_len vs
 have hkk : (n : Int) + (m : Int) - (i : Int) = ((n + m - i : Nat) : Int) := by omega
 have hik : i + (n + m - i) = n + m := by omega
 have hold : (Builtin.firstCells i0.size i (.slice (some ⟨g, 0, none⟩) i cap)).run Try.prog w.drew = .ok (ncells (l.take i)).toArray w.drew := by
  rw [h03]
  refine run_firstCells_some w.drew 2 i ⟨g, 0, none⟩ i cap (ncells (l.take i)) (by rw [ncells_len, List.length_take]; omega) (fun j v hj => ?_)
  have := hR.src 0 j v (by
   rw [List.drop_zero]
   rw [← ncells_take, List.getElem?_take] at hj
   split at hj
   ·exact hj
   ·cases hj)
  rw [Nat.zero_mul] at this
  exact this
 obtain ⟨G, hG⟩ : ∃ G, G = grownCap w (n + m) cap 90 := ⟨_, rfl⟩
 have hGn : n + m ≤ G := by rw [hG]; exact grownCap_ge w _ _ _
 have hGm : G ≤ maxLen := by rw [hG]; exact grownCap_le_maxLen w (n + m) cap _ (by unfold maxLen; omega)
 have hG63 : G ≤ 9223372036854775807 := by unfold maxLen at hGm; omega
 obtain ⟨W1, hW1⟩ : ∃ W1, W1 = w.drew.alloc (.cells ((ncells (l.take i)).toArray ++ Builtin.zeroCells (Value.agg #[.int .i64 0, .int .i64 0]).cells (n + m - i) ++ Builtin.zeroCells (Value.agg #[.int .i64 0, .int .i64 0]).cells (G - (n + m))) 90) := ⟨_, rfl⟩
 have hrz : ∀ ty, (Builtin.append_ #[34, 3] ty #[.slice (some ⟨g, 0, none⟩) i cap, .int .i64 ((n : Int) + (m : Int) - (i : Int))]).run Try.prog w = .ok (.slice (some ⟨w.heap.size, 0, none⟩) (n + m) G) W1 := fun ty => by
  have h := Lib.run_append_grow_zeros w 34 3 ty 90 i0 _ .i64 .i64 Try.underlying34 Try.underlying3 h01 h02 (some ⟨g, 0, none⟩) i cap (ncells (l.take i)) hold (n + m - i) (by omega) (by omega) (by omega) (by omega) (by rw [h04]; omega) (by rw [h04, hik]; exact growslice_fits hroom (by omega))
  rw [hik, ← hG, ← hW1] at h
  rw [hkk]
  exact h
 have hh : W1.heap[w.heap.size]? = some (.cells (ncells (l.take i ++ List.replicate (n + m - i) ⟨0, 0⟩) ++ ncells (List.replicate (G - (n + m)) ⟨0, 0⟩)).toArray 90 (0, 0)) := by
  rw [hW1]
  refine (heap_alloc_new w.drew _).trans ?_
  rw [ncells_app, ← zeros_n, ← zeros_n]
  congr 2
  apply Array.ext'
  simp
 have hold1 : ∀ k, k < w.heap.size → W1.heap[k]? = w.heap[k]? := fun k hk => by rw [hW1]; exact heap_alloc_old w.drew _ hk
 have hN0 : NR W1 base w.heap.size G (l.take i ++ List.replicate (n + m - i) ⟨0, 0⟩) := by
  refine ⟨by omega, by simp only [List.length_append, List.length_take, List.length_replicate]; omega, hGm, _, hh, ?_⟩
  simp only [List.length_append, ncells_len, List.length_take, List.length_replicate]
  omega
 obtain ⟨cs1, hc1, hN1⟩ := hN0.put i vs (by omega) (by simp only [List.length_append, List.length_take, List.length_replicate]; omega)
 obtain ⟨W2, hW2⟩ : ∃ W2, W2 = W1.setCells w.heap.size (i * 2) (ncells vs) := ⟨_, rfl⟩
 have hW2' : W2 = W1.setRow w.heap.size cs1 := hW2.trans hc1
 rw [← hW2'] at hN1
 have e1 : (l.take i ++ List.replicate (n + m - i) ⟨0, 0⟩ : List NdI).take i ++ vs ++ (l.take i ++ List.replicate (n + m - i) ⟨0, 0⟩ : List NdI).drop (i + vs.length) = l.take i ++ vs ++ List.replicate (n - i) ⟨0, 0⟩ := by
  have h : (l.take i).length = i := by rw [List.length_take]; omega
  rw [List.take_append_of_le_length (by omega), List.take_take, Nat.min_self, List.drop_append, h, List.drop_eq_nil_of_le (by omega), List.nil_append, List.drop_replicate, ← hm, show n + m - i - (i + m - i) = n - i by omega]
 rw [e1] at hN1
 obtain ⟨cs2, hc2, hN2⟩ := hN1.put (i + m) (l.drop i) (by rw [hdl]; omega) (by simp only [List.length_append, List.length_take, List.length_replicate]; omega)
 have e2 : (l.take i ++ vs ++ List.replicate (n - i) ⟨0, 0⟩ : List NdI).take (i + m) ++ l.drop i ++ (l.take i ++ vs ++ List.replicate (n - i) ⟨0, 0⟩ : List NdI).drop (i + m + (l.drop i).length) = l.take i ++ vs ++ l.drop i := by
  have h : (l.take i ++ vs).length = i + m := by rw [List.length_append, List.length_take]; omega
  have h2 : (l.take i ++ vs ++ List.replicate (n - i) ⟨0, 0⟩ : List NdI).drop (i + m + (l.drop i).length) = [] := List.drop_eq_nil_of_le (by rw [List.length_append, h, List.length_replicate, hdl]; omega)
  rw [h2, List.append_nil, ← h, List.take_left]
 rw [e2] at hN2
 have cellAt : ∀ (W : World) (L : List NdI), NR W base w.heap.size G L → ∀ k, k < G * 2 → (W.cell? ⟨w.heap.size, k, none⟩).isSome = true ∧ W.frozen? ⟨w.heap.size, k, none⟩ = false := by
  intro W L hW k hk
  obtain ⟨ext, h1, h2⟩ := hW.row
  refine ⟨?_, blk_frozen h1 _⟩
  rw [blk_cell h1, List.getElem?_toArray, List.getElem?_eq_getElem (by omega)]
  rfl
 have hcpA : ∀ (W : World), W.heap = W1.heap → ∀ ty dc, (Builtin.copy_ #[34, 34] ty #[.slice (some ⟨w.heap.size, i * 2, none⟩) (n + m - i) dc, .slice (some ⟨vb, 0, none⟩) m vc]).run Try.prog W = .ok (goInt m) (W.setCells w.heap.size (i * 2) (ncells vs)) := by
  intro W hW ty dc
  have hNW : NR W base w.heap.size G _ := hN0.keep (by rw [hW])
  have hVW : NR W base vb vc vs := hV.keep (by rw [hW]; exact hold1 vb hvw)
  refine run_copyN W ty w.heap.size (i * 2) (n + m - i) dc ⟨vb, 0, none⟩ m vc m (ncells vs) (by simp only [Nat.min_def]; split <;> omega) (by omega) (fun j v hj => ?_)
   (fun j hj => (cellAt W _ hNW _ (by omega)).1) (fun j hj => (cellAt W _ hNW _ (by omega)).2) (ncells_one _)
  have := hVW.src 0 j v (by rw [List.drop_zero]; exact hj)
  rw [Nat.zero_mul] at this
  exact this
 have hcpB : ∀ (W : World), W.heap = W2.heap → ∀ ty dc sc, (Builtin.copy_ #[34, 34] ty #[.slice (some ⟨w.heap.size, (i + m) * 2, none⟩) (n + m - (i + m)) dc, .slice (some ⟨g, i * 2, none⟩) (n - i) sc]).run Try.prog W = .ok (goInt (n - i : Nat)) (W.setCells w.heap.size ((i + m) * 2) (ncells (l.drop i))) := by
  intro W hW ty dc sc
  have hNW : NR W base w.heap.size G _ := hN1.keep (by rw [hW])
  have hRW : NR W base g cap l := hR.keep (by rw [hW, hW2', setRow_other _ _ _ _ (by omega)]; exact hold1 g hgw)
  exact run_copyN W ty w.heap.size ((i + m) * 2) (n + m - (i + m)) dc ⟨g, i * 2, none⟩ (n - i) sc (n - i) (ncells (l.drop i)) (by simp only [Nat.min_def]; split <;> omega) (by rw [ncells_len, hdl]) (hRW.src i)
   (fun j hj => by rw [ncells_len, hdl] at hj; exact (cellAt W _ hNW _ (by omega)).1) (fun j hj => by rw [ncells_len, hdl] at hj; exact (cellAt W _ hNW _ (by omega)).2) (ncells_one _)
 have hw1 : IntKind.i64.wrap ((i : Int) + (m : Int)) = (i : Int) + (m : Int) := by rw [IntKind.wrap_i64]; omega
 have hb1 : (0 : Int) ≤ (i : Int) + (m : Int) := by omega
 have hin : i ≤ n := by omega
 have htn : ((i : Int) + (m : Int)).toNat = i + m := by omega
 have hb3 : (i : Int) ≤ (n : Int) := by omega
 have hGi : ¬ (G = i) := by omega
 have hGim : ¬ (G = i + m) := by omega
 have hci : ¬ (cap = i) := by omega
 have hnc : n ≤ cap := by omega
 have hic : i ≤ cap := by omega
 have hgr : w.grownBy ((W2.drewN 1).setRow w.heap.size cs2) (some g) := by
  refine ⟨by rw [hW2', hW1]; rfl, by rw [hW2', hW1]; rfl, by rw [hW2', hW1]; rfl, by rw [setRow_size]; show w.heap.size ≤ W2.heap.size; rw [hW2', setRow_size, hW1]; show w.heap.size ≤ (Array.push _ _).size; rw [Array.size_push]; exact Nat.le_succ _, fun k hk _ => ?_⟩
  rw [setRow_other _ _ _ _ (by omega)]
  show W2.heap[k]? = _
  rw [hW2', setRow_other _ _ _ _ (by omega)]
  exact hold1 k hk
 have hmix : Try.prog.follows Departure.mixedOrders = true := by kernel_rfl
 have HGR := Aside0.mk hgr
 have HN2 := Aside0.mk hN2
 have HC2 := Aside0.mk hc2
 have hE2 : W1.setCells w.heap.size (i * 2) (ncells vs) = W2 := hW2.symm
 clear hW1
 clear hgr hN2 hc2 hkk hik hold hG hh hold1 hN0 hc1 hN1 hW2 hW2' e1 e2 cellAt hR hV hfit hgw hvw hle hdl hcl hvl h01 h02 h03 h04 hGm hn hm
 go_enter Try.func107, Try.ntmps107
 go_wp2_with (first
  | (at_builtin; refine Lib.wpList_append_run _ rfl _ _ _ _ rfl _ _ rfl rfl _ _ (hrz _) ?_)
  | (at_builtin; refine Go.Proofs.wpList_copy_runI _ rfl _ _ 34 34 rfl _ _ rfl rfl (hcpA _ rfl _ _) ?_; rw [hE2]))
 go_region_law_o (refine Go.Proofs.step_copy_runI rfl _ _ 34 34 rfl (.slice (some ⟨w.heap.size, (i + m) * 2, none⟩) (n + m - (i + m)) (G - (i + m))) (.slice (some ⟨g, i * 2, none⟩) (n - i) (cap - i)) (by simp [Act.eval, Act.put]) (by simp [Act.eval, Act.put]) (hcpB W2.drew rfl 3 (G - (i + m)) (cap - i)) ?_)
 go_wp2
 go_ret
 refine ⟨_, _, rfl, ?_, ?_⟩
 ·rw [← Go.Proofs.drew_setCells, HC2.out]
  exact HN2.out.keep rfl
 ·rw [← Go.Proofs.drew_setCells, HC2.out]
  exact HGR.out
theorem Insert_calls (w : World) (base g cap vb vc i : Nat) (l : List NdI) (x : NdI) (hR : NR w base g cap l) (hV : NR w base vb vc [x]) (hvg : vb ≠ g) (hi : i ≤ l.length) (hl : 0 < l.length) (hbig : l.length + 1 ≤ 1048576) :
  Calls Try.prog 107 #[.slice (some ⟨g, 0, none⟩) l.length cap, .int .i64 i, .slice (some ⟨vb, 0, none⟩) 1 vc] w fun e w' =>
   ∃ g' cap', e = .returned (.slice (some ⟨g', 0, none⟩) (l.length + 1) cap') ∧ NR w' base g' cap' (l.take i ++ [x] ++ l.drop i) ∧ w.grownBy w' (some g) := by
 by_cases c : i = l.length
 ·have h := Insert_end w base g cap vb vc 1 l.length l [x] hR hV hl (by omega) rfl rfl hbig
  rw [← c] at h ⊢
  refine h.mono ?_
  rintro e w' ⟨g', cap', h1, h2, h3⟩
  refine ⟨g', cap', h1, ?_, h3⟩
  rw [c, List.take_length, List.drop_length, List.append_nil]
  exact h2
 ·by_cases c2 : l.length + 1 ≤ cap
  ·refine (Insert_shift w base g cap vb vc i 1 l.length l [x] hR hV hvg (by omega) rfl rfl (by omega) (by omega) c2 hbig (by have := hR.mx; unfold maxLen at this; omega)).mono ?_
   rintro e w' ⟨h1, h2, q, cs, h3⟩
   exact ⟨g, cap, h1, h2, by rw [h3]; exact grown_setRow w q g cs⟩
  ·exact Insert_grow w base g cap vb vc i 1 l.length l [x] hR hV (by omega) rfl rfl (by omega) (by omega) (by omega) hbig
end Go.Proofs.Ytbifdckfglejkaa.X
namespace Go.Proofs.Ytbifdckfglejkaa.X
open Go.RowKit Go.Proofs.YtbifdckfglejkaaW.PrintWords Go.Proofs.YtbifdckfglejkaaW.PrintLast Go.Proofs.YtbifdckfglejkaaW.PrintMore
set_option linter.unusedVariables false
set_option linter.unusedSimpArgs false
def shiftL (h : NdI → NdI) (a b : Nat) (l : List NdI) : List NdI := l.mapIdx fun j x => if a ≤ j ∧ j < b then h x else x
theorem shiftL_len (h : NdI → NdI) (a b : Nat) (l : List NdI) : (shiftL h a b l).length = l.length := List.length_mapIdx
theorem shiftL_get (h : NdI → NdI) (a b : Nat) (l : List NdI) (j : Nat) : (shiftL h a b l)[j]? = (l[j]?).map fun x => if a ≤ j ∧ j < b then h x else x := by
 rw [shiftL, List.getElem?_mapIdx]
theorem shiftL_none (h : NdI → NdI) (a : Nat) (l : List NdI) : shiftL h a a l = l := by
 apply List.ext_getElem?
 intro j
 rw [shiftL_get]
 cases l[j]? with
 | none => rfl
 | some x => show some (if a ≤ j ∧ j < a then h x else x) = some x; rw [if_neg (by omega)]
theorem shiftL_step (h : NdI → NdI) (a b : Nat) (l : List NdI) (x : NdI) (hab : a ≤ b) (hx : l[b]? = some x) : (shiftL h a b l).set b (h x) = shiftL h a (b + 1) l := by
 apply List.ext_getElem?
 intro j
 have hb := (List.getElem?_eq_some_iff.1 hx).1
 rw [shiftL_get, List.getElem?_set, shiftL_len]
 by_cases c : b = j
 ·subst c
  rw [if_pos rfl, if_pos hb, hx]
  show some (h x) = some (if a ≤ b ∧ b < b + 1 then h x else x)
  rw [if_pos (by omega)]
 ·rw [if_neg c, shiftL_get]
  congr 1
  funext y
  by_cases c2 : a ≤ j ∧ j < b
  ·rw [if_pos c2, if_pos (by omega)]
  ·rw [if_neg c2, if_neg (by omega)]
def lessDeep (x : NdI) : NdI := { x with f1 := wrap64 (x.f1 - 1) }
def moreDeep (x : NdI) : NdI := { x with f1 := wrap64 (x.f1 + 1) }
def impl_ApplyOp.f (k : Nat) (l0 : List NdI) (a0 : Int) (l1 : List Int) (a2 a3 a4 : Int) : Option (List NdI × Int) :=
 (impl_TreeOk.f k l0).bind fun t => if t = true then (if l0.length < 1048576 then ((impl_NodeAt.f k l0 l1).bind fun i => ((impl_opCode.f k l0 a0 l1 a2 a3 a4 i).bind fun c =>
  if c.1 = 0 then (if 0 ≤ i then (if i < (l0.length : Int) then
   (if a0 = 1 then some (l0.set i.toNat { rd_T90 l0 i with f0 := a2 }, 0)
   else if a0 = 2 then ((impl_endOf.f k l0 i).bind fun e => if i < e then (if e ≤ (l0.length : Int) then some ((shiftL lessDeep (i.toNat + 1) e.toNat l0).take i.toNat ++ (shiftL lessDeep (i.toNat + 1) e.toNat l0).drop (i.toNat + 1), 0) else none) else none)
   else if 0 ≤ c.2.1 then (if c.2.1 ≤ c.2.2 then (if c.2.2 ≤ (l0.length : Int) then
    some ((shiftL moreDeep c.2.1.toNat c.2.2.toNat l0).take c.2.1.toNat ++ [⟨a2, wrap64 ((rd_T90 l0 i).f1 + 1)⟩] ++ (shiftL moreDeep c.2.1.toNat c.2.2.toNat l0).drop c.2.1.toNat, 0) else none) else none) else none)
   else none) else none)
  else some (l0, c.1))) else none) else some ([], 2)
theorem NR.deep {w : World} {base g cap : Nat} {l : List NdI} {a b : Nat} (h : NdI → NdI) (v : NdI → Int) (hh : ∀ x, h x = { x with f1 := v x }) (hR : NR w base g cap (shiftL h a b l)) (hab : a ≤ b) {x : NdI} (hx : l[b]? = some x) :
  NR (w.setCell ⟨g, b * 2 + 1, none⟩ (.int .i64 (v x))) base g cap (shiftL h a (b + 1) l) := by
 have hb := (List.getElem?_eq_some_iff.1 hx).1
 have hx2 : (shiftL h a b l)[b]? = some x := by
  rw [shiftL_get, hx]
  show some (if a ≤ b ∧ b < b then h x else x) = some x
  rw [if_neg (by omega)]
 refine hR.set (by rw [shiftL_len]; omega) ?_
 rw [ncells_set1 _ _ _ _ hx2, ← hh x, shiftL_step h a b l x hab hx]
theorem box5 {W w1 : World} {c0 c1 c2 c3 c4 : Value} {ty : TypeId} (hb : Below (W.alloc (Obj.cells #[c0, c1, c2, c3, c4] ty)).heap.size (W.alloc (Obj.cells #[c0, c1, c2, c3, c4] ty)) w1) : w1.heap[W.heap.size]? = some (.cells #[c0, c1, c2, c3, c4] ty (0, 0)) :=
 (hb.block W.heap.size (by simp)).trans (heap_alloc_new W _)
set_option maxHeartbeats 4000000 in
set_option maxRecDepth 100000 in
theorem impl_ApplyOp.calls (k : Nat) (A0 : Option Addr) (c0 : Nat) (l0 : List NdI) (a0 : Int) (A1 : Option Addr) (c1 : Nat) (l1 : List Int) (a2 a3 a4 : Int) (r1 : List NdI) (r2 : Int) (w : World) (hr0 : Kd.C k90 w A0 l0.length l0) (hc0 : l0.length ≤ c0) (hr1 : Kd.C (Kd.int .i64) w A1 l1.length l1) (hc1 : l1.length ≤ c1) (h : impl_ApplyOp.f k l0 a0 l1 a2 a3 a4 = some (r1, r2)) :
  Calls Try.prog 46 #[.slice A0 l0.length c0, .agg #[.int .i64 a0, .slice A1 l1.length c1, .int .i64 a2, .int .i64 a3, .int .i64 a4]] w fun e w' => ∃ v0_ : Value, e = .returned (.tuple #[v0_, .int .i64 r2]) ∧ Kd.R k90 90 w' w.heap.size (fun _ => True) v0_ r1 ∧ Below w.heap.size w w' := by
 have HTr : Aside0 (∀ (t : Bool) W, impl_TreeOk.f k l0 = some t → Below w.heap.size w W → Calls Try.prog 102 #[.slice A0 l0.length c0] W fun e w' => e = .returned (.bool t) ∧ Below W.heap.size W w') :=
  ⟨fun t W ht hb => impl_TreeOk.calls k A0 c0 l0 t W (Kd.C_below hr0 hb) hc0 ht⟩
 have HCl0 : Aside0 (l0.length < 1048576 → ∀ W, Below w.heap.size w W → Calls Try.prog 103 #[.slice A0 l0.length c0] W fun e w' => ∃ v0_ : Value, e = .returned v0_ ∧ Kd.R k90 90 w' W.heap.size (fun _ => True) v0_ l0 ∧ Below W.heap.size W w') :=
  ⟨fun hl W hb => clone_Node.calls A0 c0 l0 l0 W (Kd.C_below hr0 hb) hc0 (by rw [clone_Node.f, if_pos (by omega)])⟩
 have HNA0 : Aside0 (∀ (t : Int) W, impl_NodeAt.f k l0 l1 = some t → Below w.heap.size w W → Calls Try.prog 78 #[.slice A0 l0.length c0, .slice A1 l1.length c1] W fun e w' => e = .returned (.int .i64 t) ∧ Below W.heap.size W w') :=
  ⟨fun t W ht hb => impl_NodeAt.calls k A0 c0 l0 A1 c1 l1 t W (Kd.C_below hr0 hb) hc0 (Kd.C_below hr1 hb) hc1 ht⟩
 have HOC0 : Aside0 (∀ (i : Int) (c : Int × Int × Int) W, impl_opCode.f k l0 a0 l1 a2 a3 a4 i = some c → Below w.heap.size w W → Calls Try.prog 104 #[.slice A0 l0.length c0, .agg #[.int .i64 a0, .slice A1 l1.length c1, .int .i64 a2, .int .i64 a3, .int .i64 a4], .int .i64 i] W fun e w' => e = .returned (.tuple #[.int .i64 c.1, .int .i64 c.2.1, .int .i64 c.2.2]) ∧ Below W.heap.size W w') :=
  ⟨fun i c W ht hb => impl_opCode.calls k A0 c0 l0 a0 A1 c1 l1 a2 a3 a4 i c.1 c.2.1 c.2.2 W (Kd.C_below hr0 hb) hc0 (Kd.C_below hr1 hb) hc1 ht⟩
 have HEN0 : Aside0 (∀ (i t : Int) W, impl_endOf.f k l0 i = some t → Below w.heap.size w W → Calls Try.prog 105 #[.slice A0 l0.length c0, .int .i64 i] W fun e w' => e = .returned (.int .i64 t) ∧ Drawn0 W w') :=
  ⟨fun i t W ht hb => impl_endOf.calls k A0 c0 l0 i t W (Kd.C_below hr0 hb) hc0 ht⟩
 have HR0 := Aside0.mk hr0
 have HR1 := Aside0.mk hr1
 have hm0 := hr0.2.1
 have hm1 := hr1.2.1
 clear hr0 hc0 hr1 hc1
 have hmix : Try.prog.follows Departure.mixedOrders = true := by kernel_rfl
 have hun := Try.underlying90
 have huo := Try.underlying67
 unfold impl_ApplyOp.f at h
 obtain ⟨t, ht, h⟩ := Option.bind_eq_some_iff.mp h
 have HT := Aside0.mk ht
 clear ht
 cases t with
 | false =>
  rw [if_neg (by decide)] at h
  obtain ⟨rfl, rfl⟩ := Prod.mk.inj (Option.some.inj h)
  clear h
  go_enter Try.func46, Try.ntmps46
  go_wp2_with (first | (go_at_call 102; refine (HTr.out false _ HT.out ((Below.refl _ _).alloc (Nat.le_refl _) _)).mono ?_; rintro e w4 ⟨rfl, hb⟩; have HB := Aside0.mk (((Below.refl w.heap.size w).alloc (Nat.le_refl _) _).trans (hb.mono (by simp))); clear hb) | ((with_reducible refine gate_dst (N := 16) rfl ?_); refine Kd.R_lit k90 _ 90 ?hg (N := 16) ?hd (xs := ([] : List NdI)) (inner := []) (ok := fun _ => True) (okp := fun _ => True) ?hr ?hp (fun _ hk => hk) trivial (Below.refl _ _) (Nat.le_refl _) (by simp) ?_; (case hd => rfl); (case hg => rfl); (case hr => first | (go_simp; done) | (go_simp; rfl)); (case hp => exact (Reps.none _ _)); intro v7 w5 ho4 hb hg_ hnew_; clear hg_ hnew_; have HO := Aside0.mk (Kd.R_lower ho4 (below_size HB.out)); have HB2 := Aside0.mk (below_step HB.out hb); clear hb ho4))
  go_ret2
  exact ⟨_, rfl, HO.out, HB2.out⟩
 | true =>
  rw [if_pos rfl] at h
  by_cases hl : l0.length < 1048576
  case neg => rw [if_neg hl] at h; cases h
  rw [if_pos hl] at h
  have HCl : Aside0 (∀ W, Below w.heap.size w W → Calls Try.prog 103 #[.slice A0 l0.length c0] W fun e w' => ∃ v0_ : Value, e = .returned v0_ ∧ Kd.R k90 90 w' W.heap.size (fun _ => True) v0_ l0 ∧ Below W.heap.size W w') := ⟨HCl0.out hl⟩
  obtain ⟨i, hi, h⟩ := Option.bind_eq_some_iff.mp h
  obtain ⟨⟨q1, q2, q3⟩, hq, h⟩ := Option.bind_eq_some_iff.mp h
  have HNA : Aside0 (∀ W, Below w.heap.size w W → Calls Try.prog 78 #[.slice A0 l0.length c0, .slice A1 l1.length c1] W fun e w' => e = .returned (.int .i64 i) ∧ Below W.heap.size W w') := ⟨fun W hb => HNA0.out i W hi hb⟩
  have HOC : Aside0 (∀ W, Below w.heap.size w W → Calls Try.prog 104 #[.slice A0 l0.length c0, .agg #[.int .i64 a0, .slice A1 l1.length c1, .int .i64 a2, .int .i64 a3, .int .i64 a4], .int .i64 i] W fun e w' => e = .returned (.tuple #[.int .i64 q1, .int .i64 q2, .int .i64 q3]) ∧ Below W.heap.size W w') := ⟨fun W hb => HOC0.out i _ W hq hb⟩
  have HH := Aside0.mk h
  clear h hi hq
  go_enter Try.func46, Try.ntmps46
  go_upto_region 3 with (first | (go_at_call 102; refine (HTr.out true _ HT.out ((Below.refl _ _).alloc (Nat.le_refl _) _)).mono ?_; rintro e w4 ⟨rfl, hb⟩; have HBX := Aside0.mk (box5 hb); have HB := Aside0.mk (((Below.refl w.heap.size w).alloc (Nat.le_refl _) _).trans (hb.mono (by simp))); clear hb))
  have hz1 : w4.drew.cell? ⟨w.heap.size, 1, none⟩ = some (.slice A1 l1.length c1) := (blk_cell HBX.out 1).trans rfl
  refine start_ (n := 8) (S := fun w' => w'.cell? ⟨w.heap.size, 1, none⟩ = some (.slice A1 l1.length c1)) (ds := []) (ba_ 8 0) (by kernel_rfl) rfl rfl hz1 (fun hHeld => ?_)
  refine pu_ 0 (some 17) (ba_ 8 1) rfl rfl (by kernel_rfl) ?_
  refine pu_ 2 (some 19) (ba_ 8 5) rfl rfl (by kernel_rfl) ?_
  refine pu_ 3 (some 20) (ba_ 8 13) rfl rfl (by kernel_rfl) ?_
  refine ta_ 4 (some 21) (ba_ 8 29) rfl rfl (by kernel_rfl) hHeld (by rintro w' s0; go_simp; with_reducible rfl) ?_
  refine one_ (i := 1) (N := some 18) (ba_ 8 31) rfl rfl (by kernel_rfl) (by decide) (fun K hK => ?_)
  refine goes_ Try.func103 (by kernel_rfl) rfl #[.slice A0 l0.length c0] (by rfl) rfl rfl (by (try simp only [List.map_toArray, List.map_cons, List.map_nil]); first | done | rfl) ?_
  refine (HCl.out _ (below_drew HB.out)).mono ?_
  rintro e w5 ⟨v0, rfl, hr, hb⟩
  refine ⟨_, rfl, ?_⟩
  have HB3 := Aside0.mk ((below_drew HB.out).trans (hb.mono (below_drew HB.out).size))
  have HV := Aside0.mk hr
  have HBo := Aside0.mk hb
  refine hK.out _ _ (pw_cell_below hb hHeld) (fun hHeld => ?_)
  clear hb hr
  clear hK K
  refine norm_ (a' := ?_) ?_ ?_
  rotate_left
  ·show Act.put _ (some 18) _ = _
   simp only [Act.put, List.setIfInBounds_toArray, List.set_cons_zero, List.set_cons_succ, i64_w, i32_w]
   rfl
  refine one_ (i := 5) (N := some 22) (ba_ 8 63) rfl rfl (by kernel_rfl) (by decide) (fun K hK => ?_)
  refine goes_ Try.func78 (by kernel_rfl) rfl #[.slice A0 l0.length c0, .slice A1 l1.length c1] (by rfl) rfl rfl (by (try simp only [List.map_toArray, List.map_cons, List.map_nil]); first | done | rfl) ?_
  refine (HNA.out _ HB3.out).mono ?_
  rintro e w6 ⟨rfl, hb⟩
  refine ⟨_, rfl, ?_⟩
  have HB4 := Aside0.mk (HB3.out.trans (hb.mono HB3.out.size))
  have HV2 := Aside0.mk (Kd.R_below HV.out hb)
  have HBo2 := Aside0.mk hb
  refine hK.out _ _ (pw_cell_below hb hHeld) (fun hHeld => ?_)
  clear hb
  clear hK K
  refine norm_ (a' := ?_) ?_ ?_
  rotate_left
  ·show Act.put _ (some 22) _ = _
   simp only [Act.put, List.setIfInBounds_toArray, List.set_cons_zero, List.set_cons_succ, i64_w, i32_w]
   rfl
  refine pu_ 6 (some 6) (ba_ 8 127) rfl rfl (by kernel_rfl) ?_
  refine pu_ 7 (some 7) (ba_ 8 255) rfl rfl (by kernel_rfl) ?_
  refine done_ (by kernel_rfl) ?_
  have hb5 := (HBo.out.block w.heap.size (blk_lt HBX.out)).trans HBX.out
  have HG := Aside0.mk ((HBo2.out.block w.heap.size (blk_lt hb5)).trans hb5)
  clear hb5
  have hz0 : w6.cell? ⟨w.heap.size, 0, none⟩ = some (.int .i64 a0) := (blk_cell HG.out 0).trans rfl
  have hz1 : w6.cell? ⟨w.heap.size, 1, none⟩ = some (.slice A1 l1.length c1) := (blk_cell HG.out 1).trans rfl
  have hz2 : w6.cell? ⟨w.heap.size, 2, none⟩ = some (.int .i64 a2) := (blk_cell HG.out 2).trans rfl
  have hz3 : w6.cell? ⟨w.heap.size, 3, none⟩ = some (.int .i64 a3) := (blk_cell HG.out 3).trans rfl
  have hz4 : w6.cell? ⟨w.heap.size, 4, none⟩ = some (.int .i64 a4) := (blk_cell HG.out 4).trans rfl
  by_cases hq0 : q1 = 0
  case neg =>
   have h := HH.out
   rw [if_neg hq0] at h
   obtain ⟨rfl, rfl⟩ := Prod.mk.inj (Option.some.inj h)
   clear h HH
   go_wp2_with (first | (go_at_call 104; refine (HOC.out _ HB4.out).mono ?_; rintro e w7 ⟨rfl, hb⟩; have HB5 := Aside0.mk (HB4.out.trans (hb.mono HB4.out.size)); have HV3 := Aside0.mk (Kd.R_below HV2.out hb); clear hb))
   go_ret2
   exact ⟨v0, rfl, Kd.R_lower HV3.out (below_drew HB.out).size, HB5.out⟩
  have h := HH.out
  rw [if_pos hq0] at h
  clear HH
  by_cases hi0 : 0 ≤ i
  case neg => rw [if_neg hi0] at h; cases h
  rw [if_pos hi0] at h
  by_cases hi1 : i < (l0.length : Int)
  case neg => rw [if_neg hi1] at h; cases h
  rw [if_pos hi1] at h
  obtain ⟨j, rfl⟩ : ∃ j : Nat, i = j := ⟨i.toNat, by omega⟩
  have hj : j < l0.length := by omega
  obtain ⟨g, cap, rfl, hNR⟩ := NR.of HV2.out (by omega)
  have HNR := Aside0.mk hNR
  clear hNR
  by_cases ha1 : a0 = 1
  case pos =>
   subst ha1
   rw [if_pos rfl, Int.toNat_natCast] at h
   obtain ⟨rfl, rfl⟩ := Prod.mk.inj (Option.some.inj h)
   clear h
   go_wp2_with (first | (go_at_call 104; refine (HOC.out _ HB4.out).mono ?_; rintro e w7 ⟨rfl, hb⟩; have HB5 := Aside0.mk (HB4.out.trans (hb.mono HB4.out.size)); have HNR7 := Aside0.mk (HNR.out.keep (hb.block g HNR.out.lt)); have hG7 := (hb.block w.heap.size (blk_lt HG.out)).trans HG.out; have hy0 : w7.cell? ⟨w.heap.size, 0, none⟩ = some (.int .i64 1) := (blk_cell hG7 0).trans rfl; have hy2 : w7.cell? ⟨w.heap.size, 2, none⟩ = some (.int .i64 a2) := (blk_cell hG7 2).trans rfl; have hyc := (HNR7.out.cell (List.getElem?_eq_getElem hj)).1; have hyf := HNR7.out.frozen (j * 2); clear hb hG7))
   have hN8 := HNR7.out.set (k := j * 2) (v := .int .i64 a2) (by omega) (ncells_set0 l0 j l0[j] a2 (List.getElem?_eq_getElem hj))
   have ho8 := hN8.own
   rw [List.length_set] at ho8
   have erd : rd_T90 l0 (j : Int) = l0[j] := by simp [rd_T90, List.getD_eq_getElem?_getD, List.getElem?_eq_getElem hj]
   rw [erd]
   have hbl := (below_drew HB.out).size
   have hge := hN8.le
   go_ret2
   exact ⟨_, rfl, Kd.R_lower ho8 hbl, HB5.out.setCell (by show w.heap.size ≤ g; omega) _⟩
  case neg =>
  rw [if_neg ha1] at h
  have hbl := (below_drew HB.out).size
  have hge := HNR.out.le
  have hg : w.heap.size ≤ g := by omega
  have hgs : w.heap.size + 1 ≤ g := by
   have h1 := blk_lt HBX.out
   have h2 : w4.heap.size ≤ g := hge
   omega
  by_cases ha2 : a0 = 2
  case pos =>
   subst ha2
   rw [if_pos rfl] at h
   obtain ⟨e, he, h⟩ := Option.bind_eq_some_iff.mp h
   by_cases he0 : (j : Int) < e
   case neg => rw [if_neg he0] at h; cases h
   rw [if_pos he0] at h
   by_cases he1 : e ≤ (l0.length : Int)
   case neg => rw [if_neg he1] at h; cases h
   rw [if_pos he1] at h
   obtain ⟨m, rfl⟩ : ∃ m : Nat, e = m := ⟨e.toNat, by omega⟩
   simp only [Int.toNat_natCast] at h
   obtain ⟨rfl, rfl⟩ := Prod.mk.inj (Option.some.inj h)
   clear h
   have HEN : Aside0 (∀ W, Below w.heap.size w W → Calls Try.prog 105 #[.slice A0 l0.length c0, .int .i64 j] W fun e w' => e = .returned (.int .i64 m) ∧ Drawn0 W w') := ⟨fun W hb => HEN0.out j m W he hb⟩
   clear he
   have hjm : j < m := by omega
   have hml : m ≤ l0.length := by omega
   clear he0 he1 hi0 hi1
   go_wp2_with (first | (go_at_call 104; refine (HOC.out _ HB4.out).mono ?_; rintro e w7 ⟨rfl, hb⟩; have HB5 := Aside0.mk (HB4.out.trans (hb.mono HB4.out.size)); have HNR7 := Aside0.mk (HNR.out.keep (hb.block g HNR.out.lt)); have hG7 := (hb.block w.heap.size (blk_lt HG.out)).trans HG.out; have hy0 : w7.cell? ⟨w.heap.size, 0, none⟩ = some (.int .i64 2) := (blk_cell hG7 0).trans rfl; have hy2 : w7.cell? ⟨w.heap.size, 2, none⟩ = some (.int .i64 a2) := (blk_cell hG7 2).trans rfl; clear hb hG7))
   go_loopw [11] (fun x wr => ∃ xx : Nat, j + 1 ≤ xx ∧ xx ≤ m ∧ x = .int .i64 xx ∧ Aside0 (NR wr w4.drew.heap.size g cap (shiftL lessDeep (j + 1) xx l0)) ∧ Aside0 (Below w.heap.size w wr)) (fun x _ => m - (intOf x).toNat)
   case atStart => exact ⟨j + 1, by omega, by omega, by go_num, ⟨by rw [shiftL_none]; exact HNR7.out⟩, HB5⟩
   case round =>
    obtain ⟨xx, hx1, hx2, rfl, HNx, HBx⟩ := hrel
    by_cases hlt : xx < m
    ·have hxl : xx < l0.length := by omega
     have hltz : (xx : Int) < (m : Int) := by omega
     go_wp2_with (first | (go_at_call 105; refine (HEN.out _ HBx.out).mono ?_; rintro e w8 ⟨rfl, hd⟩; obtain ⟨⟨nd, rfl⟩⟩ := hd; have hxc : (wr.drewN nd).cell? ⟨g, xx * 2 + 1, none⟩ = some (.int .i64 (l0[xx].f1)) := ((HNx.out.drew nd).cell (show (shiftL lessDeep (j + 1) xx l0)[xx]? = some l0[xx] by rw [shiftL_get, List.getElem?_eq_getElem hxl]; show some (if j + 1 ≤ xx ∧ xx < xx then _ else _) = _; rw [if_neg (by omega)])).2; have hxf := (HNx.out.drew nd).frozen (xx * 2 + 1)))
     have hN9 := NR.deep lessDeep (fun x => wrap64 (x.f1 - 1)) (fun _ => rfl) (HNx.out.drew nd) hx1 (List.getElem?_eq_getElem hxl)
     go_roundw
     case rel => exact ⟨xx + 1, by omega, by omega, by go_num, ⟨hN9⟩, ⟨(pw_below_drewN HBx.out nd).setCell hg _⟩⟩
     case measure => simp [intOf]; omega
    ·obtain rfl : xx = m := by omega
     have hDel := fun W (hN : NR W w4.drew.heap.size g cap (shiftL lessDeep (j + 1) xx l0)) => Delete_calls W w4.drew.heap.size g cap j (j + 1) (shiftL lessDeep (j + 1) xx l0) hN (by omega) (by rw [shiftL_len]; omega) (by have := hN.mx; unfold maxLen at this; omega)
     simp only [shiftL_len] at hDel
     have HDel := Aside0.mk hDel
     have hrt : ((j + 1 : Nat) : Int) = (j : Int) + 1 := by omega
     clear hDel
     go_wp2_with (first | (go_at_call 105; refine (HEN.out _ HBx.out).mono ?_; rintro e w8 ⟨rfl, hd⟩; obtain ⟨⟨nd, rfl⟩⟩ := hd) | (go_at_call 106; refine (HDel.out _ (HNx.out.drew nd)).mono ?_; rintro e w9 ⟨rfl, hN9, q, cs, rfl⟩; have HN9 := Aside0.mk hN9; clear hN9))
     have ho9 := HN9.out.own
     have hlen : (List.take j (shiftL lessDeep (j + 1) xx l0) ++ List.drop (j + 1) (shiftL lessDeep (j + 1) xx l0)).length = j + (l0.length - (j + 1)) := by rw [List.length_append, List.length_take, List.length_drop, shiftL_len]; omega
     rw [hlen] at ho9
     go_ret2
     exact ⟨_, rfl, Kd.R_lower ho9 hbl, (by first | exact pw_below_grown HBx.out (some g) HBx.out.size (grown_setRow wr (nd + q) g cs) (fun y hy => by cases hy; exact hg) | exact pw_below_grown (pw_below_drewN HBx.out nd) (some g) HBx.out.size (grown_setRow (wr.drewN nd) q g cs) (fun y hy => by cases hy; exact hg))⟩
  case neg =>
  rw [if_neg ha2] at h
  by_cases hf0 : 0 ≤ q2
  case neg => rw [if_neg hf0] at h; cases h
  rw [if_pos hf0] at h
  by_cases hf1 : q2 ≤ q3
  case neg => rw [if_neg hf1] at h; cases h
  rw [if_pos hf1] at h
  by_cases hf2 : q3 ≤ (l0.length : Int)
  case neg => rw [if_neg hf2] at h; cases h
  rw [if_pos hf2] at h
  obtain ⟨fr, rfl⟩ : ∃ fr : Nat, q2 = fr := ⟨q2.toNat, by omega⟩
  obtain ⟨to_, rfl⟩ : ∃ to_ : Nat, q3 = to_ := ⟨q3.toNat, by omega⟩
  simp only [Int.toNat_natCast] at h
  obtain ⟨rfl, rfl⟩ := Prod.mk.inj (Option.some.inj h)
  clear h
  have hft : fr ≤ to_ := by omega
  have htl : to_ ≤ l0.length := by omega
  clear hf0 hf1 hf2
  have hji0 : (0 : Int) ≤ (j : Int) := by omega
  have hji1 : (j : Int) < (l0.length : Int) := by omega
  obtain ⟨ada, ea, hya0, hya⟩ := at_T90 HR0.out (j : Int) hji0 hji1
  subst ea
  clear hya0
  have HYA := Aside0.mk hya
  clear hya
  have hd1 : (a0 == 1) = false := by simpa using ha1
  have hd2 : (a0 == 2) = false := by simpa using ha2
  go_wp2_with (first | (go_at_call 104; refine (HOC.out _ HB4.out).mono ?_; rintro e w7 ⟨rfl, hb⟩; have HB5 := Aside0.mk (HB4.out.trans (hb.mono HB4.out.size)); have HNR7 := Aside0.mk (HNR.out.keep (hb.block g HNR.out.lt)); have hG7 := (hb.block w.heap.size (blk_lt HG.out)).trans HG.out; have hy0 : w7.cell? ⟨w.heap.size, 0, none⟩ = some (.int .i64 a0) := (blk_cell hG7 0).trans rfl; have hy2 : w7.cell? ⟨w.heap.size, 2, none⟩ = some (.int .i64 a2) := (blk_cell hG7 2).trans rfl; have HG7 := Aside0.mk hG7; clear hb hG7))
  go_loopw [12] (fun x wr => ∃ xx : Nat, fr ≤ xx ∧ xx ≤ to_ ∧ x = .int .i64 xx ∧ Aside0 (NR wr w4.drew.heap.size g cap (shiftL moreDeep fr xx l0)) ∧ Aside0 (Below w.heap.size w wr) ∧ Aside0 (wr.heap[w.heap.size]? = some (.cells #[.int .i64 a0, .slice A1 l1.length c1, .int .i64 a2, .int .i64 a3, .int .i64 a4] 67 (0, 0)))) (fun x _ => to_ - (intOf x).toNat)
  case atStart => exact ⟨fr, by omega, by omega, rfl, ⟨by rw [shiftL_none]; exact HNR7.out⟩, HB5, HG7⟩
  case round =>
   obtain ⟨xx, hx1, hx2, rfl, HNx, HBx, HGx⟩ := hrel
   by_cases hlt : xx < to_
   ·have hxl : xx < l0.length := by omega
    have hltz : (xx : Int) < (to_ : Int) := by omega
    have hxc : wr.cell? ⟨g, xx * 2 + 1, none⟩ = some (.int .i64 (l0[xx].f1)) := (HNx.out.cell (show (shiftL moreDeep fr xx l0)[xx]? = some l0[xx] by rw [shiftL_get, List.getElem?_eq_getElem hxl]; show some (if fr ≤ xx ∧ xx < xx then _ else _) = _; rw [if_neg (by omega)])).2
    have hxf := HNx.out.frozen (xx * 2 + 1)
    go_wp2
    have hN9 := NR.deep moreDeep (fun x => wrap64 (x.f1 + 1)) (fun _ => rfl) HNx.out hx1 (List.getElem?_eq_getElem hxl)
    have hG9 : (wr.setCell ⟨g, xx * 2 + 1, none⟩ (.int .i64 (wrap64 (l0[xx].f1 + 1)))).heap[w.heap.size]? = some (.cells #[.int .i64 a0, .slice A1 l1.length c1, .int .i64 a2, .int .i64 a3, .int .i64 a4] 67 (0, 0)) := ((show Below (w.heap.size + 1) wr (wr.setCell ⟨g, xx * 2 + 1, none⟩ (.int .i64 (wrap64 (l0[xx].f1 + 1)))) from (Below.refl (w.heap.size + 1) wr).setCell (show w.heap.size + 1 ≤ g by omega) _).block w.heap.size (by omega)).trans HGx.out
    go_roundw
    case rel => exact ⟨xx + 1, by omega, by omega, by go_num, ⟨hN9⟩, ⟨HBx.out.setCell hg _⟩, ⟨hG9⟩⟩
    case measure => simp [intOf]; omega
   ·obtain rfl : xx = to_ := by omega
    have hyr := (HBx.out.cell (World.block_lt_of_cell? w _ HYA.out)).trans HYA.out
    rw [Int.toNat_natCast] at hyr
    have hz2r : wr.cell? ⟨w.heap.size, 2, none⟩ = some (.int .i64 a2) := (blk_cell HGx.out 2).trans rfl
    have hfz : fr ≤ l0.length := by omega
    have hab : (ada.add (j * 2)).block < w.heap.size := by
     have := World.block_lt_of_cell? w _ HYA.out
     rw [Int.toNat_natCast] at this
     exact this
    clear hz0 hz1 hz2 hz3 hz4
    go_upto_region 12 with (fail)
    refine start_ (n := 14) (S := fun w' => w'.cell? ⟨w.heap.size, 2, none⟩ = some (.int .i64 a2) ∧ w'.cell? ⟨(ada.add (j * 2)).block, (ada.add (j * 2)).off + 1, none⟩ = some (.int .i64 (rd_T90 l0 (j : Int)).f1)) (ds := []) (ba_ 14 0) (by kernel_rfl) rfl rfl ⟨hz2r, hyr⟩ (fun hHeld => ?_)
    refine pu_ 0 (some 51) (ba_ 14 1) rfl rfl (by kernel_rfl) ?_
    refine pu_ 1 (some 52) (ba_ 14 3) rfl rfl (by kernel_rfl) ?_
    refine pu_ 2 (some 53) (ba_ 14 7) rfl rfl (by kernel_rfl) ?_
    refine pu_ 4 (some 55) (ba_ 14 23) rfl rfl (by kernel_rfl) ?_
    refine pu_ 5 (some 56) (ba_ 14 55) rfl rfl (by kernel_rfl) ?_
    refine pu_ 6 (some 57) (ba_ 14 119) rfl rfl (by kernel_rfl) ?_
    refine pu_ 7 (some 58) (ba_ 14 247) rfl rfl (by kernel_rfl) ?_
    refine ta_ 3 (some 54) (ba_ 14 255) rfl rfl (by kernel_rfl) hHeld (by rintro w' ⟨s0, s1⟩; go_simp; with_reducible rfl) ?_
    refine ta_ 8 (some 59) (ba_ 14 511) rfl rfl (by kernel_rfl) hHeld (by rintro w' ⟨s0, s1⟩; go_simp; with_reducible rfl) ?_
    refine pu_ 9 (some 60) (ba_ 14 1023) rfl rfl (by kernel_rfl) ?_
    refine pu_ 10 (some 61) (ba_ 14 2047) rfl rfl (by kernel_rfl) ?_
    refine one_ (i := 11) (N := some 62) (ba_ 14 4095) rfl rfl (by kernel_rfl) (by decide) (fun K hK => ?_)
    refine Kd.R_lit_step k90 _ 90 ?hg (N := 62) ?hd (xs := ([⟨a2, wrap64 ((rd_T90 l0 (j : Int)).f1 + 1)⟩] : List NdI)) (inner := [.int .i64 a2, .int .i64 (wrap64 ((rd_T90 l0 (j : Int)).f1 + 1))]) (ok := fun _ => True) (okp := fun _ => True) ?hr ?hp (fun _ hk => hk) trivial (Below.refl _ _) (Nat.le_refl _) (by simp) ?_
    (case hd => rfl)
    (case hg => rfl)
    (case hr => first | (go_simp; done) | (go_simp; rfl))
    (case hp => exact (Reps.c2 (show Kd.M k90 _ _ _ (⟨a2, wrap64 ((rd_T90 l0 (j : Int)).f1 + 1)⟩ : NdI) [.int .i64 a2, .int .i64 (wrap64 ((rd_T90 l0 (j : Int)).f1 + 1))] from (k90_mkM _ _ _ (⟨a2, wrap64 ((rd_T90 l0 (j : Int)).f1 + 1)⟩ : NdI))) (Reps.none _ _)))
    intro v9 w9 ho9 hb9 hg_ hnew_
    clear hg_ hnew_
    obtain ⟨vb, vc, rfl, hV9⟩ := NR.of ho9 (by simp)
    clear ho9
    simp only [List.length_singleton]
    have HV9 := Aside0.mk hV9
    have HN9 := Aside0.mk ((HNx.out.drew 1).keep (w1 := w9) (hb9.block g (show g < _ from HNx.out.lt)))
    have HB9 := Aside0.mk ((pw_below_drewN HBx.out 1).trans (hb9.mono HBx.out.size))
    refine hK.out _ _ ⟨pw_cell_below hb9 hHeld.1, pw_cell_below hb9 hHeld.2⟩ (fun hHeld => ?_)
    clear hb9 hV9
    clear hK K
    refine norm_ (a' := ?_) ?_ ?_
    rotate_left
    ·show Act.put _ (some 62) _ = _
     simp only [Act.put, List.setIfInBounds_toArray, List.set_cons_zero, List.set_cons_succ, i64_w, i32_w]
     rfl
    refine one_ (i := 12) (N := some 63) (ba_ 14 8191) rfl rfl (by kernel_rfl) (by decide) (fun K hK => ?_)
    refine goes_ Try.func107 (by kernel_rfl) rfl #[.slice (some ⟨g, 0, none⟩) l0.length cap, .int .i64 fr, .slice (some ⟨vb, 0, none⟩) 1 vc] (by rfl) rfl rfl (by (try simp only [List.map_toArray, List.map_cons, List.map_nil]); first | done | rfl) ?_
    have hgl := HNx.out.lt
    have hgb := HNx.out.le
    have hvb : wr.heap.size ≤ vb := HV9.out.le
    have hIns := Insert_calls w9 w4.drew.heap.size g cap vb vc fr (shiftL moreDeep fr xx l0) _ HN9.out ⟨by omega, HV9.out.fits, HV9.out.mx, HV9.out.row⟩ (by omega) (by rw [shiftL_len]; omega) (by rw [shiftL_len]; omega) (by rw [shiftL_len]; omega)
    simp only [shiftL_len] at hIns
    refine hIns.mono ?_
    rintro e w10 ⟨g', cap', rfl, hN10, hgr⟩
    refine ⟨_, rfl, ?_⟩
    have HN10 := Aside0.mk hN10
    have HB10 := Aside0.mk (pw_below_grown HB9.out (some g) HB9.out.size hgr (fun y hy => by cases hy; exact hg))
    refine hK.out _ _ ⟨cell_grown hgr hHeld.1 (by intro hq; injection hq with hq; simp only at hq; omega), cell_grown hgr hHeld.2 (by intro hq; injection hq with hq; simp only at hq; omega)⟩ (fun hHeld => ?_)
    clear hN10 hIns hgr
    clear hK K
    refine norm_ (a' := ?_) ?_ ?_
    rotate_left
    ·show Act.put _ (some 63) _ = _
     simp only [Act.put, List.setIfInBounds_toArray, List.set_cons_zero, List.set_cons_succ, i64_w, i32_w]
     rfl
    refine pu_ 13 (some 6) (ba_ 14 16383) rfl rfl (by kernel_rfl) ?_
    refine done_ (by kernel_rfl) ?_
    go_wp2
    have ho10 := HN10.out.own
    have hlen : (List.take fr (shiftL moreDeep fr xx l0) ++ [(⟨a2, wrap64 ((rd_T90 l0 (j : Int)).f1 + 1)⟩ : NdI)] ++ List.drop fr (shiftL moreDeep fr xx l0)).length = l0.length + 1 := by rw [List.length_append, List.length_append, List.length_take, List.length_drop, shiftL_len, List.length_singleton]; omega
    rw [hlen] at ho10
    go_ret2
    exact ⟨_, rfl, Kd.R_lower ho10 hbl, HB10.out⟩
end Go.Proofs.Ytbifdckfglejkaa.X
namespace Go.Proofs.Ytbifdckfglejkaa.X
open Go.RowKit Go.Proofs.YtbifdckfglejkaaW.PrintWords Go.Proofs.YtbifdckfglejkaaW.PrintLast Go.Proofs.YtbifdckfglejkaaW.PrintMore
attribute [local go_sem] max2_int min2_int max_two min_two max_three min_three max_four min_four   -- for this text's walks alone
set_option linter.unusedVariables false
set_option linter.unusedSimpArgs false
mutual
def laws_FnExactApplyOp.j0 : Nat → List (S120) → List (S90) → Int → List (S90) → List (S90) → Int → Bool → Int → List Int → Int → Int → Int → Int → List Int → Int → Int → Int → Option (Bool)
 | 0, _, _, _, _, _, _, _, _, _, _, _, _, _, _, _, _, _ => none
 | k + 1, x0, x6, x7, x8, x10, x11, x53, x973000, x973001, x973002, x973003, x973004, x1000000, x1000001, x1000002, x1000003, x1000004 => if x53 = true then (some false) else ((laws_toNodeS.f k x0).bind fun t1005 => ((laws_eqNodeS.f k x8 t1005).bind fun t1008 => (if t1008 = true then ((laws_toOp.f k x973000 x973001 x973002 x973003 x973004).bind fun bt1009 => ((laws_eqOp.f k x1000000 x1000001 x1000002 x1000003 x1000004 bt1009.1 bt1009.2.1 bt1009.2.2.1 bt1009.2.2.2.1 bt1009.2.2.2.2).bind fun t1016 => (if t1016 = true then ((laws_markNodeS.f k x8 1).bind fun bt1017 => ((laws_markOp.f k x1000000 x1000001 x1000002 x1000003 x1000004 bt1017.1).bind fun bt1019 => (if bt1019.1 < 0 then (laws_FnExactApplyOp.j1 k x0 x6 x7 x10 true x973000 x973001 x973002 x973003 x973004) else ((laws_eqNodeS.f k x10 x6).bind fun t1021 => (if t1021 = true then (laws_FnExactApplyOp.j1 k x0 x6 x7 x10 (x11 != x7) x973000 x973001 x973002 x973003 x973004) else (laws_FnExactApplyOp.j1 k x0 x6 x7 x10 true x973000 x973001 x973002 x973003 x973004)))))) else (some false)))) else (some false))))
def laws_FnExactApplyOp.j1 : Nat → List (S120) → List (S90) → Int → List (S90) → Bool → Int → List Int → Int → Int → Int → Option (Bool)
 | 0, _, _, _, _, _, _, _, _, _, _ => none
 | k + 1, x0, x6, x7, x10, x82, x973000, x973001, x973002, x973003, x973004 => if x82 = true then (some false) else ((laws_markNodeS.f k x10 1).bind fun bt1022 => ((laws_heldNodeS.f k bt1022.2 1).bind fun t1024 => (if t1024 < 0 then (some false) else (if t1024 = bt1022.1 then ((laws_toNodeS.f k x0).bind fun t1025 => ((laws_toOp.f k x973000 x973001 x973002 x973003 x973004).bind fun bt1028 => ((impl_ApplyOp.f k t1025 bt1028.1 bt1028.2.1 bt1028.2.2.1 bt1028.2.2.2.1 bt1028.2.2.2.2).bind fun bt1035 => ((laws_eqNodeS.f k bt1035.1 x6).bind fun t1039 => (if t1039 = true then (laws_FnExactApplyOp.j2 k bt1022.2 bt1022.1 (bt1035.2 != x7)) else (laws_FnExactApplyOp.j2 k bt1022.2 bt1022.1 true)))))) else (some false)))))
def laws_FnExactApplyOp.j2 : Nat → List (S90) → Int → Bool → Option (Bool)
 | 0, _, _, _ => none
 | k + 1, x10, x13, x110 => if x110 = true then (some false) else ((laws_heldNodeS.f k x10 1).bind fun t1040 => (if t1040 < 0 then (some false) else (if t1040 = x13 then (some true) else (some false))))
end
def laws_FnExactApplyOp.f (k : Nat) (l0 : List (S120)) (a1_0 : Int) (l1_1 : List Int) (a1_2 : Int) (a1_3 : Int) (a1_4 : Int) : Option (Bool) := (laws_szNodeS.f l0 1048576).bind fun t973 => (if t973 < 0 then (some true) else ((laws_szOp.f a1_0 l1_1 a1_2 a1_3 a1_4 t973).bind fun t974 => (if t974 < 0 then (some true) else ((laws_toNodeS.f k l0).bind fun t975 => ((laws_toOp.f k a1_0 l1_1 a1_2 a1_3 a1_4).bind fun bt978 => ((spec_ApplyOp.f k t975 bt978.1 bt978.2.1 bt978.2.2.1 bt978.2.2.2.1 bt978.2.2.2.2).bind fun bt985 => ((laws_toNodeS.f k l0).bind fun t989 => ((laws_toOp.f k a1_0 l1_1 a1_2 a1_3 a1_4).bind fun bt992 => ((impl_ApplyOp.f k t989 bt992.1 bt992.2.1 bt992.2.2.1 bt992.2.2.2.1 bt992.2.2.2.2).bind fun bt1000 => ((laws_eqNodeS.f k bt1000.1 bt985.1).bind fun t1004 => (if t1004 = true then (laws_FnExactApplyOp.j0 k l0 bt985.1 bt985.2 t989 bt1000.1 bt1000.2 (bt1000.2 != bt985.2) a1_0 l1_1 a1_2 a1_3 a1_4 bt992.1 bt992.2.1 bt992.2.2.1 bt992.2.2.2.1 bt992.2.2.2.2) else (laws_FnExactApplyOp.j0 k l0 bt985.1 bt985.2 t989 bt1000.1 bt1000.2 true a1_0 l1_1 a1_2 a1_3 a1_4 bt992.1 bt992.2.1 bt992.2.2.1 bt992.2.2.2.1 bt992.2.2.2.2))))))))))))
def laws_FnExactApplyOp.T8 : Bool × List (List Nat × List Nat) := (true, [([], []), ([0], [0]), ([], []), ([2, 1], [2]), ([1, 3, 3], [1, 3]), ([4], [4]), ([5], [5]), ([5], [5]), ([6, 4, 0, 1, 2, 3, 4, 5, 6], [6]), ([7, 8, 0, 1, 2, 3, 4, 5, 6, 7, 8], [7])])
def laws_FnExactApplyOp.B8 : List Nat := [0, 1, 0, 7, 15, 31, 63, 63, 127, 511]
theorem laws_FnExactApplyOp.tab8 : rtab .any (opsOf Try.f9 8) = laws_FnExactApplyOp.T8 := by kernel_rfl
theorem laws_FnExactApplyOp.bits8 : waitsOk laws_FnExactApplyOp.T8.2 laws_FnExactApplyOp.B8 = true := by kernel_rfl
def laws_FnExactApplyOp.T31 : Bool × List (List Nat × List Nat) := (true, [([], []), ([0], [0]), ([], []), ([2, 1], [2]), ([1, 3, 3], [1, 3]), ([4], [4]), ([5], [5]), ([5], [5]), ([6, 4, 0, 1, 2, 3, 4, 5, 6], [6]), ([7, 8, 0, 1, 2, 3, 4, 5, 6, 7, 8], [7])])
def laws_FnExactApplyOp.B31 : List Nat := [0, 1, 0, 7, 15, 31, 63, 63, 127, 511]
theorem laws_FnExactApplyOp.tab31 : rtab .any (opsOf Try.f9 31) = laws_FnExactApplyOp.T31 := by kernel_rfl
theorem laws_FnExactApplyOp.bits31 : waitsOk laws_FnExactApplyOp.T31.2 laws_FnExactApplyOp.B31 = true := by kernel_rfl
set_option maxHeartbeats 8000000 in
set_option maxRecDepth 100000 in
theorem laws_FnExactApplyOp.calls (k : Nat) (A0 : Option Addr) (c0 : Nat) (l0 : List (S120)) (a1_0 : Int) (A1_1 : Option Addr) (c1_1 : Nat) (l1_1 : List Int) (a1_2 : Int) (a1_3 : Int) (a1_4 : Int) (w : World) (hr0 : Kd.C k120 w A0 l0.length l0) (hc0 : l0.length ≤ c0) (hr1_1 : Kd.C (Kd.int .i64) w A1_1 l1_1.length l1_1) (hc1_1 : l1_1.length ≤ c1_1) (h : laws_FnExactApplyOp.f k l0 a1_0 l1_1 a1_2 a1_3 a1_4 = some true) :
  Calls Try.prog 9 #[.slice A0 l0.length c0, .agg #[.int .i64 a1_0, .slice A1_1 l1_1.length c1_1, .int .i64 a1_2, .int .i64 a1_3, .int .i64 a1_4]] w fun e w' => e = .returned (.bool true) ∧ Below w.heap.size w w' := by
 have hu63 := Try.underlying63
 have hu67 := Try.underlying67
 have HR0 := Aside0.mk hr0
 have HC0 := Aside0.mk hc0
 clear hr0 hc0
 have HR1_1 := Aside0.mk hr1_1
 have HC1_1 := Aside0.mk hc1_1
 clear hr1_1 hc1_1
 have HB := Aside0.mk (Below.refl w.heap.size w)
 have H : ((laws_szNodeS.f l0 1048576).bind fun t973 => (if t973 < 0 then (some true) else ((laws_szOp.f a1_0 l1_1 a1_2 a1_3 a1_4 t973).bind fun t974 => (if t974 < 0 then (some true) else ((laws_toNodeS.f k l0).bind fun t975 => ((laws_toOp.f k a1_0 l1_1 a1_2 a1_3 a1_4).bind fun bt978 => ((spec_ApplyOp.f k t975 bt978.1 bt978.2.1 bt978.2.2.1 bt978.2.2.2.1 bt978.2.2.2.2).bind fun bt985 => ((laws_toNodeS.f k l0).bind fun t989 => ((laws_toOp.f k a1_0 l1_1 a1_2 a1_3 a1_4).bind fun bt992 => ((impl_ApplyOp.f k t989 bt992.1 bt992.2.1 bt992.2.2.1 bt992.2.2.2.1 bt992.2.2.2.2).bind fun bt1000 => ((laws_eqNodeS.f k bt1000.1 bt985.1).bind fun t1004 => (if t1004 = true then (laws_FnExactApplyOp.j0 k l0 bt985.1 bt985.2 t989 bt1000.1 bt1000.2 (bt1000.2 != bt985.2) a1_0 l1_1 a1_2 a1_3 a1_4 bt992.1 bt992.2.1 bt992.2.2.1 bt992.2.2.2.1 bt992.2.2.2.2) else (laws_FnExactApplyOp.j0 k l0 bt985.1 bt985.2 t989 bt1000.1 bt1000.2 true a1_0 l1_1 a1_2 a1_3 a1_4 bt992.1 bt992.2.1 bt992.2.2.1 bt992.2.2.2.1 bt992.2.2.2.2))))))))))))) = some true := h
 clear h
 replace H := Option.bind_eq_some_iff.mp H
 obtain ⟨t973, A30, H⟩ := H
 try dsimp only at H
 have A3 := Aside0.mk A30
 clear A30
 by_cases c4 : t973 < 0
 ·rw [if_pos c4] at H
  have c4b0 : decide (t973 < 0) = true := decide_eq_true c4
  clear c4
  clear H
  go_enter Try.func9, Try.ntmps9
  go_wp2_with (first | ((with_reducible refine gate_dst (N := 3) rfl ?_); refine box_event ?hg (N := 3) ?hd (cs := #[.int .i64 a1_0, .slice A1_1 l1_1.length c1_1, .int .i64 a1_2, .int .i64 a1_3, .int .i64 a1_4]) (t := 63) ?hr ?_; (case hd => rfl); (case hg => rfl); (case hr => first | (go_simp; done) | (go_simp; rfl)); intro gb972 hg w5 hbox hb; have n0_ := Aside0.mk (below_step (by repeat (first | (with_reducible first | exact HB.out | apply below_alloc | apply pw_below_drewN | apply below_drew1) | exact HB.out)) hb); have n1_ := Aside0.mk (hbox); have n2_ := Aside0.mk ((by rw [hg]; exact (below_size (by repeat (first | (with_reducible first | exact HB.out | apply below_alloc | apply pw_below_drewN | apply below_drew1) | exact HB.out))) : w.heap.size ≤ gb972)); have n3_ := Aside0.mk ((by rw [hg]; exact (below_size (by repeat (first | (with_reducible first | exact HB.out | apply below_alloc | apply pw_below_drewN | apply below_drew1) | exact HB.out))) : w.heap.size ≤ gb972)); clear HB; have HB := n0_; have BK972 := n1_; have GW972 := n2_; have GE972 := n3_; clear n0_ n1_ n2_ n3_; clear hb hbox hg) | ((with_reducible refine gate_callee (f := 31) rfl ?_); refine goesL_ (some 19) rfl rfl Try.func31 (by kernel_rfl) rfl #[.slice A0 l0.length c0, .int .i64 1048576] rfl (by (try simp only [List.map_toArray, List.map_cons, List.map_nil]); first | done | rfl | (simp only [List.length_drop, List.length_take]; rfl)) ?_; (with_reducible refine (laws_szNodeS.calls _ _ l0 1048576 t973 _ ?side1 ?side2 A3.out).mono ?_); (case side1 => repeat (first | exact (Kd.C_below HR0.out HB.out) | (with_reducible refine Kd.C_alloc ?_ _) | (with_reducible refine Kd.C_drewN ?_ _) | (with_reducible refine Kd.C_drew ?_))); (case side2 => exact HC0.out); rintro e w' ⟨rfl, ⟨nd, rfl⟩⟩; refine ⟨_, rfl, ?_⟩))
  go_ret
  exact ⟨by first | rfl | (simp [errW_none, errW_some] <;> rfl) | (simp [*, errW_none, errW_some] <;> rfl), by repeat (first | (with_reducible first | exact HB.out | apply below_alloc | apply pw_below_drewN | apply below_drew1 | refine below_set ?_ GE972.out) | exact HB.out)⟩
 ·rw [if_neg c4] at H
  have c4b0 : decide (t973 < 0) = false := decide_eq_false c4
  clear c4
  replace H := Option.bind_eq_some_iff.mp H
  obtain ⟨t974, A60, H⟩ := H
  try dsimp only at H
  have A6 := Aside0.mk A60
  clear A60
  by_cases c7 : t974 < 0
  ·rw [if_pos c7] at H
   have c7b0 : decide (t974 < 0) = true := decide_eq_true c7
   clear c7
   clear H
   go_enter Try.func9, Try.ntmps9
   go_wp2_with (first | ((with_reducible refine gate_dst (N := 3) rfl ?_); refine box_event ?hg (N := 3) ?hd (cs := #[.int .i64 a1_0, .slice A1_1 l1_1.length c1_1, .int .i64 a1_2, .int .i64 a1_3, .int .i64 a1_4]) (t := 63) ?hr ?_; (case hd => rfl); (case hg => rfl); (case hr => first | (go_simp; done) | (go_simp; rfl)); intro gb972 hg w8 hbox hb; have n0_ := Aside0.mk (below_step (by repeat (first | (with_reducible first | exact HB.out | apply below_alloc | apply pw_below_drewN | apply below_drew1) | exact HB.out)) hb); have n1_ := Aside0.mk (hbox); have n2_ := Aside0.mk ((by rw [hg]; exact (below_size (by repeat (first | (with_reducible first | exact HB.out | apply below_alloc | apply pw_below_drewN | apply below_drew1) | exact HB.out))) : w.heap.size ≤ gb972)); have n3_ := Aside0.mk ((by rw [hg]; exact (below_size (by repeat (first | (with_reducible first | exact HB.out | apply below_alloc | apply pw_below_drewN | apply below_drew1) | exact HB.out))) : w.heap.size ≤ gb972)); clear HB; have HB := n0_; have BK972 := n1_; have GW972 := n2_; have GE972 := n3_; clear n0_ n1_ n2_ n3_; clear hb hbox hg) | ((with_reducible refine gate_callee (f := 31) rfl ?_); refine goesL_ (some 19) rfl rfl Try.func31 (by kernel_rfl) rfl #[.slice A0 l0.length c0, .int .i64 1048576] rfl (by (try simp only [List.map_toArray, List.map_cons, List.map_nil]); first | done | rfl | (simp only [List.length_drop, List.length_take]; rfl)) ?_; (with_reducible refine (laws_szNodeS.calls _ _ l0 1048576 t973 _ ?side1 ?side2 A3.out).mono ?_); (case side1 => repeat (first | exact (Kd.C_below HR0.out HB.out) | (with_reducible refine Kd.C_alloc ?_ _) | (with_reducible refine Kd.C_drewN ?_ _) | (with_reducible refine Kd.C_drew ?_))); (case side2 => exact HC0.out); rintro e w' ⟨rfl, ⟨nd, rfl⟩⟩; refine ⟨_, rfl, ?_⟩; have hcz9_0 : w8.cell? ⟨gb972, 0, none⟩ = some (.int .i64 a1_0) := (blk_cell BK972.out 0).trans rfl; have hcz9_1 : w8.cell? ⟨gb972, 1, none⟩ = some (.slice A1_1 l1_1.length c1_1) := (blk_cell BK972.out 1).trans rfl; have hcz9_2 : w8.cell? ⟨gb972, 2, none⟩ = some (.int .i64 a1_2) := (blk_cell BK972.out 2).trans rfl; have hcz9_3 : w8.cell? ⟨gb972, 3, none⟩ = some (.int .i64 a1_3) := (blk_cell BK972.out 3).trans rfl; have hcz9_4 : w8.cell? ⟨gb972, 4, none⟩ = some (.int .i64 a1_4) := (blk_cell BK972.out 4).trans rfl; have hfz9_0 := blk_frozen BK972.out 0; have hfz9_1 := blk_frozen BK972.out 1; have hfz9_2 := blk_frozen BK972.out 2; have hfz9_3 := blk_frozen BK972.out 3; have hfz9_4 := blk_frozen BK972.out 4) | ((with_reducible refine gate_callee (f := 43) rfl ?_); refine goesL_ (some 24) rfl rfl Try.func43 (by kernel_rfl) rfl #[.agg #[.int .i64 a1_0, .slice A1_1 l1_1.length c1_1, .int .i64 a1_2, .int .i64 a1_3, .int .i64 a1_4], .int .i64 t973] rfl (by (try simp only [List.map_toArray, List.map_cons, List.map_nil]); first | done | rfl | (simp only [List.length_drop, List.length_take]; rfl)) ?_; (with_reducible refine (laws_szOp.calls a1_0 _ _ l1_1 a1_2 a1_3 a1_4 t973 t974 _ ?side1 ?side2 A6.out).mono ?_); (case side1 => repeat (first | exact (Kd.C_below HR1_1.out (by repeat (first | (with_reducible first | exact HB.out | apply below_alloc | apply pw_below_drewN | apply below_drew1 | refine below_set ?_ GE972.out) | exact HB.out))) | (with_reducible refine Kd.C_alloc ?_ _) | (with_reducible refine Kd.C_drewN ?_ _) | (with_reducible refine Kd.C_drew ?_))); (case side2 => exact HC1_1.out); rintro e w10 ⟨rfl, hb⟩; refine ⟨_, rfl, ?_⟩; have n0_ := Aside0.mk (blk_below (g := gb972) (o := .cells #[.int .i64 a1_0, .slice A1_1 l1_1.length c1_1, .int .i64 a1_2, .int .i64 a1_3, .int .i64 a1_4] 63 (0, 0)) (by (with_reducible repeat (first | refine blk_drewN ?_ _ | refine blk_drew ?_ | refine blk_alloc ?_ _)); exact BK972.out) hb); have n1_ := Aside0.mk (below_step (by repeat (first | (with_reducible first | exact HB.out | apply below_alloc | apply pw_below_drewN | apply below_drew1 | refine below_set ?_ GE972.out) | exact HB.out)) hb); clear BK972; clear HB; have BK972 := n0_; have HB := n1_; clear n0_ n1_; (try clear hb); (try clear hb2); (try clear hk); (try clear hi)))
   go_ret
   exact ⟨by first | rfl | (simp [errW_none, errW_some] <;> rfl) | (simp [*, errW_none, errW_some] <;> rfl), by repeat (first | (with_reducible first | exact HB.out | apply below_alloc | apply pw_below_drewN | apply below_drew1 | refine below_set ?_ GE972.out) | exact HB.out)⟩
  ·rw [if_neg c7] at H
   have c7b0 : decide (t974 < 0) = false := decide_eq_false c7
   clear c7
   replace H := Option.bind_eq_some_iff.mp H
   obtain ⟨t975, A110, H⟩ := H
   try dsimp only at H
   have A11 := Aside0.mk A110
   clear A110
   replace H := Option.bind_eq_some_iff.mp H
   obtain ⟨⟨t978, t979, t982, t983, t984⟩, A120, H⟩ := H
   try dsimp only at H
   have A12 := Aside0.mk A120
   clear A120
   replace H := Option.bind_eq_some_iff.mp H
   obtain ⟨⟨t985, t988⟩, A130, H⟩ := H
   try dsimp only at H
   have A13 := Aside0.mk A130
   clear A130
   replace H := Option.bind_eq_some_iff.mp H
   obtain ⟨t989, A140, H⟩ := H
   try dsimp only at H
   have A14 := Aside0.mk A140
   clear A140
   replace H := Option.bind_eq_some_iff.mp H
   obtain ⟨⟨t992, t993, t996, t997, t998⟩, A150, H⟩ := H
   try dsimp only at H
   have A15 := Aside0.mk A150
   clear A150
   replace H := Option.bind_eq_some_iff.mp H
   obtain ⟨⟨t1000, t1003⟩, A160, H⟩ := H
   try dsimp only at H
   have A16 := Aside0.mk A160
   clear A160
   have HC17 := Aside0.mk H
   clear H
   go_enter Try.func9, Try.ntmps9
   try go_wp2_with (first | ((with_reducible refine gate_dst (N := 3) rfl ?_); refine box_event ?hg (N := 3) ?hd (cs := #[.int .i64 a1_0, .slice A1_1 l1_1.length c1_1, .int .i64 a1_2, .int .i64 a1_3, .int .i64 a1_4]) (t := 63) ?hr ?_; (case hd => rfl); (case hg => rfl); (case hr => first | (go_simp; done) | (go_simp; rfl)); intro gb972 hg w18 hbox hb; have n0_ := Aside0.mk (below_step (by repeat (first | (with_reducible first | exact HB.out | apply below_alloc | apply pw_below_drewN | apply below_drew1) | exact HB.out)) hb); have n1_ := Aside0.mk (hbox); have n2_ := Aside0.mk ((by rw [hg]; exact (below_size (by repeat (first | (with_reducible first | exact HB.out | apply below_alloc | apply pw_below_drewN | apply below_drew1) | exact HB.out))) : w.heap.size ≤ gb972)); have n3_ := Aside0.mk ((by rw [hg]; exact (below_size (by repeat (first | (with_reducible first | exact HB.out | apply below_alloc | apply pw_below_drewN | apply below_drew1) | exact HB.out))) : w.heap.size ≤ gb972)); clear HB; have HB := n0_; have BK972 := n1_; have GW972 := n2_; have GE972 := n3_; clear n0_ n1_ n2_ n3_; clear hb hbox hg) | ((with_reducible refine gate_callee (f := 31) rfl ?_); refine goesL_ (some 19) rfl rfl Try.func31 (by kernel_rfl) rfl #[.slice A0 l0.length c0, .int .i64 1048576] rfl (by (try simp only [List.map_toArray, List.map_cons, List.map_nil]); first | done | rfl | (simp only [List.length_drop, List.length_take]; rfl)) ?_; (with_reducible refine (laws_szNodeS.calls _ _ l0 1048576 t973 _ ?side1 ?side2 A3.out).mono ?_); (case side1 => repeat (first | exact (Kd.C_below HR0.out HB.out) | (with_reducible refine Kd.C_alloc ?_ _) | (with_reducible refine Kd.C_drewN ?_ _) | (with_reducible refine Kd.C_drew ?_))); (case side2 => exact HC0.out); rintro e w' ⟨rfl, ⟨nd, rfl⟩⟩; refine ⟨_, rfl, ?_⟩; (try (rw [drewN_self w18]; generalize hq_ : World.drewN w18 _ = w18; have n0_ : Aside0 (w18.heap[gb972]? = some (.cells #[.int .i64 a1_0, .slice A1_1 l1_1.length c1_1, .int .i64 a1_2, .int .i64 a1_3, .int .i64 a1_4] 63 (0, 0))) := ⟨by rw [← hq_]; exact (by (with_reducible repeat (first | refine blk_drewN ?_ _ | refine blk_drew ?_ | refine blk_alloc ?_ _)); exact BK972.out)⟩; have n1_ : Aside0 (Below w.heap.size w w18) := ⟨by rw [← hq_]; exact (by repeat (first | (with_reducible first | exact HB.out | apply below_alloc | apply pw_below_drewN | apply below_drew1 | refine below_set ?_ GE972.out) | exact HB.out))⟩; clear BK972 HB hq_; have BK972 := n0_; have HB := n1_; clear n0_ n1_)); have hcz19_0 : w18.cell? ⟨gb972, 0, none⟩ = some (.int .i64 a1_0) := (blk_cell BK972.out 0).trans rfl; have hcz19_1 : w18.cell? ⟨gb972, 1, none⟩ = some (.slice A1_1 l1_1.length c1_1) := (blk_cell BK972.out 1).trans rfl; have hcz19_2 : w18.cell? ⟨gb972, 2, none⟩ = some (.int .i64 a1_2) := (blk_cell BK972.out 2).trans rfl; have hcz19_3 : w18.cell? ⟨gb972, 3, none⟩ = some (.int .i64 a1_3) := (blk_cell BK972.out 3).trans rfl; have hcz19_4 : w18.cell? ⟨gb972, 4, none⟩ = some (.int .i64 a1_4) := (blk_cell BK972.out 4).trans rfl; have hfz19_0 := blk_frozen BK972.out 0; have hfz19_1 := blk_frozen BK972.out 1; have hfz19_2 := blk_frozen BK972.out 2; have hfz19_3 := blk_frozen BK972.out 3; have hfz19_4 := blk_frozen BK972.out 4) | ((with_reducible refine gate_callee (f := 43) rfl ?_); refine goesL_ (some 24) rfl rfl Try.func43 (by kernel_rfl) rfl #[.agg #[.int .i64 a1_0, .slice A1_1 l1_1.length c1_1, .int .i64 a1_2, .int .i64 a1_3, .int .i64 a1_4], .int .i64 t973] rfl (by (try simp only [List.map_toArray, List.map_cons, List.map_nil]); first | done | rfl | (simp only [List.length_drop, List.length_take]; rfl)) ?_; (with_reducible refine (laws_szOp.calls a1_0 _ _ l1_1 a1_2 a1_3 a1_4 t973 t974 _ ?side1 ?side2 A6.out).mono ?_); (case side1 => repeat (first | exact (Kd.C_below HR1_1.out HB.out) | (with_reducible refine Kd.C_alloc ?_ _) | (with_reducible refine Kd.C_drewN ?_ _) | (with_reducible refine Kd.C_drew ?_))); (case side2 => exact HC1_1.out); rintro e w20 ⟨rfl, hb⟩; refine ⟨_, rfl, ?_⟩; have n0_ := Aside0.mk (blk_below (g := gb972) (o := .cells #[.int .i64 a1_0, .slice A1_1 l1_1.length c1_1, .int .i64 a1_2, .int .i64 a1_3, .int .i64 a1_4] 63 (0, 0)) (by (with_reducible repeat (first | refine blk_drewN ?_ _ | refine blk_drew ?_ | refine blk_alloc ?_ _)); exact BK972.out) hb); have n1_ := Aside0.mk (below_step (by repeat (first | (with_reducible first | exact HB.out | apply below_alloc | apply pw_below_drewN | apply below_drew1 | refine below_set ?_ GE972.out) | exact HB.out)) hb); clear BK972; clear HB; have BK972 := n0_; have HB := n1_; clear n0_ n1_; (try clear hb); (try clear hb2); (try clear hk); (try clear hi)))
   have n0_ := Aside0.mk (blk_drew BK972.out)
   have n1_ := Aside0.mk (below_drew1 HB.out)
   clear BK972
   clear HB
   have BK972 := n0_
   have HB := n1_
   clear n0_ n1_
   refine start_ (n := 10) (S := fun w' => w'.cell? ⟨gb972, 0, none⟩ = some (.int .i64 a1_0) ∧ w'.cell? ⟨gb972, 1, none⟩ = some (.slice A1_1 l1_1.length c1_1) ∧ w'.cell? ⟨gb972, 2, none⟩ = some (.int .i64 a1_2) ∧ w'.cell? ⟨gb972, 3, none⟩ = some (.int .i64 a1_3) ∧ w'.cell? ⟨gb972, 4, none⟩ = some (.int .i64 a1_4)) (ds := []) (ba_ 10 0) (by kernel_rfl) rfl rfl ⟨(blk_cell BK972.out 0).trans rfl, (blk_cell BK972.out 1).trans rfl, (blk_cell BK972.out 2).trans rfl, (blk_cell BK972.out 3).trans rfl, (blk_cell BK972.out 4).trans rfl⟩ (fun hHeld => ?_); refine with_tabW laws_FnExactApplyOp.tab8 laws_FnExactApplyOp.bits8 (fun HT_ HW_ => ?_)
   generalize w20.drew = w21 at BK972 HB hHeld ⊢
   refine pu_ 0 (some 28) (ba_ 10 1) rfl rfl (any_of HT_.out (by kernel_rfl)) ?_
   refine ta_ 2 (some 30) (ba_ 10 5) rfl rfl (take_ofW HT_.out HW_.out (by kernel_rfl)) hHeld (by rintro w' ⟨s0, s1, s2, s3, s4⟩; go_simp; with_reducible rfl) ?_
   refine one_ (i := 1) (N := some 29) (ba_ 10 7) rfl rfl (one_of HT_.out (by kernel_rfl)) (by decide) (fun K hK => ?_)
   refine goes_ Try.func35 (by kernel_rfl) rfl #[.slice A0 l0.length c0] (by rfl) rfl rfl (by (try simp only [List.map_toArray, List.map_cons, List.map_nil]); first | done | rfl | (simp only [List.length_drop, List.length_take]; rfl)) ?_
   with_reducible refine (laws_toNodeS.calls k _ _ l0 t975 _ ?side1 ?side2 A11.out).mono ?_
   (case side1 => repeat (first | exact (Kd.C_below HR0.out HB.out) | (with_reducible refine Kd.C_alloc ?_ _) | (with_reducible refine Kd.C_drewN ?_ _) | (with_reducible refine Kd.C_drew ?_)))
   (case side2 => exact HC0.out)
   rintro e w22 ⟨v976, rfl, ho0, hb⟩
   refine ⟨_, rfl, ?_⟩
   have n0_ := Aside0.mk (Kd.R_lower ho0 (below_size (by repeat (first | (with_reducible first | exact HB.out | apply below_alloc | apply pw_below_drewN | apply below_drew1 | refine below_set ?_ GE972.out) | exact HB.out))))
   have n1_ := Aside0.mk (blk_below (g := gb972) (o := .cells #[.int .i64 a1_0, .slice A1_1 l1_1.length c1_1, .int .i64 a1_2, .int .i64 a1_3, .int .i64 a1_4] 63 (0, 0)) (by (with_reducible repeat (first | refine blk_drewN ?_ _ | refine blk_drew ?_ | refine blk_alloc ?_ _)); exact BK972.out) hb)
   have n2_ := Aside0.mk (below_step (by repeat (first | (with_reducible first | exact HB.out | apply below_alloc | apply pw_below_drewN | apply below_drew1 | refine below_set ?_ GE972.out) | exact HB.out)) hb)
   clear BK972
   clear HB
   have HO977 := n0_
   have BK972 := n1_
   have HB := n2_
   clear n0_ n1_ n2_
   (try clear hb)
   (try clear hb2)
   (try clear hk)
   (try clear hi)
   (try clear ho0)
   refine hK.out _ _ ⟨(blk_cell BK972.out 0).trans rfl, (blk_cell BK972.out 1).trans rfl, (blk_cell BK972.out 2).trans rfl, (blk_cell BK972.out 3).trans rfl, (blk_cell BK972.out 4).trans rfl⟩ (fun hHeld => ?_)
   clear hK K
   refine norm_ (a' := ?_) ?_ ?_
   rotate_left
   ·show Act.put _ (some 29) _ = _
    simp only [Act.put, List.setIfInBounds_toArray, List.set_cons_zero, List.set_cons_succ, i64_w, i32_w]
    rfl
   refine one_ (i := 3) (N := some 31) (ba_ 10 15) rfl rfl (one_of HT_.out (by kernel_rfl)) (by decide) (fun K hK => ?_)
   refine goes_ Try.func45 (by kernel_rfl) rfl #[.agg #[.int .i64 a1_0, .slice A1_1 l1_1.length c1_1, .int .i64 a1_2, .int .i64 a1_3, .int .i64 a1_4]] (by rfl) rfl rfl (by (try simp only [List.map_toArray, List.map_cons, List.map_nil]); first | done | rfl | (simp only [List.length_drop, List.length_take]; rfl)) ?_
   with_reducible refine (laws_toOp.calls k a1_0 _ _ l1_1 a1_2 a1_3 a1_4 t978 t979 t982 t983 t984 _ ?side1 ?side2 A12.out).mono ?_
   (case side1 => repeat (first | exact (Kd.C_below HR1_1.out HB.out) | (with_reducible refine Kd.C_alloc ?_ _) | (with_reducible refine Kd.C_drewN ?_ _) | (with_reducible refine Kd.C_drew ?_)))
   (case side2 => exact HC1_1.out)
   rintro e w23 ⟨v980, rfl, ho0, hb⟩
   refine ⟨_, rfl, ?_⟩
   have n0_ := Aside0.mk (Kd.R_below (by (with_reducible repeat (first | apply Kd.R_alloc | apply Kd.R_drewN | apply Kd.R_drew)); exact HO977.out) hb)
   have n1_ := Aside0.mk (Kd.R_lower ho0 (below_size (by repeat (first | (with_reducible first | exact HB.out | apply below_alloc | apply pw_below_drewN | apply below_drew1 | refine below_set ?_ GE972.out) | exact HB.out))))
   have n2_ := Aside0.mk (blk_below (g := gb972) (o := .cells #[.int .i64 a1_0, .slice A1_1 l1_1.length c1_1, .int .i64 a1_2, .int .i64 a1_3, .int .i64 a1_4] 63 (0, 0)) (by (with_reducible repeat (first | refine blk_drewN ?_ _ | refine blk_drew ?_ | refine blk_alloc ?_ _)); exact BK972.out) hb)
   have n3_ := Aside0.mk (below_step (by repeat (first | (with_reducible first | exact HB.out | apply below_alloc | apply pw_below_drewN | apply below_drew1 | refine below_set ?_ GE972.out) | exact HB.out)) hb)
   clear HO977
   clear BK972
   clear HB
   have HO977 := n0_
   have HO981 := n1_
   have BK972 := n2_
   have HB := n3_
   clear n0_ n1_ n2_ n3_
   (try clear hb)
   (try clear hb2)
   (try clear hk)
   (try clear hi)
   (try clear ho0)
   obtain ⟨Ao24, co24, eo24⟩ := Kd.R_slice HO977.out
   (first | subst eo24 | (injection eo24 with f1_ f2_ f3_; have f4_ := f1_.symm; have f5_ := f3_.symm; clear f1_ f2_ f3_; subst f4_; subst f5_))
   obtain ⟨Ao25, co25, eo25⟩ := Kd.R_slice HO981.out
   (first | subst eo25 | (injection eo25 with f1_ f2_ f3_; have f4_ := f1_.symm; have f5_ := f3_.symm; clear f1_ f2_ f3_; subst f4_; subst f5_))
   refine hK.out _ _ ⟨(blk_cell BK972.out 0).trans rfl, (blk_cell BK972.out 1).trans rfl, (blk_cell BK972.out 2).trans rfl, (blk_cell BK972.out 3).trans rfl, (blk_cell BK972.out 4).trans rfl⟩ (fun hHeld => ?_)
   clear hK K
   refine norm_ (a' := ?_) ?_ ?_
   rotate_left
   ·show Act.put _ (some 31) _ = _
    simp only [Act.put, List.setIfInBounds_toArray, List.set_cons_zero, List.set_cons_succ, i64_w, i32_w]
    rfl
   refine one_ (i := 4) (N := some 32) (ba_ 10 31) rfl rfl (one_of HT_.out (by kernel_rfl)) (by decide) (fun K hK => ?_)
   refine goes_ Try.func44 (by kernel_rfl) rfl #[.slice Ao24 t975.length co24, .agg #[.int .i64 t978, .slice Ao25 t979.length co25, .int .i64 t982, .int .i64 t983, .int .i64 t984]] (by rfl) rfl rfl (by (try simp only [List.map_toArray, List.map_cons, List.map_nil]); first | done | rfl | (simp only [List.length_drop, List.length_take]; rfl)) ?_
   with_reducible refine (spec_ApplyOp.calls k _ _ t975 t978 _ _ t979 t982 t983 t984 t985 t988 _ ?side1 ?side2 ?side3 ?side4 A13.out).mono ?_
   (case side1 => repeat (first | exact (Kd.R_reads' HO977.out).2.2 | (with_reducible refine Kd.C_alloc ?_ _) | (with_reducible refine Kd.C_drewN ?_ _) | (with_reducible refine Kd.C_drew ?_)))
   (case side2 => exact (Kd.R_reads' HO977.out).2.1)
   (case side3 => repeat (first | exact (Kd.R_reads' HO981.out).2.2 | (with_reducible refine Kd.C_alloc ?_ _) | (with_reducible refine Kd.C_drewN ?_ _) | (with_reducible refine Kd.C_drew ?_)))
   (case side4 => exact (Kd.R_reads' HO981.out).2.1)
   rintro e w26 ⟨v986, rfl, ho0, hb⟩
   refine ⟨_, rfl, ?_⟩
   have n0_ := Aside0.mk (Kd.R_elder' (by (with_reducible repeat (first | apply Kd.R_alloc | apply Kd.R_drewN | apply Kd.R_drew)); exact HO977.out) (Kd.R_base ho0) hb)
   have n1_ := Aside0.mk (Kd.R_below (by (with_reducible repeat (first | apply Kd.R_alloc | apply Kd.R_drewN | apply Kd.R_drew)); exact HO981.out) hb)
   have n2_ := Aside0.mk (Kd.R_lower (Kd.R_new' ho0 (Kd.R_lt (by (with_reducible repeat (first | apply Kd.R_alloc | apply Kd.R_drewN | apply Kd.R_drew)); exact HO977.out))) (below_size (by repeat (first | (with_reducible first | exact HB.out | apply below_alloc | apply pw_below_drewN | apply below_drew1 | refine below_set ?_ GE972.out) | exact HB.out))))
   have n3_ := Aside0.mk (blk_below (g := gb972) (o := .cells #[.int .i64 a1_0, .slice A1_1 l1_1.length c1_1, .int .i64 a1_2, .int .i64 a1_3, .int .i64 a1_4] 63 (0, 0)) (by (with_reducible repeat (first | refine blk_drewN ?_ _ | refine blk_drew ?_ | refine blk_alloc ?_ _)); exact BK972.out) hb)
   have n4_ := Aside0.mk (below_step (by repeat (first | (with_reducible first | exact HB.out | apply below_alloc | apply pw_below_drewN | apply below_drew1 | refine below_set ?_ GE972.out) | exact HB.out)) hb)
   clear HO977
   clear HO981
   clear BK972
   clear HB
   have HO977 := n0_
   have HO981 := n1_
   have HO987 := n2_
   have BK972 := n3_
   have HB := n4_
   clear n0_ n1_ n2_ n3_ n4_
   (try clear hb)
   (try clear hb2)
   (try clear hk)
   (try clear hi)
   (try clear ho0)
   refine hK.out _ _ ⟨(blk_cell BK972.out 0).trans rfl, (blk_cell BK972.out 1).trans rfl, (blk_cell BK972.out 2).trans rfl, (blk_cell BK972.out 3).trans rfl, (blk_cell BK972.out 4).trans rfl⟩ (fun hHeld => ?_)
   clear hK K
   refine norm_ (a' := ?_) ?_ ?_
   rotate_left
   ·show Act.put _ (some 32) _ = _
    simp only [Act.put, List.setIfInBounds_toArray, List.set_cons_zero, List.set_cons_succ, i64_w, i32_w]
    rfl
   refine pu_ 5 (some 27) (ba_ 10 63) rfl rfl (any_of HT_.out (by kernel_rfl)) ?_
   refine pu_ 6 (some 33) (ba_ 10 127) rfl rfl (any_of HT_.out (by kernel_rfl)) ?_
   refine pu_ 7 (some 34) (ba_ 10 255) rfl rfl (any_of HT_.out (by kernel_rfl)) ?_
   refine pu_ 8 (some 6) (ba_ 10 511) rfl rfl (any_of HT_.out (by kernel_rfl)) ?_
   refine pu_ 9 (some 7) (ba_ 10 1023) rfl rfl (any_of HT_.out (by kernel_rfl)) ?_
   refine done_ (done_of HT_.out (by kernel_rfl)) ?_
   go_upto_region 12 with (first | ((with_reducible refine gate_callee (f := 35) rfl ?_); refine goesL_ (some 36) rfl rfl Try.func35 (by kernel_rfl) rfl #[.slice A0 l0.length c0] rfl (by (try simp only [List.map_toArray, List.map_cons, List.map_nil]); first | done | rfl | (simp only [List.length_drop, List.length_take]; rfl)) ?_; (with_reducible refine (laws_toNodeS.calls k _ _ l0 t989 _ ?side1 ?side2 A14.out).mono ?_); (case side1 => repeat (first | exact (Kd.C_below HR0.out HB.out) | (with_reducible refine Kd.C_alloc ?_ _) | (with_reducible refine Kd.C_drewN ?_ _) | (with_reducible refine Kd.C_drew ?_))); (case side2 => exact HC0.out); rintro e w27 ⟨v990, rfl, ho0, hb⟩; refine ⟨_, rfl, ?_⟩; have n0_ := Aside0.mk (Kd.R_elder' (by (with_reducible repeat (first | apply Kd.R_alloc | apply Kd.R_drewN | apply Kd.R_drew)); exact HO977.out) (Kd.R_base ho0) hb); have n1_ := Aside0.mk (Kd.R_below (by (with_reducible repeat (first | apply Kd.R_alloc | apply Kd.R_drewN | apply Kd.R_drew)); exact HO981.out) hb); have n2_ := Aside0.mk (Kd.R_elder' (by (with_reducible repeat (first | apply Kd.R_alloc | apply Kd.R_drewN | apply Kd.R_drew)); exact HO987.out) (Kd.R_base ho0) hb); have n3_ := Aside0.mk (Kd.R_lower (Kd.R_new' (Kd.R_new' ho0 (Kd.R_lt (by (with_reducible repeat (first | apply Kd.R_alloc | apply Kd.R_drewN | apply Kd.R_drew)); exact HO977.out))) (Kd.R_lt (by (with_reducible repeat (first | apply Kd.R_alloc | apply Kd.R_drewN | apply Kd.R_drew)); exact HO987.out))) (below_size (by repeat (first | (with_reducible first | exact HB.out | apply below_alloc | apply pw_below_drewN | apply below_drew1 | refine below_set ?_ GE972.out) | exact HB.out)))); have n4_ := Aside0.mk (blk_below (g := gb972) (o := .cells #[.int .i64 a1_0, .slice A1_1 l1_1.length c1_1, .int .i64 a1_2, .int .i64 a1_3, .int .i64 a1_4] 63 (0, 0)) (by (with_reducible repeat (first | refine blk_drewN ?_ _ | refine blk_drew ?_ | refine blk_alloc ?_ _)); exact BK972.out) hb); have n5_ := Aside0.mk (below_step (by repeat (first | (with_reducible first | exact HB.out | apply below_alloc | apply pw_below_drewN | apply below_drew1 | refine below_set ?_ GE972.out) | exact HB.out)) hb); clear HO977; clear HO981; clear HO987; clear BK972; clear HB; have HO977 := n0_; have HO981 := n1_; have HO987 := n2_; have HO991 := n3_; have BK972 := n4_; have HB := n5_; clear n0_ n1_ n2_ n3_ n4_ n5_; (try clear hb); (try clear hb2); (try clear hk); (try clear hi); (try clear ho0); have hcz28_0 : w27.cell? ⟨gb972, 0, none⟩ = some (.int .i64 a1_0) := (blk_cell BK972.out 0).trans rfl; have hcz28_1 : w27.cell? ⟨gb972, 1, none⟩ = some (.slice A1_1 l1_1.length c1_1) := (blk_cell BK972.out 1).trans rfl; have hcz28_2 : w27.cell? ⟨gb972, 2, none⟩ = some (.int .i64 a1_2) := (blk_cell BK972.out 2).trans rfl; have hcz28_3 : w27.cell? ⟨gb972, 3, none⟩ = some (.int .i64 a1_3) := (blk_cell BK972.out 3).trans rfl; have hcz28_4 : w27.cell? ⟨gb972, 4, none⟩ = some (.int .i64 a1_4) := (blk_cell BK972.out 4).trans rfl; have hfz28_0 := blk_frozen BK972.out 0; have hfz28_1 := blk_frozen BK972.out 1; have hfz28_2 := blk_frozen BK972.out 2; have hfz28_3 := blk_frozen BK972.out 3; have hfz28_4 := blk_frozen BK972.out 4) | ((with_reducible refine gate_callee (f := 45) rfl ?_); refine goesL_ (some 38) rfl rfl Try.func45 (by kernel_rfl) rfl #[.agg #[.int .i64 a1_0, .slice A1_1 l1_1.length c1_1, .int .i64 a1_2, .int .i64 a1_3, .int .i64 a1_4]] rfl (by (try simp only [List.map_toArray, List.map_cons, List.map_nil]); first | done | rfl | (simp only [List.length_drop, List.length_take]; rfl)) ?_; (with_reducible refine (laws_toOp.calls k a1_0 _ _ l1_1 a1_2 a1_3 a1_4 t992 t993 t996 t997 t998 _ ?side1 ?side2 A15.out).mono ?_); (case side1 => repeat (first | exact (Kd.C_below HR1_1.out HB.out) | (with_reducible refine Kd.C_alloc ?_ _) | (with_reducible refine Kd.C_drewN ?_ _) | (with_reducible refine Kd.C_drew ?_))); (case side2 => exact HC1_1.out); rintro e w29 ⟨v994, rfl, ho0, hb⟩; refine ⟨_, rfl, ?_⟩; have n0_ := Aside0.mk (Kd.R_below (by (with_reducible repeat (first | apply Kd.R_alloc | apply Kd.R_drewN | apply Kd.R_drew)); exact HO977.out) hb); have n1_ := Aside0.mk (Kd.R_elder' (by (with_reducible repeat (first | apply Kd.R_alloc | apply Kd.R_drewN | apply Kd.R_drew)); exact HO981.out) (Kd.R_base ho0) hb); have n2_ := Aside0.mk (Kd.R_below (by (with_reducible repeat (first | apply Kd.R_alloc | apply Kd.R_drewN | apply Kd.R_drew)); exact HO987.out) hb); have n3_ := Aside0.mk (Kd.R_below (by (with_reducible repeat (first | apply Kd.R_alloc | apply Kd.R_drewN | apply Kd.R_drew)); exact HO991.out) hb); have n4_ := Aside0.mk (Kd.R_lower (Kd.R_new' ho0 (Kd.R_lt (by (with_reducible repeat (first | apply Kd.R_alloc | apply Kd.R_drewN | apply Kd.R_drew)); exact HO981.out))) (below_size (by repeat (first | (with_reducible first | exact HB.out | apply below_alloc | apply pw_below_drewN | apply below_drew1 | refine below_set ?_ GE972.out) | exact HB.out)))); have n5_ := Aside0.mk (blk_below (g := gb972) (o := .cells #[.int .i64 a1_0, .slice A1_1 l1_1.length c1_1, .int .i64 a1_2, .int .i64 a1_3, .int .i64 a1_4] 63 (0, 0)) (by (with_reducible repeat (first | refine blk_drewN ?_ _ | refine blk_drew ?_ | refine blk_alloc ?_ _)); exact BK972.out) hb); have n6_ := Aside0.mk (below_step (by repeat (first | (with_reducible first | exact HB.out | apply below_alloc | apply pw_below_drewN | apply below_drew1 | refine below_set ?_ GE972.out) | exact HB.out)) hb); clear HO977; clear HO981; clear HO987; clear HO991; clear BK972; clear HB; have HO977 := n0_; have HO981 := n1_; have HO987 := n2_; have HO991 := n3_; have HO995 := n4_; have BK972 := n5_; have HB := n6_; clear n0_ n1_ n2_ n3_ n4_ n5_ n6_; (try clear hb); (try clear hb2); (try clear hk); (try clear hi); (try clear ho0)) | ((with_reducible refine gate_dst (N := 9) rfl ?_); refine box_event ?hg (N := 9) ?hd (cs := #[.int .i64 0, .slice none 0 0, .int .i64 0, .int .i64 0, .int .i64 0]) (t := 67) ?hr ?_; (case hd => rfl); (case hg => rfl); (case hr => first | (go_simp; done) | (go_simp; rfl)); intro gb999 hg w30 hbox hb; have n0_ := Aside0.mk (Kd.R_below (by (with_reducible repeat (first | apply Kd.R_alloc | apply Kd.R_drewN | apply Kd.R_drew)); exact HO977.out) hb); have n1_ := Aside0.mk (Kd.R_below (by (with_reducible repeat (first | apply Kd.R_alloc | apply Kd.R_drewN | apply Kd.R_drew)); exact HO981.out) hb); have n2_ := Aside0.mk (Kd.R_below (by (with_reducible repeat (first | apply Kd.R_alloc | apply Kd.R_drewN | apply Kd.R_drew)); exact HO987.out) hb); have n3_ := Aside0.mk (Kd.R_below (by (with_reducible repeat (first | apply Kd.R_alloc | apply Kd.R_drewN | apply Kd.R_drew)); exact HO991.out) hb); have n4_ := Aside0.mk (Kd.R_below (by (with_reducible repeat (first | apply Kd.R_alloc | apply Kd.R_drewN | apply Kd.R_drew)); exact HO995.out) hb); have n5_ := Aside0.mk (blk_below (g := gb972) (o := .cells #[.int .i64 a1_0, .slice A1_1 l1_1.length c1_1, .int .i64 a1_2, .int .i64 a1_3, .int .i64 a1_4] 63 (0, 0)) (by (with_reducible repeat (first | refine blk_drewN ?_ _ | refine blk_drew ?_ | refine blk_alloc ?_ _)); exact BK972.out) hb); have n6_ := Aside0.mk (below_step (by repeat (first | (with_reducible first | exact HB.out | apply below_alloc | apply pw_below_drewN | apply below_drew1 | refine below_set ?_ GE972.out) | exact HB.out)) hb); have n7_ := Aside0.mk (hbox); have n8_ := Aside0.mk ((by rw [hg]; exact (below_size (by repeat (first | (with_reducible first | exact HB.out | apply below_alloc | apply pw_below_drewN | apply below_drew1 | refine below_set ?_ GE972.out) | exact HB.out))) : w.heap.size ≤ gb999)); have n9_ := Aside0.mk ((by rw [hg]; exact (below_size (by repeat (first | (with_reducible first | exact HB.out | apply below_alloc | apply pw_below_drewN | apply below_drew1 | refine below_set ?_ GE972.out) | exact HB.out))) : w.heap.size ≤ gb999)); have n10_ := Aside0.mk ((by rw [hg]; exact Nat.ne_of_lt (blk_lt (g := gb972) (o := .cells #[.int .i64 a1_0, .slice A1_1 l1_1.length c1_1, .int .i64 a1_2, .int .i64 a1_3, .int .i64 a1_4] 63 (0, 0)) (by (with_reducible repeat (first | refine blk_drewN ?_ _ | refine blk_drew ?_ | refine blk_alloc ?_ _)); exact BK972.out)) : gb972 ≠ gb999)); have n11_ := Aside0.mk ((by rw [hg]; exact Nat.ne_of_gt (blk_lt (g := gb972) (o := .cells #[.int .i64 a1_0, .slice A1_1 l1_1.length c1_1, .int .i64 a1_2, .int .i64 a1_3, .int .i64 a1_4] 63 (0, 0)) (by (with_reducible repeat (first | refine blk_drewN ?_ _ | refine blk_drew ?_ | refine blk_alloc ?_ _)); exact BK972.out)) : gb999 ≠ gb972)); clear HO977; clear HO981; clear HO987; clear HO991; clear HO995; clear BK972; clear HB; have HO977 := n0_; have HO981 := n1_; have HO987 := n2_; have HO991 := n3_; have HO995 := n4_; have BK972 := n5_; have HB := n6_; have BK999 := n7_; have GW999 := n8_; have GE999 := n9_; have NB972_999 := n10_; have NB999_972 := n11_; clear n0_ n1_ n2_ n3_ n4_ n5_ n6_ n7_ n8_ n9_ n10_ n11_; clear hb hbox hg; have hnb31 := NB999_972.out; have hnc31 := NB972_999.out; have hcz32_0 : w30.cell? ⟨gb999, 0, none⟩ = some (.int .i64 0) := (blk_cell BK999.out 0).trans rfl; have hcz32_1 : w30.cell? ⟨gb999, 1, none⟩ = some (.slice none 0 0) := (blk_cell BK999.out 1).trans rfl; have hcz32_2 : w30.cell? ⟨gb999, 2, none⟩ = some (.int .i64 0) := (blk_cell BK999.out 2).trans rfl; have hcz32_3 : w30.cell? ⟨gb999, 3, none⟩ = some (.int .i64 0) := (blk_cell BK999.out 3).trans rfl; have hcz32_4 : w30.cell? ⟨gb999, 4, none⟩ = some (.int .i64 0) := (blk_cell BK999.out 4).trans rfl; have hfz32_0 := blk_frozen BK999.out 0; have hfz32_1 := blk_frozen BK999.out 1; have hfz32_2 := blk_frozen BK999.out 2; have hfz32_3 := blk_frozen BK999.out 3; have hfz32_4 := blk_frozen BK999.out 4; obtain ⟨Ao33, co33, eo33⟩ := Kd.R_slice HO995.out; subst eo33; obtain ⟨Ao34, co34, eo34⟩ := Kd.R_slice HO991.out; subst eo34) | ((with_reducible refine gate_callee (f := 46) rfl ?_); refine goesL_ (some 42) rfl rfl Try.func46 (by kernel_rfl) rfl #[.slice Ao34 t989.length co34, .agg #[.int .i64 t992, .slice Ao33 t993.length co33, .int .i64 t996, .int .i64 t997, .int .i64 t998]] rfl (by (try simp only [List.map_toArray, List.map_cons, List.map_nil]); first | done | rfl | (simp only [List.length_drop, List.length_take]; rfl)) ?_; (with_reducible refine (impl_ApplyOp.calls k _ _ t989 t992 _ _ t993 t996 t997 t998 t1000 t1003 _ ?side1 ?side2 ?side3 ?side4 A16.out).mono ?_); (case side1 => refine (Kd.R_reads' (e := 90) (base := w.heap.size) (ok := fun k_ => ((True ∧ some k_ ≠ (.slice Ao24 t975.length co24 : Value).ownBlock) ∧ some k_ ≠ (v986 : Value).ownBlock)) (n := t989.length) (c := co34) ?_).2.2; exact (by (with_reducible repeat (first | apply Kd.R_alloc | apply Kd.R_drewN | apply Kd.R_drew)); exact (Kd.R_mono (Kd.R_far (p := ⟨gb999, 4, none⟩) (Kd.R_far (p := ⟨gb999, 3, none⟩) (Kd.R_far (p := ⟨gb999, 2, none⟩) (Kd.R_far (p := ⟨gb999, 1, none⟩) (Kd.R_far (p := ⟨gb999, 0, none⟩) (Kd.R_types HO991.out BK999.out (by decide)) (fun _ hk => hk.2) (.int .i64 t992)) (fun _ hk => hk.2) (.slice Ao33 t993.length co33)) (fun _ hk => hk.2) (.int .i64 t996)) (fun _ hk => hk.2) (.int .i64 t997)) (fun _ hk => hk.2) (.int .i64 t998)) (fun _ h_ => h_.1)))); (case side2 => exact (Kd.R_reads' HO991.out).2.1); (case side3 => refine (Kd.R_reads' (e := 3) (base := w.heap.size) (ok := fun k_ => (True ∧ some k_ ≠ (.slice Ao25 t979.length co25 : Value).ownBlock)) (n := t993.length) (c := co33) ?_).2.2; exact (by (with_reducible repeat (first | apply Kd.R_alloc | apply Kd.R_drewN | apply Kd.R_drew)); exact (Kd.R_mono (Kd.R_far (p := ⟨gb999, 4, none⟩) (Kd.R_far (p := ⟨gb999, 3, none⟩) (Kd.R_far (p := ⟨gb999, 2, none⟩) (Kd.R_far (p := ⟨gb999, 1, none⟩) (Kd.R_far (p := ⟨gb999, 0, none⟩) (Kd.R_types HO995.out BK999.out (by decide)) (fun _ hk => hk.2) (.int .i64 t992)) (fun _ hk => hk.2) (.slice Ao33 t993.length co33)) (fun _ hk => hk.2) (.int .i64 t996)) (fun _ hk => hk.2) (.int .i64 t997)) (fun _ hk => hk.2) (.int .i64 t998)) (fun _ h_ => h_.1)))); (case side4 => exact (Kd.R_reads' HO995.out).2.1); rintro e w35 ⟨v1001, rfl, ho0, hb⟩; refine ⟨_, rfl, ?_⟩; have n0_ := Aside0.mk (Kd.R_elder' (by (with_reducible repeat (first | apply Kd.R_alloc | apply Kd.R_drewN | apply Kd.R_drew)); exact (Kd.R_mono (Kd.R_far (p := ⟨gb999, 4, none⟩) (Kd.R_far (p := ⟨gb999, 3, none⟩) (Kd.R_far (p := ⟨gb999, 2, none⟩) (Kd.R_far (p := ⟨gb999, 1, none⟩) (Kd.R_far (p := ⟨gb999, 0, none⟩) (Kd.R_types HO977.out BK999.out (by decide)) (fun _ hk => hk.2) (.int .i64 t992)) (fun _ hk => hk.2) (.slice Ao33 t993.length co33)) (fun _ hk => hk.2) (.int .i64 t996)) (fun _ hk => hk.2) (.int .i64 t997)) (fun _ hk => hk.2) (.int .i64 t998)) (fun _ h_ => h_.1))) (Kd.R_base ho0) hb); have n1_ := Aside0.mk (Kd.R_below (by (with_reducible repeat (first | apply Kd.R_alloc | apply Kd.R_drewN | apply Kd.R_drew)); exact (Kd.R_mono (Kd.R_far (p := ⟨gb999, 4, none⟩) (Kd.R_far (p := ⟨gb999, 3, none⟩) (Kd.R_far (p := ⟨gb999, 2, none⟩) (Kd.R_far (p := ⟨gb999, 1, none⟩) (Kd.R_far (p := ⟨gb999, 0, none⟩) (Kd.R_types HO981.out BK999.out (by decide)) (fun _ hk => hk.2) (.int .i64 t992)) (fun _ hk => hk.2) (.slice Ao33 t993.length co33)) (fun _ hk => hk.2) (.int .i64 t996)) (fun _ hk => hk.2) (.int .i64 t997)) (fun _ hk => hk.2) (.int .i64 t998)) (fun _ h_ => h_.1))) hb); have n2_ := Aside0.mk (Kd.R_elder' (by (with_reducible repeat (first | apply Kd.R_alloc | apply Kd.R_drewN | apply Kd.R_drew)); exact (Kd.R_mono (Kd.R_far (p := ⟨gb999, 4, none⟩) (Kd.R_far (p := ⟨gb999, 3, none⟩) (Kd.R_far (p := ⟨gb999, 2, none⟩) (Kd.R_far (p := ⟨gb999, 1, none⟩) (Kd.R_far (p := ⟨gb999, 0, none⟩) (Kd.R_types HO987.out BK999.out (by decide)) (fun _ hk => hk.2) (.int .i64 t992)) (fun _ hk => hk.2) (.slice Ao33 t993.length co33)) (fun _ hk => hk.2) (.int .i64 t996)) (fun _ hk => hk.2) (.int .i64 t997)) (fun _ hk => hk.2) (.int .i64 t998)) (fun _ h_ => h_.1))) (Kd.R_base ho0) hb); have n3_ := Aside0.mk (Kd.R_elder' (by (with_reducible repeat (first | apply Kd.R_alloc | apply Kd.R_drewN | apply Kd.R_drew)); exact (Kd.R_mono (Kd.R_far (p := ⟨gb999, 4, none⟩) (Kd.R_far (p := ⟨gb999, 3, none⟩) (Kd.R_far (p := ⟨gb999, 2, none⟩) (Kd.R_far (p := ⟨gb999, 1, none⟩) (Kd.R_far (p := ⟨gb999, 0, none⟩) (Kd.R_types HO991.out BK999.out (by decide)) (fun _ hk => hk.2) (.int .i64 t992)) (fun _ hk => hk.2) (.slice Ao33 t993.length co33)) (fun _ hk => hk.2) (.int .i64 t996)) (fun _ hk => hk.2) (.int .i64 t997)) (fun _ hk => hk.2) (.int .i64 t998)) (fun _ h_ => h_.1))) (Kd.R_base ho0) hb); have n4_ := Aside0.mk (Kd.R_below (by (with_reducible repeat (first | apply Kd.R_alloc | apply Kd.R_drewN | apply Kd.R_drew)); exact (Kd.R_mono (Kd.R_far (p := ⟨gb999, 4, none⟩) (Kd.R_far (p := ⟨gb999, 3, none⟩) (Kd.R_far (p := ⟨gb999, 2, none⟩) (Kd.R_far (p := ⟨gb999, 1, none⟩) (Kd.R_far (p := ⟨gb999, 0, none⟩) (Kd.R_types HO995.out BK999.out (by decide)) (fun _ hk => hk.2) (.int .i64 t992)) (fun _ hk => hk.2) (.slice Ao33 t993.length co33)) (fun _ hk => hk.2) (.int .i64 t996)) (fun _ hk => hk.2) (.int .i64 t997)) (fun _ hk => hk.2) (.int .i64 t998)) (fun _ h_ => h_.1))) hb); have n5_ := Aside0.mk (Kd.R_lower (Kd.R_new' (Kd.R_new' (Kd.R_new' ho0 (Kd.R_lt (by (with_reducible repeat (first | apply Kd.R_alloc | apply Kd.R_drewN | apply Kd.R_drew)); exact (Kd.R_mono (Kd.R_far (p := ⟨gb999, 4, none⟩) (Kd.R_far (p := ⟨gb999, 3, none⟩) (Kd.R_far (p := ⟨gb999, 2, none⟩) (Kd.R_far (p := ⟨gb999, 1, none⟩) (Kd.R_far (p := ⟨gb999, 0, none⟩) (Kd.R_types HO977.out BK999.out (by decide)) (fun _ hk => hk.2) (.int .i64 t992)) (fun _ hk => hk.2) (.slice Ao33 t993.length co33)) (fun _ hk => hk.2) (.int .i64 t996)) (fun _ hk => hk.2) (.int .i64 t997)) (fun _ hk => hk.2) (.int .i64 t998)) (fun _ h_ => h_.1))))) (Kd.R_lt (by (with_reducible repeat (first | apply Kd.R_alloc | apply Kd.R_drewN | apply Kd.R_drew)); exact (Kd.R_mono (Kd.R_far (p := ⟨gb999, 4, none⟩) (Kd.R_far (p := ⟨gb999, 3, none⟩) (Kd.R_far (p := ⟨gb999, 2, none⟩) (Kd.R_far (p := ⟨gb999, 1, none⟩) (Kd.R_far (p := ⟨gb999, 0, none⟩) (Kd.R_types HO987.out BK999.out (by decide)) (fun _ hk => hk.2) (.int .i64 t992)) (fun _ hk => hk.2) (.slice Ao33 t993.length co33)) (fun _ hk => hk.2) (.int .i64 t996)) (fun _ hk => hk.2) (.int .i64 t997)) (fun _ hk => hk.2) (.int .i64 t998)) (fun _ h_ => h_.1))))) (Kd.R_lt (by (with_reducible repeat (first | apply Kd.R_alloc | apply Kd.R_drewN | apply Kd.R_drew)); exact (Kd.R_mono (Kd.R_far (p := ⟨gb999, 4, none⟩) (Kd.R_far (p := ⟨gb999, 3, none⟩) (Kd.R_far (p := ⟨gb999, 2, none⟩) (Kd.R_far (p := ⟨gb999, 1, none⟩) (Kd.R_far (p := ⟨gb999, 0, none⟩) (Kd.R_types HO991.out BK999.out (by decide)) (fun _ hk => hk.2) (.int .i64 t992)) (fun _ hk => hk.2) (.slice Ao33 t993.length co33)) (fun _ hk => hk.2) (.int .i64 t996)) (fun _ hk => hk.2) (.int .i64 t997)) (fun _ hk => hk.2) (.int .i64 t998)) (fun _ h_ => h_.1))))) (below_size (by repeat (first | (with_reducible first | exact HB.out | apply below_alloc | apply pw_below_drewN | apply below_drew1 | refine below_set ?_ GE972.out | refine below_set ?_ GE999.out) | exact HB.out)))); have n6_ := Aside0.mk (blk_below (g := gb972) (o := .cells #[.int .i64 a1_0, .slice A1_1 l1_1.length c1_1, .int .i64 a1_2, .int .i64 a1_3, .int .i64 a1_4] 63 (0, 0)) (by (with_reducible repeat (first | refine blk_drewN ?_ _ | refine blk_drew ?_ | refine blk_alloc ?_ _)); refine blk_far ?_ NB972_999.out _; (with_reducible repeat (first | refine blk_drewN ?_ _ | refine blk_drew ?_ | refine blk_alloc ?_ _)); refine blk_far ?_ NB972_999.out _; (with_reducible repeat (first | refine blk_drewN ?_ _ | refine blk_drew ?_ | refine blk_alloc ?_ _)); refine blk_far ?_ NB972_999.out _; (with_reducible repeat (first | refine blk_drewN ?_ _ | refine blk_drew ?_ | refine blk_alloc ?_ _)); refine blk_far ?_ NB972_999.out _; (with_reducible repeat (first | refine blk_drewN ?_ _ | refine blk_drew ?_ | refine blk_alloc ?_ _)); refine blk_far ?_ NB972_999.out _; (with_reducible repeat (first | refine blk_drewN ?_ _ | refine blk_drew ?_ | refine blk_alloc ?_ _)); exact BK972.out) hb); have n7_ := Aside0.mk (blk_below (g := gb999) (o := .cells #[.int .i64 t992, .slice Ao33 t993.length co33, .int .i64 t996, .int .i64 t997, .int .i64 t998] 67 (0, 0)) (by (with_reducible repeat (first | refine blk_drewN ?_ _ | refine blk_drew ?_ | refine blk_alloc ?_ _)); refine blk_put (cs := #[.int .i64 t992, .slice Ao33 t993.length co33, .int .i64 t996, .int .i64 t997, .int .i64 0]) ?_ 4 _ rfl; (with_reducible repeat (first | refine blk_drewN ?_ _ | refine blk_drew ?_ | refine blk_alloc ?_ _)); refine blk_put (cs := #[.int .i64 t992, .slice Ao33 t993.length co33, .int .i64 t996, .int .i64 0, .int .i64 0]) ?_ 3 _ rfl; (with_reducible repeat (first | refine blk_drewN ?_ _ | refine blk_drew ?_ | refine blk_alloc ?_ _)); refine blk_put (cs := #[.int .i64 t992, .slice Ao33 t993.length co33, .int .i64 0, .int .i64 0, .int .i64 0]) ?_ 2 _ rfl; (with_reducible repeat (first | refine blk_drewN ?_ _ | refine blk_drew ?_ | refine blk_alloc ?_ _)); refine blk_put (cs := #[.int .i64 t992, .slice none 0 0, .int .i64 0, .int .i64 0, .int .i64 0]) ?_ 1 _ rfl; (with_reducible repeat (first | refine blk_drewN ?_ _ | refine blk_drew ?_ | refine blk_alloc ?_ _)); refine blk_put (cs := #[.int .i64 0, .slice none 0 0, .int .i64 0, .int .i64 0, .int .i64 0]) ?_ 0 _ rfl; (with_reducible repeat (first | refine blk_drewN ?_ _ | refine blk_drew ?_ | refine blk_alloc ?_ _)); exact BK999.out) hb); have n8_ := Aside0.mk (below_step (by repeat (first | (with_reducible first | exact HB.out | apply below_alloc | apply pw_below_drewN | apply below_drew1 | refine below_set ?_ GE972.out | refine below_set ?_ GE999.out) | exact HB.out)) hb); clear HO977; clear HO981; clear HO987; clear HO991; clear HO995; clear BK972; clear BK999; clear HB; have HO977 := n0_; have HO981 := n1_; have HO987 := n2_; have HO991 := n3_; have HO995 := n4_; have HO1002 := n5_; have BK972 := n6_; have BK999 := n7_; have HB := n8_; clear n0_ n1_ n2_ n3_ n4_ n5_ n6_ n7_ n8_; (try clear hb); (try clear hb2); (try clear hk); (try clear hi); (try clear ho0)))
   (try simp only [Act.put, List.setIfInBounds_toArray, List.set_cons_zero, List.set_cons_succ])
   go_cut [53] (fun v53 wc => ∃ (kq : Nat) (x53_16 : Bool), v53 = .bool x53_16 ∧ Aside0 (laws_FnExactApplyOp.j0 kq l0 t985 t988 t989 t1000 t1003 x53_16 a1_0 l1_1 a1_2 a1_3 a1_4 t992 t993 t996 t997 t998 = some true) ∧ Aside0 (kq ≤ k) ∧ Aside0 (Kd.R k90 90 wc w.heap.size (fun k_ => some k_ ≠ ((.slice Ao34 t989.length co34) : Value).ownBlock ∧ some k_ ≠ (v1001 : Value).ownBlock) v986 t985) ∧ Aside0 (Kd.R k90 90 wc w.heap.size (fun k_ => some k_ ≠ (v986 : Value).ownBlock ∧ some k_ ≠ (v1001 : Value).ownBlock) (.slice Ao34 t989.length co34) t989) ∧ Aside0 (Kd.R k90 90 wc w.heap.size (fun k_ => some k_ ≠ (v986 : Value).ownBlock ∧ some k_ ≠ ((.slice Ao34 t989.length co34) : Value).ownBlock) v1001 t1000) ∧ Aside0 (Kd.R (Kd.int .i64) 3 wc w.heap.size (fun _ => True) (.slice Ao33 t993.length co33) t993) ∧ Aside0 (wc.heap[gb972]? = some (.cells #[.int .i64 a1_0, (.slice A1_1 l1_1.length c1_1), .int .i64 a1_2, .int .i64 a1_3, .int .i64 a1_4] 63 (0, 0))) ∧ Aside0 (wc.heap[gb999]? = some (.cells #[.int .i64 t992, (.slice Ao33 t993.length co33), .int .i64 t996, .int .i64 t997, .int .i64 t998] 67 (0, 0))) ∧ Aside0 (Below w.heap.size w wc))
   case first =>
    have H := HC17.out
    clear HC17
    replace H := Option.bind_eq_some_iff.mp H
    obtain ⟨t1004, A360, H⟩ := H
    try dsimp only at H
    have A36 := Aside0.mk A360
    clear A360
    by_cases c37 : t1004 = true
    ·subst c37
     have H1 : (laws_FnExactApplyOp.j0 k l0 t985 t988 t989 t1000 t1003 (t1003 != t988) a1_0 l1_1 a1_2 a1_3 a1_4 t992 t993 t996 t997 t998) = some true := by rw [if_pos rfl] at H; exact H
     clear H
     have H := H1
     clear H1
     have H' := Aside0.mk H
     clear H
     obtain ⟨Ao38, co38, eo38⟩ := Kd.R_slice HO1002.out
     subst eo38
     obtain ⟨Ao39, co39, eo39⟩ := Kd.R_slice HO987.out
     subst eo39
     go_wp2_with (first | ((with_reducible refine gate_callee (f := 23) rfl ?_); refine goesL_ (some 47) rfl rfl Try.func23 (by kernel_rfl) rfl #[.slice Ao38 t1000.length co38, .slice Ao39 t985.length co39] rfl (by (try simp only [List.map_toArray, List.map_cons, List.map_nil]); first | done | rfl | (simp only [List.length_drop, List.length_take]; rfl)) ?_; (with_reducible refine (laws_eqNodeS.calls k _ _ t1000 _ _ t985 true _ ?side1 ?side2 ?side3 ?side4 A36.out).mono ?_); (case side1 => repeat (first | exact (Kd.R_reads' HO1002.out).2.2 | (with_reducible refine Kd.C_alloc ?_ _) | (with_reducible refine Kd.C_drewN ?_ _) | (with_reducible refine Kd.C_drew ?_))); (case side2 => exact (Kd.R_reads' HO1002.out).2.1); (case side3 => repeat (first | exact (Kd.R_reads' HO987.out).2.2 | (with_reducible refine Kd.C_alloc ?_ _) | (with_reducible refine Kd.C_drewN ?_ _) | (with_reducible refine Kd.C_drew ?_))); (case side4 => exact (Kd.R_reads' HO987.out).2.1); rintro e w40 ⟨rfl, hb⟩; refine ⟨_, rfl, ?_⟩; have n0_ := Aside0.mk (Kd.R_below (by (with_reducible repeat (first | apply Kd.R_alloc | apply Kd.R_drewN | apply Kd.R_drew)); exact HO977.out) hb); have n1_ := Aside0.mk (Kd.R_below (by (with_reducible repeat (first | apply Kd.R_alloc | apply Kd.R_drewN | apply Kd.R_drew)); exact HO981.out) hb); have n2_ := Aside0.mk (Kd.R_below (by (with_reducible repeat (first | apply Kd.R_alloc | apply Kd.R_drewN | apply Kd.R_drew)); exact HO987.out) hb); have n3_ := Aside0.mk (Kd.R_below (by (with_reducible repeat (first | apply Kd.R_alloc | apply Kd.R_drewN | apply Kd.R_drew)); exact HO991.out) hb); have n4_ := Aside0.mk (Kd.R_below (by (with_reducible repeat (first | apply Kd.R_alloc | apply Kd.R_drewN | apply Kd.R_drew)); exact HO995.out) hb); have n5_ := Aside0.mk (Kd.R_below (by (with_reducible repeat (first | apply Kd.R_alloc | apply Kd.R_drewN | apply Kd.R_drew)); exact HO1002.out) hb); have n6_ := Aside0.mk (blk_below (g := gb972) (o := .cells #[.int .i64 a1_0, .slice A1_1 l1_1.length c1_1, .int .i64 a1_2, .int .i64 a1_3, .int .i64 a1_4] 63 (0, 0)) (by (with_reducible repeat (first | refine blk_drewN ?_ _ | refine blk_drew ?_ | refine blk_alloc ?_ _)); exact BK972.out) hb); have n7_ := Aside0.mk (blk_below (g := gb999) (o := .cells #[.int .i64 t992, .slice Ao33 t993.length co33, .int .i64 t996, .int .i64 t997, .int .i64 t998] 67 (0, 0)) (by (with_reducible repeat (first | refine blk_drewN ?_ _ | refine blk_drew ?_ | refine blk_alloc ?_ _)); exact BK999.out) hb); have n8_ := Aside0.mk (below_step (by repeat (first | (with_reducible first | exact HB.out | apply below_alloc | apply pw_below_drewN | apply below_drew1 | refine below_set ?_ GE972.out | refine below_set ?_ GE999.out) | exact HB.out)) hb); clear HO977; clear HO981; clear HO987; clear HO991; clear HO995; clear HO1002; clear BK972; clear BK999; clear HB; have HO977 := n0_; have HO981 := n1_; have HO987 := n2_; have HO991 := n3_; have HO995 := n4_; have HO1002 := n5_; have BK972 := n6_; have BK999 := n7_; have HB := n8_; clear n0_ n1_ n2_ n3_ n4_ n5_ n6_ n7_ n8_; (try clear hb); (try clear hb2); (try clear hk); (try clear hi)))
     go_meet
     case rel => exact ⟨_, ((t1003 != t988)), (by first | rfl | (simp; done) | (simp [*]; done)), H', ⟨by first | omega | exact Nat.le_refl _⟩, ⟨by (with_reducible repeat (first | apply Kd.R_alloc | apply Kd.R_drewN | apply Kd.R_drew)); exact Kd.R_mono HO987.out (fun _ hk => ⟨hk.1.2, hk.2⟩)⟩, ⟨by (with_reducible repeat (first | apply Kd.R_alloc | apply Kd.R_drewN | apply Kd.R_drew)); exact Kd.R_mono HO991.out (fun _ hk => ⟨hk.1.2, hk.2⟩)⟩, ⟨by (with_reducible repeat (first | apply Kd.R_alloc | apply Kd.R_drewN | apply Kd.R_drew)); exact Kd.R_mono HO1002.out (fun _ hk => ⟨hk.1.2, hk.2⟩)⟩, ⟨by (with_reducible repeat (first | apply Kd.R_alloc | apply Kd.R_drewN | apply Kd.R_drew)); exact Kd.R_mono HO995.out (fun _ hk => trivial)⟩, ⟨by (with_reducible repeat (first | refine blk_drewN ?_ _ | refine blk_drew ?_ | refine blk_alloc ?_ _)); exact BK972.out⟩, ⟨by (with_reducible repeat (first | refine blk_drewN ?_ _ | refine blk_drew ?_ | refine blk_alloc ?_ _)); exact BK999.out⟩, ⟨by repeat (first | (with_reducible first | exact HB.out | apply below_alloc | apply pw_below_drewN | apply below_drew1 | refine below_set ?_ GE972.out | refine below_set ?_ GE999.out) | exact HB.out)⟩⟩
    ·replace c37 := Bool.eq_false_iff.mpr c37
     subst c37
     have H1 : (laws_FnExactApplyOp.j0 k l0 t985 t988 t989 t1000 t1003 true a1_0 l1_1 a1_2 a1_3 a1_4 t992 t993 t996 t997 t998) = some true := by rw [if_neg (show ¬ (false = true) by decide)] at H; exact H
     clear H
     have H := H1
     clear H1
     have H' := Aside0.mk H
     clear H
     obtain ⟨Ao41, co41, eo41⟩ := Kd.R_slice HO1002.out
     subst eo41
     obtain ⟨Ao42, co42, eo42⟩ := Kd.R_slice HO987.out
     subst eo42
     go_wp2_with (first | ((with_reducible refine gate_callee (f := 23) rfl ?_); refine goesL_ (some 47) rfl rfl Try.func23 (by kernel_rfl) rfl #[.slice Ao41 t1000.length co41, .slice Ao42 t985.length co42] rfl (by (try simp only [List.map_toArray, List.map_cons, List.map_nil]); first | done | rfl | (simp only [List.length_drop, List.length_take]; rfl)) ?_; (with_reducible refine (laws_eqNodeS.calls k _ _ t1000 _ _ t985 false _ ?side1 ?side2 ?side3 ?side4 A36.out).mono ?_); (case side1 => repeat (first | exact (Kd.R_reads' HO1002.out).2.2 | (with_reducible refine Kd.C_alloc ?_ _) | (with_reducible refine Kd.C_drewN ?_ _) | (with_reducible refine Kd.C_drew ?_))); (case side2 => exact (Kd.R_reads' HO1002.out).2.1); (case side3 => repeat (first | exact (Kd.R_reads' HO987.out).2.2 | (with_reducible refine Kd.C_alloc ?_ _) | (with_reducible refine Kd.C_drewN ?_ _) | (with_reducible refine Kd.C_drew ?_))); (case side4 => exact (Kd.R_reads' HO987.out).2.1); rintro e w43 ⟨rfl, hb⟩; refine ⟨_, rfl, ?_⟩; have n0_ := Aside0.mk (Kd.R_below (by (with_reducible repeat (first | apply Kd.R_alloc | apply Kd.R_drewN | apply Kd.R_drew)); exact HO977.out) hb); have n1_ := Aside0.mk (Kd.R_below (by (with_reducible repeat (first | apply Kd.R_alloc | apply Kd.R_drewN | apply Kd.R_drew)); exact HO981.out) hb); have n2_ := Aside0.mk (Kd.R_below (by (with_reducible repeat (first | apply Kd.R_alloc | apply Kd.R_drewN | apply Kd.R_drew)); exact HO987.out) hb); have n3_ := Aside0.mk (Kd.R_below (by (with_reducible repeat (first | apply Kd.R_alloc | apply Kd.R_drewN | apply Kd.R_drew)); exact HO991.out) hb); have n4_ := Aside0.mk (Kd.R_below (by (with_reducible repeat (first | apply Kd.R_alloc | apply Kd.R_drewN | apply Kd.R_drew)); exact HO995.out) hb); have n5_ := Aside0.mk (Kd.R_below (by (with_reducible repeat (first | apply Kd.R_alloc | apply Kd.R_drewN | apply Kd.R_drew)); exact HO1002.out) hb); have n6_ := Aside0.mk (blk_below (g := gb972) (o := .cells #[.int .i64 a1_0, .slice A1_1 l1_1.length c1_1, .int .i64 a1_2, .int .i64 a1_3, .int .i64 a1_4] 63 (0, 0)) (by (with_reducible repeat (first | refine blk_drewN ?_ _ | refine blk_drew ?_ | refine blk_alloc ?_ _)); exact BK972.out) hb); have n7_ := Aside0.mk (blk_below (g := gb999) (o := .cells #[.int .i64 t992, .slice Ao33 t993.length co33, .int .i64 t996, .int .i64 t997, .int .i64 t998] 67 (0, 0)) (by (with_reducible repeat (first | refine blk_drewN ?_ _ | refine blk_drew ?_ | refine blk_alloc ?_ _)); exact BK999.out) hb); have n8_ := Aside0.mk (below_step (by repeat (first | (with_reducible first | exact HB.out | apply below_alloc | apply pw_below_drewN | apply below_drew1 | refine below_set ?_ GE972.out | refine below_set ?_ GE999.out) | exact HB.out)) hb); clear HO977; clear HO981; clear HO987; clear HO991; clear HO995; clear HO1002; clear BK972; clear BK999; clear HB; have HO977 := n0_; have HO981 := n1_; have HO987 := n2_; have HO991 := n3_; have HO995 := n4_; have HO1002 := n5_; have BK972 := n6_; have BK999 := n7_; have HB := n8_; clear n0_ n1_ n2_ n3_ n4_ n5_ n6_ n7_ n8_; (try clear hb); (try clear hb2); (try clear hk); (try clear hi)))
     go_meet
     case rel => exact ⟨_, (true), (by first | rfl | (simp; done) | (simp [*]; done)), H', ⟨by first | omega | exact Nat.le_refl _⟩, ⟨by (with_reducible repeat (first | apply Kd.R_alloc | apply Kd.R_drewN | apply Kd.R_drew)); exact Kd.R_mono HO987.out (fun _ hk => ⟨hk.1.2, hk.2⟩)⟩, ⟨by (with_reducible repeat (first | apply Kd.R_alloc | apply Kd.R_drewN | apply Kd.R_drew)); exact Kd.R_mono HO991.out (fun _ hk => ⟨hk.1.2, hk.2⟩)⟩, ⟨by (with_reducible repeat (first | apply Kd.R_alloc | apply Kd.R_drewN | apply Kd.R_drew)); exact Kd.R_mono HO1002.out (fun _ hk => ⟨hk.1.2, hk.2⟩)⟩, ⟨by (with_reducible repeat (first | apply Kd.R_alloc | apply Kd.R_drewN | apply Kd.R_drew)); exact Kd.R_mono HO995.out (fun _ hk => trivial)⟩, ⟨by (with_reducible repeat (first | refine blk_drewN ?_ _ | refine blk_drew ?_ | refine blk_alloc ?_ _)); exact BK972.out⟩, ⟨by (with_reducible repeat (first | refine blk_drewN ?_ _ | refine blk_drew ?_ | refine blk_alloc ?_ _)); exact BK999.out⟩, ⟨by repeat (first | (with_reducible first | exact HB.out | apply below_alloc | apply pw_below_drewN | apply below_drew1 | refine below_set ?_ GE972.out | refine below_set ?_ GE999.out) | exact HB.out)⟩⟩
   case rest =>
    clear HC17
    try clear c1
    try clear c2
    try clear p2
    try clear c3
    try clear c4
    try clear c4b0
    try clear c7
    try clear c7b0
    try clear c9
    try clear c23
    try clear c31
    try clear c35
    try clear c37
    try clear c43
    try clear hcz19_0
    try clear hcz19_1
    try clear hcz19_2
    try clear hcz19_3
    try clear hcz19_4
    try clear hcz28_0
    try clear hcz28_1
    try clear hcz28_2
    try clear hcz28_3
    try clear hcz28_4
    try clear hcz32_0
    try clear hcz32_1
    try clear hcz32_2
    try clear hcz32_3
    try clear hcz32_4
    try clear hcz9_0
    try clear hcz9_1
    try clear hcz9_2
    try clear hcz9_3
    try clear hcz9_4
    try clear hfz19_0
    try clear hfz19_1
    try clear hfz19_2
    try clear hfz19_3
    try clear hfz19_4
    try clear hfz28_0
    try clear hfz28_1
    try clear hfz28_2
    try clear hfz28_3
    try clear hfz28_4
    try clear hfz32_0
    try clear hfz32_1
    try clear hfz32_2
    try clear hfz32_3
    try clear hfz32_4
    try clear hfz9_0
    try clear hfz9_1
    try clear hfz9_2
    try clear hfz9_3
    try clear hfz9_4
    obtain ⟨kq, x53_16, rfl, HA, HJ16, HO_6, HO_8, HO_10, HO_1000001, BK972, BK999, HB⟩ := hcut
    cases kq with
    | zero => exact absurd HA.out (by simp [laws_FnExactApplyOp.j0])
    | succ kj16 =>
     have H := HA.out
     clear HA
     simp only [laws_FnExactApplyOp.j0] at H
     by_cases c44 : x53_16 = true
     ·subst c44
      have H1 : (some false) = some true := by rw [if_pos rfl] at H; exact H
      clear H
      have H := H1
      clear H1
      exact absurd H (by simp)
     ·replace c44 := Bool.eq_false_iff.mpr c44
      subst c44
      have H1 : ((laws_toNodeS.f kj16 l0).bind fun t1005 => ((laws_eqNodeS.f kj16 t989 t1005).bind fun t1008 => (if t1008 = true then ((laws_toOp.f kj16 a1_0 l1_1 a1_2 a1_3 a1_4).bind fun bt1009 => ((laws_eqOp.f kj16 t992 t993 t996 t997 t998 bt1009.1 bt1009.2.1 bt1009.2.2.1 bt1009.2.2.2.1 bt1009.2.2.2.2).bind fun t1016 => (if t1016 = true then ((laws_markNodeS.f kj16 t989 1).bind fun bt1017 => ((laws_markOp.f kj16 t992 t993 t996 t997 t998 bt1017.1).bind fun bt1019 => (if bt1019.1 < 0 then (laws_FnExactApplyOp.j1 kj16 l0 t985 t988 t1000 true a1_0 l1_1 a1_2 a1_3 a1_4) else ((laws_eqNodeS.f kj16 t1000 t985).bind fun t1021 => (if t1021 = true then (laws_FnExactApplyOp.j1 kj16 l0 t985 t988 t1000 (t1003 != t988) a1_0 l1_1 a1_2 a1_3 a1_4) else (laws_FnExactApplyOp.j1 kj16 l0 t985 t988 t1000 true a1_0 l1_1 a1_2 a1_3 a1_4)))))) else (some false)))) else (some false)))) = some true := by rw [if_neg (show ¬ (false = true) by decide)] at H; exact H
      clear H
      have H := H1
      clear H1
      replace H := Option.bind_eq_some_iff.mp H
      obtain ⟨t1005, A450, H⟩ := H
      try dsimp only at H
      have A45 := Aside0.mk A450
      clear A450
      replace H := Option.bind_eq_some_iff.mp H
      obtain ⟨t1008, A460, H⟩ := H
      try dsimp only at H
      have A46 := Aside0.mk A460
      clear A460
      by_cases c47 : t1008 = true
      ·subst c47
       have H1 : ((laws_toOp.f kj16 a1_0 l1_1 a1_2 a1_3 a1_4).bind fun bt1009 => ((laws_eqOp.f kj16 t992 t993 t996 t997 t998 bt1009.1 bt1009.2.1 bt1009.2.2.1 bt1009.2.2.2.1 bt1009.2.2.2.2).bind fun t1016 => (if t1016 = true then ((laws_markNodeS.f kj16 t989 1).bind fun bt1017 => ((laws_markOp.f kj16 t992 t993 t996 t997 t998 bt1017.1).bind fun bt1019 => (if bt1019.1 < 0 then (laws_FnExactApplyOp.j1 kj16 l0 t985 t988 t1000 true a1_0 l1_1 a1_2 a1_3 a1_4) else ((laws_eqNodeS.f kj16 t1000 t985).bind fun t1021 => (if t1021 = true then (laws_FnExactApplyOp.j1 kj16 l0 t985 t988 t1000 (t1003 != t988) a1_0 l1_1 a1_2 a1_3 a1_4) else (laws_FnExactApplyOp.j1 kj16 l0 t985 t988 t1000 true a1_0 l1_1 a1_2 a1_3 a1_4)))))) else (some false)))) = some true := by rw [if_pos rfl] at H; exact H
       clear H
       have H := H1
       clear H1
       replace H := Option.bind_eq_some_iff.mp H
       obtain ⟨⟨t1009, t1010, t1013, t1014, t1015⟩, A480, H⟩ := H
       try dsimp only at H
       have A48 := Aside0.mk A480
       clear A480
       replace H := Option.bind_eq_some_iff.mp H
       obtain ⟨t1016, A490, H⟩ := H
       try dsimp only at H
       have A49 := Aside0.mk A490
       clear A490
       by_cases c50 : t1016 = true
       ·subst c50
        have H1 : ((laws_markNodeS.f kj16 t989 1).bind fun bt1017 => ((laws_markOp.f kj16 t992 t993 t996 t997 t998 bt1017.1).bind fun bt1019 => (if bt1019.1 < 0 then (laws_FnExactApplyOp.j1 kj16 l0 t985 t988 t1000 true a1_0 l1_1 a1_2 a1_3 a1_4) else ((laws_eqNodeS.f kj16 t1000 t985).bind fun t1021 => (if t1021 = true then (laws_FnExactApplyOp.j1 kj16 l0 t985 t988 t1000 (t1003 != t988) a1_0 l1_1 a1_2 a1_3 a1_4) else (laws_FnExactApplyOp.j1 kj16 l0 t985 t988 t1000 true a1_0 l1_1 a1_2 a1_3 a1_4)))))) = some true := by rw [if_pos rfl] at H; exact H
        clear H
        have H := H1
        clear H1
        replace H := Option.bind_eq_some_iff.mp H
        obtain ⟨⟨t1017, t1018⟩, A510, H⟩ := H
        try dsimp only at H
        have A51 := Aside0.mk A510
        clear A510
        replace H := Option.bind_eq_some_iff.mp H
        obtain ⟨⟨t1019, t1020⟩, A520, H⟩ := H
        try dsimp only at H
        have A52 := Aside0.mk A520
        clear A520
        have HC53 := Aside0.mk H
        clear H
        try go_wp2_with (first | ((with_reducible refine gate_callee (f := 35) rfl ?_); refine goesL_ (some 56) rfl rfl Try.func35 (by kernel_rfl) rfl #[.slice A0 l0.length c0] rfl (by (try simp only [List.map_toArray, List.map_cons, List.map_nil]); first | done | rfl | (simp only [List.length_drop, List.length_take]; rfl)) ?_; (with_reducible refine (laws_toNodeS.calls kj16 _ _ l0 t1005 _ ?side1 ?side2 A45.out).mono ?_); (case side1 => repeat (first | exact (Kd.C_below HR0.out HB.out) | (with_reducible refine Kd.C_alloc ?_ _) | (with_reducible refine Kd.C_drewN ?_ _) | (with_reducible refine Kd.C_drew ?_))); (case side2 => exact HC0.out); rintro e w54 ⟨v1006, rfl, ho0, hb⟩; refine ⟨_, rfl, ?_⟩; have n0_ := Aside0.mk (Kd.R_elder' (by (with_reducible repeat (first | apply Kd.R_alloc | apply Kd.R_drewN | apply Kd.R_drew)); exact HO_6.out) (Kd.R_base ho0) hb); have n1_ := Aside0.mk (Kd.R_elder' (by (with_reducible repeat (first | apply Kd.R_alloc | apply Kd.R_drewN | apply Kd.R_drew)); exact HO_8.out) (Kd.R_base ho0) hb); have n2_ := Aside0.mk (Kd.R_elder' (by (with_reducible repeat (first | apply Kd.R_alloc | apply Kd.R_drewN | apply Kd.R_drew)); exact HO_10.out) (Kd.R_base ho0) hb); have n3_ := Aside0.mk (Kd.R_below (by (with_reducible repeat (first | apply Kd.R_alloc | apply Kd.R_drewN | apply Kd.R_drew)); exact HO_1000001.out) hb); have n4_ := Aside0.mk (Kd.R_lower (Kd.R_new' (Kd.R_new' (Kd.R_new' ho0 (Kd.R_lt (by (with_reducible repeat (first | apply Kd.R_alloc | apply Kd.R_drewN | apply Kd.R_drew)); exact HO_6.out))) (Kd.R_lt (by (with_reducible repeat (first | apply Kd.R_alloc | apply Kd.R_drewN | apply Kd.R_drew)); exact HO_8.out))) (Kd.R_lt (by (with_reducible repeat (first | apply Kd.R_alloc | apply Kd.R_drewN | apply Kd.R_drew)); exact HO_10.out))) (below_size (by repeat (first | (with_reducible first | exact HB.out | apply below_alloc | apply pw_below_drewN | apply below_drew1 | refine below_set ?_ GE972.out | refine below_set ?_ GE999.out) | exact HB.out)))); have n5_ := Aside0.mk (blk_below (g := gb972) (o := .cells #[.int .i64 a1_0, .slice A1_1 l1_1.length c1_1, .int .i64 a1_2, .int .i64 a1_3, .int .i64 a1_4] 63 (0, 0)) (by (with_reducible repeat (first | refine blk_drewN ?_ _ | refine blk_drew ?_ | refine blk_alloc ?_ _)); exact BK972.out) hb); have n6_ := Aside0.mk (blk_below (g := gb999) (o := .cells #[.int .i64 t992, .slice Ao33 t993.length co33, .int .i64 t996, .int .i64 t997, .int .i64 t998] 67 (0, 0)) (by (with_reducible repeat (first | refine blk_drewN ?_ _ | refine blk_drew ?_ | refine blk_alloc ?_ _)); exact BK999.out) hb); have n7_ := Aside0.mk (below_step (by repeat (first | (with_reducible first | exact HB.out | apply below_alloc | apply pw_below_drewN | apply below_drew1 | refine below_set ?_ GE972.out | refine below_set ?_ GE999.out) | exact HB.out)) hb); clear HO_6; clear HO_8; clear HO_10; clear HO_1000001; clear BK972; clear BK999; clear HB; have HO_6 := n0_; have HO_8 := n1_; have HO_10 := n2_; have HO_1000001 := n3_; have HO1007 := n4_; have BK972 := n5_; have BK999 := n6_; have HB := n7_; clear n0_ n1_ n2_ n3_ n4_ n5_ n6_ n7_; (try clear hb); (try clear hb2); (try clear hk); (try clear hi); (try clear ho0); obtain ⟨Ao55, co55, eo55⟩ := Kd.R_slice HO1007.out; subst eo55) | ((with_reducible refine gate_callee (f := 23) rfl ?_); refine goesL_ (some 57) rfl rfl Try.func23 (by kernel_rfl) rfl #[.slice Ao34 t989.length co34, .slice Ao55 t1005.length co55] rfl (by (try simp only [List.map_toArray, List.map_cons, List.map_nil]); first | done | rfl | (simp only [List.length_drop, List.length_take]; rfl)) ?_; (with_reducible refine (laws_eqNodeS.calls kj16 _ _ t989 _ _ t1005 true _ ?side1 ?side2 ?side3 ?side4 A46.out).mono ?_); (case side1 => repeat (first | exact (Kd.R_reads' HO_8.out).2.2 | (with_reducible refine Kd.C_alloc ?_ _) | (with_reducible refine Kd.C_drewN ?_ _) | (with_reducible refine Kd.C_drew ?_))); (case side2 => exact (Kd.R_reads' HO_8.out).2.1); (case side3 => repeat (first | exact (Kd.R_reads' HO1007.out).2.2 | (with_reducible refine Kd.C_alloc ?_ _) | (with_reducible refine Kd.C_drewN ?_ _) | (with_reducible refine Kd.C_drew ?_))); (case side4 => exact (Kd.R_reads' HO1007.out).2.1); rintro e w56 ⟨rfl, hb⟩; refine ⟨_, rfl, ?_⟩; have n0_ := Aside0.mk (Kd.R_below (by (with_reducible repeat (first | apply Kd.R_alloc | apply Kd.R_drewN | apply Kd.R_drew)); exact HO_6.out) hb); have n1_ := Aside0.mk (Kd.R_below (by (with_reducible repeat (first | apply Kd.R_alloc | apply Kd.R_drewN | apply Kd.R_drew)); exact HO_8.out) hb); have n2_ := Aside0.mk (Kd.R_below (by (with_reducible repeat (first | apply Kd.R_alloc | apply Kd.R_drewN | apply Kd.R_drew)); exact HO_10.out) hb); have n3_ := Aside0.mk (Kd.R_below (by (with_reducible repeat (first | apply Kd.R_alloc | apply Kd.R_drewN | apply Kd.R_drew)); exact HO_1000001.out) hb); have n4_ := Aside0.mk (Kd.R_below (by (with_reducible repeat (first | apply Kd.R_alloc | apply Kd.R_drewN | apply Kd.R_drew)); exact HO1007.out) hb); have n5_ := Aside0.mk (blk_below (g := gb972) (o := .cells #[.int .i64 a1_0, .slice A1_1 l1_1.length c1_1, .int .i64 a1_2, .int .i64 a1_3, .int .i64 a1_4] 63 (0, 0)) (by (with_reducible repeat (first | refine blk_drewN ?_ _ | refine blk_drew ?_ | refine blk_alloc ?_ _)); exact BK972.out) hb); have n6_ := Aside0.mk (blk_below (g := gb999) (o := .cells #[.int .i64 t992, .slice Ao33 t993.length co33, .int .i64 t996, .int .i64 t997, .int .i64 t998] 67 (0, 0)) (by (with_reducible repeat (first | refine blk_drewN ?_ _ | refine blk_drew ?_ | refine blk_alloc ?_ _)); exact BK999.out) hb); have n7_ := Aside0.mk (below_step (by repeat (first | (with_reducible first | exact HB.out | apply below_alloc | apply pw_below_drewN | apply below_drew1 | refine below_set ?_ GE972.out | refine below_set ?_ GE999.out) | exact HB.out)) hb); clear HO_6; clear HO_8; clear HO_10; clear HO_1000001; clear HO1007; clear BK972; clear BK999; clear HB; have HO_6 := n0_; have HO_8 := n1_; have HO_10 := n2_; have HO_1000001 := n3_; have HO1007 := n4_; have BK972 := n5_; have BK999 := n6_; have HB := n7_; clear n0_ n1_ n2_ n3_ n4_ n5_ n6_ n7_; (try clear hb); (try clear hb2); (try clear hk); (try clear hi)))
        have n0_ := Aside0.mk (Kd.R_drew HO_6.out)
        have n1_ := Aside0.mk (Kd.R_drew HO_8.out)
        have n2_ := Aside0.mk (Kd.R_drew HO_10.out)
        have n3_ := Aside0.mk (Kd.R_drew HO_1000001.out)
        have n4_ := Aside0.mk (Kd.R_drew HO1007.out)
        have n5_ := Aside0.mk (blk_drew BK972.out)
        have n6_ := Aside0.mk (blk_drew BK999.out)
        have n7_ := Aside0.mk (below_drew1 HB.out)
        clear HO_6
        clear HO_8
        clear HO_10
        clear HO_1000001
        clear HO1007
        clear BK972
        clear BK999
        clear HB
        have HO_6 := n0_
        have HO_8 := n1_
        have HO_10 := n2_
        have HO_1000001 := n3_
        have HO1007 := n4_
        have BK972 := n5_
        have BK999 := n6_
        have HB := n7_
        clear n0_ n1_ n2_ n3_ n4_ n5_ n6_ n7_
        refine start_ (n := 5) (S := fun w' => w'.cell? ⟨gb999, 0, none⟩ = some (.int .i64 t992) ∧ w'.cell? ⟨gb999, 1, none⟩ = some (.slice Ao33 t993.length co33) ∧ w'.cell? ⟨gb999, 2, none⟩ = some (.int .i64 t996) ∧ w'.cell? ⟨gb999, 3, none⟩ = some (.int .i64 t997) ∧ w'.cell? ⟨gb999, 4, none⟩ = some (.int .i64 t998) ∧ w'.cell? ⟨gb972, 0, none⟩ = some (.int .i64 a1_0) ∧ w'.cell? ⟨gb972, 1, none⟩ = some (.slice A1_1 l1_1.length c1_1) ∧ w'.cell? ⟨gb972, 2, none⟩ = some (.int .i64 a1_2) ∧ w'.cell? ⟨gb972, 3, none⟩ = some (.int .i64 a1_3) ∧ w'.cell? ⟨gb972, 4, none⟩ = some (.int .i64 a1_4)) (ds := []) #[false, false, false, false, false] (by kernel_rfl) rfl rfl ⟨(blk_cell BK999.out 0).trans rfl, (blk_cell BK999.out 1).trans rfl, (blk_cell BK999.out 2).trans rfl, (blk_cell BK999.out 3).trans rfl, (blk_cell BK999.out 4).trans rfl, (blk_cell BK972.out 0).trans rfl, (blk_cell BK972.out 1).trans rfl, (blk_cell BK972.out 2).trans rfl, (blk_cell BK972.out 3).trans rfl, (blk_cell BK972.out 4).trans rfl⟩ (fun hHeld => ?_)
        generalize w56.drew = w57 at HO_6 HO_8 HO_10 HO_1000001 HO1007 BK972 BK999 HB hHeld ⊢
        refine ta_ 0 (some 59) #[true, false, false, false, false] rfl rfl (by kernel_rfl) hHeld (by rintro w' ⟨s0, s1, s2, s3, s4, s5, s6, s7, s8, s9⟩; go_simp; with_reducible rfl) ?_
        refine ta_ 1 (some 60) #[true, true, false, false, false] rfl rfl (by kernel_rfl) hHeld (by rintro w' ⟨s0, s1, s2, s3, s4, s5, s6, s7, s8, s9⟩; go_simp; with_reducible rfl) ?_
        refine one_ (i := 2) (N := some 61) #[true, true, true, false, false] rfl rfl (by kernel_rfl) (by decide) (fun K hK => ?_)
        refine goes_ Try.func45 (by kernel_rfl) rfl #[.agg #[.int .i64 a1_0, .slice A1_1 l1_1.length c1_1, .int .i64 a1_2, .int .i64 a1_3, .int .i64 a1_4]] (by rfl) rfl rfl (by (try simp only [List.map_toArray, List.map_cons, List.map_nil]); first | done | rfl | (simp only [List.length_drop, List.length_take]; rfl)) ?_
        with_reducible refine (laws_toOp.calls kj16 a1_0 _ _ l1_1 a1_2 a1_3 a1_4 t1009 t1010 t1013 t1014 t1015 _ ?side1 ?side2 A48.out).mono ?_
        (case side1 => repeat (first | exact (Kd.C_below HR1_1.out HB.out) | (with_reducible refine Kd.C_alloc ?_ _) | (with_reducible refine Kd.C_drewN ?_ _) | (with_reducible refine Kd.C_drew ?_)))
        (case side2 => exact HC1_1.out)
        rintro e w58 ⟨v1011, rfl, ho0, hb⟩
        refine ⟨_, rfl, ?_⟩
        have n0_ := Aside0.mk (Kd.R_below (by (with_reducible repeat (first | apply Kd.R_alloc | apply Kd.R_drewN | apply Kd.R_drew)); exact HO_6.out) hb)
        have n1_ := Aside0.mk (Kd.R_below (by (with_reducible repeat (first | apply Kd.R_alloc | apply Kd.R_drewN | apply Kd.R_drew)); exact HO_8.out) hb)
        have n2_ := Aside0.mk (Kd.R_below (by (with_reducible repeat (first | apply Kd.R_alloc | apply Kd.R_drewN | apply Kd.R_drew)); exact HO_10.out) hb)
        have n3_ := Aside0.mk (Kd.R_elder' (by (with_reducible repeat (first | apply Kd.R_alloc | apply Kd.R_drewN | apply Kd.R_drew)); exact HO_1000001.out) (Kd.R_base ho0) hb)
        have n4_ := Aside0.mk (Kd.R_below (by (with_reducible repeat (first | apply Kd.R_alloc | apply Kd.R_drewN | apply Kd.R_drew)); exact HO1007.out) hb)
        have n5_ := Aside0.mk (Kd.R_lower (Kd.R_new' ho0 (Kd.R_lt (by (with_reducible repeat (first | apply Kd.R_alloc | apply Kd.R_drewN | apply Kd.R_drew)); exact HO_1000001.out))) (below_size (by repeat (first | (with_reducible first | exact HB.out | apply below_alloc | apply pw_below_drewN | apply below_drew1 | refine below_set ?_ GE972.out | refine below_set ?_ GE999.out) | exact HB.out))))
        have n6_ := Aside0.mk (blk_below (g := gb972) (o := .cells #[.int .i64 a1_0, .slice A1_1 l1_1.length c1_1, .int .i64 a1_2, .int .i64 a1_3, .int .i64 a1_4] 63 (0, 0)) (by (with_reducible repeat (first | refine blk_drewN ?_ _ | refine blk_drew ?_ | refine blk_alloc ?_ _)); exact BK972.out) hb)
        have n7_ := Aside0.mk (blk_below (g := gb999) (o := .cells #[.int .i64 t992, .slice Ao33 t993.length co33, .int .i64 t996, .int .i64 t997, .int .i64 t998] 67 (0, 0)) (by (with_reducible repeat (first | refine blk_drewN ?_ _ | refine blk_drew ?_ | refine blk_alloc ?_ _)); exact BK999.out) hb)
        have n8_ := Aside0.mk (below_step (by repeat (first | (with_reducible first | exact HB.out | apply below_alloc | apply pw_below_drewN | apply below_drew1 | refine below_set ?_ GE972.out | refine below_set ?_ GE999.out) | exact HB.out)) hb)
        clear HO_6
        clear HO_8
        clear HO_10
        clear HO_1000001
        clear HO1007
        clear BK972
        clear BK999
        clear HB
        have HO_6 := n0_
        have HO_8 := n1_
        have HO_10 := n2_
        have HO_1000001 := n3_
        have HO1007 := n4_
        have HO1012 := n5_
        have BK972 := n6_
        have BK999 := n7_
        have HB := n8_
        clear n0_ n1_ n2_ n3_ n4_ n5_ n6_ n7_ n8_
        (try clear hb)
        (try clear hb2)
        (try clear hk)
        (try clear hi)
        (try clear ho0)
        obtain ⟨Ao59, co59, eo59⟩ := Kd.R_slice HO1012.out
        (first | subst eo59 | (injection eo59 with f1_ f2_ f3_; have f4_ := f1_.symm; have f5_ := f3_.symm; clear f1_ f2_ f3_; subst f4_; subst f5_))
        refine hK.out _ _ ⟨(blk_cell BK999.out 0).trans rfl, (blk_cell BK999.out 1).trans rfl, (blk_cell BK999.out 2).trans rfl, (blk_cell BK999.out 3).trans rfl, (blk_cell BK999.out 4).trans rfl, (blk_cell BK972.out 0).trans rfl, (blk_cell BK972.out 1).trans rfl, (blk_cell BK972.out 2).trans rfl, (blk_cell BK972.out 3).trans rfl, (blk_cell BK972.out 4).trans rfl⟩ (fun hHeld => ?_)
        clear hK K
        refine norm_ (a' := ?_) ?_ ?_
        rotate_left
        ·show Act.put _ (some 61) _ = _
         simp only [Act.put, List.setIfInBounds_toArray, List.set_cons_zero, List.set_cons_succ, i64_w, i32_w]
         rfl
        refine one_ (i := 3) (N := some 62) #[true, true, true, true, false] rfl rfl (by kernel_rfl) (by decide) (fun K hK => ?_)
        refine goes_ Try.func47 (by kernel_rfl) rfl #[.agg #[.int .i64 t992, .slice Ao33 t993.length co33, .int .i64 t996, .int .i64 t997, .int .i64 t998], .agg #[.int .i64 t1009, .slice Ao59 t1010.length co59, .int .i64 t1013, .int .i64 t1014, .int .i64 t1015]] (by rfl) rfl rfl (by (try simp only [List.map_toArray, List.map_cons, List.map_nil]); first | done | rfl | (simp only [List.length_drop, List.length_take]; rfl)) ?_
        with_reducible refine (laws_eqOp.calls kj16 t992 _ _ t993 t996 t997 t998 t1009 _ _ t1010 t1013 t1014 t1015 true _ ?side1 ?side2 ?side3 ?side4 A49.out).mono ?_
        (case side1 => repeat (first | exact (Kd.R_reads' HO_1000001.out).2.2 | (with_reducible refine Kd.C_alloc ?_ _) | (with_reducible refine Kd.C_drewN ?_ _) | (with_reducible refine Kd.C_drew ?_)))
        (case side2 => exact (Kd.R_reads' HO_1000001.out).2.1)
        (case side3 => repeat (first | exact (Kd.R_reads' HO1012.out).2.2 | (with_reducible refine Kd.C_alloc ?_ _) | (with_reducible refine Kd.C_drewN ?_ _) | (with_reducible refine Kd.C_drew ?_)))
        (case side4 => exact (Kd.R_reads' HO1012.out).2.1)
        rintro e w60 ⟨rfl, hb⟩
        refine ⟨_, rfl, ?_⟩
        have n0_ := Aside0.mk (Kd.R_below (by (with_reducible repeat (first | apply Kd.R_alloc | apply Kd.R_drewN | apply Kd.R_drew)); exact HO_6.out) hb)
        have n1_ := Aside0.mk (Kd.R_below (by (with_reducible repeat (first | apply Kd.R_alloc | apply Kd.R_drewN | apply Kd.R_drew)); exact HO_8.out) hb)
        have n2_ := Aside0.mk (Kd.R_below (by (with_reducible repeat (first | apply Kd.R_alloc | apply Kd.R_drewN | apply Kd.R_drew)); exact HO_10.out) hb)
        have n3_ := Aside0.mk (Kd.R_below (by (with_reducible repeat (first | apply Kd.R_alloc | apply Kd.R_drewN | apply Kd.R_drew)); exact HO_1000001.out) hb)
        have n4_ := Aside0.mk (Kd.R_below (by (with_reducible repeat (first | apply Kd.R_alloc | apply Kd.R_drewN | apply Kd.R_drew)); exact HO1007.out) hb)
        have n5_ := Aside0.mk (Kd.R_below (by (with_reducible repeat (first | apply Kd.R_alloc | apply Kd.R_drewN | apply Kd.R_drew)); exact HO1012.out) hb)
        have n6_ := Aside0.mk (blk_below (g := gb972) (o := .cells #[.int .i64 a1_0, .slice A1_1 l1_1.length c1_1, .int .i64 a1_2, .int .i64 a1_3, .int .i64 a1_4] 63 (0, 0)) (by (with_reducible repeat (first | refine blk_drewN ?_ _ | refine blk_drew ?_ | refine blk_alloc ?_ _)); exact BK972.out) hb)
        have n7_ := Aside0.mk (blk_below (g := gb999) (o := .cells #[.int .i64 t992, .slice Ao33 t993.length co33, .int .i64 t996, .int .i64 t997, .int .i64 t998] 67 (0, 0)) (by (with_reducible repeat (first | refine blk_drewN ?_ _ | refine blk_drew ?_ | refine blk_alloc ?_ _)); exact BK999.out) hb)
        have n8_ := Aside0.mk (below_step (by repeat (first | (with_reducible first | exact HB.out | apply below_alloc | apply pw_below_drewN | apply below_drew1 | refine below_set ?_ GE972.out | refine below_set ?_ GE999.out) | exact HB.out)) hb)
        clear HO_6
        clear HO_8
        clear HO_10
        clear HO_1000001
        clear HO1007
        clear HO1012
        clear BK972
        clear BK999
        clear HB
        have HO_6 := n0_
        have HO_8 := n1_
        have HO_10 := n2_
        have HO_1000001 := n3_
        have HO1007 := n4_
        have HO1012 := n5_
        have BK972 := n6_
        have BK999 := n7_
        have HB := n8_
        clear n0_ n1_ n2_ n3_ n4_ n5_ n6_ n7_ n8_
        (try clear hb)
        (try clear hb2)
        (try clear hk)
        (try clear hi)
        refine hK.out _ _ ⟨(blk_cell BK999.out 0).trans rfl, (blk_cell BK999.out 1).trans rfl, (blk_cell BK999.out 2).trans rfl, (blk_cell BK999.out 3).trans rfl, (blk_cell BK999.out 4).trans rfl, (blk_cell BK972.out 0).trans rfl, (blk_cell BK972.out 1).trans rfl, (blk_cell BK972.out 2).trans rfl, (blk_cell BK972.out 3).trans rfl, (blk_cell BK972.out 4).trans rfl⟩ (fun hHeld => ?_)
        clear hK K
        refine norm_ (a' := ?_) ?_ ?_
        rotate_left
        ·show Act.put _ (some 62) _ = _
         simp only [Act.put, List.setIfInBounds_toArray, List.set_cons_zero, List.set_cons_succ, i64_w, i32_w]
         rfl
        refine pu_ 4 (some 63) #[true, true, true, true, true] rfl rfl (by kernel_rfl) ?_
        refine done_ (by kernel_rfl) ?_
        go_upto_region 21 with (first | ((with_reducible refine gate_callee (f := 25) rfl ?_); refine goesL_ (some 66) rfl rfl Try.func25 (by kernel_rfl) rfl #[.slice Ao34 t989.length co34, .int .i64 1] rfl (by (try simp only [List.map_toArray, List.map_cons, List.map_nil]); first | done | rfl | (simp only [List.length_drop, List.length_take]; rfl)) ?_; (with_reducible refine (laws_markNodeS.calls kj16 (fun k_ => some k_ = (.slice Ao34 t989.length co34 : Value).ownBlock) (.slice Ao34 t989.length co34) t989 1 t1017 t1018 w _ ?side1 ?side2 A51.out).mono ?_); (case side1 => repeat (first | (with_reducible first | exact HB.out | apply below_alloc | apply pw_below_drewN | apply below_drew1 | refine below_set ?_ GE972.out | refine below_set ?_ GE999.out) | exact HB.out)); (case side2 => exact Kd.R_tight rfl HO_8.out); rintro e w61 ⟨rfl, hy0, hb, hkp⟩; refine ⟨_, rfl, ?_⟩; have n0_ := Aside0.mk (Kd.R_mono (ok' := fun k_ => some k_ ≠ (.slice Ao34 t989.length co34 : Value).ownBlock ∧ some k_ ≠ (v1001 : Value).ownBlock ∧ some k_ ≠ (.slice Ao55 t1005.length co55 : Value).ownBlock) (Kd.R_keptB (HO_6.out) hkp (fun k_ hk_ hs_ => (hk_.1.1) hs_)) (fun k_ hk_ => ⟨hk_.1.1.1, hk_.1.1.2, hk_.1.2⟩)); have n1_ := Aside0.mk (Kd.R_reok rfl hy0 (fun k_ e_ => HO_8.out.1 k_ e_)); have n2_ := Aside0.mk (Kd.R_mono (ok' := fun k_ => some k_ ≠ (v986 : Value).ownBlock ∧ some k_ ≠ (.slice Ao34 t989.length co34 : Value).ownBlock ∧ some k_ ≠ (.slice Ao55 t1005.length co55 : Value).ownBlock) (Kd.R_keptB (HO_10.out) hkp (fun k_ hk_ hs_ => (hk_.1.2) hs_)) (fun k_ hk_ => ⟨hk_.1.1.1, hk_.1.1.2, hk_.1.2⟩)); have n3_ := Aside0.mk (Kd.R_mono (ok' := fun k_ => some k_ ≠ (.slice Ao59 t1010.length co59 : Value).ownBlock) (Kd.R_keptB ((Kd.R_apart' HO_1000001.out (Kd.R_typed HO_8.out) (by decide))) hkp (fun k_ hk_ hs_ => (hk_.2) hs_)) (fun k_ hk_ => hk_.1.1.2)); have n4_ := Aside0.mk (blk_kept (by (with_reducible repeat (first | refine blk_drewN ?_ _ | refine blk_drew ?_ | refine blk_alloc ?_ _)); exact BK972.out) hkp (fun hs_ => (fun e_ => (Kd.R_ne HO_8.out BK972.out (by decide)) e_) hs_)); have n5_ := Aside0.mk (blk_kept (by (with_reducible repeat (first | refine blk_drewN ?_ _ | refine blk_drew ?_ | refine blk_alloc ?_ _)); exact BK999.out) hkp (fun hs_ => (fun e_ => (Kd.R_ne HO_8.out BK999.out (by decide)) e_) hs_)); have n6_ := Aside0.mk (Kd.R_mono (ok' := fun k_ => some k_ ≠ (v986 : Value).ownBlock ∧ some k_ ≠ (.slice Ao34 t989.length co34 : Value).ownBlock ∧ some k_ ≠ (v1001 : Value).ownBlock) (Kd.R_keptB (HO1007.out) hkp (fun k_ hk_ hs_ => (hk_.1.2) hs_)) (fun k_ hk_ => ⟨hk_.1.1.1.2, hk_.1.1.2, hk_.1.2⟩)); have n7_ := Aside0.mk (Kd.R_mono (ok' := fun k_ => some k_ ≠ (.slice Ao33 t993.length co33 : Value).ownBlock) (Kd.R_keptB ((Kd.R_apart' HO1012.out (Kd.R_typed HO_8.out) (by decide))) hkp (fun k_ hk_ hs_ => (hk_.2) hs_)) (fun k_ hk_ => hk_.1.1.2)); have n8_ := Aside0.mk (hb); clear HO_6; clear HO_8; clear HO_10; clear HO_1000001; clear BK972; clear BK999; clear HO1007; clear HO1012; clear HB; have HO_6 := n0_; have HO_8 := n1_; have HO_10 := n2_; have HO_1000001 := n3_; have BK972 := n4_; have BK999 := n5_; have HO1007 := n6_; have HO1012 := n7_; have HB := n8_; clear n0_ n1_ n2_ n3_ n4_ n5_ n6_ n7_ n8_; (try clear hb); (try clear hkp); (try clear hy0); have hnb62 := NB999_972.out; have hnc62 := NB972_999.out; have hcz63_0 : w61.cell? ⟨gb999, 0, none⟩ = some (.int .i64 t992) := (blk_cell BK999.out 0).trans rfl; have hcz63_1 : w61.cell? ⟨gb999, 1, none⟩ = some (.slice Ao33 t993.length co33) := (blk_cell BK999.out 1).trans rfl; have hcz63_2 : w61.cell? ⟨gb999, 2, none⟩ = some (.int .i64 t996) := (blk_cell BK999.out 2).trans rfl; have hcz63_3 : w61.cell? ⟨gb999, 3, none⟩ = some (.int .i64 t997) := (blk_cell BK999.out 3).trans rfl; have hcz63_4 : w61.cell? ⟨gb999, 4, none⟩ = some (.int .i64 t998) := (blk_cell BK999.out 4).trans rfl; have hfz63_0 := blk_frozen BK999.out 0; have hfz63_1 := blk_frozen BK999.out 1; have hfz63_2 := blk_frozen BK999.out 2; have hfz63_3 := blk_frozen BK999.out 3; have hfz63_4 := blk_frozen BK999.out 4) | ((with_reducible refine gate_callee (f := 48) rfl ?_); refine goesL_ (some 69) rfl rfl Try.func48 (by kernel_rfl) rfl #[.agg #[.int .i64 t992, .slice Ao33 t993.length co33, .int .i64 t996, .int .i64 t997, .int .i64 t998], .int .i64 t1017] rfl (by (try simp only [List.map_toArray, List.map_cons, List.map_nil]); first | done | rfl | (simp only [List.length_drop, List.length_take]; rfl)) ?_; (with_reducible refine (laws_markOp.calls kj16 t992 (fun k_ => some k_ = (.slice Ao33 t993.length co33 : Value).ownBlock) (.slice Ao33 t993.length co33) t993 t996 t997 t998 t1017 t1019 t1020 w _ ?side1 ?side2 A52.out).mono ?_); (case side1 => repeat (first | (with_reducible first | exact HB.out | apply below_alloc | apply pw_below_drewN | apply below_drew1 | refine below_set ?_ GE972.out | refine below_set ?_ GE999.out) | exact HB.out)); (case side2 => exact Kd.R_tight rfl HO_1000001.out); rintro e w64 ⟨rfl, hy0, hb, hkp⟩; refine ⟨_, rfl, ?_⟩; have n0_ := Aside0.mk (Kd.R_mono (ok' := fun k_ => some k_ ≠ (.slice Ao34 t989.length co34 : Value).ownBlock ∧ some k_ ≠ (v1001 : Value).ownBlock ∧ some k_ ≠ (.slice Ao55 t1005.length co55 : Value).ownBlock) (Kd.R_keptB ((Kd.R_apart' HO_6.out (Kd.R_typed HO_1000001.out) (by decide))) hkp (fun k_ hk_ hs_ => (hk_.2) hs_)) (fun k_ hk_ => ⟨hk_.1.1.1, hk_.1.1.2.1, hk_.1.1.2.2⟩)); have n1_ := Aside0.mk (Kd.R_mono (ok' := fun k_ => some k_ ≠ (v986 : Value).ownBlock ∧ some k_ ≠ (v1001 : Value).ownBlock ∧ some k_ ≠ (.slice Ao55 t1005.length co55 : Value).ownBlock) (Kd.R_keptB ((Kd.R_apart' HO_8.out (Kd.R_typed HO_1000001.out) (by decide))) hkp (fun k_ hk_ hs_ => (hk_.2) hs_)) (fun k_ hk_ => ⟨hk_.1.1.1.1, hk_.1.1.1.2, hk_.1.1.2⟩)); have n2_ := Aside0.mk (Kd.R_mono (ok' := fun k_ => some k_ ≠ (v986 : Value).ownBlock ∧ some k_ ≠ (.slice Ao34 t989.length co34 : Value).ownBlock ∧ some k_ ≠ (.slice Ao55 t1005.length co55 : Value).ownBlock) (Kd.R_keptB ((Kd.R_apart' HO_10.out (Kd.R_typed HO_1000001.out) (by decide))) hkp (fun k_ hk_ hs_ => (hk_.2) hs_)) (fun k_ hk_ => ⟨hk_.1.1.1, hk_.1.1.2.1, hk_.1.1.2.2⟩)); have n3_ := Aside0.mk (Kd.R_reok rfl hy0 (fun k_ e_ => HO_1000001.out.1 k_ e_)); have n4_ := Aside0.mk (blk_kept (by (with_reducible repeat (first | refine blk_drewN ?_ _ | refine blk_drew ?_ | refine blk_alloc ?_ _)); exact BK972.out) hkp (fun hs_ => (fun e_ => (Kd.R_ne HO_1000001.out BK972.out (by decide)) e_) hs_)); have n5_ := Aside0.mk (blk_kept (by (with_reducible repeat (first | refine blk_drewN ?_ _ | refine blk_drew ?_ | refine blk_alloc ?_ _)); exact BK999.out) hkp (fun hs_ => (fun e_ => (Kd.R_ne HO_1000001.out BK999.out (by decide)) e_) hs_)); have n6_ := Aside0.mk (Kd.R_mono (ok' := fun k_ => some k_ ≠ (v986 : Value).ownBlock ∧ some k_ ≠ (.slice Ao34 t989.length co34 : Value).ownBlock ∧ some k_ ≠ (v1001 : Value).ownBlock) (Kd.R_keptB ((Kd.R_apart' HO1007.out (Kd.R_typed HO_1000001.out) (by decide))) hkp (fun k_ hk_ hs_ => (hk_.2) hs_)) (fun k_ hk_ => ⟨hk_.1.1.1, hk_.1.1.2.1, hk_.1.1.2.2⟩)); have n7_ := Aside0.mk (Kd.R_mono (ok' := fun k_ => some k_ ≠ (.slice Ao33 t993.length co33 : Value).ownBlock) (Kd.R_keptB (HO1012.out) hkp (fun k_ hk_ hs_ => (hk_) hs_)) (fun k_ hk_ => hk_.1)); have n8_ := Aside0.mk (hb); clear HO_6; clear HO_8; clear HO_10; clear HO_1000001; clear BK972; clear BK999; clear HO1007; clear HO1012; clear HB; have HO_6 := n0_; have HO_8 := n1_; have HO_10 := n2_; have HO_1000001 := n3_; have BK972 := n4_; have BK999 := n5_; have HO1007 := n6_; have HO1012 := n7_; have HB := n8_; clear n0_ n1_ n2_ n3_ n4_ n5_ n6_ n7_ n8_; (try clear hb); (try clear hkp); (try clear hy0)))
        (try simp only [Act.put, List.setIfInBounds_toArray, List.set_cons_zero, List.set_cons_succ])
        go_cut [82] (fun v82 wc => ∃ (kq : Nat) (x82_52 : Bool), v82 = .bool x82_52 ∧ Aside0 (laws_FnExactApplyOp.j1 kq l0 t985 t988 t1000 x82_52 a1_0 l1_1 a1_2 a1_3 a1_4 = some true) ∧ Aside0 (kq ≤ kj16) ∧ Aside0 (Kd.R k90 90 wc w.heap.size (fun k_ => some k_ ≠ (v1001 : Value).ownBlock) v986 t985) ∧ Aside0 (Kd.R k90 90 wc w.heap.size (fun k_ => some k_ ≠ (v986 : Value).ownBlock) v1001 t1000) ∧ Aside0 (Kd.R (Kd.int .i64) 3 wc w.heap.size (fun _ => True) (.slice Ao33 t993.length co33) t1020) ∧ Aside0 (wc.heap[gb972]? = some (.cells #[.int .i64 a1_0, (.slice A1_1 l1_1.length c1_1), .int .i64 a1_2, .int .i64 a1_3, .int .i64 a1_4] 63 (0, 0))) ∧ Aside0 (wc.heap[gb999]? = some (.cells #[.int .i64 t992, (.slice Ao33 t993.length co33), .int .i64 t996, .int .i64 t997, .int .i64 t998] 67 (0, 0))) ∧ Aside0 (Below w.heap.size w wc))
        case first =>
         have H := HC53.out
         clear HC53
         by_cases c65 : t1019 < 0
         ·rw [if_pos c65] at H
          have c65b0 : decide (t1019 < 0) = true := decide_eq_true c65
          clear c65
          (first | rw [c65b0] | (simp only [i64_w, i32_w]; rw [c65b0]) | skip)
          have H' := Aside0.mk H
          clear H
          go_wp2
          go_meet
          case rel => exact ⟨_, (true), (by first | rfl | (simp; done) | (simp [*]; done)), H', ⟨by have := HJ16.out; first | omega | exact Nat.le_refl _⟩, ⟨by (with_reducible repeat (first | apply Kd.R_alloc | apply Kd.R_drewN | apply Kd.R_drew)); exact Kd.R_mono HO_6.out (fun _ hk => hk.2.1)⟩, ⟨by (with_reducible repeat (first | apply Kd.R_alloc | apply Kd.R_drewN | apply Kd.R_drew)); exact Kd.R_mono HO_10.out (fun _ hk => hk.1)⟩, ⟨by (with_reducible repeat (first | apply Kd.R_alloc | apply Kd.R_drewN | apply Kd.R_drew)); exact Kd.R_mono HO_1000001.out (fun _ hk => trivial)⟩, ⟨by (with_reducible repeat (first | refine blk_drewN ?_ _ | refine blk_drew ?_ | refine blk_alloc ?_ _)); exact BK972.out⟩, ⟨by (with_reducible repeat (first | refine blk_drewN ?_ _ | refine blk_drew ?_ | refine blk_alloc ?_ _)); exact BK999.out⟩, ⟨by repeat (first | (with_reducible first | exact HB.out | apply below_alloc | apply pw_below_drewN | apply below_drew1 | refine below_set ?_ GE972.out | refine below_set ?_ GE999.out) | exact HB.out)⟩⟩
         ·rw [if_neg c65] at H
          have c65b0 : decide (t1019 < 0) = false := decide_eq_false c65
          clear c65
          (first | rw [c65b0] | (simp only [i64_w, i32_w]; rw [c65b0]) | skip)
          replace H := Option.bind_eq_some_iff.mp H
          obtain ⟨t1021, A660, H⟩ := H
          try dsimp only at H
          have A66 := Aside0.mk A660
          clear A660
          by_cases c67 : t1021 = true
          ·subst c67
           have H1 : (laws_FnExactApplyOp.j1 kj16 l0 t985 t988 t1000 (t1003 != t988) a1_0 l1_1 a1_2 a1_3 a1_4) = some true := by rw [if_pos rfl] at H; exact H
           clear H
           have H := H1
           clear H1
           have H' := Aside0.mk H
           clear H
           obtain ⟨Ao68, co68, eo68⟩ := Kd.R_slice HO_10.out
           subst eo68
           obtain ⟨Ao69, co69, eo69⟩ := Kd.R_slice HO_6.out
           subst eo69
           go_wp2_with (first | (go_at_call 23; (with_reducible refine (laws_eqNodeS.calls kj16 _ _ t1000 _ _ t985 true _ ?side1 ?side2 ?side3 ?side4 A66.out).mono ?_); (case side1 => repeat (first | exact (Kd.R_reads' HO_10.out).2.2 | (with_reducible refine Kd.C_alloc ?_ _) | (with_reducible refine Kd.C_drewN ?_ _) | (with_reducible refine Kd.C_drew ?_))); (case side2 => exact (Kd.R_reads' HO_10.out).2.1); (case side3 => repeat (first | exact (Kd.R_reads' HO_6.out).2.2 | (with_reducible refine Kd.C_alloc ?_ _) | (with_reducible refine Kd.C_drewN ?_ _) | (with_reducible refine Kd.C_drew ?_))); (case side4 => exact (Kd.R_reads' HO_6.out).2.1); rintro e w70 ⟨rfl, hb⟩; have n0_ := Aside0.mk (Kd.R_below (by (with_reducible repeat (first | apply Kd.R_alloc | apply Kd.R_drewN | apply Kd.R_drew)); exact HO_6.out) hb); have n1_ := Aside0.mk (Kd.R_below (by (with_reducible repeat (first | apply Kd.R_alloc | apply Kd.R_drewN | apply Kd.R_drew)); exact HO_8.out) hb); have n2_ := Aside0.mk (Kd.R_below (by (with_reducible repeat (first | apply Kd.R_alloc | apply Kd.R_drewN | apply Kd.R_drew)); exact HO_10.out) hb); have n3_ := Aside0.mk (Kd.R_below (by (with_reducible repeat (first | apply Kd.R_alloc | apply Kd.R_drewN | apply Kd.R_drew)); exact HO_1000001.out) hb); have n4_ := Aside0.mk (Kd.R_below (by (with_reducible repeat (first | apply Kd.R_alloc | apply Kd.R_drewN | apply Kd.R_drew)); exact HO1007.out) hb); have n5_ := Aside0.mk (Kd.R_below (by (with_reducible repeat (first | apply Kd.R_alloc | apply Kd.R_drewN | apply Kd.R_drew)); exact HO1012.out) hb); have n6_ := Aside0.mk (blk_below (g := gb972) (o := .cells #[.int .i64 a1_0, .slice A1_1 l1_1.length c1_1, .int .i64 a1_2, .int .i64 a1_3, .int .i64 a1_4] 63 (0, 0)) (by (with_reducible repeat (first | refine blk_drewN ?_ _ | refine blk_drew ?_ | refine blk_alloc ?_ _)); exact BK972.out) hb); have n7_ := Aside0.mk (blk_below (g := gb999) (o := .cells #[.int .i64 t992, .slice Ao33 t993.length co33, .int .i64 t996, .int .i64 t997, .int .i64 t998] 67 (0, 0)) (by (with_reducible repeat (first | refine blk_drewN ?_ _ | refine blk_drew ?_ | refine blk_alloc ?_ _)); exact BK999.out) hb); have n8_ := Aside0.mk (below_step (by repeat (first | (with_reducible first | exact HB.out | apply below_alloc | apply pw_below_drewN | apply below_drew1 | refine below_set ?_ GE972.out | refine below_set ?_ GE999.out) | exact HB.out)) hb); clear HO_6; clear HO_8; clear HO_10; clear HO_1000001; clear HO1007; clear HO1012; clear BK972; clear BK999; clear HB; have HO_6 := n0_; have HO_8 := n1_; have HO_10 := n2_; have HO_1000001 := n3_; have HO1007 := n4_; have HO1012 := n5_; have BK972 := n6_; have BK999 := n7_; have HB := n8_; clear n0_ n1_ n2_ n3_ n4_ n5_ n6_ n7_ n8_; (try clear hb); (try clear hb2); (try clear hk); (try clear hi)))
           go_meet
           case rel => exact ⟨_, ((t1003 != t988)), (by first | rfl | (simp; done) | (simp [*]; done)), H', ⟨by have := HJ16.out; first | omega | exact Nat.le_refl _⟩, ⟨by (with_reducible repeat (first | apply Kd.R_alloc | apply Kd.R_drewN | apply Kd.R_drew)); exact Kd.R_mono HO_6.out (fun _ hk => hk.2.1)⟩, ⟨by (with_reducible repeat (first | apply Kd.R_alloc | apply Kd.R_drewN | apply Kd.R_drew)); exact Kd.R_mono HO_10.out (fun _ hk => hk.1)⟩, ⟨by (with_reducible repeat (first | apply Kd.R_alloc | apply Kd.R_drewN | apply Kd.R_drew)); exact Kd.R_mono HO_1000001.out (fun _ hk => trivial)⟩, ⟨by (with_reducible repeat (first | refine blk_drewN ?_ _ | refine blk_drew ?_ | refine blk_alloc ?_ _)); exact BK972.out⟩, ⟨by (with_reducible repeat (first | refine blk_drewN ?_ _ | refine blk_drew ?_ | refine blk_alloc ?_ _)); exact BK999.out⟩, ⟨by repeat (first | (with_reducible first | exact HB.out | apply below_alloc | apply pw_below_drewN | apply below_drew1 | refine below_set ?_ GE972.out | refine below_set ?_ GE999.out) | exact HB.out)⟩⟩
          ·replace c67 := Bool.eq_false_iff.mpr c67
           subst c67
           have H1 : (laws_FnExactApplyOp.j1 kj16 l0 t985 t988 t1000 true a1_0 l1_1 a1_2 a1_3 a1_4) = some true := by rw [if_neg (show ¬ (false = true) by decide)] at H; exact H
           clear H
           have H := H1
           clear H1
           have H' := Aside0.mk H
           clear H
           obtain ⟨Ao71, co71, eo71⟩ := Kd.R_slice HO_10.out
           subst eo71
           obtain ⟨Ao72, co72, eo72⟩ := Kd.R_slice HO_6.out
           subst eo72
           go_wp2_with (first | (go_at_call 23; (with_reducible refine (laws_eqNodeS.calls kj16 _ _ t1000 _ _ t985 false _ ?side1 ?side2 ?side3 ?side4 A66.out).mono ?_); (case side1 => repeat (first | exact (Kd.R_reads' HO_10.out).2.2 | (with_reducible refine Kd.C_alloc ?_ _) | (with_reducible refine Kd.C_drewN ?_ _) | (with_reducible refine Kd.C_drew ?_))); (case side2 => exact (Kd.R_reads' HO_10.out).2.1); (case side3 => repeat (first | exact (Kd.R_reads' HO_6.out).2.2 | (with_reducible refine Kd.C_alloc ?_ _) | (with_reducible refine Kd.C_drewN ?_ _) | (with_reducible refine Kd.C_drew ?_))); (case side4 => exact (Kd.R_reads' HO_6.out).2.1); rintro e w73 ⟨rfl, hb⟩; have n0_ := Aside0.mk (Kd.R_below (by (with_reducible repeat (first | apply Kd.R_alloc | apply Kd.R_drewN | apply Kd.R_drew)); exact HO_6.out) hb); have n1_ := Aside0.mk (Kd.R_below (by (with_reducible repeat (first | apply Kd.R_alloc | apply Kd.R_drewN | apply Kd.R_drew)); exact HO_8.out) hb); have n2_ := Aside0.mk (Kd.R_below (by (with_reducible repeat (first | apply Kd.R_alloc | apply Kd.R_drewN | apply Kd.R_drew)); exact HO_10.out) hb); have n3_ := Aside0.mk (Kd.R_below (by (with_reducible repeat (first | apply Kd.R_alloc | apply Kd.R_drewN | apply Kd.R_drew)); exact HO_1000001.out) hb); have n4_ := Aside0.mk (Kd.R_below (by (with_reducible repeat (first | apply Kd.R_alloc | apply Kd.R_drewN | apply Kd.R_drew)); exact HO1007.out) hb); have n5_ := Aside0.mk (Kd.R_below (by (with_reducible repeat (first | apply Kd.R_alloc | apply Kd.R_drewN | apply Kd.R_drew)); exact HO1012.out) hb); have n6_ := Aside0.mk (blk_below (g := gb972) (o := .cells #[.int .i64 a1_0, .slice A1_1 l1_1.length c1_1, .int .i64 a1_2, .int .i64 a1_3, .int .i64 a1_4] 63 (0, 0)) (by (with_reducible repeat (first | refine blk_drewN ?_ _ | refine blk_drew ?_ | refine blk_alloc ?_ _)); exact BK972.out) hb); have n7_ := Aside0.mk (blk_below (g := gb999) (o := .cells #[.int .i64 t992, .slice Ao33 t993.length co33, .int .i64 t996, .int .i64 t997, .int .i64 t998] 67 (0, 0)) (by (with_reducible repeat (first | refine blk_drewN ?_ _ | refine blk_drew ?_ | refine blk_alloc ?_ _)); exact BK999.out) hb); have n8_ := Aside0.mk (below_step (by repeat (first | (with_reducible first | exact HB.out | apply below_alloc | apply pw_below_drewN | apply below_drew1 | refine below_set ?_ GE972.out | refine below_set ?_ GE999.out) | exact HB.out)) hb); clear HO_6; clear HO_8; clear HO_10; clear HO_1000001; clear HO1007; clear HO1012; clear BK972; clear BK999; clear HB; have HO_6 := n0_; have HO_8 := n1_; have HO_10 := n2_; have HO_1000001 := n3_; have HO1007 := n4_; have HO1012 := n5_; have BK972 := n6_; have BK999 := n7_; have HB := n8_; clear n0_ n1_ n2_ n3_ n4_ n5_ n6_ n7_ n8_; (try clear hb); (try clear hb2); (try clear hk); (try clear hi)))
           go_meet
           case rel => exact ⟨_, (true), (by first | rfl | (simp; done) | (simp [*]; done)), H', ⟨by have := HJ16.out; first | omega | exact Nat.le_refl _⟩, ⟨by (with_reducible repeat (first | apply Kd.R_alloc | apply Kd.R_drewN | apply Kd.R_drew)); exact Kd.R_mono HO_6.out (fun _ hk => hk.2.1)⟩, ⟨by (with_reducible repeat (first | apply Kd.R_alloc | apply Kd.R_drewN | apply Kd.R_drew)); exact Kd.R_mono HO_10.out (fun _ hk => hk.1)⟩, ⟨by (with_reducible repeat (first | apply Kd.R_alloc | apply Kd.R_drewN | apply Kd.R_drew)); exact Kd.R_mono HO_1000001.out (fun _ hk => trivial)⟩, ⟨by (with_reducible repeat (first | refine blk_drewN ?_ _ | refine blk_drew ?_ | refine blk_alloc ?_ _)); exact BK972.out⟩, ⟨by (with_reducible repeat (first | refine blk_drewN ?_ _ | refine blk_drew ?_ | refine blk_alloc ?_ _)); exact BK999.out⟩, ⟨by repeat (first | (with_reducible first | exact HB.out | apply below_alloc | apply pw_below_drewN | apply below_drew1 | refine below_set ?_ GE972.out | refine below_set ?_ GE999.out) | exact HB.out)⟩⟩
        case rest =>
         clear HC53
         try clear c1
         try clear c2
         try clear p2
         try clear c3
         try clear c4
         try clear c4b0
         try clear c5
         try clear c6
         try clear c7
         try clear c7b0
         try clear c9
         try clear c23
         try clear c25
         try clear c31
         try clear c35
         try clear c37
         try clear c43
         try clear c44
         try clear c45
         try clear c46
         try clear c47
         try clear c48
         try clear c50
         try clear c62
         try clear c65
         try clear c65b0
         try clear c67
         try clear hcz19_0
         try clear hcz19_1
         try clear hcz19_2
         try clear hcz19_3
         try clear hcz19_4
         try clear hcz28_0
         try clear hcz28_1
         try clear hcz28_2
         try clear hcz28_3
         try clear hcz28_4
         try clear hcz32_0
         try clear hcz32_1
         try clear hcz32_2
         try clear hcz32_3
         try clear hcz32_4
         try clear hcz63_0
         try clear hcz63_1
         try clear hcz63_2
         try clear hcz63_3
         try clear hcz63_4
         try clear hcz9_0
         try clear hcz9_1
         try clear hcz9_2
         try clear hcz9_3
         try clear hcz9_4
         try clear hfz19_0
         try clear hfz19_1
         try clear hfz19_2
         try clear hfz19_3
         try clear hfz19_4
         try clear hfz28_0
         try clear hfz28_1
         try clear hfz28_2
         try clear hfz28_3
         try clear hfz28_4
         try clear hfz32_0
         try clear hfz32_1
         try clear hfz32_2
         try clear hfz32_3
         try clear hfz32_4
         try clear hfz63_0
         try clear hfz63_1
         try clear hfz63_2
         try clear hfz63_3
         try clear hfz63_4
         try clear hfz9_0
         try clear hfz9_1
         try clear hfz9_2
         try clear hfz9_3
         try clear hfz9_4
         try clear p2
         obtain ⟨kq, x82_52, rfl, HA, HJ52, HO_6, HO_10, HO_1000001, BK972, BK999, HB⟩ := hcut
         have hl1000001_52 := (Kd.R_reads' HO_1000001.out).1
         rw [hl1000001_52] at HO_1000001
         (try simp only [hl1000001_52])
         (try simp only [hl1000001_52] at BK972)
         (try simp only [hl1000001_52] at BK999)
         (try simp only [hl1000001_52] at HO_6)
         (try simp only [hl1000001_52] at HO_10)
         cases kq with
         | zero => exact absurd HA.out (by simp [laws_FnExactApplyOp.j1])
         | succ kj52 =>
          have H := HA.out
          clear HA
          simp only [laws_FnExactApplyOp.j1] at H
          by_cases c74 : x82_52 = true
          ·subst c74
           have H1 : (some false) = some true := by rw [if_pos rfl] at H; exact H
           clear H
           have H := H1
           clear H1
           exact absurd H (by simp)
          ·replace c74 := Bool.eq_false_iff.mpr c74
           subst c74
           have H1 : ((laws_markNodeS.f kj52 t1000 1).bind fun bt1022 => ((laws_heldNodeS.f kj52 bt1022.2 1).bind fun t1024 => (if t1024 < 0 then (some false) else (if t1024 = bt1022.1 then ((laws_toNodeS.f kj52 l0).bind fun t1025 => ((laws_toOp.f kj52 a1_0 l1_1 a1_2 a1_3 a1_4).bind fun bt1028 => ((impl_ApplyOp.f kj52 t1025 bt1028.1 bt1028.2.1 bt1028.2.2.1 bt1028.2.2.2.1 bt1028.2.2.2.2).bind fun bt1035 => ((laws_eqNodeS.f kj52 bt1035.1 t985).bind fun t1039 => (if t1039 = true then (laws_FnExactApplyOp.j2 kj52 bt1022.2 bt1022.1 (bt1035.2 != t988)) else (laws_FnExactApplyOp.j2 kj52 bt1022.2 bt1022.1 true)))))) else (some false))))) = some true := by rw [if_neg (show ¬ (false = true) by decide)] at H; exact H
           clear H
           have H := H1
           clear H1
           replace H := Option.bind_eq_some_iff.mp H
           obtain ⟨⟨t1022, t1023⟩, A750, H⟩ := H
           try dsimp only at H
           have A75 := Aside0.mk A750
           clear A750
           replace H := Option.bind_eq_some_iff.mp H
           obtain ⟨t1024, A760, H⟩ := H
           try dsimp only at H
           have A76 := Aside0.mk A760
           clear A760
           by_cases c77 : t1024 < 0
           ·rw [if_pos c77] at H
            have c77b0 : decide (t1024 < 0) = true := decide_eq_true c77
            clear c77
            exact absurd H (by simp)
           ·rw [if_neg c77] at H
            have c77b0 : decide (t1024 < 0) = false := decide_eq_false c77
            clear c77
            by_cases c80 : t1024 = t1022
            ·rw [if_pos c80] at H
             have c80b0 : (t1024 == t1022) = true := beq_iff_eq.mpr c80
             have c80b1 : (t1024 != t1022) = false := bne_eq_false_iff_eq.mpr c80
             clear c80
             replace H := Option.bind_eq_some_iff.mp H
             obtain ⟨t1025, A810, H⟩ := H
             try dsimp only at H
             have A81 := Aside0.mk A810
             clear A810
             replace H := Option.bind_eq_some_iff.mp H
             obtain ⟨⟨t1028, t1029, t1032, t1033, t1034⟩, A820, H⟩ := H
             try dsimp only at H
             have A82 := Aside0.mk A820
             clear A820
             replace H := Option.bind_eq_some_iff.mp H
             obtain ⟨⟨t1035, t1038⟩, A830, H⟩ := H
             try dsimp only at H
             have A83 := Aside0.mk A830
             clear A830
             have HC84 := Aside0.mk H
             clear H
             obtain ⟨Ao85, co85, eo85⟩ := Kd.R_slice HO_10.out
             subst eo85
             try go_wp2_with (first | ((with_reducible refine gate_callee (f := 25) rfl ?_); refine goesL_ (some 85) rfl rfl Try.func25 (by kernel_rfl) rfl #[.slice Ao85 t1000.length co85, .int .i64 1] rfl (by (try simp only [List.map_toArray, List.map_cons, List.map_nil]); first | done | rfl | (simp only [List.length_drop, List.length_take]; rfl)) ?_; (with_reducible refine (laws_markNodeS.calls kj52 (fun k_ => some k_ = (.slice Ao85 t1000.length co85 : Value).ownBlock) (.slice Ao85 t1000.length co85) t1000 1 t1022 t1023 w _ ?side1 ?side2 A75.out).mono ?_); (case side1 => repeat (first | (with_reducible first | exact HB.out | apply below_alloc | apply pw_below_drewN | apply below_drew1 | refine below_set ?_ GE972.out | refine below_set ?_ GE999.out) | exact HB.out)); (case side2 => exact Kd.R_tight rfl HO_10.out); rintro e w86 ⟨rfl, hy0, hb, hkp⟩; refine ⟨_, rfl, ?_⟩; have n0_ := Aside0.mk (Kd.R_mono (ok' := fun k_ => some k_ ≠ (.slice Ao85 t1000.length co85 : Value).ownBlock) (Kd.R_keptB (HO_6.out) hkp (fun k_ hk_ hs_ => (hk_) hs_)) (fun k_ hk_ => hk_.1)); have n1_ := Aside0.mk (Kd.R_reok rfl hy0 (fun k_ e_ => HO_10.out.1 k_ e_)); have n2_ := Aside0.mk (Kd.R_mono (ok' := fun k_ => True) (Kd.R_keptB ((Kd.R_apart' HO_1000001.out (Kd.R_typed HO_10.out) (by decide))) hkp (fun k_ hk_ hs_ => (hk_.2) hs_)) (fun k_ hk_ => trivial)); have n3_ := Aside0.mk (blk_kept (by (with_reducible repeat (first | refine blk_drewN ?_ _ | refine blk_drew ?_ | refine blk_alloc ?_ _)); exact BK972.out) hkp (fun hs_ => (fun e_ => (Kd.R_ne HO_10.out BK972.out (by decide)) e_) hs_)); have n4_ := Aside0.mk (blk_kept (by (with_reducible repeat (first | refine blk_drewN ?_ _ | refine blk_drew ?_ | refine blk_alloc ?_ _)); exact BK999.out) hkp (fun hs_ => (fun e_ => (Kd.R_ne HO_10.out BK999.out (by decide)) e_) hs_)); have n5_ := Aside0.mk (hb); clear HO_6; clear HO_10; clear HO_1000001; clear BK972; clear BK999; clear HB; have HO_6 := n0_; have HO_10 := n1_; have HO_1000001 := n2_; have BK972 := n3_; have BK999 := n4_; have HB := n5_; clear n0_ n1_ n2_ n3_ n4_ n5_; (try clear hb); (try clear hkp); (try clear hy0)) | ((with_reducible refine gate_callee (f := 26) rfl ?_); refine goesL_ (some 88) rfl rfl Try.func26 (by kernel_rfl) rfl #[.slice Ao85 t1023.length co85, .int .i64 1] rfl (by (try simp only [List.map_toArray, List.map_cons, List.map_nil]); first | done | (rw [show t1023.length = t1000.length from (Kd.R_reads' HO_10.out).1.symm] <;> rfl) | rfl | (simp only [List.length_drop, List.length_take]; rfl)) ?_; (with_reducible refine (laws_heldNodeS.calls kj52 _ _ t1023 1 t1024 _ ?side1 ?side2 A76.out).mono ?_); (case side1 => repeat (first | exact (Kd.R_reads' HO_10.out).2.2 | (with_reducible refine Kd.C_alloc ?_ _) | (with_reducible refine Kd.C_drewN ?_ _) | (with_reducible refine Kd.C_drew ?_))); (case side2 => rw [show t1023.length = t1000.length from (Kd.R_reads' HO_10.out).1.symm]; exact (Kd.R_reads' HO_10.out).2.1); rintro e w' ⟨rfl, ⟨nd, rfl⟩⟩; refine ⟨_, rfl, ?_⟩))
             (try (rw [drewN_self w86]; generalize hq_ : World.drewN w86 _ = w86; have n0_ : Aside0 (Kd.R k90 90 w86 w.heap.size (fun k_ => some k_ ≠ (v986 : Value).ownBlock) (.slice Ao85 t1000.length co85) t1023) := ⟨by rw [← hq_]; exact (by (with_reducible repeat (first | apply Kd.R_alloc | apply Kd.R_drewN | apply Kd.R_drew)); exact HO_10.out)⟩; have n1_ : Aside0 (Kd.R (Kd.int .i64) 3 w86 w.heap.size (fun _ => True) (.slice Ao33 t1020.length co33) t1020) := ⟨by rw [← hq_]; exact (by (with_reducible repeat (first | apply Kd.R_alloc | apply Kd.R_drewN | apply Kd.R_drew)); exact HO_1000001.out)⟩; have n2_ : Aside0 (Kd.R k90 90 w86 w.heap.size (fun k_ => some k_ ≠ (.slice Ao85 t1000.length co85 : Value).ownBlock) v986 t985) := ⟨by rw [← hq_]; exact (by (with_reducible repeat (first | apply Kd.R_alloc | apply Kd.R_drewN | apply Kd.R_drew)); exact HO_6.out)⟩; have n3_ : Aside0 (w86.heap[gb972]? = some (.cells #[.int .i64 a1_0, .slice A1_1 l1_1.length c1_1, .int .i64 a1_2, .int .i64 a1_3, .int .i64 a1_4] 63 (0, 0))) := ⟨by rw [← hq_]; exact (by (with_reducible repeat (first | refine blk_drewN ?_ _ | refine blk_drew ?_ | refine blk_alloc ?_ _)); exact BK972.out)⟩; have n4_ : Aside0 (w86.heap[gb999]? = some (.cells #[.int .i64 t992, .slice Ao33 t1020.length co33, .int .i64 t996, .int .i64 t997, .int .i64 t998] 67 (0, 0))) := ⟨by rw [← hq_]; exact (by (with_reducible repeat (first | refine blk_drewN ?_ _ | refine blk_drew ?_ | refine blk_alloc ?_ _)); exact BK999.out)⟩; have n5_ : Aside0 (Below w.heap.size w w86) := ⟨by rw [← hq_]; exact (by repeat (first | (with_reducible first | exact HB.out | apply below_alloc | apply pw_below_drewN | apply below_drew1 | refine below_set ?_ GE972.out | refine below_set ?_ GE999.out) | exact HB.out))⟩; clear HO_10 HO_1000001 HO_6 BK972 BK999 HB hq_; have HO_10 := n0_; have HO_1000001 := n1_; have HO_6 := n2_; have BK972 := n3_; have BK999 := n4_; have HB := n5_; clear n0_ n1_ n2_ n3_ n4_ n5_))
             have n0_ := Aside0.mk (Kd.R_drew HO_6.out)
             have n1_ := Aside0.mk (Kd.R_drew HO_10.out)
             have n2_ := Aside0.mk (Kd.R_drew HO_1000001.out)
             have n3_ := Aside0.mk (blk_drew BK972.out)
             have n4_ := Aside0.mk (blk_drew BK999.out)
             have n5_ := Aside0.mk (below_drew1 HB.out)
             clear HO_6
             clear HO_10
             clear HO_1000001
             clear BK972
             clear BK999
             clear HB
             have HO_6 := n0_
             have HO_10 := n1_
             have HO_1000001 := n2_
             have BK972 := n3_
             have BK999 := n4_
             have HB := n5_
             clear n0_ n1_ n2_ n3_ n4_ n5_
             refine start_ (n := 10) (S := fun w' => w'.cell? ⟨gb972, 0, none⟩ = some (.int .i64 a1_0) ∧ w'.cell? ⟨gb972, 1, none⟩ = some (.slice A1_1 l1_1.length c1_1) ∧ w'.cell? ⟨gb972, 2, none⟩ = some (.int .i64 a1_2) ∧ w'.cell? ⟨gb972, 3, none⟩ = some (.int .i64 a1_3) ∧ w'.cell? ⟨gb972, 4, none⟩ = some (.int .i64 a1_4)) (ds := []) (ba_ 10 0) (by kernel_rfl) rfl rfl ⟨(blk_cell BK972.out 0).trans rfl, (blk_cell BK972.out 1).trans rfl, (blk_cell BK972.out 2).trans rfl, (blk_cell BK972.out 3).trans rfl, (blk_cell BK972.out 4).trans rfl⟩ (fun hHeld => ?_); refine with_tabW laws_FnExactApplyOp.tab31 laws_FnExactApplyOp.bits31 (fun HT_ HW_ => ?_)
             generalize w86.drew = w87 at HO_6 HO_10 HO_1000001 BK972 BK999 HB hHeld ⊢
             refine pu_ 0 (some 95) (ba_ 10 1) rfl rfl (any_of HT_.out (by kernel_rfl)) ?_
             refine ta_ 2 (some 97) (ba_ 10 5) rfl rfl (take_ofW HT_.out HW_.out (by kernel_rfl)) hHeld (by rintro w' ⟨s0, s1, s2, s3, s4⟩; go_simp; with_reducible rfl) ?_
             refine one_ (i := 1) (N := some 96) (ba_ 10 7) rfl rfl (one_of HT_.out (by kernel_rfl)) (by decide) (fun K hK => ?_)
             refine goes_ Try.func35 (by kernel_rfl) rfl #[.slice A0 l0.length c0] (by rfl) rfl rfl (by (try simp only [List.map_toArray, List.map_cons, List.map_nil]); first | done | rfl | (simp only [List.length_drop, List.length_take]; rfl)) ?_
             with_reducible refine (laws_toNodeS.calls kj52 _ _ l0 t1025 _ ?side1 ?side2 A81.out).mono ?_
             (case side1 => repeat (first | exact (Kd.C_below HR0.out HB.out) | (with_reducible refine Kd.C_alloc ?_ _) | (with_reducible refine Kd.C_drewN ?_ _) | (with_reducible refine Kd.C_drew ?_)))
             (case side2 => exact HC0.out)
             rintro e w88 ⟨v1026, rfl, ho0, hb⟩
             refine ⟨_, rfl, ?_⟩
             have n0_ := Aside0.mk (Kd.R_elder' (by (with_reducible repeat (first | apply Kd.R_alloc | apply Kd.R_drewN | apply Kd.R_drew)); exact HO_6.out) (Kd.R_base ho0) hb)
             have n1_ := Aside0.mk (Kd.R_elder' (by (with_reducible repeat (first | apply Kd.R_alloc | apply Kd.R_drewN | apply Kd.R_drew)); exact HO_10.out) (Kd.R_base ho0) hb)
             have n2_ := Aside0.mk (Kd.R_below (by (with_reducible repeat (first | apply Kd.R_alloc | apply Kd.R_drewN | apply Kd.R_drew)); exact HO_1000001.out) hb)
             have n3_ := Aside0.mk (Kd.R_lower (Kd.R_new' (Kd.R_new' ho0 (Kd.R_lt (by (with_reducible repeat (first | apply Kd.R_alloc | apply Kd.R_drewN | apply Kd.R_drew)); exact HO_6.out))) (Kd.R_lt (by (with_reducible repeat (first | apply Kd.R_alloc | apply Kd.R_drewN | apply Kd.R_drew)); exact HO_10.out))) (below_size (by repeat (first | (with_reducible first | exact HB.out | apply below_alloc | apply pw_below_drewN | apply below_drew1 | refine below_set ?_ GE972.out | refine below_set ?_ GE999.out) | exact HB.out))))
             have n4_ := Aside0.mk (blk_below (g := gb972) (o := .cells #[.int .i64 a1_0, .slice A1_1 l1_1.length c1_1, .int .i64 a1_2, .int .i64 a1_3, .int .i64 a1_4] 63 (0, 0)) (by (with_reducible repeat (first | refine blk_drewN ?_ _ | refine blk_drew ?_ | refine blk_alloc ?_ _)); exact BK972.out) hb)
             have n5_ := Aside0.mk (blk_below (g := gb999) (o := .cells #[.int .i64 t992, .slice Ao33 t1020.length co33, .int .i64 t996, .int .i64 t997, .int .i64 t998] 67 (0, 0)) (by (with_reducible repeat (first | refine blk_drewN ?_ _ | refine blk_drew ?_ | refine blk_alloc ?_ _)); exact BK999.out) hb)
             have n6_ := Aside0.mk (below_step (by repeat (first | (with_reducible first | exact HB.out | apply below_alloc | apply pw_below_drewN | apply below_drew1 | refine below_set ?_ GE972.out | refine below_set ?_ GE999.out) | exact HB.out)) hb)
             clear HO_6
             clear HO_10
             clear HO_1000001
             clear BK972
             clear BK999
             clear HB
             have HO_6 := n0_
             have HO_10 := n1_
             have HO_1000001 := n2_
             have HO1027 := n3_
             have BK972 := n4_
             have BK999 := n5_
             have HB := n6_
             clear n0_ n1_ n2_ n3_ n4_ n5_ n6_
             (try clear hb)
             (try clear hb2)
             (try clear hk)
             (try clear hi)
             (try clear ho0)
             refine hK.out _ _ ⟨(blk_cell BK972.out 0).trans rfl, (blk_cell BK972.out 1).trans rfl, (blk_cell BK972.out 2).trans rfl, (blk_cell BK972.out 3).trans rfl, (blk_cell BK972.out 4).trans rfl⟩ (fun hHeld => ?_)
             clear hK K
             refine norm_ (a' := ?_) ?_ ?_
             rotate_left
             ·show Act.put _ (some 96) _ = _
              simp only [Act.put, List.setIfInBounds_toArray, List.set_cons_zero, List.set_cons_succ, i64_w, i32_w]
              rfl
             refine one_ (i := 3) (N := some 98) (ba_ 10 15) rfl rfl (one_of HT_.out (by kernel_rfl)) (by decide) (fun K hK => ?_)
             refine goes_ Try.func45 (by kernel_rfl) rfl #[.agg #[.int .i64 a1_0, .slice A1_1 l1_1.length c1_1, .int .i64 a1_2, .int .i64 a1_3, .int .i64 a1_4]] (by rfl) rfl rfl (by (try simp only [List.map_toArray, List.map_cons, List.map_nil]); first | done | rfl | (simp only [List.length_drop, List.length_take]; rfl)) ?_
             with_reducible refine (laws_toOp.calls kj52 a1_0 _ _ l1_1 a1_2 a1_3 a1_4 t1028 t1029 t1032 t1033 t1034 _ ?side1 ?side2 A82.out).mono ?_
             (case side1 => repeat (first | exact (Kd.C_below HR1_1.out HB.out) | (with_reducible refine Kd.C_alloc ?_ _) | (with_reducible refine Kd.C_drewN ?_ _) | (with_reducible refine Kd.C_drew ?_)))
             (case side2 => exact HC1_1.out)
             rintro e w89 ⟨v1030, rfl, ho0, hb⟩
             refine ⟨_, rfl, ?_⟩
             have n0_ := Aside0.mk (Kd.R_below (by (with_reducible repeat (first | apply Kd.R_alloc | apply Kd.R_drewN | apply Kd.R_drew)); exact HO_6.out) hb)
             have n1_ := Aside0.mk (Kd.R_below (by (with_reducible repeat (first | apply Kd.R_alloc | apply Kd.R_drewN | apply Kd.R_drew)); exact HO_10.out) hb)
             have n2_ := Aside0.mk (Kd.R_elder' (by (with_reducible repeat (first | apply Kd.R_alloc | apply Kd.R_drewN | apply Kd.R_drew)); exact HO_1000001.out) (Kd.R_base ho0) hb)
             have n3_ := Aside0.mk (Kd.R_below (by (with_reducible repeat (first | apply Kd.R_alloc | apply Kd.R_drewN | apply Kd.R_drew)); exact HO1027.out) hb)
             have n4_ := Aside0.mk (Kd.R_lower (Kd.R_new' ho0 (Kd.R_lt (by (with_reducible repeat (first | apply Kd.R_alloc | apply Kd.R_drewN | apply Kd.R_drew)); exact HO_1000001.out))) (below_size (by repeat (first | (with_reducible first | exact HB.out | apply below_alloc | apply pw_below_drewN | apply below_drew1 | refine below_set ?_ GE972.out | refine below_set ?_ GE999.out) | exact HB.out))))
             have n5_ := Aside0.mk (blk_below (g := gb972) (o := .cells #[.int .i64 a1_0, .slice A1_1 l1_1.length c1_1, .int .i64 a1_2, .int .i64 a1_3, .int .i64 a1_4] 63 (0, 0)) (by (with_reducible repeat (first | refine blk_drewN ?_ _ | refine blk_drew ?_ | refine blk_alloc ?_ _)); exact BK972.out) hb)
             have n6_ := Aside0.mk (blk_below (g := gb999) (o := .cells #[.int .i64 t992, .slice Ao33 t1020.length co33, .int .i64 t996, .int .i64 t997, .int .i64 t998] 67 (0, 0)) (by (with_reducible repeat (first | refine blk_drewN ?_ _ | refine blk_drew ?_ | refine blk_alloc ?_ _)); exact BK999.out) hb)
             have n7_ := Aside0.mk (below_step (by repeat (first | (with_reducible first | exact HB.out | apply below_alloc | apply pw_below_drewN | apply below_drew1 | refine below_set ?_ GE972.out | refine below_set ?_ GE999.out) | exact HB.out)) hb)
             clear HO_6
             clear HO_10
             clear HO_1000001
             clear HO1027
             clear BK972
             clear BK999
             clear HB
             have HO_6 := n0_
             have HO_10 := n1_
             have HO_1000001 := n2_
             have HO1027 := n3_
             have HO1031 := n4_
             have BK972 := n5_
             have BK999 := n6_
             have HB := n7_
             clear n0_ n1_ n2_ n3_ n4_ n5_ n6_ n7_
             (try clear hb)
             (try clear hb2)
             (try clear hk)
             (try clear hi)
             (try clear ho0)
             obtain ⟨Ao90, co90, eo90⟩ := Kd.R_slice HO1027.out
             (first | subst eo90 | (injection eo90 with f1_ f2_ f3_; have f4_ := f1_.symm; have f5_ := f3_.symm; clear f1_ f2_ f3_; subst f4_; subst f5_))
             obtain ⟨Ao91, co91, eo91⟩ := Kd.R_slice HO1031.out
             (first | subst eo91 | (injection eo91 with f1_ f2_ f3_; have f4_ := f1_.symm; have f5_ := f3_.symm; clear f1_ f2_ f3_; subst f4_; subst f5_))
             refine hK.out _ _ ⟨(blk_cell BK972.out 0).trans rfl, (blk_cell BK972.out 1).trans rfl, (blk_cell BK972.out 2).trans rfl, (blk_cell BK972.out 3).trans rfl, (blk_cell BK972.out 4).trans rfl⟩ (fun hHeld => ?_)
             clear hK K
             refine norm_ (a' := ?_) ?_ ?_
             rotate_left
             ·show Act.put _ (some 98) _ = _
              simp only [Act.put, List.setIfInBounds_toArray, List.set_cons_zero, List.set_cons_succ, i64_w, i32_w]
              rfl
             refine one_ (i := 4) (N := some 99) (ba_ 10 31) rfl rfl (one_of HT_.out (by kernel_rfl)) (by decide) (fun K hK => ?_)
             refine goes_ Try.func46 (by kernel_rfl) rfl #[.slice Ao90 t1025.length co90, .agg #[.int .i64 t1028, .slice Ao91 t1029.length co91, .int .i64 t1032, .int .i64 t1033, .int .i64 t1034]] (by rfl) rfl rfl (by (try simp only [List.map_toArray, List.map_cons, List.map_nil]); first | done | rfl | (simp only [List.length_drop, List.length_take]; rfl)) ?_
             with_reducible refine (impl_ApplyOp.calls kj52 _ _ t1025 t1028 _ _ t1029 t1032 t1033 t1034 t1035 t1038 _ ?side1 ?side2 ?side3 ?side4 A83.out).mono ?_
             (case side1 => repeat (first | exact (Kd.R_reads' HO1027.out).2.2 | (with_reducible refine Kd.C_alloc ?_ _) | (with_reducible refine Kd.C_drewN ?_ _) | (with_reducible refine Kd.C_drew ?_)))
             (case side2 => exact (Kd.R_reads' HO1027.out).2.1)
             (case side3 => repeat (first | exact (Kd.R_reads' HO1031.out).2.2 | (with_reducible refine Kd.C_alloc ?_ _) | (with_reducible refine Kd.C_drewN ?_ _) | (with_reducible refine Kd.C_drew ?_)))
             (case side4 => exact (Kd.R_reads' HO1031.out).2.1)
             rintro e w92 ⟨v1036, rfl, ho0, hb⟩
             refine ⟨_, rfl, ?_⟩
             have n0_ := Aside0.mk (Kd.R_elder' (by (with_reducible repeat (first | apply Kd.R_alloc | apply Kd.R_drewN | apply Kd.R_drew)); exact HO_6.out) (Kd.R_base ho0) hb)
             have n1_ := Aside0.mk (Kd.R_elder' (by (with_reducible repeat (first | apply Kd.R_alloc | apply Kd.R_drewN | apply Kd.R_drew)); exact HO_10.out) (Kd.R_base ho0) hb)
             have n2_ := Aside0.mk (Kd.R_below (by (with_reducible repeat (first | apply Kd.R_alloc | apply Kd.R_drewN | apply Kd.R_drew)); exact HO_1000001.out) hb)
             have n3_ := Aside0.mk (Kd.R_elder' (by (with_reducible repeat (first | apply Kd.R_alloc | apply Kd.R_drewN | apply Kd.R_drew)); exact HO1027.out) (Kd.R_base ho0) hb)
             have n4_ := Aside0.mk (Kd.R_below (by (with_reducible repeat (first | apply Kd.R_alloc | apply Kd.R_drewN | apply Kd.R_drew)); exact HO1031.out) hb)
             have n5_ := Aside0.mk (Kd.R_lower (Kd.R_new' (Kd.R_new' (Kd.R_new' ho0 (Kd.R_lt (by (with_reducible repeat (first | apply Kd.R_alloc | apply Kd.R_drewN | apply Kd.R_drew)); exact HO_6.out))) (Kd.R_lt (by (with_reducible repeat (first | apply Kd.R_alloc | apply Kd.R_drewN | apply Kd.R_drew)); exact HO_10.out))) (Kd.R_lt (by (with_reducible repeat (first | apply Kd.R_alloc | apply Kd.R_drewN | apply Kd.R_drew)); exact HO1027.out))) (below_size (by repeat (first | (with_reducible first | exact HB.out | apply below_alloc | apply pw_below_drewN | apply below_drew1 | refine below_set ?_ GE972.out | refine below_set ?_ GE999.out) | exact HB.out))))
             have n6_ := Aside0.mk (blk_below (g := gb972) (o := .cells #[.int .i64 a1_0, .slice A1_1 l1_1.length c1_1, .int .i64 a1_2, .int .i64 a1_3, .int .i64 a1_4] 63 (0, 0)) (by (with_reducible repeat (first | refine blk_drewN ?_ _ | refine blk_drew ?_ | refine blk_alloc ?_ _)); exact BK972.out) hb)
             have n7_ := Aside0.mk (blk_below (g := gb999) (o := .cells #[.int .i64 t992, .slice Ao33 t1020.length co33, .int .i64 t996, .int .i64 t997, .int .i64 t998] 67 (0, 0)) (by (with_reducible repeat (first | refine blk_drewN ?_ _ | refine blk_drew ?_ | refine blk_alloc ?_ _)); exact BK999.out) hb)
             have n8_ := Aside0.mk (below_step (by repeat (first | (with_reducible first | exact HB.out | apply below_alloc | apply pw_below_drewN | apply below_drew1 | refine below_set ?_ GE972.out | refine below_set ?_ GE999.out) | exact HB.out)) hb)
             clear HO_6
             clear HO_10
             clear HO_1000001
             clear HO1027
             clear HO1031
             clear BK972
             clear BK999
             clear HB
             have HO_6 := n0_
             have HO_10 := n1_
             have HO_1000001 := n2_
             have HO1027 := n3_
             have HO1031 := n4_
             have HO1037 := n5_
             have BK972 := n6_
             have BK999 := n7_
             have HB := n8_
             clear n0_ n1_ n2_ n3_ n4_ n5_ n6_ n7_ n8_
             (try clear hb)
             (try clear hb2)
             (try clear hk)
             (try clear hi)
             (try clear ho0)
             refine hK.out _ _ ⟨(blk_cell BK972.out 0).trans rfl, (blk_cell BK972.out 1).trans rfl, (blk_cell BK972.out 2).trans rfl, (blk_cell BK972.out 3).trans rfl, (blk_cell BK972.out 4).trans rfl⟩ (fun hHeld => ?_)
             clear hK K
             refine norm_ (a' := ?_) ?_ ?_
             rotate_left
             ·show Act.put _ (some 99) _ = _
              simp only [Act.put, List.setIfInBounds_toArray, List.set_cons_zero, List.set_cons_succ, i64_w, i32_w]
              rfl
             refine pu_ 5 (some 94) (ba_ 10 63) rfl rfl (any_of HT_.out (by kernel_rfl)) ?_
             refine pu_ 6 (some 100) (ba_ 10 127) rfl rfl (any_of HT_.out (by kernel_rfl)) ?_
             refine pu_ 7 (some 101) (ba_ 10 255) rfl rfl (any_of HT_.out (by kernel_rfl)) ?_
             refine pu_ 8 (some 15) (ba_ 10 511) rfl rfl (any_of HT_.out (by kernel_rfl)) ?_
             refine pu_ 9 (some 16) (ba_ 10 1023) rfl rfl (any_of HT_.out (by kernel_rfl)) ?_
             refine done_ (done_of HT_.out (by kernel_rfl)) ?_
             go_upto_region 32 with (fail)
             go_cut [110] (fun v110 wc => ∃ (kq : Nat) (x110_83 : Bool), v110 = .bool x110_83 ∧ Aside0 (laws_FnExactApplyOp.j2 kq t1023 t1022 x110_83 = some true) ∧ Aside0 (kq ≤ kj52) ∧ Aside0 (Kd.R k90 90 wc w.heap.size (fun _ => True) (.slice Ao85 t1000.length co85) t1023) ∧ Aside0 (Kd.R (Kd.int .i64) 3 wc w.heap.size (fun _ => True) (.slice Ao33 t1020.length co33) t1020) ∧ Aside0 (wc.heap[gb972]? = some (.cells #[.int .i64 a1_0, (.slice A1_1 l1_1.length c1_1), .int .i64 a1_2, .int .i64 a1_3, .int .i64 a1_4] 63 (0, 0))) ∧ Aside0 (wc.heap[gb999]? = some (.cells #[.int .i64 t992, (.slice Ao33 t1020.length co33), .int .i64 t996, .int .i64 t997, .int .i64 t998] 67 (0, 0))) ∧ Aside0 (Below w.heap.size w wc))
             case first =>
              have H := HC84.out
              clear HC84
              replace H := Option.bind_eq_some_iff.mp H
              obtain ⟨t1039, A930, H⟩ := H
              try dsimp only at H
              have A93 := Aside0.mk A930
              clear A930
              by_cases c94 : t1039 = true
              ·subst c94
               have H1 : (laws_FnExactApplyOp.j2 kj52 t1023 t1022 (t1038 != t988)) = some true := by rw [if_pos rfl] at H; exact H
               clear H
               have H := H1
               clear H1
               have H' := Aside0.mk H
               clear H
               obtain ⟨Ao95, co95, eo95⟩ := Kd.R_slice HO1037.out
               subst eo95
               obtain ⟨Ao96, co96, eo96⟩ := Kd.R_slice HO_6.out
               subst eo96
               go_wp2_with (first | ((with_reducible refine gate_callee (f := 23) rfl ?_); refine goesL_ (some 104) rfl rfl Try.func23 (by kernel_rfl) rfl #[.slice Ao95 t1035.length co95, .slice Ao96 t985.length co96] rfl (by (try simp only [List.map_toArray, List.map_cons, List.map_nil]); first | done | rfl | (simp only [List.length_drop, List.length_take]; rfl)) ?_; (with_reducible refine (laws_eqNodeS.calls kj52 _ _ t1035 _ _ t985 true _ ?side1 ?side2 ?side3 ?side4 A93.out).mono ?_); (case side1 => repeat (first | exact (Kd.R_reads' HO1037.out).2.2 | (with_reducible refine Kd.C_alloc ?_ _) | (with_reducible refine Kd.C_drewN ?_ _) | (with_reducible refine Kd.C_drew ?_))); (case side2 => exact (Kd.R_reads' HO1037.out).2.1); (case side3 => repeat (first | exact (Kd.R_reads' HO_6.out).2.2 | (with_reducible refine Kd.C_alloc ?_ _) | (with_reducible refine Kd.C_drewN ?_ _) | (with_reducible refine Kd.C_drew ?_))); (case side4 => exact (Kd.R_reads' HO_6.out).2.1); rintro e w97 ⟨rfl, hb⟩; refine ⟨_, rfl, ?_⟩; have n0_ := Aside0.mk (Kd.R_below (by (with_reducible repeat (first | apply Kd.R_alloc | apply Kd.R_drewN | apply Kd.R_drew)); exact HO_6.out) hb); have n1_ := Aside0.mk (Kd.R_below (by (with_reducible repeat (first | apply Kd.R_alloc | apply Kd.R_drewN | apply Kd.R_drew)); exact HO_10.out) hb); have n2_ := Aside0.mk (Kd.R_below (by (with_reducible repeat (first | apply Kd.R_alloc | apply Kd.R_drewN | apply Kd.R_drew)); exact HO_1000001.out) hb); have n3_ := Aside0.mk (Kd.R_below (by (with_reducible repeat (first | apply Kd.R_alloc | apply Kd.R_drewN | apply Kd.R_drew)); exact HO1027.out) hb); have n4_ := Aside0.mk (Kd.R_below (by (with_reducible repeat (first | apply Kd.R_alloc | apply Kd.R_drewN | apply Kd.R_drew)); exact HO1031.out) hb); have n5_ := Aside0.mk (Kd.R_below (by (with_reducible repeat (first | apply Kd.R_alloc | apply Kd.R_drewN | apply Kd.R_drew)); exact HO1037.out) hb); have n6_ := Aside0.mk (blk_below (g := gb972) (o := .cells #[.int .i64 a1_0, .slice A1_1 l1_1.length c1_1, .int .i64 a1_2, .int .i64 a1_3, .int .i64 a1_4] 63 (0, 0)) (by (with_reducible repeat (first | refine blk_drewN ?_ _ | refine blk_drew ?_ | refine blk_alloc ?_ _)); exact BK972.out) hb); have n7_ := Aside0.mk (blk_below (g := gb999) (o := .cells #[.int .i64 t992, .slice Ao33 t1020.length co33, .int .i64 t996, .int .i64 t997, .int .i64 t998] 67 (0, 0)) (by (with_reducible repeat (first | refine blk_drewN ?_ _ | refine blk_drew ?_ | refine blk_alloc ?_ _)); exact BK999.out) hb); have n8_ := Aside0.mk (below_step (by repeat (first | (with_reducible first | exact HB.out | apply below_alloc | apply pw_below_drewN | apply below_drew1 | refine below_set ?_ GE972.out | refine below_set ?_ GE999.out) | exact HB.out)) hb); clear HO_6; clear HO_10; clear HO_1000001; clear HO1027; clear HO1031; clear HO1037; clear BK972; clear BK999; clear HB; have HO_6 := n0_; have HO_10 := n1_; have HO_1000001 := n2_; have HO1027 := n3_; have HO1031 := n4_; have HO1037 := n5_; have BK972 := n6_; have BK999 := n7_; have HB := n8_; clear n0_ n1_ n2_ n3_ n4_ n5_ n6_ n7_ n8_; (try clear hb); (try clear hb2); (try clear hk); (try clear hi)))
               go_meet
               case rel => exact ⟨_, ((t1038 != t988)), (by first | rfl | (simp; done) | (simp [*]; done)), H', ⟨by have := HJ16.out; have := HJ52.out; first | omega | exact Nat.le_refl _⟩, ⟨by (try simp only [hl1000001_52]); (with_reducible repeat (first | apply Kd.R_alloc | apply Kd.R_drewN | apply Kd.R_drew)); exact Kd.R_mono HO_10.out (fun _ hk => trivial)⟩, ⟨by (try simp only [hl1000001_52]); (with_reducible repeat (first | apply Kd.R_alloc | apply Kd.R_drewN | apply Kd.R_drew)); exact Kd.R_mono HO_1000001.out (fun _ hk => trivial)⟩, ⟨by (try simp only [hl1000001_52]); (with_reducible repeat (first | refine blk_drewN ?_ _ | refine blk_drew ?_ | refine blk_alloc ?_ _)); exact BK972.out⟩, ⟨by (try simp only [hl1000001_52]); (with_reducible repeat (first | refine blk_drewN ?_ _ | refine blk_drew ?_ | refine blk_alloc ?_ _)); exact BK999.out⟩, ⟨by repeat (first | (with_reducible first | exact HB.out | apply below_alloc | apply pw_below_drewN | apply below_drew1 | refine below_set ?_ GE972.out | refine below_set ?_ GE999.out) | exact HB.out)⟩⟩
              ·replace c94 := Bool.eq_false_iff.mpr c94
               subst c94
               have H1 : (laws_FnExactApplyOp.j2 kj52 t1023 t1022 true) = some true := by rw [if_neg (show ¬ (false = true) by decide)] at H; exact H
               clear H
               have H := H1
               clear H1
               have H' := Aside0.mk H
               clear H
               obtain ⟨Ao98, co98, eo98⟩ := Kd.R_slice HO1037.out
               subst eo98
               obtain ⟨Ao99, co99, eo99⟩ := Kd.R_slice HO_6.out
               subst eo99
               go_wp2_with (first | ((with_reducible refine gate_callee (f := 23) rfl ?_); refine goesL_ (some 104) rfl rfl Try.func23 (by kernel_rfl) rfl #[.slice Ao98 t1035.length co98, .slice Ao99 t985.length co99] rfl (by (try simp only [List.map_toArray, List.map_cons, List.map_nil]); first | done | rfl | (simp only [List.length_drop, List.length_take]; rfl)) ?_; (with_reducible refine (laws_eqNodeS.calls kj52 _ _ t1035 _ _ t985 false _ ?side1 ?side2 ?side3 ?side4 A93.out).mono ?_); (case side1 => repeat (first | exact (Kd.R_reads' HO1037.out).2.2 | (with_reducible refine Kd.C_alloc ?_ _) | (with_reducible refine Kd.C_drewN ?_ _) | (with_reducible refine Kd.C_drew ?_))); (case side2 => exact (Kd.R_reads' HO1037.out).2.1); (case side3 => repeat (first | exact (Kd.R_reads' HO_6.out).2.2 | (with_reducible refine Kd.C_alloc ?_ _) | (with_reducible refine Kd.C_drewN ?_ _) | (with_reducible refine Kd.C_drew ?_))); (case side4 => exact (Kd.R_reads' HO_6.out).2.1); rintro e w100 ⟨rfl, hb⟩; refine ⟨_, rfl, ?_⟩; have n0_ := Aside0.mk (Kd.R_below (by (with_reducible repeat (first | apply Kd.R_alloc | apply Kd.R_drewN | apply Kd.R_drew)); exact HO_6.out) hb); have n1_ := Aside0.mk (Kd.R_below (by (with_reducible repeat (first | apply Kd.R_alloc | apply Kd.R_drewN | apply Kd.R_drew)); exact HO_10.out) hb); have n2_ := Aside0.mk (Kd.R_below (by (with_reducible repeat (first | apply Kd.R_alloc | apply Kd.R_drewN | apply Kd.R_drew)); exact HO_1000001.out) hb); have n3_ := Aside0.mk (Kd.R_below (by (with_reducible repeat (first | apply Kd.R_alloc | apply Kd.R_drewN | apply Kd.R_drew)); exact HO1027.out) hb); have n4_ := Aside0.mk (Kd.R_below (by (with_reducible repeat (first | apply Kd.R_alloc | apply Kd.R_drewN | apply Kd.R_drew)); exact HO1031.out) hb); have n5_ := Aside0.mk (Kd.R_below (by (with_reducible repeat (first | apply Kd.R_alloc | apply Kd.R_drewN | apply Kd.R_drew)); exact HO1037.out) hb); have n6_ := Aside0.mk (blk_below (g := gb972) (o := .cells #[.int .i64 a1_0, .slice A1_1 l1_1.length c1_1, .int .i64 a1_2, .int .i64 a1_3, .int .i64 a1_4] 63 (0, 0)) (by (with_reducible repeat (first | refine blk_drewN ?_ _ | refine blk_drew ?_ | refine blk_alloc ?_ _)); exact BK972.out) hb); have n7_ := Aside0.mk (blk_below (g := gb999) (o := .cells #[.int .i64 t992, .slice Ao33 t1020.length co33, .int .i64 t996, .int .i64 t997, .int .i64 t998] 67 (0, 0)) (by (with_reducible repeat (first | refine blk_drewN ?_ _ | refine blk_drew ?_ | refine blk_alloc ?_ _)); exact BK999.out) hb); have n8_ := Aside0.mk (below_step (by repeat (first | (with_reducible first | exact HB.out | apply below_alloc | apply pw_below_drewN | apply below_drew1 | refine below_set ?_ GE972.out | refine below_set ?_ GE999.out) | exact HB.out)) hb); clear HO_6; clear HO_10; clear HO_1000001; clear HO1027; clear HO1031; clear HO1037; clear BK972; clear BK999; clear HB; have HO_6 := n0_; have HO_10 := n1_; have HO_1000001 := n2_; have HO1027 := n3_; have HO1031 := n4_; have HO1037 := n5_; have BK972 := n6_; have BK999 := n7_; have HB := n8_; clear n0_ n1_ n2_ n3_ n4_ n5_ n6_ n7_ n8_; (try clear hb); (try clear hb2); (try clear hk); (try clear hi)))
               go_meet
               case rel => exact ⟨_, (true), (by first | rfl | (simp; done) | (simp [*]; done)), H', ⟨by have := HJ16.out; have := HJ52.out; first | omega | exact Nat.le_refl _⟩, ⟨by (try simp only [hl1000001_52]); (with_reducible repeat (first | apply Kd.R_alloc | apply Kd.R_drewN | apply Kd.R_drew)); exact Kd.R_mono HO_10.out (fun _ hk => trivial)⟩, ⟨by (try simp only [hl1000001_52]); (with_reducible repeat (first | apply Kd.R_alloc | apply Kd.R_drewN | apply Kd.R_drew)); exact Kd.R_mono HO_1000001.out (fun _ hk => trivial)⟩, ⟨by (try simp only [hl1000001_52]); (with_reducible repeat (first | refine blk_drewN ?_ _ | refine blk_drew ?_ | refine blk_alloc ?_ _)); exact BK972.out⟩, ⟨by (try simp only [hl1000001_52]); (with_reducible repeat (first | refine blk_drewN ?_ _ | refine blk_drew ?_ | refine blk_alloc ?_ _)); exact BK999.out⟩, ⟨by repeat (first | (with_reducible first | exact HB.out | apply below_alloc | apply pw_below_drewN | apply below_drew1 | refine below_set ?_ GE972.out | refine below_set ?_ GE999.out) | exact HB.out)⟩⟩
             case rest =>
              clear HC84
              try clear c1
              try clear c2
              try clear p2
              try clear c3
              try clear c4
              try clear c4b0
              try clear c5
              try clear c6
              try clear c7
              try clear c7b0
              try clear c8
              try clear c9
              try clear c23
              try clear c25
              try clear c26
              try clear c31
              try clear c35
              try clear c37
              try clear c43
              try clear c44
              try clear c45
              try clear c46
              try clear c47
              try clear c48
              try clear c50
              try clear c62
              try clear c65
              try clear c65b0
              try clear c67
              try clear c74
              try clear c77
              try clear c77b0
              try clear c80
              try clear c80b0
              try clear c80b1
              try clear c94
              try clear hcz19_0
              try clear hcz19_1
              try clear hcz19_2
              try clear hcz19_3
              try clear hcz19_4
              try clear hcz28_0
              try clear hcz28_1
              try clear hcz28_2
              try clear hcz28_3
              try clear hcz28_4
              try clear hcz32_0
              try clear hcz32_1
              try clear hcz32_2
              try clear hcz32_3
              try clear hcz32_4
              try clear hcz63_0
              try clear hcz63_1
              try clear hcz63_2
              try clear hcz63_3
              try clear hcz63_4
              try clear hcz9_0
              try clear hcz9_1
              try clear hcz9_2
              try clear hcz9_3
              try clear hcz9_4
              try clear hfz19_0
              try clear hfz19_1
              try clear hfz19_2
              try clear hfz19_3
              try clear hfz19_4
              try clear hfz28_0
              try clear hfz28_1
              try clear hfz28_2
              try clear hfz28_3
              try clear hfz28_4
              try clear hfz32_0
              try clear hfz32_1
              try clear hfz32_2
              try clear hfz32_3
              try clear hfz32_4
              try clear hfz63_0
              try clear hfz63_1
              try clear hfz63_2
              try clear hfz63_3
              try clear hfz63_4
              try clear hfz9_0
              try clear hfz9_1
              try clear hfz9_2
              try clear hfz9_3
              try clear hfz9_4
              try clear p2
              obtain ⟨kq, x110_83, rfl, HA, HJ83, HO_10, HO_1000001, BK972, BK999, HB⟩ := hcut
              have hl10_83 := (Kd.R_reads' HO_10.out).1
              rw [hl10_83] at HO_10
              (try simp only [hl10_83])
              (try simp only [hl10_83] at BK972)
              (try simp only [hl10_83] at BK999)
              (try simp only [hl10_83] at HO_1000001)
              cases kq with
              | zero => exact absurd HA.out (by simp [laws_FnExactApplyOp.j2])
              | succ kj83 =>
               have H := HA.out
               clear HA
               simp only [laws_FnExactApplyOp.j2] at H
               by_cases c101 : x110_83 = true
               ·subst c101
                have H1 : (some false) = some true := by rw [if_pos rfl] at H; exact H
                clear H
                have H := H1
                clear H1
                exact absurd H (by simp)
               ·replace c101 := Bool.eq_false_iff.mpr c101
                subst c101
                have H1 : ((laws_heldNodeS.f kj83 t1023 1).bind fun t1040 => (if t1040 < 0 then (some false) else (if t1040 = t1022 then (some true) else (some false)))) = some true := by rw [if_neg (show ¬ (false = true) by decide)] at H; exact H
                clear H
                have H := H1
                clear H1
                replace H := Option.bind_eq_some_iff.mp H
                obtain ⟨t1040, A1020, H⟩ := H
                replace H : (if t1040 < 0 then (some false) else (if t1040 = t1022 then (some true) else (some false))) = some true := H
                have A102 := Aside0.mk A1020
                clear A1020
                by_cases c103 : t1040 < 0
                ·rw [if_pos c103] at H
                 have c103b0 : decide (t1040 < 0) = true := decide_eq_true c103
                 clear c103
                 exact absurd H (by simp)
                ·rw [if_neg c103] at H
                 have c103b0 : decide (t1040 < 0) = false := decide_eq_false c103
                 clear c103
                 by_cases c104 : t1040 = t1022
                 ·rw [if_pos c104] at H
                  have c104b0 : (t1040 == t1022) = true := beq_iff_eq.mpr c104
                  have c104b1 : (t1040 != t1022) = false := bne_eq_false_iff_eq.mpr c104
                  clear c104
                  clear H
                  go_wp2_with (first | ((with_reducible refine gate_callee (f := 26) rfl ?_); refine goesL_ (some 113) rfl rfl Try.func26 (by kernel_rfl) rfl #[.slice Ao85 t1023.length co85, .int .i64 1] rfl (by (try simp only [List.map_toArray, List.map_cons, List.map_nil]); first | done | rfl | (simp only [List.length_drop, List.length_take]; rfl)) ?_; (with_reducible refine (laws_heldNodeS.calls kj83 _ _ t1023 1 t1040 _ ?side1 ?side2 A102.out).mono ?_); (case side1 => repeat (first | exact (Kd.R_reads' HO_10.out).2.2 | (with_reducible refine Kd.C_alloc ?_ _) | (with_reducible refine Kd.C_drewN ?_ _) | (with_reducible refine Kd.C_drew ?_))); (case side2 => exact (Kd.R_reads' HO_10.out).2.1); rintro e w' ⟨rfl, ⟨nd, rfl⟩⟩; refine ⟨_, rfl, ?_⟩))
                  go_ret
                  exact ⟨by first | rfl | (simp [errW_none, errW_some] <;> rfl) | (simp [*, errW_none, errW_some] <;> rfl), by repeat (first | (with_reducible first | exact HB.out | apply below_alloc | apply pw_below_drewN | apply below_drew1 | refine below_set ?_ GE972.out | refine below_set ?_ GE999.out) | exact HB.out)⟩
                 ·rw [if_neg c104] at H
                  have c104b0 : (t1040 == t1022) = false := beq_eq_false_iff_ne.mpr c104
                  have c104b1 : (t1040 != t1022) = true := bne_iff_ne.mpr c104
                  exact absurd H (by simp)
            ·rw [if_neg c80] at H
             have c80b0 : (t1024 == t1022) = false := beq_eq_false_iff_ne.mpr c80
             have c80b1 : (t1024 != t1022) = true := bne_iff_ne.mpr c80
             exact absurd H (by simp)
       ·replace c50 := Bool.eq_false_iff.mpr c50
        subst c50
        have H1 : (some false) = some true := by rw [if_neg (show ¬ (false = true) by decide)] at H; exact H
        clear H
        have H := H1
        clear H1
        exact absurd H (by simp)
      ·replace c47 := Bool.eq_false_iff.mpr c47
       subst c47
       have H1 : (some false) = some true := by rw [if_neg (show ¬ (false = true) by decide)] at H; exact H
       clear H
       have H := H1
       clear H1
       exact absurd H (by simp)
end Go.Proofs.Ytbifdckfglejkaa.X
