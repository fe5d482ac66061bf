/- Part 11 of the proof of FnExactScriptCost: what it needs. -/
import Derived.Shelf.Spec.SlicesInsert
import Derived.Lib.AppendZerosOnto
import Derived.Laws.NewBlocks
import Derived.Test.YtbifdckfglejkaaKEScriptCost3
import Derived.Test.YtbifdckfglejkaaKEScriptCost5
import Derived.Test.YtbifdckfglejkaaKEScriptCost8
import Derived.Test.YtbifdckfglejkaaKEScriptCost9
import Derived.Test.YtbifdckfglejkaaKEScriptCost10
namespace Go.Proofs.Ytbifdckfglejkaa.X
open Go.RowKit Go.Lib Go.Proofs.YtbifdckfglejkaaW.PrintWords Go.Proofs.YtbifdckfglejkaaW.PrintLast Go.Proofs.YtbifdckfglejkaaW.PrintMore
set_option linter.unusedVariables false
set_option linter.unusedSimpArgs false
theorem NR.owns {w : World} {base g cap : Nat} {l : List NdI} (h : NR w base g cap l) : w.ownsRow base 90 2 (.slice (some ⟨g, 0, none⟩) l.length cap) l.length (ncells l) := by
 obtain ⟨ext, h1, h2⟩ := h.row
 refine ⟨ncells_len l, .inr ⟨g, cap, _, rfl, h.le, h1, h.fits, h.mx, h2, ?_⟩⟩
 show List.take (l.length * 2) (ncells l ++ ext) = ncells l
 rw [← ncells_len, List.take_left]
theorem NR.of_owns {w : World} {base : Nat} {v : Value} {l : List NdI} (h : w.ownsRow base 90 2 v l.length (ncells l)) (hl : 0 < l.length) : ∃ g cap, v = .slice (some ⟨g, 0, none⟩) l.length cap ∧ NR w base g cap l :=
 NR.of (ok := fun _ => True) ⟨fun _ _ => trivial, ncells l, h, ncells_reps l⟩ hl
theorem grown_setRow (w : World) (q g : Nat) (cs : Array Value) : w.grownBy ((w.drewN q).setRow g cs) (some g) :=
 ⟨rfl, rfl, rfl, by simp [World.setRow], fun k _ hk => by rw [setRow_other _ _ _ _ (fun e => hk (by rw [e]))]; rfl⟩
theorem NR.src {w : World} {base g cap : Nat} {l : List NdI} (h : NR w base g cap l) (i : Nat) : ∀ j u, (ncells (l.drop i))[j]? = some u → w.cell? ((⟨g, i * 2, none⟩ : Addr).add j) = some u := by
 intro j u hu
 obtain ⟨ext, h1, h2⟩ := h.row
 rw [← ncells_drop, List.getElem?_drop] at hu
 rw [Addr.add_lit, blk_cell h1, List.getElem?_toArray, List.getElem?_append_left (by have := (List.getElem?_eq_some_iff.1 hu).1; omega)]
 exact hu
theorem run_copyN (w : World) (ty : TypeId) (b o dLen dCap : Nat) (a : Addr) (sLen sCap n : Nat) (cs : List Value) (hn : n = Nat.min sLen dLen) (hl : cs.length = n * 2)
  (hsrc : ∀ j v, cs[j]? = some v → w.cell? (a.add j) = some v) (hc : ∀ j, j < cs.length → (w.cell? ⟨b, o + j, none⟩).isSome = true) (hf : ∀ j, j < cs.length → w.frozen? ⟨b, o + j, none⟩ = false) (h1 : ∀ v ∈ cs, v.oneCell' = true) :
  (Builtin.copy_ #[34, 34] ty #[.slice (some ⟨b, o, none⟩) dLen dCap, .slice (some a) sLen sCap]).run Try.prog w = .ok (goInt n) (w.setCells b o cs) := by
 obtain ⟨i0, h01, h02, h03⟩ := nodeInfo
 have hst := run_storeCells_cells (P := Try.prog) b o cs 0 w (by simpa using hc) (by simpa using hf) h1
 have hfc := run_firstCells_some (P := Try.prog) w 2 n a sLen sCap cs hl hsrc
 simp only [Nat.add_zero] at hst
 simp [Builtin.copy_, run_underlying Try.underlying34, Builtin.lenOf, sizeOf, typeInfo, h01, h03, ← hn, hfc, hst]
theorem nodeBytes : ∃ i0 : TypeInfo, Try.prog.info? 90 = some i0 ∧ i0.zero = some (.agg #[.int .i64 0, .int .i64 0]) ∧ i0.size = 2 ∧ i0.bytes = 16 := by
 have h := info90
 cases q : Try.prog.info? 90 with
 | none => rw [q] at h; cases h
 | some i0 =>
  rw [q] at h
  injection h with h
  injection h with h1 h2
  injection h2 with h2 h3
  exact ⟨i0, rfl, h1, h2, h3⟩
set_option maxHeartbeats 4000000 in
set_option maxRecDepth 100000 in
theorem Insert_end (w : World) (base g cap vb vc m n : Nat) (l vs : List NdI) (hR : NR w base g cap l) (hV : NR w base vb vc vs) (hl0 : 0 < l.length) (hm0 : 0 < m) (hm : m = vs.length) (hn : n = l.length) (hbig : n + m ≤ 1048576) :
  Calls Try.prog 107 #[.slice (some ⟨g, 0, none⟩) n cap, .int .i64 n, .slice (some ⟨vb, 0, none⟩) m vc] w fun e w' =>
   ∃ g' cap', e = .returned (.slice (some ⟨g', 0, none⟩) (n + m) cap') ∧ NR w' base g' cap' (l ++ vs) ∧ w.grownBy w' (some g) := by
 obtain ⟨i0, h01, h02, h03, h04⟩ := nodeBytes
 have hO := hR.owns
 have hlt := hR.lt
 have hle := hR.le
 have hs := hV.src 0
 have hvl := ncells_len vs
 rw [Nat.zero_mul, List.drop_zero] at hs
 rw [← hn] at hO
 rw [← hm] at hvl
 have HO := Aside0.mk hO
 have HS := Aside0.mk hs
 have HVL := Aside0.mk hvl
 have HI := Aside0.mk (And.intro h01 (And.intro h02 (And.intro h03 h04)))
 have HN := Aside0.mk hn
 have HM := Aside0.mk hm
 have hz1 : ¬ ((m : Int) = 0) := by omega
 have hbase : base ≤ w.heap.size := by omega
 have hmix : Try.prog.follows Departure.mixedOrders = true := by kernel_rfl
 have hmx : n + m ≤ maxLen := by unfold maxLen; omega
 have hnm : ncells l ++ ncells vs = ncells (l ++ vs) := (ncells_app l vs).symm
 have HNM := Aside0.mk hnm
 clear hR hV hO hs hvl h01 h02 h03 h04 hn hm hle hlt hnm
 go_enter Try.func107, Try.ntmps107
 go_wp2_with (at_builtin; refine wpList_append_own _ rfl _ _ 34 rfl base 90 i0 (.agg #[.int .i64 0, .int .i64 0]) 2 16 Try.underlying34 HI.out.1 HI.out.2.1 HI.out.2.2.1 HI.out.2.2.2 rfl (by omega) _ n (ncells l) rfl HO.out ⟨vb, 0, none⟩ m vc (ncells vs) rfl HVL.out HS.out (ncells_one vs) hmx (by omega) hbase ?_; intro v' w' h1 h2 _; have H1 := Aside0.mk h1; have H2 := Aside0.mk h2; clear h1 h2)
 all_goals
  go_ret
  obtain ⟨g', cap', e, hN⟩ := NR.of_owns (base := base) (v := v') (l := l ++ vs) (by rw [List.length_append, ← HN.out, ← HM.out, ← HNM.out]; exact H1.out) (by rw [List.length_append]; omega)
  rw [List.length_append, ← HN.out, ← HM.out] at e
  exact ⟨g', cap', congrArg Ending.returned e, hN, H2.out⟩
set_option maxHeartbeats 4000000 in
set_option maxRecDepth 100000 in
theorem Insert_shift (w : World) (base g cap vb vc i m n : Nat) (l vs : List NdI) (hR : NR w base g cap l) (hV : NR w base vb vc vs) (hvg : vb ≠ g) (hm0 : 0 < m) (hm : m = vs.length) (hn : n = l.length) (hi : i < n) (hmi : i + m ≤ n) (hroom : n + m ≤ cap) (hbig : n + m ≤ 1048576) (hcap : cap ≤ 9223372036854775807) :
  Calls Try.prog 107 #[.slice (some ⟨g, 0, none⟩) n cap, .int .i64 i, .slice (some ⟨vb, 0, none⟩) m vc] w fun e w' =>
   e = .returned (.slice (some ⟨g, 0, none⟩) (n + m) cap) ∧ NR w' base g cap (l.take i ++ vs ++ l.drop i) ∧ ∃ q cs, w' = (w.drewN q).setRow g cs := by
 have hz1 : ¬ ((m : Int) = 0) := by omega
 have hz2 : ¬ ((i : Int) = (n : Int)) := by omega
 have hD : NR w.drew base g cap l := hR.keep rfl
 have hdl : (l.drop i).length = n - i := by simp [hn]
 have hov : ∀ lb cb, (callFunc 132 #[.slice (some ⟨vb, 0, none⟩) m vc, .slice (some ⟨g, (i + m) * 2, none⟩) lb cb]).run Try.prog w = .ok (.value (.bool false)) w := fun lb cb => by
  obtain ⟨e1, h1, h2⟩ := hR.row
  obtain ⟨e2, h3, h4⟩ := hV.row
  have hsz : ∀ w, (Go.sizeOf 90).run Try.prog w = .ok 2 w := by
   intro w
   obtain ⟨i0, h01, h02, h03⟩ := nodeInfo
   simp [Go.sizeOf, typeInfo, h01, h03]
  rw [run_callFunc_extern Try.func132 (by kernel_rfl) (by kernel_rfl) (by kernel_rfl) (e := Extern.SlicesOverlaps.overlaps #[34, 34] #[4]) (by kernel_rfl),
   Lib.run_overlaps_apart w 34 4 90 Try.underlying34 2 hsz ⟨vb, 0, none⟩ ⟨g, (i + m) * 2, none⟩ m vc lb cb hvg 90 90 (vc * 2) (cap * 2) (by simp only [World.shape?, h3, List.size_toArray, h4]) (by simp only [World.shape?, h1, List.size_toArray, h2]) (by omega) (blk_frozen h3 _) (blk_frozen h3 _)]
  rfl
 have hw1 : IntKind.i64.wrap ((i : Int) + (m : Int)) = (i : Int) + (m : Int) := by rw [IntKind.wrap_i64]; omega
 have hb1 : (0 : Int) ≤ (i : Int) + (m : Int) := by omega
 have hin : i ≤ n := by omega
 have htn : ((i : Int) + (m : Int)).toNat = i + m := by omega
 have hb2 : ¬ (cap = i + m) := by omega
 have hb3 : (i : Int) ≤ (n : Int) + (m : Int) := by omega
 have hb4 : ¬ (cap = i) := by omega
 obtain ⟨ext, hr1, hr2⟩ := hD.row
 obtain ⟨ext2, hr3, hr4⟩ := hV.row
 have hcl := ncells_len l
 have hvl := ncells_len vs
 have cellAt : ∀ (W : World), (W.heap[g]? = w.heap[g]?) → ∀ k, k < cap * 2 → (W.cell? ⟨g, k, none⟩).isSome = true ∧ W.frozen? ⟨g, k, none⟩ = false := by
  intro W hW k hk
  have h := hW.trans hr1
  refine ⟨?_, blk_frozen h _⟩
  rw [blk_cell h, List.getElem?_toArray, List.getElem?_eq_getElem (by omega)]
  rfl
 have hcp1 : ∀ ty dc sc, (Builtin.copy_ #[34, 34] ty #[.slice (some ⟨g, (i + m) * 2, none⟩) (n + m - (i + m)) dc, .slice (some ⟨g, i * 2, none⟩) (n + m - i) sc]).run Try.prog w.drew = .ok (goInt (n - i : Nat)) (w.drew.setCells g ((i + m) * 2) (ncells (l.drop i))) := fun ty dc sc =>
  run_copyN w.drew ty g ((i + m) * 2) (n + m - (i + m)) dc ⟨g, i * 2, none⟩ (n + m - i) sc (n - i) (ncells (l.drop i)) (by simp only [Nat.min_def]; split <;> omega) (by rw [ncells_len, hdl]) (hD.src i)
   (fun j hj => by rw [ncells_len, hdl] at hj; exact (cellAt w.drew rfl _ (by omega)).1) (fun j hj => by rw [ncells_len, hdl] at hj; exact (cellAt w.drew rfl _ (by omega)).2) (ncells_one _)
 obtain ⟨cs1, hc1, hN1⟩ := hD.put (i + m) (l.drop i) (by rw [hdl]; omega) (by omega)
 obtain ⟨W1, hW1⟩ : ∃ W1, W1 = w.drew.setCells g ((i + m) * 2) (ncells (l.drop i)) := ⟨_, rfl⟩
 have hW1' : W1 = w.drew.setRow g cs1 := hW1.trans hc1
 rw [← hW1'] at hN1
 have e1 : l.drop (i + m + (l.drop i).length) = [] := List.drop_eq_nil_of_le (by rw [hdl]; omega)
 rw [e1, List.append_nil] at hN1
 have hL1 : (l.take (i + m) ++ l.drop i).length = n + m := by rw [List.length_append, List.length_take, hdl, ← hn]; omega
 obtain ⟨cs2, hc2, hN2⟩ := hN1.put i vs (by omega) (by omega)
 have e2 : (l.take (i + m) ++ l.drop i).take i ++ vs ++ (l.take (i + m) ++ l.drop i).drop (i + vs.length) = l.take i ++ vs ++ l.drop i := by
  rw [List.take_append_of_le_length (by rw [List.length_take]; omega), List.take_take, show min i (i + m) = i by omega, ← hm]
  rw [show l.take (i + m) ++ l.drop i = l.take (i + m) ++ l.drop i from rfl, List.drop_append, List.length_take, show i + m - min (i + m) l.length = 0 by omega, List.drop_zero, List.drop_eq_nil_of_le (by rw [List.length_take]; omega), List.nil_append]
 rw [e2] at hN2
 have hVs : ∀ (W : World), W.heap = W1.heap → ∀ j v, (ncells vs)[j]? = some v → W.cell? ((⟨vb, 0, none⟩ : Addr).add j) = some v := by
  intro W hW j v hj
  have h := hV.src 0 j v (by rw [List.drop_zero]; exact hj)
  have h5 : W.heap[vb]? = w.heap[vb]? := by rw [hW, hW1', setRow_other _ _ _ _ hvg]; rfl
  rw [Nat.zero_mul, Addr.add_lit] at h
  rw [Addr.add_lit]
  exact (World.cell?_of_block (a := ⟨vb, 0 + j, none⟩) h5).trans h
 have hcp2 : ∀ (W : World), W.heap = W1.heap → ∀ ty dc, (Builtin.copy_ #[34, 34] ty #[.slice (some ⟨g, i * 2, none⟩) (n + m - i) dc, .slice (some ⟨vb, 0, none⟩) m vc]).run Try.prog W = .ok (goInt m) (W.setCells g (i * 2) (ncells vs)) := by
  intro W hW ty dc
  obtain ⟨ext', h5, h6⟩ := hN1.row
  have h7 := (show W.heap[g]? = W1.heap[g]? by rw [hW]).trans h5
  have hq : ∀ k, k < cap * 2 → (W.cell? ⟨g, k, none⟩).isSome = true ∧ W.frozen? ⟨g, k, none⟩ = false := by
   intro k hk
   refine ⟨?_, blk_frozen h7 _⟩
   rw [blk_cell h7, List.getElem?_toArray, List.getElem?_eq_getElem (by omega)]
   rfl
  exact run_copyN W ty g (i * 2) (n + m - i) dc ⟨vb, 0, none⟩ m vc m (ncells vs) (by simp only [Nat.min_def]; split <;> omega) (by omega) (hVs W hW)
   (fun j hj => (hq _ (by omega)).1) (fun j hj => (hq _ (by omega)).2) (ncells_one _)
 have hmix : Try.prog.follows Departure.mixedOrders = true := by kernel_rfl
 rw [← hW1] at hcp1
 have HN2 := Aside0.mk hN2
 have HW := Aside0.mk hW1'
 have HC2 := Aside0.mk hc2
 clear hR hV hD hr1 hr2 hr3 hr4 hcl hvl cellAt hVs hN1 hc1 hW1 hW1' e1 hL1 e2 hN2 hdl hn hm hc2
 go_enter Try.func107, Try.ntmps107
 go_wp2_with (simp only [hov])
 go_region_law_o (refine Go.Proofs.step_copy_runI rfl _ _ 34 34 rfl _ _ (by simp [Act.eval, Act.put]) (by simp [Act.eval, Act.put]) (hcp1 _ _ _) ?_)
 go_wp2_with (at_builtin; refine Go.Proofs.wpList_copy_runI _ rfl _ _ 34 34 rfl _ _ rfl rfl (hcp2 _ rfl _ _) ?_)
 go_ret
 refine ⟨rfl, ?_, 1, cs2, ?_⟩
 ·rw [HC2.out]; exact HN2.out
 ·rw [HC2.out, HW.out, setRow_setRow]; rfl
set_option maxHeartbeats 4000000 in
set_option maxRecDepth 100000 in
theorem Insert_grow (w : World) (base g cap vb vc i m n : Nat) (l vs : List NdI) (hR : NR w base g cap l) (hV : NR w base vb vc vs) (hm0 : 0 < m) (hm : m = vs.length) (hn : n = l.length) (hi : i < n) (hmi : i + m ≤ n) (hroom : cap < n + m) (hbig : n + m ≤ 1048576) :
  Calls Try.prog 107 #[.slice (some ⟨g, 0, none⟩) n cap, .int .i64 i, .slice (some ⟨vb, 0, none⟩) m vc] w fun e w' =>
   ∃ g' cap', e = .returned (.slice (some ⟨g', 0, none⟩) (n + m) cap') ∧ NR w' base g' cap' (l.take i ++ vs ++ l.drop i) ∧ w.grownBy w' (some g) := by
 obtain ⟨i0, h01, h02, h03, h04⟩ := nodeBytes
 have hz1 : ¬ ((m : Int) = 0) := by omega
 have hz2 : ¬ ((i : Int) = (n : Int)) := by omega
 have hz3 : (cap : Int) < (n : Int) + (m : Int) := by omega
 have hfit := hR.fits
 have hgw := hR.lt
 have hvw := hV.lt
 have hle := hR.le
 have hdl : (l.drop i).length = n - i := by simp [hn]
 have hcl := ncells_len l
 have hvl := ncells_len vs
 have hkk : (n : Int) + (m : Int) - (i : Int) = ((n + m - i : Nat) : Int) := by omega
 have hik : i + (n + m - i) = n + m := by omega
 have hold : (Builtin.firstCells i0.size i (.slice (some ⟨g, 0, none⟩) i cap)).run Try.prog w.drew = .ok (ncells (l.take i)).toArray w.drew := by
  rw [h03]
  refine run_firstCells_some w.drew 2 i ⟨g, 0, none⟩ i cap (ncells (l.take i)) (by rw [ncells_len, List.length_take]; omega) (fun j v hj => ?_)
  have := hR.src 0 j v (by
   rw [List.drop_zero]
   rw [← ncells_take, List.getElem?_take] at hj
   split at hj
   ·exact hj
   ·cases hj)
  rw [Nat.zero_mul] at this
  exact this
 obtain ⟨G, hG⟩ : ∃ G, G = grownCap w (n + m) cap 90 := ⟨_, rfl⟩
 have hGn : n + m ≤ G := by rw [hG]; exact grownCap_ge w _ _ _
 have hGm : G ≤ maxLen := by rw [hG]; exact grownCap_le_maxLen w (n + m) cap _ (by unfold maxLen; omega)
 have hG63 : G ≤ 9223372036854775807 := by unfold maxLen at hGm; omega
 obtain ⟨W1, hW1⟩ : ∃ W1, W1 = w.drew.alloc (.cells ((ncells (l.take i)).toArray ++ Builtin.zeroCells (Value.agg #[.int .i64 0, .int .i64 0]).cells (n + m - i) ++ Builtin.zeroCells (Value.agg #[.int .i64 0, .int .i64 0]).cells (G - (n + m))) 90) := ⟨_, rfl⟩
 have hrz : ∀ ty, (Builtin.append_ #[34, 3] ty #[.slice (some ⟨g, 0, none⟩) i cap, .int .i64 ((n : Int) + (m : Int) - (i : Int))]).run Try.prog w = .ok (.slice (some ⟨w.heap.size, 0, none⟩) (n + m) G) W1 := fun ty => by
  have h := Lib.run_append_grow_zeros w 34 3 ty 90 i0 _ .i64 .i64 Try.underlying34 Try.underlying3 h01 h02 (some ⟨g, 0, none⟩) i cap (ncells (l.take i)) hold (n + m - i) (by omega) (by omega) (by omega) (by omega) (by rw [h04]; omega) (by rw [h04, hik]; exact growslice_fits hroom (by omega))
  rw [hik, ← hG, ← hW1] at h
  rw [hkk]
  exact h
 have hh : W1.heap[w.heap.size]? = some (.cells (ncells (l.take i ++ List.replicate (n + m - i) ⟨0, 0⟩) ++ ncells (List.replicate (G - (n + m)) ⟨0, 0⟩)).toArray 90 (0, 0)) := by
  rw [hW1]
  refine (heap_alloc_new w.drew _).trans ?_
  rw [ncells_app, ← zeros_n, ← zeros_n]
  congr 2
  apply Array.ext'
  simp
 have hold1 : ∀ k, k < w.heap.size → W1.heap[k]? = w.heap[k]? := fun k hk => by rw [hW1]; exact heap_alloc_old w.drew _ hk
 have hN0 : NR W1 base w.heap.size G (l.take i ++ List.replicate (n + m - i) ⟨0, 0⟩) := by
  refine ⟨by omega, by simp only [List.length_append, List.length_take, List.length_replicate]; omega, hGm, _, hh, ?_⟩
  simp only [List.length_append, ncells_len, List.length_take, List.length_replicate]
  omega
 obtain ⟨cs1, hc1, hN1⟩ := hN0.put i vs (by omega) (by simp only [List.length_append, List.length_take, List.length_replicate]; omega)
 obtain ⟨W2, hW2⟩ : ∃ W2, W2 = W1.setCells w.heap.size (i * 2) (ncells vs) := ⟨_, rfl⟩
 have hW2' : W2 = W1.setRow w.heap.size cs1 := hW2.trans hc1
 rw [← hW2'] at hN1
 have e1 : (l.take i ++ List.replicate (n + m - i) ⟨0, 0⟩ : List NdI).take i ++ vs ++ (l.take i ++ List.replicate (n + m - i) ⟨0, 0⟩ : List NdI).drop (i + vs.length) = l.take i ++ vs ++ List.replicate (n - i) ⟨0, 0⟩ := by
  have h : (l.take i).length = i := by rw [List.length_take]; omega
  rw [List.take_append_of_le_length (by omega), List.take_take, Nat.min_self, List.drop_append, h, List.drop_eq_nil_of_le (by omega), List.nil_append, List.drop_replicate, ← hm, show n + m - i - (i + m - i) = n - i by omega]
 rw [e1] at hN1
 obtain ⟨cs2, hc2, hN2⟩ := hN1.put (i + m) (l.drop i) (by rw [hdl]; omega) (by simp only [List.length_append, List.length_take, List.length_replicate]; omega)
 have e2 : (l.take i ++ vs ++ List.replicate (n - i) ⟨0, 0⟩ : List NdI).take (i + m) ++ l.drop i ++ (l.take i ++ vs ++ List.replicate (n - i) ⟨0, 0⟩ : List NdI).drop (i + m + (l.drop i).length) = l.take i ++ vs ++ l.drop i := by
  have h : (l.take i ++ vs).length = i + m := by rw [List.length_append, List.length_take]; omega
  have h2 : (l.take i ++ vs ++ List.replicate (n - i) ⟨0, 0⟩ : List NdI).drop (i + m + (l.drop i).length) = [] := List.drop_eq_nil_of_le (by rw [List.length_append, h, List.length_replicate, hdl]; omega)
  rw [h2, List.append_nil, ← h, List.take_left]
 rw [e2] at hN2
 have cellAt : ∀ (W : World) (L : List NdI), NR W base w.heap.size G L → ∀ k, k < G * 2 → (W.cell? ⟨w.heap.size, k, none⟩).isSome = true ∧ W.frozen? ⟨w.heap.size, k, none⟩ = false := by
  intro W L hW k hk
  obtain ⟨ext, h1, h2⟩ := hW.row
  refine ⟨?_, blk_frozen h1 _⟩
  rw [blk_cell h1, List.getElem?_toArray, List.getElem?_eq_getElem (by omega)]
  rfl
 have hcpA : ∀ (W : World), W.heap = W1.heap → ∀ ty dc, (Builtin.copy_ #[34, 34] ty #[.slice (some ⟨w.heap.size, i * 2, none⟩) (n + m - i) dc, .slice (some ⟨vb, 0, none⟩) m vc]).run Try.prog W = .ok (goInt m) (W.setCells w.heap.size (i * 2) (ncells vs)) := by
  intro W hW ty dc
  have hNW : NR W base w.heap.size G _ := hN0.keep (by rw [hW])
  have hVW : NR W base vb vc vs := hV.keep (by rw [hW]; exact hold1 vb hvw)
  refine run_copyN W ty w.heap.size (i * 2) (n + m - i) dc ⟨vb, 0, none⟩ m vc m (ncells vs) (by simp only [Nat.min_def]; split <;> omega) (by omega) (fun j v hj => ?_)
   (fun j hj => (cellAt W _ hNW _ (by omega)).1) (fun j hj => (cellAt W _ hNW _ (by omega)).2) (ncells_one _)
  have := hVW.src 0 j v (by rw [List.drop_zero]; exact hj)
  rw [Nat.zero_mul] at this
  exact this
 have hcpB : ∀ (W : World), W.heap = W2.heap → ∀ ty dc sc, (Builtin.copy_ #[34, 34] ty #[.slice (some ⟨w.heap.size, (i + m) * 2, none⟩) (n + m - (i + m)) dc, .slice (some ⟨g, i * 2, none⟩) (n - i) sc]).run Try.prog W = .ok (goInt (n - i : Nat)) (W.setCells w.heap.size ((i + m) * 2) (ncells (l.drop i))) := by
  intro W hW ty dc sc
  have hNW : NR W base w.heap.size G _ := hN1.keep (by rw [hW])
  have hRW : NR W base g cap l := hR.keep (by rw [hW, hW2', setRow_other _ _ _ _ (by omega)]; exact hold1 g hgw)
  exact run_copyN W ty w.heap.size ((i + m) * 2) (n + m - (i + m)) dc ⟨g, i * 2, none⟩ (n - i) sc (n - i) (ncells (l.drop i)) (by simp only [Nat.min_def]; split <;> omega) (by rw [ncells_len, hdl]) (hRW.src i)
   (fun j hj => by rw [ncells_len, hdl] at hj; exact (cellAt W _ hNW _ (by omega)).1) (fun j hj => by rw [ncells_len, hdl] at hj; exact (cellAt W _ hNW _ (by omega)).2) (ncells_one _)
 have hw1 : IntKind.i64.wrap ((i : Int) + (m : Int)) = (i : Int) + (m : Int) := by rw [IntKind.wrap_i64]; omega
 have hb1 : (0 : Int) ≤ (i : Int) + (m : Int) := by omega
 have hin : i ≤ n := by omega
 have htn : ((i : Int) + (m : Int)).toNat = i + m := by omega
 have hb3 : (i : Int) ≤ (n : Int) := by omega
 have hGi : ¬ (G = i) := by omega
 have hGim : ¬ (G = i + m) := by omega
 have hci : ¬ (cap = i) := by omega
 have hnc : n ≤ cap := by omega
 have hic : i ≤ cap := by omega
 have hgr : w.grownBy ((W2.drewN 1).setRow w.heap.size cs2) (some g) := by
  refine ⟨by rw [hW2', hW1]; rfl, by rw [hW2', hW1]; rfl, by rw [hW2', hW1]; rfl, by rw [setRow_size]; show w.heap.size ≤ W2.heap.size; rw [hW2', setRow_size, hW1]; show w.heap.size ≤ (Array.push _ _).size; rw [Array.size_push]; exact Nat.le_succ _, fun k hk _ => ?_⟩
  rw [setRow_other _ _ _ _ (by omega)]
  show W2.heap[k]? = _
  rw [hW2', setRow_other _ _ _ _ (by omega)]
  exact hold1 k hk
 have hmix : Try.prog.follows Departure.mixedOrders = true := by kernel_rfl
 have HGR := Aside0.mk hgr
 have HN2 := Aside0.mk hN2
 have HC2 := Aside0.mk hc2
 have hE2 : W1.setCells w.heap.size (i * 2) (ncells vs) = W2 := hW2.symm
 clear hW1
 clear hgr hN2 hc2 hkk hik hold hG hh hold1 hN0 hc1 hN1 hW2 hW2' e1 e2 cellAt hR hV hfit hgw hvw hle hdl hcl hvl h01 h02 h03 h04 hGm hn hm
 go_enter Try.func107, Try.ntmps107
 go_wp2_with (first
  | (at_builtin; refine Lib.wpList_append_run _ rfl _ _ _ _ rfl _ _ rfl rfl _ _ (hrz _) ?_)
  | (at_builtin; refine Go.Proofs.wpList_copy_runI _ rfl _ _ 34 34 rfl _ _ rfl rfl (hcpA _ rfl _ _) ?_; rw [hE2]))
 go_region_law_o (refine Go.Proofs.step_copy_runI rfl _ _ 34 34 rfl (.slice (some ⟨w.heap.size, (i + m) * 2, none⟩) (n + m - (i + m)) (G - (i + m))) (.slice (some ⟨g, i * 2, none⟩) (n - i) (cap - i)) (by simp [Act.eval, Act.put]) (by simp [Act.eval, Act.put]) (hcpB W2.drew rfl 3 (G - (i + m)) (cap - i)) ?_)
 go_wp2
 go_ret
 refine ⟨_, _, rfl, ?_, ?_⟩
 ·rw [← Go.Proofs.drew_setCells, HC2.out]
  exact HN2.out.keep rfl
 ·rw [← Go.Proofs.drew_setCells, HC2.out]
  exact HGR.out
theorem Insert_calls (w : World) (base g cap vb vc i : Nat) (l : List NdI) (x : NdI) (hR : NR w base g cap l) (hV : NR w base vb vc [x]) (hvg : vb ≠ g) (hi : i ≤ l.length) (hl : 0 < l.length) (hbig : l.length + 1 ≤ 1048576) :
  Calls Try.prog 107 #[.slice (some ⟨g, 0, none⟩) l.length cap, .int .i64 i, .slice (some ⟨vb, 0, none⟩) 1 vc] w fun e w' =>
   ∃ g' cap', e = .returned (.slice (some ⟨g', 0, none⟩) (l.length + 1) cap') ∧ NR w' base g' cap' (l.take i ++ [x] ++ l.drop i) ∧ w.grownBy w' (some g) := by
 by_cases c : i = l.length
 ·have h := Insert_end w base g cap vb vc 1 l.length l [x] hR hV hl (by omega) rfl rfl hbig
  rw [← c] at h ⊢
  refine h.mono ?_
  rintro e w' ⟨g', cap', h1, h2, h3⟩
  refine ⟨g', cap', h1, ?_, h3⟩
  rw [c, List.take_length, List.drop_length, List.append_nil]
  exact h2
 ·by_cases c2 : l.length + 1 ≤ cap
  ·refine (Insert_shift w base g cap vb vc i 1 l.length l [x] hR hV hvg (by omega) rfl rfl (by omega) (by omega) c2 hbig (by have := hR.mx; unfold maxLen at this; omega)).mono ?_
   rintro e w' ⟨h1, h2, q, cs, h3⟩
   exact ⟨g, cap, h1, h2, by rw [h3]; exact grown_setRow w q g cs⟩
  ·exact Insert_grow w base g cap vb vc i 1 l.length l [x] hR hV (by omega) rfl rfl (by omega) (by omega) (by omega) hbig
end Go.Proofs.Ytbifdckfglejkaa.X
namespace Go.Proofs.Ytbifdckfglejkaa.X
open Go.RowKit Go.Proofs.YtbifdckfglejkaaW.PrintWords Go.Proofs.YtbifdckfglejkaaW.PrintLast Go.Proofs.YtbifdckfglejkaaW.PrintMore
set_option linter.unusedVariables false
set_option linter.unusedSimpArgs false
def shiftL (h : NdI → NdI) (a b : Nat) (l : List NdI) : List NdI := l.mapIdx fun j x => if a ≤ j ∧ j < b then h x else x
theorem shiftL_len (h : NdI → NdI) (a b : Nat) (l : List NdI) : (shiftL h a b l).length = l.length := List.length_mapIdx
theorem shiftL_get (h : NdI → NdI) (a b : Nat) (l : List NdI) (j : Nat) : (shiftL h a b l)[j]? = (l[j]?).map fun x => if a ≤ j ∧ j < b then h x else x := by
 rw [shiftL, List.getElem?_mapIdx]
theorem shiftL_none (h : NdI → NdI) (a : Nat) (l : List NdI) : shiftL h a a l = l := by
 apply List.ext_getElem?
 intro j
 rw [shiftL_get]
 cases l[j]? with
 | none => rfl
 | some x => show some (if a ≤ j ∧ j < a then h x else x) = some x; rw [if_neg (by omega)]
theorem shiftL_step (h : NdI → NdI) (a b : Nat) (l : List NdI) (x : NdI) (hab : a ≤ b) (hx : l[b]? = some x) : (shiftL h a b l).set b (h x) = shiftL h a (b + 1) l := by
 apply List.ext_getElem?
 intro j
 have hb := (List.getElem?_eq_some_iff.1 hx).1
 rw [shiftL_get, List.getElem?_set, shiftL_len]
 by_cases c : b = j
 ·subst c
  rw [if_pos rfl, if_pos hb, hx]
  show some (h x) = some (if a ≤ b ∧ b < b + 1 then h x else x)
  rw [if_pos (by omega)]
 ·rw [if_neg c, shiftL_get]
  congr 1
  funext y
  by_cases c2 : a ≤ j ∧ j < b
  ·rw [if_pos c2, if_pos (by omega)]
  ·rw [if_neg c2, if_neg (by omega)]
def lessDeep (x : NdI) : NdI := { x with f1 := wrap64 (x.f1 - 1) }
def moreDeep (x : NdI) : NdI := { x with f1 := wrap64 (x.f1 + 1) }
def impl_ApplyOp.f (k : Nat) (l0 : List NdI) (a0 : Int) (l1 : List Int) (a2 a3 a4 : Int) : Option (List NdI × Int) :=
 (impl_TreeOk.f k l0).bind fun t => if t = true then (if l0.length < 1048576 then ((impl_NodeAt.f k l0 l1).bind fun i => ((impl_opCode.f k l0 a0 l1 a2 a3 a4 i).bind fun c =>
  if c.1 = 0 then (if 0 ≤ i then (if i < (l0.length : Int) then
   (if a0 = 1 then some (l0.set i.toNat { rd_T90 l0 i with f0 := a2 }, 0)
   else if a0 = 2 then ((impl_endOf.f k l0 i).bind fun e => if i < e then (if e ≤ (l0.length : Int) then some ((shiftL lessDeep (i.toNat + 1) e.toNat l0).take i.toNat ++ (shiftL lessDeep (i.toNat + 1) e.toNat l0).drop (i.toNat + 1), 0) else none) else none)
   else if 0 ≤ c.2.1 then (if c.2.1 ≤ c.2.2 then (if c.2.2 ≤ (l0.length : Int) then
    some ((shiftL moreDeep c.2.1.toNat c.2.2.toNat l0).take c.2.1.toNat ++ [⟨a2, wrap64 ((rd_T90 l0 i).f1 + 1)⟩] ++ (shiftL moreDeep c.2.1.toNat c.2.2.toNat l0).drop c.2.1.toNat, 0) else none) else none) else none)
   else none) else none)
  else some (l0, c.1))) else none) else some ([], 2)
theorem NR.deep {w : World} {base g cap : Nat} {l : List NdI} {a b : Nat} (h : NdI → NdI) (v : NdI → Int) (hh : ∀ x, h x = { x with f1 := v x }) (hR : NR w base g cap (shiftL h a b l)) (hab : a ≤ b) {x : NdI} (hx : l[b]? = some x) :
  NR (w.setCell ⟨g, b * 2 + 1, none⟩ (.int .i64 (v x))) base g cap (shiftL h a (b + 1) l) := by
 have hb := (List.getElem?_eq_some_iff.1 hx).1
 have hx2 : (shiftL h a b l)[b]? = some x := by
  rw [shiftL_get, hx]
  show some (if a ≤ b ∧ b < b then h x else x) = some x
  rw [if_neg (by omega)]
 refine hR.set (by rw [shiftL_len]; omega) ?_
 rw [ncells_set1 _ _ _ _ hx2, ← hh x, shiftL_step h a b l x hab hx]
theorem box5 {W w1 : World} {c0 c1 c2 c3 c4 : Value} {ty : TypeId} (hb : Below (W.alloc (Obj.cells #[c0, c1, c2, c3, c4] ty)).heap.size (W.alloc (Obj.cells #[c0, c1, c2, c3, c4] ty)) w1) : w1.heap[W.heap.size]? = some (.cells #[c0, c1, c2, c3, c4] ty (0, 0)) :=
 (hb.block W.heap.size (by simp)).trans (heap_alloc_new W _)
set_option maxHeartbeats 4000000 in
set_option maxRecDepth 100000 in
theorem impl_ApplyOp.calls (k : Nat) (A0 : Option Addr) (c0 : Nat) (l0 : List NdI) (a0 : Int) (A1 : Option Addr) (c1 : Nat) (l1 : List Int) (a2 a3 a4 : Int) (r1 : List NdI) (r2 : Int) (w : World) (hr0 : Kd.C k90 w A0 l0.length l0) (hc0 : l0.length ≤ c0) (hr1 : Kd.C (Kd.int .i64) w A1 l1.length l1) (hc1 : l1.length ≤ c1) (h : impl_ApplyOp.f k l0 a0 l1 a2 a3 a4 = some (r1, r2)) :
  Calls Try.prog 46 #[.slice A0 l0.length c0, .agg #[.int .i64 a0, .slice A1 l1.length c1, .int .i64 a2, .int .i64 a3, .int .i64 a4]] w fun e w' => ∃ v0_ : Value, e = .returned (.tuple #[v0_, .int .i64 r2]) ∧ Kd.R k90 90 w' w.heap.size (fun _ => True) v0_ r1 ∧ Below w.heap.size w w' := by
 have HTr : Aside0 (∀ (t : Bool) W, impl_TreeOk.f k l0 = some t → Below w.heap.size w W → Calls Try.prog 102 #[.slice A0 l0.length c0] W fun e w' => e = .returned (.bool t) ∧ Below W.heap.size W w') :=
  ⟨fun t W ht hb => impl_TreeOk.calls k A0 c0 l0 t W (Kd.C_below hr0 hb) hc0 ht⟩
 have HCl0 : Aside0 (l0.length < 1048576 → ∀ W, Below w.heap.size w W → Calls Try.prog 103 #[.slice A0 l0.length c0] W fun e w' => ∃ v0_ : Value, e = .returned v0_ ∧ Kd.R k90 90 w' W.heap.size (fun _ => True) v0_ l0 ∧ Below W.heap.size W w') :=
  ⟨fun hl W hb => clone_Node.calls A0 c0 l0 l0 W (Kd.C_below hr0 hb) hc0 (by rw [clone_Node.f, if_pos (by omega)])⟩
 have HNA0 : Aside0 (∀ (t : Int) W, impl_NodeAt.f k l0 l1 = some t → Below w.heap.size w W → Calls Try.prog 78 #[.slice A0 l0.length c0, .slice A1 l1.length c1] W fun e w' => e = .returned (.int .i64 t) ∧ Below W.heap.size W w') :=
  ⟨fun t W ht hb => impl_NodeAt.calls k A0 c0 l0 A1 c1 l1 t W (Kd.C_below hr0 hb) hc0 (Kd.C_below hr1 hb) hc1 ht⟩
 have HOC0 : Aside0 (∀ (i : Int) (c : Int × Int × Int) W, impl_opCode.f k l0 a0 l1 a2 a3 a4 i = some c → Below w.heap.size w W → Calls Try.prog 104 #[.slice A0 l0.length c0, .agg #[.int .i64 a0, .slice A1 l1.length c1, .int .i64 a2, .int .i64 a3, .int .i64 a4], .int .i64 i] W fun e w' => e = .returned (.tuple #[.int .i64 c.1, .int .i64 c.2.1, .int .i64 c.2.2]) ∧ Below W.heap.size W w') :=
  ⟨fun i c W ht hb => impl_opCode.calls k A0 c0 l0 a0 A1 c1 l1 a2 a3 a4 i c.1 c.2.1 c.2.2 W (Kd.C_below hr0 hb) hc0 (Kd.C_below hr1 hb) hc1 ht⟩
 have HEN0 : Aside0 (∀ (i t : Int) W, impl_endOf.f k l0 i = some t → Below w.heap.size w W → Calls Try.prog 105 #[.slice A0 l0.length c0, .int .i64 i] W fun e w' => e = .returned (.int .i64 t) ∧ Drawn0 W w') :=
  ⟨fun i t W ht hb => impl_endOf.calls k A0 c0 l0 i t W (Kd.C_below hr0 hb) hc0 ht⟩
 have HR0 := Aside0.mk hr0
 have HR1 := Aside0.mk hr1
 have hm0 := hr0.2.1
 have hm1 := hr1.2.1
 clear hr0 hc0 hr1 hc1
 have hmix : Try.prog.follows Departure.mixedOrders = true := by kernel_rfl
 have hun := Try.underlying90
 have huo := Try.underlying67
 unfold impl_ApplyOp.f at h
 obtain ⟨t, ht, h⟩ := Option.bind_eq_some_iff.mp h
 have HT := Aside0.mk ht
 clear ht
 cases t with
 | false =>
  rw [if_neg (by decide)] at h
  obtain ⟨rfl, rfl⟩ := Prod.mk.inj (Option.some.inj h)
  clear h
  go_enter Try.func46, Try.ntmps46
  go_wp2_with (first | (go_at_call 102; refine (HTr.out false _ HT.out ((Below.refl _ _).alloc (Nat.le_refl _) _)).mono ?_; rintro e w4 ⟨rfl, hb⟩; have HB := Aside0.mk (((Below.refl w.heap.size w).alloc (Nat.le_refl _) _).trans (hb.mono (by simp))); clear hb) | ((with_reducible refine gate_dst (N := 16) rfl ?_); refine Kd.R_lit k90 _ 90 ?hg (N := 16) ?hd (xs := ([] : List NdI)) (inner := []) (ok := fun _ => True) (okp := fun _ => True) ?hr ?hp (fun _ hk => hk) trivial (Below.refl _ _) (Nat.le_refl _) (by simp) ?_; (case hd => rfl); (case hg => rfl); (case hr => first | (go_simp; done) | (go_simp; rfl)); (case hp => exact (Reps.none _ _)); intro v7 w5 ho4 hb hg_ hnew_; clear hg_ hnew_; have HO := Aside0.mk (Kd.R_lower ho4 (below_size HB.out)); have HB2 := Aside0.mk (below_step HB.out hb); clear hb ho4))
  go_ret2
  exact ⟨_, rfl, HO.out, HB2.out⟩
 | true =>
  rw [if_pos rfl] at h
  by_cases hl : l0.length < 1048576
  case neg => rw [if_neg hl] at h; cases h
  rw [if_pos hl] at h
  have HCl : Aside0 (∀ W, Below w.heap.size w W → Calls Try.prog 103 #[.slice A0 l0.length c0] W fun e w' => ∃ v0_ : Value, e = .returned v0_ ∧ Kd.R k90 90 w' W.heap.size (fun _ => True) v0_ l0 ∧ Below W.heap.size W w') := ⟨HCl0.out hl⟩
  obtain ⟨i, hi, h⟩ := Option.bind_eq_some_iff.mp h
  obtain ⟨⟨q1, q2, q3⟩, hq, h⟩ := Option.bind_eq_some_iff.mp h
  have HNA : Aside0 (∀ W, Below w.heap.size w W → Calls Try.prog 78 #[.slice A0 l0.length c0, .slice A1 l1.length c1] W fun e w' => e = .returned (.int .i64 i) ∧ Below W.heap.size W w') := ⟨fun W hb => HNA0.out i W hi hb⟩
  have HOC : Aside0 (∀ W, Below w.heap.size w W → Calls Try.prog 104 #[.slice A0 l0.length c0, .agg #[.int .i64 a0, .slice A1 l1.length c1, .int .i64 a2, .int .i64 a3, .int .i64 a4], .int .i64 i] W fun e w' => e = .returned (.tuple #[.int .i64 q1, .int .i64 q2, .int .i64 q3]) ∧ Below W.heap.size W w') := ⟨fun W hb => HOC0.out i _ W hq hb⟩
  have HH := Aside0.mk h
  clear h hi hq
  go_enter Try.func46, Try.ntmps46
  go_upto_region 3 with (first | (go_at_call 102; refine (HTr.out true _ HT.out ((Below.refl _ _).alloc (Nat.le_refl _) _)).mono ?_; rintro e w4 ⟨rfl, hb⟩; have HBX := Aside0.mk (box5 hb); have HB := Aside0.mk (((Below.refl w.heap.size w).alloc (Nat.le_refl _) _).trans (hb.mono (by simp))); clear hb))
  have hz1 : w4.drew.cell? ⟨w.heap.size, 1, none⟩ = some (.slice A1 l1.length c1) := (blk_cell HBX.out 1).trans rfl
  refine start_ (n := 8) (S := fun w' => w'.cell? ⟨w.heap.size, 1, none⟩ = some (.slice A1 l1.length c1)) (ds := []) (ba_ 8 0) (by kernel_rfl) rfl rfl hz1 (fun hHeld => ?_)
  refine pu_ 0 (some 17) (ba_ 8 1) rfl rfl (by kernel_rfl) ?_
  refine pu_ 2 (some 19) (ba_ 8 5) rfl rfl (by kernel_rfl) ?_
  refine pu_ 3 (some 20) (ba_ 8 13) rfl rfl (by kernel_rfl) ?_
  refine ta_ 4 (some 21) (ba_ 8 29) rfl rfl (by kernel_rfl) hHeld (by rintro w' s0; go_simp; with_reducible rfl) ?_
  refine one_ (i := 1) (N := some 18) (ba_ 8 31) rfl rfl (by kernel_rfl) (by decide) (fun K hK => ?_)
  refine goes_ Try.func103 (by kernel_rfl) rfl #[.slice A0 l0.length c0] (by rfl) rfl rfl (by (try simp only [List.map_toArray, List.map_cons, List.map_nil]); first | done | rfl) ?_
  refine (HCl.out _ (below_drew HB.out)).mono ?_
  rintro e w5 ⟨v0, rfl, hr, hb⟩
  refine ⟨_, rfl, ?_⟩
  have HB3 := Aside0.mk ((below_drew HB.out).trans (hb.mono (below_drew HB.out).size))
  have HV := Aside0.mk hr
  have HBo := Aside0.mk hb
  refine hK.out _ _ (pw_cell_below hb hHeld) (fun hHeld => ?_)
  clear hb hr
  clear hK K
  refine norm_ (a' := ?_) ?_ ?_
  rotate_left
  ·show Act.put _ (some 18) _ = _
   simp only [Act.put, List.setIfInBounds_toArray, List.set_cons_zero, List.set_cons_succ, i64_w, i32_w]
   rfl
  refine one_ (i := 5) (N := some 22) (ba_ 8 63) rfl rfl (by kernel_rfl) (by decide) (fun K hK => ?_)
  refine goes_ Try.func78 (by kernel_rfl) rfl #[.slice A0 l0.length c0, .slice A1 l1.length c1] (by rfl) rfl rfl (by (try simp only [List.map_toArray, List.map_cons, List.map_nil]); first | done | rfl) ?_
  refine (HNA.out _ HB3.out).mono ?_
  rintro e w6 ⟨rfl, hb⟩
  refine ⟨_, rfl, ?_⟩
  have HB4 := Aside0.mk (HB3.out.trans (hb.mono HB3.out.size))
  have HV2 := Aside0.mk (Kd.R_below HV.out hb)
  have HBo2 := Aside0.mk hb
  refine hK.out _ _ (pw_cell_below hb hHeld) (fun hHeld => ?_)
  clear hb
  clear hK K
  refine norm_ (a' := ?_) ?_ ?_
  rotate_left
  ·show Act.put _ (some 22) _ = _
   simp only [Act.put, List.setIfInBounds_toArray, List.set_cons_zero, List.set_cons_succ, i64_w, i32_w]
   rfl
  refine pu_ 6 (some 6) (ba_ 8 127) rfl rfl (by kernel_rfl) ?_
  refine pu_ 7 (some 7) (ba_ 8 255) rfl rfl (by kernel_rfl) ?_
  refine done_ (by kernel_rfl) ?_
  have hb5 := (HBo.out.block w.heap.size (blk_lt HBX.out)).trans HBX.out
  have HG := Aside0.mk ((HBo2.out.block w.heap.size (blk_lt hb5)).trans hb5)
  clear hb5
  have hz0 : w6.cell? ⟨w.heap.size, 0, none⟩ = some (.int .i64 a0) := (blk_cell HG.out 0).trans rfl
  have hz1 : w6.cell? ⟨w.heap.size, 1, none⟩ = some (.slice A1 l1.length c1) := (blk_cell HG.out 1).trans rfl
  have hz2 : w6.cell? ⟨w.heap.size, 2, none⟩ = some (.int .i64 a2) := (blk_cell HG.out 2).trans rfl
  have hz3 : w6.cell? ⟨w.heap.size, 3, none⟩ = some (.int .i64 a3) := (blk_cell HG.out 3).trans rfl
  have hz4 : w6.cell? ⟨w.heap.size, 4, none⟩ = some (.int .i64 a4) := (blk_cell HG.out 4).trans rfl
  by_cases hq0 : q1 = 0
  case neg =>
   have h := HH.out
   rw [if_neg hq0] at h
   obtain ⟨rfl, rfl⟩ := Prod.mk.inj (Option.some.inj h)
   clear h HH
   go_wp2_with (first | (go_at_call 104; refine (HOC.out _ HB4.out).mono ?_; rintro e w7 ⟨rfl, hb⟩; have HB5 := Aside0.mk (HB4.out.trans (hb.mono HB4.out.size)); have HV3 := Aside0.mk (Kd.R_below HV2.out hb); clear hb))
   go_ret2
   exact ⟨v0, rfl, Kd.R_lower HV3.out (below_drew HB.out).size, HB5.out⟩
  have h := HH.out
  rw [if_pos hq0] at h
  clear HH
  by_cases hi0 : 0 ≤ i
  case neg => rw [if_neg hi0] at h; cases h
  rw [if_pos hi0] at h
  by_cases hi1 : i < (l0.length : Int)
  case neg => rw [if_neg hi1] at h; cases h
  rw [if_pos hi1] at h
  obtain ⟨j, rfl⟩ : ∃ j : Nat, i = j := ⟨i.toNat, by omega⟩
  have hj : j < l0.length := by omega
  obtain ⟨g, cap, rfl, hNR⟩ := NR.of HV2.out (by omega)
  have HNR := Aside0.mk hNR
  clear hNR
  by_cases ha1 : a0 = 1
  case pos =>
   subst ha1
   rw [if_pos rfl, Int.toNat_natCast] at h
   obtain ⟨rfl, rfl⟩ := Prod.mk.inj (Option.some.inj h)
   clear h
   go_wp2_with (first | (go_at_call 104; refine (HOC.out _ HB4.out).mono ?_; rintro e w7 ⟨rfl, hb⟩; have HB5 := Aside0.mk (HB4.out.trans (hb.mono HB4.out.size)); have HNR7 := Aside0.mk (HNR.out.keep (hb.block g HNR.out.lt)); have hG7 := (hb.block w.heap.size (blk_lt HG.out)).trans HG.out; have hy0 : w7.cell? ⟨w.heap.size, 0, none⟩ = some (.int .i64 1) := (blk_cell hG7 0).trans rfl; have hy2 : w7.cell? ⟨w.heap.size, 2, none⟩ = some (.int .i64 a2) := (blk_cell hG7 2).trans rfl; have hyc := (HNR7.out.cell (List.getElem?_eq_getElem hj)).1; have hyf := HNR7.out.frozen (j * 2); clear hb hG7))
   have hN8 := HNR7.out.set (k := j * 2) (v := .int .i64 a2) (by omega) (ncells_set0 l0 j l0[j] a2 (List.getElem?_eq_getElem hj))
   have ho8 := hN8.own
   rw [List.length_set] at ho8
   have erd : rd_T90 l0 (j : Int) = l0[j] := by simp [rd_T90, List.getD_eq_getElem?_getD, List.getElem?_eq_getElem hj]
   rw [erd]
   have hbl := (below_drew HB.out).size
   have hge := hN8.le
   go_ret2
   exact ⟨_, rfl, Kd.R_lower ho8 hbl, HB5.out.setCell (by show w.heap.size ≤ g; omega) _⟩
  case neg =>
  rw [if_neg ha1] at h
  have hbl := (below_drew HB.out).size
  have hge := HNR.out.le
  have hg : w.heap.size ≤ g := by omega
  have hgs : w.heap.size + 1 ≤ g := by
   have h1 := blk_lt HBX.out
   have h2 : w4.heap.size ≤ g := hge
   omega
  by_cases ha2 : a0 = 2
  case pos =>
   subst ha2
   rw [if_pos rfl] at h
   obtain ⟨e, he, h⟩ := Option.bind_eq_some_iff.mp h
   by_cases he0 : (j : Int) < e
   case neg => rw [if_neg he0] at h; cases h
   rw [if_pos he0] at h
   by_cases he1 : e ≤ (l0.length : Int)
   case neg => rw [if_neg he1] at h; cases h
   rw [if_pos he1] at h
   obtain ⟨m, rfl⟩ : ∃ m : Nat, e = m := ⟨e.toNat, by omega⟩
   simp only [Int.toNat_natCast] at h
   obtain ⟨rfl, rfl⟩ := Prod.mk.inj (Option.some.inj h)
   clear h
   have HEN : Aside0 (∀ W, Below w.heap.size w W → Calls Try.prog 105 #[.slice A0 l0.length c0, .int .i64 j] W fun e w' => e = .returned (.int .i64 m) ∧ Drawn0 W w') := ⟨fun W hb => HEN0.out j m W he hb⟩
   clear he
   have hjm : j < m := by omega
   have hml : m ≤ l0.length := by omega
   clear he0 he1 hi0 hi1
   go_wp2_with (first | (go_at_call 104; refine (HOC.out _ HB4.out).mono ?_; rintro e w7 ⟨rfl, hb⟩; have HB5 := Aside0.mk (HB4.out.trans (hb.mono HB4.out.size)); have HNR7 := Aside0.mk (HNR.out.keep (hb.block g HNR.out.lt)); have hG7 := (hb.block w.heap.size (blk_lt HG.out)).trans HG.out; have hy0 : w7.cell? ⟨w.heap.size, 0, none⟩ = some (.int .i64 2) := (blk_cell hG7 0).trans rfl; have hy2 : w7.cell? ⟨w.heap.size, 2, none⟩ = some (.int .i64 a2) := (blk_cell hG7 2).trans rfl; clear hb hG7))
   go_loopw [11] (fun x wr => ∃ xx : Nat, j + 1 ≤ xx ∧ xx ≤ m ∧ x = .int .i64 xx ∧ Aside0 (NR wr w4.drew.heap.size g cap (shiftL lessDeep (j + 1) xx l0)) ∧ Aside0 (Below w.heap.size w wr)) (fun x _ => m - (intOf x).toNat)
   case atStart => exact ⟨j + 1, by omega, by omega, by go_num, ⟨by rw [shiftL_none]; exact HNR7.out⟩, HB5⟩
   case round =>
    obtain ⟨xx, hx1, hx2, rfl, HNx, HBx⟩ := hrel
    by_cases hlt : xx < m
    ·have hxl : xx < l0.length := by omega
     have hltz : (xx : Int) < (m : Int) := by omega
     go_wp2_with (first | (go_at_call 105; refine (HEN.out _ HBx.out).mono ?_; rintro e w8 ⟨rfl, hd⟩; obtain ⟨⟨nd, rfl⟩⟩ := hd; have hxc : (wr.drewN nd).cell? ⟨g, xx * 2 + 1, none⟩ = some (.int .i64 (l0[xx].f1)) := ((HNx.out.drew nd).cell (show (shiftL lessDeep (j + 1) xx l0)[xx]? = some l0[xx] by rw [shiftL_get, List.getElem?_eq_getElem hxl]; show some (if j + 1 ≤ xx ∧ xx < xx then _ else _) = _; rw [if_neg (by omega)])).2; have hxf := (HNx.out.drew nd).frozen (xx * 2 + 1)))
     have hN9 := NR.deep lessDeep (fun x => wrap64 (x.f1 - 1)) (fun _ => rfl) (HNx.out.drew nd) hx1 (List.getElem?_eq_getElem hxl)
     go_roundw
     case rel => exact ⟨xx + 1, by omega, by omega, by go_num, ⟨hN9⟩, ⟨(pw_below_drewN HBx.out nd).setCell hg _⟩⟩
     case measure => simp [intOf]; omega
    ·obtain rfl : xx = m := by omega
     have hDel := fun W (hN : NR W w4.drew.heap.size g cap (shiftL lessDeep (j + 1) xx l0)) => Delete_calls W w4.drew.heap.size g cap j (j + 1) (shiftL lessDeep (j + 1) xx l0) hN (by omega) (by rw [shiftL_len]; omega) (by have := hN.mx; unfold maxLen at this; omega)
     simp only [shiftL_len] at hDel
     have HDel := Aside0.mk hDel
     have hrt : ((j + 1 : Nat) : Int) = (j : Int) + 1 := by omega
     clear hDel
     go_wp2_with (first | (go_at_call 105; refine (HEN.out _ HBx.out).mono ?_; rintro e w8 ⟨rfl, hd⟩; obtain ⟨⟨nd, rfl⟩⟩ := hd) | (go_at_call 106; refine (HDel.out _ (HNx.out.drew nd)).mono ?_; rintro e w9 ⟨rfl, hN9, q, cs, rfl⟩; have HN9 := Aside0.mk hN9; clear hN9))
     have ho9 := HN9.out.own
     have hlen : (List.take j (shiftL lessDeep (j + 1) xx l0) ++ List.drop (j + 1) (shiftL lessDeep (j + 1) xx l0)).length = j + (l0.length - (j + 1)) := by rw [List.length_append, List.length_take, List.length_drop, shiftL_len]; omega
     rw [hlen] at ho9
     go_ret2
     exact ⟨_, rfl, Kd.R_lower ho9 hbl, (by first | exact pw_below_grown HBx.out (some g) HBx.out.size (grown_setRow wr (nd + q) g cs) (fun y hy => by cases hy; exact hg) | exact pw_below_grown (pw_below_drewN HBx.out nd) (some g) HBx.out.size (grown_setRow (wr.drewN nd) q g cs) (fun y hy => by cases hy; exact hg))⟩
  case neg =>
  rw [if_neg ha2] at h
  by_cases hf0 : 0 ≤ q2
  case neg => rw [if_neg hf0] at h; cases h
  rw [if_pos hf0] at h
  by_cases hf1 : q2 ≤ q3
  case neg => rw [if_neg hf1] at h; cases h
  rw [if_pos hf1] at h
  by_cases hf2 : q3 ≤ (l0.length : Int)
  case neg => rw [if_neg hf2] at h; cases h
  rw [if_pos hf2] at h
  obtain ⟨fr, rfl⟩ : ∃ fr : Nat, q2 = fr := ⟨q2.toNat, by omega⟩
  obtain ⟨to_, rfl⟩ : ∃ to_ : Nat, q3 = to_ := ⟨q3.toNat, by omega⟩
  simp only [Int.toNat_natCast] at h
  obtain ⟨rfl, rfl⟩ := Prod.mk.inj (Option.some.inj h)
  clear h
  have hft : fr ≤ to_ := by omega
  have htl : to_ ≤ l0.length := by omega
  clear hf0 hf1 hf2
  have hji0 : (0 : Int) ≤ (j : Int) := by omega
  have hji1 : (j : Int) < (l0.length : Int) := by omega
  obtain ⟨ada, ea, hya0, hya⟩ := at_T90 HR0.out (j : Int) hji0 hji1
  subst ea
  clear hya0
  have HYA := Aside0.mk hya
  clear hya
  have hd1 : (a0 == 1) = false := by simpa using ha1
  have hd2 : (a0 == 2) = false := by simpa using ha2
  go_wp2_with (first | (go_at_call 104; refine (HOC.out _ HB4.out).mono ?_; rintro e w7 ⟨rfl, hb⟩; have HB5 := Aside0.mk (HB4.out.trans (hb.mono HB4.out.size)); have HNR7 := Aside0.mk (HNR.out.keep (hb.block g HNR.out.lt)); have hG7 := (hb.block w.heap.size (blk_lt HG.out)).trans HG.out; have hy0 : w7.cell? ⟨w.heap.size, 0, none⟩ = some (.int .i64 a0) := (blk_cell hG7 0).trans rfl; have hy2 : w7.cell? ⟨w.heap.size, 2, none⟩ = some (.int .i64 a2) := (blk_cell hG7 2).trans rfl; have HG7 := Aside0.mk hG7; clear hb hG7))
  go_loopw [12] (fun x wr => ∃ xx : Nat, fr ≤ xx ∧ xx ≤ to_ ∧ x = .int .i64 xx ∧ Aside0 (NR wr w4.drew.heap.size g cap (shiftL moreDeep fr xx l0)) ∧ Aside0 (Below w.heap.size w wr) ∧ Aside0 (wr.heap[w.heap.size]? = some (.cells #[.int .i64 a0, .slice A1 l1.length c1, .int .i64 a2, .int .i64 a3, .int .i64 a4] 67 (0, 0)))) (fun x _ => to_ - (intOf x).toNat)
  case atStart => exact ⟨fr, by omega, by omega, rfl, ⟨by rw [shiftL_none]; exact HNR7.out⟩, HB5, HG7⟩
  case round =>
   obtain ⟨xx, hx1, hx2, rfl, HNx, HBx, HGx⟩ := hrel
   by_cases hlt : xx < to_
   ·have hxl : xx < l0.length := by omega
    have hltz : (xx : Int) < (to_ : Int) := by omega
    have hxc : wr.cell? ⟨g, xx * 2 + 1, none⟩ = some (.int .i64 (l0[xx].f1)) := (HNx.out.cell (show (shiftL moreDeep fr xx l0)[xx]? = some l0[xx] by rw [shiftL_get, List.getElem?_eq_getElem hxl]; show some (if fr ≤ xx ∧ xx < xx then _ else _) = _; rw [if_neg (by omega)])).2
    have hxf := HNx.out.frozen (xx * 2 + 1)
    go_wp2
    have hN9 := NR.deep moreDeep (fun x => wrap64 (x.f1 + 1)) (fun _ => rfl) HNx.out hx1 (List.getElem?_eq_getElem hxl)
    have hG9 : (wr.setCell ⟨g, xx * 2 + 1, none⟩ (.int .i64 (wrap64 (l0[xx].f1 + 1)))).heap[w.heap.size]? = some (.cells #[.int .i64 a0, .slice A1 l1.length c1, .int .i64 a2, .int .i64 a3, .int .i64 a4] 67 (0, 0)) := ((show Below (w.heap.size + 1) wr (wr.setCell ⟨g, xx * 2 + 1, none⟩ (.int .i64 (wrap64 (l0[xx].f1 + 1)))) from (Below.refl (w.heap.size + 1) wr).setCell (show w.heap.size + 1 ≤ g by omega) _).block w.heap.size (by omega)).trans HGx.out
    go_roundw
    case rel => exact ⟨xx + 1, by omega, by omega, by go_num, ⟨hN9⟩, ⟨HBx.out.setCell hg _⟩, ⟨hG9⟩⟩
    case measure => simp [intOf]; omega
   ·obtain rfl : xx = to_ := by omega
    have hyr := (HBx.out.cell (World.block_lt_of_cell? w _ HYA.out)).trans HYA.out
    rw [Int.toNat_natCast] at hyr
    have hz2r : wr.cell? ⟨w.heap.size, 2, none⟩ = some (.int .i64 a2) := (blk_cell HGx.out 2).trans rfl
    have hfz : fr ≤ l0.length := by omega
    have hab : (ada.add (j * 2)).block < w.heap.size := by
     have := World.block_lt_of_cell? w _ HYA.out
     rw [Int.toNat_natCast] at this
     exact this
    clear hz0 hz1 hz2 hz3 hz4
    go_upto_region 12 with (fail)
    refine start_ (n := 14) (S := fun w' => w'.cell? ⟨w.heap.size, 2, none⟩ = some (.int .i64 a2) ∧ w'.cell? ⟨(ada.add (j * 2)).block, (ada.add (j * 2)).off + 1, none⟩ = some (.int .i64 (rd_T90 l0 (j : Int)).f1)) (ds := []) (ba_ 14 0) (by kernel_rfl) rfl rfl ⟨hz2r, hyr⟩ (fun hHeld => ?_)
    refine pu_ 0 (some 51) (ba_ 14 1) rfl rfl (by kernel_rfl) ?_
    refine pu_ 1 (some 52) (ba_ 14 3) rfl rfl (by kernel_rfl) ?_
    refine pu_ 2 (some 53) (ba_ 14 7) rfl rfl (by kernel_rfl) ?_
    refine pu_ 4 (some 55) (ba_ 14 23) rfl rfl (by kernel_rfl) ?_
    refine pu_ 5 (some 56) (ba_ 14 55) rfl rfl (by kernel_rfl) ?_
    refine pu_ 6 (some 57) (ba_ 14 119) rfl rfl (by kernel_rfl) ?_
    refine pu_ 7 (some 58) (ba_ 14 247) rfl rfl (by kernel_rfl) ?_
    refine ta_ 3 (some 54) (ba_ 14 255) rfl rfl (by kernel_rfl) hHeld (by rintro w' ⟨s0, s1⟩; go_simp; with_reducible rfl) ?_
    refine ta_ 8 (some 59) (ba_ 14 511) rfl rfl (by kernel_rfl) hHeld (by rintro w' ⟨s0, s1⟩; go_simp; with_reducible rfl) ?_
    refine pu_ 9 (some 60) (ba_ 14 1023) rfl rfl (by kernel_rfl) ?_
    refine pu_ 10 (some 61) (ba_ 14 2047) rfl rfl (by kernel_rfl) ?_
    refine one_ (i := 11) (N := some 62) (ba_ 14 4095) rfl rfl (by kernel_rfl) (by decide) (fun K hK => ?_)
    refine Kd.R_lit_step k90 _ 90 ?hg (N := 62) ?hd (xs := ([⟨a2, wrap64 ((rd_T90 l0 (j : Int)).f1 + 1)⟩] : List NdI)) (inner := [.int .i64 a2, .int .i64 (wrap64 ((rd_T90 l0 (j : Int)).f1 + 1))]) (ok := fun _ => True) (okp := fun _ => True) ?hr ?hp (fun _ hk => hk) trivial (Below.refl _ _) (Nat.le_refl _) (by simp) ?_
    (case hd => rfl)
    (case hg => rfl)
    (case hr => first | (go_simp; done) | (go_simp; rfl))
    (case hp => exact (Reps.c2 (show Kd.M k90 _ _ _ (⟨a2, wrap64 ((rd_T90 l0 (j : Int)).f1 + 1)⟩ : NdI) [.int .i64 a2, .int .i64 (wrap64 ((rd_T90 l0 (j : Int)).f1 + 1))] from (k90_mkM _ _ _ (⟨a2, wrap64 ((rd_T90 l0 (j : Int)).f1 + 1)⟩ : NdI))) (Reps.none _ _)))
    intro v9 w9 ho9 hb9 hg_ hnew_
    clear hg_ hnew_
    obtain ⟨vb, vc, rfl, hV9⟩ := NR.of ho9 (by simp)
    clear ho9
    simp only [List.length_singleton]
    have HV9 := Aside0.mk hV9
    have HN9 := Aside0.mk ((HNx.out.drew 1).keep (w1 := w9) (hb9.block g (show g < _ from HNx.out.lt)))
    have HB9 := Aside0.mk ((pw_below_drewN HBx.out 1).trans (hb9.mono HBx.out.size))
    refine hK.out _ _ ⟨pw_cell_below hb9 hHeld.1, pw_cell_below hb9 hHeld.2⟩ (fun hHeld => ?_)
    clear hb9 hV9
    clear hK K
    refine norm_ (a' := ?_) ?_ ?_
    rotate_left
    ·show Act.put _ (some 62) _ = _
     simp only [Act.put, List.setIfInBounds_toArray, List.set_cons_zero, List.set_cons_succ, i64_w, i32_w]
     rfl
    refine one_ (i := 12) (N := some 63) (ba_ 14 8191) rfl rfl (by kernel_rfl) (by decide) (fun K hK => ?_)
    refine goes_ Try.func107 (by kernel_rfl) rfl #[.slice (some ⟨g, 0, none⟩) l0.length cap, .int .i64 fr, .slice (some ⟨vb, 0, none⟩) 1 vc] (by rfl) rfl rfl (by (try simp only [List.map_toArray, List.map_cons, List.map_nil]); first | done | rfl) ?_
    have hgl := HNx.out.lt
    have hgb := HNx.out.le
    have hvb : wr.heap.size ≤ vb := HV9.out.le
    have hIns := Insert_calls w9 w4.drew.heap.size g cap vb vc fr (shiftL moreDeep fr xx l0) _ HN9.out ⟨by omega, HV9.out.fits, HV9.out.mx, HV9.out.row⟩ (by omega) (by rw [shiftL_len]; omega) (by rw [shiftL_len]; omega) (by rw [shiftL_len]; omega)
    simp only [shiftL_len] at hIns
    refine hIns.mono ?_
    rintro e w10 ⟨g', cap', rfl, hN10, hgr⟩
    refine ⟨_, rfl, ?_⟩
    have HN10 := Aside0.mk hN10
    have HB10 := Aside0.mk (pw_below_grown HB9.out (some g) HB9.out.size hgr (fun y hy => by cases hy; exact hg))
    refine hK.out _ _ ⟨cell_grown hgr hHeld.1 (by intro hq; injection hq with hq; simp only at hq; omega), cell_grown hgr hHeld.2 (by intro hq; injection hq with hq; simp only at hq; omega)⟩ (fun hHeld => ?_)
    clear hN10 hIns hgr
    clear hK K
    refine norm_ (a' := ?_) ?_ ?_
    rotate_left
    ·show Act.put _ (some 63) _ = _
     simp only [Act.put, List.setIfInBounds_toArray, List.set_cons_zero, List.set_cons_succ, i64_w, i32_w]
     rfl
    refine pu_ 13 (some 6) (ba_ 14 16383) rfl rfl (by kernel_rfl) ?_
    refine done_ (by kernel_rfl) ?_
    go_wp2
    have ho10 := HN10.out.own
    have hlen : (List.take fr (shiftL moreDeep fr xx l0) ++ [(⟨a2, wrap64 ((rd_T90 l0 (j : Int)).f1 + 1)⟩ : NdI)] ++ List.drop fr (shiftL moreDeep fr xx l0)).length = l0.length + 1 := by rw [List.length_append, List.length_append, List.length_take, List.length_drop, shiftL_len, List.length_singleton]; omega
    rw [hlen] at ho10
    go_ret2
    exact ⟨_, rfl, Kd.R_lower ho10 hbl, HB10.out⟩
end Go.Proofs.Ytbifdckfglejkaa.X
namespace Go.Proofs.Ytbifdckfglejkaa.X
open Go.RowKit Go.Proofs.YtbifdckfglejkaaW.PrintWords Go.Proofs.YtbifdckfglejkaaW.PrintLast Go.Proofs.YtbifdckfglejkaaW.PrintMore
attribute [local go_sem] max2_int min2_int max_two min_two max_three min_three max_four min_four   -- for this text's walks alone
set_option linter.unusedVariables false
set_option linter.unusedSimpArgs false
mutual
def impl_ScriptCost.j0 : Nat → List (S90) → List (S67) → Bool → List Int → List Int → List Int → Option (Int)
 | 0, _, _, _, _, _, _ => none
 | k + 1, x0, x1, x21, x1148000, x1148001, x1148002 => if x21 = true then (some (-1)) else ((clone_Node.f x0).bind fun t1150 => (impl_ScriptCost.l0 k 0 t1150 x1 (x1.length : Int) 0 x1148000 x1148001 x1148002))
def impl_ScriptCost.l0 : Nat → Int → List (S90) → List (S67) → Int → Int → List Int → List Int → List Int → Option (Int)
 | 0, _, _, _, _, _, _, _, _ => none
 | k + 1, x7, x8, x24, x25, x26, x1148000, x1148001, x1148002 => if x26 < x25 then (if 0 ≤ x26 then (if x26 < (x24.length : Int) then ((impl_NodeAt.f k x8 ((rd_T67 x24 x26).f1)).bind fun t1155 => ((impl_ApplyOp.f k x8 ((rd_T67 x24 x26).f0) ((rd_T67 x24 x26).f1) ((rd_T67 x24 x26).f2) ((rd_T67 x24 x26).f3) ((rd_T67 x24 x26).f4)).bind fun bt1156 => (if bt1156.2 = 0 then (if ((rd_T67 x24 x26).f0) = 1 then (if 0 ≤ t1155 then (if t1155 < (x8.length : Int) then ((impl_RelCost.f k x1148000 x1148001 x1148002 ((rd_T90 x8 t1155).f0) ((rd_T67 x24 x26).f2)).bind fun t1161 => (impl_ScriptCost.l0 k (wrap64 (x7 + t1161)) bt1156.1 x24 x25 (wrap64 (x26 + 1)) x1148000 x1148001 x1148002)) else (none)) else (none)) else (if ((rd_T67 x24 x26).f0) = 2 then (if 0 ≤ t1155 then (if t1155 < (x8.length : Int) then ((impl_DelCost.f k x1148000 x1148001 x1148002 ((rd_T90 x8 t1155).f0)).bind fun t1163 => (impl_ScriptCost.l0 k (wrap64 (x7 + t1163)) bt1156.1 x24 x25 (wrap64 (x26 + 1)) x1148000 x1148001 x1148002)) else (none)) else (none)) else ((impl_InsCost.f k x1148000 x1148001 x1148002 ((rd_T67 x24 x26).f2)).bind fun t1164 => (impl_ScriptCost.l0 k (wrap64 (x7 + t1164)) bt1156.1 x24 x25 (wrap64 (x26 + 1)) x1148000 x1148001 x1148002)))) else (some (-1))))) else (none)) else (none)) else (some x7)
end
def impl_ScriptCost.f (k : Nat) (l0 : List (S90)) (l1 : List (S67)) (l2_0 : List Int) (l2_1 : List Int) (l2_2 : List Int) : Option (Int) := (impl_TreeOk.f k l0).bind fun t1148 => (if t1148 = true then ((impl_CostOk.f k l2_0 l2_1 l2_2).bind fun t1149 => (impl_ScriptCost.j0 k l0 l1 (!t1149) l2_0 l2_1 l2_2)) else (impl_ScriptCost.j0 k l0 l1 true l2_0 l2_1 l2_2))
def impl_ScriptCost.T14 : Bool × List (List Nat × List Nat) := (true, [([], []), ([], []), ([], []), ([], []), ([2, 3], [2, 3]), ([4], [4]), ([5], [5]), ([], []), ([7], [7]), ([1, 6, 8], [1, 6, 8]), ([0, 9], [0, 9]), ([10, 9, 0, 1, 2, 3, 4, 5, 6, 7, 8, 9, 10], [0, 10])])
def impl_ScriptCost.B14 : List Nat := [0, 0, 0, 0, 12, 28, 60, 0, 128, 510, 1023, 2047]
theorem impl_ScriptCost.tab14 : rtab .any (opsOf Try.f56 14) = impl_ScriptCost.T14 := by kernel_rfl
theorem impl_ScriptCost.bits14 : waitsOk impl_ScriptCost.T14.2 impl_ScriptCost.B14 = true := by kernel_rfl
def impl_ScriptCost.T16 : Bool × List (List Nat × List Nat) := (true, [([], []), ([], []), ([], []), ([], []), ([2, 3], [2, 3]), ([4], [4]), ([5], [5]), ([1, 6], [1, 6]), ([0, 7], [0, 7]), ([8, 7, 0, 1, 2, 3, 4, 5, 6, 7, 8], [0, 8])])
def impl_ScriptCost.B16 : List Nat := [0, 0, 0, 0, 12, 28, 60, 126, 255, 511]
theorem impl_ScriptCost.tab16 : rtab .any (opsOf Try.f56 16) = impl_ScriptCost.T16 := by kernel_rfl
theorem impl_ScriptCost.bits16 : waitsOk impl_ScriptCost.T16.2 impl_ScriptCost.B16 = true := by kernel_rfl
set_option maxHeartbeats 8000000 in
set_option maxRecDepth 100000 in
theorem impl_ScriptCost.calls (k : Nat) (A0 : Option Addr) (c0 : Nat) (l0 : List (S90)) (A1 : Option Addr) (c1 : Nat) (l1 : List (S67)) (A2_0 : Option Addr) (c2_0 : Nat) (l2_0 : List Int) (A2_1 : Option Addr) (c2_1 : Nat) (l2_1 : List Int) (A2_2 : Option Addr) (c2_2 : Nat) (l2_2 : List Int) (r : Int) (w : World) (hr0 : Kd.C k90 w A0 l0.length l0) (hc0 : l0.length ≤ c0) (hr1 : Kd.C k67 w A1 l1.length l1) (hc1 : l1.length ≤ c1) (hr2_0 : Kd.C (Kd.int .i64) w A2_0 l2_0.length l2_0) (hc2_0 : l2_0.length ≤ c2_0) (hr2_1 : Kd.C (Kd.int .i64) w A2_1 l2_1.length l2_1) (hc2_1 : l2_1.length ≤ c2_1) (hr2_2 : Kd.C (Kd.int .i64) w A2_2 l2_2.length l2_2) (hc2_2 : l2_2.length ≤ c2_2) (h : impl_ScriptCost.f k l0 l1 l2_0 l2_1 l2_2 = some r) :
  Calls Try.prog 56 #[.slice A0 l0.length c0, .slice A1 l1.length c1, .agg #[.slice A2_0 l2_0.length c2_0, .slice A2_1 l2_1.length c2_1, .slice A2_2 l2_2.length c2_2]] w fun e w' => e = .returned (.int .i64 r) ∧ Below w.heap.size w w' := by
 have hu53 := Try.underlying53
 have hu67 := Try.underlying67
 have HR0 := Aside0.mk hr0
 have HC0 := Aside0.mk hc0
 clear hr0 hc0
 have HR1 := Aside0.mk hr1
 have HC1 := Aside0.mk hc1
 clear hr1 hc1
 have HR2_0 := Aside0.mk hr2_0
 have HC2_0 := Aside0.mk hc2_0
 clear hr2_0 hc2_0
 have HR2_1 := Aside0.mk hr2_1
 have HC2_1 := Aside0.mk hc2_1
 clear hr2_1 hc2_1
 have HR2_2 := Aside0.mk hr2_2
 have HC2_2 := Aside0.mk hc2_2
 clear hr2_2 hc2_2
 have HB := Aside0.mk (Below.refl w.heap.size w)
 have H : ((impl_TreeOk.f k l0).bind fun t1148 => (if t1148 = true then ((impl_CostOk.f k l2_0 l2_1 l2_2).bind fun t1149 => (impl_ScriptCost.j0 k l0 l1 (!t1149) l2_0 l2_1 l2_2)) else (impl_ScriptCost.j0 k l0 l1 true l2_0 l2_1 l2_2))) = some r := h
 clear h
 have HC4 := Aside0.mk H
 clear H
 go_enter Try.func56, Try.ntmps56
 go_upto_region 1 with (first | ((with_reducible refine gate_dst (N := 5) rfl ?_); refine bx_ 5 #[.slice A2_0 l2_0.length c2_0, .slice A2_1 l2_1.length c2_1, .slice A2_2 l2_2.length c2_2] 53 ?_; intro gb1147 hg w5 hbox hb; have BK1147 := Aside0.mk (hbox); have GW1147 := Aside0.mk ((by rw [hg]; exact (bs_ HB) : w.heap.size ≤ gb1147)); have GE1147 := Aside0.mk ((by rw [hg]; exact (bs_ HB) : w.heap.size ≤ gb1147)); replace HB := tB_ HB hb; clear hb hbox hg))
 (try simp only [Act.put, List.setIfInBounds_toArray, List.set_cons_zero, List.set_cons_succ])
 go_cut [21] (fun v21 wc => ∃ (kq : Nat) (x21_3 : Bool), v21 = .bool x21_3 ∧ Aside0 (impl_ScriptCost.j0 kq l0 l1 x21_3 l2_0 l2_1 l2_2 = some r) ∧ Aside0 (kq ≤ k) ∧ Aside0 (wc.heap[gb1147]? = some (.cells #[(.slice A2_0 l2_0.length c2_0), (.slice A2_1 l2_1.length c2_1), (.slice A2_2 l2_2.length c2_2)] 53 (0, 0))) ∧ Aside0 (Below w.heap.size w wc))
 case first =>
  have H := HC4.out
  clear HC4
  replace H := Option.bind_eq_some_iff.mp H
  obtain ⟨t1148, A60, H⟩ := H
  try dsimp only at H
  have A6 := Aside0.mk A60
  clear A60
  by_cases c7 : t1148 = true
  ·subst c7
   have H1 : ((impl_CostOk.f k l2_0 l2_1 l2_2).bind fun t1149 => (impl_ScriptCost.j0 k l0 l1 (!t1149) l2_0 l2_1 l2_2)) = some r := by rw [if_pos rfl] at H; exact H
   clear H
   have H := H1
   clear H1
   replace H := Option.bind_eq_some_iff.mp H
   obtain ⟨t1149, A80, H⟩ := H
   replace H : (impl_ScriptCost.j0 k l0 l1 (!t1149) l2_0 l2_1 l2_2) = some r := H
   have A8 := Aside0.mk A80
   clear A80
   have H' := Aside0.mk H
   clear H
   go_wp2_with (first | ((with_reducible refine gate_callee (f := 102) rfl ?_); refine gL_ (some 15) Try.func102 #[.slice A0 l0.length c0] ?_; (with_reducible refine (impl_TreeOk.calls k _ _ l0 true _ (cx_ HR0 HB) HC0.out A6.out).mono ?_); rintro e w9 ⟨rfl, hb⟩; refine ⟨_, rfl, ?_⟩; replace BK1147 := tK_ BK1147 hb; replace HB := tB_ HB hb; (try clear hb); obtain ⟨hcz10_0, hcz10_1, hcz10_2, hfz10_0, hfz10_1, hfz10_2⟩ := bk3_ BK1147) | (go_at_call 90; (with_reducible refine (impl_CostOk.calls k _ _ l2_0 _ _ l2_1 _ _ l2_2 t1149 _ (cx_ HR2_0 HB) HC2_0.out (cx_ HR2_1 HB) HC2_1.out (cx_ HR2_2 HB) HC2_2.out A8.out).mono ?_); rintro e w11 ⟨rfl, hb⟩; replace BK1147 := tK_ BK1147 hb; replace HB := tB_ HB hb; (try clear hb)))
   go_meet
   case rel => exact ⟨_, (!t1149), eb_, H', ⟨by first | omega | exact Nat.le_refl _⟩, ⟨kx_ BK1147.out⟩, bl_ HB⟩
  ·replace c7 := Bool.eq_false_iff.mpr c7
   subst c7
   have H1 : (impl_ScriptCost.j0 k l0 l1 true l2_0 l2_1 l2_2) = some r := by rw [if_neg (show ¬ (false = true) by decide)] at H; exact H
   clear H
   have H := H1
   clear H1
   have H' := Aside0.mk H
   clear H
   go_wp2_with (first | ((with_reducible refine gate_callee (f := 102) rfl ?_); refine gL_ (some 15) Try.func102 #[.slice A0 l0.length c0] ?_; (with_reducible refine (impl_TreeOk.calls k _ _ l0 false _ (cx_ HR0 HB) HC0.out A6.out).mono ?_); rintro e w12 ⟨rfl, hb⟩; refine ⟨_, rfl, ?_⟩; replace BK1147 := tK_ BK1147 hb; replace HB := tB_ HB hb; (try clear hb)))
   go_meet
   case rel => exact ⟨_, (true), eb_, H', ⟨by first | omega | exact Nat.le_refl _⟩, ⟨kx_ BK1147.out⟩, bl_ HB⟩
 case rest =>
  clear HC4
  try clear c1
  try clear c2
  try clear p2
  try clear c5
  try clear c7
  try clear c10
  try clear hcz10_0
  try clear hcz10_1
  try clear hcz10_2
  try clear hfz10_0
  try clear hfz10_1
  try clear hfz10_2
  obtain ⟨kq, x21_3, rfl, HA, HJ3, BK1147, HB⟩ := hcut
  cases kq with
  | zero => exact absurd HA.out (by simp [impl_ScriptCost.j0])
  | succ kj3 =>
   have H := HA.out
   clear HA
   simp only [impl_ScriptCost.j0] at H
   by_cases c13 : x21_3 = true
   ·subst c13
    have H1 : (some (-1)) = some r := by rw [if_pos rfl] at H; exact H
    clear H
    have H := H1
    clear H1
    obtain rfl := Option.some.inj H
    go_wp2
    go_ret
    exact ⟨ea_, (bl_ HB).out⟩
   ·replace c13 := Bool.eq_false_iff.mpr c13
    subst c13
    have H1 : ((clone_Node.f l0).bind fun t1150 => (impl_ScriptCost.l0 kj3 0 t1150 l1 (l1.length : Int) 0 l2_0 l2_1 l2_2)) = some r := by rw [if_neg (show ¬ (false = true) by decide)] at H; exact H
    clear H
    have H := H1
    clear H1
    replace H := Option.bind_eq_some_iff.mp H
    obtain ⟨t1150, A140, H⟩ := H
    replace H : (impl_ScriptCost.l0 kj3 0 t1150 l1 (l1.length : Int) 0 l2_0 l2_1 l2_2) = some r := H
    have A14 := Aside0.mk A140
    clear A140
    have H' := Aside0.mk H
    clear H
    go_wp2_with (first | ((with_reducible refine gate_callee (f := 103) rfl ?_); refine gL_ (some 23) Try.func103 #[.slice A0 l0.length c0] ?_; (with_reducible refine (clone_Node.calls _ _ l0 t1150 _ (cx_ HR0 HB) HC0.out A14.out).mono ?_); rintro e w15 ⟨v1151, rfl, ho0, hb⟩; refine ⟨_, rfl, ?_⟩; have HO1152 := Aside0.mk (Kd.R_lower ho0 (bs_ HB)); replace BK1147 := tK_ BK1147 hb; replace HB := tB_ HB hb; (try clear hb); (try clear ho0)))
    go_loopg [7, 8, 26] kj3 (fun kq v7 v8 v26 w' => ∃ (x7_2 : Int) (x8_2 : List (S90)) (x26_2 : Int), v7 = .int .i64 x7_2 ∧ v26 = .int .i64 x26_2 ∧ Aside0 (impl_ScriptCost.l0 kq x7_2 x8_2 l1 (l1.length : Int) x26_2 l2_0 l2_1 l2_2 = some r) ∧ Aside0 (kq ≤ kj3) ∧ Aside0 (Kd.R k90 90 w' w.heap.size (fun _ => True) v8 x8_2) ∧ Aside0 (w'.heap[gb1147]? = some (.cells #[(.slice A2_0 l2_0.length c2_0), (.slice A2_1 l2_1.length c2_1), (.slice A2_2 l2_2.length c2_2)] 53 (0, 0))) ∧ Aside0 (Below w.heap.size w w'))
    case atStart => exact ⟨(0), (t1150), (0), eb_, eb_, H', ⟨Nat.le_refl _⟩, ⟨rx_ HO1152.out⟩, ⟨kx_ BK1147.out⟩, bl_ HB⟩
    case round =>
     clear H'
     try clear c1
     try clear c2
     try clear p2
     try clear c5
     try clear c7
     try clear c10
     try clear c13
     try clear hcz10_0
     try clear hcz10_1
     try clear hcz10_2
     try clear hfz10_0
     try clear hfz10_1
     try clear hfz10_2
     try clear p2
     obtain ⟨x7_2, x8_2, x26_2, rfl, rfl, HA, HK2, HO_8, BK1147, HB⟩ := hrel
     cases gk with
     | zero => exact absurd HA.out (by simp [impl_ScriptCost.l0])
     | succ k2 =>
      have H := HA.out
      clear HA
      simp only [impl_ScriptCost.l0] at H
      by_cases c16 : x26_2 < (l1.length : Int)
      ·rw [if_pos c16] at H
       have c16b0 : decide (x26_2 < (l1.length : Int)) = true := decide_eq_true c16
       clear c16
       by_cases c17 : 0 ≤ x26_2
       ·rw [if_pos c17] at H
        have c17b0 : decide (0 ≤ x26_2) = true := decide_eq_true c17
        clear c17
        by_cases c18 : x26_2 < (l1.length : Int)
        ·rw [if_pos c18] at H
         have c18b0 : decide (x26_2 < (l1.length : Int)) = true := decide_eq_true c18
         clear c18
         replace H := Option.bind_eq_some_iff.mp H
         obtain ⟨t1155, A190, H⟩ := H
         try dsimp only at H
         have A19 := Aside0.mk A190
         clear A190
         replace H := Option.bind_eq_some_iff.mp H
         obtain ⟨⟨t1156, t1159⟩, A200, H⟩ := H
         try dsimp only at H
         have A20 := Aside0.mk A200
         clear A200
         by_cases c21 : t1159 = 0
         ·rw [if_pos c21] at H
          have c21b0 : (t1159 == 0) = true := beq_iff_eq.mpr c21
          have c21b1 : (t1159 != 0) = false := bne_eq_false_iff_eq.mpr c21
          clear c21
          by_cases c22 : ((rd_T67 l1 x26_2).f0) = 1
          ·rw [if_pos c22] at H
           have c22b0 : (((rd_T67 l1 x26_2).f0) == 1) = true := beq_iff_eq.mpr c22
           have c22b1 : (((rd_T67 l1 x26_2).f0) != 1) = false := bne_eq_false_iff_eq.mpr c22
           clear c22
           by_cases c23 : 0 ≤ t1155
           ·rw [if_pos c23] at H
            have c23b0 : decide (0 ≤ t1155) = true := decide_eq_true c23
            clear c23
            by_cases c24 : t1155 < (x8_2.length : Int)
            ·rw [if_pos c24] at H
             have c24b0 : decide (t1155 < (x8_2.length : Int)) = true := decide_eq_true c24
             clear c24
             replace H := Option.bind_eq_some_iff.mp H
             obtain ⟨t1161, A250, H⟩ := H
             try dsimp only at H
             have A25 := Aside0.mk A250
             clear A250
             have H' := Aside0.mk H
             clear H
             have p1153 : 0 ≤ (x26_2 : Int) := od_
             have q1153 : x26_2 < (l1.length : Int) := od_
             obtain ⟨ad1153, A1153_1, c1153_1, e1153, hx1153_0, hx1153_1, hx1153_2, hx1153_3, hx1153_4, hl1153_1, hi1153_1⟩ := at_T67 HR1.out x26_2 p1153 q1153
             cases e1153
             replace hx1153_0 := ce_ HB hx1153_0
             replace hx1153_1 := ce_ HB hx1153_1
             replace hx1153_2 := ce_ HB hx1153_2
             replace hx1153_3 := (HB.out.cell (World.block_lt_of_cell? w _ hx1153_3)).trans hx1153_3
             replace hx1153_4 := (HB.out.cell (World.block_lt_of_cell? w _ hx1153_4)).trans hx1153_4
             have HR1153_1 := Aside0.mk hi1153_1
             have HC1153_1 := Aside0.mk hl1153_1
             clear hi1153_1 hl1153_1
             replace p1153 := eq_true p1153
             replace q1153 := eq_true q1153
             try go_wp2_with (first | ((with_reducible refine gate_dst (N := 10) rfl ?_); refine box_event ?hg (N := 10) ?hd (cs := #[.int .i64 0, .slice none 0 0, .int .i64 0, .int .i64 0, .int .i64 0]) (t := 67) ?hr ?_; (case hd => rfl); (case hg => rfl); (case hr => first | (go_simp; done) | (go_simp; rfl)); intro gb1154 hg w26 hbox hb; have n0_ := Aside0.mk (Kd.R_below (by (with_reducible repeat (first | apply Kd.R_alloc | apply Kd.R_drewN | apply Kd.R_drew)); exact HO_8.out) hb); have n1_ := Aside0.mk (blk_below (g := gb1147) (o := .cells #[.slice A2_0 l2_0.length c2_0, .slice A2_1 l2_1.length c2_1, .slice A2_2 l2_2.length c2_2] 53 (0, 0)) (by (with_reducible repeat (first | refine blk_drewN ?_ _ | refine blk_drew ?_ | refine blk_alloc ?_ _)); exact BK1147.out) hb); have n2_ := Aside0.mk (below_step (by repeat (first | (with_reducible first | exact HB.out | apply below_alloc | apply pw_below_drewN | apply below_drew1 | refine below_set ?_ GE1147.out) | exact HB.out)) hb); have n3_ := Aside0.mk (hbox); have n4_ := Aside0.mk ((by rw [hg]; exact (below_size (by repeat (first | (with_reducible first | exact HB.out | apply below_alloc | apply pw_below_drewN | apply below_drew1 | refine below_set ?_ GE1147.out) | exact HB.out))) : w.heap.size ≤ gb1154)); have n5_ := Aside0.mk ((by rw [hg]; exact (below_size (by repeat (first | (with_reducible first | exact HB.out | apply below_alloc | apply pw_below_drewN | apply below_drew1 | refine below_set ?_ GE1147.out) | exact HB.out))) : w.heap.size ≤ gb1154)); have n6_ := Aside0.mk ((by rw [hg]; exact Nat.ne_of_lt (blk_lt (g := gb1147) (o := .cells #[.slice A2_0 l2_0.length c2_0, .slice A2_1 l2_1.length c2_1, .slice A2_2 l2_2.length c2_2] 53 (0, 0)) (by (with_reducible repeat (first | refine blk_drewN ?_ _ | refine blk_drew ?_ | refine blk_alloc ?_ _)); exact BK1147.out)) : gb1147 ≠ gb1154)); have n7_ := Aside0.mk ((by rw [hg]; exact Nat.ne_of_gt (blk_lt (g := gb1147) (o := .cells #[.slice A2_0 l2_0.length c2_0, .slice A2_1 l2_1.length c2_1, .slice A2_2 l2_2.length c2_2] 53 (0, 0)) (by (with_reducible repeat (first | refine blk_drewN ?_ _ | refine blk_drew ?_ | refine blk_alloc ?_ _)); exact BK1147.out)) : gb1154 ≠ gb1147)); clear HO_8; clear BK1147; clear HB; have HO_8 := n0_; have BK1147 := n1_; have HB := n2_; have BK1154 := n3_; have GW1154 := n4_; have GE1154 := n5_; have NB1147_1154 := n6_; have NB1154_1147 := n7_; clear n0_ n1_ n2_ n3_ n4_ n5_ n6_ n7_; clear hb hbox hg; have hnb27 := NB1154_1147.out; have hnc27 := NB1147_1154.out; have hcz28_0 : w26.cell? ⟨gb1154, 0, none⟩ = some (.int .i64 0) := (blk_cell BK1154.out 0).trans rfl; have hcz28_1 : w26.cell? ⟨gb1154, 1, none⟩ = some (.slice none 0 0) := (blk_cell BK1154.out 1).trans rfl; have hcz28_2 : w26.cell? ⟨gb1154, 2, none⟩ = some (.int .i64 0) := (blk_cell BK1154.out 2).trans rfl; have hcz28_3 : w26.cell? ⟨gb1154, 3, none⟩ = some (.int .i64 0) := (blk_cell BK1154.out 3).trans rfl; have hcz28_4 : w26.cell? ⟨gb1154, 4, none⟩ = some (.int .i64 0) := (blk_cell BK1154.out 4).trans rfl; have hfz28_0 := blk_frozen BK1154.out 0; have hfz28_1 := blk_frozen BK1154.out 1; have hfz28_2 := blk_frozen BK1154.out 2; have hfz28_3 := blk_frozen BK1154.out 3; have hfz28_4 := blk_frozen BK1154.out 4; obtain ⟨Ao29, co29, eo29⟩ := Kd.R_slice HO_8.out; subst eo29) | ((with_reducible refine gate_callee (f := 78) rfl ?_); refine goesL_ (some 33) rfl rfl Try.func78 (by kernel_rfl) rfl #[.slice Ao29 x8_2.length co29, .slice A1153_1 ((rd_T67 l1 x26_2).f1).length c1153_1] rfl (by (try simp only [List.map_toArray, List.map_cons, List.map_nil]); first | done | rfl | (simp only [List.length_drop, List.length_take]; rfl)) ?_; (with_reducible refine (impl_NodeAt.calls k2 _ _ x8_2 _ _ ((rd_T67 l1 x26_2).f1) t1155 _ ?side1 ?side2 ?side3 ?side4 A19.out).mono ?_); (case side1 => refine (Kd.R_reads' (e := 90) (base := w.heap.size) (ok := fun k_ => True) (n := x8_2.length) (c := co29) ?_).2.2; exact (by (with_reducible repeat (first | apply Kd.R_alloc | apply Kd.R_drewN | apply Kd.R_drew)); exact (Kd.R_mono (Kd.R_far (p := ⟨gb1154, 4, none⟩) (Kd.R_far (p := ⟨gb1154, 3, none⟩) (Kd.R_far (p := ⟨gb1154, 2, none⟩) (Kd.R_far (p := ⟨gb1154, 1, none⟩) (Kd.R_far (p := ⟨gb1154, 0, none⟩) (Kd.R_types HO_8.out BK1154.out (by decide)) (fun _ hk => hk.2) (.int .i64 ((rd_T67 l1 x26_2).f0))) (fun _ hk => hk.2) (.slice A1153_1 ((rd_T67 l1 x26_2).f1).length c1153_1)) (fun _ hk => hk.2) (.int .i64 ((rd_T67 l1 x26_2).f2))) (fun _ hk => hk.2) (.int .i64 ((rd_T67 l1 x26_2).f3))) (fun _ hk => hk.2) (.int .i64 ((rd_T67 l1 x26_2).f4))) (fun _ h_ => h_.1)))); (case side2 => exact (Kd.R_reads' HO_8.out).2.1); (case side3 => exact Kd.C_below HR1153_1.out (by repeat (first | (with_reducible first | exact HB.out | apply below_alloc | apply pw_below_drewN | apply below_drew1 | refine below_set ?_ GE1147.out | refine below_set ?_ GE1154.out) | exact HB.out))); (case side4 => exact HC1153_1.out); rintro e w30 ⟨rfl, hb⟩; refine ⟨_, rfl, ?_⟩; have n0_ := Aside0.mk (Kd.R_below (by (with_reducible repeat (first | apply Kd.R_alloc | apply Kd.R_drewN | apply Kd.R_drew)); exact (Kd.R_mono (Kd.R_far (p := ⟨gb1154, 4, none⟩) (Kd.R_far (p := ⟨gb1154, 3, none⟩) (Kd.R_far (p := ⟨gb1154, 2, none⟩) (Kd.R_far (p := ⟨gb1154, 1, none⟩) (Kd.R_far (p := ⟨gb1154, 0, none⟩) (Kd.R_types HO_8.out BK1154.out (by decide)) (fun _ hk => hk.2) (.int .i64 ((rd_T67 l1 x26_2).f0))) (fun _ hk => hk.2) (.slice A1153_1 ((rd_T67 l1 x26_2).f1).length c1153_1)) (fun _ hk => hk.2) (.int .i64 ((rd_T67 l1 x26_2).f2))) (fun _ hk => hk.2) (.int .i64 ((rd_T67 l1 x26_2).f3))) (fun _ hk => hk.2) (.int .i64 ((rd_T67 l1 x26_2).f4))) (fun _ h_ => h_.1))) hb); have n1_ := Aside0.mk (blk_below (g := gb1147) (o := .cells #[.slice A2_0 l2_0.length c2_0, .slice A2_1 l2_1.length c2_1, .slice A2_2 l2_2.length c2_2] 53 (0, 0)) (by (with_reducible repeat (first | refine blk_drewN ?_ _ | refine blk_drew ?_ | refine blk_alloc ?_ _)); refine blk_far ?_ NB1147_1154.out _; (with_reducible repeat (first | refine blk_drewN ?_ _ | refine blk_drew ?_ | refine blk_alloc ?_ _)); refine blk_far ?_ NB1147_1154.out _; (with_reducible repeat (first | refine blk_drewN ?_ _ | refine blk_drew ?_ | refine blk_alloc ?_ _)); refine blk_far ?_ NB1147_1154.out _; (with_reducible repeat (first | refine blk_drewN ?_ _ | refine blk_drew ?_ | refine blk_alloc ?_ _)); refine blk_far ?_ NB1147_1154.out _; (with_reducible repeat (first | refine blk_drewN ?_ _ | refine blk_drew ?_ | refine blk_alloc ?_ _)); refine blk_far ?_ NB1147_1154.out _; (with_reducible repeat (first | refine blk_drewN ?_ _ | refine blk_drew ?_ | refine blk_alloc ?_ _)); exact BK1147.out) hb); have n2_ := Aside0.mk (blk_below (g := gb1154) (o := .cells #[.int .i64 ((rd_T67 l1 x26_2).f0), .slice A1153_1 ((rd_T67 l1 x26_2).f1).length c1153_1, .int .i64 ((rd_T67 l1 x26_2).f2), .int .i64 ((rd_T67 l1 x26_2).f3), .int .i64 ((rd_T67 l1 x26_2).f4)] 67 (0, 0)) (by (with_reducible repeat (first | refine blk_drewN ?_ _ | refine blk_drew ?_ | refine blk_alloc ?_ _)); refine blk_put (cs := #[.int .i64 ((rd_T67 l1 x26_2).f0), .slice A1153_1 ((rd_T67 l1 x26_2).f1).length c1153_1, .int .i64 ((rd_T67 l1 x26_2).f2), .int .i64 ((rd_T67 l1 x26_2).f3), .int .i64 0]) ?_ 4 _ rfl; (with_reducible repeat (first | refine blk_drewN ?_ _ | refine blk_drew ?_ | refine blk_alloc ?_ _)); refine blk_put (cs := #[.int .i64 ((rd_T67 l1 x26_2).f0), .slice A1153_1 ((rd_T67 l1 x26_2).f1).length c1153_1, .int .i64 ((rd_T67 l1 x26_2).f2), .int .i64 0, .int .i64 0]) ?_ 3 _ rfl; (with_reducible repeat (first | refine blk_drewN ?_ _ | refine blk_drew ?_ | refine blk_alloc ?_ _)); refine blk_put (cs := #[.int .i64 ((rd_T67 l1 x26_2).f0), .slice A1153_1 ((rd_T67 l1 x26_2).f1).length c1153_1, .int .i64 0, .int .i64 0, .int .i64 0]) ?_ 2 _ rfl; (with_reducible repeat (first | refine blk_drewN ?_ _ | refine blk_drew ?_ | refine blk_alloc ?_ _)); refine blk_put (cs := #[.int .i64 ((rd_T67 l1 x26_2).f0), .slice none 0 0, .int .i64 0, .int .i64 0, .int .i64 0]) ?_ 1 _ rfl; (with_reducible repeat (first | refine blk_drewN ?_ _ | refine blk_drew ?_ | refine blk_alloc ?_ _)); refine blk_put (cs := #[.int .i64 0, .slice none 0 0, .int .i64 0, .int .i64 0, .int .i64 0]) ?_ 0 _ rfl; (with_reducible repeat (first | refine blk_drewN ?_ _ | refine blk_drew ?_ | refine blk_alloc ?_ _)); exact BK1154.out) hb); have n3_ := Aside0.mk (below_step (by repeat (first | (with_reducible first | exact HB.out | apply below_alloc | apply pw_below_drewN | apply below_drew1 | refine below_set ?_ GE1147.out | refine below_set ?_ GE1154.out) | exact HB.out)) hb); clear HO_8; clear BK1147; clear BK1154; clear HB; have HO_8 := n0_; have BK1147 := n1_; have BK1154 := n2_; have HB := n3_; clear n0_ n1_ n2_ n3_; (try clear hb); (try clear hb2); (try clear hk); (try clear hi); have hcz31_0 : w30.cell? ⟨gb1154, 0, none⟩ = some (.int .i64 ((rd_T67 l1 x26_2).f0)) := (blk_cell BK1154.out 0).trans rfl; have hcz31_1 : w30.cell? ⟨gb1154, 1, none⟩ = some (.slice A1153_1 ((rd_T67 l1 x26_2).f1).length c1153_1) := (blk_cell BK1154.out 1).trans rfl; have hcz31_2 : w30.cell? ⟨gb1154, 2, none⟩ = some (.int .i64 ((rd_T67 l1 x26_2).f2)) := (blk_cell BK1154.out 2).trans rfl; have hcz31_3 : w30.cell? ⟨gb1154, 3, none⟩ = some (.int .i64 ((rd_T67 l1 x26_2).f3)) := (blk_cell BK1154.out 3).trans rfl; have hcz31_4 : w30.cell? ⟨gb1154, 4, none⟩ = some (.int .i64 ((rd_T67 l1 x26_2).f4)) := (blk_cell BK1154.out 4).trans rfl; have hfz31_0 := blk_frozen BK1154.out 0; have hfz31_1 := blk_frozen BK1154.out 1; have hfz31_2 := blk_frozen BK1154.out 2; have hfz31_3 := blk_frozen BK1154.out 3; have hfz31_4 := blk_frozen BK1154.out 4) | ((with_reducible refine gate_callee (f := 46) rfl ?_); refine goesL_ (some 37) rfl rfl Try.func46 (by kernel_rfl) rfl #[.slice Ao29 x8_2.length co29, .agg #[.int .i64 ((rd_T67 l1 x26_2).f0), .slice A1153_1 ((rd_T67 l1 x26_2).f1).length c1153_1, .int .i64 ((rd_T67 l1 x26_2).f2), .int .i64 ((rd_T67 l1 x26_2).f3), .int .i64 ((rd_T67 l1 x26_2).f4)]] rfl (by (try simp only [List.map_toArray, List.map_cons, List.map_nil]); first | done | rfl | (simp only [List.length_drop, List.length_take]; rfl)) ?_; (with_reducible refine (impl_ApplyOp.calls k2 _ _ x8_2 ((rd_T67 l1 x26_2).f0) _ _ ((rd_T67 l1 x26_2).f1) ((rd_T67 l1 x26_2).f2) ((rd_T67 l1 x26_2).f3) ((rd_T67 l1 x26_2).f4) t1156 t1159 _ ?side1 ?side2 ?side3 ?side4 A20.out).mono ?_); (case side1 => repeat (first | exact (Kd.R_reads' HO_8.out).2.2 | (with_reducible refine Kd.C_alloc ?_ _) | (with_reducible refine Kd.C_drewN ?_ _) | (with_reducible refine Kd.C_drew ?_))); (case side2 => exact (Kd.R_reads' HO_8.out).2.1); (case side3 => repeat (first | exact (Kd.C_below HR1153_1.out HB.out) | (with_reducible refine Kd.C_alloc ?_ _) | (with_reducible refine Kd.C_drewN ?_ _) | (with_reducible refine Kd.C_drew ?_))); (case side4 => exact HC1153_1.out); rintro e w32 ⟨v1157, rfl, ho0, hb⟩; refine ⟨_, rfl, ?_⟩; have n0_ := Aside0.mk (Kd.R_elder' (by (with_reducible repeat (first | apply Kd.R_alloc | apply Kd.R_drewN | apply Kd.R_drew)); exact HO_8.out) (Kd.R_base ho0) hb); have n1_ := Aside0.mk (Kd.R_lower (Kd.R_new' ho0 (Kd.R_lt (by (with_reducible repeat (first | apply Kd.R_alloc | apply Kd.R_drewN | apply Kd.R_drew)); exact HO_8.out))) (below_size (by repeat (first | (with_reducible first | exact HB.out | apply below_alloc | apply pw_below_drewN | apply below_drew1 | refine below_set ?_ GE1147.out | refine below_set ?_ GE1154.out) | exact HB.out)))); have n2_ := Aside0.mk (blk_below (g := gb1147) (o := .cells #[.slice A2_0 l2_0.length c2_0, .slice A2_1 l2_1.length c2_1, .slice A2_2 l2_2.length c2_2] 53 (0, 0)) (by (with_reducible repeat (first | refine blk_drewN ?_ _ | refine blk_drew ?_ | refine blk_alloc ?_ _)); exact BK1147.out) hb); have n3_ := Aside0.mk (blk_below (g := gb1154) (o := .cells #[.int .i64 ((rd_T67 l1 x26_2).f0), .slice A1153_1 ((rd_T67 l1 x26_2).f1).length c1153_1, .int .i64 ((rd_T67 l1 x26_2).f2), .int .i64 ((rd_T67 l1 x26_2).f3), .int .i64 ((rd_T67 l1 x26_2).f4)] 67 (0, 0)) (by (with_reducible repeat (first | refine blk_drewN ?_ _ | refine blk_drew ?_ | refine blk_alloc ?_ _)); exact BK1154.out) hb); have n4_ := Aside0.mk (below_step (by repeat (first | (with_reducible first | exact HB.out | apply below_alloc | apply pw_below_drewN | apply below_drew1 | refine below_set ?_ GE1147.out | refine below_set ?_ GE1154.out) | exact HB.out)) hb); clear HO_8; clear BK1147; clear BK1154; clear HB; have HO_8 := n0_; have HO1158 := n1_; have BK1147 := n2_; have BK1154 := n3_; have HB := n4_; clear n0_ n1_ n2_ n3_ n4_; (try clear hb); (try clear hb2); (try clear hk); (try clear hi); (try clear ho0); have hcz33_0 : w32.cell? ⟨gb1154, 0, none⟩ = some (.int .i64 ((rd_T67 l1 x26_2).f0)) := (blk_cell BK1154.out 0).trans rfl; have hcz33_1 : w32.cell? ⟨gb1154, 1, none⟩ = some (.slice A1153_1 ((rd_T67 l1 x26_2).f1).length c1153_1) := (blk_cell BK1154.out 1).trans rfl; have hcz33_2 : w32.cell? ⟨gb1154, 2, none⟩ = some (.int .i64 ((rd_T67 l1 x26_2).f2)) := (blk_cell BK1154.out 2).trans rfl; have hcz33_3 : w32.cell? ⟨gb1154, 3, none⟩ = some (.int .i64 ((rd_T67 l1 x26_2).f3)) := (blk_cell BK1154.out 3).trans rfl; have hcz33_4 : w32.cell? ⟨gb1154, 4, none⟩ = some (.int .i64 ((rd_T67 l1 x26_2).f4)) := (blk_cell BK1154.out 4).trans rfl; have hfz33_0 := blk_frozen BK1154.out 0; have hfz33_1 := blk_frozen BK1154.out 1; have hfz33_2 := blk_frozen BK1154.out 2; have hfz33_3 := blk_frozen BK1154.out 3; have hfz33_4 := blk_frozen BK1154.out 4))
             have n0_ := Aside0.mk (Kd.R_drew HO_8.out)
             have n1_ := Aside0.mk (Kd.R_drew HO1158.out)
             have n2_ := Aside0.mk (blk_drew BK1147.out)
             have n3_ := Aside0.mk (blk_drew BK1154.out)
             have n4_ := Aside0.mk (below_drew1 HB.out)
             clear HO_8
             clear HO1158
             clear BK1147
             clear BK1154
             clear HB
             have HO_8 := n0_
             have HO1158 := n1_
             have BK1147 := n2_
             have BK1154 := n3_
             have HB := n4_
             clear n0_ n1_ n2_ n3_ n4_
             have p1160 : 0 ≤ (t1155 : Int) := od_
             have q1160 : t1155 < (x8_2.length : Int) := od_
             obtain ⟨ad1160, e1160, hx1160_0, hx1160_1⟩ := at_T90 (Kd.R_reads' HO_8.out).2.2 t1155 p1160 q1160
             cases e1160
             replace p1160 := eq_true p1160
             replace q1160 := eq_true q1160
             refine start_ (n := 12) (S := fun w' => w'.cell? ⟨gb1147, 0, none⟩ = some (.slice A2_0 l2_0.length c2_0) ∧ w'.cell? ⟨gb1147, 1, none⟩ = some (.slice A2_1 l2_1.length c2_1) ∧ w'.cell? ⟨gb1147, 2, none⟩ = some (.slice A2_2 l2_2.length c2_2) ∧ w'.cell? ⟨gb1154, 0, none⟩ = some (.int .i64 ((rd_T67 l1 x26_2).f0)) ∧ w'.cell? ⟨gb1154, 1, none⟩ = some (.slice A1153_1 ((rd_T67 l1 x26_2).f1).length c1153_1) ∧ w'.cell? ⟨gb1154, 2, none⟩ = some (.int .i64 ((rd_T67 l1 x26_2).f2)) ∧ w'.cell? ⟨gb1154, 3, none⟩ = some (.int .i64 ((rd_T67 l1 x26_2).f3)) ∧ w'.cell? ⟨gb1154, 4, none⟩ = some (.int .i64 ((rd_T67 l1 x26_2).f4)) ∧ w'.cell? (ad1160.add ((t1155).toNat * 2)) = some (.int .i64 ((rd_T90 x8_2 t1155).f0)) ∧ w'.cell? ⟨(ad1160.add ((t1155).toNat * 2)).block, (ad1160.add ((t1155).toNat * 2)).off + 1, none⟩ = some (.int .i64 ((rd_T90 x8_2 t1155).f1))) (ds := []) (ba_ 12 0) (by kernel_rfl) rfl rfl ⟨(blk_cell BK1147.out 0).trans rfl, (blk_cell BK1147.out 1).trans rfl, (blk_cell BK1147.out 2).trans rfl, (blk_cell BK1154.out 0).trans rfl, (blk_cell BK1154.out 1).trans rfl, (blk_cell BK1154.out 2).trans rfl, (blk_cell BK1154.out 3).trans rfl, (blk_cell BK1154.out 4).trans rfl, hx1160_0, hx1160_1⟩ (fun hHeld => ?_); refine with_tabW impl_ScriptCost.tab14 impl_ScriptCost.bits14 (fun HT_ HW_ => ?_)
             generalize w32.drew = w34 at HO_8 HO1158 BK1147 BK1154 HB hx1160_0 hx1160_1 hHeld ⊢
             refine pu_ 0 (some 52) (ba_ 12 1) rfl rfl (any_of HT_.out (by kernel_rfl)) ?_
             refine pu_ 2 (some 54) (ba_ 12 5) rfl rfl (any_of HT_.out (by kernel_rfl)) ?_
             refine pu_ 3 (some 55) (ba_ 12 13) rfl rfl (any_of HT_.out (by kernel_rfl)) ?_
             refine pu_ 4 (some 56) (ba_ 12 29) rfl rfl (any_of HT_.out (by kernel_rfl)) ?_
             refine pu_ 5 (some 57) (ba_ 12 61) rfl rfl (any_of HT_.out (by kernel_rfl)) ?_
             refine pu_ 7 (some 59) (ba_ 12 189) rfl rfl (any_of HT_.out (by kernel_rfl)) ?_
             refine ta_ 1 (some 53) (ba_ 12 191) rfl rfl (take_ofW HT_.out HW_.out (by kernel_rfl)) hHeld (by rintro w' ⟨s0, s1, s2, s3, s4, s5, s6, s7, s8, s9⟩; go_simp; with_reducible rfl) ?_
             refine ta_ 6 (some 58) (ba_ 12 255) rfl rfl (take_ofW HT_.out HW_.out (by kernel_rfl)) hHeld (by rintro w' ⟨s0, s1, s2, s3, s4, s5, s6, s7, s8, s9⟩; go_simp; with_reducible rfl) ?_
             refine ta_ 8 (some 60) (ba_ 12 511) rfl rfl (take_ofW HT_.out HW_.out (by kernel_rfl)) hHeld (by rintro w' ⟨s0, s1, s2, s3, s4, s5, s6, s7, s8, s9⟩; go_simp; with_reducible rfl) ?_
             refine one_ (i := 9) (N := some 61) (ba_ 12 1023) rfl rfl (one_of HT_.out (by kernel_rfl)) (by decide) (fun K hK => ?_)
             refine goes_ Try.func94 (by kernel_rfl) rfl #[.agg #[.slice A2_0 l2_0.length c2_0, .slice A2_1 l2_1.length c2_1, .slice A2_2 l2_2.length c2_2], .int .i64 ((rd_T90 x8_2 t1155).f0), .int .i64 ((rd_T67 l1 x26_2).f2)] (by rfl) rfl rfl (by (try simp only [List.map_toArray, List.map_cons, List.map_nil]); first | done | rfl | (simp only [List.length_drop, List.length_take]; rfl)) ?_
             with_reducible refine (impl_RelCost.calls k2 _ _ l2_0 _ _ l2_1 _ _ l2_2 ((rd_T90 x8_2 t1155).f0) ((rd_T67 l1 x26_2).f2) t1161 _ ?side1 ?side2 ?side3 ?side4 ?side5 ?side6 A25.out).mono ?_
             (case side1 => exact cx_ HR2_0 HB)
             (case side2 => exact HC2_0.out)
             (case side3 => exact cx_ HR2_1 HB)
             (case side4 => exact HC2_1.out)
             (case side5 => exact cx_ HR2_2 HB)
             (case side6 => exact HC2_2.out)
             rintro e w35 ⟨rfl, hb⟩
             have HS8_ := (hb.cell (World.block_lt_of_cell? _ _ (hHeld.2.2.2.2.2.2.2.2.1))).trans (hHeld.2.2.2.2.2.2.2.2.1)
             have HS9_ := (hb.cell (World.block_lt_of_cell? _ _ (hHeld.2.2.2.2.2.2.2.2.2))).trans (hHeld.2.2.2.2.2.2.2.2.2)
             refine ⟨_, rfl, ?_⟩
             have n0_ := tR_ HO_8 hb
             have n1_ := tR_ HO1158 hb
             have n2_ := tK_ BK1147 hb
             have n3_ := tK_ BK1154 hb
             have n4_ := tB_ HB hb
             clear HO_8
             clear HO1158
             clear BK1147
             clear BK1154
             clear HB
             have HO_8 := n0_
             have HO1158 := n1_
             have BK1147 := n2_
             have BK1154 := n3_
             have HB := n4_
             clear n0_ n1_ n2_ n3_ n4_
             (try clear hb)
             (try clear hb2)
             (try clear hk)
             (try clear hi)
             refine hK.out _ _ ⟨(blk_cell BK1147.out 0).trans rfl, (blk_cell BK1147.out 1).trans rfl, (blk_cell BK1147.out 2).trans rfl, (blk_cell BK1154.out 0).trans rfl, (blk_cell BK1154.out 1).trans rfl, (blk_cell BK1154.out 2).trans rfl, (blk_cell BK1154.out 3).trans rfl, (blk_cell BK1154.out 4).trans rfl, HS8_, HS9_⟩ (fun hHeld => ?_)
             clear hK K
             refine norm_ (a' := ?_) ?_ ?_
             rotate_left
             ·show Act.put _ (some 61) _ = _
              simp only [Act.put, List.setIfInBounds_toArray, List.set_cons_zero, List.set_cons_succ, i64_w, i32_w]
              rfl
             refine pu_ 10 (some 62) (ba_ 12 2047) rfl rfl (any_of HT_.out (by kernel_rfl)) ?_
             refine pu_ 11 (some 7) (ba_ 12 4095) rfl rfl (any_of HT_.out (by kernel_rfl)) ?_
             refine done_ (done_of HT_.out (by kernel_rfl)) ?_
             try go_wp2
             go_roundg k2
             case measure => have := HJ3.out; have := HK2.out; omega
             case rel => exact ⟨(wrap64 (x7_2 + t1161)), (t1156), (wrap64 (x26_2 + 1)), eb_, eb_, H', ⟨by have := HJ3.out; have := HK2.out; omega⟩, ⟨rx_ (Kd.R_mono HO1158.out (fun _ hk => trivial))⟩, ⟨kx_ BK1147.out⟩, bl_ HB⟩
            ·rw [if_neg c24] at H
             exact absurd H (by simp)
           ·rw [if_neg c23] at H
            exact absurd H (by simp)
          ·rw [if_neg c22] at H
           have c22b0 : (((rd_T67 l1 x26_2).f0) == 1) = false := beq_eq_false_iff_ne.mpr c22
           have c22b1 : (((rd_T67 l1 x26_2).f0) != 1) = true := bne_iff_ne.mpr c22
           by_cases c36 : ((rd_T67 l1 x26_2).f0) = 2
           ·rw [if_pos c36] at H
            have c36b0 : (((rd_T67 l1 x26_2).f0) == 2) = true := beq_iff_eq.mpr c36
            have c36b1 : (((rd_T67 l1 x26_2).f0) != 2) = false := bne_eq_false_iff_eq.mpr c36
            clear c36
            by_cases c37 : 0 ≤ t1155
            ·rw [if_pos c37] at H
             have c37b0 : decide (0 ≤ t1155) = true := decide_eq_true c37
             clear c37
             by_cases c38 : t1155 < (x8_2.length : Int)
             ·rw [if_pos c38] at H
              have c38b0 : decide (t1155 < (x8_2.length : Int)) = true := decide_eq_true c38
              clear c38
              replace H := Option.bind_eq_some_iff.mp H
              obtain ⟨t1163, A390, H⟩ := H
              try dsimp only at H
              have A39 := Aside0.mk A390
              clear A390
              have H' := Aside0.mk H
              clear H
              have p1153 : 0 ≤ (x26_2 : Int) := od_
              have q1153 : x26_2 < (l1.length : Int) := od_
              obtain ⟨ad1153, A1153_1, c1153_1, e1153, hx1153_0, hx1153_1, hx1153_2, hx1153_3, hx1153_4, hl1153_1, hi1153_1⟩ := at_T67 HR1.out x26_2 p1153 q1153
              cases e1153
              replace hx1153_0 := ce_ HB hx1153_0
              replace hx1153_1 := ce_ HB hx1153_1
              replace hx1153_2 := ce_ HB hx1153_2
              replace hx1153_3 := (HB.out.cell (World.block_lt_of_cell? w _ hx1153_3)).trans hx1153_3
              replace hx1153_4 := (HB.out.cell (World.block_lt_of_cell? w _ hx1153_4)).trans hx1153_4
              have HR1153_1 := Aside0.mk hi1153_1
              have HC1153_1 := Aside0.mk hl1153_1
              clear hi1153_1 hl1153_1
              replace p1153 := eq_true p1153
              replace q1153 := eq_true q1153
              try go_wp2_with (first | ((with_reducible refine gate_dst (N := 10) rfl ?_); refine box_event ?hg (N := 10) ?hd (cs := #[.int .i64 0, .slice none 0 0, .int .i64 0, .int .i64 0, .int .i64 0]) (t := 67) ?hr ?_; (case hd => rfl); (case hg => rfl); (case hr => first | (go_simp; done) | (go_simp; rfl)); intro gb1154 hg w40 hbox hb; have n0_ := Aside0.mk (Kd.R_below (by (with_reducible repeat (first | apply Kd.R_alloc | apply Kd.R_drewN | apply Kd.R_drew)); exact HO_8.out) hb); have n1_ := Aside0.mk (blk_below (g := gb1147) (o := .cells #[.slice A2_0 l2_0.length c2_0, .slice A2_1 l2_1.length c2_1, .slice A2_2 l2_2.length c2_2] 53 (0, 0)) (by (with_reducible repeat (first | refine blk_drewN ?_ _ | refine blk_drew ?_ | refine blk_alloc ?_ _)); exact BK1147.out) hb); have n2_ := Aside0.mk (below_step (by repeat (first | (with_reducible first | exact HB.out | apply below_alloc | apply pw_below_drewN | apply below_drew1 | refine below_set ?_ GE1147.out) | exact HB.out)) hb); have n3_ := Aside0.mk (hbox); have n4_ := Aside0.mk ((by rw [hg]; exact (below_size (by repeat (first | (with_reducible first | exact HB.out | apply below_alloc | apply pw_below_drewN | apply below_drew1 | refine below_set ?_ GE1147.out) | exact HB.out))) : w.heap.size ≤ gb1154)); have n5_ := Aside0.mk ((by rw [hg]; exact (below_size (by repeat (first | (with_reducible first | exact HB.out | apply below_alloc | apply pw_below_drewN | apply below_drew1 | refine below_set ?_ GE1147.out) | exact HB.out))) : w.heap.size ≤ gb1154)); have n6_ := Aside0.mk ((by rw [hg]; exact Nat.ne_of_lt (blk_lt (g := gb1147) (o := .cells #[.slice A2_0 l2_0.length c2_0, .slice A2_1 l2_1.length c2_1, .slice A2_2 l2_2.length c2_2] 53 (0, 0)) (by (with_reducible repeat (first | refine blk_drewN ?_ _ | refine blk_drew ?_ | refine blk_alloc ?_ _)); exact BK1147.out)) : gb1147 ≠ gb1154)); have n7_ := Aside0.mk ((by rw [hg]; exact Nat.ne_of_gt (blk_lt (g := gb1147) (o := .cells #[.slice A2_0 l2_0.length c2_0, .slice A2_1 l2_1.length c2_1, .slice A2_2 l2_2.length c2_2] 53 (0, 0)) (by (with_reducible repeat (first | refine blk_drewN ?_ _ | refine blk_drew ?_ | refine blk_alloc ?_ _)); exact BK1147.out)) : gb1154 ≠ gb1147)); clear HO_8; clear BK1147; clear HB; have HO_8 := n0_; have BK1147 := n1_; have HB := n2_; have BK1154 := n3_; have GW1154 := n4_; have GE1154 := n5_; have NB1147_1154 := n6_; have NB1154_1147 := n7_; clear n0_ n1_ n2_ n3_ n4_ n5_ n6_ n7_; clear hb hbox hg; have hnb41 := NB1154_1147.out; have hnc41 := NB1147_1154.out; have hcz42_0 : w40.cell? ⟨gb1154, 0, none⟩ = some (.int .i64 0) := (blk_cell BK1154.out 0).trans rfl; have hcz42_1 : w40.cell? ⟨gb1154, 1, none⟩ = some (.slice none 0 0) := (blk_cell BK1154.out 1).trans rfl; have hcz42_2 : w40.cell? ⟨gb1154, 2, none⟩ = some (.int .i64 0) := (blk_cell BK1154.out 2).trans rfl; have hcz42_3 : w40.cell? ⟨gb1154, 3, none⟩ = some (.int .i64 0) := (blk_cell BK1154.out 3).trans rfl; have hcz42_4 : w40.cell? ⟨gb1154, 4, none⟩ = some (.int .i64 0) := (blk_cell BK1154.out 4).trans rfl; have hfz42_0 := blk_frozen BK1154.out 0; have hfz42_1 := blk_frozen BK1154.out 1; have hfz42_2 := blk_frozen BK1154.out 2; have hfz42_3 := blk_frozen BK1154.out 3; have hfz42_4 := blk_frozen BK1154.out 4; obtain ⟨Ao43, co43, eo43⟩ := Kd.R_slice HO_8.out; subst eo43) | ((with_reducible refine gate_callee (f := 78) rfl ?_); refine goesL_ (some 33) rfl rfl Try.func78 (by kernel_rfl) rfl #[.slice Ao43 x8_2.length co43, .slice A1153_1 ((rd_T67 l1 x26_2).f1).length c1153_1] rfl (by (try simp only [List.map_toArray, List.map_cons, List.map_nil]); first | done | rfl | (simp only [List.length_drop, List.length_take]; rfl)) ?_; (with_reducible refine (impl_NodeAt.calls k2 _ _ x8_2 _ _ ((rd_T67 l1 x26_2).f1) t1155 _ ?side1 ?side2 ?side3 ?side4 A19.out).mono ?_); (case side1 => refine (Kd.R_reads' (e := 90) (base := w.heap.size) (ok := fun k_ => True) (n := x8_2.length) (c := co43) ?_).2.2; exact (by (with_reducible repeat (first | apply Kd.R_alloc | apply Kd.R_drewN | apply Kd.R_drew)); exact (Kd.R_mono (Kd.R_far (p := ⟨gb1154, 4, none⟩) (Kd.R_far (p := ⟨gb1154, 3, none⟩) (Kd.R_far (p := ⟨gb1154, 2, none⟩) (Kd.R_far (p := ⟨gb1154, 1, none⟩) (Kd.R_far (p := ⟨gb1154, 0, none⟩) (Kd.R_types HO_8.out BK1154.out (by decide)) (fun _ hk => hk.2) (.int .i64 ((rd_T67 l1 x26_2).f0))) (fun _ hk => hk.2) (.slice A1153_1 ((rd_T67 l1 x26_2).f1).length c1153_1)) (fun _ hk => hk.2) (.int .i64 ((rd_T67 l1 x26_2).f2))) (fun _ hk => hk.2) (.int .i64 ((rd_T67 l1 x26_2).f3))) (fun _ hk => hk.2) (.int .i64 ((rd_T67 l1 x26_2).f4))) (fun _ h_ => h_.1)))); (case side2 => exact (Kd.R_reads' HO_8.out).2.1); (case side3 => exact Kd.C_below HR1153_1.out (by repeat (first | (with_reducible first | exact HB.out | apply below_alloc | apply pw_below_drewN | apply below_drew1 | refine below_set ?_ GE1147.out | refine below_set ?_ GE1154.out) | exact HB.out))); (case side4 => exact HC1153_1.out); rintro e w44 ⟨rfl, hb⟩; refine ⟨_, rfl, ?_⟩; have n0_ := Aside0.mk (Kd.R_below (by (with_reducible repeat (first | apply Kd.R_alloc | apply Kd.R_drewN | apply Kd.R_drew)); exact (Kd.R_mono (Kd.R_far (p := ⟨gb1154, 4, none⟩) (Kd.R_far (p := ⟨gb1154, 3, none⟩) (Kd.R_far (p := ⟨gb1154, 2, none⟩) (Kd.R_far (p := ⟨gb1154, 1, none⟩) (Kd.R_far (p := ⟨gb1154, 0, none⟩) (Kd.R_types HO_8.out BK1154.out (by decide)) (fun _ hk => hk.2) (.int .i64 ((rd_T67 l1 x26_2).f0))) (fun _ hk => hk.2) (.slice A1153_1 ((rd_T67 l1 x26_2).f1).length c1153_1)) (fun _ hk => hk.2) (.int .i64 ((rd_T67 l1 x26_2).f2))) (fun _ hk => hk.2) (.int .i64 ((rd_T67 l1 x26_2).f3))) (fun _ hk => hk.2) (.int .i64 ((rd_T67 l1 x26_2).f4))) (fun _ h_ => h_.1))) hb); have n1_ := Aside0.mk (blk_below (g := gb1147) (o := .cells #[.slice A2_0 l2_0.length c2_0, .slice A2_1 l2_1.length c2_1, .slice A2_2 l2_2.length c2_2] 53 (0, 0)) (by (with_reducible repeat (first | refine blk_drewN ?_ _ | refine blk_drew ?_ | refine blk_alloc ?_ _)); refine blk_far ?_ NB1147_1154.out _; (with_reducible repeat (first | refine blk_drewN ?_ _ | refine blk_drew ?_ | refine blk_alloc ?_ _)); refine blk_far ?_ NB1147_1154.out _; (with_reducible repeat (first | refine blk_drewN ?_ _ | refine blk_drew ?_ | refine blk_alloc ?_ _)); refine blk_far ?_ NB1147_1154.out _; (with_reducible repeat (first | refine blk_drewN ?_ _ | refine blk_drew ?_ | refine blk_alloc ?_ _)); refine blk_far ?_ NB1147_1154.out _; (with_reducible repeat (first | refine blk_drewN ?_ _ | refine blk_drew ?_ | refine blk_alloc ?_ _)); refine blk_far ?_ NB1147_1154.out _; (with_reducible repeat (first | refine blk_drewN ?_ _ | refine blk_drew ?_ | refine blk_alloc ?_ _)); exact BK1147.out) hb); have n2_ := Aside0.mk (blk_below (g := gb1154) (o := .cells #[.int .i64 ((rd_T67 l1 x26_2).f0), .slice A1153_1 ((rd_T67 l1 x26_2).f1).length c1153_1, .int .i64 ((rd_T67 l1 x26_2).f2), .int .i64 ((rd_T67 l1 x26_2).f3), .int .i64 ((rd_T67 l1 x26_2).f4)] 67 (0, 0)) (by (with_reducible repeat (first | refine blk_drewN ?_ _ | refine blk_drew ?_ | refine blk_alloc ?_ _)); refine blk_put (cs := #[.int .i64 ((rd_T67 l1 x26_2).f0), .slice A1153_1 ((rd_T67 l1 x26_2).f1).length c1153_1, .int .i64 ((rd_T67 l1 x26_2).f2), .int .i64 ((rd_T67 l1 x26_2).f3), .int .i64 0]) ?_ 4 _ rfl; (with_reducible repeat (first | refine blk_drewN ?_ _ | refine blk_drew ?_ | refine blk_alloc ?_ _)); refine blk_put (cs := #[.int .i64 ((rd_T67 l1 x26_2).f0), .slice A1153_1 ((rd_T67 l1 x26_2).f1).length c1153_1, .int .i64 ((rd_T67 l1 x26_2).f2), .int .i64 0, .int .i64 0]) ?_ 3 _ rfl; (with_reducible repeat (first | refine blk_drewN ?_ _ | refine blk_drew ?_ | refine blk_alloc ?_ _)); refine blk_put (cs := #[.int .i64 ((rd_T67 l1 x26_2).f0), .slice A1153_1 ((rd_T67 l1 x26_2).f1).length c1153_1, .int .i64 0, .int .i64 0, .int .i64 0]) ?_ 2 _ rfl; (with_reducible repeat (first | refine blk_drewN ?_ _ | refine blk_drew ?_ | refine blk_alloc ?_ _)); refine blk_put (cs := #[.int .i64 ((rd_T67 l1 x26_2).f0), .slice none 0 0, .int .i64 0, .int .i64 0, .int .i64 0]) ?_ 1 _ rfl; (with_reducible repeat (first | refine blk_drewN ?_ _ | refine blk_drew ?_ | refine blk_alloc ?_ _)); refine blk_put (cs := #[.int .i64 0, .slice none 0 0, .int .i64 0, .int .i64 0, .int .i64 0]) ?_ 0 _ rfl; (with_reducible repeat (first | refine blk_drewN ?_ _ | refine blk_drew ?_ | refine blk_alloc ?_ _)); exact BK1154.out) hb); have n3_ := Aside0.mk (below_step (by repeat (first | (with_reducible first | exact HB.out | apply below_alloc | apply pw_below_drewN | apply below_drew1 | refine below_set ?_ GE1147.out | refine below_set ?_ GE1154.out) | exact HB.out)) hb); clear HO_8; clear BK1147; clear BK1154; clear HB; have HO_8 := n0_; have BK1147 := n1_; have BK1154 := n2_; have HB := n3_; clear n0_ n1_ n2_ n3_; (try clear hb); (try clear hb2); (try clear hk); (try clear hi); have hcz45_0 : w44.cell? ⟨gb1154, 0, none⟩ = some (.int .i64 ((rd_T67 l1 x26_2).f0)) := (blk_cell BK1154.out 0).trans rfl; have hcz45_1 : w44.cell? ⟨gb1154, 1, none⟩ = some (.slice A1153_1 ((rd_T67 l1 x26_2).f1).length c1153_1) := (blk_cell BK1154.out 1).trans rfl; have hcz45_2 : w44.cell? ⟨gb1154, 2, none⟩ = some (.int .i64 ((rd_T67 l1 x26_2).f2)) := (blk_cell BK1154.out 2).trans rfl; have hcz45_3 : w44.cell? ⟨gb1154, 3, none⟩ = some (.int .i64 ((rd_T67 l1 x26_2).f3)) := (blk_cell BK1154.out 3).trans rfl; have hcz45_4 : w44.cell? ⟨gb1154, 4, none⟩ = some (.int .i64 ((rd_T67 l1 x26_2).f4)) := (blk_cell BK1154.out 4).trans rfl; have hfz45_0 := blk_frozen BK1154.out 0; have hfz45_1 := blk_frozen BK1154.out 1; have hfz45_2 := blk_frozen BK1154.out 2; have hfz45_3 := blk_frozen BK1154.out 3; have hfz45_4 := blk_frozen BK1154.out 4) | ((with_reducible refine gate_callee (f := 46) rfl ?_); refine goesL_ (some 37) rfl rfl Try.func46 (by kernel_rfl) rfl #[.slice Ao43 x8_2.length co43, .agg #[.int .i64 ((rd_T67 l1 x26_2).f0), .slice A1153_1 ((rd_T67 l1 x26_2).f1).length c1153_1, .int .i64 ((rd_T67 l1 x26_2).f2), .int .i64 ((rd_T67 l1 x26_2).f3), .int .i64 ((rd_T67 l1 x26_2).f4)]] rfl (by (try simp only [List.map_toArray, List.map_cons, List.map_nil]); first | done | rfl | (simp only [List.length_drop, List.length_take]; rfl)) ?_; (with_reducible refine (impl_ApplyOp.calls k2 _ _ x8_2 ((rd_T67 l1 x26_2).f0) _ _ ((rd_T67 l1 x26_2).f1) ((rd_T67 l1 x26_2).f2) ((rd_T67 l1 x26_2).f3) ((rd_T67 l1 x26_2).f4) t1156 t1159 _ ?side1 ?side2 ?side3 ?side4 A20.out).mono ?_); (case side1 => repeat (first | exact (Kd.R_reads' HO_8.out).2.2 | (with_reducible refine Kd.C_alloc ?_ _) | (with_reducible refine Kd.C_drewN ?_ _) | (with_reducible refine Kd.C_drew ?_))); (case side2 => exact (Kd.R_reads' HO_8.out).2.1); (case side3 => repeat (first | exact (Kd.C_below HR1153_1.out HB.out) | (with_reducible refine Kd.C_alloc ?_ _) | (with_reducible refine Kd.C_drewN ?_ _) | (with_reducible refine Kd.C_drew ?_))); (case side4 => exact HC1153_1.out); rintro e w46 ⟨v1157, rfl, ho0, hb⟩; refine ⟨_, rfl, ?_⟩; have n0_ := Aside0.mk (Kd.R_elder' (by (with_reducible repeat (first | apply Kd.R_alloc | apply Kd.R_drewN | apply Kd.R_drew)); exact HO_8.out) (Kd.R_base ho0) hb); have n1_ := Aside0.mk (Kd.R_lower (Kd.R_new' ho0 (Kd.R_lt (by (with_reducible repeat (first | apply Kd.R_alloc | apply Kd.R_drewN | apply Kd.R_drew)); exact HO_8.out))) (below_size (by repeat (first | (with_reducible first | exact HB.out | apply below_alloc | apply pw_below_drewN | apply below_drew1 | refine below_set ?_ GE1147.out | refine below_set ?_ GE1154.out) | exact HB.out)))); have n2_ := Aside0.mk (blk_below (g := gb1147) (o := .cells #[.slice A2_0 l2_0.length c2_0, .slice A2_1 l2_1.length c2_1, .slice A2_2 l2_2.length c2_2] 53 (0, 0)) (by (with_reducible repeat (first | refine blk_drewN ?_ _ | refine blk_drew ?_ | refine blk_alloc ?_ _)); exact BK1147.out) hb); have n3_ := Aside0.mk (blk_below (g := gb1154) (o := .cells #[.int .i64 ((rd_T67 l1 x26_2).f0), .slice A1153_1 ((rd_T67 l1 x26_2).f1).length c1153_1, .int .i64 ((rd_T67 l1 x26_2).f2), .int .i64 ((rd_T67 l1 x26_2).f3), .int .i64 ((rd_T67 l1 x26_2).f4)] 67 (0, 0)) (by (with_reducible repeat (first | refine blk_drewN ?_ _ | refine blk_drew ?_ | refine blk_alloc ?_ _)); exact BK1154.out) hb); have n4_ := Aside0.mk (below_step (by repeat (first | (with_reducible first | exact HB.out | apply below_alloc | apply pw_below_drewN | apply below_drew1 | refine below_set ?_ GE1147.out | refine below_set ?_ GE1154.out) | exact HB.out)) hb); clear HO_8; clear BK1147; clear BK1154; clear HB; have HO_8 := n0_; have HO1158 := n1_; have BK1147 := n2_; have BK1154 := n3_; have HB := n4_; clear n0_ n1_ n2_ n3_ n4_; (try clear hb); (try clear hb2); (try clear hk); (try clear hi); (try clear ho0); have hcz47_0 : w46.cell? ⟨gb1154, 0, none⟩ = some (.int .i64 ((rd_T67 l1 x26_2).f0)) := (blk_cell BK1154.out 0).trans rfl; have hcz47_1 : w46.cell? ⟨gb1154, 1, none⟩ = some (.slice A1153_1 ((rd_T67 l1 x26_2).f1).length c1153_1) := (blk_cell BK1154.out 1).trans rfl; have hcz47_2 : w46.cell? ⟨gb1154, 2, none⟩ = some (.int .i64 ((rd_T67 l1 x26_2).f2)) := (blk_cell BK1154.out 2).trans rfl; have hcz47_3 : w46.cell? ⟨gb1154, 3, none⟩ = some (.int .i64 ((rd_T67 l1 x26_2).f3)) := (blk_cell BK1154.out 3).trans rfl; have hcz47_4 : w46.cell? ⟨gb1154, 4, none⟩ = some (.int .i64 ((rd_T67 l1 x26_2).f4)) := (blk_cell BK1154.out 4).trans rfl; have hfz47_0 := blk_frozen BK1154.out 0; have hfz47_1 := blk_frozen BK1154.out 1; have hfz47_2 := blk_frozen BK1154.out 2; have hfz47_3 := blk_frozen BK1154.out 3; have hfz47_4 := blk_frozen BK1154.out 4))
              have n0_ := Aside0.mk (Kd.R_drew HO_8.out)
              have n1_ := Aside0.mk (Kd.R_drew HO1158.out)
              have n2_ := Aside0.mk (blk_drew BK1147.out)
              have n3_ := Aside0.mk (blk_drew BK1154.out)
              have n4_ := Aside0.mk (below_drew1 HB.out)
              clear HO_8
              clear HO1158
              clear BK1147
              clear BK1154
              clear HB
              have HO_8 := n0_
              have HO1158 := n1_
              have BK1147 := n2_
              have BK1154 := n3_
              have HB := n4_
              clear n0_ n1_ n2_ n3_ n4_
              have p1162 : 0 ≤ (t1155 : Int) := od_
              have q1162 : t1155 < (x8_2.length : Int) := od_
              obtain ⟨ad1162, e1162, hx1162_0, hx1162_1⟩ := at_T90 (Kd.R_reads' HO_8.out).2.2 t1155 p1162 q1162
              cases e1162
              replace p1162 := eq_true p1162
              replace q1162 := eq_true q1162
              refine start_ (n := 10) (S := fun w' => w'.cell? ⟨gb1147, 0, none⟩ = some (.slice A2_0 l2_0.length c2_0) ∧ w'.cell? ⟨gb1147, 1, none⟩ = some (.slice A2_1 l2_1.length c2_1) ∧ w'.cell? ⟨gb1147, 2, none⟩ = some (.slice A2_2 l2_2.length c2_2) ∧ w'.cell? (ad1162.add ((t1155).toNat * 2)) = some (.int .i64 ((rd_T90 x8_2 t1155).f0)) ∧ w'.cell? ⟨(ad1162.add ((t1155).toNat * 2)).block, (ad1162.add ((t1155).toNat * 2)).off + 1, none⟩ = some (.int .i64 ((rd_T90 x8_2 t1155).f1))) (ds := []) (ba_ 10 0) (by kernel_rfl) rfl rfl ⟨(blk_cell BK1147.out 0).trans rfl, (blk_cell BK1147.out 1).trans rfl, (blk_cell BK1147.out 2).trans rfl, hx1162_0, hx1162_1⟩ (fun hHeld => ?_); refine with_tabW impl_ScriptCost.tab16 impl_ScriptCost.bits16 (fun HT_ HW_ => ?_)
              generalize w46.drew = w48 at HO_8 HO1158 BK1147 BK1154 HB hx1162_0 hx1162_1 hHeld ⊢
              refine pu_ 0 (some 65) (ba_ 10 1) rfl rfl (any_of HT_.out (by kernel_rfl)) ?_
              refine pu_ 2 (some 67) (ba_ 10 5) rfl rfl (any_of HT_.out (by kernel_rfl)) ?_
              refine pu_ 3 (some 68) (ba_ 10 13) rfl rfl (any_of HT_.out (by kernel_rfl)) ?_
              refine pu_ 4 (some 69) (ba_ 10 29) rfl rfl (any_of HT_.out (by kernel_rfl)) ?_
              refine pu_ 5 (some 70) (ba_ 10 61) rfl rfl (any_of HT_.out (by kernel_rfl)) ?_
              refine ta_ 1 (some 66) (ba_ 10 63) rfl rfl (take_ofW HT_.out HW_.out (by kernel_rfl)) hHeld (by rintro w' ⟨s0, s1, s2, s3, s4⟩; go_simp; with_reducible rfl) ?_
              refine ta_ 6 (some 71) (ba_ 10 127) rfl rfl (take_ofW HT_.out HW_.out (by kernel_rfl)) hHeld (by rintro w' ⟨s0, s1, s2, s3, s4⟩; go_simp; with_reducible rfl) ?_
              refine one_ (i := 7) (N := some 72) (ba_ 10 255) rfl rfl (one_of HT_.out (by kernel_rfl)) (by decide) (fun K hK => ?_)
              refine goes_ Try.func109 (by kernel_rfl) rfl #[.agg #[.slice A2_0 l2_0.length c2_0, .slice A2_1 l2_1.length c2_1, .slice A2_2 l2_2.length c2_2], .int .i64 ((rd_T90 x8_2 t1155).f0)] (by rfl) rfl rfl (by (try simp only [List.map_toArray, List.map_cons, List.map_nil]); first | done | rfl | (simp only [List.length_drop, List.length_take]; rfl)) ?_
              with_reducible refine (impl_DelCost.calls k2 _ _ l2_0 _ _ l2_1 _ _ l2_2 ((rd_T90 x8_2 t1155).f0) t1163 _ ?side1 ?side2 ?side3 ?side4 ?side5 ?side6 A39.out).mono ?_
              (case side1 => exact cx_ HR2_0 HB)
              (case side2 => exact HC2_0.out)
              (case side3 => exact cx_ HR2_1 HB)
              (case side4 => exact HC2_1.out)
              (case side5 => exact cx_ HR2_2 HB)
              (case side6 => exact HC2_2.out)
              rintro e w49 ⟨rfl, hb⟩
              have HS3_ := (hb.cell (World.block_lt_of_cell? _ _ (hHeld.2.2.2.1))).trans (hHeld.2.2.2.1)
              have HS4_ := (hb.cell (World.block_lt_of_cell? _ _ (hHeld.2.2.2.2))).trans (hHeld.2.2.2.2)
              refine ⟨_, rfl, ?_⟩
              have n0_ := tR_ HO_8 hb
              have n1_ := tR_ HO1158 hb
              have n2_ := tK_ BK1147 hb
              have n3_ := tK_ BK1154 hb
              have n4_ := tB_ HB hb
              clear HO_8
              clear HO1158
              clear BK1147
              clear BK1154
              clear HB
              have HO_8 := n0_
              have HO1158 := n1_
              have BK1147 := n2_
              have BK1154 := n3_
              have HB := n4_
              clear n0_ n1_ n2_ n3_ n4_
              (try clear hb)
              (try clear hb2)
              (try clear hk)
              (try clear hi)
              refine hK.out _ _ ⟨(blk_cell BK1147.out 0).trans rfl, (blk_cell BK1147.out 1).trans rfl, (blk_cell BK1147.out 2).trans rfl, HS3_, HS4_⟩ (fun hHeld => ?_)
              clear hK K
              refine norm_ (a' := ?_) ?_ ?_
              rotate_left
              ·show Act.put _ (some 72) _ = _
               simp only [Act.put, List.setIfInBounds_toArray, List.set_cons_zero, List.set_cons_succ, i64_w, i32_w]
               rfl
              refine pu_ 8 (some 73) (ba_ 10 511) rfl rfl (any_of HT_.out (by kernel_rfl)) ?_
              refine pu_ 9 (some 7) (ba_ 10 1023) rfl rfl (any_of HT_.out (by kernel_rfl)) ?_
              refine done_ (done_of HT_.out (by kernel_rfl)) ?_
              try go_wp2
              go_roundg k2
              case measure => have := HJ3.out; have := HK2.out; omega
              case rel => exact ⟨(wrap64 (x7_2 + t1163)), (t1156), (wrap64 (x26_2 + 1)), eb_, eb_, H', ⟨by have := HJ3.out; have := HK2.out; omega⟩, ⟨rx_ (Kd.R_mono HO1158.out (fun _ hk => trivial))⟩, ⟨kx_ BK1147.out⟩, bl_ HB⟩
             ·rw [if_neg c38] at H
              exact absurd H (by simp)
            ·rw [if_neg c37] at H
             exact absurd H (by simp)
           ·rw [if_neg c36] at H
            have c36b0 : (((rd_T67 l1 x26_2).f0) == 2) = false := beq_eq_false_iff_ne.mpr c36
            have c36b1 : (((rd_T67 l1 x26_2).f0) != 2) = true := bne_iff_ne.mpr c36
            replace H := Option.bind_eq_some_iff.mp H
            obtain ⟨t1164, A500, H⟩ := H
            try dsimp only at H
            have A50 := Aside0.mk A500
            clear A500
            have H' := Aside0.mk H
            clear H
            have p1153 : 0 ≤ (x26_2 : Int) := od_
            have q1153 : x26_2 < (l1.length : Int) := od_
            obtain ⟨ad1153, A1153_1, c1153_1, e1153, hx1153_0, hx1153_1, hx1153_2, hx1153_3, hx1153_4, hl1153_1, hi1153_1⟩ := at_T67 HR1.out x26_2 p1153 q1153
            cases e1153
            replace hx1153_0 := ce_ HB hx1153_0
            replace hx1153_1 := ce_ HB hx1153_1
            replace hx1153_2 := ce_ HB hx1153_2
            replace hx1153_3 := (HB.out.cell (World.block_lt_of_cell? w _ hx1153_3)).trans hx1153_3
            replace hx1153_4 := (HB.out.cell (World.block_lt_of_cell? w _ hx1153_4)).trans hx1153_4
            have HR1153_1 := Aside0.mk hi1153_1
            have HC1153_1 := Aside0.mk hl1153_1
            clear hi1153_1 hl1153_1
            replace p1153 := eq_true p1153
            replace q1153 := eq_true q1153
            go_wp2_with (first | ((with_reducible refine gate_dst (N := 10) rfl ?_); refine box_event ?hg (N := 10) ?hd (cs := #[.int .i64 0, .slice none 0 0, .int .i64 0, .int .i64 0, .int .i64 0]) (t := 67) ?hr ?_; (case hd => rfl); (case hg => rfl); (case hr => first | (go_simp; done) | (go_simp; rfl)); intro gb1154 hg w51 hbox hb; have n0_ := Aside0.mk (Kd.R_below (by (with_reducible repeat (first | apply Kd.R_alloc | apply Kd.R_drewN | apply Kd.R_drew)); exact HO_8.out) hb); have n1_ := Aside0.mk (blk_below (g := gb1147) (o := .cells #[.slice A2_0 l2_0.length c2_0, .slice A2_1 l2_1.length c2_1, .slice A2_2 l2_2.length c2_2] 53 (0, 0)) (by (with_reducible repeat (first | refine blk_drewN ?_ _ | refine blk_drew ?_ | refine blk_alloc ?_ _)); exact BK1147.out) hb); have n2_ := Aside0.mk (below_step (by repeat (first | (with_reducible first | exact HB.out | apply below_alloc | apply pw_below_drewN | apply below_drew1 | refine below_set ?_ GE1147.out) | exact HB.out)) hb); have n3_ := Aside0.mk (hbox); have n4_ := Aside0.mk ((by rw [hg]; exact (below_size (by repeat (first | (with_reducible first | exact HB.out | apply below_alloc | apply pw_below_drewN | apply below_drew1 | refine below_set ?_ GE1147.out) | exact HB.out))) : w.heap.size ≤ gb1154)); have n5_ := Aside0.mk ((by rw [hg]; exact (below_size (by repeat (first | (with_reducible first | exact HB.out | apply below_alloc | apply pw_below_drewN | apply below_drew1 | refine below_set ?_ GE1147.out) | exact HB.out))) : w.heap.size ≤ gb1154)); have n6_ := Aside0.mk ((by rw [hg]; exact Nat.ne_of_lt (blk_lt (g := gb1147) (o := .cells #[.slice A2_0 l2_0.length c2_0, .slice A2_1 l2_1.length c2_1, .slice A2_2 l2_2.length c2_2] 53 (0, 0)) (by (with_reducible repeat (first | refine blk_drewN ?_ _ | refine blk_drew ?_ | refine blk_alloc ?_ _)); exact BK1147.out)) : gb1147 ≠ gb1154)); have n7_ := Aside0.mk ((by rw [hg]; exact Nat.ne_of_gt (blk_lt (g := gb1147) (o := .cells #[.slice A2_0 l2_0.length c2_0, .slice A2_1 l2_1.length c2_1, .slice A2_2 l2_2.length c2_2] 53 (0, 0)) (by (with_reducible repeat (first | refine blk_drewN ?_ _ | refine blk_drew ?_ | refine blk_alloc ?_ _)); exact BK1147.out)) : gb1154 ≠ gb1147)); clear HO_8; clear BK1147; clear HB; have HO_8 := n0_; have BK1147 := n1_; have HB := n2_; have BK1154 := n3_; have GW1154 := n4_; have GE1154 := n5_; have NB1147_1154 := n6_; have NB1154_1147 := n7_; clear n0_ n1_ n2_ n3_ n4_ n5_ n6_ n7_; clear hb hbox hg; have hnb52 := NB1154_1147.out; have hnc52 := NB1147_1154.out; have hcz53_0 : w51.cell? ⟨gb1154, 0, none⟩ = some (.int .i64 0) := (blk_cell BK1154.out 0).trans rfl; have hcz53_1 : w51.cell? ⟨gb1154, 1, none⟩ = some (.slice none 0 0) := (blk_cell BK1154.out 1).trans rfl; have hcz53_2 : w51.cell? ⟨gb1154, 2, none⟩ = some (.int .i64 0) := (blk_cell BK1154.out 2).trans rfl; have hcz53_3 : w51.cell? ⟨gb1154, 3, none⟩ = some (.int .i64 0) := (blk_cell BK1154.out 3).trans rfl; have hcz53_4 : w51.cell? ⟨gb1154, 4, none⟩ = some (.int .i64 0) := (blk_cell BK1154.out 4).trans rfl; have hfz53_0 := blk_frozen BK1154.out 0; have hfz53_1 := blk_frozen BK1154.out 1; have hfz53_2 := blk_frozen BK1154.out 2; have hfz53_3 := blk_frozen BK1154.out 3; have hfz53_4 := blk_frozen BK1154.out 4; obtain ⟨Ao54, co54, eo54⟩ := Kd.R_slice HO_8.out; subst eo54) | ((with_reducible refine gate_callee (f := 78) rfl ?_); refine goesL_ (some 33) rfl rfl Try.func78 (by kernel_rfl) rfl #[.slice Ao54 x8_2.length co54, .slice A1153_1 ((rd_T67 l1 x26_2).f1).length c1153_1] rfl (by (try simp only [List.map_toArray, List.map_cons, List.map_nil]); first | done | rfl | (simp only [List.length_drop, List.length_take]; rfl)) ?_; (with_reducible refine (impl_NodeAt.calls k2 _ _ x8_2 _ _ ((rd_T67 l1 x26_2).f1) t1155 _ ?side1 ?side2 ?side3 ?side4 A19.out).mono ?_); (case side1 => refine (Kd.R_reads' (e := 90) (base := w.heap.size) (ok := fun k_ => True) (n := x8_2.length) (c := co54) ?_).2.2; exact (by (with_reducible repeat (first | apply Kd.R_alloc | apply Kd.R_drewN | apply Kd.R_drew)); exact (Kd.R_mono (Kd.R_far (p := ⟨gb1154, 4, none⟩) (Kd.R_far (p := ⟨gb1154, 3, none⟩) (Kd.R_far (p := ⟨gb1154, 2, none⟩) (Kd.R_far (p := ⟨gb1154, 1, none⟩) (Kd.R_far (p := ⟨gb1154, 0, none⟩) (Kd.R_types HO_8.out BK1154.out (by decide)) (fun _ hk => hk.2) (.int .i64 ((rd_T67 l1 x26_2).f0))) (fun _ hk => hk.2) (.slice A1153_1 ((rd_T67 l1 x26_2).f1).length c1153_1)) (fun _ hk => hk.2) (.int .i64 ((rd_T67 l1 x26_2).f2))) (fun _ hk => hk.2) (.int .i64 ((rd_T67 l1 x26_2).f3))) (fun _ hk => hk.2) (.int .i64 ((rd_T67 l1 x26_2).f4))) (fun _ h_ => h_.1)))); (case side2 => exact (Kd.R_reads' HO_8.out).2.1); (case side3 => exact Kd.C_below HR1153_1.out (by repeat (first | (with_reducible first | exact HB.out | apply below_alloc | apply pw_below_drewN | apply below_drew1 | refine below_set ?_ GE1147.out | refine below_set ?_ GE1154.out) | exact HB.out))); (case side4 => exact HC1153_1.out); rintro e w55 ⟨rfl, hb⟩; refine ⟨_, rfl, ?_⟩; have n0_ := Aside0.mk (Kd.R_below (by (with_reducible repeat (first | apply Kd.R_alloc | apply Kd.R_drewN | apply Kd.R_drew)); exact (Kd.R_mono (Kd.R_far (p := ⟨gb1154, 4, none⟩) (Kd.R_far (p := ⟨gb1154, 3, none⟩) (Kd.R_far (p := ⟨gb1154, 2, none⟩) (Kd.R_far (p := ⟨gb1154, 1, none⟩) (Kd.R_far (p := ⟨gb1154, 0, none⟩) (Kd.R_types HO_8.out BK1154.out (by decide)) (fun _ hk => hk.2) (.int .i64 ((rd_T67 l1 x26_2).f0))) (fun _ hk => hk.2) (.slice A1153_1 ((rd_T67 l1 x26_2).f1).length c1153_1)) (fun _ hk => hk.2) (.int .i64 ((rd_T67 l1 x26_2).f2))) (fun _ hk => hk.2) (.int .i64 ((rd_T67 l1 x26_2).f3))) (fun _ hk => hk.2) (.int .i64 ((rd_T67 l1 x26_2).f4))) (fun _ h_ => h_.1))) hb); have n1_ := Aside0.mk (blk_below (g := gb1147) (o := .cells #[.slice A2_0 l2_0.length c2_0, .slice A2_1 l2_1.length c2_1, .slice A2_2 l2_2.length c2_2] 53 (0, 0)) (by (with_reducible repeat (first | refine blk_drewN ?_ _ | refine blk_drew ?_ | refine blk_alloc ?_ _)); refine blk_far ?_ NB1147_1154.out _; (with_reducible repeat (first | refine blk_drewN ?_ _ | refine blk_drew ?_ | refine blk_alloc ?_ _)); refine blk_far ?_ NB1147_1154.out _; (with_reducible repeat (first | refine blk_drewN ?_ _ | refine blk_drew ?_ | refine blk_alloc ?_ _)); refine blk_far ?_ NB1147_1154.out _; (with_reducible repeat (first | refine blk_drewN ?_ _ | refine blk_drew ?_ | refine blk_alloc ?_ _)); refine blk_far ?_ NB1147_1154.out _; (with_reducible repeat (first | refine blk_drewN ?_ _ | refine blk_drew ?_ | refine blk_alloc ?_ _)); refine blk_far ?_ NB1147_1154.out _; (with_reducible repeat (first | refine blk_drewN ?_ _ | refine blk_drew ?_ | refine blk_alloc ?_ _)); exact BK1147.out) hb); have n2_ := Aside0.mk (blk_below (g := gb1154) (o := .cells #[.int .i64 ((rd_T67 l1 x26_2).f0), .slice A1153_1 ((rd_T67 l1 x26_2).f1).length c1153_1, .int .i64 ((rd_T67 l1 x26_2).f2), .int .i64 ((rd_T67 l1 x26_2).f3), .int .i64 ((rd_T67 l1 x26_2).f4)] 67 (0, 0)) (by (with_reducible repeat (first | refine blk_drewN ?_ _ | refine blk_drew ?_ | refine blk_alloc ?_ _)); refine blk_put (cs := #[.int .i64 ((rd_T67 l1 x26_2).f0), .slice A1153_1 ((rd_T67 l1 x26_2).f1).length c1153_1, .int .i64 ((rd_T67 l1 x26_2).f2), .int .i64 ((rd_T67 l1 x26_2).f3), .int .i64 0]) ?_ 4 _ rfl; (with_reducible repeat (first | refine blk_drewN ?_ _ | refine blk_drew ?_ | refine blk_alloc ?_ _)); refine blk_put (cs := #[.int .i64 ((rd_T67 l1 x26_2).f0), .slice A1153_1 ((rd_T67 l1 x26_2).f1).length c1153_1, .int .i64 ((rd_T67 l1 x26_2).f2), .int .i64 0, .int .i64 0]) ?_ 3 _ rfl; (with_reducible repeat (first | refine blk_drewN ?_ _ | refine blk_drew ?_ | refine blk_alloc ?_ _)); refine blk_put (cs := #[.int .i64 ((rd_T67 l1 x26_2).f0), .slice A1153_1 ((rd_T67 l1 x26_2).f1).length c1153_1, .int .i64 0, .int .i64 0, .int .i64 0]) ?_ 2 _ rfl; (with_reducible repeat (first | refine blk_drewN ?_ _ | refine blk_drew ?_ | refine blk_alloc ?_ _)); refine blk_put (cs := #[.int .i64 ((rd_T67 l1 x26_2).f0), .slice none 0 0, .int .i64 0, .int .i64 0, .int .i64 0]) ?_ 1 _ rfl; (with_reducible repeat (first | refine blk_drewN ?_ _ | refine blk_drew ?_ | refine blk_alloc ?_ _)); refine blk_put (cs := #[.int .i64 0, .slice none 0 0, .int .i64 0, .int .i64 0, .int .i64 0]) ?_ 0 _ rfl; (with_reducible repeat (first | refine blk_drewN ?_ _ | refine blk_drew ?_ | refine blk_alloc ?_ _)); exact BK1154.out) hb); have n3_ := Aside0.mk (below_step (by repeat (first | (with_reducible first | exact HB.out | apply below_alloc | apply pw_below_drewN | apply below_drew1 | refine below_set ?_ GE1147.out | refine below_set ?_ GE1154.out) | exact HB.out)) hb); clear HO_8; clear BK1147; clear BK1154; clear HB; have HO_8 := n0_; have BK1147 := n1_; have BK1154 := n2_; have HB := n3_; clear n0_ n1_ n2_ n3_; (try clear hb); (try clear hb2); (try clear hk); (try clear hi); have hcz56_0 : w55.cell? ⟨gb1154, 0, none⟩ = some (.int .i64 ((rd_T67 l1 x26_2).f0)) := (blk_cell BK1154.out 0).trans rfl; have hcz56_1 : w55.cell? ⟨gb1154, 1, none⟩ = some (.slice A1153_1 ((rd_T67 l1 x26_2).f1).length c1153_1) := (blk_cell BK1154.out 1).trans rfl; have hcz56_2 : w55.cell? ⟨gb1154, 2, none⟩ = some (.int .i64 ((rd_T67 l1 x26_2).f2)) := (blk_cell BK1154.out 2).trans rfl; have hcz56_3 : w55.cell? ⟨gb1154, 3, none⟩ = some (.int .i64 ((rd_T67 l1 x26_2).f3)) := (blk_cell BK1154.out 3).trans rfl; have hcz56_4 : w55.cell? ⟨gb1154, 4, none⟩ = some (.int .i64 ((rd_T67 l1 x26_2).f4)) := (blk_cell BK1154.out 4).trans rfl; have hfz56_0 := blk_frozen BK1154.out 0; have hfz56_1 := blk_frozen BK1154.out 1; have hfz56_2 := blk_frozen BK1154.out 2; have hfz56_3 := blk_frozen BK1154.out 3; have hfz56_4 := blk_frozen BK1154.out 4) | ((with_reducible refine gate_callee (f := 46) rfl ?_); refine goesL_ (some 37) rfl rfl Try.func46 (by kernel_rfl) rfl #[.slice Ao54 x8_2.length co54, .agg #[.int .i64 ((rd_T67 l1 x26_2).f0), .slice A1153_1 ((rd_T67 l1 x26_2).f1).length c1153_1, .int .i64 ((rd_T67 l1 x26_2).f2), .int .i64 ((rd_T67 l1 x26_2).f3), .int .i64 ((rd_T67 l1 x26_2).f4)]] rfl (by (try simp only [List.map_toArray, List.map_cons, List.map_nil]); first | done | rfl | (simp only [List.length_drop, List.length_take]; rfl)) ?_; (with_reducible refine (impl_ApplyOp.calls k2 _ _ x8_2 ((rd_T67 l1 x26_2).f0) _ _ ((rd_T67 l1 x26_2).f1) ((rd_T67 l1 x26_2).f2) ((rd_T67 l1 x26_2).f3) ((rd_T67 l1 x26_2).f4) t1156 t1159 _ ?side1 ?side2 ?side3 ?side4 A20.out).mono ?_); (case side1 => repeat (first | exact (Kd.R_reads' HO_8.out).2.2 | (with_reducible refine Kd.C_alloc ?_ _) | (with_reducible refine Kd.C_drewN ?_ _) | (with_reducible refine Kd.C_drew ?_))); (case side2 => exact (Kd.R_reads' HO_8.out).2.1); (case side3 => repeat (first | exact (Kd.C_below HR1153_1.out HB.out) | (with_reducible refine Kd.C_alloc ?_ _) | (with_reducible refine Kd.C_drewN ?_ _) | (with_reducible refine Kd.C_drew ?_))); (case side4 => exact HC1153_1.out); rintro e w57 ⟨v1157, rfl, ho0, hb⟩; refine ⟨_, rfl, ?_⟩; have n0_ := Aside0.mk (Kd.R_elder' (by (with_reducible repeat (first | apply Kd.R_alloc | apply Kd.R_drewN | apply Kd.R_drew)); exact HO_8.out) (Kd.R_base ho0) hb); have n1_ := Aside0.mk (Kd.R_lower (Kd.R_new' ho0 (Kd.R_lt (by (with_reducible repeat (first | apply Kd.R_alloc | apply Kd.R_drewN | apply Kd.R_drew)); exact HO_8.out))) (below_size (by repeat (first | (with_reducible first | exact HB.out | apply below_alloc | apply pw_below_drewN | apply below_drew1 | refine below_set ?_ GE1147.out | refine below_set ?_ GE1154.out) | exact HB.out)))); have n2_ := Aside0.mk (blk_below (g := gb1147) (o := .cells #[.slice A2_0 l2_0.length c2_0, .slice A2_1 l2_1.length c2_1, .slice A2_2 l2_2.length c2_2] 53 (0, 0)) (by (with_reducible repeat (first | refine blk_drewN ?_ _ | refine blk_drew ?_ | refine blk_alloc ?_ _)); exact BK1147.out) hb); have n3_ := Aside0.mk (blk_below (g := gb1154) (o := .cells #[.int .i64 ((rd_T67 l1 x26_2).f0), .slice A1153_1 ((rd_T67 l1 x26_2).f1).length c1153_1, .int .i64 ((rd_T67 l1 x26_2).f2), .int .i64 ((rd_T67 l1 x26_2).f3), .int .i64 ((rd_T67 l1 x26_2).f4)] 67 (0, 0)) (by (with_reducible repeat (first | refine blk_drewN ?_ _ | refine blk_drew ?_ | refine blk_alloc ?_ _)); exact BK1154.out) hb); have n4_ := Aside0.mk (below_step (by repeat (first | (with_reducible first | exact HB.out | apply below_alloc | apply pw_below_drewN | apply below_drew1 | refine below_set ?_ GE1147.out | refine below_set ?_ GE1154.out) | exact HB.out)) hb); clear HO_8; clear BK1147; clear BK1154; clear HB; have HO_8 := n0_; have HO1158 := n1_; have BK1147 := n2_; have BK1154 := n3_; have HB := n4_; clear n0_ n1_ n2_ n3_ n4_; (try clear hb); (try clear hb2); (try clear hk); (try clear hi); (try clear ho0); have hcz58_0 : w57.cell? ⟨gb1154, 0, none⟩ = some (.int .i64 ((rd_T67 l1 x26_2).f0)) := (blk_cell BK1154.out 0).trans rfl; have hcz58_1 : w57.cell? ⟨gb1154, 1, none⟩ = some (.slice A1153_1 ((rd_T67 l1 x26_2).f1).length c1153_1) := (blk_cell BK1154.out 1).trans rfl; have hcz58_2 : w57.cell? ⟨gb1154, 2, none⟩ = some (.int .i64 ((rd_T67 l1 x26_2).f2)) := (blk_cell BK1154.out 2).trans rfl; have hcz58_3 : w57.cell? ⟨gb1154, 3, none⟩ = some (.int .i64 ((rd_T67 l1 x26_2).f3)) := (blk_cell BK1154.out 3).trans rfl; have hcz58_4 : w57.cell? ⟨gb1154, 4, none⟩ = some (.int .i64 ((rd_T67 l1 x26_2).f4)) := (blk_cell BK1154.out 4).trans rfl; have hfz58_0 := blk_frozen BK1154.out 0; have hfz58_1 := blk_frozen BK1154.out 1; have hfz58_2 := blk_frozen BK1154.out 2; have hfz58_3 := blk_frozen BK1154.out 3; have hfz58_4 := blk_frozen BK1154.out 4; have hcz59_0 : w57.cell? ⟨gb1147, 0, none⟩ = some (.slice A2_0 l2_0.length c2_0) := (blk_cell BK1147.out 0).trans rfl; have hcz59_1 : w57.cell? ⟨gb1147, 1, none⟩ = some (.slice A2_1 l2_1.length c2_1) := (blk_cell BK1147.out 1).trans rfl; have hcz59_2 : w57.cell? ⟨gb1147, 2, none⟩ = some (.slice A2_2 l2_2.length c2_2) := (blk_cell BK1147.out 2).trans rfl; have hfz59_0 := blk_frozen BK1147.out 0; have hfz59_1 := blk_frozen BK1147.out 1; have hfz59_2 := blk_frozen BK1147.out 2) | ((with_reducible refine gate_callee (f := 110) rfl ?_); refine goesL_ (some 48) rfl rfl Try.func110 (by kernel_rfl) rfl #[.agg #[.slice A2_0 l2_0.length c2_0, .slice A2_1 l2_1.length c2_1, .slice A2_2 l2_2.length c2_2], .int .i64 ((rd_T67 l1 x26_2).f2)] rfl (by (try simp only [List.map_toArray, List.map_cons, List.map_nil]); first | done | rfl | (simp only [List.length_drop, List.length_take]; rfl)) ?_; (with_reducible refine (impl_InsCost.calls k2 _ _ l2_0 _ _ l2_1 _ _ l2_2 ((rd_T67 l1 x26_2).f2) t1164 _ ?side1 ?side2 ?side3 ?side4 ?side5 ?side6 A50.out).mono ?_); (case side1 => repeat (first | exact (Kd.C_below HR2_0.out HB.out) | (with_reducible refine Kd.C_alloc ?_ _) | (with_reducible refine Kd.C_drewN ?_ _) | (with_reducible refine Kd.C_drew ?_))); (case side2 => exact HC2_0.out); (case side3 => repeat (first | exact (Kd.C_below HR2_1.out HB.out) | (with_reducible refine Kd.C_alloc ?_ _) | (with_reducible refine Kd.C_drewN ?_ _) | (with_reducible refine Kd.C_drew ?_))); (case side4 => exact HC2_1.out); (case side5 => repeat (first | exact (Kd.C_below HR2_2.out HB.out) | (with_reducible refine Kd.C_alloc ?_ _) | (with_reducible refine Kd.C_drewN ?_ _) | (with_reducible refine Kd.C_drew ?_))); (case side6 => exact HC2_2.out); rintro e w60 ⟨rfl, hb⟩; refine ⟨_, rfl, ?_⟩; have n0_ := Aside0.mk (Kd.R_below (by (with_reducible repeat (first | apply Kd.R_alloc | apply Kd.R_drewN | apply Kd.R_drew)); exact HO_8.out) hb); have n1_ := Aside0.mk (Kd.R_below (by (with_reducible repeat (first | apply Kd.R_alloc | apply Kd.R_drewN | apply Kd.R_drew)); exact HO1158.out) hb); have n2_ := Aside0.mk (blk_below (g := gb1147) (o := .cells #[.slice A2_0 l2_0.length c2_0, .slice A2_1 l2_1.length c2_1, .slice A2_2 l2_2.length c2_2] 53 (0, 0)) (by (with_reducible repeat (first | refine blk_drewN ?_ _ | refine blk_drew ?_ | refine blk_alloc ?_ _)); exact BK1147.out) hb); have n3_ := Aside0.mk (blk_below (g := gb1154) (o := .cells #[.int .i64 ((rd_T67 l1 x26_2).f0), .slice A1153_1 ((rd_T67 l1 x26_2).f1).length c1153_1, .int .i64 ((rd_T67 l1 x26_2).f2), .int .i64 ((rd_T67 l1 x26_2).f3), .int .i64 ((rd_T67 l1 x26_2).f4)] 67 (0, 0)) (by (with_reducible repeat (first | refine blk_drewN ?_ _ | refine blk_drew ?_ | refine blk_alloc ?_ _)); exact BK1154.out) hb); have n4_ := Aside0.mk (below_step (by repeat (first | (with_reducible first | exact HB.out | apply below_alloc | apply pw_below_drewN | apply below_drew1 | refine below_set ?_ GE1147.out | refine below_set ?_ GE1154.out) | exact HB.out)) hb); clear HO_8; clear HO1158; clear BK1147; clear BK1154; clear HB; have HO_8 := n0_; have HO1158 := n1_; have BK1147 := n2_; have BK1154 := n3_; have HB := n4_; clear n0_ n1_ n2_ n3_ n4_; (try clear hb); (try clear hb2); (try clear hk); (try clear hi)))
            go_roundg k2
            case measure => have := HJ3.out; have := HK2.out; omega
            case rel => exact ⟨(wrap64 (x7_2 + t1164)), (t1156), (wrap64 (x26_2 + 1)), eb_, eb_, H', ⟨by have := HJ3.out; have := HK2.out; omega⟩, ⟨rx_ (Kd.R_mono HO1158.out (fun _ hk => trivial))⟩, ⟨kx_ BK1147.out⟩, bl_ HB⟩
         ·rw [if_neg c21] at H
          have c21b0 : (t1159 == 0) = false := beq_eq_false_iff_ne.mpr c21
          have c21b1 : (t1159 != 0) = true := bne_iff_ne.mpr c21
          obtain rfl := Option.some.inj H
          have p1153 : 0 ≤ (x26_2 : Int) := od_
          have q1153 : x26_2 < (l1.length : Int) := od_
          obtain ⟨ad1153, A1153_1, c1153_1, e1153, hx1153_0, hx1153_1, hx1153_2, hx1153_3, hx1153_4, hl1153_1, hi1153_1⟩ := at_T67 HR1.out x26_2 p1153 q1153
          cases e1153
          replace hx1153_0 := ce_ HB hx1153_0
          replace hx1153_1 := ce_ HB hx1153_1
          replace hx1153_2 := ce_ HB hx1153_2
          replace hx1153_3 := (HB.out.cell (World.block_lt_of_cell? w _ hx1153_3)).trans hx1153_3
          replace hx1153_4 := (HB.out.cell (World.block_lt_of_cell? w _ hx1153_4)).trans hx1153_4
          have HR1153_1 := Aside0.mk hi1153_1
          have HC1153_1 := Aside0.mk hl1153_1
          clear hi1153_1 hl1153_1
          replace p1153 := eq_true p1153
          replace q1153 := eq_true q1153
          go_wp2_with (first | ((with_reducible refine gate_dst (N := 10) rfl ?_); refine box_event ?hg (N := 10) ?hd (cs := #[.int .i64 0, .slice none 0 0, .int .i64 0, .int .i64 0, .int .i64 0]) (t := 67) ?hr ?_; (case hd => rfl); (case hg => rfl); (case hr => first | (go_simp; done) | (go_simp; rfl)); intro gb1154 hg w61 hbox hb; have n0_ := Aside0.mk (Kd.R_below (by (with_reducible repeat (first | apply Kd.R_alloc | apply Kd.R_drewN | apply Kd.R_drew)); exact HO_8.out) hb); have n1_ := Aside0.mk (blk_below (g := gb1147) (o := .cells #[.slice A2_0 l2_0.length c2_0, .slice A2_1 l2_1.length c2_1, .slice A2_2 l2_2.length c2_2] 53 (0, 0)) (by (with_reducible repeat (first | refine blk_drewN ?_ _ | refine blk_drew ?_ | refine blk_alloc ?_ _)); exact BK1147.out) hb); have n2_ := Aside0.mk (below_step (by repeat (first | (with_reducible first | exact HB.out | apply below_alloc | apply pw_below_drewN | apply below_drew1 | refine below_set ?_ GE1147.out) | exact HB.out)) hb); have n3_ := Aside0.mk (hbox); have n4_ := Aside0.mk ((by rw [hg]; exact (below_size (by repeat (first | (with_reducible first | exact HB.out | apply below_alloc | apply pw_below_drewN | apply below_drew1 | refine below_set ?_ GE1147.out) | exact HB.out))) : w.heap.size ≤ gb1154)); have n5_ := Aside0.mk ((by rw [hg]; exact (below_size (by repeat (first | (with_reducible first | exact HB.out | apply below_alloc | apply pw_below_drewN | apply below_drew1 | refine below_set ?_ GE1147.out) | exact HB.out))) : w.heap.size ≤ gb1154)); have n6_ := Aside0.mk ((by rw [hg]; exact Nat.ne_of_lt (blk_lt (g := gb1147) (o := .cells #[.slice A2_0 l2_0.length c2_0, .slice A2_1 l2_1.length c2_1, .slice A2_2 l2_2.length c2_2] 53 (0, 0)) (by (with_reducible repeat (first | refine blk_drewN ?_ _ | refine blk_drew ?_ | refine blk_alloc ?_ _)); exact BK1147.out)) : gb1147 ≠ gb1154)); have n7_ := Aside0.mk ((by rw [hg]; exact Nat.ne_of_gt (blk_lt (g := gb1147) (o := .cells #[.slice A2_0 l2_0.length c2_0, .slice A2_1 l2_1.length c2_1, .slice A2_2 l2_2.length c2_2] 53 (0, 0)) (by (with_reducible repeat (first | refine blk_drewN ?_ _ | refine blk_drew ?_ | refine blk_alloc ?_ _)); exact BK1147.out)) : gb1154 ≠ gb1147)); clear HO_8; clear BK1147; clear HB; have HO_8 := n0_; have BK1147 := n1_; have HB := n2_; have BK1154 := n3_; have GW1154 := n4_; have GE1154 := n5_; have NB1147_1154 := n6_; have NB1154_1147 := n7_; clear n0_ n1_ n2_ n3_ n4_ n5_ n6_ n7_; clear hb hbox hg; have hnb62 := NB1154_1147.out; have hnc62 := NB1147_1154.out; have hcz63_0 : w61.cell? ⟨gb1154, 0, none⟩ = some (.int .i64 0) := (blk_cell BK1154.out 0).trans rfl; have hcz63_1 : w61.cell? ⟨gb1154, 1, none⟩ = some (.slice none 0 0) := (blk_cell BK1154.out 1).trans rfl; have hcz63_2 : w61.cell? ⟨gb1154, 2, none⟩ = some (.int .i64 0) := (blk_cell BK1154.out 2).trans rfl; have hcz63_3 : w61.cell? ⟨gb1154, 3, none⟩ = some (.int .i64 0) := (blk_cell BK1154.out 3).trans rfl; have hcz63_4 : w61.cell? ⟨gb1154, 4, none⟩ = some (.int .i64 0) := (blk_cell BK1154.out 4).trans rfl; have hfz63_0 := blk_frozen BK1154.out 0; have hfz63_1 := blk_frozen BK1154.out 1; have hfz63_2 := blk_frozen BK1154.out 2; have hfz63_3 := blk_frozen BK1154.out 3; have hfz63_4 := blk_frozen BK1154.out 4; obtain ⟨Ao64, co64, eo64⟩ := Kd.R_slice HO_8.out; subst eo64) | ((with_reducible refine gate_callee (f := 78) rfl ?_); refine goesL_ (some 33) rfl rfl Try.func78 (by kernel_rfl) rfl #[.slice Ao64 x8_2.length co64, .slice A1153_1 ((rd_T67 l1 x26_2).f1).length c1153_1] rfl (by (try simp only [List.map_toArray, List.map_cons, List.map_nil]); first | done | rfl | (simp only [List.length_drop, List.length_take]; rfl)) ?_; (with_reducible refine (impl_NodeAt.calls k2 _ _ x8_2 _ _ ((rd_T67 l1 x26_2).f1) t1155 _ ?side1 ?side2 ?side3 ?side4 A19.out).mono ?_); (case side1 => refine (Kd.R_reads' (e := 90) (base := w.heap.size) (ok := fun k_ => True) (n := x8_2.length) (c := co64) ?_).2.2; exact (by (with_reducible repeat (first | apply Kd.R_alloc | apply Kd.R_drewN | apply Kd.R_drew)); exact (Kd.R_mono (Kd.R_far (p := ⟨gb1154, 4, none⟩) (Kd.R_far (p := ⟨gb1154, 3, none⟩) (Kd.R_far (p := ⟨gb1154, 2, none⟩) (Kd.R_far (p := ⟨gb1154, 1, none⟩) (Kd.R_far (p := ⟨gb1154, 0, none⟩) (Kd.R_types HO_8.out BK1154.out (by decide)) (fun _ hk => hk.2) (.int .i64 ((rd_T67 l1 x26_2).f0))) (fun _ hk => hk.2) (.slice A1153_1 ((rd_T67 l1 x26_2).f1).length c1153_1)) (fun _ hk => hk.2) (.int .i64 ((rd_T67 l1 x26_2).f2))) (fun _ hk => hk.2) (.int .i64 ((rd_T67 l1 x26_2).f3))) (fun _ hk => hk.2) (.int .i64 ((rd_T67 l1 x26_2).f4))) (fun _ h_ => h_.1)))); (case side2 => exact (Kd.R_reads' HO_8.out).2.1); (case side3 => exact Kd.C_below HR1153_1.out (by repeat (first | (with_reducible first | exact HB.out | apply below_alloc | apply pw_below_drewN | apply below_drew1 | refine below_set ?_ GE1147.out | refine below_set ?_ GE1154.out) | exact HB.out))); (case side4 => exact HC1153_1.out); rintro e w65 ⟨rfl, hb⟩; refine ⟨_, rfl, ?_⟩; have n0_ := Aside0.mk (Kd.R_below (by (with_reducible repeat (first | apply Kd.R_alloc | apply Kd.R_drewN | apply Kd.R_drew)); exact (Kd.R_mono (Kd.R_far (p := ⟨gb1154, 4, none⟩) (Kd.R_far (p := ⟨gb1154, 3, none⟩) (Kd.R_far (p := ⟨gb1154, 2, none⟩) (Kd.R_far (p := ⟨gb1154, 1, none⟩) (Kd.R_far (p := ⟨gb1154, 0, none⟩) (Kd.R_types HO_8.out BK1154.out (by decide)) (fun _ hk => hk.2) (.int .i64 ((rd_T67 l1 x26_2).f0))) (fun _ hk => hk.2) (.slice A1153_1 ((rd_T67 l1 x26_2).f1).length c1153_1)) (fun _ hk => hk.2) (.int .i64 ((rd_T67 l1 x26_2).f2))) (fun _ hk => hk.2) (.int .i64 ((rd_T67 l1 x26_2).f3))) (fun _ hk => hk.2) (.int .i64 ((rd_T67 l1 x26_2).f4))) (fun _ h_ => h_.1))) hb); have n1_ := Aside0.mk (blk_below (g := gb1147) (o := .cells #[.slice A2_0 l2_0.length c2_0, .slice A2_1 l2_1.length c2_1, .slice A2_2 l2_2.length c2_2] 53 (0, 0)) (by (with_reducible repeat (first | refine blk_drewN ?_ _ | refine blk_drew ?_ | refine blk_alloc ?_ _)); refine blk_far ?_ NB1147_1154.out _; (with_reducible repeat (first | refine blk_drewN ?_ _ | refine blk_drew ?_ | refine blk_alloc ?_ _)); refine blk_far ?_ NB1147_1154.out _; (with_reducible repeat (first | refine blk_drewN ?_ _ | refine blk_drew ?_ | refine blk_alloc ?_ _)); refine blk_far ?_ NB1147_1154.out _; (with_reducible repeat (first | refine blk_drewN ?_ _ | refine blk_drew ?_ | refine blk_alloc ?_ _)); refine blk_far ?_ NB1147_1154.out _; (with_reducible repeat (first | refine blk_drewN ?_ _ | refine blk_drew ?_ | refine blk_alloc ?_ _)); refine blk_far ?_ NB1147_1154.out _; (with_reducible repeat (first | refine blk_drewN ?_ _ | refine blk_drew ?_ | refine blk_alloc ?_ _)); exact BK1147.out) hb); have n2_ := Aside0.mk (blk_below (g := gb1154) (o := .cells #[.int .i64 ((rd_T67 l1 x26_2).f0), .slice A1153_1 ((rd_T67 l1 x26_2).f1).length c1153_1, .int .i64 ((rd_T67 l1 x26_2).f2), .int .i64 ((rd_T67 l1 x26_2).f3), .int .i64 ((rd_T67 l1 x26_2).f4)] 67 (0, 0)) (by (with_reducible repeat (first | refine blk_drewN ?_ _ | refine blk_drew ?_ | refine blk_alloc ?_ _)); refine blk_put (cs := #[.int .i64 ((rd_T67 l1 x26_2).f0), .slice A1153_1 ((rd_T67 l1 x26_2).f1).length c1153_1, .int .i64 ((rd_T67 l1 x26_2).f2), .int .i64 ((rd_T67 l1 x26_2).f3), .int .i64 0]) ?_ 4 _ rfl; (with_reducible repeat (first | refine blk_drewN ?_ _ | refine blk_drew ?_ | refine blk_alloc ?_ _)); refine blk_put (cs := #[.int .i64 ((rd_T67 l1 x26_2).f0), .slice A1153_1 ((rd_T67 l1 x26_2).f1).length c1153_1, .int .i64 ((rd_T67 l1 x26_2).f2), .int .i64 0, .int .i64 0]) ?_ 3 _ rfl; (with_reducible repeat (first | refine blk_drewN ?_ _ | refine blk_drew ?_ | refine blk_alloc ?_ _)); refine blk_put (cs := #[.int .i64 ((rd_T67 l1 x26_2).f0), .slice A1153_1 ((rd_T67 l1 x26_2).f1).length c1153_1, .int .i64 0, .int .i64 0, .int .i64 0]) ?_ 2 _ rfl; (with_reducible repeat (first | refine blk_drewN ?_ _ | refine blk_drew ?_ | refine blk_alloc ?_ _)); refine blk_put (cs := #[.int .i64 ((rd_T67 l1 x26_2).f0), .slice none 0 0, .int .i64 0, .int .i64 0, .int .i64 0]) ?_ 1 _ rfl; (with_reducible repeat (first | refine blk_drewN ?_ _ | refine blk_drew ?_ | refine blk_alloc ?_ _)); refine blk_put (cs := #[.int .i64 0, .slice none 0 0, .int .i64 0, .int .i64 0, .int .i64 0]) ?_ 0 _ rfl; (with_reducible repeat (first | refine blk_drewN ?_ _ | refine blk_drew ?_ | refine blk_alloc ?_ _)); exact BK1154.out) hb); have n3_ := Aside0.mk (below_step (by repeat (first | (with_reducible first | exact HB.out | apply below_alloc | apply pw_below_drewN | apply below_drew1 | refine below_set ?_ GE1147.out | refine below_set ?_ GE1154.out) | exact HB.out)) hb); clear HO_8; clear BK1147; clear BK1154; clear HB; have HO_8 := n0_; have BK1147 := n1_; have BK1154 := n2_; have HB := n3_; clear n0_ n1_ n2_ n3_; (try clear hb); (try clear hb2); (try clear hk); (try clear hi); have hcz66_0 : w65.cell? ⟨gb1154, 0, none⟩ = some (.int .i64 ((rd_T67 l1 x26_2).f0)) := (blk_cell BK1154.out 0).trans rfl; have hcz66_1 : w65.cell? ⟨gb1154, 1, none⟩ = some (.slice A1153_1 ((rd_T67 l1 x26_2).f1).length c1153_1) := (blk_cell BK1154.out 1).trans rfl; have hcz66_2 : w65.cell? ⟨gb1154, 2, none⟩ = some (.int .i64 ((rd_T67 l1 x26_2).f2)) := (blk_cell BK1154.out 2).trans rfl; have hcz66_3 : w65.cell? ⟨gb1154, 3, none⟩ = some (.int .i64 ((rd_T67 l1 x26_2).f3)) := (blk_cell BK1154.out 3).trans rfl; have hcz66_4 : w65.cell? ⟨gb1154, 4, none⟩ = some (.int .i64 ((rd_T67 l1 x26_2).f4)) := (blk_cell BK1154.out 4).trans rfl; have hfz66_0 := blk_frozen BK1154.out 0; have hfz66_1 := blk_frozen BK1154.out 1; have hfz66_2 := blk_frozen BK1154.out 2; have hfz66_3 := blk_frozen BK1154.out 3; have hfz66_4 := blk_frozen BK1154.out 4) | ((with_reducible refine gate_callee (f := 46) rfl ?_); refine goesL_ (some 37) rfl rfl Try.func46 (by kernel_rfl) rfl #[.slice Ao64 x8_2.length co64, .agg #[.int .i64 ((rd_T67 l1 x26_2).f0), .slice A1153_1 ((rd_T67 l1 x26_2).f1).length c1153_1, .int .i64 ((rd_T67 l1 x26_2).f2), .int .i64 ((rd_T67 l1 x26_2).f3), .int .i64 ((rd_T67 l1 x26_2).f4)]] rfl (by (try simp only [List.map_toArray, List.map_cons, List.map_nil]); first | done | rfl | (simp only [List.length_drop, List.length_take]; rfl)) ?_; (with_reducible refine (impl_ApplyOp.calls k2 _ _ x8_2 ((rd_T67 l1 x26_2).f0) _ _ ((rd_T67 l1 x26_2).f1) ((rd_T67 l1 x26_2).f2) ((rd_T67 l1 x26_2).f3) ((rd_T67 l1 x26_2).f4) t1156 t1159 _ ?side1 ?side2 ?side3 ?side4 A20.out).mono ?_); (case side1 => repeat (first | exact (Kd.R_reads' HO_8.out).2.2 | (with_reducible refine Kd.C_alloc ?_ _) | (with_reducible refine Kd.C_drewN ?_ _) | (with_reducible refine Kd.C_drew ?_))); (case side2 => exact (Kd.R_reads' HO_8.out).2.1); (case side3 => repeat (first | exact (Kd.C_below HR1153_1.out HB.out) | (with_reducible refine Kd.C_alloc ?_ _) | (with_reducible refine Kd.C_drewN ?_ _) | (with_reducible refine Kd.C_drew ?_))); (case side4 => exact HC1153_1.out); rintro e w67 ⟨v1157, rfl, ho0, hb⟩; refine ⟨_, rfl, ?_⟩; have n0_ := Aside0.mk (Kd.R_elder' (by (with_reducible repeat (first | apply Kd.R_alloc | apply Kd.R_drewN | apply Kd.R_drew)); exact HO_8.out) (Kd.R_base ho0) hb); have n1_ := Aside0.mk (Kd.R_lower (Kd.R_new' ho0 (Kd.R_lt (by (with_reducible repeat (first | apply Kd.R_alloc | apply Kd.R_drewN | apply Kd.R_drew)); exact HO_8.out))) (below_size (by repeat (first | (with_reducible first | exact HB.out | apply below_alloc | apply pw_below_drewN | apply below_drew1 | refine below_set ?_ GE1147.out | refine below_set ?_ GE1154.out) | exact HB.out)))); have n2_ := Aside0.mk (blk_below (g := gb1147) (o := .cells #[.slice A2_0 l2_0.length c2_0, .slice A2_1 l2_1.length c2_1, .slice A2_2 l2_2.length c2_2] 53 (0, 0)) (by (with_reducible repeat (first | refine blk_drewN ?_ _ | refine blk_drew ?_ | refine blk_alloc ?_ _)); exact BK1147.out) hb); have n3_ := Aside0.mk (blk_below (g := gb1154) (o := .cells #[.int .i64 ((rd_T67 l1 x26_2).f0), .slice A1153_1 ((rd_T67 l1 x26_2).f1).length c1153_1, .int .i64 ((rd_T67 l1 x26_2).f2), .int .i64 ((rd_T67 l1 x26_2).f3), .int .i64 ((rd_T67 l1 x26_2).f4)] 67 (0, 0)) (by (with_reducible repeat (first | refine blk_drewN ?_ _ | refine blk_drew ?_ | refine blk_alloc ?_ _)); exact BK1154.out) hb); have n4_ := Aside0.mk (below_step (by repeat (first | (with_reducible first | exact HB.out | apply below_alloc | apply pw_below_drewN | apply below_drew1 | refine below_set ?_ GE1147.out | refine below_set ?_ GE1154.out) | exact HB.out)) hb); clear HO_8; clear BK1147; clear BK1154; clear HB; have HO_8 := n0_; have HO1158 := n1_; have BK1147 := n2_; have BK1154 := n3_; have HB := n4_; clear n0_ n1_ n2_ n3_ n4_; (try clear hb); (try clear hb2); (try clear hk); (try clear hi); (try clear ho0)))
          go_ret
          exact ⟨ea_, (bl_ HB).out⟩
        ·rw [if_neg c18] at H
         exact absurd H (by simp)
       ·rw [if_neg c17] at H
        exact absurd H (by simp)
      ·rw [if_neg c16] at H
       have c16b0 : decide (x26_2 < (l1.length : Int)) = false := decide_eq_false c16
       clear c16
       obtain rfl := Option.some.inj H
       go_wp2
       go_ret
       exact ⟨ea_, (bl_ HB).out⟩
end Go.Proofs.Ytbifdckfglejkaa.X
namespace Go.Proofs.Ytbifdckfglejkaa.X
open Go.RowKit Go.Proofs.YtbifdckfglejkaaW.PrintWords Go.Proofs.YtbifdckfglejkaaW.PrintLast Go.Proofs.YtbifdckfglejkaaW.PrintMore
attribute [local go_sem] max2_int min2_int max_two min_two max_three min_three max_four min_four   -- for this text's walks alone
set_option linter.unusedVariables false
set_option linter.unusedSimpArgs false
def laws_FnExactScriptCost.f (k : Nat) (l0 : List (S120)) (l1 : List (S63)) (l2_0 : List Int) (l2_1 : List Int) (l2_2 : List Int) : Option (Bool) := (laws_szNodeS.f l0 1048576).bind fun t1166 => (if t1166 < 0 then (some true) else ((laws_szOpS.f k l1 t1166).bind fun t1167 => (if t1167 < 0 then (some true) else ((laws_szCost.f l2_0 l2_1 l2_2 t1167).bind fun t1168 => (if t1168 < 0 then (some true) else ((laws_toNodeS.f k l0).bind fun t1169 => ((laws_toOpS.f k l1).bind fun t1172 => ((laws_toCost.f k l2_0 l2_1 l2_2).bind fun bt1175 => ((spec_ScriptCost.f k t1169 t1172 bt1175.1 bt1175.2.1 bt1175.2.2).bind fun t1184 => ((laws_toNodeS.f k l0).bind fun t1185 => ((laws_toOpS.f k l1).bind fun t1188 => ((laws_toCost.f k l2_0 l2_1 l2_2).bind fun bt1191 => ((impl_ScriptCost.f k t1185 t1188 bt1191.1 bt1191.2.1 bt1191.2.2).bind fun t1201 => (if t1201 = t1184 then ((laws_toNodeS.f k l0).bind fun t1202 => ((laws_eqNodeS.f k t1185 t1202).bind fun t1205 => (if t1205 = true then ((laws_toOpS.f k l1).bind fun t1206 => ((laws_eqOpS.f k t1188 t1206).bind fun t1209 => (if t1209 = true then ((laws_toCost.f k l2_0 l2_1 l2_2).bind fun bt1210 => ((laws_eqCost.f k bt1191.1 bt1191.2.1 bt1191.2.2 bt1210.1 bt1210.2.1 bt1210.2.2).bind fun t1219 => (if t1219 = true then (some true) else (some false)))) else (some false)))) else (some false)))) else (some false)))))))))))))))
def laws_FnExactScriptCost.T11 : Bool × List (List Nat × List Nat) := (true, [([], []), ([0], [0]), ([], []), ([2, 1], [2]), ([], []), ([4, 3], [4]), ([1, 3, 5, 5], [1, 3, 5]), ([6, 6, 0, 1, 2, 3, 4, 5, 6], [6])])
def laws_FnExactScriptCost.B11 : List Nat := [0, 1, 0, 7, 0, 31, 63, 127]
theorem laws_FnExactScriptCost.tab11 : rtab .any (opsOf Try.f11 11) = laws_FnExactScriptCost.T11 := by kernel_rfl
theorem laws_FnExactScriptCost.bits11 : waitsOk laws_FnExactScriptCost.T11.2 laws_FnExactScriptCost.B11 = true := by kernel_rfl
set_option maxHeartbeats 8000000 in
set_option maxRecDepth 100000 in
theorem laws_FnExactScriptCost.calls (k : Nat) (A0 : Option Addr) (c0 : Nat) (l0 : List (S120)) (A1 : Option Addr) (c1 : Nat) (l1 : List (S63)) (A2_0 : Option Addr) (c2_0 : Nat) (l2_0 : List Int) (A2_1 : Option Addr) (c2_1 : Nat) (l2_1 : List Int) (A2_2 : Option Addr) (c2_2 : Nat) (l2_2 : List Int) (w : World) (hr0 : Kd.C k120 w A0 l0.length l0) (hc0 : l0.length ≤ c0) (hr1 : Kd.C k63 w A1 l1.length l1) (hc1 : l1.length ≤ c1) (hr2_0 : Kd.C (Kd.int .i64) w A2_0 l2_0.length l2_0) (hc2_0 : l2_0.length ≤ c2_0) (hr2_1 : Kd.C (Kd.int .i64) w A2_1 l2_1.length l2_1) (hc2_1 : l2_1.length ≤ c2_1) (hr2_2 : Kd.C (Kd.int .i64) w A2_2 l2_2.length l2_2) (hc2_2 : l2_2.length ≤ c2_2) (h : laws_FnExactScriptCost.f k l0 l1 l2_0 l2_1 l2_2 = some true) :
  Calls Try.prog 11 #[.slice A0 l0.length c0, .slice A1 l1.length c1, .agg #[.slice A2_0 l2_0.length c2_0, .slice A2_1 l2_1.length c2_1, .slice A2_2 l2_2.length c2_2]] w fun e w' => e = .returned (.bool true) ∧ Below w.heap.size w w' := by
 have hu46 := Try.underlying46
 have hu53 := Try.underlying53
 have HR0 := Aside0.mk hr0
 have HC0 := Aside0.mk hc0
 clear hr0 hc0
 have HR1 := Aside0.mk hr1
 have HC1 := Aside0.mk hc1
 clear hr1 hc1
 have HR2_0 := Aside0.mk hr2_0
 have HC2_0 := Aside0.mk hc2_0
 clear hr2_0 hc2_0
 have HR2_1 := Aside0.mk hr2_1
 have HC2_1 := Aside0.mk hc2_1
 clear hr2_1 hc2_1
 have HR2_2 := Aside0.mk hr2_2
 have HC2_2 := Aside0.mk hc2_2
 clear hr2_2 hc2_2
 have HB := Aside0.mk (Below.refl w.heap.size w)
 have H : ((laws_szNodeS.f l0 1048576).bind fun t1166 => (if t1166 < 0 then (some true) else ((laws_szOpS.f k l1 t1166).bind fun t1167 => (if t1167 < 0 then (some true) else ((laws_szCost.f l2_0 l2_1 l2_2 t1167).bind fun t1168 => (if t1168 < 0 then (some true) else ((laws_toNodeS.f k l0).bind fun t1169 => ((laws_toOpS.f k l1).bind fun t1172 => ((laws_toCost.f k l2_0 l2_1 l2_2).bind fun bt1175 => ((spec_ScriptCost.f k t1169 t1172 bt1175.1 bt1175.2.1 bt1175.2.2).bind fun t1184 => ((laws_toNodeS.f k l0).bind fun t1185 => ((laws_toOpS.f k l1).bind fun t1188 => ((laws_toCost.f k l2_0 l2_1 l2_2).bind fun bt1191 => ((impl_ScriptCost.f k t1185 t1188 bt1191.1 bt1191.2.1 bt1191.2.2).bind fun t1201 => (if t1201 = t1184 then ((laws_toNodeS.f k l0).bind fun t1202 => ((laws_eqNodeS.f k t1185 t1202).bind fun t1205 => (if t1205 = true then ((laws_toOpS.f k l1).bind fun t1206 => ((laws_eqOpS.f k t1188 t1206).bind fun t1209 => (if t1209 = true then ((laws_toCost.f k l2_0 l2_1 l2_2).bind fun bt1210 => ((laws_eqCost.f k bt1191.1 bt1191.2.1 bt1191.2.2 bt1210.1 bt1210.2.1 bt1210.2.2).bind fun t1219 => (if t1219 = true then (some true) else (some false)))) else (some false)))) else (some false)))) else (some false)))))))))))))))) = some true := h
 clear h
 replace H := Option.bind_eq_some_iff.mp H
 obtain ⟨t1166, A40, H⟩ := H
 try dsimp only at H
 have A4 := Aside0.mk A40
 clear A40
 by_cases c5 : t1166 < 0
 ·rw [if_pos c5] at H
  have c5b0 : decide (t1166 < 0) = true := decide_eq_true c5
  clear c5
  clear H
  go_enter Try.func11, Try.ntmps11
  go_wp2_with (first | ((with_reducible refine gate_dst (N := 5) rfl ?_); refine box_event ?hg (N := 5) ?hd (cs := #[.slice A2_0 l2_0.length c2_0, .slice A2_1 l2_1.length c2_1, .slice A2_2 l2_2.length c2_2]) (t := 46) ?hr ?_; (case hd => rfl); (case hg => rfl); (case hr => first | (go_simp; done) | (go_simp; rfl)); intro gb1165 hg w6 hbox hb; have n0_ := Aside0.mk (below_step (by repeat (first | (with_reducible first | exact HB.out | apply below_alloc | apply pw_below_drewN | apply below_drew1) | exact HB.out)) hb); have n1_ := Aside0.mk (hbox); have n2_ := Aside0.mk ((by rw [hg]; exact (below_size (by repeat (first | (with_reducible first | exact HB.out | apply below_alloc | apply pw_below_drewN | apply below_drew1) | exact HB.out))) : w.heap.size ≤ gb1165)); have n3_ := Aside0.mk ((by rw [hg]; exact (below_size (by repeat (first | (with_reducible first | exact HB.out | apply below_alloc | apply pw_below_drewN | apply below_drew1) | exact HB.out))) : w.heap.size ≤ gb1165)); clear HB; have HB := n0_; have BK1165 := n1_; have GW1165 := n2_; have GE1165 := n3_; clear n0_ n1_ n2_ n3_; clear hb hbox hg) | ((with_reducible refine gate_callee (f := 31) rfl ?_); refine goesL_ (some 15) rfl rfl Try.func31 (by kernel_rfl) rfl #[.slice A0 l0.length c0, .int .i64 1048576] rfl (by (try simp only [List.map_toArray, List.map_cons, List.map_nil]); first | done | rfl | (simp only [List.length_drop, List.length_take]; rfl)) ?_; (with_reducible refine (laws_szNodeS.calls _ _ l0 1048576 t1166 _ ?side1 ?side2 A4.out).mono ?_); (case side1 => repeat (first | exact (Kd.C_below HR0.out HB.out) | (with_reducible refine Kd.C_alloc ?_ _) | (with_reducible refine Kd.C_drewN ?_ _) | (with_reducible refine Kd.C_drew ?_))); (case side2 => exact HC0.out); rintro e w' ⟨rfl, ⟨nd, rfl⟩⟩; refine ⟨_, rfl, ?_⟩))
  go_ret
  exact ⟨by first | rfl | (simp [errW_none, errW_some] <;> rfl) | (simp [*, errW_none, errW_some] <;> rfl), by repeat (first | (with_reducible first | exact HB.out | apply below_alloc | apply pw_below_drewN | apply below_drew1 | refine below_set ?_ GE1165.out) | exact HB.out)⟩
 ·rw [if_neg c5] at H
  have c5b0 : decide (t1166 < 0) = false := decide_eq_false c5
  clear c5
  replace H := Option.bind_eq_some_iff.mp H
  obtain ⟨t1167, A70, H⟩ := H
  try dsimp only at H
  have A7 := Aside0.mk A70
  clear A70
  by_cases c8 : t1167 < 0
  ·rw [if_pos c8] at H
   have c8b0 : decide (t1167 < 0) = true := decide_eq_true c8
   clear c8
   clear H
   go_enter Try.func11, Try.ntmps11
   go_wp2_with (first | ((with_reducible refine gate_dst (N := 5) rfl ?_); refine box_event ?hg (N := 5) ?hd (cs := #[.slice A2_0 l2_0.length c2_0, .slice A2_1 l2_1.length c2_1, .slice A2_2 l2_2.length c2_2]) (t := 46) ?hr ?_; (case hd => rfl); (case hg => rfl); (case hr => first | (go_simp; done) | (go_simp; rfl)); intro gb1165 hg w9 hbox hb; have n0_ := Aside0.mk (below_step (by repeat (first | (with_reducible first | exact HB.out | apply below_alloc | apply pw_below_drewN | apply below_drew1) | exact HB.out)) hb); have n1_ := Aside0.mk (hbox); have n2_ := Aside0.mk ((by rw [hg]; exact (below_size (by repeat (first | (with_reducible first | exact HB.out | apply below_alloc | apply pw_below_drewN | apply below_drew1) | exact HB.out))) : w.heap.size ≤ gb1165)); have n3_ := Aside0.mk ((by rw [hg]; exact (below_size (by repeat (first | (with_reducible first | exact HB.out | apply below_alloc | apply pw_below_drewN | apply below_drew1) | exact HB.out))) : w.heap.size ≤ gb1165)); clear HB; have HB := n0_; have BK1165 := n1_; have GW1165 := n2_; have GE1165 := n3_; clear n0_ n1_ n2_ n3_; clear hb hbox hg) | ((with_reducible refine gate_callee (f := 31) rfl ?_); refine goesL_ (some 15) rfl rfl Try.func31 (by kernel_rfl) rfl #[.slice A0 l0.length c0, .int .i64 1048576] rfl (by (try simp only [List.map_toArray, List.map_cons, List.map_nil]); first | done | rfl | (simp only [List.length_drop, List.length_take]; rfl)) ?_; (with_reducible refine (laws_szNodeS.calls _ _ l0 1048576 t1166 _ ?side1 ?side2 A4.out).mono ?_); (case side1 => repeat (first | exact (Kd.C_below HR0.out HB.out) | (with_reducible refine Kd.C_alloc ?_ _) | (with_reducible refine Kd.C_drewN ?_ _) | (with_reducible refine Kd.C_drew ?_))); (case side2 => exact HC0.out); rintro e w' ⟨rfl, ⟨nd, rfl⟩⟩; refine ⟨_, rfl, ?_⟩) | ((with_reducible refine gate_callee (f := 49) rfl ?_); refine goesL_ (some 20) rfl rfl Try.func49 (by kernel_rfl) rfl #[.slice A1 l1.length c1, .int .i64 t1166] rfl (by (try simp only [List.map_toArray, List.map_cons, List.map_nil]); first | done | rfl | (simp only [List.length_drop, List.length_take]; rfl)) ?_; (with_reducible refine (laws_szOpS.calls k _ _ l1 t1166 t1167 _ ?side1 ?side2 A7.out).mono ?_); (case side1 => repeat (first | exact (Kd.C_below HR1.out (by repeat (first | (with_reducible first | exact HB.out | apply below_alloc | apply pw_below_drewN | apply below_drew1 | refine below_set ?_ GE1165.out) | exact HB.out))) | (with_reducible refine Kd.C_alloc ?_ _) | (with_reducible refine Kd.C_drewN ?_ _) | (with_reducible refine Kd.C_drew ?_))); (case side2 => exact HC1.out); rintro e w10 ⟨rfl, hb⟩; refine ⟨_, rfl, ?_⟩; have n0_ := Aside0.mk (blk_below (g := gb1165) (o := .cells #[.slice A2_0 l2_0.length c2_0, .slice A2_1 l2_1.length c2_1, .slice A2_2 l2_2.length c2_2] 46 (0, 0)) (by (with_reducible repeat (first | refine blk_drewN ?_ _ | refine blk_drew ?_ | refine blk_alloc ?_ _)); exact BK1165.out) hb); have n1_ := Aside0.mk (below_step (by repeat (first | (with_reducible first | exact HB.out | apply below_alloc | apply pw_below_drewN | apply below_drew1 | refine below_set ?_ GE1165.out) | exact HB.out)) hb); clear BK1165; clear HB; have BK1165 := n0_; have HB := n1_; clear n0_ n1_; (try clear hb); (try clear hb2); (try clear hk); (try clear hi)))
   go_ret
   exact ⟨by first | rfl | (simp [errW_none, errW_some] <;> rfl) | (simp [*, errW_none, errW_some] <;> rfl), by repeat (first | (with_reducible first | exact HB.out | apply below_alloc | apply pw_below_drewN | apply below_drew1 | refine below_set ?_ GE1165.out) | exact HB.out)⟩
  ·rw [if_neg c8] at H
   have c8b0 : decide (t1167 < 0) = false := decide_eq_false c8
   clear c8
   replace H := Option.bind_eq_some_iff.mp H
   obtain ⟨t1168, A110, H⟩ := H
   try dsimp only at H
   have A11 := Aside0.mk A110
   clear A110
   by_cases c12 : t1168 < 0
   ·rw [if_pos c12] at H
    have c12b0 : decide (t1168 < 0) = true := decide_eq_true c12
    clear c12
    clear H
    go_enter Try.func11, Try.ntmps11
    go_wp2_with (first | ((with_reducible refine gate_dst (N := 5) rfl ?_); refine box_event ?hg (N := 5) ?hd (cs := #[.slice A2_0 l2_0.length c2_0, .slice A2_1 l2_1.length c2_1, .slice A2_2 l2_2.length c2_2]) (t := 46) ?hr ?_; (case hd => rfl); (case hg => rfl); (case hr => first | (go_simp; done) | (go_simp; rfl)); intro gb1165 hg w13 hbox hb; have n0_ := Aside0.mk (below_step (by repeat (first | (with_reducible first | exact HB.out | apply below_alloc | apply pw_below_drewN | apply below_drew1) | exact HB.out)) hb); have n1_ := Aside0.mk (hbox); have n2_ := Aside0.mk ((by rw [hg]; exact (below_size (by repeat (first | (with_reducible first | exact HB.out | apply below_alloc | apply pw_below_drewN | apply below_drew1) | exact HB.out))) : w.heap.size ≤ gb1165)); have n3_ := Aside0.mk ((by rw [hg]; exact (below_size (by repeat (first | (with_reducible first | exact HB.out | apply below_alloc | apply pw_below_drewN | apply below_drew1) | exact HB.out))) : w.heap.size ≤ gb1165)); clear HB; have HB := n0_; have BK1165 := n1_; have GW1165 := n2_; have GE1165 := n3_; clear n0_ n1_ n2_ n3_; clear hb hbox hg) | ((with_reducible refine gate_callee (f := 31) rfl ?_); refine goesL_ (some 15) rfl rfl Try.func31 (by kernel_rfl) rfl #[.slice A0 l0.length c0, .int .i64 1048576] rfl (by (try simp only [List.map_toArray, List.map_cons, List.map_nil]); first | done | rfl | (simp only [List.length_drop, List.length_take]; rfl)) ?_; (with_reducible refine (laws_szNodeS.calls _ _ l0 1048576 t1166 _ ?side1 ?side2 A4.out).mono ?_); (case side1 => repeat (first | exact (Kd.C_below HR0.out HB.out) | (with_reducible refine Kd.C_alloc ?_ _) | (with_reducible refine Kd.C_drewN ?_ _) | (with_reducible refine Kd.C_drew ?_))); (case side2 => exact HC0.out); rintro e w' ⟨rfl, ⟨nd, rfl⟩⟩; refine ⟨_, rfl, ?_⟩) | ((with_reducible refine gate_callee (f := 49) rfl ?_); refine goesL_ (some 20) rfl rfl Try.func49 (by kernel_rfl) rfl #[.slice A1 l1.length c1, .int .i64 t1166] rfl (by (try simp only [List.map_toArray, List.map_cons, List.map_nil]); first | done | rfl | (simp only [List.length_drop, List.length_take]; rfl)) ?_; (with_reducible refine (laws_szOpS.calls k _ _ l1 t1166 t1167 _ ?side1 ?side2 A7.out).mono ?_); (case side1 => repeat (first | exact (Kd.C_below HR1.out (by repeat (first | (with_reducible first | exact HB.out | apply below_alloc | apply pw_below_drewN | apply below_drew1 | refine below_set ?_ GE1165.out) | exact HB.out))) | (with_reducible refine Kd.C_alloc ?_ _) | (with_reducible refine Kd.C_drewN ?_ _) | (with_reducible refine Kd.C_drew ?_))); (case side2 => exact HC1.out); rintro e w14 ⟨rfl, hb⟩; refine ⟨_, rfl, ?_⟩; have n0_ := Aside0.mk (blk_below (g := gb1165) (o := .cells #[.slice A2_0 l2_0.length c2_0, .slice A2_1 l2_1.length c2_1, .slice A2_2 l2_2.length c2_2] 46 (0, 0)) (by (with_reducible repeat (first | refine blk_drewN ?_ _ | refine blk_drew ?_ | refine blk_alloc ?_ _)); exact BK1165.out) hb); have n1_ := Aside0.mk (below_step (by repeat (first | (with_reducible first | exact HB.out | apply below_alloc | apply pw_below_drewN | apply below_drew1 | refine below_set ?_ GE1165.out) | exact HB.out)) hb); clear BK1165; clear HB; have BK1165 := n0_; have HB := n1_; clear n0_ n1_; (try clear hb); (try clear hb2); (try clear hk); (try clear hi); have hcz15_0 : w14.cell? ⟨gb1165, 0, none⟩ = some (.slice A2_0 l2_0.length c2_0) := (blk_cell BK1165.out 0).trans rfl; have hcz15_1 : w14.cell? ⟨gb1165, 1, none⟩ = some (.slice A2_1 l2_1.length c2_1) := (blk_cell BK1165.out 1).trans rfl; have hcz15_2 : w14.cell? ⟨gb1165, 2, none⟩ = some (.slice A2_2 l2_2.length c2_2) := (blk_cell BK1165.out 2).trans rfl; have hfz15_0 := blk_frozen BK1165.out 0; have hfz15_1 := blk_frozen BK1165.out 1; have hfz15_2 := blk_frozen BK1165.out 2) | ((with_reducible refine gate_callee (f := 32) rfl ?_); refine goesL_ (some 25) rfl rfl Try.func32 (by kernel_rfl) rfl #[.agg #[.slice A2_0 l2_0.length c2_0, .slice A2_1 l2_1.length c2_1, .slice A2_2 l2_2.length c2_2], .int .i64 t1167] rfl (by (try simp only [List.map_toArray, List.map_cons, List.map_nil]); first | done | rfl | (simp only [List.length_drop, List.length_take]; rfl)) ?_; (with_reducible refine (laws_szCost.calls _ _ l2_0 _ _ l2_1 _ _ l2_2 t1167 t1168 _ ?side1 ?side2 ?side3 ?side4 ?side5 ?side6 A11.out).mono ?_); (case side1 => repeat (first | exact (Kd.C_below HR2_0.out HB.out) | (with_reducible refine Kd.C_alloc ?_ _) | (with_reducible refine Kd.C_drewN ?_ _) | (with_reducible refine Kd.C_drew ?_))); (case side2 => exact HC2_0.out); (case side3 => repeat (first | exact (Kd.C_below HR2_1.out HB.out) | (with_reducible refine Kd.C_alloc ?_ _) | (with_reducible refine Kd.C_drewN ?_ _) | (with_reducible refine Kd.C_drew ?_))); (case side4 => exact HC2_1.out); (case side5 => repeat (first | exact (Kd.C_below HR2_2.out HB.out) | (with_reducible refine Kd.C_alloc ?_ _) | (with_reducible refine Kd.C_drewN ?_ _) | (with_reducible refine Kd.C_drew ?_))); (case side6 => exact HC2_2.out); rintro e w16 ⟨rfl, hb⟩; refine ⟨_, rfl, ?_⟩; have n0_ := Aside0.mk (blk_below (g := gb1165) (o := .cells #[.slice A2_0 l2_0.length c2_0, .slice A2_1 l2_1.length c2_1, .slice A2_2 l2_2.length c2_2] 46 (0, 0)) (by (with_reducible repeat (first | refine blk_drewN ?_ _ | refine blk_drew ?_ | refine blk_alloc ?_ _)); exact BK1165.out) hb); have n1_ := Aside0.mk (below_step (by repeat (first | (with_reducible first | exact HB.out | apply below_alloc | apply pw_below_drewN | apply below_drew1 | refine below_set ?_ GE1165.out) | exact HB.out)) hb); clear BK1165; clear HB; have BK1165 := n0_; have HB := n1_; clear n0_ n1_; (try clear hb); (try clear hb2); (try clear hk); (try clear hi)))
    go_ret
    exact ⟨ea_, (bl_ HB).out⟩
   ·rw [if_neg c12] at H
    have c12b0 : decide (t1168 < 0) = false := decide_eq_false c12
    clear c12
    replace H := Option.bind_eq_some_iff.mp H
    obtain ⟨t1169, A170, H⟩ := H
    try dsimp only at H
    have A17 := Aside0.mk A170
    clear A170
    replace H := Option.bind_eq_some_iff.mp H
    obtain ⟨t1172, A180, H⟩ := H
    try dsimp only at H
    have A18 := Aside0.mk A180
    clear A180
    replace H := Option.bind_eq_some_iff.mp H
    obtain ⟨⟨t1175, t1178, t1181⟩, A190, H⟩ := H
    try dsimp only at H
    have A19 := Aside0.mk A190
    clear A190
    replace H := Option.bind_eq_some_iff.mp H
    obtain ⟨t1184, A200, H⟩ := H
    try dsimp only at H
    have A20 := Aside0.mk A200
    clear A200
    replace H := Option.bind_eq_some_iff.mp H
    obtain ⟨t1185, A210, H⟩ := H
    try dsimp only at H
    have A21 := Aside0.mk A210
    clear A210
    replace H := Option.bind_eq_some_iff.mp H
    obtain ⟨t1188, A220, H⟩ := H
    try dsimp only at H
    have A22 := Aside0.mk A220
    clear A220
    replace H := Option.bind_eq_some_iff.mp H
    obtain ⟨⟨t1191, t1194, t1197⟩, A230, H⟩ := H
    try dsimp only at H
    have A23 := Aside0.mk A230
    clear A230
    replace H := Option.bind_eq_some_iff.mp H
    obtain ⟨t1201, A240, H⟩ := H
    try dsimp only at H
    have A24 := Aside0.mk A240
    clear A240
    by_cases c25 : t1201 = t1184
    ·rw [if_pos c25] at H
     have c25b0 : (t1201 == t1184) = true := beq_iff_eq.mpr c25
     have c25b1 : (t1201 != t1184) = false := bne_eq_false_iff_eq.mpr c25
     clear c25
     replace H := Option.bind_eq_some_iff.mp H
     obtain ⟨t1202, A260, H⟩ := H
     try dsimp only at H
     have A26 := Aside0.mk A260
     clear A260
     replace H := Option.bind_eq_some_iff.mp H
     obtain ⟨t1205, A270, H⟩ := H
     try dsimp only at H
     have A27 := Aside0.mk A270
     clear A270
     by_cases c28 : t1205 = true
     ·subst c28
      have H1 : ((laws_toOpS.f k l1).bind fun t1206 => ((laws_eqOpS.f k t1188 t1206).bind fun t1209 => (if t1209 = true then ((laws_toCost.f k l2_0 l2_1 l2_2).bind fun bt1210 => ((laws_eqCost.f k t1191 t1194 t1197 bt1210.1 bt1210.2.1 bt1210.2.2).bind fun t1219 => (if t1219 = true then (some true) else (some false)))) else (some false)))) = some true := by rw [if_pos rfl] at H; exact H
      clear H
      have H := H1
      clear H1
      replace H := Option.bind_eq_some_iff.mp H
      obtain ⟨t1206, A290, H⟩ := H
      try dsimp only at H
      have A29 := Aside0.mk A290
      clear A290
      replace H := Option.bind_eq_some_iff.mp H
      obtain ⟨t1209, A300, H⟩ := H
      try dsimp only at H
      have A30 := Aside0.mk A300
      clear A300
      by_cases c31 : t1209 = true
      ·subst c31
       have H1 : ((laws_toCost.f k l2_0 l2_1 l2_2).bind fun bt1210 => ((laws_eqCost.f k t1191 t1194 t1197 bt1210.1 bt1210.2.1 bt1210.2.2).bind fun t1219 => (if t1219 = true then (some true) else (some false)))) = some true := by rw [if_pos rfl] at H; exact H
       clear H
       have H := H1
       clear H1
       replace H := Option.bind_eq_some_iff.mp H
       obtain ⟨⟨t1210, t1213, t1216⟩, A320, H⟩ := H
       try dsimp only at H
       have A32 := Aside0.mk A320
       clear A320
       replace H := Option.bind_eq_some_iff.mp H
       obtain ⟨t1219, A330, H⟩ := H
       replace H : (if t1219 = true then (some true) else (some false)) = some true := H
       have A33 := Aside0.mk A330
       clear A330
       by_cases c34 : t1219 = true
       ·subst c34
        have H1 : (some true) = some true := rfl
        clear H
        have H := H1
        clear H1
        clear H
        go_enter Try.func11, Try.ntmps11
        try go_wp2_with (first | ((with_reducible refine gate_dst (N := 5) rfl ?_); refine bx_ 5 #[.slice A2_0 l2_0.length c2_0, .slice A2_1 l2_1.length c2_1, .slice A2_2 l2_2.length c2_2] 46 ?_; intro gb1165 hg w35 hbox hb; have BK1165 := Aside0.mk (hbox); have GW1165 := Aside0.mk ((by rw [hg]; exact (bs_ HB) : w.heap.size ≤ gb1165)); have GE1165 := Aside0.mk ((by rw [hg]; exact (bs_ HB) : w.heap.size ≤ gb1165)); replace HB := tB_ HB hb; clear hb hbox hg) | ((with_reducible refine gate_callee (f := 31) rfl ?_); refine gL_ (some 15) Try.func31 #[.slice A0 l0.length c0, .int .i64 1048576] ?_; (with_reducible refine (laws_szNodeS.calls _ _ l0 1048576 t1166 _ (cx_ HR0 HB) HC0.out A4.out).mono ?_); rintro e w' ⟨rfl, ⟨nd, rfl⟩⟩; refine ⟨_, rfl, ?_⟩; (try (rw [drewN_self w35]; generalize hq_ : World.drewN w35 _ = w35; have n0_ : Aside0 (w35.heap[gb1165]? = some (.cells #[.slice A2_0 l2_0.length c2_0, .slice A2_1 l2_1.length c2_1, .slice A2_2 l2_2.length c2_2] 46 (0, 0))) := ⟨by rw [← hq_]; exact (kx_ BK1165.out)⟩; have n1_ : Aside0 (Below w.heap.size w w35) := ⟨by rw [← hq_]; exact ((bl_ HB).out)⟩; clear BK1165 HB hq_; have BK1165 := n0_; have HB := n1_; clear n0_ n1_))) | ((with_reducible refine gate_callee (f := 49) rfl ?_); refine gL_ (some 20) Try.func49 #[.slice A1 l1.length c1, .int .i64 t1166] ?_; (with_reducible refine (laws_szOpS.calls k _ _ l1 t1166 t1167 _ (cx_ HR1 HB) HC1.out A7.out).mono ?_); rintro e w36 ⟨rfl, hb⟩; refine ⟨_, rfl, ?_⟩; replace BK1165 := tK_ BK1165 hb; replace HB := tB_ HB hb; (try clear hb); obtain ⟨hcz37_0, hcz37_1, hcz37_2, hfz37_0, hfz37_1, hfz37_2⟩ := bk3_ BK1165) | ((with_reducible refine gate_callee (f := 32) rfl ?_); refine gL_ (some 25) Try.func32 #[.agg #[.slice A2_0 l2_0.length c2_0, .slice A2_1 l2_1.length c2_1, .slice A2_2 l2_2.length c2_2], .int .i64 t1167] ?_; (with_reducible refine (laws_szCost.calls _ _ l2_0 _ _ l2_1 _ _ l2_2 t1167 t1168 _ (cx_ HR2_0 HB) HC2_0.out (cx_ HR2_1 HB) HC2_1.out (cx_ HR2_2 HB) HC2_2.out A11.out).mono ?_); rintro e w38 ⟨rfl, hb⟩; refine ⟨_, rfl, ?_⟩; replace BK1165 := tK_ BK1165 hb; replace HB := tB_ HB hb; (try clear hb)))
        have n0_ := Aside0.mk (blk_drew BK1165.out)
        have n1_ := Aside0.mk (below_drew1 HB.out)
        clear BK1165
        clear HB
        have BK1165 := n0_
        have HB := n1_
        clear n0_ n1_
        refine start_ (n := 8) (S := fun w' => w'.cell? ⟨gb1165, 0, none⟩ = some (.slice A2_0 l2_0.length c2_0) ∧ w'.cell? ⟨gb1165, 1, none⟩ = some (.slice A2_1 l2_1.length c2_1) ∧ w'.cell? ⟨gb1165, 2, none⟩ = some (.slice A2_2 l2_2.length c2_2)) (ds := []) (ba_ 8 0) (by kernel_rfl) rfl rfl ⟨(blk_cell BK1165.out 0).trans rfl, (blk_cell BK1165.out 1).trans rfl, (blk_cell BK1165.out 2).trans rfl⟩ (fun hHeld => ?_); refine with_tabW laws_FnExactScriptCost.tab11 laws_FnExactScriptCost.bits11 (fun HT_ HW_ => ?_)
        generalize w38.drew = w39 at BK1165 HB hHeld ⊢
        refine pu_ 0 (some 28) (ba_ 8 1) rfl rfl (any_of HT_.out (by kernel_rfl)) ?_
        refine pu_ 2 (some 30) (ba_ 8 5) rfl rfl (any_of HT_.out (by kernel_rfl)) ?_
        refine ta_ 4 (some 32) (ba_ 8 21) rfl rfl (take_ofW HT_.out HW_.out (by kernel_rfl)) hHeld (by rintro w' ⟨s0, s1, s2⟩; go_simp; with_reducible rfl) ?_
        refine one_ (i := 1) (N := some 29) (ba_ 8 23) rfl rfl (one_of HT_.out (by kernel_rfl)) (by decide) (fun K hK => ?_)
        refine goes_ Try.func35 (by kernel_rfl) rfl #[.slice A0 l0.length c0] (by rfl) rfl rfl (by (try simp only [List.map_toArray, List.map_cons, List.map_nil]); first | done | rfl | (simp only [List.length_drop, List.length_take]; rfl)) ?_
        with_reducible refine (laws_toNodeS.calls k _ _ l0 t1169 _ ?side1 ?side2 A17.out).mono ?_
        (case side1 => exact cx_ HR0 HB)
        (case side2 => exact HC0.out)
        rintro e w40 ⟨v1170, rfl, ho0, hb⟩
        refine ⟨_, rfl, ?_⟩
        have n0_ := Aside0.mk (Kd.R_lower ho0 (bs_ HB))
        have n1_ := tK_ BK1165 hb
        have n2_ := tB_ HB hb
        clear BK1165
        clear HB
        have HO1171 := n0_
        have BK1165 := n1_
        have HB := n2_
        clear n0_ n1_ n2_
        (try clear hb)
        (try clear hb2)
        (try clear hk)
        (try clear hi)
        (try clear ho0)
        refine hK.out _ _ ⟨(blk_cell BK1165.out 0).trans rfl, (blk_cell BK1165.out 1).trans rfl, (blk_cell BK1165.out 2).trans rfl⟩ (fun hHeld => ?_)
        clear hK K
        refine norm_ (a' := ?_) ?_ ?_
        rotate_left
        ·show Act.put _ (some 29) _ = _
         simp only [Act.put, List.setIfInBounds_toArray, List.set_cons_zero, List.set_cons_succ, i64_w, i32_w]
         rfl
        refine one_ (i := 3) (N := some 31) (ba_ 8 31) rfl rfl (one_of HT_.out (by kernel_rfl)) (by decide) (fun K hK => ?_)
        refine goes_ Try.func51 (by kernel_rfl) rfl #[.slice A1 l1.length c1] (by rfl) rfl rfl (by (try simp only [List.map_toArray, List.map_cons, List.map_nil]); first | done | rfl | (simp only [List.length_drop, List.length_take]; rfl)) ?_
        with_reducible refine (laws_toOpS.calls k _ _ l1 t1172 _ ?side1 ?side2 A18.out).mono ?_
        (case side1 => exact cx_ HR1 HB)
        (case side2 => exact HC1.out)
        rintro e w41 ⟨v1173, rfl, ho0, hb⟩
        refine ⟨_, rfl, ?_⟩
        have n0_ := tR_ HO1171 hb
        have n1_ := Aside0.mk (Kd.S_lower ho0 (bs_ HB))
        have n2_ := tK_ BK1165 hb
        have n3_ := tB_ HB hb
        clear HO1171
        clear BK1165
        clear HB
        have HO1171 := n0_
        have HO1174 := n1_
        have BK1165 := n2_
        have HB := n3_
        clear n0_ n1_ n2_ n3_
        (try clear hb)
        (try clear hb2)
        (try clear hk)
        (try clear hi)
        (try clear ho0)
        refine hK.out _ _ ⟨(blk_cell BK1165.out 0).trans rfl, (blk_cell BK1165.out 1).trans rfl, (blk_cell BK1165.out 2).trans rfl⟩ (fun hHeld => ?_)
        clear hK K
        refine norm_ (a' := ?_) ?_ ?_
        rotate_left
        ·show Act.put _ (some 31) _ = _
         simp only [Act.put, List.setIfInBounds_toArray, List.set_cons_zero, List.set_cons_succ, i64_w, i32_w]
         rfl
        refine one_ (i := 5) (N := some 33) (ba_ 8 63) rfl rfl (one_of HT_.out (by kernel_rfl)) (by decide) (fun K hK => ?_)
        refine goes_ Try.func36 (by kernel_rfl) rfl #[.agg #[.slice A2_0 l2_0.length c2_0, .slice A2_1 l2_1.length c2_1, .slice A2_2 l2_2.length c2_2]] (by rfl) rfl rfl (by (try simp only [List.map_toArray, List.map_cons, List.map_nil]); first | done | rfl | (simp only [List.length_drop, List.length_take]; rfl)) ?_
        with_reducible refine (laws_toCost.calls k _ _ l2_0 _ _ l2_1 _ _ l2_2 t1175 t1178 t1181 _ ?side1 ?side2 ?side3 ?side4 ?side5 ?side6 A19.out).mono ?_
        (case side1 => exact cx_ HR2_0 HB)
        (case side2 => exact HC2_0.out)
        (case side3 => exact cx_ HR2_1 HB)
        (case side4 => exact HC2_1.out)
        (case side5 => exact cx_ HR2_2 HB)
        (case side6 => exact HC2_2.out)
        rintro e w42 ⟨v1176, v1179, v1182, rfl, ho0, ho1, ho2, hb⟩
        refine ⟨_, rfl, ?_⟩
        have n0_ := tR_ HO1171 hb
        have n1_ := Aside0.mk (Kd.S_mono (Kd.S_told (Kd.S_told (Kd.S_told (Kd.S_old (sx_ HO1174.out) hb) (Kd.R_base ho0)) (Kd.R_base ho1)) (Kd.R_base ho2)) (fun _ h_ => h_.1))
        have n2_ := Aside0.mk (Kd.R_lower ho0 (bs_ HB))
        have n3_ := Aside0.mk (Kd.R_lower ho1 (bs_ HB))
        have n4_ := Aside0.mk (Kd.R_lower ho2 (bs_ HB))
        have n5_ := Aside0.mk (blk_below (g := gb1165) (o := .cells #[.slice A2_0 l2_0.length c2_0, .slice A2_1 l2_1.length c2_1, .slice A2_2 l2_2.length c2_2] 46 (0, 0)) (by (with_reducible repeat (first | refine blk_drewN ?_ _ | refine blk_drew ?_ | refine blk_alloc ?_ _)); exact BK1165.out) hb)
        have n6_ := Aside0.mk (below_step (by repeat (first | (with_reducible first | exact HB.out | apply below_alloc | apply pw_below_drewN | apply below_drew1 | refine below_set ?_ GE1165.out) | exact HB.out)) hb)
        clear HO1171
        clear HO1174
        clear BK1165
        clear HB
        have HO1171 := n0_
        have HO1174 := n1_
        have HO1177 := n2_
        have HO1180 := n3_
        have HO1183 := n4_
        have BK1165 := n5_
        have HB := n6_
        clear n0_ n1_ n2_ n3_ n4_ n5_ n6_
        (try clear hb)
        (try clear hb2)
        (try clear hk)
        (try clear hi)
        (try clear ho0)
        (try clear ho1)
        (try clear ho2)
        obtain ⟨Ao43, co43, eo43⟩ := Kd.R_slice HO1171.out
        (first | subst eo43 | (injection eo43 with f1_ f2_ f3_; have f4_ := f1_.symm; have f5_ := f3_.symm; clear f1_ f2_ f3_; subst f4_; subst f5_))
        obtain ⟨Ao44, co44, eo44⟩ := Kd.S_slice HO1174.out
        (first | subst eo44 | (injection eo44 with f1_ f2_ f3_; have f4_ := f1_.symm; have f5_ := f3_.symm; clear f1_ f2_ f3_; subst f4_; subst f5_))
        obtain ⟨Ao45, co45, eo45⟩ := Kd.R_slice HO1177.out
        (first | subst eo45 | (injection eo45 with f1_ f2_ f3_; have f4_ := f1_.symm; have f5_ := f3_.symm; clear f1_ f2_ f3_; subst f4_; subst f5_))
        obtain ⟨Ao46, co46, eo46⟩ := Kd.R_slice HO1180.out
        (first | subst eo46 | (injection eo46 with f1_ f2_ f3_; have f4_ := f1_.symm; have f5_ := f3_.symm; clear f1_ f2_ f3_; subst f4_; subst f5_))
        obtain ⟨Ao47, co47, eo47⟩ := Kd.R_slice HO1183.out
        (first | subst eo47 | (injection eo47 with f1_ f2_ f3_; have f4_ := f1_.symm; have f5_ := f3_.symm; clear f1_ f2_ f3_; subst f4_; subst f5_))
        refine hK.out _ _ ⟨(blk_cell BK1165.out 0).trans rfl, (blk_cell BK1165.out 1).trans rfl, (blk_cell BK1165.out 2).trans rfl⟩ (fun hHeld => ?_)
        clear hK K
        refine norm_ (a' := ?_) ?_ ?_
        rotate_left
        ·show Act.put _ (some 33) _ = _
         simp only [Act.put, List.setIfInBounds_toArray, List.set_cons_zero, List.set_cons_succ, i64_w, i32_w]
         rfl
        refine one_ (i := 6) (N := some 34) (ba_ 8 127) rfl rfl (one_of HT_.out (by kernel_rfl)) (by decide) (fun K hK => ?_)
        refine goes_ Try.func55 (by kernel_rfl) rfl #[.slice Ao43 t1169.length co43, .slice Ao44 t1172.length co44, .agg #[.slice Ao45 t1175.length co45, .slice Ao46 t1178.length co46, .slice Ao47 t1181.length co47]] (by rfl) rfl rfl (by (try simp only [List.map_toArray, List.map_cons, List.map_nil]); first | done | rfl | (simp only [List.length_drop, List.length_take]; rfl)) ?_
        with_reducible refine (spec_ScriptCost.calls k _ _ t1169 _ _ t1172 _ _ t1175 _ _ t1178 _ _ t1181 t1184 _ ?side1 ?side2 ?side3 ?side4 ?side5 ?side6 ?side7 ?side8 ?side9 ?side10 A20.out).mono ?_
        (case side1 => exact cc_ (Kd.R_reads' HO1171.out).2.2)
        (case side2 => exact (Kd.R_reads' HO1171.out).2.1)
        (case side3 => exact cc_ (Kd.S_reads' HO1174.out).2.2)
        (case side4 => exact (Kd.S_reads' HO1174.out).2.1)
        (case side5 => exact cc_ (Kd.R_reads' HO1177.out).2.2)
        (case side6 => exact (Kd.R_reads' HO1177.out).2.1)
        (case side7 => exact cc_ (Kd.R_reads' HO1180.out).2.2)
        (case side8 => exact (Kd.R_reads' HO1180.out).2.1)
        (case side9 => exact cc_ (Kd.R_reads' HO1183.out).2.2)
        (case side10 => exact (Kd.R_reads' HO1183.out).2.1)
        rintro e w48 ⟨rfl, hb⟩
        refine ⟨_, rfl, ?_⟩
        have n0_ := tR_ HO1171 hb
        have n1_ := Aside0.mk (Kd.S_below (sx_ HO1174.out) hb)
        have n2_ := tR_ HO1177 hb
        have n3_ := tR_ HO1180 hb
        have n4_ := tR_ HO1183 hb
        have n5_ := Aside0.mk (blk_below (g := gb1165) (o := .cells #[.slice A2_0 l2_0.length c2_0, .slice A2_1 l2_1.length c2_1, .slice A2_2 l2_2.length c2_2] 46 (0, 0)) (by (with_reducible repeat (first | refine blk_drewN ?_ _ | refine blk_drew ?_ | refine blk_alloc ?_ _)); exact BK1165.out) hb)
        have n6_ := Aside0.mk (below_step (by repeat (first | (with_reducible first | exact HB.out | apply below_alloc | apply pw_below_drewN | apply below_drew1 | refine below_set ?_ GE1165.out) | exact HB.out)) hb)
        clear HO1171
        clear HO1174
        clear HO1177
        clear HO1180
        clear HO1183
        clear BK1165
        clear HB
        have HO1171 := n0_
        have HO1174 := n1_
        have HO1177 := n2_
        have HO1180 := n3_
        have HO1183 := n4_
        have BK1165 := n5_
        have HB := n6_
        clear n0_ n1_ n2_ n3_ n4_ n5_ n6_
        (try clear hb)
        (try clear hb2)
        (try clear hk)
        (try clear hi)
        refine hK.out _ _ ⟨(blk_cell BK1165.out 0).trans rfl, (blk_cell BK1165.out 1).trans rfl, (blk_cell BK1165.out 2).trans rfl⟩ (fun hHeld => ?_)
        clear hK K
        refine norm_ (a' := ?_) ?_ ?_
        rotate_left
        ·show Act.put _ (some 34) _ = _
         simp only [Act.put, List.setIfInBounds_toArray, List.set_cons_zero, List.set_cons_succ, i64_w, i32_w]
         rfl
        refine pu_ 7 (some 8) (ba_ 8 255) rfl rfl (any_of HT_.out (by kernel_rfl)) ?_
        refine done_ (done_of HT_.out (by kernel_rfl)) ?_
        try go_wp2_with (first | ((with_reducible refine gate_callee (f := 35) rfl ?_); refine goesL_ (some 36) rfl rfl Try.func35 (by kernel_rfl) rfl #[.slice A0 l0.length c0] rfl (by (try simp only [List.map_toArray, List.map_cons, List.map_nil]); first | done | rfl | (simp only [List.length_drop, List.length_take]; rfl)) ?_; (with_reducible refine (laws_toNodeS.calls k _ _ l0 t1185 _ ?side1 ?side2 A21.out).mono ?_); (case side1 => repeat (first | exact (Kd.C_below HR0.out HB.out) | (with_reducible refine Kd.C_alloc ?_ _) | (with_reducible refine Kd.C_drewN ?_ _) | (with_reducible refine Kd.C_drew ?_))); (case side2 => exact HC0.out); rintro e w49 ⟨v1186, rfl, ho0, hb⟩; refine ⟨_, rfl, ?_⟩; have n0_ := Aside0.mk (Kd.R_elder' (by (with_reducible repeat (first | apply Kd.R_alloc | apply Kd.R_drewN | apply Kd.R_drew)); exact HO1171.out) (Kd.R_base ho0) hb); have n1_ := Aside0.mk (Kd.S_below (by (with_reducible repeat (first | apply Kd.S_alloc | apply Kd.S_drewN | apply Kd.S_drew)); exact HO1174.out) hb); have n2_ := Aside0.mk (Kd.R_below (by (with_reducible repeat (first | apply Kd.R_alloc | apply Kd.R_drewN | apply Kd.R_drew)); exact HO1177.out) hb); have n3_ := Aside0.mk (Kd.R_below (by (with_reducible repeat (first | apply Kd.R_alloc | apply Kd.R_drewN | apply Kd.R_drew)); exact HO1180.out) hb); have n4_ := Aside0.mk (Kd.R_below (by (with_reducible repeat (first | apply Kd.R_alloc | apply Kd.R_drewN | apply Kd.R_drew)); exact HO1183.out) hb); have n5_ := Aside0.mk (Kd.R_lower (Kd.R_new' ho0 (Kd.R_lt (by (with_reducible repeat (first | apply Kd.R_alloc | apply Kd.R_drewN | apply Kd.R_drew)); exact HO1171.out))) (below_size (by repeat (first | (with_reducible first | exact HB.out | apply below_alloc | apply pw_below_drewN | apply below_drew1 | refine below_set ?_ GE1165.out) | exact HB.out)))); have n6_ := Aside0.mk (blk_below (g := gb1165) (o := .cells #[.slice A2_0 l2_0.length c2_0, .slice A2_1 l2_1.length c2_1, .slice A2_2 l2_2.length c2_2] 46 (0, 0)) (by (with_reducible repeat (first | refine blk_drewN ?_ _ | refine blk_drew ?_ | refine blk_alloc ?_ _)); exact BK1165.out) hb); have n7_ := Aside0.mk (below_step (by repeat (first | (with_reducible first | exact HB.out | apply below_alloc | apply pw_below_drewN | apply below_drew1 | refine below_set ?_ GE1165.out) | exact HB.out)) hb); clear HO1171; clear HO1174; clear HO1177; clear HO1180; clear HO1183; clear BK1165; clear HB; have HO1171 := n0_; have HO1174 := n1_; have HO1177 := n2_; have HO1180 := n3_; have HO1183 := n4_; have HO1187 := n5_; have BK1165 := n6_; have HB := n7_; clear n0_ n1_ n2_ n3_ n4_ n5_ n6_ n7_; (try clear hb); (try clear hb2); (try clear hk); (try clear hi); (try clear ho0)) | ((with_reducible refine gate_callee (f := 51) rfl ?_); refine goesL_ (some 38) rfl rfl Try.func51 (by kernel_rfl) rfl #[.slice A1 l1.length c1] rfl (by (try simp only [List.map_toArray, List.map_cons, List.map_nil]); first | done | rfl | (simp only [List.length_drop, List.length_take]; rfl)) ?_; (with_reducible refine (laws_toOpS.calls k _ _ l1 t1188 _ ?side1 ?side2 A22.out).mono ?_); (case side1 => repeat (first | exact (Kd.C_below HR1.out HB.out) | (with_reducible refine Kd.C_alloc ?_ _) | (with_reducible refine Kd.C_drewN ?_ _) | (with_reducible refine Kd.C_drew ?_))); (case side2 => exact HC1.out); rintro e w50 ⟨v1189, rfl, ho0, hb⟩; refine ⟨_, rfl, ?_⟩; have n0_ := Aside0.mk (Kd.R_below (by (with_reducible repeat (first | apply Kd.R_alloc | apply Kd.R_drewN | apply Kd.R_drew)); exact HO1171.out) hb); have n1_ := Aside0.mk (Kd.S_elder' (by (with_reducible repeat (first | apply Kd.S_alloc | apply Kd.S_drewN | apply Kd.S_drew)); exact HO1174.out) (Kd.S_base ho0) hb); have n2_ := Aside0.mk (Kd.R_below (by (with_reducible repeat (first | apply Kd.R_alloc | apply Kd.R_drewN | apply Kd.R_drew)); exact HO1177.out) hb); have n3_ := Aside0.mk (Kd.R_below (by (with_reducible repeat (first | apply Kd.R_alloc | apply Kd.R_drewN | apply Kd.R_drew)); exact HO1180.out) hb); have n4_ := Aside0.mk (Kd.R_below (by (with_reducible repeat (first | apply Kd.R_alloc | apply Kd.R_drewN | apply Kd.R_drew)); exact HO1183.out) hb); have n5_ := Aside0.mk (Kd.R_below (by (with_reducible repeat (first | apply Kd.R_alloc | apply Kd.R_drewN | apply Kd.R_drew)); exact HO1187.out) hb); have n6_ := Aside0.mk (Kd.S_lower (Kd.S_new' (Kd.S_new' (Kd.S_new' (Kd.S_new' ho0 (Kd.S_lt (by (with_reducible repeat (first | apply Kd.S_alloc | apply Kd.S_drewN | apply Kd.S_drew)); exact HO1174.out))) (Kd.R_lt (by (with_reducible repeat (first | apply Kd.R_alloc | apply Kd.R_drewN | apply Kd.R_drew)); exact HO1177.out))) (Kd.R_lt (by (with_reducible repeat (first | apply Kd.R_alloc | apply Kd.R_drewN | apply Kd.R_drew)); exact HO1180.out))) (Kd.R_lt (by (with_reducible repeat (first | apply Kd.R_alloc | apply Kd.R_drewN | apply Kd.R_drew)); exact HO1183.out))) (below_size (by repeat (first | (with_reducible first | exact HB.out | apply below_alloc | apply pw_below_drewN | apply below_drew1 | refine below_set ?_ GE1165.out) | exact HB.out)))); have n7_ := Aside0.mk (blk_below (g := gb1165) (o := .cells #[.slice A2_0 l2_0.length c2_0, .slice A2_1 l2_1.length c2_1, .slice A2_2 l2_2.length c2_2] 46 (0, 0)) (by (with_reducible repeat (first | refine blk_drewN ?_ _ | refine blk_drew ?_ | refine blk_alloc ?_ _)); exact BK1165.out) hb); have n8_ := Aside0.mk (below_step (by repeat (first | (with_reducible first | exact HB.out | apply below_alloc | apply pw_below_drewN | apply below_drew1 | refine below_set ?_ GE1165.out) | exact HB.out)) hb); clear HO1171; clear HO1174; clear HO1177; clear HO1180; clear HO1183; clear HO1187; clear BK1165; clear HB; have HO1171 := n0_; have HO1174 := n1_; have HO1177 := n2_; have HO1180 := n3_; have HO1183 := n4_; have HO1187 := n5_; have HO1190 := n6_; have BK1165 := n7_; have HB := n8_; clear n0_ n1_ n2_ n3_ n4_ n5_ n6_ n7_ n8_; (try clear hb); (try clear hb2); (try clear hk); (try clear hi); (try clear ho0); have hcz51_0 : w50.cell? ⟨gb1165, 0, none⟩ = some (.slice A2_0 l2_0.length c2_0) := (blk_cell BK1165.out 0).trans rfl; have hcz51_1 : w50.cell? ⟨gb1165, 1, none⟩ = some (.slice A2_1 l2_1.length c2_1) := (blk_cell BK1165.out 1).trans rfl; have hcz51_2 : w50.cell? ⟨gb1165, 2, none⟩ = some (.slice A2_2 l2_2.length c2_2) := (blk_cell BK1165.out 2).trans rfl; have hfz51_0 := blk_frozen BK1165.out 0; have hfz51_1 := blk_frozen BK1165.out 1; have hfz51_2 := blk_frozen BK1165.out 2) | ((with_reducible refine gate_callee (f := 36) rfl ?_); refine goesL_ (some 40) rfl rfl Try.func36 (by kernel_rfl) rfl #[.agg #[.slice A2_0 l2_0.length c2_0, .slice A2_1 l2_1.length c2_1, .slice A2_2 l2_2.length c2_2]] rfl (by (try simp only [List.map_toArray, List.map_cons, List.map_nil]); first | done | rfl | (simp only [List.length_drop, List.length_take]; rfl)) ?_; (with_reducible refine (laws_toCost.calls k _ _ l2_0 _ _ l2_1 _ _ l2_2 t1191 t1194 t1197 _ ?side1 ?side2 ?side3 ?side4 ?side5 ?side6 A23.out).mono ?_); (case side1 => repeat (first | exact (Kd.C_below HR2_0.out HB.out) | (with_reducible refine Kd.C_alloc ?_ _) | (with_reducible refine Kd.C_drewN ?_ _) | (with_reducible refine Kd.C_drew ?_))); (case side2 => exact HC2_0.out); (case side3 => repeat (first | exact (Kd.C_below HR2_1.out HB.out) | (with_reducible refine Kd.C_alloc ?_ _) | (with_reducible refine Kd.C_drewN ?_ _) | (with_reducible refine Kd.C_drew ?_))); (case side4 => exact HC2_1.out); (case side5 => repeat (first | exact (Kd.C_below HR2_2.out HB.out) | (with_reducible refine Kd.C_alloc ?_ _) | (with_reducible refine Kd.C_drewN ?_ _) | (with_reducible refine Kd.C_drew ?_))); (case side6 => exact HC2_2.out); rintro e w52 ⟨v1192, v1195, v1198, rfl, ho0, ho1, ho2, hb⟩; refine ⟨_, rfl, ?_⟩; have n0_ := Aside0.mk (Kd.R_below (by (with_reducible repeat (first | apply Kd.R_alloc | apply Kd.R_drewN | apply Kd.R_drew)); exact HO1171.out) hb); have n1_ := Aside0.mk (Kd.S_mono (Kd.S_told (Kd.S_told (Kd.S_told (Kd.S_old (by (with_reducible repeat (first | apply Kd.S_alloc | apply Kd.S_drewN | apply Kd.S_drew)); exact HO1174.out) hb) (Kd.R_base ho0)) (Kd.R_base ho1)) (Kd.R_base ho2)) (fun _ h_ => h_.1)); have n2_ := Aside0.mk (Kd.R_mono (Kd.R_told (Kd.R_told (Kd.R_told (Kd.R_old (by (with_reducible repeat (first | apply Kd.R_alloc | apply Kd.R_drewN | apply Kd.R_drew)); exact HO1177.out) hb) (Kd.R_base ho0)) (Kd.R_base ho1)) (Kd.R_base ho2)) (fun _ h_ => h_.1)); have n3_ := Aside0.mk (Kd.R_mono (Kd.R_told (Kd.R_told (Kd.R_told (Kd.R_old (by (with_reducible repeat (first | apply Kd.R_alloc | apply Kd.R_drewN | apply Kd.R_drew)); exact HO1180.out) hb) (Kd.R_base ho0)) (Kd.R_base ho1)) (Kd.R_base ho2)) (fun _ h_ => h_.1)); have n4_ := Aside0.mk (Kd.R_mono (Kd.R_told (Kd.R_told (Kd.R_told (Kd.R_old (by (with_reducible repeat (first | apply Kd.R_alloc | apply Kd.R_drewN | apply Kd.R_drew)); exact HO1183.out) hb) (Kd.R_base ho0)) (Kd.R_base ho1)) (Kd.R_base ho2)) (fun _ h_ => h_.1)); have n5_ := Aside0.mk (Kd.R_below (by (with_reducible repeat (first | apply Kd.R_alloc | apply Kd.R_drewN | apply Kd.R_drew)); exact HO1187.out) hb); have n6_ := Aside0.mk (Kd.S_mono (Kd.S_told (Kd.S_told (Kd.S_told (Kd.S_old (by (with_reducible repeat (first | apply Kd.S_alloc | apply Kd.S_drewN | apply Kd.S_drew)); exact HO1190.out) hb) (Kd.R_base ho0)) (Kd.R_base ho1)) (Kd.R_base ho2)) (fun _ h_ => h_.1)); have n7_ := Aside0.mk (Kd.R_lower (Kd.R_new' (Kd.R_new' (Kd.R_new' ho0 (Kd.R_lt (by (with_reducible repeat (first | apply Kd.R_alloc | apply Kd.R_drewN | apply Kd.R_drew)); exact HO1177.out))) (Kd.R_lt (by (with_reducible repeat (first | apply Kd.R_alloc | apply Kd.R_drewN | apply Kd.R_drew)); exact HO1180.out))) (Kd.R_lt (by (with_reducible repeat (first | apply Kd.R_alloc | apply Kd.R_drewN | apply Kd.R_drew)); exact HO1183.out))) (below_size (by repeat (first | (with_reducible first | exact HB.out | apply below_alloc | apply pw_below_drewN | apply below_drew1 | refine below_set ?_ GE1165.out) | exact HB.out)))); have n8_ := Aside0.mk (Kd.R_lower (Kd.R_new' (Kd.R_new' (Kd.R_new' ho1 (Kd.R_lt (by (with_reducible repeat (first | apply Kd.R_alloc | apply Kd.R_drewN | apply Kd.R_drew)); exact HO1177.out))) (Kd.R_lt (by (with_reducible repeat (first | apply Kd.R_alloc | apply Kd.R_drewN | apply Kd.R_drew)); exact HO1180.out))) (Kd.R_lt (by (with_reducible repeat (first | apply Kd.R_alloc | apply Kd.R_drewN | apply Kd.R_drew)); exact HO1183.out))) (below_size (by repeat (first | (with_reducible first | exact HB.out | apply below_alloc | apply pw_below_drewN | apply below_drew1 | refine below_set ?_ GE1165.out) | exact HB.out)))); have n9_ := Aside0.mk (Kd.R_lower (Kd.R_new' (Kd.R_new' (Kd.R_new' ho2 (Kd.R_lt (by (with_reducible repeat (first | apply Kd.R_alloc | apply Kd.R_drewN | apply Kd.R_drew)); exact HO1177.out))) (Kd.R_lt (by (with_reducible repeat (first | apply Kd.R_alloc | apply Kd.R_drewN | apply Kd.R_drew)); exact HO1180.out))) (Kd.R_lt (by (with_reducible repeat (first | apply Kd.R_alloc | apply Kd.R_drewN | apply Kd.R_drew)); exact HO1183.out))) (below_size (by repeat (first | (with_reducible first | exact HB.out | apply below_alloc | apply pw_below_drewN | apply below_drew1 | refine below_set ?_ GE1165.out) | exact HB.out)))); have n10_ := Aside0.mk (blk_below (g := gb1165) (o := .cells #[.slice A2_0 l2_0.length c2_0, .slice A2_1 l2_1.length c2_1, .slice A2_2 l2_2.length c2_2] 46 (0, 0)) (by (with_reducible repeat (first | refine blk_drewN ?_ _ | refine blk_drew ?_ | refine blk_alloc ?_ _)); exact BK1165.out) hb); have n11_ := Aside0.mk (below_step (by repeat (first | (with_reducible first | exact HB.out | apply below_alloc | apply pw_below_drewN | apply below_drew1 | refine below_set ?_ GE1165.out) | exact HB.out)) hb); clear HO1171; clear HO1174; clear HO1177; clear HO1180; clear HO1183; clear HO1187; clear HO1190; clear BK1165; clear HB; have HO1171 := n0_; have HO1174 := n1_; have HO1177 := n2_; have HO1180 := n3_; have HO1183 := n4_; have HO1187 := n5_; have HO1190 := n6_; have HO1193 := n7_; have HO1196 := n8_; have HO1199 := n9_; have BK1165 := n10_; have HB := n11_; clear n0_ n1_ n2_ n3_ n4_ n5_ n6_ n7_ n8_ n9_ n10_ n11_; (try clear hb); (try clear hb2); (try clear hk); (try clear hi); (try clear ho0); (try clear ho1); (try clear ho2)) | ((with_reducible refine gate_dst (N := 11) rfl ?_); refine box_event ?hg (N := 11) ?hd (cs := #[.slice none 0 0, .slice none 0 0, .slice none 0 0]) (t := 53) ?hr ?_; (case hd => rfl); (case hg => rfl); (case hr => first | (go_simp; done) | (go_simp; rfl)); intro gb1200 hg w53 hbox hb; have n0_ := Aside0.mk (Kd.R_below (by (with_reducible repeat (first | apply Kd.R_alloc | apply Kd.R_drewN | apply Kd.R_drew)); exact HO1171.out) hb); have n1_ := Aside0.mk (Kd.S_below (by (with_reducible repeat (first | apply Kd.S_alloc | apply Kd.S_drewN | apply Kd.S_drew)); exact HO1174.out) hb); have n2_ := Aside0.mk (Kd.R_below (by (with_reducible repeat (first | apply Kd.R_alloc | apply Kd.R_drewN | apply Kd.R_drew)); exact HO1177.out) hb); have n3_ := Aside0.mk (Kd.R_below (by (with_reducible repeat (first | apply Kd.R_alloc | apply Kd.R_drewN | apply Kd.R_drew)); exact HO1180.out) hb); have n4_ := Aside0.mk (Kd.R_below (by (with_reducible repeat (first | apply Kd.R_alloc | apply Kd.R_drewN | apply Kd.R_drew)); exact HO1183.out) hb); have n5_ := Aside0.mk (Kd.R_below (by (with_reducible repeat (first | apply Kd.R_alloc | apply Kd.R_drewN | apply Kd.R_drew)); exact HO1187.out) hb); have n6_ := Aside0.mk (Kd.S_below (by (with_reducible repeat (first | apply Kd.S_alloc | apply Kd.S_drewN | apply Kd.S_drew)); exact HO1190.out) hb); have n7_ := Aside0.mk (Kd.R_below (by (with_reducible repeat (first | apply Kd.R_alloc | apply Kd.R_drewN | apply Kd.R_drew)); exact HO1193.out) hb); have n8_ := Aside0.mk (Kd.R_below (by (with_reducible repeat (first | apply Kd.R_alloc | apply Kd.R_drewN | apply Kd.R_drew)); exact HO1196.out) hb); have n9_ := Aside0.mk (Kd.R_below (by (with_reducible repeat (first | apply Kd.R_alloc | apply Kd.R_drewN | apply Kd.R_drew)); exact HO1199.out) hb); have n10_ := Aside0.mk (blk_below (g := gb1165) (o := .cells #[.slice A2_0 l2_0.length c2_0, .slice A2_1 l2_1.length c2_1, .slice A2_2 l2_2.length c2_2] 46 (0, 0)) (by (with_reducible repeat (first | refine blk_drewN ?_ _ | refine blk_drew ?_ | refine blk_alloc ?_ _)); exact BK1165.out) hb); have n11_ := Aside0.mk (below_step (by repeat (first | (with_reducible first | exact HB.out | apply below_alloc | apply pw_below_drewN | apply below_drew1 | refine below_set ?_ GE1165.out) | exact HB.out)) hb); have n12_ := Aside0.mk (hbox); have n13_ := Aside0.mk ((by rw [hg]; exact (below_size (by repeat (first | (with_reducible first | exact HB.out | apply below_alloc | apply pw_below_drewN | apply below_drew1 | refine below_set ?_ GE1165.out) | exact HB.out))) : w.heap.size ≤ gb1200)); have n14_ := Aside0.mk ((by rw [hg]; exact (below_size (by repeat (first | (with_reducible first | exact HB.out | apply below_alloc | apply pw_below_drewN | apply below_drew1 | refine below_set ?_ GE1165.out) | exact HB.out))) : w.heap.size ≤ gb1200)); have n15_ := Aside0.mk ((by rw [hg]; exact Nat.ne_of_lt (blk_lt (g := gb1165) (o := .cells #[.slice A2_0 l2_0.length c2_0, .slice A2_1 l2_1.length c2_1, .slice A2_2 l2_2.length c2_2] 46 (0, 0)) (by (with_reducible repeat (first | refine blk_drewN ?_ _ | refine blk_drew ?_ | refine blk_alloc ?_ _)); exact BK1165.out)) : gb1165 ≠ gb1200)); have n16_ := Aside0.mk ((by rw [hg]; exact Nat.ne_of_gt (blk_lt (g := gb1165) (o := .cells #[.slice A2_0 l2_0.length c2_0, .slice A2_1 l2_1.length c2_1, .slice A2_2 l2_2.length c2_2] 46 (0, 0)) (by (with_reducible repeat (first | refine blk_drewN ?_ _ | refine blk_drew ?_ | refine blk_alloc ?_ _)); exact BK1165.out)) : gb1200 ≠ gb1165)); clear HO1171; clear HO1174; clear HO1177; clear HO1180; clear HO1183; clear HO1187; clear HO1190; clear HO1193; clear HO1196; clear HO1199; clear BK1165; clear HB; have HO1171 := n0_; have HO1174 := n1_; have HO1177 := n2_; have HO1180 := n3_; have HO1183 := n4_; have HO1187 := n5_; have HO1190 := n6_; have HO1193 := n7_; have HO1196 := n8_; have HO1199 := n9_; have BK1165 := n10_; have HB := n11_; have BK1200 := n12_; have GW1200 := n13_; have GE1200 := n14_; have NB1165_1200 := n15_; have NB1200_1165 := n16_; clear n0_ n1_ n2_ n3_ n4_ n5_ n6_ n7_ n8_ n9_ n10_ n11_ n12_ n13_ n14_ n15_ n16_; clear hb hbox hg; obtain ⟨Ao54, co54, eo54⟩ := Kd.R_slice HO1193.out; subst eo54; have hnb55 := NB1200_1165.out; have hnc55 := NB1165_1200.out; have hcz56_0 : w53.cell? ⟨gb1200, 0, none⟩ = some (.slice none 0 0) := (blk_cell BK1200.out 0).trans rfl; have hcz56_1 : w53.cell? ⟨gb1200, 1, none⟩ = some (.slice none 0 0) := (blk_cell BK1200.out 1).trans rfl; have hcz56_2 : w53.cell? ⟨gb1200, 2, none⟩ = some (.slice none 0 0) := (blk_cell BK1200.out 2).trans rfl; have hfz56_0 := blk_frozen BK1200.out 0; have hfz56_1 := blk_frozen BK1200.out 1; have hfz56_2 := blk_frozen BK1200.out 2; obtain ⟨Ao57, co57, eo57⟩ := Kd.R_slice HO1196.out; subst eo57; obtain ⟨Ao58, co58, eo58⟩ := Kd.R_slice HO1199.out; subst eo58; obtain ⟨Ao59, co59, eo59⟩ := Kd.R_slice HO1187.out; subst eo59; obtain ⟨Ao60, co60, eo60⟩ := Kd.S_slice HO1190.out; subst eo60) | ((with_reducible refine gate_callee (f := 56) rfl ?_); refine goesL_ (some 44) rfl rfl Try.func56 (by kernel_rfl) rfl #[.slice Ao59 t1185.length co59, .slice Ao60 t1188.length co60, .agg #[.slice Ao54 t1191.length co54, .slice Ao57 t1194.length co57, .slice Ao58 t1197.length co58]] rfl (by (try simp only [List.map_toArray, List.map_cons, List.map_nil]); first | done | rfl | (simp only [List.length_drop, List.length_take]; rfl)) ?_; (with_reducible refine (impl_ScriptCost.calls k _ _ t1185 _ _ t1188 _ _ t1191 _ _ t1194 _ _ t1197 t1201 _ ?side1 ?side2 ?side3 ?side4 ?side5 ?side6 ?side7 ?side8 ?side9 ?side10 A24.out).mono ?_); (case side1 => refine (Kd.R_reads' (e := 90) (base := w.heap.size) (ok := fun k_ => (True ∧ some k_ ≠ (.slice Ao43 t1169.length co43 : Value).ownBlock)) (n := t1185.length) (c := co59) ?_).2.2; exact (by (with_reducible repeat (first | apply Kd.R_alloc | apply Kd.R_drewN | apply Kd.R_drew)); exact (Kd.R_mono (Kd.R_far (p := ⟨gb1200, 2, none⟩) (Kd.R_far (p := ⟨gb1200, 1, none⟩) (Kd.R_far (p := ⟨gb1200, 0, none⟩) (Kd.R_types HO1187.out BK1200.out (by decide)) (fun _ hk => hk.2) (.slice Ao54 t1191.length co54)) (fun _ hk => hk.2) (.slice Ao57 t1194.length co57)) (fun _ hk => hk.2) (.slice Ao58 t1197.length co58)) (fun _ h_ => h_.1)))); (case side2 => exact (Kd.R_reads' HO1187.out).2.1); (case side3 => refine (Kd.S_reads' (e := 67) (base := w.heap.size) (ok := fun k_ => (((((((True ∧ some k_ ≠ (.slice Ao44 t1172.length co44 : Value).ownBlock) ∧ some k_ ≠ (.slice Ao45 t1175.length co45 : Value).ownBlock) ∧ some k_ ≠ (.slice Ao46 t1178.length co46 : Value).ownBlock) ∧ some k_ ≠ (.slice Ao47 t1181.length co47 : Value).ownBlock) ∧ some k_ ≠ (.slice Ao54 t1191.length co54 : Value).ownBlock) ∧ some k_ ≠ (.slice Ao57 t1194.length co57 : Value).ownBlock) ∧ some k_ ≠ (.slice Ao58 t1197.length co58 : Value).ownBlock)) (n := t1188.length) (c := co60) ?_).2.2; exact (by (with_reducible repeat (first | apply Kd.S_alloc | apply Kd.S_drewN | apply Kd.S_drew)); exact (Kd.S_mono (Kd.S_far (p := ⟨gb1200, 2, none⟩) (Kd.S_far (p := ⟨gb1200, 1, none⟩) (Kd.S_far (p := ⟨gb1200, 0, none⟩) (Kd.S_types HO1190.out BK1200.out (by decide)) (fun _ hk => hk.2) (.slice Ao54 t1191.length co54)) (fun _ hk => hk.2) (.slice Ao57 t1194.length co57)) (fun _ hk => hk.2) (.slice Ao58 t1197.length co58)) (fun _ h_ => h_.1)))); (case side4 => exact (Kd.S_reads' HO1190.out).2.1); (case side5 => refine (Kd.R_reads' (e := 3) (base := w.heap.size) (ok := fun k_ => ((((some k_ ≠ (.slice Ao57 t1194.length co57 : Value).ownBlock ∧ some k_ ≠ (.slice Ao58 t1197.length co58 : Value).ownBlock) ∧ some k_ ≠ (.slice Ao45 t1175.length co45 : Value).ownBlock) ∧ some k_ ≠ (.slice Ao46 t1178.length co46 : Value).ownBlock) ∧ some k_ ≠ (.slice Ao47 t1181.length co47 : Value).ownBlock)) (n := t1191.length) (c := co54) ?_).2.2; exact (by (with_reducible repeat (first | apply Kd.R_alloc | apply Kd.R_drewN | apply Kd.R_drew)); exact (Kd.R_mono (Kd.R_far (p := ⟨gb1200, 2, none⟩) (Kd.R_far (p := ⟨gb1200, 1, none⟩) (Kd.R_far (p := ⟨gb1200, 0, none⟩) (Kd.R_types HO1193.out BK1200.out (by decide)) (fun _ hk => hk.2) (.slice Ao54 t1191.length co54)) (fun _ hk => hk.2) (.slice Ao57 t1194.length co57)) (fun _ hk => hk.2) (.slice Ao58 t1197.length co58)) (fun _ h_ => h_.1)))); (case side6 => exact (Kd.R_reads' HO1193.out).2.1); (case side7 => refine (Kd.R_reads' (e := 3) (base := w.heap.size) (ok := fun k_ => ((((some k_ ≠ (.slice Ao54 t1191.length co54 : Value).ownBlock ∧ some k_ ≠ (.slice Ao58 t1197.length co58 : Value).ownBlock) ∧ some k_ ≠ (.slice Ao45 t1175.length co45 : Value).ownBlock) ∧ some k_ ≠ (.slice Ao46 t1178.length co46 : Value).ownBlock) ∧ some k_ ≠ (.slice Ao47 t1181.length co47 : Value).ownBlock)) (n := t1194.length) (c := co57) ?_).2.2; exact (by (with_reducible repeat (first | apply Kd.R_alloc | apply Kd.R_drewN | apply Kd.R_drew)); exact (Kd.R_mono (Kd.R_far (p := ⟨gb1200, 2, none⟩) (Kd.R_far (p := ⟨gb1200, 1, none⟩) (Kd.R_far (p := ⟨gb1200, 0, none⟩) (Kd.R_types HO1196.out BK1200.out (by decide)) (fun _ hk => hk.2) (.slice Ao54 t1191.length co54)) (fun _ hk => hk.2) (.slice Ao57 t1194.length co57)) (fun _ hk => hk.2) (.slice Ao58 t1197.length co58)) (fun _ h_ => h_.1)))); (case side8 => exact (Kd.R_reads' HO1196.out).2.1); (case side9 => refine (Kd.R_reads' (e := 3) (base := w.heap.size) (ok := fun k_ => ((((some k_ ≠ (.slice Ao54 t1191.length co54 : Value).ownBlock ∧ some k_ ≠ (.slice Ao57 t1194.length co57 : Value).ownBlock) ∧ some k_ ≠ (.slice Ao45 t1175.length co45 : Value).ownBlock) ∧ some k_ ≠ (.slice Ao46 t1178.length co46 : Value).ownBlock) ∧ some k_ ≠ (.slice Ao47 t1181.length co47 : Value).ownBlock)) (n := t1197.length) (c := co58) ?_).2.2; exact (by (with_reducible repeat (first | apply Kd.R_alloc | apply Kd.R_drewN | apply Kd.R_drew)); exact (Kd.R_mono (Kd.R_far (p := ⟨gb1200, 2, none⟩) (Kd.R_far (p := ⟨gb1200, 1, none⟩) (Kd.R_far (p := ⟨gb1200, 0, none⟩) (Kd.R_types HO1199.out BK1200.out (by decide)) (fun _ hk => hk.2) (.slice Ao54 t1191.length co54)) (fun _ hk => hk.2) (.slice Ao57 t1194.length co57)) (fun _ hk => hk.2) (.slice Ao58 t1197.length co58)) (fun _ h_ => h_.1)))); (case side10 => exact (Kd.R_reads' HO1199.out).2.1); rintro e w61 ⟨rfl, hb⟩; refine ⟨_, rfl, ?_⟩; have n0_ := Aside0.mk (Kd.R_below (by (with_reducible repeat (first | apply Kd.R_alloc | apply Kd.R_drewN | apply Kd.R_drew)); exact (Kd.R_mono (Kd.R_far (p := ⟨gb1200, 2, none⟩) (Kd.R_far (p := ⟨gb1200, 1, none⟩) (Kd.R_far (p := ⟨gb1200, 0, none⟩) (Kd.R_types HO1171.out BK1200.out (by decide)) (fun _ hk => hk.2) (.slice Ao54 t1191.length co54)) (fun _ hk => hk.2) (.slice Ao57 t1194.length co57)) (fun _ hk => hk.2) (.slice Ao58 t1197.length co58)) (fun _ h_ => h_.1))) hb); have n1_ := Aside0.mk (Kd.S_below (by (with_reducible repeat (first | apply Kd.S_alloc | apply Kd.S_drewN | apply Kd.S_drew)); exact (Kd.S_mono (Kd.S_far (p := ⟨gb1200, 2, none⟩) (Kd.S_far (p := ⟨gb1200, 1, none⟩) (Kd.S_far (p := ⟨gb1200, 0, none⟩) (Kd.S_types HO1174.out BK1200.out (by decide)) (fun _ hk => hk.2) (.slice Ao54 t1191.length co54)) (fun _ hk => hk.2) (.slice Ao57 t1194.length co57)) (fun _ hk => hk.2) (.slice Ao58 t1197.length co58)) (fun _ h_ => h_.1))) hb); have n2_ := Aside0.mk (Kd.R_below (by (with_reducible repeat (first | apply Kd.R_alloc | apply Kd.R_drewN | apply Kd.R_drew)); exact (Kd.R_mono (Kd.R_far (p := ⟨gb1200, 2, none⟩) (Kd.R_far (p := ⟨gb1200, 1, none⟩) (Kd.R_far (p := ⟨gb1200, 0, none⟩) (Kd.R_types HO1177.out BK1200.out (by decide)) (fun _ hk => hk.2) (.slice Ao54 t1191.length co54)) (fun _ hk => hk.2) (.slice Ao57 t1194.length co57)) (fun _ hk => hk.2) (.slice Ao58 t1197.length co58)) (fun _ h_ => h_.1))) hb); have n3_ := Aside0.mk (Kd.R_below (by (with_reducible repeat (first | apply Kd.R_alloc | apply Kd.R_drewN | apply Kd.R_drew)); exact (Kd.R_mono (Kd.R_far (p := ⟨gb1200, 2, none⟩) (Kd.R_far (p := ⟨gb1200, 1, none⟩) (Kd.R_far (p := ⟨gb1200, 0, none⟩) (Kd.R_types HO1180.out BK1200.out (by decide)) (fun _ hk => hk.2) (.slice Ao54 t1191.length co54)) (fun _ hk => hk.2) (.slice Ao57 t1194.length co57)) (fun _ hk => hk.2) (.slice Ao58 t1197.length co58)) (fun _ h_ => h_.1))) hb); have n4_ := Aside0.mk (Kd.R_below (by (with_reducible repeat (first | apply Kd.R_alloc | apply Kd.R_drewN | apply Kd.R_drew)); exact (Kd.R_mono (Kd.R_far (p := ⟨gb1200, 2, none⟩) (Kd.R_far (p := ⟨gb1200, 1, none⟩) (Kd.R_far (p := ⟨gb1200, 0, none⟩) (Kd.R_types HO1183.out BK1200.out (by decide)) (fun _ hk => hk.2) (.slice Ao54 t1191.length co54)) (fun _ hk => hk.2) (.slice Ao57 t1194.length co57)) (fun _ hk => hk.2) (.slice Ao58 t1197.length co58)) (fun _ h_ => h_.1))) hb); have n5_ := Aside0.mk (Kd.R_below (by (with_reducible repeat (first | apply Kd.R_alloc | apply Kd.R_drewN | apply Kd.R_drew)); exact (Kd.R_mono (Kd.R_far (p := ⟨gb1200, 2, none⟩) (Kd.R_far (p := ⟨gb1200, 1, none⟩) (Kd.R_far (p := ⟨gb1200, 0, none⟩) (Kd.R_types HO1187.out BK1200.out (by decide)) (fun _ hk => hk.2) (.slice Ao54 t1191.length co54)) (fun _ hk => hk.2) (.slice Ao57 t1194.length co57)) (fun _ hk => hk.2) (.slice Ao58 t1197.length co58)) (fun _ h_ => h_.1))) hb); have n6_ := Aside0.mk (Kd.S_below (by (with_reducible repeat (first | apply Kd.S_alloc | apply Kd.S_drewN | apply Kd.S_drew)); exact (Kd.S_mono (Kd.S_far (p := ⟨gb1200, 2, none⟩) (Kd.S_far (p := ⟨gb1200, 1, none⟩) (Kd.S_far (p := ⟨gb1200, 0, none⟩) (Kd.S_types HO1190.out BK1200.out (by decide)) (fun _ hk => hk.2) (.slice Ao54 t1191.length co54)) (fun _ hk => hk.2) (.slice Ao57 t1194.length co57)) (fun _ hk => hk.2) (.slice Ao58 t1197.length co58)) (fun _ h_ => h_.1))) hb); have n7_ := Aside0.mk (Kd.R_below (by (with_reducible repeat (first | apply Kd.R_alloc | apply Kd.R_drewN | apply Kd.R_drew)); exact (Kd.R_mono (Kd.R_far (p := ⟨gb1200, 2, none⟩) (Kd.R_far (p := ⟨gb1200, 1, none⟩) (Kd.R_far (p := ⟨gb1200, 0, none⟩) (Kd.R_types HO1193.out BK1200.out (by decide)) (fun _ hk => hk.2) (.slice Ao54 t1191.length co54)) (fun _ hk => hk.2) (.slice Ao57 t1194.length co57)) (fun _ hk => hk.2) (.slice Ao58 t1197.length co58)) (fun _ h_ => h_.1))) hb); have n8_ := Aside0.mk (Kd.R_below (by (with_reducible repeat (first | apply Kd.R_alloc | apply Kd.R_drewN | apply Kd.R_drew)); exact (Kd.R_mono (Kd.R_far (p := ⟨gb1200, 2, none⟩) (Kd.R_far (p := ⟨gb1200, 1, none⟩) (Kd.R_far (p := ⟨gb1200, 0, none⟩) (Kd.R_types HO1196.out BK1200.out (by decide)) (fun _ hk => hk.2) (.slice Ao54 t1191.length co54)) (fun _ hk => hk.2) (.slice Ao57 t1194.length co57)) (fun _ hk => hk.2) (.slice Ao58 t1197.length co58)) (fun _ h_ => h_.1))) hb); have n9_ := Aside0.mk (Kd.R_below (by (with_reducible repeat (first | apply Kd.R_alloc | apply Kd.R_drewN | apply Kd.R_drew)); exact (Kd.R_mono (Kd.R_far (p := ⟨gb1200, 2, none⟩) (Kd.R_far (p := ⟨gb1200, 1, none⟩) (Kd.R_far (p := ⟨gb1200, 0, none⟩) (Kd.R_types HO1199.out BK1200.out (by decide)) (fun _ hk => hk.2) (.slice Ao54 t1191.length co54)) (fun _ hk => hk.2) (.slice Ao57 t1194.length co57)) (fun _ hk => hk.2) (.slice Ao58 t1197.length co58)) (fun _ h_ => h_.1))) hb); have n10_ := Aside0.mk (blk_below (g := gb1165) (o := .cells #[.slice A2_0 l2_0.length c2_0, .slice A2_1 l2_1.length c2_1, .slice A2_2 l2_2.length c2_2] 46 (0, 0)) (by (with_reducible repeat (first | refine blk_drewN ?_ _ | refine blk_drew ?_ | refine blk_alloc ?_ _)); refine blk_far ?_ NB1165_1200.out _; (with_reducible repeat (first | refine blk_drewN ?_ _ | refine blk_drew ?_ | refine blk_alloc ?_ _)); refine blk_far ?_ NB1165_1200.out _; (with_reducible repeat (first | refine blk_drewN ?_ _ | refine blk_drew ?_ | refine blk_alloc ?_ _)); refine blk_far ?_ NB1165_1200.out _; (with_reducible repeat (first | refine blk_drewN ?_ _ | refine blk_drew ?_ | refine blk_alloc ?_ _)); exact BK1165.out) hb); have n11_ := Aside0.mk (blk_below (g := gb1200) (o := .cells #[.slice Ao54 t1191.length co54, .slice Ao57 t1194.length co57, .slice Ao58 t1197.length co58] 53 (0, 0)) (by (with_reducible repeat (first | refine blk_drewN ?_ _ | refine blk_drew ?_ | refine blk_alloc ?_ _)); refine blk_put (cs := #[.slice Ao54 t1191.length co54, .slice Ao57 t1194.length co57, .slice none 0 0]) ?_ 2 _ rfl; (with_reducible repeat (first | refine blk_drewN ?_ _ | refine blk_drew ?_ | refine blk_alloc ?_ _)); refine blk_put (cs := #[.slice Ao54 t1191.length co54, .slice none 0 0, .slice none 0 0]) ?_ 1 _ rfl; (with_reducible repeat (first | refine blk_drewN ?_ _ | refine blk_drew ?_ | refine blk_alloc ?_ _)); refine blk_put (cs := #[.slice none 0 0, .slice none 0 0, .slice none 0 0]) ?_ 0 _ rfl; (with_reducible repeat (first | refine blk_drewN ?_ _ | refine blk_drew ?_ | refine blk_alloc ?_ _)); exact BK1200.out) hb); have n12_ := Aside0.mk (below_step (by repeat (first | (with_reducible first | exact HB.out | apply below_alloc | apply pw_below_drewN | apply below_drew1 | refine below_set ?_ GE1165.out | refine below_set ?_ GE1200.out) | exact HB.out)) hb); clear HO1171; clear HO1174; clear HO1177; clear HO1180; clear HO1183; clear HO1187; clear HO1190; clear HO1193; clear HO1196; clear HO1199; clear BK1165; clear BK1200; clear HB; have HO1171 := n0_; have HO1174 := n1_; have HO1177 := n2_; have HO1180 := n3_; have HO1183 := n4_; have HO1187 := n5_; have HO1190 := n6_; have HO1193 := n7_; have HO1196 := n8_; have HO1199 := n9_; have BK1165 := n10_; have BK1200 := n11_; have HB := n12_; clear n0_ n1_ n2_ n3_ n4_ n5_ n6_ n7_ n8_ n9_ n10_ n11_ n12_; (try clear hb); (try clear hb2); (try clear hk); (try clear hi)) | ((with_reducible refine gate_callee (f := 35) rfl ?_); refine goesL_ (some 50) rfl rfl Try.func35 (by kernel_rfl) rfl #[.slice A0 l0.length c0] rfl (by (try simp only [List.map_toArray, List.map_cons, List.map_nil]); first | done | rfl | (simp only [List.length_drop, List.length_take]; rfl)) ?_; (with_reducible refine (laws_toNodeS.calls k _ _ l0 t1202 _ ?side1 ?side2 A26.out).mono ?_); (case side1 => repeat (first | exact (Kd.C_below HR0.out HB.out) | (with_reducible refine Kd.C_alloc ?_ _) | (with_reducible refine Kd.C_drewN ?_ _) | (with_reducible refine Kd.C_drew ?_))); (case side2 => exact HC0.out); rintro e w62 ⟨v1203, rfl, ho0, hb⟩; refine ⟨_, rfl, ?_⟩; have n0_ := Aside0.mk (Kd.R_elder' (by (with_reducible repeat (first | apply Kd.R_alloc | apply Kd.R_drewN | apply Kd.R_drew)); exact HO1171.out) (Kd.R_base ho0) hb); have n1_ := Aside0.mk (Kd.S_below (by (with_reducible repeat (first | apply Kd.S_alloc | apply Kd.S_drewN | apply Kd.S_drew)); exact HO1174.out) hb); have n2_ := Aside0.mk (Kd.R_below (by (with_reducible repeat (first | apply Kd.R_alloc | apply Kd.R_drewN | apply Kd.R_drew)); exact HO1177.out) hb); have n3_ := Aside0.mk (Kd.R_below (by (with_reducible repeat (first | apply Kd.R_alloc | apply Kd.R_drewN | apply Kd.R_drew)); exact HO1180.out) hb); have n4_ := Aside0.mk (Kd.R_below (by (with_reducible repeat (first | apply Kd.R_alloc | apply Kd.R_drewN | apply Kd.R_drew)); exact HO1183.out) hb); have n5_ := Aside0.mk (Kd.R_elder' (by (with_reducible repeat (first | apply Kd.R_alloc | apply Kd.R_drewN | apply Kd.R_drew)); exact HO1187.out) (Kd.R_base ho0) hb); have n6_ := Aside0.mk (Kd.S_below (by (with_reducible repeat (first | apply Kd.S_alloc | apply Kd.S_drewN | apply Kd.S_drew)); exact HO1190.out) hb); have n7_ := Aside0.mk (Kd.R_below (by (with_reducible repeat (first | apply Kd.R_alloc | apply Kd.R_drewN | apply Kd.R_drew)); exact HO1193.out) hb); have n8_ := Aside0.mk (Kd.R_below (by (with_reducible repeat (first | apply Kd.R_alloc | apply Kd.R_drewN | apply Kd.R_drew)); exact HO1196.out) hb); have n9_ := Aside0.mk (Kd.R_below (by (with_reducible repeat (first | apply Kd.R_alloc | apply Kd.R_drewN | apply Kd.R_drew)); exact HO1199.out) hb); have n10_ := Aside0.mk (Kd.R_lower (Kd.R_new' (Kd.R_new' ho0 (Kd.R_lt (by (with_reducible repeat (first | apply Kd.R_alloc | apply Kd.R_drewN | apply Kd.R_drew)); exact HO1171.out))) (Kd.R_lt (by (with_reducible repeat (first | apply Kd.R_alloc | apply Kd.R_drewN | apply Kd.R_drew)); exact HO1187.out))) (below_size (by repeat (first | (with_reducible first | exact HB.out | apply below_alloc | apply pw_below_drewN | apply below_drew1 | refine below_set ?_ GE1165.out | refine below_set ?_ GE1200.out) | exact HB.out)))); have n11_ := Aside0.mk (blk_below (g := gb1165) (o := .cells #[.slice A2_0 l2_0.length c2_0, .slice A2_1 l2_1.length c2_1, .slice A2_2 l2_2.length c2_2] 46 (0, 0)) (by (with_reducible repeat (first | refine blk_drewN ?_ _ | refine blk_drew ?_ | refine blk_alloc ?_ _)); exact BK1165.out) hb); have n12_ := Aside0.mk (blk_below (g := gb1200) (o := .cells #[.slice Ao54 t1191.length co54, .slice Ao57 t1194.length co57, .slice Ao58 t1197.length co58] 53 (0, 0)) (by (with_reducible repeat (first | refine blk_drewN ?_ _ | refine blk_drew ?_ | refine blk_alloc ?_ _)); exact BK1200.out) hb); have n13_ := Aside0.mk (below_step (by repeat (first | (with_reducible first | exact HB.out | apply below_alloc | apply pw_below_drewN | apply below_drew1 | refine below_set ?_ GE1165.out | refine below_set ?_ GE1200.out) | exact HB.out)) hb); clear HO1171; clear HO1174; clear HO1177; clear HO1180; clear HO1183; clear HO1187; clear HO1190; clear HO1193; clear HO1196; clear HO1199; clear BK1165; clear BK1200; clear HB; have HO1171 := n0_; have HO1174 := n1_; have HO1177 := n2_; have HO1180 := n3_; have HO1183 := n4_; have HO1187 := n5_; have HO1190 := n6_; have HO1193 := n7_; have HO1196 := n8_; have HO1199 := n9_; have HO1204 := n10_; have BK1165 := n11_; have BK1200 := n12_; have HB := n13_; clear n0_ n1_ n2_ n3_ n4_ n5_ n6_ n7_ n8_ n9_ n10_ n11_ n12_ n13_; (try clear hb); (try clear hb2); (try clear hk); (try clear hi); (try clear ho0); obtain ⟨Ao63, co63, eo63⟩ := Kd.R_slice HO1204.out; subst eo63) | ((with_reducible refine gate_callee (f := 23) rfl ?_); refine goesL_ (some 51) rfl rfl Try.func23 (by kernel_rfl) rfl #[.slice Ao59 t1185.length co59, .slice Ao63 t1202.length co63] rfl (by (try simp only [List.map_toArray, List.map_cons, List.map_nil]); first | done | rfl | (simp only [List.length_drop, List.length_take]; rfl)) ?_; (with_reducible refine (laws_eqNodeS.calls k _ _ t1185 _ _ t1202 true _ ?side1 ?side2 ?side3 ?side4 A27.out).mono ?_); (case side1 => repeat (first | exact (Kd.R_reads' HO1187.out).2.2 | (with_reducible refine Kd.C_alloc ?_ _) | (with_reducible refine Kd.C_drewN ?_ _) | (with_reducible refine Kd.C_drew ?_))); (case side2 => exact (Kd.R_reads' HO1187.out).2.1); (case side3 => repeat (first | exact (Kd.R_reads' HO1204.out).2.2 | (with_reducible refine Kd.C_alloc ?_ _) | (with_reducible refine Kd.C_drewN ?_ _) | (with_reducible refine Kd.C_drew ?_))); (case side4 => exact (Kd.R_reads' HO1204.out).2.1); rintro e w64 ⟨rfl, hb⟩; refine ⟨_, rfl, ?_⟩; have n0_ := Aside0.mk (Kd.R_below (by (with_reducible repeat (first | apply Kd.R_alloc | apply Kd.R_drewN | apply Kd.R_drew)); exact HO1171.out) hb); have n1_ := Aside0.mk (Kd.S_below (by (with_reducible repeat (first | apply Kd.S_alloc | apply Kd.S_drewN | apply Kd.S_drew)); exact HO1174.out) hb); have n2_ := Aside0.mk (Kd.R_below (by (with_reducible repeat (first | apply Kd.R_alloc | apply Kd.R_drewN | apply Kd.R_drew)); exact HO1177.out) hb); have n3_ := Aside0.mk (Kd.R_below (by (with_reducible repeat (first | apply Kd.R_alloc | apply Kd.R_drewN | apply Kd.R_drew)); exact HO1180.out) hb); have n4_ := Aside0.mk (Kd.R_below (by (with_reducible repeat (first | apply Kd.R_alloc | apply Kd.R_drewN | apply Kd.R_drew)); exact HO1183.out) hb); have n5_ := Aside0.mk (Kd.R_below (by (with_reducible repeat (first | apply Kd.R_alloc | apply Kd.R_drewN | apply Kd.R_drew)); exact HO1187.out) hb); have n6_ := Aside0.mk (Kd.S_below (by (with_reducible repeat (first | apply Kd.S_alloc | apply Kd.S_drewN | apply Kd.S_drew)); exact HO1190.out) hb); have n7_ := Aside0.mk (Kd.R_below (by (with_reducible repeat (first | apply Kd.R_alloc | apply Kd.R_drewN | apply Kd.R_drew)); exact HO1193.out) hb); have n8_ := Aside0.mk (Kd.R_below (by (with_reducible repeat (first | apply Kd.R_alloc | apply Kd.R_drewN | apply Kd.R_drew)); exact HO1196.out) hb); have n9_ := Aside0.mk (Kd.R_below (by (with_reducible repeat (first | apply Kd.R_alloc | apply Kd.R_drewN | apply Kd.R_drew)); exact HO1199.out) hb); have n10_ := Aside0.mk (Kd.R_below (by (with_reducible repeat (first | apply Kd.R_alloc | apply Kd.R_drewN | apply Kd.R_drew)); exact HO1204.out) hb); have n11_ := Aside0.mk (blk_below (g := gb1165) (o := .cells #[.slice A2_0 l2_0.length c2_0, .slice A2_1 l2_1.length c2_1, .slice A2_2 l2_2.length c2_2] 46 (0, 0)) (by (with_reducible repeat (first | refine blk_drewN ?_ _ | refine blk_drew ?_ | refine blk_alloc ?_ _)); exact BK1165.out) hb); have n12_ := Aside0.mk (blk_below (g := gb1200) (o := .cells #[.slice Ao54 t1191.length co54, .slice Ao57 t1194.length co57, .slice Ao58 t1197.length co58] 53 (0, 0)) (by (with_reducible repeat (first | refine blk_drewN ?_ _ | refine blk_drew ?_ | refine blk_alloc ?_ _)); exact BK1200.out) hb); have n13_ := Aside0.mk (below_step (by repeat (first | (with_reducible first | exact HB.out | apply below_alloc | apply pw_below_drewN | apply below_drew1 | refine below_set ?_ GE1165.out | refine below_set ?_ GE1200.out) | exact HB.out)) hb); clear HO1171; clear HO1174; clear HO1177; clear HO1180; clear HO1183; clear HO1187; clear HO1190; clear HO1193; clear HO1196; clear HO1199; clear HO1204; clear BK1165; clear BK1200; clear HB; have HO1171 := n0_; have HO1174 := n1_; have HO1177 := n2_; have HO1180 := n3_; have HO1183 := n4_; have HO1187 := n5_; have HO1190 := n6_; have HO1193 := n7_; have HO1196 := n8_; have HO1199 := n9_; have HO1204 := n10_; have BK1165 := n11_; have BK1200 := n12_; have HB := n13_; clear n0_ n1_ n2_ n3_ n4_ n5_ n6_ n7_ n8_ n9_ n10_ n11_ n12_ n13_; (try clear hb); (try clear hb2); (try clear hk); (try clear hi)) | ((with_reducible refine gate_callee (f := 51) rfl ?_); refine goesL_ (some 55) rfl rfl Try.func51 (by kernel_rfl) rfl #[.slice A1 l1.length c1] rfl (by (try simp only [List.map_toArray, List.map_cons, List.map_nil]); first | done | rfl | (simp only [List.length_drop, List.length_take]; rfl)) ?_; (with_reducible refine (laws_toOpS.calls k _ _ l1 t1206 _ ?side1 ?side2 A29.out).mono ?_); (case side1 => repeat (first | exact (Kd.C_below HR1.out HB.out) | (with_reducible refine Kd.C_alloc ?_ _) | (with_reducible refine Kd.C_drewN ?_ _) | (with_reducible refine Kd.C_drew ?_))); (case side2 => exact HC1.out); rintro e w65 ⟨v1207, rfl, ho0, hb⟩; refine ⟨_, rfl, ?_⟩; have n0_ := Aside0.mk (Kd.R_below (by (with_reducible repeat (first | apply Kd.R_alloc | apply Kd.R_drewN | apply Kd.R_drew)); exact HO1171.out) hb); have n1_ := Aside0.mk (Kd.S_elder' (by (with_reducible repeat (first | apply Kd.S_alloc | apply Kd.S_drewN | apply Kd.S_drew)); exact HO1174.out) (Kd.S_base ho0) hb); have n2_ := Aside0.mk (Kd.R_below (by (with_reducible repeat (first | apply Kd.R_alloc | apply Kd.R_drewN | apply Kd.R_drew)); exact HO1177.out) hb); have n3_ := Aside0.mk (Kd.R_below (by (with_reducible repeat (first | apply Kd.R_alloc | apply Kd.R_drewN | apply Kd.R_drew)); exact HO1180.out) hb); have n4_ := Aside0.mk (Kd.R_below (by (with_reducible repeat (first | apply Kd.R_alloc | apply Kd.R_drewN | apply Kd.R_drew)); exact HO1183.out) hb); have n5_ := Aside0.mk (Kd.R_below (by (with_reducible repeat (first | apply Kd.R_alloc | apply Kd.R_drewN | apply Kd.R_drew)); exact HO1187.out) hb); have n6_ := Aside0.mk (Kd.S_elder' (by (with_reducible repeat (first | apply Kd.S_alloc | apply Kd.S_drewN | apply Kd.S_drew)); exact HO1190.out) (Kd.S_base ho0) hb); have n7_ := Aside0.mk (Kd.R_below (by (with_reducible repeat (first | apply Kd.R_alloc | apply Kd.R_drewN | apply Kd.R_drew)); exact HO1193.out) hb); have n8_ := Aside0.mk (Kd.R_below (by (with_reducible repeat (first | apply Kd.R_alloc | apply Kd.R_drewN | apply Kd.R_drew)); exact HO1196.out) hb); have n9_ := Aside0.mk (Kd.R_below (by (with_reducible repeat (first | apply Kd.R_alloc | apply Kd.R_drewN | apply Kd.R_drew)); exact HO1199.out) hb); have n10_ := Aside0.mk (Kd.R_below (by (with_reducible repeat (first | apply Kd.R_alloc | apply Kd.R_drewN | apply Kd.R_drew)); exact HO1204.out) hb); have n11_ := Aside0.mk (Kd.S_lower (Kd.S_new' (Kd.S_new' (Kd.S_new' (Kd.S_new' (Kd.S_new' (Kd.S_new' (Kd.S_new' (Kd.S_new' ho0 (Kd.S_lt (by (with_reducible repeat (first | apply Kd.S_alloc | apply Kd.S_drewN | apply Kd.S_drew)); exact HO1174.out))) (Kd.R_lt (by (with_reducible repeat (first | apply Kd.R_alloc | apply Kd.R_drewN | apply Kd.R_drew)); exact HO1177.out))) (Kd.R_lt (by (with_reducible repeat (first | apply Kd.R_alloc | apply Kd.R_drewN | apply Kd.R_drew)); exact HO1180.out))) (Kd.R_lt (by (with_reducible repeat (first | apply Kd.R_alloc | apply Kd.R_drewN | apply Kd.R_drew)); exact HO1183.out))) (Kd.S_lt (by (with_reducible repeat (first | apply Kd.S_alloc | apply Kd.S_drewN | apply Kd.S_drew)); exact HO1190.out))) (Kd.R_lt (by (with_reducible repeat (first | apply Kd.R_alloc | apply Kd.R_drewN | apply Kd.R_drew)); exact HO1193.out))) (Kd.R_lt (by (with_reducible repeat (first | apply Kd.R_alloc | apply Kd.R_drewN | apply Kd.R_drew)); exact HO1196.out))) (Kd.R_lt (by (with_reducible repeat (first | apply Kd.R_alloc | apply Kd.R_drewN | apply Kd.R_drew)); exact HO1199.out))) (below_size (by repeat (first | (with_reducible first | exact HB.out | apply below_alloc | apply pw_below_drewN | apply below_drew1 | refine below_set ?_ GE1165.out | refine below_set ?_ GE1200.out) | exact HB.out)))); have n12_ := Aside0.mk (blk_below (g := gb1165) (o := .cells #[.slice A2_0 l2_0.length c2_0, .slice A2_1 l2_1.length c2_1, .slice A2_2 l2_2.length c2_2] 46 (0, 0)) (by (with_reducible repeat (first | refine blk_drewN ?_ _ | refine blk_drew ?_ | refine blk_alloc ?_ _)); exact BK1165.out) hb); have n13_ := Aside0.mk (blk_below (g := gb1200) (o := .cells #[.slice Ao54 t1191.length co54, .slice Ao57 t1194.length co57, .slice Ao58 t1197.length co58] 53 (0, 0)) (by (with_reducible repeat (first | refine blk_drewN ?_ _ | refine blk_drew ?_ | refine blk_alloc ?_ _)); exact BK1200.out) hb); have n14_ := Aside0.mk (below_step (by repeat (first | (with_reducible first | exact HB.out | apply below_alloc | apply pw_below_drewN | apply below_drew1 | refine below_set ?_ GE1165.out | refine below_set ?_ GE1200.out) | exact HB.out)) hb); clear HO1171; clear HO1174; clear HO1177; clear HO1180; clear HO1183; clear HO1187; clear HO1190; clear HO1193; clear HO1196; clear HO1199; clear HO1204; clear BK1165; clear BK1200; clear HB; have HO1171 := n0_; have HO1174 := n1_; have HO1177 := n2_; have HO1180 := n3_; have HO1183 := n4_; have HO1187 := n5_; have HO1190 := n6_; have HO1193 := n7_; have HO1196 := n8_; have HO1199 := n9_; have HO1204 := n10_; have HO1208 := n11_; have BK1165 := n12_; have BK1200 := n13_; have HB := n14_; clear n0_ n1_ n2_ n3_ n4_ n5_ n6_ n7_ n8_ n9_ n10_ n11_ n12_ n13_ n14_; (try clear hb); (try clear hb2); (try clear hk); (try clear hi); (try clear ho0); obtain ⟨Ao66, co66, eo66⟩ := Kd.S_slice HO1208.out; subst eo66) | ((with_reducible refine gate_callee (f := 53) rfl ?_); refine goesL_ (some 56) rfl rfl Try.func53 (by kernel_rfl) rfl #[.slice Ao60 t1188.length co60, .slice Ao66 t1206.length co66] rfl (by (try simp only [List.map_toArray, List.map_cons, List.map_nil]); first | done | rfl | (simp only [List.length_drop, List.length_take]; rfl)) ?_; (with_reducible refine (laws_eqOpS.calls k _ _ t1188 _ _ t1206 true _ ?side1 ?side2 ?side3 ?side4 A30.out).mono ?_); (case side1 => repeat (first | exact (Kd.S_reads' HO1190.out).2.2 | (with_reducible refine Kd.C_alloc ?_ _) | (with_reducible refine Kd.C_drewN ?_ _) | (with_reducible refine Kd.C_drew ?_))); (case side2 => exact (Kd.S_reads' HO1190.out).2.1); (case side3 => repeat (first | exact (Kd.S_reads' HO1208.out).2.2 | (with_reducible refine Kd.C_alloc ?_ _) | (with_reducible refine Kd.C_drewN ?_ _) | (with_reducible refine Kd.C_drew ?_))); (case side4 => exact (Kd.S_reads' HO1208.out).2.1); rintro e w67 ⟨rfl, hb⟩; refine ⟨_, rfl, ?_⟩; have n0_ := Aside0.mk (Kd.R_below (by (with_reducible repeat (first | apply Kd.R_alloc | apply Kd.R_drewN | apply Kd.R_drew)); exact HO1171.out) hb); have n1_ := Aside0.mk (Kd.S_below (by (with_reducible repeat (first | apply Kd.S_alloc | apply Kd.S_drewN | apply Kd.S_drew)); exact HO1174.out) hb); have n2_ := Aside0.mk (Kd.R_below (by (with_reducible repeat (first | apply Kd.R_alloc | apply Kd.R_drewN | apply Kd.R_drew)); exact HO1177.out) hb); have n3_ := Aside0.mk (Kd.R_below (by (with_reducible repeat (first | apply Kd.R_alloc | apply Kd.R_drewN | apply Kd.R_drew)); exact HO1180.out) hb); have n4_ := Aside0.mk (Kd.R_below (by (with_reducible repeat (first | apply Kd.R_alloc | apply Kd.R_drewN | apply Kd.R_drew)); exact HO1183.out) hb); have n5_ := Aside0.mk (Kd.R_below (by (with_reducible repeat (first | apply Kd.R_alloc | apply Kd.R_drewN | apply Kd.R_drew)); exact HO1187.out) hb); have n6_ := Aside0.mk (Kd.S_below (by (with_reducible repeat (first | apply Kd.S_alloc | apply Kd.S_drewN | apply Kd.S_drew)); exact HO1190.out) hb); have n7_ := Aside0.mk (Kd.R_below (by (with_reducible repeat (first | apply Kd.R_alloc | apply Kd.R_drewN | apply Kd.R_drew)); exact HO1193.out) hb); have n8_ := Aside0.mk (Kd.R_below (by (with_reducible repeat (first | apply Kd.R_alloc | apply Kd.R_drewN | apply Kd.R_drew)); exact HO1196.out) hb); have n9_ := Aside0.mk (Kd.R_below (by (with_reducible repeat (first | apply Kd.R_alloc | apply Kd.R_drewN | apply Kd.R_drew)); exact HO1199.out) hb); have n10_ := Aside0.mk (Kd.R_below (by (with_reducible repeat (first | apply Kd.R_alloc | apply Kd.R_drewN | apply Kd.R_drew)); exact HO1204.out) hb); have n11_ := Aside0.mk (Kd.S_below (by (with_reducible repeat (first | apply Kd.S_alloc | apply Kd.S_drewN | apply Kd.S_drew)); exact HO1208.out) hb); have n12_ := Aside0.mk (blk_below (g := gb1165) (o := .cells #[.slice A2_0 l2_0.length c2_0, .slice A2_1 l2_1.length c2_1, .slice A2_2 l2_2.length c2_2] 46 (0, 0)) (by (with_reducible repeat (first | refine blk_drewN ?_ _ | refine blk_drew ?_ | refine blk_alloc ?_ _)); exact BK1165.out) hb); have n13_ := Aside0.mk (blk_below (g := gb1200) (o := .cells #[.slice Ao54 t1191.length co54, .slice Ao57 t1194.length co57, .slice Ao58 t1197.length co58] 53 (0, 0)) (by (with_reducible repeat (first | refine blk_drewN ?_ _ | refine blk_drew ?_ | refine blk_alloc ?_ _)); exact BK1200.out) hb); have n14_ := Aside0.mk (below_step (by repeat (first | (with_reducible first | exact HB.out | apply below_alloc | apply pw_below_drewN | apply below_drew1 | refine below_set ?_ GE1165.out | refine below_set ?_ GE1200.out) | exact HB.out)) hb); clear HO1171; clear HO1174; clear HO1177; clear HO1180; clear HO1183; clear HO1187; clear HO1190; clear HO1193; clear HO1196; clear HO1199; clear HO1204; clear HO1208; clear BK1165; clear BK1200; clear HB; have HO1171 := n0_; have HO1174 := n1_; have HO1177 := n2_; have HO1180 := n3_; have HO1183 := n4_; have HO1187 := n5_; have HO1190 := n6_; have HO1193 := n7_; have HO1196 := n8_; have HO1199 := n9_; have HO1204 := n10_; have HO1208 := n11_; have BK1165 := n12_; have BK1200 := n13_; have HB := n14_; clear n0_ n1_ n2_ n3_ n4_ n5_ n6_ n7_ n8_ n9_ n10_ n11_ n12_ n13_ n14_; (try clear hb); (try clear hb2); (try clear hk); (try clear hi)))
        have n0_ := Aside0.mk (Kd.R_drew HO1171.out)
        have n1_ := Aside0.mk (Kd.S_drew HO1174.out)
        have n2_ := Aside0.mk (Kd.R_drew HO1177.out)
        have n3_ := Aside0.mk (Kd.R_drew HO1180.out)
        have n4_ := Aside0.mk (Kd.R_drew HO1183.out)
        have n5_ := Aside0.mk (Kd.R_drew HO1187.out)
        have n6_ := Aside0.mk (Kd.S_drew HO1190.out)
        have n7_ := Aside0.mk (Kd.R_drew HO1193.out)
        have n8_ := Aside0.mk (Kd.R_drew HO1196.out)
        have n9_ := Aside0.mk (Kd.R_drew HO1199.out)
        have n10_ := Aside0.mk (Kd.R_drew HO1204.out)
        have n11_ := Aside0.mk (Kd.S_drew HO1208.out)
        have n12_ := Aside0.mk (blk_drew BK1165.out)
        have n13_ := Aside0.mk (blk_drew BK1200.out)
        have n14_ := Aside0.mk (below_drew1 HB.out)
        clear HO1171
        clear HO1174
        clear HO1177
        clear HO1180
        clear HO1183
        clear HO1187
        clear HO1190
        clear HO1193
        clear HO1196
        clear HO1199
        clear HO1204
        clear HO1208
        clear BK1165
        clear BK1200
        clear HB
        have HO1171 := n0_
        have HO1174 := n1_
        have HO1177 := n2_
        have HO1180 := n3_
        have HO1183 := n4_
        have HO1187 := n5_
        have HO1190 := n6_
        have HO1193 := n7_
        have HO1196 := n8_
        have HO1199 := n9_
        have HO1204 := n10_
        have HO1208 := n11_
        have BK1165 := n12_
        have BK1200 := n13_
        have HB := n14_
        clear n0_ n1_ n2_ n3_ n4_ n5_ n6_ n7_ n8_ n9_ n10_ n11_ n12_ n13_ n14_
        refine start_ (n := 5) (S := fun w' => w'.cell? ⟨gb1200, 0, none⟩ = some (.slice Ao54 t1191.length co54) ∧ w'.cell? ⟨gb1200, 1, none⟩ = some (.slice Ao57 t1194.length co57) ∧ w'.cell? ⟨gb1200, 2, none⟩ = some (.slice Ao58 t1197.length co58) ∧ w'.cell? ⟨gb1165, 0, none⟩ = some (.slice A2_0 l2_0.length c2_0) ∧ w'.cell? ⟨gb1165, 1, none⟩ = some (.slice A2_1 l2_1.length c2_1) ∧ w'.cell? ⟨gb1165, 2, none⟩ = some (.slice A2_2 l2_2.length c2_2)) (ds := []) #[false, false, false, false, false] (by kernel_rfl) rfl rfl ⟨(blk_cell BK1200.out 0).trans rfl, (blk_cell BK1200.out 1).trans rfl, (blk_cell BK1200.out 2).trans rfl, (blk_cell BK1165.out 0).trans rfl, (blk_cell BK1165.out 1).trans rfl, (blk_cell BK1165.out 2).trans rfl⟩ (fun hHeld => ?_)
        generalize w67.drew = w68 at HO1171 HO1174 HO1177 HO1180 HO1183 HO1187 HO1190 HO1193 HO1196 HO1199 HO1204 HO1208 BK1165 BK1200 HB hHeld ⊢
        refine ta_ 0 (some 58) #[true, false, false, false, false] rfl rfl (by kernel_rfl) hHeld (by rintro w' ⟨s0, s1, s2, s3, s4, s5⟩; go_simp; with_reducible rfl) ?_
        refine ta_ 1 (some 59) #[true, true, false, false, false] rfl rfl (by kernel_rfl) hHeld (by rintro w' ⟨s0, s1, s2, s3, s4, s5⟩; go_simp; with_reducible rfl) ?_
        refine one_ (i := 2) (N := some 60) #[true, true, true, false, false] rfl rfl (by kernel_rfl) (by decide) (fun K hK => ?_)
        refine goes_ Try.func36 (by kernel_rfl) rfl #[.agg #[.slice A2_0 l2_0.length c2_0, .slice A2_1 l2_1.length c2_1, .slice A2_2 l2_2.length c2_2]] (by rfl) rfl rfl (by (try simp only [List.map_toArray, List.map_cons, List.map_nil]); first | done | rfl | (simp only [List.length_drop, List.length_take]; rfl)) ?_
        with_reducible refine (laws_toCost.calls k _ _ l2_0 _ _ l2_1 _ _ l2_2 t1210 t1213 t1216 _ ?side1 ?side2 ?side3 ?side4 ?side5 ?side6 A32.out).mono ?_
        (case side1 => exact cx_ HR2_0 HB)
        (case side2 => exact HC2_0.out)
        (case side3 => exact cx_ HR2_1 HB)
        (case side4 => exact HC2_1.out)
        (case side5 => exact cx_ HR2_2 HB)
        (case side6 => exact HC2_2.out)
        rintro e w69 ⟨v1211, v1214, v1217, rfl, ho0, ho1, ho2, hb⟩
        refine ⟨_, rfl, ?_⟩
        have n0_ := tR_ HO1171 hb
        have n1_ := Aside0.mk (Kd.S_mono (Kd.S_told (Kd.S_told (Kd.S_told (Kd.S_old (sx_ HO1174.out) hb) (Kd.R_base ho0)) (Kd.R_base ho1)) (Kd.R_base ho2)) (fun _ h_ => h_.1))
        have n2_ := Aside0.mk (Kd.R_mono (Kd.R_told (Kd.R_told (Kd.R_told (Kd.R_old (rx_ HO1177.out) hb) (Kd.R_base ho0)) (Kd.R_base ho1)) (Kd.R_base ho2)) (fun _ h_ => h_.1))
        have n3_ := Aside0.mk (Kd.R_mono (Kd.R_told (Kd.R_told (Kd.R_told (Kd.R_old (rx_ HO1180.out) hb) (Kd.R_base ho0)) (Kd.R_base ho1)) (Kd.R_base ho2)) (fun _ h_ => h_.1))
        have n4_ := Aside0.mk (Kd.R_mono (Kd.R_told (Kd.R_told (Kd.R_told (Kd.R_old (rx_ HO1183.out) hb) (Kd.R_base ho0)) (Kd.R_base ho1)) (Kd.R_base ho2)) (fun _ h_ => h_.1))
        have n5_ := tR_ HO1187 hb
        have n6_ := Aside0.mk (Kd.S_mono (Kd.S_told (Kd.S_told (Kd.S_told (Kd.S_old (sx_ HO1190.out) hb) (Kd.R_base ho0)) (Kd.R_base ho1)) (Kd.R_base ho2)) (fun _ h_ => h_.1))
        have n7_ := Aside0.mk (Kd.R_mono (Kd.R_told (Kd.R_told (Kd.R_told (Kd.R_old (rx_ HO1193.out) hb) (Kd.R_base ho0)) (Kd.R_base ho1)) (Kd.R_base ho2)) (fun _ h_ => h_.1))
        have n8_ := Aside0.mk (Kd.R_mono (Kd.R_told (Kd.R_told (Kd.R_told (Kd.R_old (rx_ HO1196.out) hb) (Kd.R_base ho0)) (Kd.R_base ho1)) (Kd.R_base ho2)) (fun _ h_ => h_.1))
        have n9_ := Aside0.mk (Kd.R_mono (Kd.R_told (Kd.R_told (Kd.R_told (Kd.R_old (rx_ HO1199.out) hb) (Kd.R_base ho0)) (Kd.R_base ho1)) (Kd.R_base ho2)) (fun _ h_ => h_.1))
        have n10_ := tR_ HO1204 hb
        have n11_ := Aside0.mk (Kd.S_mono (Kd.S_told (Kd.S_told (Kd.S_told (Kd.S_old (sx_ HO1208.out) hb) (Kd.R_base ho0)) (Kd.R_base ho1)) (Kd.R_base ho2)) (fun _ h_ => h_.1))
        have n12_ := Aside0.mk (Kd.R_lower (Kd.R_new' (Kd.R_new' (Kd.R_new' (Kd.R_new' (Kd.R_new' (Kd.R_new' ho0 (Kd.R_lt (rx_ HO1177.out))) (Kd.R_lt (rx_ HO1180.out))) (Kd.R_lt (rx_ HO1183.out))) (Kd.R_lt (rx_ HO1193.out))) (Kd.R_lt (rx_ HO1196.out))) (Kd.R_lt (rx_ HO1199.out))) (bs_ HB))
        have n13_ := Aside0.mk (Kd.R_lower (Kd.R_new' (Kd.R_new' (Kd.R_new' (Kd.R_new' (Kd.R_new' (Kd.R_new' ho1 (Kd.R_lt (rx_ HO1177.out))) (Kd.R_lt (rx_ HO1180.out))) (Kd.R_lt (rx_ HO1183.out))) (Kd.R_lt (rx_ HO1193.out))) (Kd.R_lt (rx_ HO1196.out))) (Kd.R_lt (rx_ HO1199.out))) (bs_ HB))
        have n14_ := Aside0.mk (Kd.R_lower (Kd.R_new' (Kd.R_new' (Kd.R_new' (Kd.R_new' (Kd.R_new' (Kd.R_new' ho2 (Kd.R_lt (rx_ HO1177.out))) (Kd.R_lt (rx_ HO1180.out))) (Kd.R_lt (rx_ HO1183.out))) (Kd.R_lt (rx_ HO1193.out))) (Kd.R_lt (rx_ HO1196.out))) (Kd.R_lt (rx_ HO1199.out))) (bs_ HB))
        have n15_ := tK_ BK1165 hb
        have n16_ := tK_ BK1200 hb
        have n17_ := tB_ HB hb
        clear HO1171
        clear HO1174
        clear HO1177
        clear HO1180
        clear HO1183
        clear HO1187
        clear HO1190
        clear HO1193
        clear HO1196
        clear HO1199
        clear HO1204
        clear HO1208
        clear BK1165
        clear BK1200
        clear HB
        have HO1171 := n0_
        have HO1174 := n1_
        have HO1177 := n2_
        have HO1180 := n3_
        have HO1183 := n4_
        have HO1187 := n5_
        have HO1190 := n6_
        have HO1193 := n7_
        have HO1196 := n8_
        have HO1199 := n9_
        have HO1204 := n10_
        have HO1208 := n11_
        have HO1212 := n12_
        have HO1215 := n13_
        have HO1218 := n14_
        have BK1165 := n15_
        have BK1200 := n16_
        have HB := n17_
        clear n0_ n1_ n2_ n3_ n4_ n5_ n6_ n7_ n8_ n9_ n10_ n11_ n12_ n13_ n14_ n15_ n16_ n17_
        (try clear hb)
        (try clear hb2)
        (try clear hk)
        (try clear hi)
        (try clear ho0)
        (try clear ho1)
        (try clear ho2)
        obtain ⟨Ao70, co70, eo70⟩ := Kd.R_slice HO1212.out
        (first | subst eo70 | (injection eo70 with f1_ f2_ f3_; have f4_ := f1_.symm; have f5_ := f3_.symm; clear f1_ f2_ f3_; subst f4_; subst f5_))
        obtain ⟨Ao71, co71, eo71⟩ := Kd.R_slice HO1215.out
        (first | subst eo71 | (injection eo71 with f1_ f2_ f3_; have f4_ := f1_.symm; have f5_ := f3_.symm; clear f1_ f2_ f3_; subst f4_; subst f5_))
        obtain ⟨Ao72, co72, eo72⟩ := Kd.R_slice HO1218.out
        (first | subst eo72 | (injection eo72 with f1_ f2_ f3_; have f4_ := f1_.symm; have f5_ := f3_.symm; clear f1_ f2_ f3_; subst f4_; subst f5_))
        refine hK.out _ _ ⟨(blk_cell BK1200.out 0).trans rfl, (blk_cell BK1200.out 1).trans rfl, (blk_cell BK1200.out 2).trans rfl, (blk_cell BK1165.out 0).trans rfl, (blk_cell BK1165.out 1).trans rfl, (blk_cell BK1165.out 2).trans rfl⟩ (fun hHeld => ?_)
        clear hK K
        refine norm_ (a' := ?_) ?_ ?_
        rotate_left
        ·show Act.put _ (some 60) _ = _
         simp only [Act.put, List.setIfInBounds_toArray, List.set_cons_zero, List.set_cons_succ, i64_w, i32_w]
         rfl
        refine one_ (i := 3) (N := some 61) #[true, true, true, true, false] rfl rfl (by kernel_rfl) (by decide) (fun K hK => ?_)
        refine goes_ Try.func39 (by kernel_rfl) rfl #[.agg #[.slice Ao54 t1191.length co54, .slice Ao57 t1194.length co57, .slice Ao58 t1197.length co58], .agg #[.slice Ao70 t1210.length co70, .slice Ao71 t1213.length co71, .slice Ao72 t1216.length co72]] (by rfl) rfl rfl (by (try simp only [List.map_toArray, List.map_cons, List.map_nil]); first | done | rfl | (simp only [List.length_drop, List.length_take]; rfl)) ?_
        with_reducible refine (laws_eqCost.calls k _ _ t1191 _ _ t1194 _ _ t1197 _ _ t1210 _ _ t1213 _ _ t1216 true _ ?side1 ?side2 ?side3 ?side4 ?side5 ?side6 ?side7 ?side8 ?side9 ?side10 ?side11 ?side12 A33.out).mono ?_
        (case side1 => exact cc_ (Kd.R_reads' HO1193.out).2.2)
        (case side2 => exact (Kd.R_reads' HO1193.out).2.1)
        (case side3 => exact cc_ (Kd.R_reads' HO1196.out).2.2)
        (case side4 => exact (Kd.R_reads' HO1196.out).2.1)
        (case side5 => exact cc_ (Kd.R_reads' HO1199.out).2.2)
        (case side6 => exact (Kd.R_reads' HO1199.out).2.1)
        (case side7 => exact cc_ (Kd.R_reads' HO1212.out).2.2)
        (case side8 => exact (Kd.R_reads' HO1212.out).2.1)
        (case side9 => exact cc_ (Kd.R_reads' HO1215.out).2.2)
        (case side10 => exact (Kd.R_reads' HO1215.out).2.1)
        (case side11 => exact cc_ (Kd.R_reads' HO1218.out).2.2)
        (case side12 => exact (Kd.R_reads' HO1218.out).2.1)
        rintro e w73 ⟨rfl, hb⟩
        refine ⟨_, rfl, ?_⟩
        have n0_ := tR_ HO1171 hb
        have n1_ := Aside0.mk (Kd.S_below (sx_ HO1174.out) hb)
        have n2_ := tR_ HO1177 hb
        have n3_ := tR_ HO1180 hb
        have n4_ := tR_ HO1183 hb
        have n5_ := tR_ HO1187 hb
        have n6_ := Aside0.mk (Kd.S_below (sx_ HO1190.out) hb)
        have n7_ := tR_ HO1193 hb
        have n8_ := tR_ HO1196 hb
        have n9_ := tR_ HO1199 hb
        have n10_ := tR_ HO1204 hb
        have n11_ := Aside0.mk (Kd.S_below (sx_ HO1208.out) hb)
        have n12_ := tR_ HO1212 hb
        have n13_ := tR_ HO1215 hb
        have n14_ := tR_ HO1218 hb
        have n15_ := tK_ BK1165 hb
        have n16_ := tK_ BK1200 hb
        have n17_ := tB_ HB hb
        clear HO1171
        clear HO1174
        clear HO1177
        clear HO1180
        clear HO1183
        clear HO1187
        clear HO1190
        clear HO1193
        clear HO1196
        clear HO1199
        clear HO1204
        clear HO1208
        clear HO1212
        clear HO1215
        clear HO1218
        clear BK1165
        clear BK1200
        clear HB
        have HO1171 := n0_
        have HO1174 := n1_
        have HO1177 := n2_
        have HO1180 := n3_
        have HO1183 := n4_
        have HO1187 := n5_
        have HO1190 := n6_
        have HO1193 := n7_
        have HO1196 := n8_
        have HO1199 := n9_
        have HO1204 := n10_
        have HO1208 := n11_
        have HO1212 := n12_
        have HO1215 := n13_
        have HO1218 := n14_
        have BK1165 := n15_
        have BK1200 := n16_
        have HB := n17_
        clear n0_ n1_ n2_ n3_ n4_ n5_ n6_ n7_ n8_ n9_ n10_ n11_ n12_ n13_ n14_ n15_ n16_ n17_
        (try clear hb)
        (try clear hb2)
        (try clear hk)
        (try clear hi)
        refine hK.out _ _ ⟨(blk_cell BK1200.out 0).trans rfl, (blk_cell BK1200.out 1).trans rfl, (blk_cell BK1200.out 2).trans rfl, (blk_cell BK1165.out 0).trans rfl, (blk_cell BK1165.out 1).trans rfl, (blk_cell BK1165.out 2).trans rfl⟩ (fun hHeld => ?_)
        clear hK K
        refine norm_ (a' := ?_) ?_ ?_
        rotate_left
        ·show Act.put _ (some 61) _ = _
         simp only [Act.put, List.setIfInBounds_toArray, List.set_cons_zero, List.set_cons_succ, i64_w, i32_w]
         rfl
        refine pu_ 4 (some 62) #[true, true, true, true, true] rfl rfl (by kernel_rfl) ?_
        refine done_ (by kernel_rfl) ?_
        try go_wp2
        go_ret
        exact ⟨ea_, (bl_ HB).out⟩
       ·replace c34 := Bool.eq_false_iff.mpr c34
        subst c34
        have H1 : (some false) = some true := by rw [if_neg (show ¬ (false = true) by decide)] at H; exact H
        clear H
        have H := H1
        clear H1
        exact absurd H (by simp)
      ·replace c31 := Bool.eq_false_iff.mpr c31
       subst c31
       have H1 : (some false) = some true := by rw [if_neg (show ¬ (false = true) by decide)] at H; exact H
       clear H
       have H := H1
       clear H1
       exact absurd H (by simp)
     ·replace c28 := Bool.eq_false_iff.mpr c28
      subst c28
      have H1 : (some false) = some true := by rw [if_neg (show ¬ (false = true) by decide)] at H; exact H
      clear H
      have H := H1
      clear H1
      exact absurd H (by simp)
    ·rw [if_neg c25] at H
     have c25b0 : (t1201 == t1184) = false := beq_eq_false_iff_ne.mpr c25
     have c25b1 : (t1201 != t1184) = true := bne_iff_ne.mpr c25
     exact absurd H (by simp)
end Go.Proofs.Ytbifdckfglejkaa.X
