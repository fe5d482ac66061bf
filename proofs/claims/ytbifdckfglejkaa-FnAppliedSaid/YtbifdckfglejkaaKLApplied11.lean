/- Part 11 of the proof of FnApplied: what it needs. -/
import Derived.Shelf.Spec.SlicesInsert
import Derived.Lib.AppendZerosOnto
import Derived.Laws.NewBlocks
import Derived.Test.YtbifdckfglejkaaKLApplied4
import Derived.Test.YtbifdckfglejkaaKLApplied5
import Derived.Test.YtbifdckfglejkaaKLApplied6
import Derived.Test.YtbifdckfglejkaaKLApplied9
import Derived.Test.YtbifdckfglejkaaKLApplied10
namespace Go.Proofs.Ytbifdckfglejkaa.X
open Go.RowKit Go.Lib Go.Proofs.YtbifdckfglejkaaW.PrintWords Go.Proofs.YtbifdckfglejkaaW.PrintLast Go.Proofs.YtbifdckfglejkaaW.PrintMore
set_option linter.unusedVariables false
set_option linter.unusedSimpArgs false
theorem NR.owns {w : World} {base g cap : Nat} {l : List NdI} (h : NR w base g cap l) : w.ownsRow base 90 2 (.slice (some ⟨g, 0, none⟩) l.length cap) l.length (ncells l) := by
 obtain ⟨ext, h1, h2⟩ := h.row
 refine ⟨ncells_len l, .inr ⟨g, cap, _, rfl, h.le, h1, h.fits, h.mx, h2, ?_⟩⟩
 show List.take (l.length * 2) (ncells l ++ ext) = ncells l
 rw [← ncells_len, List.take_left]
theorem NR.of_owns {w : World} {base : Nat} {v : Value} {l : List NdI} (h : w.ownsRow base 90 2 v l.length (ncells l)) (hl : 0 < l.length) : ∃ g cap, v = .slice (some ⟨g, 0, none⟩) l.length cap ∧ NR w base g cap l :=
 NR.of (ok := fun _ => True) ⟨fun _ _ => trivial, ncells l, h, ncells_reps l⟩ hl
theorem grown_setRow (w : World) (q g : Nat) (cs : Array Value) : w.grownBy ((w.drewN q).setRow g cs) (some g) :=
 ⟨rfl, rfl, rfl, by simp [World.setRow], fun k _ hk => by rw [setRow_other _ _ _ _ (fun e => hk (by rw [e]))]; rfl⟩
theorem NR.src {w : World} {base g cap : Nat} {l : List NdI} (h : NR w base g cap l) (i : Nat) : ∀ j u, (ncells (l.drop i))[j]? = some u → w.cell? ((⟨g, i * 2, none⟩ : Addr).add j) = some u := by
 intro j u hu
 obtain ⟨ext, h1, h2⟩ := h.row
 rw [← ncells_drop, List.getElem?_drop] at hu
 rw [Addr.add_lit, blk_cell h1, List.getElem?_toArray, List.getElem?_append_left (by have := (List.getElem?_eq_some_iff.1 hu).1; omega)]
 exact hu
theorem run_copyN (w : World) (ty : TypeId) (b o dLen dCap : Nat) (a : Addr) (sLen sCap n : Nat) (cs : List Value) (hn : n = Nat.min sLen dLen) (hl : cs.length = n * 2)
  (hsrc : ∀ j v, cs[j]? = some v → w.cell? (a.add j) = some v) (hc : ∀ j, j < cs.length → (w.cell? ⟨b, o + j, none⟩).isSome = true) (hf : ∀ j, j < cs.length → w.frozen? ⟨b, o + j, none⟩ = false) (h1 : ∀ v ∈ cs, v.oneCell' = true) :
  (Builtin.copy_ #[34, 34] ty #[.slice (some ⟨b, o, none⟩) dLen dCap, .slice (some a) sLen sCap]).run Try.prog w = .ok (goInt n) (w.setCells b o cs) := by
 obtain ⟨i0, h01, h02, h03⟩ := nodeInfo
 have hst := run_storeCells_cells (P := Try.prog) b o cs 0 w (by simpa using hc) (by simpa using hf) h1
 have hfc := run_firstCells_some (P := Try.prog) w 2 n a sLen sCap cs hl hsrc
 simp only [Nat.add_zero] at hst
 simp [Builtin.copy_, run_underlying Try.underlying34, Builtin.lenOf, sizeOf, typeInfo, h01, h03, ← hn, hfc, hst]
theorem nodeBytes : ∃ i0 : TypeInfo, Try.prog.info? 90 = some i0 ∧ i0.zero = some (.agg #[.int .i64 0, .int .i64 0]) ∧ i0.size = 2 ∧ i0.bytes = 16 := by
 have h := info90
 cases q : Try.prog.info? 90 with
 | none => rw [q] at h; cases h
 | some i0 =>
  rw [q] at h
  injection h with h
  injection h with h1 h2
  injection h2 with h2 h3
  exact ⟨i0, rfl, h1, h2, h3⟩
set_option maxHeartbeats 4000000 in
set_option maxRecDepth 100000 in
theorem Insert_end (w : World) (base g cap vb vc m n : Nat) (l vs : List NdI) (hR : NR w base g cap l) (hV : NR w base vb vc vs) (hl0 : 0 < l.length) (hm0 : 0 < m) (hm : m = vs.length) (hn : n = l.length) (hbig : n + m ≤ 1048576) :
  Calls Try.prog 107 #[.slice (some ⟨g, 0, none⟩) n cap, .int .i64 n, .slice (some ⟨vb, 0, none⟩) m vc] w fun e w' =>
   ∃ g' cap', e = .returned (.slice (some ⟨g', 0, none⟩) (n + m) cap') ∧ NR w' base g' cap' (l ++ vs) ∧ w.grownBy w' (some g) := by
 obtain ⟨i0, h01, h02, h03, h04⟩ := nodeBytes
 have hO := hR.owns
 have hlt := hR.lt
 have hle := hR.le
 have hs := hV.src 0
 have hvl := ncells_len vs
 rw [Nat.zero_mul, List.drop_zero] at hs
 rw [← hn] at hO
 rw [← hm] at hvl
 have HO := Aside0.mk hO
 have HS := Aside0.mk hs
 have HVL := Aside0.mk hvl
 have HI := Aside0.mk (And.intro h01 (And.intro h02 (And.intro h03 h04)))
 have HN := Aside0.mk hn
 have HM := Aside0.mk hm
 have hz1 : ¬ ((m : Int) = 0) := by omega
 have hbase : base ≤ w.heap.size := by omega
 have hmix : Try.prog.follows Departure.mixedOrders = true := by kernel_rfl
 have hmx : n + m ≤ maxLen := by unfold maxLen; omega
 have hnm : ncells l ++ ncells vs = ncells (l ++ vs) := (ncells_app l vs).symm
 have HNM := Aside0.mk hnm
 clear hR hV hO hs hvl h01 h02 h03 h04 hn hm hle hlt hnm
 go_enter Try.func107, Try.ntmps107
 go_wp2_with (at_builtin; refine wpList_append_own _ rfl _ _ 34 rfl base 90 i0 (.agg #[.int .i64 0, .int .i64 0]) 2 16 Try.underlying34 HI.out.1 HI.out.2.1 HI.out.2.2.1 HI.out.2.2.2 rfl (by omega) _ n (ncells l) rfl HO.out ⟨vb, 0, none⟩ m vc (ncells vs) rfl HVL.out HS.out (ncells_one vs) hmx (by omega) hbase ?_; intro v' w' h1 h2 _; have H1 := Aside0.mk h1; have H2 := Aside0.mk h2; clear h1 h2)
 all_goals
  go_ret
  obtain ⟨g', cap', e, hN⟩ := NR.of_owns (base := base) (v := v') (l := l ++ vs) (by rw [List.length_append, ← HN.out, ← HM.out, ← HNM.out]; exact H1.out) (by rw [List.length_append]; omega)
  rw [List.length_append, ← HN.out, ← HM.out] at e
  exact ⟨g', cap', congrArg Ending.returned e, hN, H2.out⟩
set_option maxHeartbeats 4000000 in
set_option maxRecDepth 100000 in
theorem Insert_shift (w : World) (base g cap vb vc i m n : Nat) (l vs : List NdI) (hR : NR w base g cap l) (hV : NR w base vb vc vs) (hvg : vb ≠ g) (hm0 : 0 < m) (hm : m = vs.length) (hn : n = l.length) (hi : i < n) (hmi : i + m ≤ n) (hroom : n + m ≤ cap) (hbig : n + m ≤ 1048576) (hcap : cap ≤ 9223372036854775807) :
  Calls Try.prog 107 #[.slice (some ⟨g, 0, none⟩) n cap, .int .i64 i, .slice (some ⟨vb, 0, none⟩) m vc] w fun e w' =>
   e = .returned (.slice (some ⟨g, 0, none⟩) (n + m) cap) ∧ NR w' base g cap (l.take i ++ vs ++ l.drop i) ∧ ∃ q cs, w' = (w.drewN q).setRow g cs := by
 have hz1 : ¬ ((m : Int) = 0) := by omega
 have hz2 : ¬ ((i : Int) = (n : Int)) := by omega
 have hD : NR w.drew base g cap l := hR.keep rfl
 have hdl : (l.drop i).length = n - i := by simp [hn]
 have hov : ∀ lb cb, (callFunc 132 #[.slice (some ⟨vb, 0, none⟩) m vc, .slice (some ⟨g, (i + m) * 2, none⟩) lb cb]).run Try.prog w = .ok (.value (.bool false)) w := fun lb cb => by
  obtain ⟨e1, h1, h2⟩ := hR.row
  obtain ⟨e2, h3, h4⟩ := hV.row
  have hsz : ∀ w, (Go.sizeOf 90).run Try.prog w = .ok 2 w := by
   intro w
   obtain ⟨i0, h01, h02, h03⟩ := nodeInfo
   simp [Go.sizeOf, typeInfo, h01, h03]
  rw [run_callFunc_extern Try.func132 (by kernel_rfl) (by kernel_rfl) (by kernel_rfl) (e := Extern.SlicesOverlaps.overlaps #[34, 34] #[4]) (by kernel_rfl),
   Lib.run_overlaps_apart w 34 4 90 Try.underlying34 2 hsz ⟨vb, 0, none⟩ ⟨g, (i + m) * 2, none⟩ m vc lb cb hvg 90 90 (vc * 2) (cap * 2) (by simp only [World.shape?, h3, List.size_toArray, h4]) (by simp only [World.shape?, h1, List.size_toArray, h2]) (by omega) (blk_frozen h3 _) (blk_frozen h3 _)]
  rfl
 have hw1 : IntKind.i64.wrap ((i : Int) + (m : Int)) = (i : Int) + (m : Int) := by rw [IntKind.wrap_i64]; omega
 have hb1 : (0 : Int) ≤ (i : Int) + (m : Int) := by omega
 have hin : i ≤ n := by omega
 have htn : ((i : Int) + (m : Int)).toNat = i + m := by omega
 have hb2 : ¬ (cap = i + m) := by omega
 have hb3 : (i : Int) ≤ (n : Int) + (m : Int) := by omega
 have hb4 : ¬ (cap = i) := by omega
 obtain ⟨ext, hr1, hr2⟩ := hD.row
 obtain ⟨ext2, hr3, hr4⟩ := hV.row
 have hcl := ncells_len l
 have hvl := ncells_len vs
 have cellAt : ∀ (W : World), (W.heap[g]? = w.heap[g]?) → ∀ k, k < cap * 2 → (W.cell? ⟨g, k, none⟩).isSome = true ∧ W.frozen? ⟨g, k, none⟩ = false := by
  intro W hW k hk
  have h := hW.trans hr1
  refine ⟨?_, blk_frozen h _⟩
  rw [blk_cell h, List.getElem?_toArray, List.getElem?_eq_getElem (by omega)]
  rfl
 have hcp1 : ∀ ty dc sc, (Builtin.copy_ #[34, 34] ty #[.slice (some ⟨g, (i + m) * 2, none⟩) (n + m - (i + m)) dc, .slice (some ⟨g, i * 2, none⟩) (n + m - i) sc]).run Try.prog w.drew = .ok (goInt (n - i : Nat)) (w.drew.setCells g ((i + m) * 2) (ncells (l.drop i))) := fun ty dc sc =>
  run_copyN w.drew ty g ((i + m) * 2) (n + m - (i + m)) dc ⟨g, i * 2, none⟩ (n + m - i) sc (n - i) (ncells (l.drop i)) (by simp only [Nat.min_def]; split <;> omega) (by rw [ncells_len, hdl]) (hD.src i)
   (fun j hj => by rw [ncells_len, hdl] at hj; exact (cellAt w.drew rfl _ (by omega)).1) (fun j hj => by rw [ncells_len, hdl] at hj; exact (cellAt w.drew rfl _ (by omega)).2) (ncells_one _)
 obtain ⟨cs1, hc1, hN1⟩ := hD.put (i + m) (l.drop i) (by rw [hdl]; omega) (by omega)
 obtain ⟨W1, hW1⟩ : ∃ W1, W1 = w.drew.setCells g ((i + m) * 2) (ncells (l.drop i)) := ⟨_, rfl⟩
 have hW1' : W1 = w.drew.setRow g cs1 := hW1.trans hc1
 rw [← hW1'] at hN1
 have e1 : l.drop (i + m + (l.drop i).length) = [] := List.drop_eq_nil_of_le (by rw [hdl]; omega)
 rw [e1, List.append_nil] at hN1
 have hL1 : (l.take (i + m) ++ l.drop i).length = n + m := by rw [List.length_append, List.length_take, hdl, ← hn]; omega
 obtain ⟨cs2, hc2, hN2⟩ := hN1.put i vs (by omega) (by omega)
 have e2 : (l.take (i + m) ++ l.drop i).take i ++ vs ++ (l.take (i + m) ++ l.drop i).drop (i + vs.length) = l.take i ++ vs ++ l.drop i := by
  rw [List.take_append_of_le_length (by rw [List.length_take]; omega), List.take_take, show min i (i + m) = i by omega, ← hm]
  rw [show l.take (i + m) ++ l.drop i = l.take (i + m) ++ l.drop i from rfl, List.drop_append, List.length_take, show i + m - min (i + m) l.length = 0 by omega, List.drop_zero, List.drop_eq_nil_of_le (by rw [List.length_take]; omega), List.nil_append]
 rw [e2] at hN2
 have hVs : ∀ (W : World), W.heap = W1.heap → ∀ j v, (ncells vs)[j]? = some v → W.cell? ((⟨vb, 0, none⟩ : Addr).add j) = some v := by
  intro W hW j v hj
  have h := hV.src 0 j v (by rw [List.drop_zero]; exact hj)
  have h5 : W.heap[vb]? = w.heap[vb]? := by rw [hW, hW1', setRow_other _ _ _ _ hvg]; rfl
  rw [Nat.zero_mul, Addr.add_lit] at h
  rw [Addr.add_lit]
  exact (World.cell?_of_block (a := ⟨vb, 0 + j, none⟩) h5).trans h
 have hcp2 : ∀ (W : World), W.heap = W1.heap → ∀ ty dc, (Builtin.copy_ #[34, 34] ty #[.slice (some ⟨g, i * 2, none⟩) (n + m - i) dc, .slice (some ⟨vb, 0, none⟩) m vc]).run Try.prog W = .ok (goInt m) (W.setCells g (i * 2) (ncells vs)) := by
  intro W hW ty dc
  obtain ⟨ext', h5, h6⟩ := hN1.row
  have h7 := (show W.heap[g]? = W1.heap[g]? by rw [hW]).trans h5
  have hq : ∀ k, k < cap * 2 → (W.cell? ⟨g, k, none⟩).isSome = true ∧ W.frozen? ⟨g, k, none⟩ = false := by
   intro k hk
   refine ⟨?_, blk_frozen h7 _⟩
   rw [blk_cell h7, List.getElem?_toArray, List.getElem?_eq_getElem (by omega)]
   rfl
  exact run_copyN W ty g (i * 2) (n + m - i) dc ⟨vb, 0, none⟩ m vc m (ncells vs) (by simp only [Nat.min_def]; split <;> omega) (by omega) (hVs W hW)
   (fun j hj => (hq _ (by omega)).1) (fun j hj => (hq _ (by omega)).2) (ncells_one _)
 have hmix : Try.prog.follows Departure.mixedOrders = true := by kernel_rfl
 rw [← hW1] at hcp1
 have HN2 := Aside0.mk hN2
 have HW := Aside0.mk hW1'
 have HC2 := Aside0.mk hc2
 clear hR hV hD hr1 hr2 hr3 hr4 hcl hvl cellAt hVs hN1 hc1 hW1 hW1' e1 hL1 e2 hN2 hdl hn hm hc2
 go_enter Try.func107, Try.ntmps107
 go_wp2_with (simp only [hov])
 go_region_law_o (refine Go.Proofs.step_copy_runI rfl _ _ 34 34 rfl _ _ (by simp [Act.eval, Act.put]) (by simp [Act.eval, Act.put]) (hcp1 _ _ _) ?_)
 go_wp2_with (at_builtin; refine Go.Proofs.wpList_copy_runI _ rfl _ _ 34 34 rfl _ _ rfl rfl (hcp2 _ rfl _ _) ?_)
 go_ret
 refine ⟨rfl, ?_, 1, cs2, ?_⟩
 ·rw [HC2.out]; exact HN2.out
 ·rw [HC2.out, HW.out, setRow_setRow]; rfl
set_option maxHeartbeats 4000000 in
set_option maxRecDepth 100000 in
theorem Insert_grow (w : World) (base g cap vb vc i m n : Nat) (l vs : List NdI) (hR : NR w base g cap l) (hV : NR w base vb vc vs) (hm0 : 0 < m) (hm : m = vs.length) (hn : n = l.length) (hi : i < n) (hmi : i + m ≤ n) (hroom : cap < n + m) (hbig : n + m ≤ 1048576) :
  Calls Try.prog 107 #[.slice (some ⟨g, 0, none⟩) n cap, .int .i64 i, .slice (some ⟨vb, 0, none⟩) m vc] w fun e w' =>
   ∃ g' cap', e = .returned (.slice (some ⟨g', 0, none⟩) (n + m) cap') ∧ NR w' base g' cap' (l.take i ++ vs ++ l.drop i) ∧ w.grownBy w' (some g) := by
 obtain ⟨i0, h01, h02, h03, h04⟩ := nodeBytes
 have hz1 : ¬ ((m : Int) = 0) := by omega
 have hz2 : ¬ ((i : Int) = (n : Int)) := by omega
 have hz3 : (cap : Int) < (n : Int) + (m : Int) := by omega
 have hfit := hR.fits
 have hgw := hR.lt
 have hvw := hV.lt
 have hle := hR.le
 have hdl : (l.drop i).length = n - i := by simp [hn]
 have hcl := ncells_len l
 have hvl := ncells_len vs
 have hkk : (n : Int) + (m : Int) - (i : Int) = ((n + m - i : Nat) : Int) := by omega
 have hik : i + (n + m - i) = n + m := by omega
 have hold : (Builtin.firstCells i0.size i (.slice (some ⟨g, 0, none⟩) i cap)).run Try.prog w.drew = .ok (ncells (l.take i)).toArray w.drew := by
  rw [h03]
  refine run_firstCells_some w.drew 2 i ⟨g, 0, none⟩ i cap (ncells (l.take i)) (by rw [ncells_len, List.length_take]; omega) (fun j v hj => ?_)
  have := hR.src 0 j v (by
   rw [List.drop_zero]
   rw [← ncells_take, List.getElem?_take] at hj
   split at hj
   ·exact hj
   ·cases hj)
  rw [Nat.zero_mul] at this
  exact this
 obtain ⟨G, hG⟩ : ∃ G, G = grownCap w (n + m) cap 90 := ⟨_, rfl⟩
 have hGn : n + m ≤ G := by rw [hG]; exact grownCap_ge w _ _ _
 have hGm : G ≤ maxLen := by rw [hG]; exact grownCap_le_maxLen w (n + m) cap _ (by unfold maxLen; omega)
 have hG63 : G ≤ 9223372036854775807 := by unfold maxLen at hGm; omega
 obtain ⟨W1, hW1⟩ : ∃ W1, W1 = w.drew.alloc (.cells ((ncells (l.take i)).toArray ++ Builtin.zeroCells (Value.agg #[.int .i64 0, .int .i64 0]).cells (n + m - i) ++ Builtin.zeroCells (Value.agg #[.int .i64 0, .int .i64 0]).cells (G - (n + m))) 90) := ⟨_, rfl⟩
 have hrz : ∀ ty, (Builtin.append_ #[34, 3] ty #[.slice (some ⟨g, 0, none⟩) i cap, .int .i64 ((n : Int) + (m : Int) - (i : Int))]).run Try.prog w = .ok (.slice (some ⟨w.heap.size, 0, none⟩) (n + m) G) W1 := fun ty => by
  have h := Lib.run_append_grow_zeros w 34 3 ty 90 i0 _ .i64 .i64 Try.underlying34 Try.underlying3 h01 h02 (some ⟨g, 0, none⟩) i cap (ncells (l.take i)) hold (n + m - i) (by omega) (by omega) (by omega) (by omega) (by rw [h04]; omega) (by rw [h04, hik]; exact growslice_fits hroom (by omega))
  rw [hik, ← hG, ← hW1] at h
  rw [hkk]
  exact h
 have hh : W1.heap[w.heap.size]? = some (.cells (ncells (l.take i ++ List.replicate (n + m - i) ⟨0, 0⟩) ++ ncells (List.replicate (G - (n + m)) ⟨0, 0⟩)).toArray 90 (0, 0)) := by
  rw [hW1]
  refine (heap_alloc_new w.drew _).trans ?_
  rw [ncells_app, ← zeros_n, ← zeros_n]
  congr 2
  apply Array.ext'
  simp
 have hold1 : ∀ k, k < w.heap.size → W1.heap[k]? = w.heap[k]? := fun k hk => by rw [hW1]; exact heap_alloc_old w.drew _ hk
 have hN0 : NR W1 base w.heap.size G (l.take i ++ List.replicate (n + m - i) ⟨0, 0⟩) := by
  refine ⟨by omega, by simp only [List.length_append, List.length_take, List.length_replicate]; omega, hGm, _, hh, ?_⟩
  simp only [List.length_append, ncells_len, List.length_take, List.length_replicate]
  omega
 obtain ⟨cs1, hc1, hN1⟩ := hN0.put i vs (by omega) (by simp only [List.length_append, List.length_take, List.length_replicate]; omega)
 obtain ⟨W2, hW2⟩ : ∃ W2, W2 = W1.setCells w.heap.size (i * 2) (ncells vs) := ⟨_, rfl⟩
 have hW2' : W2 = W1.setRow w.heap.size cs1 := hW2.trans hc1
 rw [← hW2'] at hN1
 have e1 : (l.take i ++ List.replicate (n + m - i) ⟨0, 0⟩ : List NdI).take i ++ vs ++ (l.take i ++ List.replicate (n + m - i) ⟨0, 0⟩ : List NdI).drop (i + vs.length) = l.take i ++ vs ++ List.replicate (n - i) ⟨0, 0⟩ := by
  have h : (l.take i).length = i := by rw [List.length_take]; omega
  rw [List.take_append_of_le_length (by omega), List.take_take, Nat.min_self, List.drop_append, h, List.drop_eq_nil_of_le (by omega), List.nil_append, List.drop_replicate, ← hm, show n + m - i - (i + m - i) = n - i by omega]
 rw [e1] at hN1
 obtain ⟨cs2, hc2, hN2⟩ := hN1.put (i + m) (l.drop i) (by rw [hdl]; omega) (by simp only [List.length_append, List.length_take, List.length_replicate]; omega)
 have e2 : (l.take i ++ vs ++ List.replicate (n - i) ⟨0, 0⟩ : List NdI).take (i + m) ++ l.drop i ++ (l.take i ++ vs ++ List.replicate (n - i) ⟨0, 0⟩ : List NdI).drop (i + m + (l.drop i).length) = l.take i ++ vs ++ l.drop i := by
  have h : (l.take i ++ vs).length = i + m := by rw [List.length_append, List.length_take]; omega
  have h2 : (l.take i ++ vs ++ List.replicate (n - i) ⟨0, 0⟩ : List NdI).drop (i + m + (l.drop i).length) = [] := List.drop_eq_nil_of_le (by rw [List.length_append, h, List.length_replicate, hdl]; omega)
  rw [h2, List.append_nil, ← h, List.take_left]
 rw [e2] at hN2
 have cellAt : ∀ (W : World) (L : List NdI), NR W base w.heap.size G L → ∀ k, k < G * 2 → (W.cell? ⟨w.heap.size, k, none⟩).isSome = true ∧ W.frozen? ⟨w.heap.size, k, none⟩ = false := by
  intro W L hW k hk
  obtain ⟨ext, h1, h2⟩ := hW.row
  refine ⟨?_, blk_frozen h1 _⟩
  rw [blk_cell h1, List.getElem?_toArray, List.getElem?_eq_getElem (by omega)]
  rfl
 have hcpA : ∀ (W : World), W.heap = W1.heap → ∀ ty dc, (Builtin.copy_ #[34, 34] ty #[.slice (some ⟨w.heap.size, i * 2, none⟩) (n + m - i) dc, .slice (some ⟨vb, 0, none⟩) m vc]).run Try.prog W = .ok (goInt m) (W.setCells w.heap.size (i * 2) (ncells vs)) := by
  intro W hW ty dc
  have hNW : NR W base w.heap.size G _ := hN0.keep (by rw [hW])
  have hVW : NR W base vb vc vs := hV.keep (by rw [hW]; exact hold1 vb hvw)
  refine run_copyN W ty w.heap.size (i * 2) (n + m - i) dc ⟨vb, 0, none⟩ m vc m (ncells vs) (by simp only [Nat.min_def]; split <;> omega) (by omega) (fun j v hj => ?_)
   (fun j hj => (cellAt W _ hNW _ (by omega)).1) (fun j hj => (cellAt W _ hNW _ (by omega)).2) (ncells_one _)
  have := hVW.src 0 j v (by rw [List.drop_zero]; exact hj)
  rw [Nat.zero_mul] at this
  exact this
 have hcpB : ∀ (W : World), W.heap = W2.heap → ∀ ty dc sc, (Builtin.copy_ #[34, 34] ty #[.slice (some ⟨w.heap.size, (i + m) * 2, none⟩) (n + m - (i + m)) dc, .slice (some ⟨g, i * 2, none⟩) (n - i) sc]).run Try.prog W = .ok (goInt (n - i : Nat)) (W.setCells w.heap.size ((i + m) * 2) (ncells (l.drop i))) := by
  intro W hW ty dc sc
  have hNW : NR W base w.heap.size G _ := hN1.keep (by rw [hW])
  have hRW : NR W base g cap l := hR.keep (by rw [hW, hW2', setRow_other _ _ _ _ (by omega)]; exact hold1 g hgw)
  exact run_copyN W ty w.heap.size ((i + m) * 2) (n + m - (i + m)) dc ⟨g, i * 2, none⟩ (n - i) sc (n - i) (ncells (l.drop i)) (by simp only [Nat.min_def]; split <;> omega) (by rw [ncells_len, hdl]) (hRW.src i)
   (fun j hj => by rw [ncells_len, hdl] at hj; exact (cellAt W _ hNW _ (by omega)).1) (fun j hj => by rw [ncells_len, hdl] at hj; exact (cellAt W _ hNW _ (by omega)).2) (ncells_one _)
 have hw1 : IntKind.i64.wrap ((i : Int) + (m : Int)) = (i : Int) + (m : Int) := by rw [IntKind.wrap_i64]; omega
 have hb1 : (0 : Int) ≤ (i : Int) + (m : Int) := by omega
 have hin : i ≤ n := by omega
 have htn : ((i : Int) + (m : Int)).toNat = i + m := by omega
 have hb3 : (i : Int) ≤ (n : Int) := by omega
 have hGi : ¬ (G = i) := by omega
 have hGim : ¬ (G = i + m) := by omega
 have hci : ¬ (cap = i) := by omega
 have hnc : n ≤ cap := by omega
 have hic : i ≤ cap := by omega
 have hgr : w.grownBy ((W2.drewN 1).setRow w.heap.size cs2) (some g) := by
  refine ⟨by rw [hW2', hW1]; rfl, by rw [hW2', hW1]; rfl, by rw [hW2', hW1]; rfl, by rw [setRow_size]; show w.heap.size ≤ W2.heap.size; rw [hW2', setRow_size, hW1]; show w.heap.size ≤ (Array.push _ _).size; rw [Array.size_push]; exact Nat.le_succ _, fun k hk _ => ?_⟩
  rw [setRow_other _ _ _ _ (by omega)]
  show W2.heap[k]? = _
  rw [hW2', setRow_other _ _ _ _ (by omega)]
  exact hold1 k hk
 have hmix : Try.prog.follows Departure.mixedOrders = true := by kernel_rfl
 have HGR := Aside0.mk hgr
 have HN2 := Aside0.mk hN2
 have HC2 := Aside0.mk hc2
 have hE2 : W1.setCells w.heap.size (i * 2) (ncells vs) = W2 := hW2.symm
 clear hW1
 clear hgr hN2 hc2 hkk hik hold hG hh hold1 hN0 hc1 hN1 hW2 hW2' e1 e2 cellAt hR hV hfit hgw hvw hle hdl hcl hvl h01 h02 h03 h04 hGm hn hm
 go_enter Try.func107, Try.ntmps107
 go_wp2_with (first
  | (at_builtin; refine Lib.wpList_append_run _ rfl _ _ _ _ rfl _ _ rfl rfl _ _ (hrz _) ?_)
  | (at_builtin; refine Go.Proofs.wpList_copy_runI _ rfl _ _ 34 34 rfl _ _ rfl rfl (hcpA _ rfl _ _) ?_; rw [hE2]))
 go_region_law_o (refine Go.Proofs.step_copy_runI rfl _ _ 34 34 rfl (.slice (some ⟨w.heap.size, (i + m) * 2, none⟩) (n + m - (i + m)) (G - (i + m))) (.slice (some ⟨g, i * 2, none⟩) (n - i) (cap - i)) (by simp [Act.eval, Act.put]) (by simp [Act.eval, Act.put]) (hcpB W2.drew rfl 3 (G - (i + m)) (cap - i)) ?_)
 go_wp2
 go_ret
 refine ⟨_, _, rfl, ?_, ?_⟩
 ·rw [← Go.Proofs.drew_setCells, HC2.out]
  exact HN2.out.keep rfl
 ·rw [← Go.Proofs.drew_setCells, HC2.out]
  exact HGR.out
theorem Insert_calls (w : World) (base g cap vb vc i : Nat) (l : List NdI) (x : NdI) (hR : NR w base g cap l) (hV : NR w base vb vc [x]) (hvg : vb ≠ g) (hi : i ≤ l.length) (hl : 0 < l.length) (hbig : l.length + 1 ≤ 1048576) :
  Calls Try.prog 107 #[.slice (some ⟨g, 0, none⟩) l.length cap, .int .i64 i, .slice (some ⟨vb, 0, none⟩) 1 vc] w fun e w' =>
   ∃ g' cap', e = .returned (.slice (some ⟨g', 0, none⟩) (l.length + 1) cap') ∧ NR w' base g' cap' (l.take i ++ [x] ++ l.drop i) ∧ w.grownBy w' (some g) := by
 by_cases c : i = l.length
 ·have h := Insert_end w base g cap vb vc 1 l.length l [x] hR hV hl (by omega) rfl rfl hbig
  rw [← c] at h ⊢
  refine h.mono ?_
  rintro e w' ⟨g', cap', h1, h2, h3⟩
  refine ⟨g', cap', h1, ?_, h3⟩
  rw [c, List.take_length, List.drop_length, List.append_nil]
  exact h2
 ·by_cases c2 : l.length + 1 ≤ cap
  ·refine (Insert_shift w base g cap vb vc i 1 l.length l [x] hR hV hvg (by omega) rfl rfl (by omega) (by omega) c2 hbig (by have := hR.mx; unfold maxLen at this; omega)).mono ?_
   rintro e w' ⟨h1, h2, q, cs, h3⟩
   exact ⟨g, cap, h1, h2, by rw [h3]; exact grown_setRow w q g cs⟩
  ·exact Insert_grow w base g cap vb vc i 1 l.length l [x] hR hV (by omega) rfl rfl (by omega) (by omega) (by omega) hbig
end Go.Proofs.Ytbifdckfglejkaa.X
namespace Go.Proofs.Ytbifdckfglejkaa.X
open Go.RowKit Go.Proofs.YtbifdckfglejkaaW.PrintWords Go.Proofs.YtbifdckfglejkaaW.PrintLast Go.Proofs.YtbifdckfglejkaaW.PrintMore
set_option linter.unusedVariables false
set_option linter.unusedSimpArgs false
def shiftL (h : NdI → NdI) (a b : Nat) (l : List NdI) : List NdI := l.mapIdx fun j x => if a ≤ j ∧ j < b then h x else x
theorem shiftL_len (h : NdI → NdI) (a b : Nat) (l : List NdI) : (shiftL h a b l).length = l.length := List.length_mapIdx
theorem shiftL_get (h : NdI → NdI) (a b : Nat) (l : List NdI) (j : Nat) : (shiftL h a b l)[j]? = (l[j]?).map fun x => if a ≤ j ∧ j < b then h x else x := by
 rw [shiftL, List.getElem?_mapIdx]
theorem shiftL_none (h : NdI → NdI) (a : Nat) (l : List NdI) : shiftL h a a l = l := by
 apply List.ext_getElem?
 intro j
 rw [shiftL_get]
 cases l[j]? with
 | none => rfl
 | some x => show some (if a ≤ j ∧ j < a then h x else x) = some x; rw [if_neg (by omega)]
theorem shiftL_step (h : NdI → NdI) (a b : Nat) (l : List NdI) (x : NdI) (hab : a ≤ b) (hx : l[b]? = some x) : (shiftL h a b l).set b (h x) = shiftL h a (b + 1) l := by
 apply List.ext_getElem?
 intro j
 have hb := (List.getElem?_eq_some_iff.1 hx).1
 rw [shiftL_get, List.getElem?_set, shiftL_len]
 by_cases c : b = j
 ·subst c
  rw [if_pos rfl, if_pos hb, hx]
  show some (h x) = some (if a ≤ b ∧ b < b + 1 then h x else x)
  rw [if_pos (by omega)]
 ·rw [if_neg c, shiftL_get]
  congr 1
  funext y
  by_cases c2 : a ≤ j ∧ j < b
  ·rw [if_pos c2, if_pos (by omega)]
  ·rw [if_neg c2, if_neg (by omega)]
def lessDeep (x : NdI) : NdI := { x with f1 := wrap64 (x.f1 - 1) }
def moreDeep (x : NdI) : NdI := { x with f1 := wrap64 (x.f1 + 1) }
def impl_ApplyOp.f (k : Nat) (l0 : List NdI) (a0 : Int) (l1 : List Int) (a2 a3 a4 : Int) : Option (List NdI × Int) :=
 (impl_TreeOk.f k l0).bind fun t => if t = true then (if l0.length < 1048576 then ((impl_NodeAt.f k l0 l1).bind fun i => ((impl_opCode.f k l0 a0 l1 a2 a3 a4 i).bind fun c =>
  if c.1 = 0 then (if 0 ≤ i then (if i < (l0.length : Int) then
   (if a0 = 1 then some (l0.set i.toNat { rd_T90 l0 i with f0 := a2 }, 0)
   else if a0 = 2 then ((impl_endOf.f k l0 i).bind fun e => if i < e then (if e ≤ (l0.length : Int) then some ((shiftL lessDeep (i.toNat + 1) e.toNat l0).take i.toNat ++ (shiftL lessDeep (i.toNat + 1) e.toNat l0).drop (i.toNat + 1), 0) else none) else none)
   else if 0 ≤ c.2.1 then (if c.2.1 ≤ c.2.2 then (if c.2.2 ≤ (l0.length : Int) then
    some ((shiftL moreDeep c.2.1.toNat c.2.2.toNat l0).take c.2.1.toNat ++ [⟨a2, wrap64 ((rd_T90 l0 i).f1 + 1)⟩] ++ (shiftL moreDeep c.2.1.toNat c.2.2.toNat l0).drop c.2.1.toNat, 0) else none) else none) else none)
   else none) else none)
  else some (l0, c.1))) else none) else some ([], 2)
theorem NR.deep {w : World} {base g cap : Nat} {l : List NdI} {a b : Nat} (h : NdI → NdI) (v : NdI → Int) (hh : ∀ x, h x = { x with f1 := v x }) (hR : NR w base g cap (shiftL h a b l)) (hab : a ≤ b) {x : NdI} (hx : l[b]? = some x) :
  NR (w.setCell ⟨g, b * 2 + 1, none⟩ (.int .i64 (v x))) base g cap (shiftL h a (b + 1) l) := by
 have hb := (List.getElem?_eq_some_iff.1 hx).1
 have hx2 : (shiftL h a b l)[b]? = some x := by
  rw [shiftL_get, hx]
  show some (if a ≤ b ∧ b < b then h x else x) = some x
  rw [if_neg (by omega)]
 refine hR.set (by rw [shiftL_len]; omega) ?_
 rw [ncells_set1 _ _ _ _ hx2, ← hh x, shiftL_step h a b l x hab hx]
theorem box5 {W w1 : World} {c0 c1 c2 c3 c4 : Value} {ty : TypeId} (hb : Below (W.alloc (Obj.cells #[c0, c1, c2, c3, c4] ty)).heap.size (W.alloc (Obj.cells #[c0, c1, c2, c3, c4] ty)) w1) : w1.heap[W.heap.size]? = some (.cells #[c0, c1, c2, c3, c4] ty (0, 0)) :=
 (hb.block W.heap.size (by simp)).trans (heap_alloc_new W _)
set_option maxHeartbeats 4000000 in
set_option maxRecDepth 100000 in
theorem impl_ApplyOp.calls (k : Nat) (A0 : Option Addr) (c0 : Nat) (l0 : List NdI) (a0 : Int) (A1 : Option Addr) (c1 : Nat) (l1 : List Int) (a2 a3 a4 : Int) (r1 : List NdI) (r2 : Int) (w : World) (hr0 : Kd.C k90 w A0 l0.length l0) (hc0 : l0.length ≤ c0) (hr1 : Kd.C (Kd.int .i64) w A1 l1.length l1) (hc1 : l1.length ≤ c1) (h : impl_ApplyOp.f k l0 a0 l1 a2 a3 a4 = some (r1, r2)) :
  Calls Try.prog 46 #[.slice A0 l0.length c0, .agg #[.int .i64 a0, .slice A1 l1.length c1, .int .i64 a2, .int .i64 a3, .int .i64 a4]] w fun e w' => ∃ v0_ : Value, e = .returned (.tuple #[v0_, .int .i64 r2]) ∧ Kd.R k90 90 w' w.heap.size (fun _ => True) v0_ r1 ∧ Below w.heap.size w w' := by
 have HTr : Aside0 (∀ (t : Bool) W, impl_TreeOk.f k l0 = some t → Below w.heap.size w W → Calls Try.prog 102 #[.slice A0 l0.length c0] W fun e w' => e = .returned (.bool t) ∧ Below W.heap.size W w') :=
  ⟨fun t W ht hb => impl_TreeOk.calls k A0 c0 l0 t W (Kd.C_below hr0 hb) hc0 ht⟩
 have HCl0 : Aside0 (l0.length < 1048576 → ∀ W, Below w.heap.size w W → Calls Try.prog 103 #[.slice A0 l0.length c0] W fun e w' => ∃ v0_ : Value, e = .returned v0_ ∧ Kd.R k90 90 w' W.heap.size (fun _ => True) v0_ l0 ∧ Below W.heap.size W w') :=
  ⟨fun hl W hb => clone_Node.calls A0 c0 l0 l0 W (Kd.C_below hr0 hb) hc0 (by rw [clone_Node.f, if_pos (by omega)])⟩
 have HNA0 : Aside0 (∀ (t : Int) W, impl_NodeAt.f k l0 l1 = some t → Below w.heap.size w W → Calls Try.prog 78 #[.slice A0 l0.length c0, .slice A1 l1.length c1] W fun e w' => e = .returned (.int .i64 t) ∧ Below W.heap.size W w') :=
  ⟨fun t W ht hb => impl_NodeAt.calls k A0 c0 l0 A1 c1 l1 t W (Kd.C_below hr0 hb) hc0 (Kd.C_below hr1 hb) hc1 ht⟩
 have HOC0 : Aside0 (∀ (i : Int) (c : Int × Int × Int) W, impl_opCode.f k l0 a0 l1 a2 a3 a4 i = some c → Below w.heap.size w W → Calls Try.prog 104 #[.slice A0 l0.length c0, .agg #[.int .i64 a0, .slice A1 l1.length c1, .int .i64 a2, .int .i64 a3, .int .i64 a4], .int .i64 i] W fun e w' => e = .returned (.tuple #[.int .i64 c.1, .int .i64 c.2.1, .int .i64 c.2.2]) ∧ Below W.heap.size W w') :=
  ⟨fun i c W ht hb => impl_opCode.calls k A0 c0 l0 a0 A1 c1 l1 a2 a3 a4 i c.1 c.2.1 c.2.2 W (Kd.C_below hr0 hb) hc0 (Kd.C_below hr1 hb) hc1 ht⟩
 have HEN0 : Aside0 (∀ (i t : Int) W, impl_endOf.f k l0 i = some t → Below w.heap.size w W → Calls Try.prog 105 #[.slice A0 l0.length c0, .int .i64 i] W fun e w' => e = .returned (.int .i64 t) ∧ Drawn0 W w') :=
  ⟨fun i t W ht hb => impl_endOf.calls k A0 c0 l0 i t W (Kd.C_below hr0 hb) hc0 ht⟩
 have HR0 := Aside0.mk hr0
 have HR1 := Aside0.mk hr1
 have hm0 := hr0.2.1
 have hm1 := hr1.2.1
 clear hr0 hc0 hr1 hc1
 have hmix : Try.prog.follows Departure.mixedOrders = true := by kernel_rfl
 have hun := Try.underlying90
 have huo := Try.underlying67
 unfold impl_ApplyOp.f at h
 obtain ⟨t, ht, h⟩ := Option.bind_eq_some_iff.mp h
 have HT := Aside0.mk ht
 clear ht
 cases t with
 | false =>
  rw [if_neg (by decide)] at h
  obtain ⟨rfl, rfl⟩ := Prod.mk.inj (Option.some.inj h)
  clear h
  go_enter Try.func46, Try.ntmps46
  go_wp2_with (first | (go_at_call 102; refine (HTr.out false _ HT.out ((Below.refl _ _).alloc (Nat.le_refl _) _)).mono ?_; rintro e w4 ⟨rfl, hb⟩; have HB := Aside0.mk (((Below.refl w.heap.size w).alloc (Nat.le_refl _) _).trans (hb.mono (by simp))); clear hb) | ((with_reducible refine gate_dst (N := 16) rfl ?_); refine Kd.R_lit k90 _ 90 ?hg (N := 16) ?hd (xs := ([] : List NdI)) (inner := []) (ok := fun _ => True) (okp := fun _ => True) ?hr ?hp (fun _ hk => hk) trivial (Below.refl _ _) (Nat.le_refl _) (by simp) ?_; (case hd => rfl); (case hg => rfl); (case hr => first | (go_simp; done) | (go_simp; rfl)); (case hp => exact (Reps.none _ _)); intro v7 w5 ho4 hb hg_ hnew_; clear hg_ hnew_; have HO := Aside0.mk (Kd.R_lower ho4 (below_size HB.out)); have HB2 := Aside0.mk (below_step HB.out hb); clear hb ho4))
  go_ret2
  exact ⟨_, rfl, HO.out, HB2.out⟩
 | true =>
  rw [if_pos rfl] at h
  by_cases hl : l0.length < 1048576
  case neg => rw [if_neg hl] at h; cases h
  rw [if_pos hl] at h
  have HCl : Aside0 (∀ W, Below w.heap.size w W → Calls Try.prog 103 #[.slice A0 l0.length c0] W fun e w' => ∃ v0_ : Value, e = .returned v0_ ∧ Kd.R k90 90 w' W.heap.size (fun _ => True) v0_ l0 ∧ Below W.heap.size W w') := ⟨HCl0.out hl⟩
  obtain ⟨i, hi, h⟩ := Option.bind_eq_some_iff.mp h
  obtain ⟨⟨q1, q2, q3⟩, hq, h⟩ := Option.bind_eq_some_iff.mp h
  have HNA : Aside0 (∀ W, Below w.heap.size w W → Calls Try.prog 78 #[.slice A0 l0.length c0, .slice A1 l1.length c1] W fun e w' => e = .returned (.int .i64 i) ∧ Below W.heap.size W w') := ⟨fun W hb => HNA0.out i W hi hb⟩
  have HOC : Aside0 (∀ W, Below w.heap.size w W → Calls Try.prog 104 #[.slice A0 l0.length c0, .agg #[.int .i64 a0, .slice A1 l1.length c1, .int .i64 a2, .int .i64 a3, .int .i64 a4], .int .i64 i] W fun e w' => e = .returned (.tuple #[.int .i64 q1, .int .i64 q2, .int .i64 q3]) ∧ Below W.heap.size W w') := ⟨fun W hb => HOC0.out i _ W hq hb⟩
  have HH := Aside0.mk h
  clear h hi hq
  go_enter Try.func46, Try.ntmps46
  go_upto_region 3 with (first | (go_at_call 102; refine (HTr.out true _ HT.out ((Below.refl _ _).alloc (Nat.le_refl _) _)).mono ?_; rintro e w4 ⟨rfl, hb⟩; have HBX := Aside0.mk (box5 hb); have HB := Aside0.mk (((Below.refl w.heap.size w).alloc (Nat.le_refl _) _).trans (hb.mono (by simp))); clear hb))
  have hz1 : w4.drew.cell? ⟨w.heap.size, 1, none⟩ = some (.slice A1 l1.length c1) := (blk_cell HBX.out 1).trans rfl
  refine start_ (n := 8) (S := fun w' => w'.cell? ⟨w.heap.size, 1, none⟩ = some (.slice A1 l1.length c1)) (ds := []) (ba_ 8 0) (by kernel_rfl) rfl rfl hz1 (fun hHeld => ?_)
  refine pu_ 0 (some 17) (ba_ 8 1) rfl rfl (by kernel_rfl) ?_
  refine pu_ 2 (some 19) (ba_ 8 5) rfl rfl (by kernel_rfl) ?_
  refine pu_ 3 (some 20) (ba_ 8 13) rfl rfl (by kernel_rfl) ?_
  refine ta_ 4 (some 21) (ba_ 8 29) rfl rfl (by kernel_rfl) hHeld (by rintro w' s0; go_simp; with_reducible rfl) ?_
  refine one_ (i := 1) (N := some 18) (ba_ 8 31) rfl rfl (by kernel_rfl) (by decide) (fun K hK => ?_)
  refine goes_ Try.func103 (by kernel_rfl) rfl #[.slice A0 l0.length c0] (by rfl) rfl rfl (by (try simp only [List.map_toArray, List.map_cons, List.map_nil]); first | done | rfl) ?_
  refine (HCl.out _ (below_drew HB.out)).mono ?_
  rintro e w5 ⟨v0, rfl, hr, hb⟩
  refine ⟨_, rfl, ?_⟩
  have HB3 := Aside0.mk ((below_drew HB.out).trans (hb.mono (below_drew HB.out).size))
  have HV := Aside0.mk hr
  have HBo := Aside0.mk hb
  refine hK.out _ _ (pw_cell_below hb hHeld) (fun hHeld => ?_)
  clear hb hr
  clear hK K
  refine norm_ (a' := ?_) ?_ ?_
  rotate_left
  ·show Act.put _ (some 18) _ = _
   simp only [Act.put, List.setIfInBounds_toArray, List.set_cons_zero, List.set_cons_succ, i64_w, i32_w]
   rfl
  refine one_ (i := 5) (N := some 22) (ba_ 8 63) rfl rfl (by kernel_rfl) (by decide) (fun K hK => ?_)
  refine goes_ Try.func78 (by kernel_rfl) rfl #[.slice A0 l0.length c0, .slice A1 l1.length c1] (by rfl) rfl rfl (by (try simp only [List.map_toArray, List.map_cons, List.map_nil]); first | done | rfl) ?_
  refine (HNA.out _ HB3.out).mono ?_
  rintro e w6 ⟨rfl, hb⟩
  refine ⟨_, rfl, ?_⟩
  have HB4 := Aside0.mk (HB3.out.trans (hb.mono HB3.out.size))
  have HV2 := Aside0.mk (Kd.R_below HV.out hb)
  have HBo2 := Aside0.mk hb
  refine hK.out _ _ (pw_cell_below hb hHeld) (fun hHeld => ?_)
  clear hb
  clear hK K
  refine norm_ (a' := ?_) ?_ ?_
  rotate_left
  ·show Act.put _ (some 22) _ = _
   simp only [Act.put, List.setIfInBounds_toArray, List.set_cons_zero, List.set_cons_succ, i64_w, i32_w]
   rfl
  refine pu_ 6 (some 6) (ba_ 8 127) rfl rfl (by kernel_rfl) ?_
  refine pu_ 7 (some 7) (ba_ 8 255) rfl rfl (by kernel_rfl) ?_
  refine done_ (by kernel_rfl) ?_
  have hb5 := (HBo.out.block w.heap.size (blk_lt HBX.out)).trans HBX.out
  have HG := Aside0.mk ((HBo2.out.block w.heap.size (blk_lt hb5)).trans hb5)
  clear hb5
  have hz0 : w6.cell? ⟨w.heap.size, 0, none⟩ = some (.int .i64 a0) := (blk_cell HG.out 0).trans rfl
  have hz1 : w6.cell? ⟨w.heap.size, 1, none⟩ = some (.slice A1 l1.length c1) := (blk_cell HG.out 1).trans rfl
  have hz2 : w6.cell? ⟨w.heap.size, 2, none⟩ = some (.int .i64 a2) := (blk_cell HG.out 2).trans rfl
  have hz3 : w6.cell? ⟨w.heap.size, 3, none⟩ = some (.int .i64 a3) := (blk_cell HG.out 3).trans rfl
  have hz4 : w6.cell? ⟨w.heap.size, 4, none⟩ = some (.int .i64 a4) := (blk_cell HG.out 4).trans rfl
  by_cases hq0 : q1 = 0
  case neg =>
   have h := HH.out
   rw [if_neg hq0] at h
   obtain ⟨rfl, rfl⟩ := Prod.mk.inj (Option.some.inj h)
   clear h HH
   go_wp2_with (first | (go_at_call 104; refine (HOC.out _ HB4.out).mono ?_; rintro e w7 ⟨rfl, hb⟩; have HB5 := Aside0.mk (HB4.out.trans (hb.mono HB4.out.size)); have HV3 := Aside0.mk (Kd.R_below HV2.out hb); clear hb))
   go_ret2
   exact ⟨v0, rfl, Kd.R_lower HV3.out (below_drew HB.out).size, HB5.out⟩
  have h := HH.out
  rw [if_pos hq0] at h
  clear HH
  by_cases hi0 : 0 ≤ i
  case neg => rw [if_neg hi0] at h; cases h
  rw [if_pos hi0] at h
  by_cases hi1 : i < (l0.length : Int)
  case neg => rw [if_neg hi1] at h; cases h
  rw [if_pos hi1] at h
  obtain ⟨j, rfl⟩ : ∃ j : Nat, i = j := ⟨i.toNat, by omega⟩
  have hj : j < l0.length := by omega
  obtain ⟨g, cap, rfl, hNR⟩ := NR.of HV2.out (by omega)
  have HNR := Aside0.mk hNR
  clear hNR
  by_cases ha1 : a0 = 1
  case pos =>
   subst ha1
   rw [if_pos rfl, Int.toNat_natCast] at h
   obtain ⟨rfl, rfl⟩ := Prod.mk.inj (Option.some.inj h)
   clear h
   go_wp2_with (first | (go_at_call 104; refine (HOC.out _ HB4.out).mono ?_; rintro e w7 ⟨rfl, hb⟩; have HB5 := Aside0.mk (HB4.out.trans (hb.mono HB4.out.size)); have HNR7 := Aside0.mk (HNR.out.keep (hb.block g HNR.out.lt)); have hG7 := (hb.block w.heap.size (blk_lt HG.out)).trans HG.out; have hy0 : w7.cell? ⟨w.heap.size, 0, none⟩ = some (.int .i64 1) := (blk_cell hG7 0).trans rfl; have hy2 : w7.cell? ⟨w.heap.size, 2, none⟩ = some (.int .i64 a2) := (blk_cell hG7 2).trans rfl; have hyc := (HNR7.out.cell (List.getElem?_eq_getElem hj)).1; have hyf := HNR7.out.frozen (j * 2); clear hb hG7))
   have hN8 := HNR7.out.set (k := j * 2) (v := .int .i64 a2) (by omega) (ncells_set0 l0 j l0[j] a2 (List.getElem?_eq_getElem hj))
   have ho8 := hN8.own
   rw [List.length_set] at ho8
   have erd : rd_T90 l0 (j : Int) = l0[j] := by simp [rd_T90, List.getD_eq_getElem?_getD, List.getElem?_eq_getElem hj]
   rw [erd]
   have hbl := (below_drew HB.out).size
   have hge := hN8.le
   go_ret2
   exact ⟨_, rfl, Kd.R_lower ho8 hbl, HB5.out.setCell (by show w.heap.size ≤ g; omega) _⟩
  case neg =>
  rw [if_neg ha1] at h
  have hbl := (below_drew HB.out).size
  have hge := HNR.out.le
  have hg : w.heap.size ≤ g := by omega
  have hgs : w.heap.size + 1 ≤ g := by
   have h1 := blk_lt HBX.out
   have h2 : w4.heap.size ≤ g := hge
   omega
  by_cases ha2 : a0 = 2
  case pos =>
   subst ha2
   rw [if_pos rfl] at h
   obtain ⟨e, he, h⟩ := Option.bind_eq_some_iff.mp h
   by_cases he0 : (j : Int) < e
   case neg => rw [if_neg he0] at h; cases h
   rw [if_pos he0] at h
   by_cases he1 : e ≤ (l0.length : Int)
   case neg => rw [if_neg he1] at h; cases h
   rw [if_pos he1] at h
   obtain ⟨m, rfl⟩ : ∃ m : Nat, e = m := ⟨e.toNat, by omega⟩
   simp only [Int.toNat_natCast] at h
   obtain ⟨rfl, rfl⟩ := Prod.mk.inj (Option.some.inj h)
   clear h
   have HEN : Aside0 (∀ W, Below w.heap.size w W → Calls Try.prog 105 #[.slice A0 l0.length c0, .int .i64 j] W fun e w' => e = .returned (.int .i64 m) ∧ Drawn0 W w') := ⟨fun W hb => HEN0.out j m W he hb⟩
   clear he
   have hjm : j < m := by omega
   have hml : m ≤ l0.length := by omega
   clear he0 he1 hi0 hi1
   go_wp2_with (first | (go_at_call 104; refine (HOC.out _ HB4.out).mono ?_; rintro e w7 ⟨rfl, hb⟩; have HB5 := Aside0.mk (HB4.out.trans (hb.mono HB4.out.size)); have HNR7 := Aside0.mk (HNR.out.keep (hb.block g HNR.out.lt)); have hG7 := (hb.block w.heap.size (blk_lt HG.out)).trans HG.out; have hy0 : w7.cell? ⟨w.heap.size, 0, none⟩ = some (.int .i64 2) := (blk_cell hG7 0).trans rfl; have hy2 : w7.cell? ⟨w.heap.size, 2, none⟩ = some (.int .i64 a2) := (blk_cell hG7 2).trans rfl; clear hb hG7))
   go_loopw [11] (fun x wr => ∃ xx : Nat, j + 1 ≤ xx ∧ xx ≤ m ∧ x = .int .i64 xx ∧ Aside0 (NR wr w4.drew.heap.size g cap (shiftL lessDeep (j + 1) xx l0)) ∧ Aside0 (Below w.heap.size w wr)) (fun x _ => m - (intOf x).toNat)
   case atStart => exact ⟨j + 1, by omega, by omega, by go_num, ⟨by rw [shiftL_none]; exact HNR7.out⟩, HB5⟩
   case round =>
    obtain ⟨xx, hx1, hx2, rfl, HNx, HBx⟩ := hrel
    by_cases hlt : xx < m
    ·have hxl : xx < l0.length := by omega
     have hltz : (xx : Int) < (m : Int) := by omega
     go_wp2_with (first | (go_at_call 105; refine (HEN.out _ HBx.out).mono ?_; rintro e w8 ⟨rfl, hd⟩; obtain ⟨⟨nd, rfl⟩⟩ := hd; have hxc : (wr.drewN nd).cell? ⟨g, xx * 2 + 1, none⟩ = some (.int .i64 (l0[xx].f1)) := ((HNx.out.drew nd).cell (show (shiftL lessDeep (j + 1) xx l0)[xx]? = some l0[xx] by rw [shiftL_get, List.getElem?_eq_getElem hxl]; show some (if j + 1 ≤ xx ∧ xx < xx then _ else _) = _; rw [if_neg (by omega)])).2; have hxf := (HNx.out.drew nd).frozen (xx * 2 + 1)))
     have hN9 := NR.deep lessDeep (fun x => wrap64 (x.f1 - 1)) (fun _ => rfl) (HNx.out.drew nd) hx1 (List.getElem?_eq_getElem hxl)
     go_roundw
     case rel => exact ⟨xx + 1, by omega, by omega, by go_num, ⟨hN9⟩, ⟨(pw_below_drewN HBx.out nd).setCell hg _⟩⟩
     case measure => simp [intOf]; omega
    ·obtain rfl : xx = m := by omega
     have hDel := fun W (hN : NR W w4.drew.heap.size g cap (shiftL lessDeep (j + 1) xx l0)) => Delete_calls W w4.drew.heap.size g cap j (j + 1) (shiftL lessDeep (j + 1) xx l0) hN (by omega) (by rw [shiftL_len]; omega) (by have := hN.mx; unfold maxLen at this; omega)
     simp only [shiftL_len] at hDel
     have HDel := Aside0.mk hDel
     have hrt : ((j + 1 : Nat) : Int) = (j : Int) + 1 := by omega
     clear hDel
     go_wp2_with (first | (go_at_call 105; refine (HEN.out _ HBx.out).mono ?_; rintro e w8 ⟨rfl, hd⟩; obtain ⟨⟨nd, rfl⟩⟩ := hd) | (go_at_call 106; refine (HDel.out _ (HNx.out.drew nd)).mono ?_; rintro e w9 ⟨rfl, hN9, q, cs, rfl⟩; have HN9 := Aside0.mk hN9; clear hN9))
     have ho9 := HN9.out.own
     have hlen : (List.take j (shiftL lessDeep (j + 1) xx l0) ++ List.drop (j + 1) (shiftL lessDeep (j + 1) xx l0)).length = j + (l0.length - (j + 1)) := by rw [List.length_append, List.length_take, List.length_drop, shiftL_len]; omega
     rw [hlen] at ho9
     go_ret2
     exact ⟨_, rfl, Kd.R_lower ho9 hbl, (by first | exact pw_below_grown HBx.out (some g) HBx.out.size (grown_setRow wr (nd + q) g cs) (fun y hy => by cases hy; exact hg) | exact pw_below_grown (pw_below_drewN HBx.out nd) (some g) HBx.out.size (grown_setRow (wr.drewN nd) q g cs) (fun y hy => by cases hy; exact hg))⟩
  case neg =>
  rw [if_neg ha2] at h
  by_cases hf0 : 0 ≤ q2
  case neg => rw [if_neg hf0] at h; cases h
  rw [if_pos hf0] at h
  by_cases hf1 : q2 ≤ q3
  case neg => rw [if_neg hf1] at h; cases h
  rw [if_pos hf1] at h
  by_cases hf2 : q3 ≤ (l0.length : Int)
  case neg => rw [if_neg hf2] at h; cases h
  rw [if_pos hf2] at h
  obtain ⟨fr, rfl⟩ : ∃ fr : Nat, q2 = fr := ⟨q2.toNat, by omega⟩
  obtain ⟨to_, rfl⟩ : ∃ to_ : Nat, q3 = to_ := ⟨q3.toNat, by omega⟩
  simp only [Int.toNat_natCast] at h
  obtain ⟨rfl, rfl⟩ := Prod.mk.inj (Option.some.inj h)
  clear h
  have hft : fr ≤ to_ := by omega
  have htl : to_ ≤ l0.length := by omega
  clear hf0 hf1 hf2
  have hji0 : (0 : Int) ≤ (j : Int) := by omega
  have hji1 : (j : Int) < (l0.length : Int) := by omega
  obtain ⟨ada, ea, hya0, hya⟩ := at_T90 HR0.out (j : Int) hji0 hji1
  subst ea
  clear hya0
  have HYA := Aside0.mk hya
  clear hya
  have hd1 : (a0 == 1) = false := by simpa using ha1
  have hd2 : (a0 == 2) = false := by simpa using ha2
  go_wp2_with (first | (go_at_call 104; refine (HOC.out _ HB4.out).mono ?_; rintro e w7 ⟨rfl, hb⟩; have HB5 := Aside0.mk (HB4.out.trans (hb.mono HB4.out.size)); have HNR7 := Aside0.mk (HNR.out.keep (hb.block g HNR.out.lt)); have hG7 := (hb.block w.heap.size (blk_lt HG.out)).trans HG.out; have hy0 : w7.cell? ⟨w.heap.size, 0, none⟩ = some (.int .i64 a0) := (blk_cell hG7 0).trans rfl; have hy2 : w7.cell? ⟨w.heap.size, 2, none⟩ = some (.int .i64 a2) := (blk_cell hG7 2).trans rfl; have HG7 := Aside0.mk hG7; clear hb hG7))
  go_loopw [12] (fun x wr => ∃ xx : Nat, fr ≤ xx ∧ xx ≤ to_ ∧ x = .int .i64 xx ∧ Aside0 (NR wr w4.drew.heap.size g cap (shiftL moreDeep fr xx l0)) ∧ Aside0 (Below w.heap.size w wr) ∧ Aside0 (wr.heap[w.heap.size]? = some (.cells #[.int .i64 a0, .slice A1 l1.length c1, .int .i64 a2, .int .i64 a3, .int .i64 a4] 67 (0, 0)))) (fun x _ => to_ - (intOf x).toNat)
  case atStart => exact ⟨fr, by omega, by omega, rfl, ⟨by rw [shiftL_none]; exact HNR7.out⟩, HB5, HG7⟩
  case round =>
   obtain ⟨xx, hx1, hx2, rfl, HNx, HBx, HGx⟩ := hrel
   by_cases hlt : xx < to_
   ·have hxl : xx < l0.length := by omega
    have hltz : (xx : Int) < (to_ : Int) := by omega
    have hxc : wr.cell? ⟨g, xx * 2 + 1, none⟩ = some (.int .i64 (l0[xx].f1)) := (HNx.out.cell (show (shiftL moreDeep fr xx l0)[xx]? = some l0[xx] by rw [shiftL_get, List.getElem?_eq_getElem hxl]; show some (if fr ≤ xx ∧ xx < xx then _ else _) = _; rw [if_neg (by omega)])).2
    have hxf := HNx.out.frozen (xx * 2 + 1)
    go_wp2
    have hN9 := NR.deep moreDeep (fun x => wrap64 (x.f1 + 1)) (fun _ => rfl) HNx.out hx1 (List.getElem?_eq_getElem hxl)
    have hG9 : (wr.setCell ⟨g, xx * 2 + 1, none⟩ (.int .i64 (wrap64 (l0[xx].f1 + 1)))).heap[w.heap.size]? = some (.cells #[.int .i64 a0, .slice A1 l1.length c1, .int .i64 a2, .int .i64 a3, .int .i64 a4] 67 (0, 0)) := ((show Below (w.heap.size + 1) wr (wr.setCell ⟨g, xx * 2 + 1, none⟩ (.int .i64 (wrap64 (l0[xx].f1 + 1)))) from (Below.refl (w.heap.size + 1) wr).setCell (show w.heap.size + 1 ≤ g by omega) _).block w.heap.size (by omega)).trans HGx.out
    go_roundw
    case rel => exact ⟨xx + 1, by omega, by omega, by go_num, ⟨hN9⟩, ⟨HBx.out.setCell hg _⟩, ⟨hG9⟩⟩
    case measure => simp [intOf]; omega
   ·obtain rfl : xx = to_ := by omega
    have hyr := (HBx.out.cell (World.block_lt_of_cell? w _ HYA.out)).trans HYA.out
    rw [Int.toNat_natCast] at hyr
    have hz2r : wr.cell? ⟨w.heap.size, 2, none⟩ = some (.int .i64 a2) := (blk_cell HGx.out 2).trans rfl
    have hfz : fr ≤ l0.length := by omega
    have hab : (ada.add (j * 2)).block < w.heap.size := by
     have := World.block_lt_of_cell? w _ HYA.out
     rw [Int.toNat_natCast] at this
     exact this
    clear hz0 hz1 hz2 hz3 hz4
    go_upto_region 12 with (fail)
    refine start_ (n := 14) (S := fun w' => w'.cell? ⟨w.heap.size, 2, none⟩ = some (.int .i64 a2) ∧ w'.cell? ⟨(ada.add (j * 2)).block, (ada.add (j * 2)).off + 1, none⟩ = some (.int .i64 (rd_T90 l0 (j : Int)).f1)) (ds := []) (ba_ 14 0) (by kernel_rfl) rfl rfl ⟨hz2r, hyr⟩ (fun hHeld => ?_)
    refine pu_ 0 (some 51) (ba_ 14 1) rfl rfl (by kernel_rfl) ?_
    refine pu_ 1 (some 52) (ba_ 14 3) rfl rfl (by kernel_rfl) ?_
    refine pu_ 2 (some 53) (ba_ 14 7) rfl rfl (by kernel_rfl) ?_
    refine pu_ 4 (some 55) (ba_ 14 23) rfl rfl (by kernel_rfl) ?_
    refine pu_ 5 (some 56) (ba_ 14 55) rfl rfl (by kernel_rfl) ?_
    refine pu_ 6 (some 57) (ba_ 14 119) rfl rfl (by kernel_rfl) ?_
    refine pu_ 7 (some 58) (ba_ 14 247) rfl rfl (by kernel_rfl) ?_
    refine ta_ 3 (some 54) (ba_ 14 255) rfl rfl (by kernel_rfl) hHeld (by rintro w' ⟨s0, s1⟩; go_simp; with_reducible rfl) ?_
    refine ta_ 8 (some 59) (ba_ 14 511) rfl rfl (by kernel_rfl) hHeld (by rintro w' ⟨s0, s1⟩; go_simp; with_reducible rfl) ?_
    refine pu_ 9 (some 60) (ba_ 14 1023) rfl rfl (by kernel_rfl) ?_
    refine pu_ 10 (some 61) (ba_ 14 2047) rfl rfl (by kernel_rfl) ?_
    refine one_ (i := 11) (N := some 62) (ba_ 14 4095) rfl rfl (by kernel_rfl) (by decide) (fun K hK => ?_)
    refine Kd.R_lit_step k90 _ 90 ?hg (N := 62) ?hd (xs := ([⟨a2, wrap64 ((rd_T90 l0 (j : Int)).f1 + 1)⟩] : List NdI)) (inner := [.int .i64 a2, .int .i64 (wrap64 ((rd_T90 l0 (j : Int)).f1 + 1))]) (ok := fun _ => True) (okp := fun _ => True) ?hr ?hp (fun _ hk => hk) trivial (Below.refl _ _) (Nat.le_refl _) (by simp) ?_
    (case hd => rfl)
    (case hg => rfl)
    (case hr => first | (go_simp; done) | (go_simp; rfl))
    (case hp => exact (Reps.c2 (show Kd.M k90 _ _ _ (⟨a2, wrap64 ((rd_T90 l0 (j : Int)).f1 + 1)⟩ : NdI) [.int .i64 a2, .int .i64 (wrap64 ((rd_T90 l0 (j : Int)).f1 + 1))] from (k90_mkM _ _ _ (⟨a2, wrap64 ((rd_T90 l0 (j : Int)).f1 + 1)⟩ : NdI))) (Reps.none _ _)))
    intro v9 w9 ho9 hb9 hg_ hnew_
    clear hg_ hnew_
    obtain ⟨vb, vc, rfl, hV9⟩ := NR.of ho9 (by simp)
    clear ho9
    simp only [List.length_singleton]
    have HV9 := Aside0.mk hV9
    have HN9 := Aside0.mk ((HNx.out.drew 1).keep (w1 := w9) (hb9.block g (show g < _ from HNx.out.lt)))
    have HB9 := Aside0.mk ((pw_below_drewN HBx.out 1).trans (hb9.mono HBx.out.size))
    refine hK.out _ _ ⟨pw_cell_below hb9 hHeld.1, pw_cell_below hb9 hHeld.2⟩ (fun hHeld => ?_)
    clear hb9 hV9
    clear hK K
    refine norm_ (a' := ?_) ?_ ?_
    rotate_left
    ·show Act.put _ (some 62) _ = _
     simp only [Act.put, List.setIfInBounds_toArray, List.set_cons_zero, List.set_cons_succ, i64_w, i32_w]
     rfl
    refine one_ (i := 12) (N := some 63) (ba_ 14 8191) rfl rfl (by kernel_rfl) (by decide) (fun K hK => ?_)
    refine goes_ Try.func107 (by kernel_rfl) rfl #[.slice (some ⟨g, 0, none⟩) l0.length cap, .int .i64 fr, .slice (some ⟨vb, 0, none⟩) 1 vc] (by rfl) rfl rfl (by (try simp only [List.map_toArray, List.map_cons, List.map_nil]); first | done | rfl) ?_
    have hgl := HNx.out.lt
    have hgb := HNx.out.le
    have hvb : wr.heap.size ≤ vb := HV9.out.le
    have hIns := Insert_calls w9 w4.drew.heap.size g cap vb vc fr (shiftL moreDeep fr xx l0) _ HN9.out ⟨by omega, HV9.out.fits, HV9.out.mx, HV9.out.row⟩ (by omega) (by rw [shiftL_len]; omega) (by rw [shiftL_len]; omega) (by rw [shiftL_len]; omega)
    simp only [shiftL_len] at hIns
    refine hIns.mono ?_
    rintro e w10 ⟨g', cap', rfl, hN10, hgr⟩
    refine ⟨_, rfl, ?_⟩
    have HN10 := Aside0.mk hN10
    have HB10 := Aside0.mk (pw_below_grown HB9.out (some g) HB9.out.size hgr (fun y hy => by cases hy; exact hg))
    refine hK.out _ _ ⟨cell_grown hgr hHeld.1 (by intro hq; injection hq with hq; simp only at hq; omega), cell_grown hgr hHeld.2 (by intro hq; injection hq with hq; simp only at hq; omega)⟩ (fun hHeld => ?_)
    clear hN10 hIns hgr
    clear hK K
    refine norm_ (a' := ?_) ?_ ?_
    rotate_left
    ·show Act.put _ (some 63) _ = _
     simp only [Act.put, List.setIfInBounds_toArray, List.set_cons_zero, List.set_cons_succ, i64_w, i32_w]
     rfl
    refine pu_ 13 (some 6) (ba_ 14 16383) rfl rfl (by kernel_rfl) ?_
    refine done_ (by kernel_rfl) ?_
    go_wp2
    have ho10 := HN10.out.own
    have hlen : (List.take fr (shiftL moreDeep fr xx l0) ++ [(⟨a2, wrap64 ((rd_T90 l0 (j : Int)).f1 + 1)⟩ : NdI)] ++ List.drop fr (shiftL moreDeep fr xx l0)).length = l0.length + 1 := by rw [List.length_append, List.length_append, List.length_take, List.length_drop, shiftL_len, List.length_singleton]; omega
    rw [hlen] at ho10
    go_ret2
    exact ⟨_, rfl, Kd.R_lower ho10 hbl, HB10.out⟩
end Go.Proofs.Ytbifdckfglejkaa.X
namespace Go.Proofs.Ytbifdckfglejkaa.X
open Go.RowKit Go.Proofs.YtbifdckfglejkaaW.PrintWords Go.Proofs.YtbifdckfglejkaaW.PrintLast Go.Proofs.YtbifdckfglejkaaW.PrintMore
attribute [local go_sem] max2_int min2_int max_two min_two max_three min_three max_four min_four   -- for this text's walks alone
set_option linter.unusedVariables false
set_option linter.unusedSimpArgs false
def impl_ApplyAll.l0 : Nat → List (S67) → List (S90) → List (S67) → Int → Int → Option ((List (S90)) × Int × Int)
 | 0, _, _, _, _, _ => none
 | k + 1, x1, x7, x18, x19, x20 => if x20 < x19 then (if 0 ≤ x20 then (if x20 < (x18.length : Int) then ((impl_ApplyOp.f k x7 ((rd_T67 x18 x20).f0) ((rd_T67 x18 x20).f1) ((rd_T67 x18 x20).f2) ((rd_T67 x18 x20).f3) ((rd_T67 x18 x20).f4)).bind fun bt1076 => (if bt1076.2 = 0 then (impl_ApplyAll.l0 k x1 bt1076.1 x18 x19 (wrap64 (x20 + 1))) else (some (x7, x20, bt1076.2)))) else (none)) else (none)) else (some (x7, (x1.length : Int), 0))
def impl_ApplyAll.f (k : Nat) (l0 : List (S90)) (l1 : List (S67)) : Option ((List (S90)) × Int × Int) := (impl_TreeOk.f k l0).bind fun t1067 => (if t1067 = true then ((clone_Node.f l0).bind fun t1071 => (impl_ApplyAll.l0 k l1 t1071 l1 (l1.length : Int) 0)) else (some ((([] : List (S90))), 0, 2)))
set_option maxHeartbeats 8000000 in
set_option maxRecDepth 100000 in
theorem impl_ApplyAll.calls (k : Nat) (A0 : Option Addr) (c0 : Nat) (l0 : List (S90)) (A1 : Option Addr) (c1 : Nat) (l1 : List (S67)) (r1 : List (S90)) (r2 : Int) (r3 : Int) (w : World) (hr0 : Kd.C k90 w A0 l0.length l0) (hc0 : l0.length ≤ c0) (hr1 : Kd.C k67 w A1 l1.length l1) (hc1 : l1.length ≤ c1) (h : impl_ApplyAll.f k l0 l1 = some (r1, r2, r3)) :
  Calls Try.prog 52 #[.slice A0 l0.length c0, .slice A1 l1.length c1] w fun e w' => ∃ v0_ : Value, e = .returned (.tuple #[v0_, .int .i64 r2, .int .i64 r3]) ∧ Kd.R k90 90 w' w.heap.size (fun _ => True) v0_ r1 ∧ Below w.heap.size w w' := by
 have hu67 := Try.underlying67
 have HR0 := Aside0.mk hr0
 have HC0 := Aside0.mk hc0
 clear hr0 hc0
 have HR1 := Aside0.mk hr1
 have HC1 := Aside0.mk hc1
 clear hr1 hc1
 have HB := Aside0.mk (Below.refl w.heap.size w)
 have H : ((impl_TreeOk.f k l0).bind fun t1067 => (if t1067 = true then ((clone_Node.f l0).bind fun t1071 => (impl_ApplyAll.l0 k l1 t1071 l1 (l1.length : Int) 0)) else (some ((([] : List (S90))), 0, 2)))) = some (r1, r2, r3) := h
 clear h
 replace H := Option.bind_eq_some_iff.mp H
 obtain ⟨t1067, A30, H⟩ := H
 try dsimp only at H
 have A3 := Aside0.mk A30
 clear A30
 by_cases c4 : t1067 = true
 ·subst c4
  have H1 : ((clone_Node.f l0).bind fun t1071 => (impl_ApplyAll.l0 k l1 t1071 l1 (l1.length : Int) 0)) = some (r1, r2, r3) := by rw [if_pos rfl] at H; exact H
  clear H
  have H := H1
  clear H1
  replace H := Option.bind_eq_some_iff.mp H
  obtain ⟨t1071, A50, H⟩ := H
  replace H : (impl_ApplyAll.l0 k l1 t1071 l1 (l1.length : Int) 0) = some (r1, r2, r3) := H
  have A5 := Aside0.mk A50
  clear A50
  have H' := Aside0.mk H
  clear H
  go_enter Try.func52, Try.ntmps52
  go_wp2_with (first | ((with_reducible refine gate_callee (f := 102) rfl ?_); refine gL_ (some 13) Try.func102 #[.slice A0 l0.length c0] ?_; (with_reducible refine (impl_TreeOk.calls k _ _ l0 true _ (cc_ HR0.out) HC0.out A3.out).mono ?_); rintro e w6 ⟨rfl, hb⟩; refine ⟨_, rfl, ?_⟩; replace HB := tB_ HB hb; (try clear hb)) | ((with_reducible refine gate_callee (f := 103) rfl ?_); refine gL_ (some 17) Try.func103 #[.slice A0 l0.length c0] ?_; (with_reducible refine (clone_Node.calls _ _ l0 t1071 _ (cx_ HR0 HB) HC0.out A5.out).mono ?_); rintro e w7 ⟨v1072, rfl, ho0, hb⟩; refine ⟨_, rfl, ?_⟩; have HO1073 := Aside0.mk (Kd.R_lower ho0 (bs_ HB)); replace HB := tB_ HB hb; (try clear hb); (try clear ho0)))
  go_loopg [7, 20] k (fun kq v7 v20 w' => ∃ (x7_1 : List (S90)) (x20_1 : Int), v20 = .int .i64 x20_1 ∧ Aside0 (impl_ApplyAll.l0 kq l1 x7_1 l1 (l1.length : Int) x20_1 = some (r1, r2, r3)) ∧ Aside0 (kq ≤ k) ∧ Aside0 (Kd.R k90 90 w' w.heap.size (fun _ => True) v7 x7_1) ∧ Aside0 (Below w.heap.size w w'))
  case atStart => exact ⟨(t1071), (0), eb_, H', ⟨Nat.le_refl _⟩, ⟨rx_ HO1073.out⟩, bl_ HB⟩
  case round =>
   clear H'
   try clear c1
   try clear p2
   try clear c4
   try clear c5
   obtain ⟨x7_1, x20_1, rfl, HA, HK1, HO_7, HB⟩ := hrel
   cases gk with
   | zero => exact absurd HA.out (by simp [impl_ApplyAll.l0])
   | succ k1 =>
    have H := HA.out
    clear HA
    simp only [impl_ApplyAll.l0] at H
    by_cases c8 : x20_1 < (l1.length : Int)
    ·rw [if_pos c8] at H
     have c8b0 : decide (x20_1 < (l1.length : Int)) = true := decide_eq_true c8
     clear c8
     by_cases c9 : 0 ≤ x20_1
     ·rw [if_pos c9] at H
      have c9b0 : decide (0 ≤ x20_1) = true := decide_eq_true c9
      clear c9
      by_cases c10 : x20_1 < (l1.length : Int)
      ·rw [if_pos c10] at H
       have c10b0 : decide (x20_1 < (l1.length : Int)) = true := decide_eq_true c10
       clear c10
       replace H := Option.bind_eq_some_iff.mp H
       obtain ⟨⟨t1076, t1079⟩, A110, H⟩ := H
       try dsimp only at H
       have A11 := Aside0.mk A110
       clear A110
       by_cases c12 : t1079 = 0
       ·rw [if_pos c12] at H
        have c12b0 : (t1079 == 0) = true := beq_iff_eq.mpr c12
        have c12b1 : (t1079 != 0) = false := bne_eq_false_iff_eq.mpr c12
        clear c12
        have H' := Aside0.mk H
        clear H
        have p1074 : 0 ≤ (x20_1 : Int) := od_
        have q1074 : x20_1 < (l1.length : Int) := od_
        obtain ⟨ad1074, A1074_1, c1074_1, e1074, hx1074_0, hx1074_1, hx1074_2, hx1074_3, hx1074_4, hl1074_1, hi1074_1⟩ := at_T67 HR1.out x20_1 p1074 q1074
        cases e1074
        replace hx1074_0 := ce_ HB hx1074_0
        replace hx1074_1 := ce_ HB hx1074_1
        replace hx1074_2 := ce_ HB hx1074_2
        replace hx1074_3 := (HB.out.cell (World.block_lt_of_cell? w _ hx1074_3)).trans hx1074_3
        replace hx1074_4 := (HB.out.cell (World.block_lt_of_cell? w _ hx1074_4)).trans hx1074_4
        have HR1074_1 := Aside0.mk hi1074_1
        have HC1074_1 := Aside0.mk hl1074_1
        clear hi1074_1 hl1074_1
        replace p1074 := eq_true p1074
        replace q1074 := eq_true q1074
        go_wp2_with (first | ((with_reducible refine gate_dst (N := 9) rfl ?_); refine box_event ?hg (N := 9) ?hd (cs := #[.int .i64 0, .slice none 0 0, .int .i64 0, .int .i64 0, .int .i64 0]) (t := 67) ?hr ?_; (case hd => rfl); (case hg => rfl); (case hr => first | (go_simp; done) | (go_simp; rfl)); intro gb1075 hg w13 hbox hb; have n0_ := Aside0.mk (Kd.R_below (by (with_reducible repeat (first | apply Kd.R_alloc | apply Kd.R_drewN | apply Kd.R_drew)); exact HO_7.out) hb); have n1_ := Aside0.mk (below_step (by repeat (first | (with_reducible first | exact HB.out | apply below_alloc | apply pw_below_drewN | apply below_drew1) | exact HB.out)) hb); have n2_ := Aside0.mk (hbox); have n3_ := Aside0.mk ((by rw [hg]; exact (below_size (by repeat (first | (with_reducible first | exact HB.out | apply below_alloc | apply pw_below_drewN | apply below_drew1) | exact HB.out))) : w.heap.size ≤ gb1075)); have n4_ := Aside0.mk ((by rw [hg]; exact (below_size (by repeat (first | (with_reducible first | exact HB.out | apply below_alloc | apply pw_below_drewN | apply below_drew1) | exact HB.out))) : w.heap.size ≤ gb1075)); clear HO_7; clear HB; have HO_7 := n0_; have HB := n1_; have BK1075 := n2_; have GW1075 := n3_; have GE1075 := n4_; clear n0_ n1_ n2_ n3_ n4_; clear hb hbox hg; have hcz14_0 : w13.cell? ⟨gb1075, 0, none⟩ = some (.int .i64 0) := (blk_cell BK1075.out 0).trans rfl; have hcz14_1 : w13.cell? ⟨gb1075, 1, none⟩ = some (.slice none 0 0) := (blk_cell BK1075.out 1).trans rfl; have hcz14_2 : w13.cell? ⟨gb1075, 2, none⟩ = some (.int .i64 0) := (blk_cell BK1075.out 2).trans rfl; have hcz14_3 : w13.cell? ⟨gb1075, 3, none⟩ = some (.int .i64 0) := (blk_cell BK1075.out 3).trans rfl; have hcz14_4 : w13.cell? ⟨gb1075, 4, none⟩ = some (.int .i64 0) := (blk_cell BK1075.out 4).trans rfl; have hfz14_0 := blk_frozen BK1075.out 0; have hfz14_1 := blk_frozen BK1075.out 1; have hfz14_2 := blk_frozen BK1075.out 2; have hfz14_3 := blk_frozen BK1075.out 3; have hfz14_4 := blk_frozen BK1075.out 4; obtain ⟨Ao15, co15, eo15⟩ := Kd.R_slice HO_7.out; subst eo15) | ((with_reducible refine gate_callee (f := 46) rfl ?_); refine goesL_ (some 28) rfl rfl Try.func46 (by kernel_rfl) rfl #[.slice Ao15 x7_1.length co15, .agg #[.int .i64 ((rd_T67 l1 x20_1).f0), .slice A1074_1 ((rd_T67 l1 x20_1).f1).length c1074_1, .int .i64 ((rd_T67 l1 x20_1).f2), .int .i64 ((rd_T67 l1 x20_1).f3), .int .i64 ((rd_T67 l1 x20_1).f4)]] rfl (by (try simp only [List.map_toArray, List.map_cons, List.map_nil]); first | done | rfl | (simp only [List.length_drop, List.length_take]; rfl)) ?_; (with_reducible refine (impl_ApplyOp.calls k1 _ _ x7_1 ((rd_T67 l1 x20_1).f0) _ _ ((rd_T67 l1 x20_1).f1) ((rd_T67 l1 x20_1).f2) ((rd_T67 l1 x20_1).f3) ((rd_T67 l1 x20_1).f4) t1076 t1079 _ ?side1 ?side2 ?side3 ?side4 A11.out).mono ?_); (case side1 => refine (Kd.R_reads' (e := 90) (base := w.heap.size) (ok := fun k_ => True) (n := x7_1.length) (c := co15) ?_).2.2; exact (by (with_reducible repeat (first | apply Kd.R_alloc | apply Kd.R_drewN | apply Kd.R_drew)); exact (Kd.R_mono (Kd.R_far (p := ⟨gb1075, 4, none⟩) (Kd.R_far (p := ⟨gb1075, 3, none⟩) (Kd.R_far (p := ⟨gb1075, 2, none⟩) (Kd.R_far (p := ⟨gb1075, 1, none⟩) (Kd.R_far (p := ⟨gb1075, 0, none⟩) (Kd.R_types HO_7.out BK1075.out (by decide)) (fun _ hk => hk.2) (.int .i64 ((rd_T67 l1 x20_1).f0))) (fun _ hk => hk.2) (.slice A1074_1 ((rd_T67 l1 x20_1).f1).length c1074_1)) (fun _ hk => hk.2) (.int .i64 ((rd_T67 l1 x20_1).f2))) (fun _ hk => hk.2) (.int .i64 ((rd_T67 l1 x20_1).f3))) (fun _ hk => hk.2) (.int .i64 ((rd_T67 l1 x20_1).f4))) (fun _ h_ => h_.1)))); (case side2 => exact (Kd.R_reads' HO_7.out).2.1); (case side3 => exact Kd.C_below HR1074_1.out (by repeat (first | (with_reducible first | exact HB.out | apply below_alloc | apply pw_below_drewN | apply below_drew1 | refine below_set ?_ GE1075.out) | exact HB.out))); (case side4 => exact HC1074_1.out); rintro e w16 ⟨v1077, rfl, ho0, hb⟩; refine ⟨_, rfl, ?_⟩; have n0_ := Aside0.mk (Kd.R_elder' (by (with_reducible repeat (first | apply Kd.R_alloc | apply Kd.R_drewN | apply Kd.R_drew)); exact (Kd.R_mono (Kd.R_far (p := ⟨gb1075, 4, none⟩) (Kd.R_far (p := ⟨gb1075, 3, none⟩) (Kd.R_far (p := ⟨gb1075, 2, none⟩) (Kd.R_far (p := ⟨gb1075, 1, none⟩) (Kd.R_far (p := ⟨gb1075, 0, none⟩) (Kd.R_types HO_7.out BK1075.out (by decide)) (fun _ hk => hk.2) (.int .i64 ((rd_T67 l1 x20_1).f0))) (fun _ hk => hk.2) (.slice A1074_1 ((rd_T67 l1 x20_1).f1).length c1074_1)) (fun _ hk => hk.2) (.int .i64 ((rd_T67 l1 x20_1).f2))) (fun _ hk => hk.2) (.int .i64 ((rd_T67 l1 x20_1).f3))) (fun _ hk => hk.2) (.int .i64 ((rd_T67 l1 x20_1).f4))) (fun _ h_ => h_.1))) (Kd.R_base ho0) hb); have n1_ := Aside0.mk (Kd.R_lower (Kd.R_new' ho0 (Kd.R_lt (by (with_reducible repeat (first | apply Kd.R_alloc | apply Kd.R_drewN | apply Kd.R_drew)); exact (Kd.R_mono (Kd.R_far (p := ⟨gb1075, 4, none⟩) (Kd.R_far (p := ⟨gb1075, 3, none⟩) (Kd.R_far (p := ⟨gb1075, 2, none⟩) (Kd.R_far (p := ⟨gb1075, 1, none⟩) (Kd.R_far (p := ⟨gb1075, 0, none⟩) (Kd.R_types HO_7.out BK1075.out (by decide)) (fun _ hk => hk.2) (.int .i64 ((rd_T67 l1 x20_1).f0))) (fun _ hk => hk.2) (.slice A1074_1 ((rd_T67 l1 x20_1).f1).length c1074_1)) (fun _ hk => hk.2) (.int .i64 ((rd_T67 l1 x20_1).f2))) (fun _ hk => hk.2) (.int .i64 ((rd_T67 l1 x20_1).f3))) (fun _ hk => hk.2) (.int .i64 ((rd_T67 l1 x20_1).f4))) (fun _ h_ => h_.1))))) (below_size (by repeat (first | (with_reducible first | exact HB.out | apply below_alloc | apply pw_below_drewN | apply below_drew1 | refine below_set ?_ GE1075.out) | exact HB.out)))); have n2_ := Aside0.mk (blk_below (g := gb1075) (o := .cells #[.int .i64 ((rd_T67 l1 x20_1).f0), .slice A1074_1 ((rd_T67 l1 x20_1).f1).length c1074_1, .int .i64 ((rd_T67 l1 x20_1).f2), .int .i64 ((rd_T67 l1 x20_1).f3), .int .i64 ((rd_T67 l1 x20_1).f4)] 67 (0, 0)) (by (with_reducible repeat (first | refine blk_drewN ?_ _ | refine blk_drew ?_ | refine blk_alloc ?_ _)); refine blk_put (cs := #[.int .i64 ((rd_T67 l1 x20_1).f0), .slice A1074_1 ((rd_T67 l1 x20_1).f1).length c1074_1, .int .i64 ((rd_T67 l1 x20_1).f2), .int .i64 ((rd_T67 l1 x20_1).f3), .int .i64 0]) ?_ 4 _ rfl; (with_reducible repeat (first | refine blk_drewN ?_ _ | refine blk_drew ?_ | refine blk_alloc ?_ _)); refine blk_put (cs := #[.int .i64 ((rd_T67 l1 x20_1).f0), .slice A1074_1 ((rd_T67 l1 x20_1).f1).length c1074_1, .int .i64 ((rd_T67 l1 x20_1).f2), .int .i64 0, .int .i64 0]) ?_ 3 _ rfl; (with_reducible repeat (first | refine blk_drewN ?_ _ | refine blk_drew ?_ | refine blk_alloc ?_ _)); refine blk_put (cs := #[.int .i64 ((rd_T67 l1 x20_1).f0), .slice A1074_1 ((rd_T67 l1 x20_1).f1).length c1074_1, .int .i64 0, .int .i64 0, .int .i64 0]) ?_ 2 _ rfl; (with_reducible repeat (first | refine blk_drewN ?_ _ | refine blk_drew ?_ | refine blk_alloc ?_ _)); refine blk_put (cs := #[.int .i64 ((rd_T67 l1 x20_1).f0), .slice none 0 0, .int .i64 0, .int .i64 0, .int .i64 0]) ?_ 1 _ rfl; (with_reducible repeat (first | refine blk_drewN ?_ _ | refine blk_drew ?_ | refine blk_alloc ?_ _)); refine blk_put (cs := #[.int .i64 0, .slice none 0 0, .int .i64 0, .int .i64 0, .int .i64 0]) ?_ 0 _ rfl; (with_reducible repeat (first | refine blk_drewN ?_ _ | refine blk_drew ?_ | refine blk_alloc ?_ _)); exact BK1075.out) hb); have n3_ := Aside0.mk (below_step (by repeat (first | (with_reducible first | exact HB.out | apply below_alloc | apply pw_below_drewN | apply below_drew1 | refine below_set ?_ GE1075.out) | exact HB.out)) hb); clear HO_7; clear BK1075; clear HB; have HO_7 := n0_; have HO1078 := n1_; have BK1075 := n2_; have HB := n3_; clear n0_ n1_ n2_ n3_; (try clear hb); (try clear hb2); (try clear hk); (try clear hi); (try clear ho0)))
        go_roundg k1
        case measure => have := HK1.out; omega
        case rel => exact ⟨(t1076), (wrap64 (x20_1 + 1)), eb_, H', ⟨by have := HK1.out; omega⟩, ⟨rx_ (Kd.R_mono HO1078.out (fun _ hk => trivial))⟩, bl_ HB⟩
       ·rw [if_neg c12] at H
        have c12b0 : (t1079 == 0) = false := beq_eq_false_iff_ne.mpr c12
        have c12b1 : (t1079 != 0) = true := bne_iff_ne.mpr c12
        simp only [Option.some.injEq, Prod.mk.injEq] at H
        obtain ⟨rfl, rfl, rfl⟩ := H
        have p1074 : 0 ≤ (x20_1 : Int) := od_
        have q1074 : x20_1 < (l1.length : Int) := od_
        obtain ⟨ad1074, A1074_1, c1074_1, e1074, hx1074_0, hx1074_1, hx1074_2, hx1074_3, hx1074_4, hl1074_1, hi1074_1⟩ := at_T67 HR1.out x20_1 p1074 q1074
        cases e1074
        replace hx1074_0 := ce_ HB hx1074_0
        replace hx1074_1 := ce_ HB hx1074_1
        replace hx1074_2 := ce_ HB hx1074_2
        replace hx1074_3 := (HB.out.cell (World.block_lt_of_cell? w _ hx1074_3)).trans hx1074_3
        replace hx1074_4 := (HB.out.cell (World.block_lt_of_cell? w _ hx1074_4)).trans hx1074_4
        have HR1074_1 := Aside0.mk hi1074_1
        have HC1074_1 := Aside0.mk hl1074_1
        clear hi1074_1 hl1074_1
        replace p1074 := eq_true p1074
        replace q1074 := eq_true q1074
        go_wp2_with (first | ((with_reducible refine gate_dst (N := 9) rfl ?_); refine box_event ?hg (N := 9) ?hd (cs := #[.int .i64 0, .slice none 0 0, .int .i64 0, .int .i64 0, .int .i64 0]) (t := 67) ?hr ?_; (case hd => rfl); (case hg => rfl); (case hr => first | (go_simp; done) | (go_simp; rfl)); intro gb1075 hg w17 hbox hb; have n0_ := Aside0.mk (Kd.R_below (by (with_reducible repeat (first | apply Kd.R_alloc | apply Kd.R_drewN | apply Kd.R_drew)); exact HO_7.out) hb); have n1_ := Aside0.mk (below_step (by repeat (first | (with_reducible first | exact HB.out | apply below_alloc | apply pw_below_drewN | apply below_drew1) | exact HB.out)) hb); have n2_ := Aside0.mk (hbox); have n3_ := Aside0.mk ((by rw [hg]; exact (below_size (by repeat (first | (with_reducible first | exact HB.out | apply below_alloc | apply pw_below_drewN | apply below_drew1) | exact HB.out))) : w.heap.size ≤ gb1075)); have n4_ := Aside0.mk ((by rw [hg]; exact (below_size (by repeat (first | (with_reducible first | exact HB.out | apply below_alloc | apply pw_below_drewN | apply below_drew1) | exact HB.out))) : w.heap.size ≤ gb1075)); clear HO_7; clear HB; have HO_7 := n0_; have HB := n1_; have BK1075 := n2_; have GW1075 := n3_; have GE1075 := n4_; clear n0_ n1_ n2_ n3_ n4_; clear hb hbox hg; have hcz18_0 : w17.cell? ⟨gb1075, 0, none⟩ = some (.int .i64 0) := (blk_cell BK1075.out 0).trans rfl; have hcz18_1 : w17.cell? ⟨gb1075, 1, none⟩ = some (.slice none 0 0) := (blk_cell BK1075.out 1).trans rfl; have hcz18_2 : w17.cell? ⟨gb1075, 2, none⟩ = some (.int .i64 0) := (blk_cell BK1075.out 2).trans rfl; have hcz18_3 : w17.cell? ⟨gb1075, 3, none⟩ = some (.int .i64 0) := (blk_cell BK1075.out 3).trans rfl; have hcz18_4 : w17.cell? ⟨gb1075, 4, none⟩ = some (.int .i64 0) := (blk_cell BK1075.out 4).trans rfl; have hfz18_0 := blk_frozen BK1075.out 0; have hfz18_1 := blk_frozen BK1075.out 1; have hfz18_2 := blk_frozen BK1075.out 2; have hfz18_3 := blk_frozen BK1075.out 3; have hfz18_4 := blk_frozen BK1075.out 4; obtain ⟨Ao19, co19, eo19⟩ := Kd.R_slice HO_7.out; subst eo19) | ((with_reducible refine gate_callee (f := 46) rfl ?_); refine goesL_ (some 28) rfl rfl Try.func46 (by kernel_rfl) rfl #[.slice Ao19 x7_1.length co19, .agg #[.int .i64 ((rd_T67 l1 x20_1).f0), .slice A1074_1 ((rd_T67 l1 x20_1).f1).length c1074_1, .int .i64 ((rd_T67 l1 x20_1).f2), .int .i64 ((rd_T67 l1 x20_1).f3), .int .i64 ((rd_T67 l1 x20_1).f4)]] rfl (by (try simp only [List.map_toArray, List.map_cons, List.map_nil]); first | done | rfl | (simp only [List.length_drop, List.length_take]; rfl)) ?_; (with_reducible refine (impl_ApplyOp.calls k1 _ _ x7_1 ((rd_T67 l1 x20_1).f0) _ _ ((rd_T67 l1 x20_1).f1) ((rd_T67 l1 x20_1).f2) ((rd_T67 l1 x20_1).f3) ((rd_T67 l1 x20_1).f4) t1076 t1079 _ ?side1 ?side2 ?side3 ?side4 A11.out).mono ?_); (case side1 => refine (Kd.R_reads' (e := 90) (base := w.heap.size) (ok := fun k_ => True) (n := x7_1.length) (c := co19) ?_).2.2; exact (by (with_reducible repeat (first | apply Kd.R_alloc | apply Kd.R_drewN | apply Kd.R_drew)); exact (Kd.R_mono (Kd.R_far (p := ⟨gb1075, 4, none⟩) (Kd.R_far (p := ⟨gb1075, 3, none⟩) (Kd.R_far (p := ⟨gb1075, 2, none⟩) (Kd.R_far (p := ⟨gb1075, 1, none⟩) (Kd.R_far (p := ⟨gb1075, 0, none⟩) (Kd.R_types HO_7.out BK1075.out (by decide)) (fun _ hk => hk.2) (.int .i64 ((rd_T67 l1 x20_1).f0))) (fun _ hk => hk.2) (.slice A1074_1 ((rd_T67 l1 x20_1).f1).length c1074_1)) (fun _ hk => hk.2) (.int .i64 ((rd_T67 l1 x20_1).f2))) (fun _ hk => hk.2) (.int .i64 ((rd_T67 l1 x20_1).f3))) (fun _ hk => hk.2) (.int .i64 ((rd_T67 l1 x20_1).f4))) (fun _ h_ => h_.1)))); (case side2 => exact (Kd.R_reads' HO_7.out).2.1); (case side3 => exact Kd.C_below HR1074_1.out (by repeat (first | (with_reducible first | exact HB.out | apply below_alloc | apply pw_below_drewN | apply below_drew1 | refine below_set ?_ GE1075.out) | exact HB.out))); (case side4 => exact HC1074_1.out); rintro e w20 ⟨v1077, rfl, ho0, hb⟩; refine ⟨_, rfl, ?_⟩; have n0_ := Aside0.mk (Kd.R_elder' (by (with_reducible repeat (first | apply Kd.R_alloc | apply Kd.R_drewN | apply Kd.R_drew)); exact (Kd.R_mono (Kd.R_far (p := ⟨gb1075, 4, none⟩) (Kd.R_far (p := ⟨gb1075, 3, none⟩) (Kd.R_far (p := ⟨gb1075, 2, none⟩) (Kd.R_far (p := ⟨gb1075, 1, none⟩) (Kd.R_far (p := ⟨gb1075, 0, none⟩) (Kd.R_types HO_7.out BK1075.out (by decide)) (fun _ hk => hk.2) (.int .i64 ((rd_T67 l1 x20_1).f0))) (fun _ hk => hk.2) (.slice A1074_1 ((rd_T67 l1 x20_1).f1).length c1074_1)) (fun _ hk => hk.2) (.int .i64 ((rd_T67 l1 x20_1).f2))) (fun _ hk => hk.2) (.int .i64 ((rd_T67 l1 x20_1).f3))) (fun _ hk => hk.2) (.int .i64 ((rd_T67 l1 x20_1).f4))) (fun _ h_ => h_.1))) (Kd.R_base ho0) hb); have n1_ := Aside0.mk (Kd.R_lower (Kd.R_new' ho0 (Kd.R_lt (by (with_reducible repeat (first | apply Kd.R_alloc | apply Kd.R_drewN | apply Kd.R_drew)); exact (Kd.R_mono (Kd.R_far (p := ⟨gb1075, 4, none⟩) (Kd.R_far (p := ⟨gb1075, 3, none⟩) (Kd.R_far (p := ⟨gb1075, 2, none⟩) (Kd.R_far (p := ⟨gb1075, 1, none⟩) (Kd.R_far (p := ⟨gb1075, 0, none⟩) (Kd.R_types HO_7.out BK1075.out (by decide)) (fun _ hk => hk.2) (.int .i64 ((rd_T67 l1 x20_1).f0))) (fun _ hk => hk.2) (.slice A1074_1 ((rd_T67 l1 x20_1).f1).length c1074_1)) (fun _ hk => hk.2) (.int .i64 ((rd_T67 l1 x20_1).f2))) (fun _ hk => hk.2) (.int .i64 ((rd_T67 l1 x20_1).f3))) (fun _ hk => hk.2) (.int .i64 ((rd_T67 l1 x20_1).f4))) (fun _ h_ => h_.1))))) (below_size (by repeat (first | (with_reducible first | exact HB.out | apply below_alloc | apply pw_below_drewN | apply below_drew1 | refine below_set ?_ GE1075.out) | exact HB.out)))); have n2_ := Aside0.mk (blk_below (g := gb1075) (o := .cells #[.int .i64 ((rd_T67 l1 x20_1).f0), .slice A1074_1 ((rd_T67 l1 x20_1).f1).length c1074_1, .int .i64 ((rd_T67 l1 x20_1).f2), .int .i64 ((rd_T67 l1 x20_1).f3), .int .i64 ((rd_T67 l1 x20_1).f4)] 67 (0, 0)) (by (with_reducible repeat (first | refine blk_drewN ?_ _ | refine blk_drew ?_ | refine blk_alloc ?_ _)); refine blk_put (cs := #[.int .i64 ((rd_T67 l1 x20_1).f0), .slice A1074_1 ((rd_T67 l1 x20_1).f1).length c1074_1, .int .i64 ((rd_T67 l1 x20_1).f2), .int .i64 ((rd_T67 l1 x20_1).f3), .int .i64 0]) ?_ 4 _ rfl; (with_reducible repeat (first | refine blk_drewN ?_ _ | refine blk_drew ?_ | refine blk_alloc ?_ _)); refine blk_put (cs := #[.int .i64 ((rd_T67 l1 x20_1).f0), .slice A1074_1 ((rd_T67 l1 x20_1).f1).length c1074_1, .int .i64 ((rd_T67 l1 x20_1).f2), .int .i64 0, .int .i64 0]) ?_ 3 _ rfl; (with_reducible repeat (first | refine blk_drewN ?_ _ | refine blk_drew ?_ | refine blk_alloc ?_ _)); refine blk_put (cs := #[.int .i64 ((rd_T67 l1 x20_1).f0), .slice A1074_1 ((rd_T67 l1 x20_1).f1).length c1074_1, .int .i64 0, .int .i64 0, .int .i64 0]) ?_ 2 _ rfl; (with_reducible repeat (first | refine blk_drewN ?_ _ | refine blk_drew ?_ | refine blk_alloc ?_ _)); refine blk_put (cs := #[.int .i64 ((rd_T67 l1 x20_1).f0), .slice none 0 0, .int .i64 0, .int .i64 0, .int .i64 0]) ?_ 1 _ rfl; (with_reducible repeat (first | refine blk_drewN ?_ _ | refine blk_drew ?_ | refine blk_alloc ?_ _)); refine blk_put (cs := #[.int .i64 0, .slice none 0 0, .int .i64 0, .int .i64 0, .int .i64 0]) ?_ 0 _ rfl; (with_reducible repeat (first | refine blk_drewN ?_ _ | refine blk_drew ?_ | refine blk_alloc ?_ _)); exact BK1075.out) hb); have n3_ := Aside0.mk (below_step (by repeat (first | (with_reducible first | exact HB.out | apply below_alloc | apply pw_below_drewN | apply below_drew1 | refine below_set ?_ GE1075.out) | exact HB.out)) hb); clear HO_7; clear BK1075; clear HB; have HO_7 := n0_; have HO1078 := n1_; have BK1075 := n2_; have HB := n3_; clear n0_ n1_ n2_ n3_; (try clear hb); (try clear hb2); (try clear hk); (try clear hi); (try clear ho0)))
        go_ret3
        exact ⟨_, ea_, rx_ (Kd.R_mono HO_7.out (fun _ hk => trivial)), (bl_ HB).out⟩
      ·rw [if_neg c10] at H
       exact absurd H (by simp)
     ·rw [if_neg c9] at H
      exact absurd H (by simp)
    ·rw [if_neg c8] at H
     have c8b0 : decide (x20_1 < (l1.length : Int)) = false := decide_eq_false c8
     clear c8
     simp only [Option.some.injEq, Prod.mk.injEq] at H
     obtain ⟨rfl, rfl, rfl⟩ := H
     go_wp2
     go_ret3
     exact ⟨_, ea_, rx_ HO_7.out, (bl_ HB).out⟩
 ·replace c4 := Bool.eq_false_iff.mpr c4
  subst c4
  have H1 : (some ((([] : List (S90))), 0, 2)) = some (r1, r2, r3) := by rw [if_neg (show ¬ (false = true) by decide)] at H; exact H
  clear H
  have H := H1
  clear H1
  obtain ⟨y1068, hy1068⟩ : ∃ y_ : List (S90), y_ = (([] : List (S90))) := ⟨_, rfl⟩
  replace H : (some (y1068, 0, 2)) = some (r1, r2, r3) := by first | (rw [hy1068]; with_reducible exact H) | (have H2_ := (Option.bind_some _ _).symm.trans H; rw [hy1068]; with_reducible exact H2_) | (have H2_ := (Option.bind_some _ _).symm.trans H; with_reducible exact H2_) | with_reducible exact H | (rw [hy1068]; exact H) | exact H
  have Ny1068 := Aside0.mk hy1068
  clear hy1068
  simp only [Option.some.injEq, Prod.mk.injEq] at H
  obtain ⟨rfl, rfl, rfl⟩ := H
  go_enter Try.func52, Try.ntmps52
  go_wp2_with (first | ((with_reducible refine gate_callee (f := 102) rfl ?_); refine gL_ (some 13) Try.func102 #[.slice A0 l0.length c0] ?_; (with_reducible refine (impl_TreeOk.calls k _ _ l0 false _ (cc_ HR0.out) HC0.out A3.out).mono ?_); rintro e w21 ⟨rfl, hb⟩; refine ⟨_, rfl, ?_⟩; replace HB := tB_ HB hb; (try clear hb)) | ((with_reducible refine gate_dst (N := 15) rfl ?_); refine Kd.R_lit k90 _ 90 ?hg (N := 15) ?hd (xs := ([] : List (S90))) (inner := []) (ok := fun _ => True) (okp := fun _ => True) ?hr ?hp (fun _ hk => hk) trivial (Below.refl _ _) (Nat.le_refl _) (by simp) ?_; (case hd => rfl); (case hg => rfl); (case hr => first | (go_simp; done) | (go_simp; rfl)); (case hp => exact (Reps.none _ _)); intro v1069 w22 ho23 hb hg_ hnew_; clear hg_ hnew_; (first | rw [← Ny1068.out] at ho23 | (simp only [Int.reduceToNat] at ho23; rw [← Ny1068.out] at ho23)); have HO1070 := Aside0.mk (Kd.R_lower ho23 (bs_ HB)); replace HB := tB_ HB hb; clear hb ho23))
  go_ret3
  exact ⟨_, ea_, rx_ HO1070.out, (bl_ HB).out⟩
end Go.Proofs.Ytbifdckfglejkaa.X
namespace Go.Proofs.Ytbifdckfglejkaa.X
open Go.RowKit Go.Proofs.YtbifdckfglejkaaW.PrintWords Go.Proofs.YtbifdckfglejkaaW.PrintLast Go.Proofs.YtbifdckfglejkaaW.PrintMore
attribute [local go_sem] max2_int min2_int max_two min_two max_three min_three max_four min_four   -- for this text's walks alone
set_option linter.unusedVariables false
set_option linter.unusedSimpArgs false
def laws_FnApplied.j0 : Nat → List Int → List (S90) → List (S67) → List (S90) → Int → Int → Bool → Option (Bool)
 | 0, _, _, _, _, _, _, _ => none
 | k + 1, x0, x3, x4, x5, x6, x7, x52 => if x52 = true then (some false) else ((spec_TreeOk.f k x3).bind fun t1553 => (if t1553 = true then ((laws_cutAt.f x0 0 x6).bind fun t1554 => (if 0 ≤ t1554 then (if t1554 ≤ (x4.length : Int) then ((impl_ApplyAll.f k x3 (x4.take (t1554 : Int).toNat)).bind fun bt1559 => ((impl_ApplyAll.f k bt1559.1 (x4.drop (t1554 : Int).toNat)).bind fun bt1568 => (if bt1559.2.2 = 0 then ((spec_SameTree.f k bt1568.1 x5).bind fun t1573 => (if t1573 = true then (if bt1568.2.1 = (wrap64 (x6 - t1554)) then (if bt1568.2.2 = x7 then (if ((x6 == (x4.length : Int)) == (x7 == 0)) = true then ((spec_TreeOk.f k x5).bind fun t1574 => (some t1574)) else (some false)) else (some false)) else (some false)) else (some false))) else (some false)))) else (none)) else (none))) else (if (x5.length : Int) = 0 then (some (x6 == 0)) else (some false))))
def laws_FnApplied.f (k : Nat) (l0 : List Int) : Option (Bool) := (laws_big.f l0).bind fun t1535 => (if t1535 = true then (some true) else ((spec_DrawApplyAll.f k l0).bind fun bt1536 => ((impl_ApplyAll.f k bt1536.1 bt1536.2).bind fun bt1542 => ((spec_ApplyAll.f k bt1536.1 bt1536.2).bind fun bt1547 => (if bt1542.2.1 = bt1547.2.1 then (if bt1542.2.2 = bt1547.2.2 then ((spec_SameTree.f k bt1542.1 bt1547.1).bind fun t1552 => (laws_FnApplied.j0 k l0 bt1536.1 bt1536.2 bt1542.1 bt1542.2.1 bt1542.2.2 (!t1552))) else (laws_FnApplied.j0 k l0 bt1536.1 bt1536.2 bt1542.1 bt1542.2.1 bt1542.2.2 true)) else (laws_FnApplied.j0 k l0 bt1536.1 bt1536.2 bt1542.1 bt1542.2.1 bt1542.2.2 true))))))
set_option maxHeartbeats 8000000 in
set_option maxRecDepth 100000 in
theorem laws_FnApplied.calls (k : Nat) (A0 : Option Addr) (c0 : Nat) (l0 : List Int) (r : Bool) (w : World) (hr0 : Kd.C (Kd.int .u8) w A0 l0.length l0) (hc0 : l0.length ≤ c0) (h : laws_FnApplied.f k l0 = some r) :
  Calls Try.prog 13 #[.slice A0 l0.length c0] w fun e w' => e = .returned (.bool r) ∧ Below w.heap.size w w' := by
 have HR0 := Aside0.mk hr0
 have HC0 := Aside0.mk hc0
 clear hr0 hc0
 have HB := Aside0.mk (Below.refl w.heap.size w)
 have H : ((laws_big.f l0).bind fun t1535 => (if t1535 = true then (some true) else ((spec_DrawApplyAll.f k l0).bind fun bt1536 => ((impl_ApplyAll.f k bt1536.1 bt1536.2).bind fun bt1542 => ((spec_ApplyAll.f k bt1536.1 bt1536.2).bind fun bt1547 => (if bt1542.2.1 = bt1547.2.1 then (if bt1542.2.2 = bt1547.2.2 then ((spec_SameTree.f k bt1542.1 bt1547.1).bind fun t1552 => (laws_FnApplied.j0 k l0 bt1536.1 bt1536.2 bt1542.1 bt1542.2.1 bt1542.2.2 (!t1552))) else (laws_FnApplied.j0 k l0 bt1536.1 bt1536.2 bt1542.1 bt1542.2.1 bt1542.2.2 true)) else (laws_FnApplied.j0 k l0 bt1536.1 bt1536.2 bt1542.1 bt1542.2.1 bt1542.2.2 true))))))) = some r := h
 clear h
 replace H := Option.bind_eq_some_iff.mp H
 obtain ⟨t1535, A20, H⟩ := H
 try dsimp only at H
 have A2 := Aside0.mk A20
 clear A20
 by_cases c3 : t1535 = true
 ·subst c3
  have H1 : (some true) = some r := by rw [if_pos rfl] at H; exact H
  clear H
  have H := H1
  clear H1
  obtain rfl := Option.some.inj H
  go_enter Try.func13, Try.ntmps13
  go_wp2_with (first | ((with_reducible refine gate_callee (f := 57) rfl ?_); refine gL_ (some 19) Try.func57 #[.slice A0 l0.length c0] ?_; (with_reducible refine (laws_big.calls _ _ l0 true _ (cc_ HR0.out) HC0.out A2.out).mono ?_); rintro e w' ⟨rfl, ⟨nd, rfl⟩⟩; refine ⟨_, rfl, ?_⟩))
  go_ret
  exact ⟨ea_, (bl_ HB).out⟩
 ·replace c3 := Bool.eq_false_iff.mpr c3
  subst c3
  have H1 : ((spec_DrawApplyAll.f k l0).bind fun bt1536 => ((impl_ApplyAll.f k bt1536.1 bt1536.2).bind fun bt1542 => ((spec_ApplyAll.f k bt1536.1 bt1536.2).bind fun bt1547 => (if bt1542.2.1 = bt1547.2.1 then (if bt1542.2.2 = bt1547.2.2 then ((spec_SameTree.f k bt1542.1 bt1547.1).bind fun t1552 => (laws_FnApplied.j0 k l0 bt1536.1 bt1536.2 bt1542.1 bt1542.2.1 bt1542.2.2 (!t1552))) else (laws_FnApplied.j0 k l0 bt1536.1 bt1536.2 bt1542.1 bt1542.2.1 bt1542.2.2 true)) else (laws_FnApplied.j0 k l0 bt1536.1 bt1536.2 bt1542.1 bt1542.2.1 bt1542.2.2 true))))) = some r := by rw [if_neg (show ¬ (false = true) by decide)] at H; exact H
  clear H
  have H := H1
  clear H1
  replace H := Option.bind_eq_some_iff.mp H
  obtain ⟨⟨t1536, t1537⟩, A40, H⟩ := H
  try dsimp only at H
  have A4 := Aside0.mk A40
  clear A40
  replace H := Option.bind_eq_some_iff.mp H
  obtain ⟨⟨t1542, t1543, t1544⟩, A50, H⟩ := H
  try dsimp only at H
  have A5 := Aside0.mk A50
  clear A50
  replace H := Option.bind_eq_some_iff.mp H
  obtain ⟨⟨t1547, t1548, t1549⟩, A60, H⟩ := H
  try dsimp only at H
  have A6 := Aside0.mk A60
  clear A60
  have HC7 := Aside0.mk H
  clear H
  go_enter Try.func13, Try.ntmps13
  go_upto_region 6 with (first | ((with_reducible refine gate_callee (f := 57) rfl ?_); refine gL_ (some 19) Try.func57 #[.slice A0 l0.length c0] ?_; (with_reducible refine (laws_big.calls _ _ l0 false _ (cc_ HR0.out) HC0.out A2.out).mono ?_); rintro e w' ⟨rfl, ⟨nd, rfl⟩⟩; refine ⟨_, rfl, ?_⟩) | ((with_reducible refine gate_callee (f := 63) rfl ?_); refine gL_ (some 22) Try.func63 #[.slice A0 l0.length c0] ?_; (with_reducible refine (spec_DrawApplyAll.calls k _ _ l0 t1536 t1537 _ (cc_ HR0.out) HC0.out A4.out).mono ?_); rintro e w8 ⟨v1538, v1540, rfl, ho0, ho1, hb⟩; refine ⟨_, rfl, ?_⟩; have HO1539 := Aside0.mk (Kd.Q_lower ho0 (bs_ HB)); have HO1541 := Aside0.mk (Kd.S_lower ho1 (bs_ HB)); replace HB := tB_ HB hb; (try clear hb); (try clear ho0); (try clear ho1); obtain ⟨Ao9, co9, eo9, _⟩ := Kd.Q_slice HO1539.out; subst eo9; obtain ⟨Ao10, co10, eo10⟩ := Kd.S_slice HO1541.out; subst eo10) | ((with_reducible refine gate_callee (f := 52) rfl ?_); refine gL_ (some 28) Try.func52 #[.slice Ao9 t1536.length co9, .slice Ao10 t1537.length co10] ?_; (with_reducible refine (impl_ApplyAll.calls k _ _ t1536 _ _ t1537 t1542 t1543 t1544 _ (cc_ (Kd.Q_reads' HO1539.out).2.2) ((Kd.Q_reads' HO1539.out).2.1) (cc_ (Kd.S_reads' HO1541.out).2.2) ((Kd.S_reads' HO1541.out).2.1) A5.out).mono ?_); rintro e w11 ⟨v1545, rfl, ho0, hb⟩; refine ⟨_, rfl, ?_⟩; replace HO1541 := Aside0.mk (Kd.S_below (sx_ HO1541.out) hb); have HO1546 := Aside0.mk (Kd.R_lower (Kd.R_new' ho0 (Kd.Q_lt (qx_ HO1539.out))) (bs_ HB)); replace HO1539 := Aside0.mk (Kd.Q_elder' (qx_ HO1539.out) (Kd.R_base ho0) hb); replace HB := tB_ HB hb; (try clear hb); (try clear ho0)) | ((with_reducible refine gate_callee (f := 50) rfl ?_); refine gL_ (some 35) Try.func50 #[.slice Ao9 t1536.length co9, .slice Ao10 t1537.length co10] ?_; (with_reducible refine (spec_ApplyAll.calls k _ _ t1536 _ _ t1537 t1547 t1548 t1549 _ (cc_ (Kd.Q_reads' HO1539.out).2.2) ((Kd.Q_reads' HO1539.out).2.1) (cc_ (Kd.S_reads' HO1541.out).2.2) ((Kd.S_reads' HO1541.out).2.1) A6.out).mono ?_); rintro e w12 ⟨v1550, rfl, ho0, hb⟩; refine ⟨_, rfl, ?_⟩; replace HO1541 := Aside0.mk (Kd.S_below (sx_ HO1541.out) hb); have HO1551 := Aside0.mk (Kd.R_lower (Kd.R_new' (Kd.R_new' ho0 (Kd.Q_lt (qx_ HO1539.out))) (Kd.R_lt (rx_ HO1546.out))) (bs_ HB)); replace HO1539 := Aside0.mk (Kd.Q_elder' (qx_ HO1539.out) (Kd.R_base ho0) hb); replace HO1546 := Aside0.mk (Kd.R_elder' (rx_ HO1546.out) (Kd.R_base ho0) hb); replace HB := tB_ HB hb; (try clear hb); (try clear ho0)))
  (try simp only [Act.put, List.setIfInBounds_toArray, List.set_cons_zero, List.set_cons_succ])
  go_cut [52] (fun v52 wc => ∃ (kq : Nat) (x52_6 : Bool), v52 = .bool x52_6 ∧ Aside0 (laws_FnApplied.j0 kq l0 t1536 t1537 t1542 t1543 t1544 x52_6 = some r) ∧ Aside0 (kq ≤ k) ∧ Aside0 (Kd.Q k90 90 wc w.heap.size (fun k_ => some k_ ≠ (v1545 : Value).ownBlock) (.slice Ao9 t1536.length co9) t1536) ∧ Aside0 (Kd.S k67 67 wc w.heap.size (fun _ => True) (.slice Ao10 t1537.length co10) t1537) ∧ Aside0 (Kd.R k90 90 wc w.heap.size (fun k_ => some k_ ≠ ((.slice Ao9 t1536.length co9) : Value).ownBlock) v1545 t1542) ∧ Aside0 (Below w.heap.size w wc))
  case first =>
   have H := HC7.out
   clear HC7
   by_cases c13 : t1543 = t1548
   ·rw [if_pos c13] at H
    have c13b0 : (t1543 == t1548) = true := beq_iff_eq.mpr c13
    have c13b1 : (t1543 != t1548) = false := bne_eq_false_iff_eq.mpr c13
    clear c13
    (first | rw [c13b0] | (simp only [i64_w, i32_w]; rw [c13b0]) | skip)
    by_cases c14 : t1544 = t1549
    ·rw [if_pos c14] at H
     have c14b0 : (t1544 == t1549) = true := beq_iff_eq.mpr c14
     have c14b1 : (t1544 != t1549) = false := bne_eq_false_iff_eq.mpr c14
     clear c14
     replace H := Option.bind_eq_some_iff.mp H
     obtain ⟨t1552, A150, H⟩ := H
     replace H : (laws_FnApplied.j0 k l0 t1536 t1537 t1542 t1543 t1544 (!t1552)) = some r := H
     have A15 := Aside0.mk A150
     clear A150
     have H' := Aside0.mk H
     clear H
     obtain ⟨Ao16, co16, eo16⟩ := Kd.R_slice HO1546.out
     subst eo16
     obtain ⟨Ao17, co17, eo17⟩ := Kd.R_slice HO1551.out
     subst eo17
     go_wp2_with (first | (go_at_call 62; (with_reducible refine (spec_SameTree.calls k _ _ t1542 _ _ t1547 t1552 _ (cc_ (Kd.R_reads' HO1546.out).2.2) ((Kd.R_reads' HO1546.out).2.1) (cc_ (Kd.R_reads' HO1551.out).2.2) ((Kd.R_reads' HO1551.out).2.1) A15.out).mono ?_); rintro e w' ⟨rfl, ⟨nd, rfl⟩⟩))
     go_meet
     case rel => exact ⟨_, (!t1552), eb_, H', ⟨by first | omega | exact Nat.le_refl _⟩, ⟨qx_ (Kd.Q_mono HO1539.out (fun _ hk => hk.1.2))⟩, ⟨sx_ HO1541.out⟩, ⟨rx_ (Kd.R_mono HO1546.out (fun _ hk => hk.1.2))⟩, bl_ HB⟩
    ·rw [if_neg c14] at H
     have c14b0 : (t1544 == t1549) = false := beq_eq_false_iff_ne.mpr c14
     have c14b1 : (t1544 != t1549) = true := bne_iff_ne.mpr c14
     have H' := Aside0.mk H
     clear H
     go_wp2
     go_meet
     case rel => exact ⟨_, (true), eb_, H', ⟨by first | omega | exact Nat.le_refl _⟩, ⟨qx_ (Kd.Q_mono HO1539.out (fun _ hk => hk.1.2))⟩, ⟨sx_ HO1541.out⟩, ⟨rx_ (Kd.R_mono HO1546.out (fun _ hk => hk.1.2))⟩, bl_ HB⟩
   ·rw [if_neg c13] at H
    have c13b0 : (t1543 == t1548) = false := beq_eq_false_iff_ne.mpr c13
    have c13b1 : (t1543 != t1548) = true := bne_iff_ne.mpr c13
    (first | rw [c13b0] | (simp only [i64_w, i32_w]; rw [c13b0]) | skip)
    have H' := Aside0.mk H
    clear H
    go_wp2
    go_meet
    case rel => exact ⟨_, (true), eb_, H', ⟨by first | omega | exact Nat.le_refl _⟩, ⟨qx_ (Kd.Q_mono HO1539.out (fun _ hk => hk.1.2))⟩, ⟨sx_ HO1541.out⟩, ⟨rx_ (Kd.R_mono HO1546.out (fun _ hk => hk.1.2))⟩, bl_ HB⟩
  case rest =>
   clear HC7
   try clear c1
   try clear p2
   try clear c3
   try clear c5
   try clear c6
   try clear c13
   try clear c13b0
   try clear c13b1
   try clear c14
   try clear c14b0
   try clear c14b1
   obtain ⟨kq, x52_6, rfl, HA, HJ6, HO_3, HO_4, HO_5, HB⟩ := hcut
   cases kq with
   | zero => exact absurd HA.out (by simp [laws_FnApplied.j0])
   | succ kj6 =>
    have H := HA.out
    clear HA
    simp only [laws_FnApplied.j0] at H
    by_cases c18 : x52_6 = true
    ·subst c18
     have H1 : (some false) = some r := by rw [if_pos rfl] at H; exact H
     clear H
     have H := H1
     clear H1
     obtain rfl := Option.some.inj H
     go_wp2
     go_ret
     exact ⟨ea_, (bl_ HB).out⟩
    ·replace c18 := Bool.eq_false_iff.mpr c18
     subst c18
     have H1 : ((spec_TreeOk.f kj6 t1536).bind fun t1553 => (if t1553 = true then ((laws_cutAt.f l0 0 t1543).bind fun t1554 => (if 0 ≤ t1554 then (if t1554 ≤ (t1537.length : Int) then ((impl_ApplyAll.f kj6 t1536 (t1537.take (t1554 : Int).toNat)).bind fun bt1559 => ((impl_ApplyAll.f kj6 bt1559.1 (t1537.drop (t1554 : Int).toNat)).bind fun bt1568 => (if bt1559.2.2 = 0 then ((spec_SameTree.f kj6 bt1568.1 t1542).bind fun t1573 => (if t1573 = true then (if bt1568.2.1 = (wrap64 (t1543 - t1554)) then (if bt1568.2.2 = t1544 then (if ((t1543 == (t1537.length : Int)) == (t1544 == 0)) = true then ((spec_TreeOk.f kj6 t1542).bind fun t1574 => (some t1574)) else (some false)) else (some false)) else (some false)) else (some false))) else (some false)))) else (none)) else (none))) else (if (t1542.length : Int) = 0 then (some (t1543 == 0)) else (some false)))) = some r := by rw [if_neg (show ¬ (false = true) by decide)] at H; exact H
     clear H
     have H := H1
     clear H1
     replace H := Option.bind_eq_some_iff.mp H
     obtain ⟨t1553, A190, H⟩ := H
     try dsimp only at H
     have A19 := Aside0.mk A190
     clear A190
     by_cases c20 : t1553 = true
     ·subst c20
      have H1 : ((laws_cutAt.f l0 0 t1543).bind fun t1554 => (if 0 ≤ t1554 then (if t1554 ≤ (t1537.length : Int) then ((impl_ApplyAll.f kj6 t1536 (t1537.take (t1554 : Int).toNat)).bind fun bt1559 => ((impl_ApplyAll.f kj6 bt1559.1 (t1537.drop (t1554 : Int).toNat)).bind fun bt1568 => (if bt1559.2.2 = 0 then ((spec_SameTree.f kj6 bt1568.1 t1542).bind fun t1573 => (if t1573 = true then (if bt1568.2.1 = (wrap64 (t1543 - t1554)) then (if bt1568.2.2 = t1544 then (if ((t1543 == (t1537.length : Int)) == (t1544 == 0)) = true then ((spec_TreeOk.f kj6 t1542).bind fun t1574 => (some t1574)) else (some false)) else (some false)) else (some false)) else (some false))) else (some false)))) else (none)) else (none))) = some r := by rw [if_pos rfl] at H; exact H
      clear H
      have H := H1
      clear H1
      replace H := Option.bind_eq_some_iff.mp H
      obtain ⟨t1554, A210, H⟩ := H
      try dsimp only at H
      have A21 := Aside0.mk A210
      clear A210
      by_cases c22 : 0 ≤ t1554
      ·rw [if_pos c22] at H
       have c22b0 := eq_true c22
       have c22b1 : decide (0 ≤ t1554) = true := decide_eq_true c22
       clear c22
       by_cases c23 : t1554 ≤ (t1537.length : Int)
       ·rw [if_pos c23] at H
        have c23b0 := eq_true c23
        have c23b1 : decide (t1554 ≤ (t1537.length : Int)) = true := decide_eq_true c23
        clear c23
        obtain ⟨y1555, hy1555⟩ : ∃ y_ : List (S67), y_ = (t1537.take (t1554 : Int).toNat) := ⟨_, rfl⟩
        replace H : ((impl_ApplyAll.f kj6 t1536 y1555).bind fun bt1559 => ((impl_ApplyAll.f kj6 bt1559.1 (t1537.drop (t1554 : Int).toNat)).bind fun bt1568 => (if bt1559.2.2 = 0 then ((spec_SameTree.f kj6 bt1568.1 t1542).bind fun t1573 => (if t1573 = true then (if bt1568.2.1 = (wrap64 (t1543 - t1554)) then (if bt1568.2.2 = t1544 then (if ((t1543 == (t1537.length : Int)) == (t1544 == 0)) = true then ((spec_TreeOk.f kj6 t1542).bind fun t1574 => (some t1574)) else (some false)) else (some false)) else (some false)) else (some false))) else (some false)))) = some r := by first | (rw [hy1555]; with_reducible exact H) | (have H2_ := (Option.bind_some _ _).symm.trans H; rw [hy1555]; with_reducible exact H2_) | (have H2_ := (Option.bind_some _ _).symm.trans H; with_reducible exact H2_) | with_reducible exact H | (rw [hy1555]; exact H) | exact H
        have Ny1555 := Aside0.mk hy1555
        clear hy1555
        replace H := Option.bind_eq_some_iff.mp H
        obtain ⟨⟨t1559, t1560, t1561⟩, A240, H⟩ := H
        try dsimp only at H
        have A24 := Aside0.mk A240
        clear A240
        have c25b0 := eq_true (od_ : 0 ≤ t1554)
        have c26b0 := eq_true (od_ : t1554 ≤ (t1537.length : Int))
        obtain ⟨y1564, hy1564⟩ : ∃ y_ : List (S67), y_ = (t1537.drop (t1554 : Int).toNat) := ⟨_, rfl⟩
        replace H : ((impl_ApplyAll.f kj6 t1559 y1564).bind fun bt1568 => (if t1561 = 0 then ((spec_SameTree.f kj6 bt1568.1 t1542).bind fun t1573 => (if t1573 = true then (if bt1568.2.1 = (wrap64 (t1543 - t1554)) then (if bt1568.2.2 = t1544 then (if ((t1543 == (t1537.length : Int)) == (t1544 == 0)) = true then ((spec_TreeOk.f kj6 t1542).bind fun t1574 => (some t1574)) else (some false)) else (some false)) else (some false)) else (some false))) else (some false))) = some r := by first | (rw [hy1564]; with_reducible exact H) | (have H2_ := (Option.bind_some _ _).symm.trans H; rw [hy1564]; with_reducible exact H2_) | (have H2_ := (Option.bind_some _ _).symm.trans H; with_reducible exact H2_) | with_reducible exact H | (rw [hy1564]; exact H) | exact H
        have Ny1564 := Aside0.mk hy1564
        clear hy1564
        replace H := Option.bind_eq_some_iff.mp H
        obtain ⟨⟨t1568, t1569, t1570⟩, A270, H⟩ := H
        try dsimp only at H
        have A27 := Aside0.mk A270
        clear A270
        by_cases c28 : t1561 = 0
        ·rw [if_pos c28] at H
         have c28b0 : (t1561 == 0) = true := beq_iff_eq.mpr c28
         have c28b1 : (t1561 != 0) = false := bne_eq_false_iff_eq.mpr c28
         clear c28
         replace H := Option.bind_eq_some_iff.mp H
         obtain ⟨t1573, A290, H⟩ := H
         try dsimp only at H
         have A29 := Aside0.mk A290
         clear A290
         by_cases c30 : t1573 = true
         ·subst c30
          have H1 : (if t1569 = (wrap64 (t1543 - t1554)) then (if t1570 = t1544 then (if ((t1543 == (t1537.length : Int)) == (t1544 == 0)) = true then ((spec_TreeOk.f kj6 t1542).bind fun t1574 => (some t1574)) else (some false)) else (some false)) else (some false)) = some r := by rw [if_pos rfl] at H; exact H
          clear H
          have H := H1
          clear H1
          by_cases c31 : t1569 = (wrap64 (t1543 - t1554))
          ·rw [if_pos c31] at H
           have c31b0 : (t1569 == (wrap64 (t1543 - t1554))) = true := beq_iff_eq.mpr c31
           have c31b1 : (t1569 != (wrap64 (t1543 - t1554))) = false := bne_eq_false_iff_eq.mpr c31
           clear c31
           by_cases c32 : t1570 = t1544
           ·rw [if_pos c32] at H
            have c32b0 : (t1570 == t1544) = true := beq_iff_eq.mpr c32
            have c32b1 : (t1570 != t1544) = false := bne_eq_false_iff_eq.mpr c32
            clear c32
            by_cases c33 : ((t1543 == (t1537.length : Int)) == (t1544 == 0)) = true
            ·rw [if_pos c33] at H
             have c33b0 : ((t1543 == (t1537.length : Int)) == (t1544 == 0)) = true := c33
             (try (have c33b1 : decide ((t1543 == (t1537.length : Int)) = (t1544 == 0)) = true := by simpa using c33))
             (try (have c33b2 : ((t1543 == (t1537.length : Int)) == (t1544 == 0)) = true := by simpa using c33))
             clear c33
             replace H := Option.bind_eq_some_iff.mp H
             obtain ⟨t1574, A340, H⟩ := H
             replace H : (some t1574) = some r := H
             have A34 := Aside0.mk A340
             clear A340
             obtain rfl := Option.some.inj H
             go_wp2_with (first | ((with_reducible refine gate_callee (f := 64) rfl ?_); refine gL_ (some 54) Try.func64 #[.slice Ao9 t1536.length co9] ?_; (with_reducible refine (spec_TreeOk.calls kj6 _ _ t1536 true _ (cc_ (Kd.Q_reads' HO_3.out).2.2) ((Kd.Q_reads' HO_3.out).2.1) A19.out).mono ?_); rintro e w35 ⟨rfl, hb⟩; refine ⟨_, rfl, ?_⟩; replace HO_3 := Aside0.mk (Kd.Q_below (qx_ HO_3.out) hb); replace HO_4 := Aside0.mk (Kd.S_below (sx_ HO_4.out) hb); replace HO_5 := tR_ HO_5 hb; replace HB := tB_ HB hb; (try clear hb)) | ((with_reducible refine gate_callee (f := 65) rfl ?_); refine gL_ (some 65) Try.func65 #[.slice A0 l0.length c0, .int .i64 0, .int .i64 t1543] ?_; (with_reducible refine (laws_cutAt.calls _ _ l0 0 t1543 t1554 _ (cx_ HR0 HB) HC0.out A21.out).mono ?_); rintro e w' ⟨rfl, ⟨nd, rfl⟩⟩; refine ⟨_, rfl, ?_⟩; have q36 : (t1554 : Int) ≤ ((t1537.length : Int) : Int) := od_; obtain ⟨i036, hi036, _, hsz36, _⟩ := info_parts info67; have hroom36 : t1537.length ≤ co10 := (Kd.S_reads' HO_4.out).2.1; have hC36 : Kd.C k67 _ Ao10 t1537.length t1537 := (Kd.S_reads' HO_4.out).2.2; have hcut36 := cut_to (P := Try.prog) 76 67 .i64 Try.underlying76 hi036 Ao10 t1537.length co10 t1554 (od_) q36 hroom36; have hr36 := Kd.C_take (m := (t1554 : Int).toNat) hC36 (by omega); have hy36 : y1555.length = (t1554 : Int).toNat := (by rw [Ny1555.out, List.length_take]; omega); rw [← Ny1555.out] at hr36; rw [← hy36] at hcut36; have HR1558 := Aside0.mk hr36; have HC1558 := Aside0.mk (show y1555.length ≤ co10 from by omega); clear hr36 hC36 hroom36 hi036 hsz36; have KY36 := Aside0.mk hy36; clear hy36; have KL36 := Aside0.mk (show (t1554 : Int).toNat ≤ t1537.length from by omega); replace q36 := eq_true q36) | ((with_reducible refine gate_callee (f := 52) rfl ?_); refine gL_ (some 71) Try.func52 #[.slice Ao9 t1536.length co9, .slice Ao10 y1555.length co10] ?_; (with_reducible refine (impl_ApplyAll.calls kj6 _ _ t1536 _ _ y1555 t1559 t1560 t1561 _ (cc_ (Kd.Q_reads' HO_3.out).2.2) ((Kd.Q_reads' HO_3.out).2.1) (cc_ (by repeat (first | (with_reducible exact HR1558.out) | (with_reducible refine Kd.C_alloc ?_ _) | (with_reducible refine Kd.C_drewN ?_ _) | (with_reducible refine Kd.C_drew ?_) | exact HR1558.out))) HC1558.out A24.out).mono ?_); rintro e w37 ⟨v1562, rfl, ho0, hb⟩; refine ⟨_, rfl, ?_⟩; replace HO_4 := Aside0.mk (Kd.S_below (sx_ HO_4.out) hb); have HO1563 := Aside0.mk (Kd.R_lower (Kd.R_new' (Kd.R_new' ho0 (Kd.Q_lt (qx_ HO_3.out))) (Kd.R_lt (rx_ HO_5.out))) (bs_ HB)); replace HO_3 := Aside0.mk (Kd.Q_elder' (qx_ HO_3.out) (Kd.R_base ho0) hb); replace HO_5 := Aside0.mk (Kd.R_elder' (rx_ HO_5.out) (Kd.R_base ho0) hb); replace HR1558 := Aside0.mk (Kd.C_below (by repeat (first | (with_reducible exact HR1558.out) | (with_reducible refine Kd.C_alloc ?_ _) | (with_reducible refine Kd.C_drewN ?_ _) | (with_reducible refine Kd.C_drew ?_) | exact HR1558.out)) hb); replace HB := tB_ HB hb; (try clear hb); (try clear ho0); have q38 : (t1554 : Int) ≤ ((t1537.length : Int) : Int) := od_; obtain ⟨i038, hi038, _, hsz38, _⟩ := info_parts info67; have hroom38 : t1537.length ≤ co10 := (Kd.S_reads' HO_4.out).2.1; have hC38 : Kd.C k67 _ Ao10 t1537.length t1537 := (Kd.S_reads' HO_4.out).2.2; have q038 : (0 : Int) ≤ (t1554 : Int) := od_; have hcut38 := cut_from (P := Try.prog) 76 67 .i64 Try.underlying76 hi038 5 hsz38 Ao10 t1537.length co10 t1554 q038 q38; have hr38 := Kd.C_drop (m := (t1554 : Int).toNat) (c := co10) hC38 (by omega) hroom38; obtain ⟨A38, hA38⟩ : ∃ A1, A1 = (if co10 = (t1554 : Int).toNat then Ao10 else (Ao10 : Option Addr).map (·.add ((t1554 : Int).toNat * 5))) := ⟨_, rfl⟩; obtain ⟨c38, hc38⟩ : ∃ c1, c1 = co10 - (t1554 : Int).toNat := ⟨_, rfl⟩; have hy38 : y1564.length = t1537.length - (t1554 : Int).toNat := (by rw [Ny1564.out, List.length_drop] <;> omega); rw [show (t1537).drop (t1554 : Int).toNat = y1564 from Ny1564.out.symm] at hr38; replace hr38 : Kd.C k67 _ A38 y1564.length y1564 := (by rw [hA38]; exact hr38); rw [← hy38, ← hA38, ← hc38] at hcut38; have HR1567 := Aside0.mk hr38; have HC1567 := Aside0.mk (show y1564.length ≤ c38 from by rw [hy38, hc38]; exact Nat.sub_le_sub_right hroom38 _); clear hr38 hC38 hroom38 hi038 hsz38 hc38; have KY38 := Aside0.mk hy38; have KA38 := Aside0.mk hA38; clear hy38 hA38; have KL38 := Aside0.mk (show (t1554 : Int).toNat ≤ t1537.length from by omega); replace q38 := eq_true q38; obtain ⟨Ao39, co39, eo39⟩ := Kd.R_slice HO1563.out; subst eo39) | ((with_reducible refine gate_callee (f := 52) rfl ?_); refine gL_ (some 80) Try.func52 #[.slice Ao39 t1559.length co39, .slice A38 y1564.length c38] ?_; (with_reducible refine (impl_ApplyAll.calls kj6 _ _ t1559 _ _ y1564 t1568 t1569 t1570 _ (cc_ (Kd.R_reads' HO1563.out).2.2) ((Kd.R_reads' HO1563.out).2.1) (cc_ (by repeat (first | (with_reducible exact HR1567.out) | (with_reducible refine Kd.C_alloc ?_ _) | (with_reducible refine Kd.C_drewN ?_ _) | (with_reducible refine Kd.C_drew ?_) | exact HR1567.out))) HC1567.out A27.out).mono ?_); rintro e w40 ⟨v1571, rfl, ho0, hb⟩; refine ⟨_, rfl, ?_⟩; replace HO_4 := Aside0.mk (Kd.S_below (sx_ HO_4.out) hb); have HO1572 := Aside0.mk (Kd.R_lower (Kd.R_new' (Kd.R_new' (Kd.R_new' ho0 (Kd.Q_lt (qx_ HO_3.out))) (Kd.R_lt (rx_ HO_5.out))) (Kd.R_lt (rx_ HO1563.out))) (bs_ HB)); replace HO_3 := Aside0.mk (Kd.Q_elder' (qx_ HO_3.out) (Kd.R_base ho0) hb); replace HO_5 := Aside0.mk (Kd.R_elder' (rx_ HO_5.out) (Kd.R_base ho0) hb); replace HO1563 := Aside0.mk (Kd.R_elder' (rx_ HO1563.out) (Kd.R_base ho0) hb); replace HR1558 := Aside0.mk (Kd.C_below (by repeat (first | (with_reducible exact HR1558.out) | (with_reducible refine Kd.C_alloc ?_ _) | (with_reducible refine Kd.C_drewN ?_ _) | (with_reducible refine Kd.C_drew ?_) | exact HR1558.out)) hb); replace HR1567 := Aside0.mk (Kd.C_below (by repeat (first | (with_reducible exact HR1567.out) | (with_reducible refine Kd.C_alloc ?_ _) | (with_reducible refine Kd.C_drewN ?_ _) | (with_reducible refine Kd.C_drew ?_) | exact HR1567.out)) hb); replace HB := tB_ HB hb; (try clear hb); (try clear ho0); obtain ⟨Ao41, co41, eo41⟩ := Kd.R_slice HO1572.out; subst eo41; obtain ⟨Ao42, co42, eo42⟩ := Kd.R_slice HO_5.out; subst eo42) | (go_at_call 62; (with_reducible refine (spec_SameTree.calls kj6 _ _ t1568 _ _ t1542 true _ (cc_ (Kd.R_reads' HO1572.out).2.2) ((Kd.R_reads' HO1572.out).2.1) (cc_ (Kd.R_reads' HO_5.out).2.2) ((Kd.R_reads' HO_5.out).2.1) A29.out).mono ?_); rintro e w' ⟨rfl, ⟨nd, rfl⟩⟩) | (go_at_call 64; (with_reducible refine (spec_TreeOk.calls kj6 _ _ t1542 t1574 _ (cc_ (Kd.R_reads' HO_5.out).2.2) ((Kd.R_reads' HO_5.out).2.1) A34.out).mono ?_); rintro e w43 ⟨rfl, hb⟩; replace HO_3 := Aside0.mk (Kd.Q_below (qx_ HO_3.out) hb); replace HO_4 := Aside0.mk (Kd.S_below (sx_ HO_4.out) hb); replace HO_5 := tR_ HO_5 hb; replace HO1563 := tR_ HO1563 hb; replace HO1572 := tR_ HO1572 hb; replace HR1558 := Aside0.mk (Kd.C_below (by repeat (first | (with_reducible exact HR1558.out) | (with_reducible refine Kd.C_alloc ?_ _) | (with_reducible refine Kd.C_drewN ?_ _) | (with_reducible refine Kd.C_drew ?_) | exact HR1558.out)) hb); replace HR1567 := Aside0.mk (Kd.C_below (by repeat (first | (with_reducible exact HR1567.out) | (with_reducible refine Kd.C_alloc ?_ _) | (with_reducible refine Kd.C_drewN ?_ _) | (with_reducible refine Kd.C_drew ?_) | exact HR1567.out)) hb); replace HB := tB_ HB hb; (try clear hb)))
             go_ret
             exact ⟨ea_, (bl_ HB).out⟩
            ·rw [if_neg c33] at H
             have c33b0 : ((t1543 == (t1537.length : Int)) == (t1544 == 0)) = false := by simpa using c33
             (try (have c33b1 : decide ((t1543 == (t1537.length : Int)) = (t1544 == 0)) = false := by simpa using c33))
             (try (have c33b2 : ((t1543 == (t1537.length : Int)) == (t1544 == 0)) = false := by simpa using c33))
             (try (have c33b3 : ¬ ((t1543 == (t1537.length : Int)) = (t1544 == 0)) := by simpa using c33))
             clear c33
             obtain rfl := Option.some.inj H
             go_wp2_with (first | ((with_reducible refine gate_callee (f := 64) rfl ?_); refine gL_ (some 54) Try.func64 #[.slice Ao9 t1536.length co9] ?_; (with_reducible refine (spec_TreeOk.calls kj6 _ _ t1536 true _ (cc_ (Kd.Q_reads' HO_3.out).2.2) ((Kd.Q_reads' HO_3.out).2.1) A19.out).mono ?_); rintro e w44 ⟨rfl, hb⟩; refine ⟨_, rfl, ?_⟩; replace HO_3 := Aside0.mk (Kd.Q_below (qx_ HO_3.out) hb); replace HO_4 := Aside0.mk (Kd.S_below (sx_ HO_4.out) hb); replace HO_5 := tR_ HO_5 hb; replace HB := tB_ HB hb; (try clear hb)) | ((with_reducible refine gate_callee (f := 65) rfl ?_); refine gL_ (some 65) Try.func65 #[.slice A0 l0.length c0, .int .i64 0, .int .i64 t1543] ?_; (with_reducible refine (laws_cutAt.calls _ _ l0 0 t1543 t1554 _ (cx_ HR0 HB) HC0.out A21.out).mono ?_); rintro e w' ⟨rfl, ⟨nd, rfl⟩⟩; refine ⟨_, rfl, ?_⟩; have q45 : (t1554 : Int) ≤ ((t1537.length : Int) : Int) := od_; obtain ⟨i045, hi045, _, hsz45, _⟩ := info_parts info67; have hroom45 : t1537.length ≤ co10 := (Kd.S_reads' HO_4.out).2.1; have hC45 : Kd.C k67 _ Ao10 t1537.length t1537 := (Kd.S_reads' HO_4.out).2.2; have hcut45 := cut_to (P := Try.prog) 76 67 .i64 Try.underlying76 hi045 Ao10 t1537.length co10 t1554 (od_) q45 hroom45; have hr45 := Kd.C_take (m := (t1554 : Int).toNat) hC45 (by omega); have hy45 : y1555.length = (t1554 : Int).toNat := (by rw [Ny1555.out, List.length_take]; omega); rw [← Ny1555.out] at hr45; rw [← hy45] at hcut45; have HR1558 := Aside0.mk hr45; have HC1558 := Aside0.mk (show y1555.length ≤ co10 from by omega); clear hr45 hC45 hroom45 hi045 hsz45; have KY45 := Aside0.mk hy45; clear hy45; have KL45 := Aside0.mk (show (t1554 : Int).toNat ≤ t1537.length from by omega); replace q45 := eq_true q45) | ((with_reducible refine gate_callee (f := 52) rfl ?_); refine gL_ (some 71) Try.func52 #[.slice Ao9 t1536.length co9, .slice Ao10 y1555.length co10] ?_; (with_reducible refine (impl_ApplyAll.calls kj6 _ _ t1536 _ _ y1555 t1559 t1560 t1561 _ (cc_ (Kd.Q_reads' HO_3.out).2.2) ((Kd.Q_reads' HO_3.out).2.1) (cc_ (by repeat (first | (with_reducible exact HR1558.out) | (with_reducible refine Kd.C_alloc ?_ _) | (with_reducible refine Kd.C_drewN ?_ _) | (with_reducible refine Kd.C_drew ?_) | exact HR1558.out))) HC1558.out A24.out).mono ?_); rintro e w46 ⟨v1562, rfl, ho0, hb⟩; refine ⟨_, rfl, ?_⟩; replace HO_4 := Aside0.mk (Kd.S_below (sx_ HO_4.out) hb); have HO1563 := Aside0.mk (Kd.R_lower (Kd.R_new' (Kd.R_new' ho0 (Kd.Q_lt (qx_ HO_3.out))) (Kd.R_lt (rx_ HO_5.out))) (bs_ HB)); replace HO_3 := Aside0.mk (Kd.Q_elder' (qx_ HO_3.out) (Kd.R_base ho0) hb); replace HO_5 := Aside0.mk (Kd.R_elder' (rx_ HO_5.out) (Kd.R_base ho0) hb); replace HR1558 := Aside0.mk (Kd.C_below (by repeat (first | (with_reducible exact HR1558.out) | (with_reducible refine Kd.C_alloc ?_ _) | (with_reducible refine Kd.C_drewN ?_ _) | (with_reducible refine Kd.C_drew ?_) | exact HR1558.out)) hb); replace HB := tB_ HB hb; (try clear hb); (try clear ho0); have q47 : (t1554 : Int) ≤ ((t1537.length : Int) : Int) := od_; obtain ⟨i047, hi047, _, hsz47, _⟩ := info_parts info67; have hroom47 : t1537.length ≤ co10 := (Kd.S_reads' HO_4.out).2.1; have hC47 : Kd.C k67 _ Ao10 t1537.length t1537 := (Kd.S_reads' HO_4.out).2.2; have q047 : (0 : Int) ≤ (t1554 : Int) := od_; have hcut47 := cut_from (P := Try.prog) 76 67 .i64 Try.underlying76 hi047 5 hsz47 Ao10 t1537.length co10 t1554 q047 q47; have hr47 := Kd.C_drop (m := (t1554 : Int).toNat) (c := co10) hC47 (by omega) hroom47; obtain ⟨A47, hA47⟩ : ∃ A1, A1 = (if co10 = (t1554 : Int).toNat then Ao10 else (Ao10 : Option Addr).map (·.add ((t1554 : Int).toNat * 5))) := ⟨_, rfl⟩; obtain ⟨c47, hc47⟩ : ∃ c1, c1 = co10 - (t1554 : Int).toNat := ⟨_, rfl⟩; have hy47 : y1564.length = t1537.length - (t1554 : Int).toNat := (by rw [Ny1564.out, List.length_drop] <;> omega); rw [show (t1537).drop (t1554 : Int).toNat = y1564 from Ny1564.out.symm] at hr47; replace hr47 : Kd.C k67 _ A47 y1564.length y1564 := (by rw [hA47]; exact hr47); rw [← hy47, ← hA47, ← hc47] at hcut47; have HR1567 := Aside0.mk hr47; have HC1567 := Aside0.mk (show y1564.length ≤ c47 from by rw [hy47, hc47]; exact Nat.sub_le_sub_right hroom47 _); clear hr47 hC47 hroom47 hi047 hsz47 hc47; have KY47 := Aside0.mk hy47; have KA47 := Aside0.mk hA47; clear hy47 hA47; have KL47 := Aside0.mk (show (t1554 : Int).toNat ≤ t1537.length from by omega); replace q47 := eq_true q47; obtain ⟨Ao48, co48, eo48⟩ := Kd.R_slice HO1563.out; subst eo48) | ((with_reducible refine gate_callee (f := 52) rfl ?_); refine gL_ (some 80) Try.func52 #[.slice Ao48 t1559.length co48, .slice A47 y1564.length c47] ?_; (with_reducible refine (impl_ApplyAll.calls kj6 _ _ t1559 _ _ y1564 t1568 t1569 t1570 _ (cc_ (Kd.R_reads' HO1563.out).2.2) ((Kd.R_reads' HO1563.out).2.1) (cc_ (by repeat (first | (with_reducible exact HR1567.out) | (with_reducible refine Kd.C_alloc ?_ _) | (with_reducible refine Kd.C_drewN ?_ _) | (with_reducible refine Kd.C_drew ?_) | exact HR1567.out))) HC1567.out A27.out).mono ?_); rintro e w49 ⟨v1571, rfl, ho0, hb⟩; refine ⟨_, rfl, ?_⟩; replace HO_4 := Aside0.mk (Kd.S_below (sx_ HO_4.out) hb); have HO1572 := Aside0.mk (Kd.R_lower (Kd.R_new' (Kd.R_new' (Kd.R_new' ho0 (Kd.Q_lt (qx_ HO_3.out))) (Kd.R_lt (rx_ HO_5.out))) (Kd.R_lt (rx_ HO1563.out))) (bs_ HB)); replace HO_3 := Aside0.mk (Kd.Q_elder' (qx_ HO_3.out) (Kd.R_base ho0) hb); replace HO_5 := Aside0.mk (Kd.R_elder' (rx_ HO_5.out) (Kd.R_base ho0) hb); replace HO1563 := Aside0.mk (Kd.R_elder' (rx_ HO1563.out) (Kd.R_base ho0) hb); replace HR1558 := Aside0.mk (Kd.C_below (by repeat (first | (with_reducible exact HR1558.out) | (with_reducible refine Kd.C_alloc ?_ _) | (with_reducible refine Kd.C_drewN ?_ _) | (with_reducible refine Kd.C_drew ?_) | exact HR1558.out)) hb); replace HR1567 := Aside0.mk (Kd.C_below (by repeat (first | (with_reducible exact HR1567.out) | (with_reducible refine Kd.C_alloc ?_ _) | (with_reducible refine Kd.C_drewN ?_ _) | (with_reducible refine Kd.C_drew ?_) | exact HR1567.out)) hb); replace HB := tB_ HB hb; (try clear hb); (try clear ho0); obtain ⟨Ao50, co50, eo50⟩ := Kd.R_slice HO1572.out; subst eo50; obtain ⟨Ao51, co51, eo51⟩ := Kd.R_slice HO_5.out; subst eo51) | (go_at_call 62; (with_reducible refine (spec_SameTree.calls kj6 _ _ t1568 _ _ t1542 true _ (cc_ (Kd.R_reads' HO1572.out).2.2) ((Kd.R_reads' HO1572.out).2.1) (cc_ (Kd.R_reads' HO_5.out).2.2) ((Kd.R_reads' HO_5.out).2.1) A29.out).mono ?_); rintro e w' ⟨rfl, ⟨nd, rfl⟩⟩))
             go_ret
             exact ⟨ea_, (bl_ HB).out⟩
           ·rw [if_neg c32] at H
            have c32b0 : (t1570 == t1544) = false := beq_eq_false_iff_ne.mpr c32
            have c32b1 : (t1570 != t1544) = true := bne_iff_ne.mpr c32
            obtain rfl := Option.some.inj H
            go_wp2_with (first | ((with_reducible refine gate_callee (f := 64) rfl ?_); refine gL_ (some 54) Try.func64 #[.slice Ao9 t1536.length co9] ?_; (with_reducible refine (spec_TreeOk.calls kj6 _ _ t1536 true _ (cc_ (Kd.Q_reads' HO_3.out).2.2) ((Kd.Q_reads' HO_3.out).2.1) A19.out).mono ?_); rintro e w52 ⟨rfl, hb⟩; refine ⟨_, rfl, ?_⟩; replace HO_3 := Aside0.mk (Kd.Q_below (qx_ HO_3.out) hb); replace HO_4 := Aside0.mk (Kd.S_below (sx_ HO_4.out) hb); replace HO_5 := tR_ HO_5 hb; replace HB := tB_ HB hb; (try clear hb)) | ((with_reducible refine gate_callee (f := 65) rfl ?_); refine gL_ (some 65) Try.func65 #[.slice A0 l0.length c0, .int .i64 0, .int .i64 t1543] ?_; (with_reducible refine (laws_cutAt.calls _ _ l0 0 t1543 t1554 _ (cx_ HR0 HB) HC0.out A21.out).mono ?_); rintro e w' ⟨rfl, ⟨nd, rfl⟩⟩; refine ⟨_, rfl, ?_⟩; have q53 : (t1554 : Int) ≤ ((t1537.length : Int) : Int) := od_; obtain ⟨i053, hi053, _, hsz53, _⟩ := info_parts info67; have hroom53 : t1537.length ≤ co10 := (Kd.S_reads' HO_4.out).2.1; have hC53 : Kd.C k67 _ Ao10 t1537.length t1537 := (Kd.S_reads' HO_4.out).2.2; have hcut53 := cut_to (P := Try.prog) 76 67 .i64 Try.underlying76 hi053 Ao10 t1537.length co10 t1554 (od_) q53 hroom53; have hr53 := Kd.C_take (m := (t1554 : Int).toNat) hC53 (by omega); have hy53 : y1555.length = (t1554 : Int).toNat := (by rw [Ny1555.out, List.length_take]; omega); rw [← Ny1555.out] at hr53; rw [← hy53] at hcut53; have HR1558 := Aside0.mk hr53; have HC1558 := Aside0.mk (show y1555.length ≤ co10 from by omega); clear hr53 hC53 hroom53 hi053 hsz53; have KY53 := Aside0.mk hy53; clear hy53; have KL53 := Aside0.mk (show (t1554 : Int).toNat ≤ t1537.length from by omega); replace q53 := eq_true q53) | ((with_reducible refine gate_callee (f := 52) rfl ?_); refine gL_ (some 71) Try.func52 #[.slice Ao9 t1536.length co9, .slice Ao10 y1555.length co10] ?_; (with_reducible refine (impl_ApplyAll.calls kj6 _ _ t1536 _ _ y1555 t1559 t1560 t1561 _ (cc_ (Kd.Q_reads' HO_3.out).2.2) ((Kd.Q_reads' HO_3.out).2.1) (cc_ (by repeat (first | (with_reducible exact HR1558.out) | (with_reducible refine Kd.C_alloc ?_ _) | (with_reducible refine Kd.C_drewN ?_ _) | (with_reducible refine Kd.C_drew ?_) | exact HR1558.out))) HC1558.out A24.out).mono ?_); rintro e w54 ⟨v1562, rfl, ho0, hb⟩; refine ⟨_, rfl, ?_⟩; replace HO_4 := Aside0.mk (Kd.S_below (sx_ HO_4.out) hb); have HO1563 := Aside0.mk (Kd.R_lower (Kd.R_new' (Kd.R_new' ho0 (Kd.Q_lt (qx_ HO_3.out))) (Kd.R_lt (rx_ HO_5.out))) (bs_ HB)); replace HO_3 := Aside0.mk (Kd.Q_elder' (qx_ HO_3.out) (Kd.R_base ho0) hb); replace HO_5 := Aside0.mk (Kd.R_elder' (rx_ HO_5.out) (Kd.R_base ho0) hb); replace HR1558 := Aside0.mk (Kd.C_below (by repeat (first | (with_reducible exact HR1558.out) | (with_reducible refine Kd.C_alloc ?_ _) | (with_reducible refine Kd.C_drewN ?_ _) | (with_reducible refine Kd.C_drew ?_) | exact HR1558.out)) hb); replace HB := tB_ HB hb; (try clear hb); (try clear ho0); have q55 : (t1554 : Int) ≤ ((t1537.length : Int) : Int) := od_; obtain ⟨i055, hi055, _, hsz55, _⟩ := info_parts info67; have hroom55 : t1537.length ≤ co10 := (Kd.S_reads' HO_4.out).2.1; have hC55 : Kd.C k67 _ Ao10 t1537.length t1537 := (Kd.S_reads' HO_4.out).2.2; have q055 : (0 : Int) ≤ (t1554 : Int) := od_; have hcut55 := cut_from (P := Try.prog) 76 67 .i64 Try.underlying76 hi055 5 hsz55 Ao10 t1537.length co10 t1554 q055 q55; have hr55 := Kd.C_drop (m := (t1554 : Int).toNat) (c := co10) hC55 (by omega) hroom55; obtain ⟨A55, hA55⟩ : ∃ A1, A1 = (if co10 = (t1554 : Int).toNat then Ao10 else (Ao10 : Option Addr).map (·.add ((t1554 : Int).toNat * 5))) := ⟨_, rfl⟩; obtain ⟨c55, hc55⟩ : ∃ c1, c1 = co10 - (t1554 : Int).toNat := ⟨_, rfl⟩; have hy55 : y1564.length = t1537.length - (t1554 : Int).toNat := (by rw [Ny1564.out, List.length_drop] <;> omega); rw [show (t1537).drop (t1554 : Int).toNat = y1564 from Ny1564.out.symm] at hr55; replace hr55 : Kd.C k67 _ A55 y1564.length y1564 := (by rw [hA55]; exact hr55); rw [← hy55, ← hA55, ← hc55] at hcut55; have HR1567 := Aside0.mk hr55; have HC1567 := Aside0.mk (show y1564.length ≤ c55 from by rw [hy55, hc55]; exact Nat.sub_le_sub_right hroom55 _); clear hr55 hC55 hroom55 hi055 hsz55 hc55; have KY55 := Aside0.mk hy55; have KA55 := Aside0.mk hA55; clear hy55 hA55; have KL55 := Aside0.mk (show (t1554 : Int).toNat ≤ t1537.length from by omega); replace q55 := eq_true q55; obtain ⟨Ao56, co56, eo56⟩ := Kd.R_slice HO1563.out; subst eo56) | ((with_reducible refine gate_callee (f := 52) rfl ?_); refine gL_ (some 80) Try.func52 #[.slice Ao56 t1559.length co56, .slice A55 y1564.length c55] ?_; (with_reducible refine (impl_ApplyAll.calls kj6 _ _ t1559 _ _ y1564 t1568 t1569 t1570 _ (cc_ (Kd.R_reads' HO1563.out).2.2) ((Kd.R_reads' HO1563.out).2.1) (cc_ (by repeat (first | (with_reducible exact HR1567.out) | (with_reducible refine Kd.C_alloc ?_ _) | (with_reducible refine Kd.C_drewN ?_ _) | (with_reducible refine Kd.C_drew ?_) | exact HR1567.out))) HC1567.out A27.out).mono ?_); rintro e w57 ⟨v1571, rfl, ho0, hb⟩; refine ⟨_, rfl, ?_⟩; replace HO_4 := Aside0.mk (Kd.S_below (sx_ HO_4.out) hb); have HO1572 := Aside0.mk (Kd.R_lower (Kd.R_new' (Kd.R_new' (Kd.R_new' ho0 (Kd.Q_lt (qx_ HO_3.out))) (Kd.R_lt (rx_ HO_5.out))) (Kd.R_lt (rx_ HO1563.out))) (bs_ HB)); replace HO_3 := Aside0.mk (Kd.Q_elder' (qx_ HO_3.out) (Kd.R_base ho0) hb); replace HO_5 := Aside0.mk (Kd.R_elder' (rx_ HO_5.out) (Kd.R_base ho0) hb); replace HO1563 := Aside0.mk (Kd.R_elder' (rx_ HO1563.out) (Kd.R_base ho0) hb); replace HR1558 := Aside0.mk (Kd.C_below (by repeat (first | (with_reducible exact HR1558.out) | (with_reducible refine Kd.C_alloc ?_ _) | (with_reducible refine Kd.C_drewN ?_ _) | (with_reducible refine Kd.C_drew ?_) | exact HR1558.out)) hb); replace HR1567 := Aside0.mk (Kd.C_below (by repeat (first | (with_reducible exact HR1567.out) | (with_reducible refine Kd.C_alloc ?_ _) | (with_reducible refine Kd.C_drewN ?_ _) | (with_reducible refine Kd.C_drew ?_) | exact HR1567.out)) hb); replace HB := tB_ HB hb; (try clear hb); (try clear ho0); obtain ⟨Ao58, co58, eo58⟩ := Kd.R_slice HO1572.out; subst eo58; obtain ⟨Ao59, co59, eo59⟩ := Kd.R_slice HO_5.out; subst eo59) | (go_at_call 62; (with_reducible refine (spec_SameTree.calls kj6 _ _ t1568 _ _ t1542 true _ (cc_ (Kd.R_reads' HO1572.out).2.2) ((Kd.R_reads' HO1572.out).2.1) (cc_ (Kd.R_reads' HO_5.out).2.2) ((Kd.R_reads' HO_5.out).2.1) A29.out).mono ?_); rintro e w' ⟨rfl, ⟨nd, rfl⟩⟩))
            go_ret
            exact ⟨ea_, (bl_ HB).out⟩
          ·rw [if_neg c31] at H
           have c31b0 : (t1569 == (wrap64 (t1543 - t1554))) = false := beq_eq_false_iff_ne.mpr c31
           have c31b1 : (t1569 != (wrap64 (t1543 - t1554))) = true := bne_iff_ne.mpr c31
           obtain rfl := Option.some.inj H
           go_wp2_with (first | ((with_reducible refine gate_callee (f := 64) rfl ?_); refine gL_ (some 54) Try.func64 #[.slice Ao9 t1536.length co9] ?_; (with_reducible refine (spec_TreeOk.calls kj6 _ _ t1536 true _ (cc_ (Kd.Q_reads' HO_3.out).2.2) ((Kd.Q_reads' HO_3.out).2.1) A19.out).mono ?_); rintro e w60 ⟨rfl, hb⟩; refine ⟨_, rfl, ?_⟩; replace HO_3 := Aside0.mk (Kd.Q_below (qx_ HO_3.out) hb); replace HO_4 := Aside0.mk (Kd.S_below (sx_ HO_4.out) hb); replace HO_5 := tR_ HO_5 hb; replace HB := tB_ HB hb; (try clear hb)) | ((with_reducible refine gate_callee (f := 65) rfl ?_); refine gL_ (some 65) Try.func65 #[.slice A0 l0.length c0, .int .i64 0, .int .i64 t1543] ?_; (with_reducible refine (laws_cutAt.calls _ _ l0 0 t1543 t1554 _ (cx_ HR0 HB) HC0.out A21.out).mono ?_); rintro e w' ⟨rfl, ⟨nd, rfl⟩⟩; refine ⟨_, rfl, ?_⟩; have q61 : (t1554 : Int) ≤ ((t1537.length : Int) : Int) := od_; obtain ⟨i061, hi061, _, hsz61, _⟩ := info_parts info67; have hroom61 : t1537.length ≤ co10 := (Kd.S_reads' HO_4.out).2.1; have hC61 : Kd.C k67 _ Ao10 t1537.length t1537 := (Kd.S_reads' HO_4.out).2.2; have hcut61 := cut_to (P := Try.prog) 76 67 .i64 Try.underlying76 hi061 Ao10 t1537.length co10 t1554 (od_) q61 hroom61; have hr61 := Kd.C_take (m := (t1554 : Int).toNat) hC61 (by omega); have hy61 : y1555.length = (t1554 : Int).toNat := (by rw [Ny1555.out, List.length_take]; omega); rw [← Ny1555.out] at hr61; rw [← hy61] at hcut61; have HR1558 := Aside0.mk hr61; have HC1558 := Aside0.mk (show y1555.length ≤ co10 from by omega); clear hr61 hC61 hroom61 hi061 hsz61; have KY61 := Aside0.mk hy61; clear hy61; have KL61 := Aside0.mk (show (t1554 : Int).toNat ≤ t1537.length from by omega); replace q61 := eq_true q61) | ((with_reducible refine gate_callee (f := 52) rfl ?_); refine gL_ (some 71) Try.func52 #[.slice Ao9 t1536.length co9, .slice Ao10 y1555.length co10] ?_; (with_reducible refine (impl_ApplyAll.calls kj6 _ _ t1536 _ _ y1555 t1559 t1560 t1561 _ (cc_ (Kd.Q_reads' HO_3.out).2.2) ((Kd.Q_reads' HO_3.out).2.1) (cc_ (by repeat (first | (with_reducible exact HR1558.out) | (with_reducible refine Kd.C_alloc ?_ _) | (with_reducible refine Kd.C_drewN ?_ _) | (with_reducible refine Kd.C_drew ?_) | exact HR1558.out))) HC1558.out A24.out).mono ?_); rintro e w62 ⟨v1562, rfl, ho0, hb⟩; refine ⟨_, rfl, ?_⟩; replace HO_4 := Aside0.mk (Kd.S_below (sx_ HO_4.out) hb); have HO1563 := Aside0.mk (Kd.R_lower (Kd.R_new' (Kd.R_new' ho0 (Kd.Q_lt (qx_ HO_3.out))) (Kd.R_lt (rx_ HO_5.out))) (bs_ HB)); replace HO_3 := Aside0.mk (Kd.Q_elder' (qx_ HO_3.out) (Kd.R_base ho0) hb); replace HO_5 := Aside0.mk (Kd.R_elder' (rx_ HO_5.out) (Kd.R_base ho0) hb); replace HR1558 := Aside0.mk (Kd.C_below (by repeat (first | (with_reducible exact HR1558.out) | (with_reducible refine Kd.C_alloc ?_ _) | (with_reducible refine Kd.C_drewN ?_ _) | (with_reducible refine Kd.C_drew ?_) | exact HR1558.out)) hb); replace HB := tB_ HB hb; (try clear hb); (try clear ho0); have q63 : (t1554 : Int) ≤ ((t1537.length : Int) : Int) := od_; obtain ⟨i063, hi063, _, hsz63, _⟩ := info_parts info67; have hroom63 : t1537.length ≤ co10 := (Kd.S_reads' HO_4.out).2.1; have hC63 : Kd.C k67 _ Ao10 t1537.length t1537 := (Kd.S_reads' HO_4.out).2.2; have q063 : (0 : Int) ≤ (t1554 : Int) := od_; have hcut63 := cut_from (P := Try.prog) 76 67 .i64 Try.underlying76 hi063 5 hsz63 Ao10 t1537.length co10 t1554 q063 q63; have hr63 := Kd.C_drop (m := (t1554 : Int).toNat) (c := co10) hC63 (by omega) hroom63; obtain ⟨A63, hA63⟩ : ∃ A1, A1 = (if co10 = (t1554 : Int).toNat then Ao10 else (Ao10 : Option Addr).map (·.add ((t1554 : Int).toNat * 5))) := ⟨_, rfl⟩; obtain ⟨c63, hc63⟩ : ∃ c1, c1 = co10 - (t1554 : Int).toNat := ⟨_, rfl⟩; have hy63 : y1564.length = t1537.length - (t1554 : Int).toNat := (by rw [Ny1564.out, List.length_drop] <;> omega); rw [show (t1537).drop (t1554 : Int).toNat = y1564 from Ny1564.out.symm] at hr63; replace hr63 : Kd.C k67 _ A63 y1564.length y1564 := (by rw [hA63]; exact hr63); rw [← hy63, ← hA63, ← hc63] at hcut63; have HR1567 := Aside0.mk hr63; have HC1567 := Aside0.mk (show y1564.length ≤ c63 from by rw [hy63, hc63]; exact Nat.sub_le_sub_right hroom63 _); clear hr63 hC63 hroom63 hi063 hsz63 hc63; have KY63 := Aside0.mk hy63; have KA63 := Aside0.mk hA63; clear hy63 hA63; have KL63 := Aside0.mk (show (t1554 : Int).toNat ≤ t1537.length from by omega); replace q63 := eq_true q63; obtain ⟨Ao64, co64, eo64⟩ := Kd.R_slice HO1563.out; subst eo64) | ((with_reducible refine gate_callee (f := 52) rfl ?_); refine gL_ (some 80) Try.func52 #[.slice Ao64 t1559.length co64, .slice A63 y1564.length c63] ?_; (with_reducible refine (impl_ApplyAll.calls kj6 _ _ t1559 _ _ y1564 t1568 t1569 t1570 _ (cc_ (Kd.R_reads' HO1563.out).2.2) ((Kd.R_reads' HO1563.out).2.1) (cc_ (by repeat (first | (with_reducible exact HR1567.out) | (with_reducible refine Kd.C_alloc ?_ _) | (with_reducible refine Kd.C_drewN ?_ _) | (with_reducible refine Kd.C_drew ?_) | exact HR1567.out))) HC1567.out A27.out).mono ?_); rintro e w65 ⟨v1571, rfl, ho0, hb⟩; refine ⟨_, rfl, ?_⟩; replace HO_4 := Aside0.mk (Kd.S_below (sx_ HO_4.out) hb); have HO1572 := Aside0.mk (Kd.R_lower (Kd.R_new' (Kd.R_new' (Kd.R_new' ho0 (Kd.Q_lt (qx_ HO_3.out))) (Kd.R_lt (rx_ HO_5.out))) (Kd.R_lt (rx_ HO1563.out))) (bs_ HB)); replace HO_3 := Aside0.mk (Kd.Q_elder' (qx_ HO_3.out) (Kd.R_base ho0) hb); replace HO_5 := Aside0.mk (Kd.R_elder' (rx_ HO_5.out) (Kd.R_base ho0) hb); replace HO1563 := Aside0.mk (Kd.R_elder' (rx_ HO1563.out) (Kd.R_base ho0) hb); replace HR1558 := Aside0.mk (Kd.C_below (by repeat (first | (with_reducible exact HR1558.out) | (with_reducible refine Kd.C_alloc ?_ _) | (with_reducible refine Kd.C_drewN ?_ _) | (with_reducible refine Kd.C_drew ?_) | exact HR1558.out)) hb); replace HR1567 := Aside0.mk (Kd.C_below (by repeat (first | (with_reducible exact HR1567.out) | (with_reducible refine Kd.C_alloc ?_ _) | (with_reducible refine Kd.C_drewN ?_ _) | (with_reducible refine Kd.C_drew ?_) | exact HR1567.out)) hb); replace HB := tB_ HB hb; (try clear hb); (try clear ho0); obtain ⟨Ao66, co66, eo66⟩ := Kd.R_slice HO1572.out; subst eo66; obtain ⟨Ao67, co67, eo67⟩ := Kd.R_slice HO_5.out; subst eo67) | (go_at_call 62; (with_reducible refine (spec_SameTree.calls kj6 _ _ t1568 _ _ t1542 true _ (cc_ (Kd.R_reads' HO1572.out).2.2) ((Kd.R_reads' HO1572.out).2.1) (cc_ (Kd.R_reads' HO_5.out).2.2) ((Kd.R_reads' HO_5.out).2.1) A29.out).mono ?_); rintro e w' ⟨rfl, ⟨nd, rfl⟩⟩))
           go_ret
           exact ⟨ea_, (bl_ HB).out⟩
         ·replace c30 := Bool.eq_false_iff.mpr c30
          subst c30
          have H1 : (some false) = some r := by rw [if_neg (show ¬ (false = true) by decide)] at H; exact H
          clear H
          have H := H1
          clear H1
          obtain rfl := Option.some.inj H
          go_wp2_with (first | ((with_reducible refine gate_callee (f := 64) rfl ?_); refine gL_ (some 54) Try.func64 #[.slice Ao9 t1536.length co9] ?_; (with_reducible refine (spec_TreeOk.calls kj6 _ _ t1536 true _ (cc_ (Kd.Q_reads' HO_3.out).2.2) ((Kd.Q_reads' HO_3.out).2.1) A19.out).mono ?_); rintro e w68 ⟨rfl, hb⟩; refine ⟨_, rfl, ?_⟩; replace HO_3 := Aside0.mk (Kd.Q_below (qx_ HO_3.out) hb); replace HO_4 := Aside0.mk (Kd.S_below (sx_ HO_4.out) hb); replace HO_5 := tR_ HO_5 hb; replace HB := tB_ HB hb; (try clear hb)) | ((with_reducible refine gate_callee (f := 65) rfl ?_); refine gL_ (some 65) Try.func65 #[.slice A0 l0.length c0, .int .i64 0, .int .i64 t1543] ?_; (with_reducible refine (laws_cutAt.calls _ _ l0 0 t1543 t1554 _ (cx_ HR0 HB) HC0.out A21.out).mono ?_); rintro e w' ⟨rfl, ⟨nd, rfl⟩⟩; refine ⟨_, rfl, ?_⟩; have q69 : (t1554 : Int) ≤ ((t1537.length : Int) : Int) := od_; obtain ⟨i069, hi069, _, hsz69, _⟩ := info_parts info67; have hroom69 : t1537.length ≤ co10 := (Kd.S_reads' HO_4.out).2.1; have hC69 : Kd.C k67 _ Ao10 t1537.length t1537 := (Kd.S_reads' HO_4.out).2.2; have hcut69 := cut_to (P := Try.prog) 76 67 .i64 Try.underlying76 hi069 Ao10 t1537.length co10 t1554 (od_) q69 hroom69; have hr69 := Kd.C_take (m := (t1554 : Int).toNat) hC69 (by omega); have hy69 : y1555.length = (t1554 : Int).toNat := (by rw [Ny1555.out, List.length_take]; omega); rw [← Ny1555.out] at hr69; rw [← hy69] at hcut69; have HR1558 := Aside0.mk hr69; have HC1558 := Aside0.mk (show y1555.length ≤ co10 from by omega); clear hr69 hC69 hroom69 hi069 hsz69; have KY69 := Aside0.mk hy69; clear hy69; have KL69 := Aside0.mk (show (t1554 : Int).toNat ≤ t1537.length from by omega); replace q69 := eq_true q69) | ((with_reducible refine gate_callee (f := 52) rfl ?_); refine gL_ (some 71) Try.func52 #[.slice Ao9 t1536.length co9, .slice Ao10 y1555.length co10] ?_; (with_reducible refine (impl_ApplyAll.calls kj6 _ _ t1536 _ _ y1555 t1559 t1560 t1561 _ (cc_ (Kd.Q_reads' HO_3.out).2.2) ((Kd.Q_reads' HO_3.out).2.1) (cc_ (by repeat (first | (with_reducible exact HR1558.out) | (with_reducible refine Kd.C_alloc ?_ _) | (with_reducible refine Kd.C_drewN ?_ _) | (with_reducible refine Kd.C_drew ?_) | exact HR1558.out))) HC1558.out A24.out).mono ?_); rintro e w70 ⟨v1562, rfl, ho0, hb⟩; refine ⟨_, rfl, ?_⟩; replace HO_4 := Aside0.mk (Kd.S_below (sx_ HO_4.out) hb); have HO1563 := Aside0.mk (Kd.R_lower (Kd.R_new' (Kd.R_new' ho0 (Kd.Q_lt (qx_ HO_3.out))) (Kd.R_lt (rx_ HO_5.out))) (bs_ HB)); replace HO_3 := Aside0.mk (Kd.Q_elder' (qx_ HO_3.out) (Kd.R_base ho0) hb); replace HO_5 := Aside0.mk (Kd.R_elder' (rx_ HO_5.out) (Kd.R_base ho0) hb); replace HR1558 := Aside0.mk (Kd.C_below (by repeat (first | (with_reducible exact HR1558.out) | (with_reducible refine Kd.C_alloc ?_ _) | (with_reducible refine Kd.C_drewN ?_ _) | (with_reducible refine Kd.C_drew ?_) | exact HR1558.out)) hb); replace HB := tB_ HB hb; (try clear hb); (try clear ho0); have q71 : (t1554 : Int) ≤ ((t1537.length : Int) : Int) := od_; obtain ⟨i071, hi071, _, hsz71, _⟩ := info_parts info67; have hroom71 : t1537.length ≤ co10 := (Kd.S_reads' HO_4.out).2.1; have hC71 : Kd.C k67 _ Ao10 t1537.length t1537 := (Kd.S_reads' HO_4.out).2.2; have q071 : (0 : Int) ≤ (t1554 : Int) := od_; have hcut71 := cut_from (P := Try.prog) 76 67 .i64 Try.underlying76 hi071 5 hsz71 Ao10 t1537.length co10 t1554 q071 q71; have hr71 := Kd.C_drop (m := (t1554 : Int).toNat) (c := co10) hC71 (by omega) hroom71; obtain ⟨A71, hA71⟩ : ∃ A1, A1 = (if co10 = (t1554 : Int).toNat then Ao10 else (Ao10 : Option Addr).map (·.add ((t1554 : Int).toNat * 5))) := ⟨_, rfl⟩; obtain ⟨c71, hc71⟩ : ∃ c1, c1 = co10 - (t1554 : Int).toNat := ⟨_, rfl⟩; have hy71 : y1564.length = t1537.length - (t1554 : Int).toNat := (by rw [Ny1564.out, List.length_drop] <;> omega); rw [show (t1537).drop (t1554 : Int).toNat = y1564 from Ny1564.out.symm] at hr71; replace hr71 : Kd.C k67 _ A71 y1564.length y1564 := (by rw [hA71]; exact hr71); rw [← hy71, ← hA71, ← hc71] at hcut71; have HR1567 := Aside0.mk hr71; have HC1567 := Aside0.mk (show y1564.length ≤ c71 from by rw [hy71, hc71]; exact Nat.sub_le_sub_right hroom71 _); clear hr71 hC71 hroom71 hi071 hsz71 hc71; have KY71 := Aside0.mk hy71; have KA71 := Aside0.mk hA71; clear hy71 hA71; have KL71 := Aside0.mk (show (t1554 : Int).toNat ≤ t1537.length from by omega); replace q71 := eq_true q71; obtain ⟨Ao72, co72, eo72⟩ := Kd.R_slice HO1563.out; subst eo72) | ((with_reducible refine gate_callee (f := 52) rfl ?_); refine gL_ (some 80) Try.func52 #[.slice Ao72 t1559.length co72, .slice A71 y1564.length c71] ?_; (with_reducible refine (impl_ApplyAll.calls kj6 _ _ t1559 _ _ y1564 t1568 t1569 t1570 _ (cc_ (Kd.R_reads' HO1563.out).2.2) ((Kd.R_reads' HO1563.out).2.1) (cc_ (by repeat (first | (with_reducible exact HR1567.out) | (with_reducible refine Kd.C_alloc ?_ _) | (with_reducible refine Kd.C_drewN ?_ _) | (with_reducible refine Kd.C_drew ?_) | exact HR1567.out))) HC1567.out A27.out).mono ?_); rintro e w73 ⟨v1571, rfl, ho0, hb⟩; refine ⟨_, rfl, ?_⟩; replace HO_4 := Aside0.mk (Kd.S_below (sx_ HO_4.out) hb); have HO1572 := Aside0.mk (Kd.R_lower (Kd.R_new' (Kd.R_new' (Kd.R_new' ho0 (Kd.Q_lt (qx_ HO_3.out))) (Kd.R_lt (rx_ HO_5.out))) (Kd.R_lt (rx_ HO1563.out))) (bs_ HB)); replace HO_3 := Aside0.mk (Kd.Q_elder' (qx_ HO_3.out) (Kd.R_base ho0) hb); replace HO_5 := Aside0.mk (Kd.R_elder' (rx_ HO_5.out) (Kd.R_base ho0) hb); replace HO1563 := Aside0.mk (Kd.R_elder' (rx_ HO1563.out) (Kd.R_base ho0) hb); replace HR1558 := Aside0.mk (Kd.C_below (by repeat (first | (with_reducible exact HR1558.out) | (with_reducible refine Kd.C_alloc ?_ _) | (with_reducible refine Kd.C_drewN ?_ _) | (with_reducible refine Kd.C_drew ?_) | exact HR1558.out)) hb); replace HR1567 := Aside0.mk (Kd.C_below (by repeat (first | (with_reducible exact HR1567.out) | (with_reducible refine Kd.C_alloc ?_ _) | (with_reducible refine Kd.C_drewN ?_ _) | (with_reducible refine Kd.C_drew ?_) | exact HR1567.out)) hb); replace HB := tB_ HB hb; (try clear hb); (try clear ho0); obtain ⟨Ao74, co74, eo74⟩ := Kd.R_slice HO1572.out; subst eo74; obtain ⟨Ao75, co75, eo75⟩ := Kd.R_slice HO_5.out; subst eo75) | (go_at_call 62; (with_reducible refine (spec_SameTree.calls kj6 _ _ t1568 _ _ t1542 false _ (cc_ (Kd.R_reads' HO1572.out).2.2) ((Kd.R_reads' HO1572.out).2.1) (cc_ (Kd.R_reads' HO_5.out).2.2) ((Kd.R_reads' HO_5.out).2.1) A29.out).mono ?_); rintro e w' ⟨rfl, ⟨nd, rfl⟩⟩))
          go_ret
          exact ⟨ea_, (bl_ HB).out⟩
        ·rw [if_neg c28] at H
         have c28b0 : (t1561 == 0) = false := beq_eq_false_iff_ne.mpr c28
         have c28b1 : (t1561 != 0) = true := bne_iff_ne.mpr c28
         obtain rfl := Option.some.inj H
         go_wp2_with (first | ((with_reducible refine gate_callee (f := 64) rfl ?_); refine gL_ (some 54) Try.func64 #[.slice Ao9 t1536.length co9] ?_; (with_reducible refine (spec_TreeOk.calls kj6 _ _ t1536 true _ (cc_ (Kd.Q_reads' HO_3.out).2.2) ((Kd.Q_reads' HO_3.out).2.1) A19.out).mono ?_); rintro e w76 ⟨rfl, hb⟩; refine ⟨_, rfl, ?_⟩; replace HO_3 := Aside0.mk (Kd.Q_below (qx_ HO_3.out) hb); replace HO_4 := Aside0.mk (Kd.S_below (sx_ HO_4.out) hb); replace HO_5 := tR_ HO_5 hb; replace HB := tB_ HB hb; (try clear hb)) | ((with_reducible refine gate_callee (f := 65) rfl ?_); refine gL_ (some 65) Try.func65 #[.slice A0 l0.length c0, .int .i64 0, .int .i64 t1543] ?_; (with_reducible refine (laws_cutAt.calls _ _ l0 0 t1543 t1554 _ (cx_ HR0 HB) HC0.out A21.out).mono ?_); rintro e w' ⟨rfl, ⟨nd, rfl⟩⟩; refine ⟨_, rfl, ?_⟩; have q77 : (t1554 : Int) ≤ ((t1537.length : Int) : Int) := od_; obtain ⟨i077, hi077, _, hsz77, _⟩ := info_parts info67; have hroom77 : t1537.length ≤ co10 := (Kd.S_reads' HO_4.out).2.1; have hC77 : Kd.C k67 _ Ao10 t1537.length t1537 := (Kd.S_reads' HO_4.out).2.2; have hcut77 := cut_to (P := Try.prog) 76 67 .i64 Try.underlying76 hi077 Ao10 t1537.length co10 t1554 (od_) q77 hroom77; have hr77 := Kd.C_take (m := (t1554 : Int).toNat) hC77 (by omega); have hy77 : y1555.length = (t1554 : Int).toNat := (by rw [Ny1555.out, List.length_take]; omega); rw [← Ny1555.out] at hr77; rw [← hy77] at hcut77; have HR1558 := Aside0.mk hr77; have HC1558 := Aside0.mk (show y1555.length ≤ co10 from by omega); clear hr77 hC77 hroom77 hi077 hsz77; have KY77 := Aside0.mk hy77; clear hy77; have KL77 := Aside0.mk (show (t1554 : Int).toNat ≤ t1537.length from by omega); replace q77 := eq_true q77) | ((with_reducible refine gate_callee (f := 52) rfl ?_); refine gL_ (some 71) Try.func52 #[.slice Ao9 t1536.length co9, .slice Ao10 y1555.length co10] ?_; (with_reducible refine (impl_ApplyAll.calls kj6 _ _ t1536 _ _ y1555 t1559 t1560 t1561 _ (cc_ (Kd.Q_reads' HO_3.out).2.2) ((Kd.Q_reads' HO_3.out).2.1) (cc_ (by repeat (first | (with_reducible exact HR1558.out) | (with_reducible refine Kd.C_alloc ?_ _) | (with_reducible refine Kd.C_drewN ?_ _) | (with_reducible refine Kd.C_drew ?_) | exact HR1558.out))) HC1558.out A24.out).mono ?_); rintro e w78 ⟨v1562, rfl, ho0, hb⟩; refine ⟨_, rfl, ?_⟩; replace HO_4 := Aside0.mk (Kd.S_below (sx_ HO_4.out) hb); have HO1563 := Aside0.mk (Kd.R_lower (Kd.R_new' (Kd.R_new' ho0 (Kd.Q_lt (qx_ HO_3.out))) (Kd.R_lt (rx_ HO_5.out))) (bs_ HB)); replace HO_3 := Aside0.mk (Kd.Q_elder' (qx_ HO_3.out) (Kd.R_base ho0) hb); replace HO_5 := Aside0.mk (Kd.R_elder' (rx_ HO_5.out) (Kd.R_base ho0) hb); replace HR1558 := Aside0.mk (Kd.C_below (by repeat (first | (with_reducible exact HR1558.out) | (with_reducible refine Kd.C_alloc ?_ _) | (with_reducible refine Kd.C_drewN ?_ _) | (with_reducible refine Kd.C_drew ?_) | exact HR1558.out)) hb); replace HB := tB_ HB hb; (try clear hb); (try clear ho0); have q79 : (t1554 : Int) ≤ ((t1537.length : Int) : Int) := od_; obtain ⟨i079, hi079, _, hsz79, _⟩ := info_parts info67; have hroom79 : t1537.length ≤ co10 := (Kd.S_reads' HO_4.out).2.1; have hC79 : Kd.C k67 _ Ao10 t1537.length t1537 := (Kd.S_reads' HO_4.out).2.2; have q079 : (0 : Int) ≤ (t1554 : Int) := od_; have hcut79 := cut_from (P := Try.prog) 76 67 .i64 Try.underlying76 hi079 5 hsz79 Ao10 t1537.length co10 t1554 q079 q79; have hr79 := Kd.C_drop (m := (t1554 : Int).toNat) (c := co10) hC79 (by omega) hroom79; obtain ⟨A79, hA79⟩ : ∃ A1, A1 = (if co10 = (t1554 : Int).toNat then Ao10 else (Ao10 : Option Addr).map (·.add ((t1554 : Int).toNat * 5))) := ⟨_, rfl⟩; obtain ⟨c79, hc79⟩ : ∃ c1, c1 = co10 - (t1554 : Int).toNat := ⟨_, rfl⟩; have hy79 : y1564.length = t1537.length - (t1554 : Int).toNat := (by rw [Ny1564.out, List.length_drop] <;> omega); rw [show (t1537).drop (t1554 : Int).toNat = y1564 from Ny1564.out.symm] at hr79; replace hr79 : Kd.C k67 _ A79 y1564.length y1564 := (by rw [hA79]; exact hr79); rw [← hy79, ← hA79, ← hc79] at hcut79; have HR1567 := Aside0.mk hr79; have HC1567 := Aside0.mk (show y1564.length ≤ c79 from by rw [hy79, hc79]; exact Nat.sub_le_sub_right hroom79 _); clear hr79 hC79 hroom79 hi079 hsz79 hc79; have KY79 := Aside0.mk hy79; have KA79 := Aside0.mk hA79; clear hy79 hA79; have KL79 := Aside0.mk (show (t1554 : Int).toNat ≤ t1537.length from by omega); replace q79 := eq_true q79; obtain ⟨Ao80, co80, eo80⟩ := Kd.R_slice HO1563.out; subst eo80) | ((with_reducible refine gate_callee (f := 52) rfl ?_); refine gL_ (some 80) Try.func52 #[.slice Ao80 t1559.length co80, .slice A79 y1564.length c79] ?_; (with_reducible refine (impl_ApplyAll.calls kj6 _ _ t1559 _ _ y1564 t1568 t1569 t1570 _ (cc_ (Kd.R_reads' HO1563.out).2.2) ((Kd.R_reads' HO1563.out).2.1) (cc_ (by repeat (first | (with_reducible exact HR1567.out) | (with_reducible refine Kd.C_alloc ?_ _) | (with_reducible refine Kd.C_drewN ?_ _) | (with_reducible refine Kd.C_drew ?_) | exact HR1567.out))) HC1567.out A27.out).mono ?_); rintro e w81 ⟨v1571, rfl, ho0, hb⟩; refine ⟨_, rfl, ?_⟩; replace HO_4 := Aside0.mk (Kd.S_below (sx_ HO_4.out) hb); have HO1572 := Aside0.mk (Kd.R_lower (Kd.R_new' (Kd.R_new' (Kd.R_new' ho0 (Kd.Q_lt (qx_ HO_3.out))) (Kd.R_lt (rx_ HO_5.out))) (Kd.R_lt (rx_ HO1563.out))) (bs_ HB)); replace HO_3 := Aside0.mk (Kd.Q_elder' (qx_ HO_3.out) (Kd.R_base ho0) hb); replace HO_5 := Aside0.mk (Kd.R_elder' (rx_ HO_5.out) (Kd.R_base ho0) hb); replace HO1563 := Aside0.mk (Kd.R_elder' (rx_ HO1563.out) (Kd.R_base ho0) hb); replace HR1558 := Aside0.mk (Kd.C_below (by repeat (first | (with_reducible exact HR1558.out) | (with_reducible refine Kd.C_alloc ?_ _) | (with_reducible refine Kd.C_drewN ?_ _) | (with_reducible refine Kd.C_drew ?_) | exact HR1558.out)) hb); replace HR1567 := Aside0.mk (Kd.C_below (by repeat (first | (with_reducible exact HR1567.out) | (with_reducible refine Kd.C_alloc ?_ _) | (with_reducible refine Kd.C_drewN ?_ _) | (with_reducible refine Kd.C_drew ?_) | exact HR1567.out)) hb); replace HB := tB_ HB hb; (try clear hb); (try clear ho0)))
         go_ret
         exact ⟨ea_, (bl_ HB).out⟩
       ·rw [if_neg c23] at H
        exact absurd H (by simp)
      ·rw [if_neg c22] at H
       exact absurd H (by simp)
     ·replace c20 := Bool.eq_false_iff.mpr c20
      subst c20
      have H1 : (if (t1542.length : Int) = 0 then (some (t1543 == 0)) else (some false)) = some r := by rw [if_neg (show ¬ (false = true) by decide)] at H; exact H
      clear H
      have H := H1
      clear H1
      by_cases c82 : (t1542.length : Int) = 0
      ·rw [if_pos c82] at H
       have c82b0 : ((t1542.length : Int) == 0) = true := beq_iff_eq.mpr c82
       have c82b1 : ((t1542.length : Int) != 0) = false := bne_eq_false_iff_eq.mpr c82
       clear c82
       obtain rfl := Option.some.inj H
       go_wp2_with (first | ((with_reducible refine gate_callee (f := 64) rfl ?_); refine gL_ (some 54) Try.func64 #[.slice Ao9 t1536.length co9] ?_; (with_reducible refine (spec_TreeOk.calls kj6 _ _ t1536 false _ (cc_ (Kd.Q_reads' HO_3.out).2.2) ((Kd.Q_reads' HO_3.out).2.1) A19.out).mono ?_); rintro e w83 ⟨rfl, hb⟩; refine ⟨_, rfl, ?_⟩; replace HO_3 := Aside0.mk (Kd.Q_below (qx_ HO_3.out) hb); replace HO_4 := Aside0.mk (Kd.S_below (sx_ HO_4.out) hb); replace HO_5 := tR_ HO_5 hb; replace HB := tB_ HB hb; (try clear hb); obtain ⟨Ao84, co84, eo84⟩ := Kd.R_slice HO_5.out; subst eo84))
       go_ret
       exact ⟨ea_, (bl_ HB).out⟩
      ·rw [if_neg c82] at H
       have c82b0 : ((t1542.length : Int) == 0) = false := beq_eq_false_iff_ne.mpr c82
       have c82b1 : ((t1542.length : Int) != 0) = true := bne_iff_ne.mpr c82
       have c82b2 : ¬ (t1542 = []) := fun h_ => c82 (by rw [h_]; rfl)
       obtain rfl := Option.some.inj H
       go_wp2_with (first | ((with_reducible refine gate_callee (f := 64) rfl ?_); refine gL_ (some 54) Try.func64 #[.slice Ao9 t1536.length co9] ?_; (with_reducible refine (spec_TreeOk.calls kj6 _ _ t1536 false _ (cc_ (Kd.Q_reads' HO_3.out).2.2) ((Kd.Q_reads' HO_3.out).2.1) A19.out).mono ?_); rintro e w85 ⟨rfl, hb⟩; refine ⟨_, rfl, ?_⟩; replace HO_3 := Aside0.mk (Kd.Q_below (qx_ HO_3.out) hb); replace HO_4 := Aside0.mk (Kd.S_below (sx_ HO_4.out) hb); replace HO_5 := tR_ HO_5 hb; replace HB := tB_ HB hb; (try clear hb); obtain ⟨Ao86, co86, eo86⟩ := Kd.R_slice HO_5.out; subst eo86))
       go_ret
       exact ⟨ea_, (bl_ HB).out⟩
end Go.Proofs.Ytbifdckfglejkaa.X
