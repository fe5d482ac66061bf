/- Part 11 of the proof of FnScaled: what it needs. -/
import Derived.Carry
import Derived.Test.YtngphdmbjenkaaaKLScaled9
namespace Go.Proofs.Ytngphdmbjenkaaa.X
open Go.RowKit Go.Proofs.YtngphdmbjenkaaaW.PrintWords Go.Proofs.YtngphdmbjenkaaaW.PrintLast Go.Proofs.YtngphdmbjenkaaaW.PrintMore Go.Proofs.Ytngphdmbjenkaaa.Q
set_option linter.unusedVariables false
set_option linter.unusedSimpArgs false
section
variable {ops : Array Oper} {o : Oper} {a : Act} {Q : Exit → Act → World → Prop} {Kc : Act → World → Prop} {W : World} {base : Nat}
theorem slit_step (hw : Region.wanted o (yielded ops a.tmps) = true) {N : Tmp} (_hd : o.dst = some N) {cs : Array Value} {t : TypeId}
  (hrun : (execOp a.eval o).run Try.prog W = .ok (.value (.slice (some ⟨W.heap.size, 0, none⟩) 1 1)) (W.alloc (.cells cs t (0, 0))))
  (h : ∀ g, g = W.heap.size → ∀ w1, w1.heap[g]? = some (.cells cs t (0, 0)) → Below W.heap.size W w1 → Kc (a.put o.dst (.slice (some ⟨g, 0, none⟩) 1 1)) w1) : if Region.wanted o (yielded ops a.tmps) = true then Oper.wp Try.prog o a W Kc Q else Kc (a.put o.dst undef) W :=
 event_step hw hrun (h _ rfl _ (blk_new W _) (below_alloc (Below.refl _ _) _))
theorem iapp_rows (s t : Nat) (x : Int) {g : Nat} {v : Value} {xs : List Int} (hr : IX W base v xs) (hb : base ≤ W.heap.size) (hl : xs.length ≤ 1000) (hg : W.heap[g]? = some (.cells #[.int .i64 x] 3 (0, 0)))
  (hw : Region.wanted o (yielded ops a.tmps) = true) (ho : o.op = .call { callee := .builtin .append, args := #[.tmp s, .tmp t], argTypes := #[25, 25] })
  (hsv : a.eval (.tmp s) = v) (hx : a.eval (.tmp t) = .slice (some ⟨g, 0, none⟩) 1 1)
  (k : ∀ v1 w1, IX w1 base v1 (xs ++ [x]) → W.grownBy w1 v.ownBlock → (v1.ownBlock = v.ownBlock ∨ ∃ b, v1.ownBlock = some b ∧ W.heap.size ≤ b) → Below base W w1 → Kc (a.put o.dst v1) w1) :
  if Region.wanted o (yielded ops a.tmps) = true then Oper.wp Try.prog o a W Kc Q else Kc (a.put o.dst undef) W := by
 have hC : ReadsRow (fun (p : Int) (c : List Value) => c = [.int .i64 p]) 1 W (some ⟨g, 0, none⟩) 1 [x] := by
  refine ⟨rfl, by omega, fun _ => ⟨_, rfl, fun j p hj => ?_⟩⟩
  obtain rfl : j = 0 := by
   have := (List.getElem?_eq_some_iff.1 hj).1
   simp at this
   exact this
  obtain rfl : x = p := by simpa using hj
  refine ⟨[.int .i64 x], rfl, rfl, fun i u hu => ?_⟩
  obtain rfl : i = 0 := by
   have := (List.getElem?_eq_some_iff.1 hu).1
   simp at this
   exact this
  obtain rfl : Value.int .i64 x = u := by simpa using hu
  rw [add_plain]
  exact (blk_cell hg 0).trans rfl
 refine Kd.R_append_rows_step (Kd.int .i64) base hw (.tmp s) (.tmp t) 25 3 (.int .i64 0) 8 ho Try.underlying25 info3 rfl (by decide) (by omega) v xs [x] (some ⟨g, 0, none⟩) 1 1 (fun _ => True) (fun _ => False) hsv hx hr hC (fun p cs h => h) (fun _ h => h.elim) (fun _ _ => trivial) (Below.refl _ W) hb (by omega) ?_
 intro v1 w1 h1 h2 h3 h4
 exact k v1 w1 h1 h3 h4 h2
end
theorem lit_ne {w : World} {base g : Nat} {v : Value} {l : List Int} (h : IX w base v l) (hg : g = w.heap.size) : some g ≠ v.ownBlock := fun e => by have := Kd.R_lt h g e.symm; omega
theorem sstore_step {ops : Array Oper} {o : Oper} {a : Act} {Q : Exit → Act → World → Prop} {Kc : Act → World → Prop} {W w1 : World} (hw : Region.wanted o (yielded ops a.tmps) = true) (hrun : (execOp a.eval o).run Try.prog W = .ok .skip w1) (h : Kc (a.put o.dst undef) w1) :
  if Region.wanted o (yielded ops a.tmps) = true then Oper.wp Try.prog o a W Kc Q else Kc (a.put o.dst undef) W := by
 rw [if_pos hw]
 unfold Oper.wp
 rw [hrun]
 exact h
def unitR.T5 : Bool × List (List Nat × List Nat) := (true, [([], []), ([0], [0]), ([], []), ([1, 2], [1, 2]), ([], []), ([4], [4]), ([], []), ([5, 6, 3], [5, 6]), ([0, 1, 2, 3, 4, 5], []), ([8, 3, 7, 0, 1, 2, 3, 4, 5], [3, 8]), ([0, 1, 2, 3, 4, 5, 6, 7, 8, 9], []), ([10, 7, 9, 0, 1, 2, 3, 4, 5, 6, 7, 8, 9], [7, 10])])
def unitR.B5 : List Nat := [0, 1, 0, 7, 0, 16, 0, 127, 63, 511, 1023, 2047]
theorem unitR.tab5 : rtab .any (opsOf Try.f25 5) = unitR.T5 := by kernel_rfl
theorem unitR.bits5 : waitsOk unitR.T5.2 unitR.B5 = true := by kernel_rfl
set_option maxRecDepth 100000 in
set_option maxHeartbeats 4000000 in
theorem iunit_r (w : World) : Calls Try.prog 25 #[] w fun e w' => ∃ v0 v1 v2 : Value, e = .returned (.agg #[v0, v1, v2]) ∧ C3 w' w.heap.size v0 v1 v2 (List.replicate 6 1) (List.replicate 6 1) unitRel ∧ Below w.heap.size w w' := by
 have hu := Try.underlying27
 go_enter Try.func25, Try.ntmps25
 go_wp2_with ((with_reducible refine gate_dst (N := 0) rfl ?_); refine bx_ 0 #[nl, nl, nl] 27 ?_; intro kr hg w1 hr hb1; have HB := Aside0.mk hb1; have HR := Aside0.mk hr; have HG := Aside0.mk hg; clear hr hb1 hg)
 have HU : Aside0 (Ub w.heap.size w1.heap.size kr nl nl nl nl nl nl [] [] [] (w1.alloc (.cells #[nl, nl, nl] 27))) := ⟨ub_new HR.out HB.out.size (by rw [HG.out]; exact Nat.le_refl _)⟩
 replace HB : Aside0 (Below w.heap.size w (w1.alloc (.cells #[nl, nl, nl] 27))) := ⟨below_alloc HB.out _⟩
 obtain ⟨kb, hkb⟩ : ∃ kb, kb = w1.heap.size := ⟨_, rfl⟩
 rw [← hkb] at HU ⊢
 clear HR HG hkb
 go_loopg [6] 6 (fun gg s2 wr => ∃ (x : Nat) (v0 v1 v2 : Value), x ≤ 6 ∧ 6 - x ≤ gg ∧ s2 = .int .i64 (x : Int) ∧ Aside0 (Ub w.heap.size kb kr v0 v1 v2 v0 v1 v2 (List.replicate x 1) (List.replicate x 1) (unitRel.take (6 * x)) wr) ∧ Aside0 (Below w.heap.size w wr))
 case atStart => exact ⟨0, _, _, _, by omega, by omega, rfl, HU, HB⟩
 case round =>
  clear HU HB
  obtain ⟨x, v0, v1, v2, hx, hgg, rfl, HU, HB⟩ := hrel
  obtain ⟨y0, y1, y2, f0, f1, f2⟩ := bx_of HU.out.bk
  by_cases hlt : x < 6
  ·have hz : (x : Int) < 6 := by omega
   have HL := Aside0.mk (unit_len (6 * x))
   go_wp2
   refine start_ (n := 12) (S := fun w' => Bx w' kb v0 v1 v2) (ds := [9, 11]) (ba_ 12 0) (by kernel_rfl) rfl rfl ⟨y0, y1, y2, f0, f1, f2⟩ (fun hHeld => ?_)
   refine with_tabW unitR.tab5 unitR.bits5 (fun HT_ HW_ => ?_)
   replace HU := Aside0.mk (HU.out.ch (w' := wr.drew))
   replace HB : Aside0 (Below w.heap.size w wr.drew) := ⟨below_drew1 HB.out⟩
   clear y0 y1 y2 f0 f1 f2
   refine pu_ 0 (some 9) (ba_ 12 1) rfl rfl (any_of HT_.out (by kernel_rfl)) ?_
   refine pu_ 4 (some 13) (ba_ 12 17) rfl rfl (any_of HT_.out (by kernel_rfl)) ?_
   refine ta_ 1 (some 10) (ba_ 12 19) rfl rfl (take_ofW HT_.out HW_.out (by kernel_rfl)) hHeld (by rintro w' ⟨c0, c1, c2, -, -, -⟩; go_simp; with_reducible rfl) ?_
   refine ta_ 5 (some 14) (ba_ 12 51) rfl rfl (take_ofW HT_.out HW_.out (by kernel_rfl)) hHeld (by rintro w' ⟨c0, c1, c2, -, -, -⟩; go_simp; with_reducible rfl) ?_
   refine two_ (i := 2) (j := 6) (Ni := some 11) (Nj := some 15) (ba_ 12 55) (ba_ 12 115) rfl rfl rfl rfl (two_of HT_.out (by kernel_rfl)) (by decide) (by decide) (fun K hK => ?_) (fun K hK => ?_)
   ·refine slit_step (by rfl) (N := 11) (by rfl) (cs := #[.int .i64 1]) (t := 3) (by first | (go_simp; done) | (go_simp; rfl)) ?_
    intro g11 hg w11 hb11 b11
    have N11 := Aside0.mk (lit_ne HU.out.c3.b hg)
    replace HU := Aside0.mk (HU.out.below b11)
    replace HB := Aside0.mk (below_step HB.out b11)
    have L11 := Aside0.mk hb11
    clear hHeld hg hb11 b11
    refine hK.out _ _ (bx_of HU.out.bk) (fun hHeld => ?_)
    clear hK K
    refine norm_ (a' := ?_) ?_ ?_
    rotate_left
    ·show Act.put _ (some 11) _ = _
     simp only [Act.put, List.setIfInBounds_toArray, List.set_cons_zero, List.set_cons_succ, i64_w, i32_w]
     rfl
    refine two_ (i := 3) (j := 6) (Ni := some 12) (Nj := some 15) (ba_ 12 63) (ba_ 12 119) rfl rfl rfl rfl (two_of HT_.out (by kernel_rfl)) (by decide) (by decide) (fun K hK => ?_) (fun K hK => ?_)
    ·refine iapp_rows 10 11 1 (g := g11) HU.out.c3.a HB.out.size (by simp; omega) L11.out (by rfl) (by rfl) (by rfl) (by rfl) ?_
     intro v12 w12 h1 hg hat hb
     rw [rep_one] at h1
     obtain ⟨A12, c12, e12⟩ := Kd.R_slice h1
     rw [List.length_replicate] at e12
     subst e12
     replace HU := Aside0.mk (HU.out.app0 (W := _) h1 hg hat)
     replace HB := Aside0.mk (HB.out.trans hb)
     clear hHeld h1 hg hat hb
     refine hK.out _ _ (bx_of HU.out.bk) (fun hHeld => ?_)
     clear hK K
     refine norm_ (a' := ?_) ?_ ?_
     rotate_left
     ·show Act.put _ (some 12) _ = _
      simp only [Act.put, List.setIfInBounds_toArray, List.set_cons_zero, List.set_cons_succ, i64_w, i32_w]
      rfl
     refine pu_ 8 (some 17) (ba_ 12 319) rfl rfl (any_of HT_.out (by kernel_rfl)) ?_
     refine one_ (i := 6) (N := some 15) (ba_ 12 383) rfl rfl (one_of HT_.out (by kernel_rfl)) (by decide) (fun K hK => ?_)
     refine slit_step (by rfl) (N := 15) (by rfl) (cs := #[.int .i64 1]) (t := 3) (by first | (go_simp; done) | (go_simp; rfl)) ?_
     intro g15 hg w15 hb15 b15
     have N15 := Aside0.mk (lit_ne HU.out.c3.a hg)
     replace HU := Aside0.mk (HU.out.below b15)
     replace HB := Aside0.mk (below_step HB.out b15)
     have L15 := Aside0.mk hb15
     clear hHeld hg hb15 b15
     refine hK.out _ _ (bx_of HU.out.bk) (fun hHeld => ?_)
     clear hK K
     refine norm_ (a' := ?_) ?_ ?_
     rotate_left
     ·show Act.put _ (some 15) _ = _
      simp only [Act.put, List.setIfInBounds_toArray, List.set_cons_zero, List.set_cons_succ, i64_w, i32_w]
      rfl
     refine one_ (i := 7) (N := some 16) (ba_ 12 511) rfl rfl (one_of HT_.out (by kernel_rfl)) (by decide) (fun K hK => ?_)
     refine iapp_rows 14 15 1 (g := g15) HU.out.c3.b HB.out.size (by simp; omega) L15.out (by rfl) (by rfl) (by rfl) (by rfl) ?_
     intro v16 w16 h1 hg hat hb
     rw [rep_one] at h1
     obtain ⟨A16, c16, e16⟩ := Kd.R_slice h1
     rw [List.length_replicate] at e16
     subst e16
     replace HU := Aside0.mk (HU.out.app1 (W := _) h1 hg hat)
     replace HB := Aside0.mk (HB.out.trans hb)
     clear hHeld h1 hg hat hb
     refine hK.out _ _ (bx_of HU.out.bk) (fun hHeld => ?_)
     clear hK K
     refine norm_ (a' := ?_) ?_ ?_
     rotate_left
     ·show Act.put _ (some 16) _ = _
      simp only [Act.put, List.setIfInBounds_toArray, List.set_cons_zero, List.set_cons_succ, i64_w, i32_w]
      rfl
     refine last_ (i := 9) (N := none) (ba_ 12 1023) rfl rfl (one_of HT_.out (by kernel_rfl)) (by decide) (fun K hK => ?_)
     obtain ⟨y0, y1, y2, f0, f1, f2⟩ := hHeld
     refine sstore_step (by rfl) (w1 := w16.setCell ⟨kb, 0, none⟩ (.slice A12 (x + 1) c12)) (by first | (go_simp; done) | (go_simp; rfl)) ?_
     replace HU := Aside0.mk (HU.out.put0 (.slice A12 (x + 1) c12))
     replace HB := Aside0.mk (below_set (j := 0) (v := (.slice A12 (x + 1) c12)) HB.out HU.out.gb)
     clear y0 y1 y2 f0 f1 f2
     have hHeld := bx_of HU.out.bk
     refine hK.out _ _ ?_
     clear hK K
     refine norm_ (a' := ?_) ?_ ?_
     rotate_left
     ·show Act.put _ (none) _ = _
      simp only [Act.put, List.setIfInBounds_toArray, List.set_cons_zero, List.set_cons_succ, i64_w, i32_w]
      rfl
     refine pu_ 10 (some 18) (ba_ 12 2047) rfl rfl (any_of HT_.out (by kernel_rfl)) ?_
     refine last_ (i := 11) (N := none) (ba_ 12 4095) rfl rfl (one_of HT_.out (by kernel_rfl)) (by decide) (fun K hK => ?_)
     obtain ⟨y0, y1, y2, f0, f1, f2⟩ := hHeld
     refine sstore_step (by rfl) (w1 := (w16.setCell ⟨kb, 0, none⟩ (.slice A12 (x + 1) c12)).setCell ⟨kb, 1, none⟩ (.slice A16 (x + 1) c16)) (by first | (go_simp; done) | (go_simp; rfl)) ?_
     replace HU := Aside0.mk (HU.out.put1 (.slice A16 (x + 1) c16))
     replace HB := Aside0.mk (below_set (j := 1) (v := (.slice A16 (x + 1) c16)) HB.out HU.out.gb)
     clear y0 y1 y2 f0 f1 f2
     have hHeld := bx_of HU.out.bk
     refine hK.out _ _ ?_
     clear hK K
     refine norm_ (a' := ?_) ?_ ?_
     rotate_left
     ·show Act.put _ (none) _ = _
      simp only [Act.put, List.setIfInBounds_toArray, List.set_cons_zero, List.set_cons_succ, i64_w, i32_w]
      rfl
     refine done_ (done_of HT_.out (by kernel_rfl)) ?_
     clear hHeld
     generalize (w16.setCell ⟨kb, 0, none⟩ (.slice A12 (x + 1) c12)).setCell ⟨kb, 1, none⟩ (.slice A16 (x + 1) c16) = w20 at HU HB ⊢
     go_wp2
     go_loopg [19] 6 (fun gg s3 wr => ∃ (y : Nat) (v2 : Value), y ≤ 6 ∧ 6 - y ≤ gg ∧ s3 = .int .i64 (y : Int) ∧ Aside0 (Ub w.heap.size kb kr (.slice A12 (x + 1) c12) (.slice A16 (x + 1) c16) v2 (.slice A12 (x + 1) c12) (.slice A16 (x + 1) c16) v2 (List.replicate (x + 1) 1) (List.replicate (x + 1) 1) (unitRel.take (6 * x + y)) wr) ∧ Aside0 (Below w.heap.size w wr))
     case atStart => exact ⟨0, _, by omega, by omega, rfl, HU, HB⟩
     case round =>
      clear HU HB HL
      obtain ⟨y, v2, hy, hgg, rfl, HU, HB⟩ := hrel
      have HL := Aside0.mk (unit_len (6 * x + y))
      by_cases hly : y < 6
      ·have hzy : (y : Int) < 6 := by omega
       have ht := unit_take hlt hly
       by_cases c : x = y
       ·rw [if_pos c] at ht
        have HT := Aside0.mk ht
        have q : ((x : Int) == (y : Int)) = true := by rw [c]; simp
        obtain ⟨y0, y1, y2, f0, f1, f2⟩ := bx_of HU.out.bk
        clear ht c
        go_wp2_with (at_builtin; refine iapp 26 28 0 HU.out.c3.c HB.out.size HL.out ?_ (ho := rfl); intro v12 w12 h1 hg hat hb; clear y0 y1 y2 f0 f1 f2; rw [← HT.out] at h1; obtain ⟨A22, c22, e12⟩ := Kd.R_slice h1; generalize (unitRel.take (6 * x + (y + 1))).length = n12 at e12; subst e12; replace HU := Aside0.mk (HU.out.app2 h1 hg hat); replace HB := Aside0.mk (HB.out.trans hb); obtain ⟨y0, y1, y2, f0, f1, f2⟩ := bx_of HU.out.bk; replace HU := Aside0.mk (HU.out.put2 (.slice A22 n12 c22)); replace HB := Aside0.mk (below_set (j := 2) (v := .slice A22 n12 c22) HB.out HU.out.gb); clear h1 hg hat hb)
        go_roundg (6 - (y + 1))
        case measure => omega
        case rel => exact ⟨y + 1, _, by omega, Nat.le_refl _, by go_num, HU, HB⟩
       ·rw [if_neg c] at ht
        have HT := Aside0.mk ht
        have q : ((x : Int) == (y : Int)) = false := by rw [beq_eq_false_iff_ne]; omega
        obtain ⟨y0, y1, y2, f0, f1, f2⟩ := bx_of HU.out.bk
        clear ht c
        go_wp2_with (at_builtin; refine iapp 26 28 1 HU.out.c3.c HB.out.size HL.out ?_ (ho := rfl); intro v12 w12 h1 hg hat hb; clear y0 y1 y2 f0 f1 f2; rw [← HT.out] at h1; obtain ⟨A22, c22, e12⟩ := Kd.R_slice h1; generalize (unitRel.take (6 * x + (y + 1))).length = n12 at e12; subst e12; replace HU := Aside0.mk (HU.out.app2 h1 hg hat); replace HB := Aside0.mk (HB.out.trans hb); obtain ⟨y0, y1, y2, f0, f1, f2⟩ := bx_of HU.out.bk; replace HU := Aside0.mk (HU.out.put2 (.slice A22 n12 c22)); replace HB := Aside0.mk (below_set (j := 2) (v := .slice A22 n12 c22) HB.out HU.out.gb); clear h1 hg hat hb)
        go_roundg (6 - (y + 1))
        case measure => omega
        case rel => exact ⟨y + 1, _, by omega, Nat.le_refl _, by go_num, HU, HB⟩
      ·obtain rfl : y = 6 := by omega
       rw [show 6 * x + 6 = 6 * (x + 1) by omega] at HU
       go_wp2
       go_roundg (6 - (x + 1))
       case measure => omega
       case rel => exact ⟨x + 1, _, _, _, by omega, Nat.le_refl _, by go_num, HU, HB⟩
    ·refine slit_step (by rfl) (N := 15) (by rfl) (cs := #[.int .i64 1]) (t := 3) (by first | (go_simp; done) | (go_simp; rfl)) ?_
     intro g15 hg w15 hb15 b15
     have N15 := Aside0.mk (lit_ne HU.out.c3.a hg)
     replace HU := Aside0.mk (HU.out.below b15)
     replace HB := Aside0.mk (below_step HB.out b15)
     have L15 := Aside0.mk hb15
     replace L11 := Aside0.mk (blk_below L11.out b15)
     clear hHeld hg hb15 b15
     refine hK.out _ _ (bx_of HU.out.bk) (fun hHeld => ?_)
     clear hK K
     refine norm_ (a' := ?_) ?_ ?_
     rotate_left
     ·show Act.put _ (some 15) _ = _
      simp only [Act.put, List.setIfInBounds_toArray, List.set_cons_zero, List.set_cons_succ, i64_w, i32_w]
      rfl
     refine one_ (i := 3) (N := some 12) (ba_ 12 127) rfl rfl (one_of HT_.out (by kernel_rfl)) (by decide) (fun K hK => ?_)
     refine iapp_rows 10 11 1 (g := g11) HU.out.c3.a HB.out.size (by simp; omega) L11.out (by rfl) (by rfl) (by rfl) (by rfl) ?_
     intro v12 w12 h1 hg hat hb
     rw [rep_one] at h1
     obtain ⟨A12, c12, e12⟩ := Kd.R_slice h1
     rw [List.length_replicate] at e12
     subst e12
     replace L15 := Aside0.mk (blk_grown L15.out hg N15.out)
     replace HU := Aside0.mk (HU.out.app0 (W := _) h1 hg hat)
     replace HB := Aside0.mk (HB.out.trans hb)
     clear hHeld h1 hg hat hb
     refine hK.out _ _ (bx_of HU.out.bk) (fun hHeld => ?_)
     clear hK K
     refine norm_ (a' := ?_) ?_ ?_
     rotate_left
     ·show Act.put _ (some 12) _ = _
      simp only [Act.put, List.setIfInBounds_toArray, List.set_cons_zero, List.set_cons_succ, i64_w, i32_w]
      rfl
     refine pu_ 8 (some 17) (ba_ 12 383) rfl rfl (any_of HT_.out (by kernel_rfl)) ?_
     refine one_ (i := 7) (N := some 16) (ba_ 12 511) rfl rfl (one_of HT_.out (by kernel_rfl)) (by decide) (fun K hK => ?_)
     refine iapp_rows 14 15 1 (g := g15) HU.out.c3.b HB.out.size (by simp; omega) L15.out (by rfl) (by rfl) (by rfl) (by rfl) ?_
     intro v16 w16 h1 hg hat hb
     rw [rep_one] at h1
     obtain ⟨A16, c16, e16⟩ := Kd.R_slice h1
     rw [List.length_replicate] at e16
     subst e16
     replace HU := Aside0.mk (HU.out.app1 (W := _) h1 hg hat)
     replace HB := Aside0.mk (HB.out.trans hb)
     clear hHeld h1 hg hat hb
     refine hK.out _ _ (bx_of HU.out.bk) (fun hHeld => ?_)
     clear hK K
     refine norm_ (a' := ?_) ?_ ?_
     rotate_left
     ·show Act.put _ (some 16) _ = _
      simp only [Act.put, List.setIfInBounds_toArray, List.set_cons_zero, List.set_cons_succ, i64_w, i32_w]
      rfl
     refine last_ (i := 9) (N := none) (ba_ 12 1023) rfl rfl (one_of HT_.out (by kernel_rfl)) (by decide) (fun K hK => ?_)
     obtain ⟨y0, y1, y2, f0, f1, f2⟩ := hHeld
     refine sstore_step (by rfl) (w1 := w16.setCell ⟨kb, 0, none⟩ (.slice A12 (x + 1) c12)) (by first | (go_simp; done) | (go_simp; rfl)) ?_
     replace HU := Aside0.mk (HU.out.put0 (.slice A12 (x + 1) c12))
     replace HB := Aside0.mk (below_set (j := 0) (v := (.slice A12 (x + 1) c12)) HB.out HU.out.gb)
     clear y0 y1 y2 f0 f1 f2
     have hHeld := bx_of HU.out.bk
     refine hK.out _ _ ?_
     clear hK K
     refine norm_ (a' := ?_) ?_ ?_
     rotate_left
     ·show Act.put _ (none) _ = _
      simp only [Act.put, List.setIfInBounds_toArray, List.set_cons_zero, List.set_cons_succ, i64_w, i32_w]
      rfl
     refine pu_ 10 (some 18) (ba_ 12 2047) rfl rfl (any_of HT_.out (by kernel_rfl)) ?_
     refine last_ (i := 11) (N := none) (ba_ 12 4095) rfl rfl (one_of HT_.out (by kernel_rfl)) (by decide) (fun K hK => ?_)
     obtain ⟨y0, y1, y2, f0, f1, f2⟩ := hHeld
     refine sstore_step (by rfl) (w1 := (w16.setCell ⟨kb, 0, none⟩ (.slice A12 (x + 1) c12)).setCell ⟨kb, 1, none⟩ (.slice A16 (x + 1) c16)) (by first | (go_simp; done) | (go_simp; rfl)) ?_
     replace HU := Aside0.mk (HU.out.put1 (.slice A16 (x + 1) c16))
     replace HB := Aside0.mk (below_set (j := 1) (v := (.slice A16 (x + 1) c16)) HB.out HU.out.gb)
     clear y0 y1 y2 f0 f1 f2
     have hHeld := bx_of HU.out.bk
     refine hK.out _ _ ?_
     clear hK K
     refine norm_ (a' := ?_) ?_ ?_
     rotate_left
     ·show Act.put _ (none) _ = _
      simp only [Act.put, List.setIfInBounds_toArray, List.set_cons_zero, List.set_cons_succ, i64_w, i32_w]
      rfl
     refine done_ (done_of HT_.out (by kernel_rfl)) ?_
     clear hHeld
     generalize (w16.setCell ⟨kb, 0, none⟩ (.slice A12 (x + 1) c12)).setCell ⟨kb, 1, none⟩ (.slice A16 (x + 1) c16) = w20 at HU HB ⊢
     go_wp2
     go_loopg [19] 6 (fun gg s3 wr => ∃ (y : Nat) (v2 : Value), y ≤ 6 ∧ 6 - y ≤ gg ∧ s3 = .int .i64 (y : Int) ∧ Aside0 (Ub w.heap.size kb kr (.slice A12 (x + 1) c12) (.slice A16 (x + 1) c16) v2 (.slice A12 (x + 1) c12) (.slice A16 (x + 1) c16) v2 (List.replicate (x + 1) 1) (List.replicate (x + 1) 1) (unitRel.take (6 * x + y)) wr) ∧ Aside0 (Below w.heap.size w wr))
     case atStart => exact ⟨0, _, by omega, by omega, rfl, HU, HB⟩
     case round =>
      clear HU HB HL
      obtain ⟨y, v2, hy, hgg, rfl, HU, HB⟩ := hrel
      have HL := Aside0.mk (unit_len (6 * x + y))
      by_cases hly : y < 6
      ·have hzy : (y : Int) < 6 := by omega
       have ht := unit_take hlt hly
       by_cases c : x = y
       ·rw [if_pos c] at ht
        have HT := Aside0.mk ht
        have q : ((x : Int) == (y : Int)) = true := by rw [c]; simp
        obtain ⟨y0, y1, y2, f0, f1, f2⟩ := bx_of HU.out.bk
        clear ht c
        go_wp2_with (at_builtin; refine iapp 26 28 0 HU.out.c3.c HB.out.size HL.out ?_ (ho := rfl); intro v12 w12 h1 hg hat hb; clear y0 y1 y2 f0 f1 f2; rw [← HT.out] at h1; obtain ⟨A22, c22, e12⟩ := Kd.R_slice h1; generalize (unitRel.take (6 * x + (y + 1))).length = n12 at e12; subst e12; replace HU := Aside0.mk (HU.out.app2 h1 hg hat); replace HB := Aside0.mk (HB.out.trans hb); obtain ⟨y0, y1, y2, f0, f1, f2⟩ := bx_of HU.out.bk; replace HU := Aside0.mk (HU.out.put2 (.slice A22 n12 c22)); replace HB := Aside0.mk (below_set (j := 2) (v := .slice A22 n12 c22) HB.out HU.out.gb); clear h1 hg hat hb)
        go_roundg (6 - (y + 1))
        case measure => omega
        case rel => exact ⟨y + 1, _, by omega, Nat.le_refl _, by go_num, HU, HB⟩
       ·rw [if_neg c] at ht
        have HT := Aside0.mk ht
        have q : ((x : Int) == (y : Int)) = false := by rw [beq_eq_false_iff_ne]; omega
        obtain ⟨y0, y1, y2, f0, f1, f2⟩ := bx_of HU.out.bk
        clear ht c
        go_wp2_with (at_builtin; refine iapp 26 28 1 HU.out.c3.c HB.out.size HL.out ?_ (ho := rfl); intro v12 w12 h1 hg hat hb; clear y0 y1 y2 f0 f1 f2; rw [← HT.out] at h1; obtain ⟨A22, c22, e12⟩ := Kd.R_slice h1; generalize (unitRel.take (6 * x + (y + 1))).length = n12 at e12; subst e12; replace HU := Aside0.mk (HU.out.app2 h1 hg hat); replace HB := Aside0.mk (HB.out.trans hb); obtain ⟨y0, y1, y2, f0, f1, f2⟩ := bx_of HU.out.bk; replace HU := Aside0.mk (HU.out.put2 (.slice A22 n12 c22)); replace HB := Aside0.mk (below_set (j := 2) (v := .slice A22 n12 c22) HB.out HU.out.gb); clear h1 hg hat hb)
        go_roundg (6 - (y + 1))
        case measure => omega
        case rel => exact ⟨y + 1, _, by omega, Nat.le_refl _, by go_num, HU, HB⟩
      ·obtain rfl : y = 6 := by omega
       rw [show 6 * x + 6 = 6 * (x + 1) by omega] at HU
       go_wp2
       go_roundg (6 - (x + 1))
       case measure => omega
       case rel => exact ⟨x + 1, _, _, _, by omega, Nat.le_refl _, by go_num, HU, HB⟩
   ·refine slit_step (by rfl) (N := 15) (by rfl) (cs := #[.int .i64 1]) (t := 3) (by first | (go_simp; done) | (go_simp; rfl)) ?_
    intro g15 hg w15 hb15 b15
    have N15 := Aside0.mk (lit_ne HU.out.c3.a hg)
    replace HU := Aside0.mk (HU.out.below b15)
    replace HB := Aside0.mk (below_step HB.out b15)
    have L15 := Aside0.mk hb15
    clear hHeld hg hb15 b15
    refine hK.out _ _ (bx_of HU.out.bk) (fun hHeld => ?_)
    clear hK K
    refine norm_ (a' := ?_) ?_ ?_
    rotate_left
    ·show Act.put _ (some 15) _ = _
     simp only [Act.put, List.setIfInBounds_toArray, List.set_cons_zero, List.set_cons_succ, i64_w, i32_w]
     rfl
    refine one_ (i := 2) (N := some 11) (ba_ 12 119) rfl rfl (one_of HT_.out (by kernel_rfl)) (by decide) (fun K hK => ?_)
    refine slit_step (by rfl) (N := 11) (by rfl) (cs := #[.int .i64 1]) (t := 3) (by first | (go_simp; done) | (go_simp; rfl)) ?_
    intro g11 hg w11 hb11 b11
    have N11 := Aside0.mk (lit_ne HU.out.c3.b hg)
    replace HU := Aside0.mk (HU.out.below b11)
    replace HB := Aside0.mk (below_step HB.out b11)
    have L11 := Aside0.mk hb11
    replace L15 := Aside0.mk (blk_below L15.out b11)
    clear hHeld hg hb11 b11
    refine hK.out _ _ (bx_of HU.out.bk) (fun hHeld => ?_)
    clear hK K
    refine norm_ (a' := ?_) ?_ ?_
    rotate_left
    ·show Act.put _ (some 11) _ = _
     simp only [Act.put, List.setIfInBounds_toArray, List.set_cons_zero, List.set_cons_succ, i64_w, i32_w]
     rfl
    refine one_ (i := 3) (N := some 12) (ba_ 12 127) rfl rfl (one_of HT_.out (by kernel_rfl)) (by decide) (fun K hK => ?_)
    refine iapp_rows 10 11 1 (g := g11) HU.out.c3.a HB.out.size (by simp; omega) L11.out (by rfl) (by rfl) (by rfl) (by rfl) ?_
    intro v12 w12 h1 hg hat hb
    rw [rep_one] at h1
    obtain ⟨A12, c12, e12⟩ := Kd.R_slice h1
    rw [List.length_replicate] at e12
    subst e12
    replace L15 := Aside0.mk (blk_grown L15.out hg N15.out)
    replace HU := Aside0.mk (HU.out.app0 (W := _) h1 hg hat)
    replace HB := Aside0.mk (HB.out.trans hb)
    clear hHeld h1 hg hat hb
    refine hK.out _ _ (bx_of HU.out.bk) (fun hHeld => ?_)
    clear hK K
    refine norm_ (a' := ?_) ?_ ?_
    rotate_left
    ·show Act.put _ (some 12) _ = _
     simp only [Act.put, List.setIfInBounds_toArray, List.set_cons_zero, List.set_cons_succ, i64_w, i32_w]
     rfl
    refine pu_ 8 (some 17) (ba_ 12 383) rfl rfl (any_of HT_.out (by kernel_rfl)) ?_
    refine one_ (i := 7) (N := some 16) (ba_ 12 511) rfl rfl (one_of HT_.out (by kernel_rfl)) (by decide) (fun K hK => ?_)
    refine iapp_rows 14 15 1 (g := g15) HU.out.c3.b HB.out.size (by simp; omega) L15.out (by rfl) (by rfl) (by rfl) (by rfl) ?_
    intro v16 w16 h1 hg hat hb
    rw [rep_one] at h1
    obtain ⟨A16, c16, e16⟩ := Kd.R_slice h1
    rw [List.length_replicate] at e16
    subst e16
    replace HU := Aside0.mk (HU.out.app1 (W := _) h1 hg hat)
    replace HB := Aside0.mk (HB.out.trans hb)
    clear hHeld h1 hg hat hb
    refine hK.out _ _ (bx_of HU.out.bk) (fun hHeld => ?_)
    clear hK K
    refine norm_ (a' := ?_) ?_ ?_
    rotate_left
    ·show Act.put _ (some 16) _ = _
     simp only [Act.put, List.setIfInBounds_toArray, List.set_cons_zero, List.set_cons_succ, i64_w, i32_w]
     rfl
    refine last_ (i := 9) (N := none) (ba_ 12 1023) rfl rfl (one_of HT_.out (by kernel_rfl)) (by decide) (fun K hK => ?_)
    obtain ⟨y0, y1, y2, f0, f1, f2⟩ := hHeld
    refine sstore_step (by rfl) (w1 := w16.setCell ⟨kb, 0, none⟩ (.slice A12 (x + 1) c12)) (by first | (go_simp; done) | (go_simp; rfl)) ?_
    replace HU := Aside0.mk (HU.out.put0 (.slice A12 (x + 1) c12))
    replace HB := Aside0.mk (below_set (j := 0) (v := (.slice A12 (x + 1) c12)) HB.out HU.out.gb)
    clear y0 y1 y2 f0 f1 f2
    have hHeld := bx_of HU.out.bk
    refine hK.out _ _ ?_
    clear hK K
    refine norm_ (a' := ?_) ?_ ?_
    rotate_left
    ·show Act.put _ (none) _ = _
     simp only [Act.put, List.setIfInBounds_toArray, List.set_cons_zero, List.set_cons_succ, i64_w, i32_w]
     rfl
    refine pu_ 10 (some 18) (ba_ 12 2047) rfl rfl (any_of HT_.out (by kernel_rfl)) ?_
    refine last_ (i := 11) (N := none) (ba_ 12 4095) rfl rfl (one_of HT_.out (by kernel_rfl)) (by decide) (fun K hK => ?_)
    obtain ⟨y0, y1, y2, f0, f1, f2⟩ := hHeld
    refine sstore_step (by rfl) (w1 := (w16.setCell ⟨kb, 0, none⟩ (.slice A12 (x + 1) c12)).setCell ⟨kb, 1, none⟩ (.slice A16 (x + 1) c16)) (by first | (go_simp; done) | (go_simp; rfl)) ?_
    replace HU := Aside0.mk (HU.out.put1 (.slice A16 (x + 1) c16))
    replace HB := Aside0.mk (below_set (j := 1) (v := (.slice A16 (x + 1) c16)) HB.out HU.out.gb)
    clear y0 y1 y2 f0 f1 f2
    have hHeld := bx_of HU.out.bk
    refine hK.out _ _ ?_
    clear hK K
    refine norm_ (a' := ?_) ?_ ?_
    rotate_left
    ·show Act.put _ (none) _ = _
     simp only [Act.put, List.setIfInBounds_toArray, List.set_cons_zero, List.set_cons_succ, i64_w, i32_w]
     rfl
    refine done_ (done_of HT_.out (by kernel_rfl)) ?_
    clear hHeld
    generalize (w16.setCell ⟨kb, 0, none⟩ (.slice A12 (x + 1) c12)).setCell ⟨kb, 1, none⟩ (.slice A16 (x + 1) c16) = w20 at HU HB ⊢
    go_wp2
    go_loopg [19] 6 (fun gg s3 wr => ∃ (y : Nat) (v2 : Value), y ≤ 6 ∧ 6 - y ≤ gg ∧ s3 = .int .i64 (y : Int) ∧ Aside0 (Ub w.heap.size kb kr (.slice A12 (x + 1) c12) (.slice A16 (x + 1) c16) v2 (.slice A12 (x + 1) c12) (.slice A16 (x + 1) c16) v2 (List.replicate (x + 1) 1) (List.replicate (x + 1) 1) (unitRel.take (6 * x + y)) wr) ∧ Aside0 (Below w.heap.size w wr))
    case atStart => exact ⟨0, _, by omega, by omega, rfl, HU, HB⟩
    case round =>
     clear HU HB HL
     obtain ⟨y, v2, hy, hgg, rfl, HU, HB⟩ := hrel
     have HL := Aside0.mk (unit_len (6 * x + y))
     by_cases hly : y < 6
     ·have hzy : (y : Int) < 6 := by omega
      have ht := unit_take hlt hly
      by_cases c : x = y
      ·rw [if_pos c] at ht
       have HT := Aside0.mk ht
       have q : ((x : Int) == (y : Int)) = true := by rw [c]; simp
       obtain ⟨y0, y1, y2, f0, f1, f2⟩ := bx_of HU.out.bk
       clear ht c
       go_wp2_with (at_builtin; refine iapp 26 28 0 HU.out.c3.c HB.out.size HL.out ?_ (ho := rfl); intro v12 w12 h1 hg hat hb; clear y0 y1 y2 f0 f1 f2; rw [← HT.out] at h1; obtain ⟨A22, c22, e12⟩ := Kd.R_slice h1; generalize (unitRel.take (6 * x + (y + 1))).length = n12 at e12; subst e12; replace HU := Aside0.mk (HU.out.app2 h1 hg hat); replace HB := Aside0.mk (HB.out.trans hb); obtain ⟨y0, y1, y2, f0, f1, f2⟩ := bx_of HU.out.bk; replace HU := Aside0.mk (HU.out.put2 (.slice A22 n12 c22)); replace HB := Aside0.mk (below_set (j := 2) (v := .slice A22 n12 c22) HB.out HU.out.gb); clear h1 hg hat hb)
       go_roundg (6 - (y + 1))
       case measure => omega
       case rel => exact ⟨y + 1, _, by omega, Nat.le_refl _, by go_num, HU, HB⟩
      ·rw [if_neg c] at ht
       have HT := Aside0.mk ht
       have q : ((x : Int) == (y : Int)) = false := by rw [beq_eq_false_iff_ne]; omega
       obtain ⟨y0, y1, y2, f0, f1, f2⟩ := bx_of HU.out.bk
       clear ht c
       go_wp2_with (at_builtin; refine iapp 26 28 1 HU.out.c3.c HB.out.size HL.out ?_ (ho := rfl); intro v12 w12 h1 hg hat hb; clear y0 y1 y2 f0 f1 f2; rw [← HT.out] at h1; obtain ⟨A22, c22, e12⟩ := Kd.R_slice h1; generalize (unitRel.take (6 * x + (y + 1))).length = n12 at e12; subst e12; replace HU := Aside0.mk (HU.out.app2 h1 hg hat); replace HB := Aside0.mk (HB.out.trans hb); obtain ⟨y0, y1, y2, f0, f1, f2⟩ := bx_of HU.out.bk; replace HU := Aside0.mk (HU.out.put2 (.slice A22 n12 c22)); replace HB := Aside0.mk (below_set (j := 2) (v := .slice A22 n12 c22) HB.out HU.out.gb); clear h1 hg hat hb)
       go_roundg (6 - (y + 1))
       case measure => omega
       case rel => exact ⟨y + 1, _, by omega, Nat.le_refl _, by go_num, HU, HB⟩
     ·obtain rfl : y = 6 := by omega
      rw [show 6 * x + 6 = 6 * (x + 1) by omega] at HU
      go_wp2
      go_roundg (6 - (x + 1))
      case measure => omega
      case rel => exact ⟨x + 1, _, _, _, by omega, Nat.le_refl _, by go_num, HU, HB⟩
  ·obtain rfl : x = 6 := by omega
   rw [show unitRel.take (6 * 6) = unitRel from by decide] at HU
   obtain ⟨A0, c0, e0⟩ := Kd.R_slice HU.out.c3.a
   obtain ⟨A1, c1, e1⟩ := Kd.R_slice HU.out.c3.b
   obtain ⟨A2, c2, rfl⟩ := Kd.R_slice HU.out.c3.c
   rw [List.length_replicate] at e0 e1
   subst e0 e1
   obtain ⟨z0, z1, z2, g0, g1, g2⟩ := bx_of HU.out.br
   go_wp2
   have hgv := HU.out.give (.slice A0 6 c0) (.slice A1 6 c1) (.slice A2 unitRel.length c2)
   exact bodyPost_ret (results_cell_row rfl _ _ kr 27 #[.slice A0 6 c0, .slice A1 6 c1, .slice A2 unitRel.length c2] (0, 0) _ rfl hgv.1 hu rfl (by kernel_rfl)) rfl ⟨_, _, _, rfl, hgv.2, below_set (below_set (below_set HB.out HU.out.gr) HU.out.gr) HU.out.gr⟩
end Go.Proofs.Ytngphdmbjenkaaa.X
