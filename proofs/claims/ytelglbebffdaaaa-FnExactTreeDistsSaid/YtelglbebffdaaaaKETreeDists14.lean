/- Part 14 of the proof of FnExactTreeDists: what it needs. -/
import Derived.Test.YtelglbebffdaaaaKETreeDists3
import Derived.Test.YtelglbebffdaaaaKETreeDists6
import Derived.Test.YtelglbebffdaaaaKETreeDists13
namespace Go.Proofs.Ytelglbebffdaaaa.X
open Go.RowKit Go.Proofs.YtelglbebffdaaaaW.PrintWords Go.Proofs.YtelglbebffdaaaaW.PrintLast Go.Proofs.YtelglbebffdaaaaW.PrintMore
attribute [local go_sem] max2_int min2_int max_two min_two max_three min_three max_four min_four   -- for this text's walks alone
set_option linter.unusedVariables false
set_option linter.unusedSimpArgs false
noncomputable def laws_FnExactTreeDists.j0 : Nat → List (S66) → List (S66) → List Int → List Int → Bool → List Int → List Int → List Int → Option (Bool)
 | 0, _, _, _, _, _, _, _, _ => none
 | k + 1, x0, x1, x8, x12, x84, x783000, x783001, x783002 => if x84 = true then (some false) else ((laws_markIntS.f k x12 1).bind fun bt851 => ((laws_heldIntS.f k bt851.2 1).bind fun t853 => (if t853 < 0 then (some false) else (if t853 = bt851.1 then ((laws_toNodeS.f k x0).bind fun t854 => ((laws_toNodeS.f k x1).bind fun t857 => ((laws_toCost.f k x783000 x783001 x783002).bind fun bt860 => ((impl_TreeDists.f k t854 t857 bt860.1 bt860.2.1 bt860.2.2).bind fun t869 => ((laws_eqIntS.f k t869 x8).bind fun t872 => (if t872 = true then ((laws_heldIntS.f k bt851.2 1).bind fun t873 => (if t873 < 0 then (some false) else (if t873 = bt851.1 then (some true) else (some false)))) else (some false))))))) else (some false)))))
noncomputable def laws_FnExactTreeDists.f (k : Nat) (l0 : List (S66)) (l1 : List (S66)) (l2_0 : List Int) (l2_1 : List Int) (l2_2 : List Int) : Option (Bool) := (laws_szNodeS.f l0 1048576).bind fun t783 => (if t783 < 0 then (some true) else ((laws_szNodeS.f l1 t783).bind fun t784 => (if t784 < 0 then (some true) else ((laws_szCost.f l2_0 l2_1 l2_2 t784).bind fun t785 => (if t785 < 0 then (some true) else ((laws_toNodeS.f k l0).bind fun t786 => ((laws_toNodeS.f k l1).bind fun t789 => ((laws_toCost.f k l2_0 l2_1 l2_2).bind fun bt792 => ((spec_TreeDists.f k t786 t789 bt792.1 bt792.2.1 bt792.2.2).bind fun t801 => ((laws_toNodeS.f k l0).bind fun t804 => ((laws_toNodeS.f k l1).bind fun t807 => ((laws_toCost.f k l2_0 l2_1 l2_2).bind fun bt810 => ((impl_TreeDists.f k t804 t807 bt810.1 bt810.2.1 bt810.2.2).bind fun t820 => ((laws_eqIntS.f k t820 t801).bind fun t823 => (if t823 = true then ((laws_toNodeS.f k l0).bind fun t824 => ((laws_eqNodeS.f k t804 t824).bind fun t827 => (if t827 = true then ((laws_toNodeS.f k l1).bind fun t828 => ((laws_eqNodeS.f k t807 t828).bind fun t831 => (if t831 = true then ((laws_toCost.f k l2_0 l2_1 l2_2).bind fun bt832 => ((laws_eqCost.f k bt810.1 bt810.2.1 bt810.2.2 bt832.1 bt832.2.1 bt832.2.2).bind fun t841 => (if t841 = true then ((laws_markNodeS.f k t804 1).bind fun bt842 => ((laws_markNodeS.f k t807 bt842.1).bind fun bt844 => ((laws_markCost.f k bt810.1 bt810.2.1 bt810.2.2 bt844.1).bind fun bt846 => (if bt846.1 < 0 then (laws_FnExactTreeDists.j0 k l0 l1 t801 t820 true l2_0 l2_1 l2_2) else ((laws_eqIntS.f k t820 t801).bind fun t850 => (laws_FnExactTreeDists.j0 k l0 l1 t801 t820 (!t850) l2_0 l2_1 l2_2)))))) else (some false)))) else (some false)))) else (some false)))) else (some false))))))))))))))))
def laws_FnExactTreeDists.T11 : Bool × List (List Nat × List Nat) := (true, [([], []), ([0], [0]), ([], []), ([2, 1], [2]), ([], []), ([4, 3], [4]), ([1, 3, 5, 5], [1, 3, 5]), ([6, 6, 0, 1, 2, 3, 4, 5, 6], [6])])
def laws_FnExactTreeDists.B11 : List Nat := [0, 1, 0, 7, 0, 31, 63, 127]
theorem laws_FnExactTreeDists.tab11 : rtab .any (opsOf Try.f7 11) = laws_FnExactTreeDists.T11 := by kernel_rfl
theorem laws_FnExactTreeDists.bits11 : waitsOk laws_FnExactTreeDists.T11.2 laws_FnExactTreeDists.B11 = true := by kernel_rfl
def laws_FnExactTreeDists.T38 : Bool × List (List Nat × List Nat) := (true, [([], []), ([0], [0]), ([], []), ([2, 1], [2]), ([], []), ([4, 3], [4]), ([1, 3, 5, 5], [1, 3, 5]), ([6, 6, 0, 1, 2, 3, 4, 5, 6], [6])])
def laws_FnExactTreeDists.B38 : List Nat := [0, 1, 0, 7, 0, 31, 63, 127]
theorem laws_FnExactTreeDists.tab38 : rtab .any (opsOf Try.f7 38) = laws_FnExactTreeDists.T38 := by kernel_rfl
theorem laws_FnExactTreeDists.bits38 : waitsOk laws_FnExactTreeDists.T38.2 laws_FnExactTreeDists.B38 = true := by kernel_rfl
set_option maxHeartbeats 8000000 in
set_option maxRecDepth 100000 in
theorem laws_FnExactTreeDists.calls (k : Nat) (A0 : Option Addr) (c0 : Nat) (l0 : List (S66)) (A1 : Option Addr) (c1 : Nat) (l1 : List (S66)) (A2_0 : Option Addr) (c2_0 : Nat) (l2_0 : List Int) (A2_1 : Option Addr) (c2_1 : Nat) (l2_1 : List Int) (A2_2 : Option Addr) (c2_2 : Nat) (l2_2 : List Int) (w : World) (hr0 : Kd.C k66 w A0 l0.length l0) (hc0 : l0.length ≤ c0) (hr1 : Kd.C k66 w A1 l1.length l1) (hc1 : l1.length ≤ c1) (hr2_0 : Kd.C (Kd.int .i64) w A2_0 l2_0.length l2_0) (hc2_0 : l2_0.length ≤ c2_0) (hr2_1 : Kd.C (Kd.int .i64) w A2_1 l2_1.length l2_1) (hc2_1 : l2_1.length ≤ c2_1) (hr2_2 : Kd.C (Kd.int .i64) w A2_2 l2_2.length l2_2) (hc2_2 : l2_2.length ≤ c2_2) (h : laws_FnExactTreeDists.f k l0 l1 l2_0 l2_1 l2_2 = some true) :
  Calls Try.prog 7 #[.slice A0 l0.length c0, .slice A1 l1.length c1, .agg #[.slice A2_0 l2_0.length c2_0, .slice A2_1 l2_1.length c2_1, .slice A2_2 l2_2.length c2_2]] w fun e w' => e = .returned (.bool true) ∧ Below w.heap.size w w' := by
 have hu25 := Try.underlying25
 have hu31 := Try.underlying31
 have HR0 := Aside0.mk hr0
 have HC0 := Aside0.mk hc0
 clear hr0 hc0
 have HR1 := Aside0.mk hr1
 have HC1 := Aside0.mk hc1
 clear hr1 hc1
 have HR2_0 := Aside0.mk hr2_0
 have HC2_0 := Aside0.mk hc2_0
 clear hr2_0 hc2_0
 have HR2_1 := Aside0.mk hr2_1
 have HC2_1 := Aside0.mk hc2_1
 clear hr2_1 hc2_1
 have HR2_2 := Aside0.mk hr2_2
 have HC2_2 := Aside0.mk hc2_2
 clear hr2_2 hc2_2
 have HB := Aside0.mk (Below.refl w.heap.size w)
 have H : ((laws_szNodeS.f l0 1048576).bind fun t783 => (if t783 < 0 then (some true) else ((laws_szNodeS.f l1 t783).bind fun t784 => (if t784 < 0 then (some true) else ((laws_szCost.f l2_0 l2_1 l2_2 t784).bind fun t785 => (if t785 < 0 then (some true) else ((laws_toNodeS.f k l0).bind fun t786 => ((laws_toNodeS.f k l1).bind fun t789 => ((laws_toCost.f k l2_0 l2_1 l2_2).bind fun bt792 => ((spec_TreeDists.f k t786 t789 bt792.1 bt792.2.1 bt792.2.2).bind fun t801 => ((laws_toNodeS.f k l0).bind fun t804 => ((laws_toNodeS.f k l1).bind fun t807 => ((laws_toCost.f k l2_0 l2_1 l2_2).bind fun bt810 => ((impl_TreeDists.f k t804 t807 bt810.1 bt810.2.1 bt810.2.2).bind fun t820 => ((laws_eqIntS.f k t820 t801).bind fun t823 => (if t823 = true then ((laws_toNodeS.f k l0).bind fun t824 => ((laws_eqNodeS.f k t804 t824).bind fun t827 => (if t827 = true then ((laws_toNodeS.f k l1).bind fun t828 => ((laws_eqNodeS.f k t807 t828).bind fun t831 => (if t831 = true then ((laws_toCost.f k l2_0 l2_1 l2_2).bind fun bt832 => ((laws_eqCost.f k bt810.1 bt810.2.1 bt810.2.2 bt832.1 bt832.2.1 bt832.2.2).bind fun t841 => (if t841 = true then ((laws_markNodeS.f k t804 1).bind fun bt842 => ((laws_markNodeS.f k t807 bt842.1).bind fun bt844 => ((laws_markCost.f k bt810.1 bt810.2.1 bt810.2.2 bt844.1).bind fun bt846 => (if bt846.1 < 0 then (laws_FnExactTreeDists.j0 k l0 l1 t801 t820 true l2_0 l2_1 l2_2) else ((laws_eqIntS.f k t820 t801).bind fun t850 => (laws_FnExactTreeDists.j0 k l0 l1 t801 t820 (!t850) l2_0 l2_1 l2_2)))))) else (some false)))) else (some false)))) else (some false)))) else (some false))))))))))))))))) = some true := h
 clear h
 replace H := Option.bind_eq_some_iff.mp H
 obtain ⟨t783, A40, H⟩ := H
 try dsimp only at H
 have A4 := Aside0.mk A40
 clear A40
 by_cases c5 : t783 < 0
 ·rw [if_pos c5] at H
  have c5b0 : decide (t783 < 0) = true := decide_eq_true c5
  clear c5
  clear H
  go_enter Try.func7, Try.ntmps7
  go_wp2_with (first | ((with_reducible refine gate_dst (N := 5) rfl ?_); refine bx_ 5 #[.slice A2_0 l2_0.length c2_0, .slice A2_1 l2_1.length c2_1, .slice A2_2 l2_2.length c2_2] 25 ?_; intro gb782 hg w6 hbox hb; have BK782 := Aside0.mk (hbox); have GW782 := Aside0.mk ((by rw [hg]; exact (bs_ HB) : w.heap.size ≤ gb782)); have GE782 := Aside0.mk ((by rw [hg]; exact (bs_ HB) : w.heap.size ≤ gb782)); replace HB := tB_ HB hb; clear hb hbox hg) | ((with_reducible refine gate_callee (f := 12) rfl ?_); refine gL_ (some 19) Try.func12 #[.slice A0 l0.length c0, .int .i64 1048576] ?_; (with_reducible refine (laws_szNodeS.calls _ _ l0 1048576 t783 _ (cx_ HR0 HB) HC0.out A4.out).mono ?_); rintro e w' ⟨rfl, ⟨nd, rfl⟩⟩; refine ⟨_, rfl, ?_⟩))
  go_ret
  exact ⟨ea_, (bl_ HB).out⟩
 ·rw [if_neg c5] at H
  have c5b0 : decide (t783 < 0) = false := decide_eq_false c5
  clear c5
  replace H := Option.bind_eq_some_iff.mp H
  obtain ⟨t784, A70, H⟩ := H
  try dsimp only at H
  have A7 := Aside0.mk A70
  clear A70
  by_cases c8 : t784 < 0
  ·rw [if_pos c8] at H
   have c8b0 : decide (t784 < 0) = true := decide_eq_true c8
   clear c8
   clear H
   go_enter Try.func7, Try.ntmps7
   go_wp2_with (first | ((with_reducible refine gate_dst (N := 5) rfl ?_); refine bx_ 5 #[.slice A2_0 l2_0.length c2_0, .slice A2_1 l2_1.length c2_1, .slice A2_2 l2_2.length c2_2] 25 ?_; intro gb782 hg w9 hbox hb; have BK782 := Aside0.mk (hbox); have GW782 := Aside0.mk ((by rw [hg]; exact (bs_ HB) : w.heap.size ≤ gb782)); have GE782 := Aside0.mk ((by rw [hg]; exact (bs_ HB) : w.heap.size ≤ gb782)); replace HB := tB_ HB hb; clear hb hbox hg) | ((with_reducible refine gate_callee (f := 12) rfl ?_); refine gL_ (some 19) Try.func12 #[.slice A0 l0.length c0, .int .i64 1048576] ?_; (with_reducible refine (laws_szNodeS.calls _ _ l0 1048576 t783 _ (cx_ HR0 HB) HC0.out A4.out).mono ?_); rintro e w' ⟨rfl, ⟨nd, rfl⟩⟩; refine ⟨_, rfl, ?_⟩) | ((with_reducible refine gate_callee (f := 12) rfl ?_); refine gL_ (some 24) Try.func12 #[.slice A1 l1.length c1, .int .i64 t783] ?_; (with_reducible refine (laws_szNodeS.calls _ _ l1 t783 t784 _ (cx_ HR1 HB) HC1.out A7.out).mono ?_); rintro e w' ⟨rfl, ⟨nd, rfl⟩⟩; refine ⟨_, rfl, ?_⟩))
   go_ret
   exact ⟨ea_, (bl_ HB).out⟩
  ·rw [if_neg c8] at H
   have c8b0 : decide (t784 < 0) = false := decide_eq_false c8
   clear c8
   replace H := Option.bind_eq_some_iff.mp H
   obtain ⟨t785, A100, H⟩ := H
   try dsimp only at H
   have A10 := Aside0.mk A100
   clear A100
   by_cases c11 : t785 < 0
   ·rw [if_pos c11] at H
    have c11b0 : decide (t785 < 0) = true := decide_eq_true c11
    clear c11
    clear H
    go_enter Try.func7, Try.ntmps7
    go_wp2_with (first | ((with_reducible refine gate_dst (N := 5) rfl ?_); refine bx_ 5 #[.slice A2_0 l2_0.length c2_0, .slice A2_1 l2_1.length c2_1, .slice A2_2 l2_2.length c2_2] 25 ?_; intro gb782 hg w12 hbox hb; have BK782 := Aside0.mk (hbox); have GW782 := Aside0.mk ((by rw [hg]; exact (bs_ HB) : w.heap.size ≤ gb782)); have GE782 := Aside0.mk ((by rw [hg]; exact (bs_ HB) : w.heap.size ≤ gb782)); replace HB := tB_ HB hb; clear hb hbox hg) | ((with_reducible refine gate_callee (f := 12) rfl ?_); refine gL_ (some 19) Try.func12 #[.slice A0 l0.length c0, .int .i64 1048576] ?_; (with_reducible refine (laws_szNodeS.calls _ _ l0 1048576 t783 _ (cx_ HR0 HB) HC0.out A4.out).mono ?_); rintro e w' ⟨rfl, ⟨nd, rfl⟩⟩; refine ⟨_, rfl, ?_⟩) | ((with_reducible refine gate_callee (f := 12) rfl ?_); refine gL_ (some 24) Try.func12 #[.slice A1 l1.length c1, .int .i64 t783] ?_; (with_reducible refine (laws_szNodeS.calls _ _ l1 t783 t784 _ (cx_ HR1 HB) HC1.out A7.out).mono ?_); rintro e w' ⟨rfl, ⟨nd, rfl⟩⟩; refine ⟨_, rfl, ?_⟩; obtain ⟨hcz13_0, hcz13_1, hcz13_2, hfz13_0, hfz13_1, hfz13_2⟩ := bk3_ BK782) | ((with_reducible refine gate_callee (f := 13) rfl ?_); refine gL_ (some 29) Try.func13 #[.agg #[.slice A2_0 l2_0.length c2_0, .slice A2_1 l2_1.length c2_1, .slice A2_2 l2_2.length c2_2], .int .i64 t784] ?_; (with_reducible refine (laws_szCost.calls _ _ l2_0 _ _ l2_1 _ _ l2_2 t784 t785 _ (cx_ HR2_0 HB) HC2_0.out (cx_ HR2_1 HB) HC2_1.out (cx_ HR2_2 HB) HC2_2.out A10.out).mono ?_); rintro e w14 ⟨rfl, hb⟩; refine ⟨_, rfl, ?_⟩; replace BK782 := tK_ BK782 hb; replace HB := tB_ HB hb; (try clear hb)))
    go_ret
    exact ⟨ea_, (bl_ HB).out⟩
   ·rw [if_neg c11] at H
    have c11b0 : decide (t785 < 0) = false := decide_eq_false c11
    clear c11
    replace H := Option.bind_eq_some_iff.mp H
    obtain ⟨t786, A150, H⟩ := H
    try dsimp only at H
    have A15 := Aside0.mk A150
    clear A150
    replace H := Option.bind_eq_some_iff.mp H
    obtain ⟨t789, A160, H⟩ := H
    try dsimp only at H
    have A16 := Aside0.mk A160
    clear A160
    replace H := Option.bind_eq_some_iff.mp H
    obtain ⟨⟨t792, t795, t798⟩, A170, H⟩ := H
    try dsimp only at H
    have A17 := Aside0.mk A170
    clear A170
    replace H := Option.bind_eq_some_iff.mp H
    obtain ⟨t801, A180, H⟩ := H
    try dsimp only at H
    have A18 := Aside0.mk A180
    clear A180
    replace H := Option.bind_eq_some_iff.mp H
    obtain ⟨t804, A190, H⟩ := H
    try dsimp only at H
    have A19 := Aside0.mk A190
    clear A190
    replace H := Option.bind_eq_some_iff.mp H
    obtain ⟨t807, A200, H⟩ := H
    try dsimp only at H
    have A20 := Aside0.mk A200
    clear A200
    replace H := Option.bind_eq_some_iff.mp H
    obtain ⟨⟨t810, t813, t816⟩, A210, H⟩ := H
    try dsimp only at H
    have A21 := Aside0.mk A210
    clear A210
    replace H := Option.bind_eq_some_iff.mp H
    obtain ⟨t820, A220, H⟩ := H
    try dsimp only at H
    have A22 := Aside0.mk A220
    clear A220
    replace H := Option.bind_eq_some_iff.mp H
    obtain ⟨t823, A230, H⟩ := H
    try dsimp only at H
    have A23 := Aside0.mk A230
    clear A230
    by_cases c24 : t823 = true
    ·subst c24
     have H1 : ((laws_toNodeS.f k l0).bind fun t824 => ((laws_eqNodeS.f k t804 t824).bind fun t827 => (if t827 = true then ((laws_toNodeS.f k l1).bind fun t828 => ((laws_eqNodeS.f k t807 t828).bind fun t831 => (if t831 = true then ((laws_toCost.f k l2_0 l2_1 l2_2).bind fun bt832 => ((laws_eqCost.f k t810 t813 t816 bt832.1 bt832.2.1 bt832.2.2).bind fun t841 => (if t841 = true then ((laws_markNodeS.f k t804 1).bind fun bt842 => ((laws_markNodeS.f k t807 bt842.1).bind fun bt844 => ((laws_markCost.f k t810 t813 t816 bt844.1).bind fun bt846 => (if bt846.1 < 0 then (laws_FnExactTreeDists.j0 k l0 l1 t801 t820 true l2_0 l2_1 l2_2) else ((laws_eqIntS.f k t820 t801).bind fun t850 => (laws_FnExactTreeDists.j0 k l0 l1 t801 t820 (!t850) l2_0 l2_1 l2_2)))))) else (some false)))) else (some false)))) else (some false)))) = some true := by rw [if_pos rfl] at H; exact H
     clear H
     have H := H1
     clear H1
     replace H := Option.bind_eq_some_iff.mp H
     obtain ⟨t824, A250, H⟩ := H
     try dsimp only at H
     have A25 := Aside0.mk A250
     clear A250
     replace H := Option.bind_eq_some_iff.mp H
     obtain ⟨t827, A260, H⟩ := H
     try dsimp only at H
     have A26 := Aside0.mk A260
     clear A260
     by_cases c27 : t827 = true
     ·subst c27
      have H1 : ((laws_toNodeS.f k l1).bind fun t828 => ((laws_eqNodeS.f k t807 t828).bind fun t831 => (if t831 = true then ((laws_toCost.f k l2_0 l2_1 l2_2).bind fun bt832 => ((laws_eqCost.f k t810 t813 t816 bt832.1 bt832.2.1 bt832.2.2).bind fun t841 => (if t841 = true then ((laws_markNodeS.f k t804 1).bind fun bt842 => ((laws_markNodeS.f k t807 bt842.1).bind fun bt844 => ((laws_markCost.f k t810 t813 t816 bt844.1).bind fun bt846 => (if bt846.1 < 0 then (laws_FnExactTreeDists.j0 k l0 l1 t801 t820 true l2_0 l2_1 l2_2) else ((laws_eqIntS.f k t820 t801).bind fun t850 => (laws_FnExactTreeDists.j0 k l0 l1 t801 t820 (!t850) l2_0 l2_1 l2_2)))))) else (some false)))) else (some false)))) = some true := by rw [if_pos rfl] at H; exact H
      clear H
      have H := H1
      clear H1
      replace H := Option.bind_eq_some_iff.mp H
      obtain ⟨t828, A280, H⟩ := H
      try dsimp only at H
      have A28 := Aside0.mk A280
      clear A280
      replace H := Option.bind_eq_some_iff.mp H
      obtain ⟨t831, A290, H⟩ := H
      try dsimp only at H
      have A29 := Aside0.mk A290
      clear A290
      by_cases c30 : t831 = true
      ·subst c30
       have H1 : ((laws_toCost.f k l2_0 l2_1 l2_2).bind fun bt832 => ((laws_eqCost.f k t810 t813 t816 bt832.1 bt832.2.1 bt832.2.2).bind fun t841 => (if t841 = true then ((laws_markNodeS.f k t804 1).bind fun bt842 => ((laws_markNodeS.f k t807 bt842.1).bind fun bt844 => ((laws_markCost.f k t810 t813 t816 bt844.1).bind fun bt846 => (if bt846.1 < 0 then (laws_FnExactTreeDists.j0 k l0 l1 t801 t820 true l2_0 l2_1 l2_2) else ((laws_eqIntS.f k t820 t801).bind fun t850 => (laws_FnExactTreeDists.j0 k l0 l1 t801 t820 (!t850) l2_0 l2_1 l2_2)))))) else (some false)))) = some true := by rw [if_pos rfl] at H; exact H
       clear H
       have H := H1
       clear H1
       replace H := Option.bind_eq_some_iff.mp H
       obtain ⟨⟨t832, t835, t838⟩, A310, H⟩ := H
       try dsimp only at H
       have A31 := Aside0.mk A310
       clear A310
       replace H := Option.bind_eq_some_iff.mp H
       obtain ⟨t841, A320, H⟩ := H
       try dsimp only at H
       have A32 := Aside0.mk A320
       clear A320
       by_cases c33 : t841 = true
       ·subst c33
        have H1 : ((laws_markNodeS.f k t804 1).bind fun bt842 => ((laws_markNodeS.f k t807 bt842.1).bind fun bt844 => ((laws_markCost.f k t810 t813 t816 bt844.1).bind fun bt846 => (if bt846.1 < 0 then (laws_FnExactTreeDists.j0 k l0 l1 t801 t820 true l2_0 l2_1 l2_2) else ((laws_eqIntS.f k t820 t801).bind fun t850 => (laws_FnExactTreeDists.j0 k l0 l1 t801 t820 (!t850) l2_0 l2_1 l2_2)))))) = some true := by rw [if_pos rfl] at H; exact H
        clear H
        have H := H1
        clear H1
        replace H := Option.bind_eq_some_iff.mp H
        obtain ⟨⟨t842, t843⟩, A340, H⟩ := H
        try dsimp only at H
        have A34 := Aside0.mk A340
        clear A340
        replace H := Option.bind_eq_some_iff.mp H
        obtain ⟨⟨t844, t845⟩, A350, H⟩ := H
        try dsimp only at H
        have A35 := Aside0.mk A350
        clear A350
        replace H := Option.bind_eq_some_iff.mp H
        obtain ⟨⟨t846, t847, t848, t849⟩, A360, H⟩ := H
        try dsimp only at H
        have A36 := Aside0.mk A360
        clear A360
        have HC37 := Aside0.mk H
        clear H
        go_enter Try.func7, Try.ntmps7
        try go_wp2_with (first | ((with_reducible refine gate_dst (N := 5) rfl ?_); refine bx_ 5 #[.slice A2_0 l2_0.length c2_0, .slice A2_1 l2_1.length c2_1, .slice A2_2 l2_2.length c2_2] 25 ?_; intro gb782 hg w38 hbox hb; have BK782 := Aside0.mk (hbox); have GW782 := Aside0.mk ((by rw [hg]; exact (bs_ HB) : w.heap.size ≤ gb782)); have GE782 := Aside0.mk ((by rw [hg]; exact (bs_ HB) : w.heap.size ≤ gb782)); replace HB := tB_ HB hb; clear hb hbox hg) | ((with_reducible refine gate_callee (f := 12) rfl ?_); refine gL_ (some 19) Try.func12 #[.slice A0 l0.length c0, .int .i64 1048576] ?_; (with_reducible refine (laws_szNodeS.calls _ _ l0 1048576 t783 _ (cx_ HR0 HB) HC0.out A4.out).mono ?_); rintro e w' ⟨rfl, ⟨nd, rfl⟩⟩; refine ⟨_, rfl, ?_⟩; (try (rw [drewN_self w38]; generalize hq_ : World.drewN w38 _ = w38; have n0_ : Aside0 (w38.heap[gb782]? = some (.cells #[.slice A2_0 l2_0.length c2_0, .slice A2_1 l2_1.length c2_1, .slice A2_2 l2_2.length c2_2] 25 (0, 0))) := ⟨by rw [← hq_]; exact (kx_ BK782.out)⟩; have n1_ : Aside0 (Below w.heap.size w w38) := ⟨by rw [← hq_]; exact ((bl_ HB).out)⟩; clear BK782 HB hq_; have BK782 := n0_; have HB := n1_; clear n0_ n1_))) | ((with_reducible refine gate_callee (f := 12) rfl ?_); refine gL_ (some 24) Try.func12 #[.slice A1 l1.length c1, .int .i64 t783] ?_; (with_reducible refine (laws_szNodeS.calls _ _ l1 t783 t784 _ (cx_ HR1 HB) HC1.out A7.out).mono ?_); rintro e w' ⟨rfl, ⟨nd, rfl⟩⟩; refine ⟨_, rfl, ?_⟩; (try (rw [drewN_self w38]; generalize hq_ : World.drewN w38 _ = w38; have n0_ : Aside0 (w38.heap[gb782]? = some (.cells #[.slice A2_0 l2_0.length c2_0, .slice A2_1 l2_1.length c2_1, .slice A2_2 l2_2.length c2_2] 25 (0, 0))) := ⟨by rw [← hq_]; exact (kx_ BK782.out)⟩; have n1_ : Aside0 (Below w.heap.size w w38) := ⟨by rw [← hq_]; exact ((bl_ HB).out)⟩; clear BK782 HB hq_; have BK782 := n0_; have HB := n1_; clear n0_ n1_)); obtain ⟨hcz39_0, hcz39_1, hcz39_2, hfz39_0, hfz39_1, hfz39_2⟩ := bk3_ BK782) | ((with_reducible refine gate_callee (f := 13) rfl ?_); refine gL_ (some 29) Try.func13 #[.agg #[.slice A2_0 l2_0.length c2_0, .slice A2_1 l2_1.length c2_1, .slice A2_2 l2_2.length c2_2], .int .i64 t784] ?_; (with_reducible refine (laws_szCost.calls _ _ l2_0 _ _ l2_1 _ _ l2_2 t784 t785 _ (cx_ HR2_0 HB) HC2_0.out (cx_ HR2_1 HB) HC2_1.out (cx_ HR2_2 HB) HC2_2.out A10.out).mono ?_); rintro e w40 ⟨rfl, hb⟩; refine ⟨_, rfl, ?_⟩; replace BK782 := tK_ BK782 hb; replace HB := tB_ HB hb; (try clear hb)))
        have n0_ := Aside0.mk (blk_drew BK782.out)
        have n1_ := Aside0.mk (below_drew1 HB.out)
        clear BK782
        clear HB
        have BK782 := n0_
        have HB := n1_
        clear n0_ n1_
        refine start_ (n := 8) (S := fun w' => w'.cell? ⟨gb782, 0, none⟩ = some (.slice A2_0 l2_0.length c2_0) ∧ w'.cell? ⟨gb782, 1, none⟩ = some (.slice A2_1 l2_1.length c2_1) ∧ w'.cell? ⟨gb782, 2, none⟩ = some (.slice A2_2 l2_2.length c2_2)) (ds := []) (ba_ 8 0) (by kernel_rfl) rfl rfl ⟨(blk_cell BK782.out 0).trans rfl, (blk_cell BK782.out 1).trans rfl, (blk_cell BK782.out 2).trans rfl⟩ (fun hHeld => ?_); refine with_tabW laws_FnExactTreeDists.tab11 laws_FnExactTreeDists.bits11 (fun HT_ HW_ => ?_)
        generalize w40.drew = w41 at BK782 HB hHeld ⊢
        refine pu_ 0 (some 32) (ba_ 8 1) rfl rfl (any_of HT_.out (by kernel_rfl)) ?_
        refine pu_ 2 (some 34) (ba_ 8 5) rfl rfl (any_of HT_.out (by kernel_rfl)) ?_
        refine ta_ 4 (some 36) (ba_ 8 21) rfl rfl (take_ofW HT_.out HW_.out (by kernel_rfl)) hHeld (by rintro w' ⟨s0, s1, s2⟩; go_simp; with_reducible rfl) ?_
        refine one_ (i := 1) (N := some 33) (ba_ 8 23) rfl rfl (one_of HT_.out (by kernel_rfl)) (by decide) (fun K hK => ?_)
        refine goes_ Try.func15 (by kernel_rfl) rfl #[.slice A0 l0.length c0] (by rfl) rfl rfl (by (try simp only [List.map_toArray, List.map_cons, List.map_nil]); first | done | rfl | (simp only [List.length_drop, List.length_take]; rfl)) ?_
        with_reducible refine (laws_toNodeS.calls k _ _ l0 t786 _ ?side1 ?side2 A15.out).mono ?_
        (case side1 => exact cx_ HR0 HB)
        (case side2 => exact HC0.out)
        rintro e w42 ⟨v787, rfl, ho0, hb⟩
        refine ⟨_, rfl, ?_⟩
        have n0_ := Aside0.mk (Kd.R_lower ho0 (bs_ HB))
        have n1_ := tK_ BK782 hb
        have n2_ := tB_ HB hb
        clear BK782
        clear HB
        have HO788 := n0_
        have BK782 := n1_
        have HB := n2_
        clear n0_ n1_ n2_
        (try clear hb)
        (try clear hb2)
        (try clear hk)
        (try clear hi)
        (try clear ho0)
        refine hK.out _ _ ⟨(blk_cell BK782.out 0).trans rfl, (blk_cell BK782.out 1).trans rfl, (blk_cell BK782.out 2).trans rfl⟩ (fun hHeld => ?_)
        clear hK K
        refine norm_ (a' := ?_) ?_ ?_
        rotate_left
        ·show Act.put _ (some 33) _ = _
         simp only [Act.put, List.setIfInBounds_toArray, List.set_cons_zero, List.set_cons_succ, i64_w, i32_w]
         rfl
        refine one_ (i := 3) (N := some 35) (ba_ 8 31) rfl rfl (one_of HT_.out (by kernel_rfl)) (by decide) (fun K hK => ?_)
        refine goes_ Try.func15 (by kernel_rfl) rfl #[.slice A1 l1.length c1] (by rfl) rfl rfl (by (try simp only [List.map_toArray, List.map_cons, List.map_nil]); first | done | rfl | (simp only [List.length_drop, List.length_take]; rfl)) ?_
        with_reducible refine (laws_toNodeS.calls k _ _ l1 t789 _ ?side1 ?side2 A16.out).mono ?_
        (case side1 => exact cx_ HR1 HB)
        (case side2 => exact HC1.out)
        rintro e w43 ⟨v790, rfl, ho0, hb⟩
        refine ⟨_, rfl, ?_⟩
        have n0_ := Aside0.mk (Kd.R_elder' (rx_ HO788.out) (Kd.R_base ho0) hb)
        have n1_ := Aside0.mk (Kd.R_lower (Kd.R_new' ho0 (Kd.R_lt (rx_ HO788.out))) (bs_ HB))
        have n2_ := tK_ BK782 hb
        have n3_ := tB_ HB hb
        clear HO788
        clear BK782
        clear HB
        have HO788 := n0_
        have HO791 := n1_
        have BK782 := n2_
        have HB := n3_
        clear n0_ n1_ n2_ n3_
        (try clear hb)
        (try clear hb2)
        (try clear hk)
        (try clear hi)
        (try clear ho0)
        refine hK.out _ _ ⟨(blk_cell BK782.out 0).trans rfl, (blk_cell BK782.out 1).trans rfl, (blk_cell BK782.out 2).trans rfl⟩ (fun hHeld => ?_)
        clear hK K
        refine norm_ (a' := ?_) ?_ ?_
        rotate_left
        ·show Act.put _ (some 35) _ = _
         simp only [Act.put, List.setIfInBounds_toArray, List.set_cons_zero, List.set_cons_succ, i64_w, i32_w]
         rfl
        refine one_ (i := 5) (N := some 37) (ba_ 8 63) rfl rfl (one_of HT_.out (by kernel_rfl)) (by decide) (fun K hK => ?_)
        refine goes_ Try.func16 (by kernel_rfl) rfl #[.agg #[.slice A2_0 l2_0.length c2_0, .slice A2_1 l2_1.length c2_1, .slice A2_2 l2_2.length c2_2]] (by rfl) rfl rfl (by (try simp only [List.map_toArray, List.map_cons, List.map_nil]); first | done | rfl | (simp only [List.length_drop, List.length_take]; rfl)) ?_
        with_reducible refine (laws_toCost.calls k _ _ l2_0 _ _ l2_1 _ _ l2_2 t792 t795 t798 _ ?side1 ?side2 ?side3 ?side4 ?side5 ?side6 A17.out).mono ?_
        (case side1 => exact cx_ HR2_0 HB)
        (case side2 => exact HC2_0.out)
        (case side3 => exact cx_ HR2_1 HB)
        (case side4 => exact HC2_1.out)
        (case side5 => exact cx_ HR2_2 HB)
        (case side6 => exact HC2_2.out)
        rintro e w44 ⟨v793, v796, v799, rfl, ho0, ho1, ho2, hb⟩
        refine ⟨_, rfl, ?_⟩
        have n0_ := tR_ HO788 hb
        have n1_ := tR_ HO791 hb
        have n2_ := Aside0.mk (Kd.R_lower ho0 (bs_ HB))
        have n3_ := Aside0.mk (Kd.R_lower ho1 (bs_ HB))
        have n4_ := Aside0.mk (Kd.R_lower ho2 (bs_ HB))
        have n5_ := tK_ BK782 hb
        have n6_ := tB_ HB hb
        clear HO788
        clear HO791
        clear BK782
        clear HB
        have HO788 := n0_
        have HO791 := n1_
        have HO794 := n2_
        have HO797 := n3_
        have HO800 := n4_
        have BK782 := n5_
        have HB := n6_
        clear n0_ n1_ n2_ n3_ n4_ n5_ n6_
        (try clear hb)
        (try clear hb2)
        (try clear hk)
        (try clear hi)
        (try clear ho0)
        (try clear ho1)
        (try clear ho2)
        obtain ⟨Ao45, co45, eo45⟩ := Kd.R_slice HO788.out
        (first | subst eo45 | (injection eo45 with f1_ f2_ f3_; have f4_ := f1_.symm; have f5_ := f3_.symm; clear f1_ f2_ f3_; subst f4_; subst f5_))
        obtain ⟨Ao46, co46, eo46⟩ := Kd.R_slice HO791.out
        (first | subst eo46 | (injection eo46 with f1_ f2_ f3_; have f4_ := f1_.symm; have f5_ := f3_.symm; clear f1_ f2_ f3_; subst f4_; subst f5_))
        obtain ⟨Ao47, co47, eo47⟩ := Kd.R_slice HO794.out
        (first | subst eo47 | (injection eo47 with f1_ f2_ f3_; have f4_ := f1_.symm; have f5_ := f3_.symm; clear f1_ f2_ f3_; subst f4_; subst f5_))
        obtain ⟨Ao48, co48, eo48⟩ := Kd.R_slice HO797.out
        (first | subst eo48 | (injection eo48 with f1_ f2_ f3_; have f4_ := f1_.symm; have f5_ := f3_.symm; clear f1_ f2_ f3_; subst f4_; subst f5_))
        obtain ⟨Ao49, co49, eo49⟩ := Kd.R_slice HO800.out
        (first | subst eo49 | (injection eo49 with f1_ f2_ f3_; have f4_ := f1_.symm; have f5_ := f3_.symm; clear f1_ f2_ f3_; subst f4_; subst f5_))
        refine hK.out _ _ ⟨(blk_cell BK782.out 0).trans rfl, (blk_cell BK782.out 1).trans rfl, (blk_cell BK782.out 2).trans rfl⟩ (fun hHeld => ?_)
        clear hK K
        refine norm_ (a' := ?_) ?_ ?_
        rotate_left
        ·show Act.put _ (some 37) _ = _
         simp only [Act.put, List.setIfInBounds_toArray, List.set_cons_zero, List.set_cons_succ, i64_w, i32_w]
         rfl
        refine one_ (i := 6) (N := some 38) (ba_ 8 127) rfl rfl (one_of HT_.out (by kernel_rfl)) (by decide) (fun K hK => ?_)
        refine goes_ Try.func26 (by kernel_rfl) rfl #[.slice Ao45 t786.length co45, .slice Ao46 t789.length co46, .agg #[.slice Ao47 t792.length co47, .slice Ao48 t795.length co48, .slice Ao49 t798.length co49]] (by rfl) rfl rfl (by (try simp only [List.map_toArray, List.map_cons, List.map_nil]); first | done | rfl | (simp only [List.length_drop, List.length_take]; rfl)) ?_
        with_reducible refine (spec_TreeDists.calls k _ _ t786 _ _ t789 _ _ t792 _ _ t795 _ _ t798 t801 _ ?side1 ?side2 ?side3 ?side4 ?side5 ?side6 ?side7 ?side8 ?side9 ?side10 A18.out).mono ?_
        (case side1 => exact cc_ (Kd.R_reads' HO788.out).2.2)
        (case side2 => exact (Kd.R_reads' HO788.out).2.1)
        (case side3 => exact cc_ (Kd.R_reads' HO791.out).2.2)
        (case side4 => exact (Kd.R_reads' HO791.out).2.1)
        (case side5 => exact cc_ (Kd.R_reads' HO794.out).2.2)
        (case side6 => exact (Kd.R_reads' HO794.out).2.1)
        (case side7 => exact cc_ (Kd.R_reads' HO797.out).2.2)
        (case side8 => exact (Kd.R_reads' HO797.out).2.1)
        (case side9 => exact cc_ (Kd.R_reads' HO800.out).2.2)
        (case side10 => exact (Kd.R_reads' HO800.out).2.1)
        rintro e w50 ⟨v802, rfl, ho0, hb⟩
        refine ⟨_, rfl, ?_⟩
        have n0_ := tR_ HO788 hb
        have n1_ := tR_ HO791 hb
        have n2_ := Aside0.mk (Kd.R_elder' (rx_ HO794.out) (Kd.R_base ho0) hb)
        have n3_ := Aside0.mk (Kd.R_elder' (rx_ HO797.out) (Kd.R_base ho0) hb)
        have n4_ := Aside0.mk (Kd.R_elder' (rx_ HO800.out) (Kd.R_base ho0) hb)
        have n5_ := Aside0.mk (Kd.R_lower (Kd.R_new' (Kd.R_new' (Kd.R_new' ho0 (Kd.R_lt (rx_ HO794.out))) (Kd.R_lt (rx_ HO797.out))) (Kd.R_lt (rx_ HO800.out))) (bs_ HB))
        have n6_ := tK_ BK782 hb
        have n7_ := tB_ HB hb
        clear HO788
        clear HO791
        clear HO794
        clear HO797
        clear HO800
        clear BK782
        clear HB
        have HO788 := n0_
        have HO791 := n1_
        have HO794 := n2_
        have HO797 := n3_
        have HO800 := n4_
        have HO803 := n5_
        have BK782 := n6_
        have HB := n7_
        clear n0_ n1_ n2_ n3_ n4_ n5_ n6_ n7_
        (try clear hb)
        (try clear hb2)
        (try clear hk)
        (try clear hi)
        (try clear ho0)
        refine hK.out _ _ ⟨(blk_cell BK782.out 0).trans rfl, (blk_cell BK782.out 1).trans rfl, (blk_cell BK782.out 2).trans rfl⟩ (fun hHeld => ?_)
        clear hK K
        refine norm_ (a' := ?_) ?_ ?_
        rotate_left
        ·show Act.put _ (some 38) _ = _
         simp only [Act.put, List.setIfInBounds_toArray, List.set_cons_zero, List.set_cons_succ, i64_w, i32_w]
         rfl
        refine pu_ 7 (some 8) (ba_ 8 255) rfl rfl (any_of HT_.out (by kernel_rfl)) ?_
        refine done_ (done_of HT_.out (by kernel_rfl)) ?_
        try go_wp2_with (first | ((with_reducible refine gate_callee (f := 15) rfl ?_); refine goesL_ (some 40) rfl rfl Try.func15 (by kernel_rfl) rfl #[.slice A0 l0.length c0] rfl (by (try simp only [List.map_toArray, List.map_cons, List.map_nil]); first | done | rfl | (simp only [List.length_drop, List.length_take]; rfl)) ?_; (with_reducible refine (laws_toNodeS.calls k _ _ l0 t804 _ ?side1 ?side2 A19.out).mono ?_); (case side1 => repeat (first | exact (Kd.C_below HR0.out HB.out) | (with_reducible refine Kd.C_alloc ?_ _) | (with_reducible refine Kd.C_drewN ?_ _) | (with_reducible refine Kd.C_drew ?_))); (case side2 => exact HC0.out); rintro e w51 ⟨v805, rfl, ho0, hb⟩; refine ⟨_, rfl, ?_⟩; have n0_ := Aside0.mk (Kd.R_elder' (by (with_reducible repeat (first | apply Kd.R_alloc | apply Kd.R_drewN | apply Kd.R_drew)); exact HO788.out) (Kd.R_base ho0) hb); have n1_ := Aside0.mk (Kd.R_elder' (by (with_reducible repeat (first | apply Kd.R_alloc | apply Kd.R_drewN | apply Kd.R_drew)); exact HO791.out) (Kd.R_base ho0) hb); have n2_ := Aside0.mk (Kd.R_below (by (with_reducible repeat (first | apply Kd.R_alloc | apply Kd.R_drewN | apply Kd.R_drew)); exact HO794.out) hb); have n3_ := Aside0.mk (Kd.R_below (by (with_reducible repeat (first | apply Kd.R_alloc | apply Kd.R_drewN | apply Kd.R_drew)); exact HO797.out) hb); have n4_ := Aside0.mk (Kd.R_below (by (with_reducible repeat (first | apply Kd.R_alloc | apply Kd.R_drewN | apply Kd.R_drew)); exact HO800.out) hb); have n5_ := Aside0.mk (Kd.R_below (by (with_reducible repeat (first | apply Kd.R_alloc | apply Kd.R_drewN | apply Kd.R_drew)); exact HO803.out) hb); have n6_ := Aside0.mk (Kd.R_lower (Kd.R_new' (Kd.R_new' ho0 (Kd.R_lt (by (with_reducible repeat (first | apply Kd.R_alloc | apply Kd.R_drewN | apply Kd.R_drew)); exact HO788.out))) (Kd.R_lt (by (with_reducible repeat (first | apply Kd.R_alloc | apply Kd.R_drewN | apply Kd.R_drew)); exact HO791.out))) (below_size (by repeat (first | (with_reducible first | exact HB.out | apply below_alloc | apply pw_below_drewN | apply below_drew1 | refine below_set ?_ GE782.out) | exact HB.out)))); have n7_ := Aside0.mk (blk_below (g := gb782) (o := .cells #[.slice A2_0 l2_0.length c2_0, .slice A2_1 l2_1.length c2_1, .slice A2_2 l2_2.length c2_2] 25 (0, 0)) (by (with_reducible repeat (first | refine blk_drewN ?_ _ | refine blk_drew ?_ | refine blk_alloc ?_ _)); exact BK782.out) hb); have n8_ := Aside0.mk (below_step (by repeat (first | (with_reducible first | exact HB.out | apply below_alloc | apply pw_below_drewN | apply below_drew1 | refine below_set ?_ GE782.out) | exact HB.out)) hb); clear HO788; clear HO791; clear HO794; clear HO797; clear HO800; clear HO803; clear BK782; clear HB; have HO788 := n0_; have HO791 := n1_; have HO794 := n2_; have HO797 := n3_; have HO800 := n4_; have HO803 := n5_; have HO806 := n6_; have BK782 := n7_; have HB := n8_; clear n0_ n1_ n2_ n3_ n4_ n5_ n6_ n7_ n8_; (try clear hb); (try clear hb2); (try clear hk); (try clear hi); (try clear ho0)) | ((with_reducible refine gate_callee (f := 15) rfl ?_); refine goesL_ (some 42) rfl rfl Try.func15 (by kernel_rfl) rfl #[.slice A1 l1.length c1] rfl (by (try simp only [List.map_toArray, List.map_cons, List.map_nil]); first | done | rfl | (simp only [List.length_drop, List.length_take]; rfl)) ?_; (with_reducible refine (laws_toNodeS.calls k _ _ l1 t807 _ ?side1 ?side2 A20.out).mono ?_); (case side1 => repeat (first | exact (Kd.C_below HR1.out HB.out) | (with_reducible refine Kd.C_alloc ?_ _) | (with_reducible refine Kd.C_drewN ?_ _) | (with_reducible refine Kd.C_drew ?_))); (case side2 => exact HC1.out); rintro e w52 ⟨v808, rfl, ho0, hb⟩; refine ⟨_, rfl, ?_⟩; have n0_ := Aside0.mk (Kd.R_elder' (by (with_reducible repeat (first | apply Kd.R_alloc | apply Kd.R_drewN | apply Kd.R_drew)); exact HO788.out) (Kd.R_base ho0) hb); have n1_ := Aside0.mk (Kd.R_elder' (by (with_reducible repeat (first | apply Kd.R_alloc | apply Kd.R_drewN | apply Kd.R_drew)); exact HO791.out) (Kd.R_base ho0) hb); have n2_ := Aside0.mk (Kd.R_below (by (with_reducible repeat (first | apply Kd.R_alloc | apply Kd.R_drewN | apply Kd.R_drew)); exact HO794.out) hb); have n3_ := Aside0.mk (Kd.R_below (by (with_reducible repeat (first | apply Kd.R_alloc | apply Kd.R_drewN | apply Kd.R_drew)); exact HO797.out) hb); have n4_ := Aside0.mk (Kd.R_below (by (with_reducible repeat (first | apply Kd.R_alloc | apply Kd.R_drewN | apply Kd.R_drew)); exact HO800.out) hb); have n5_ := Aside0.mk (Kd.R_below (by (with_reducible repeat (first | apply Kd.R_alloc | apply Kd.R_drewN | apply Kd.R_drew)); exact HO803.out) hb); have n6_ := Aside0.mk (Kd.R_elder' (by (with_reducible repeat (first | apply Kd.R_alloc | apply Kd.R_drewN | apply Kd.R_drew)); exact HO806.out) (Kd.R_base ho0) hb); have n7_ := Aside0.mk (Kd.R_lower (Kd.R_new' (Kd.R_new' (Kd.R_new' ho0 (Kd.R_lt (by (with_reducible repeat (first | apply Kd.R_alloc | apply Kd.R_drewN | apply Kd.R_drew)); exact HO788.out))) (Kd.R_lt (by (with_reducible repeat (first | apply Kd.R_alloc | apply Kd.R_drewN | apply Kd.R_drew)); exact HO791.out))) (Kd.R_lt (by (with_reducible repeat (first | apply Kd.R_alloc | apply Kd.R_drewN | apply Kd.R_drew)); exact HO806.out))) (below_size (by repeat (first | (with_reducible first | exact HB.out | apply below_alloc | apply pw_below_drewN | apply below_drew1 | refine below_set ?_ GE782.out) | exact HB.out)))); have n8_ := Aside0.mk (blk_below (g := gb782) (o := .cells #[.slice A2_0 l2_0.length c2_0, .slice A2_1 l2_1.length c2_1, .slice A2_2 l2_2.length c2_2] 25 (0, 0)) (by (with_reducible repeat (first | refine blk_drewN ?_ _ | refine blk_drew ?_ | refine blk_alloc ?_ _)); exact BK782.out) hb); have n9_ := Aside0.mk (below_step (by repeat (first | (with_reducible first | exact HB.out | apply below_alloc | apply pw_below_drewN | apply below_drew1 | refine below_set ?_ GE782.out) | exact HB.out)) hb); clear HO788; clear HO791; clear HO794; clear HO797; clear HO800; clear HO803; clear HO806; clear BK782; clear HB; have HO788 := n0_; have HO791 := n1_; have HO794 := n2_; have HO797 := n3_; have HO800 := n4_; have HO803 := n5_; have HO806 := n6_; have HO809 := n7_; have BK782 := n8_; have HB := n9_; clear n0_ n1_ n2_ n3_ n4_ n5_ n6_ n7_ n8_ n9_; (try clear hb); (try clear hb2); (try clear hk); (try clear hi); (try clear ho0); have hcz53_0 : w52.cell? ⟨gb782, 0, none⟩ = some (.slice A2_0 l2_0.length c2_0) := (blk_cell BK782.out 0).trans rfl; have hcz53_1 : w52.cell? ⟨gb782, 1, none⟩ = some (.slice A2_1 l2_1.length c2_1) := (blk_cell BK782.out 1).trans rfl; have hcz53_2 : w52.cell? ⟨gb782, 2, none⟩ = some (.slice A2_2 l2_2.length c2_2) := (blk_cell BK782.out 2).trans rfl; have hfz53_0 := blk_frozen BK782.out 0; have hfz53_1 := blk_frozen BK782.out 1; have hfz53_2 := blk_frozen BK782.out 2) | ((with_reducible refine gate_callee (f := 16) rfl ?_); refine goesL_ (some 44) rfl rfl Try.func16 (by kernel_rfl) rfl #[.agg #[.slice A2_0 l2_0.length c2_0, .slice A2_1 l2_1.length c2_1, .slice A2_2 l2_2.length c2_2]] rfl (by (try simp only [List.map_toArray, List.map_cons, List.map_nil]); first | done | rfl | (simp only [List.length_drop, List.length_take]; rfl)) ?_; (with_reducible refine (laws_toCost.calls k _ _ l2_0 _ _ l2_1 _ _ l2_2 t810 t813 t816 _ ?side1 ?side2 ?side3 ?side4 ?side5 ?side6 A21.out).mono ?_); (case side1 => repeat (first | exact (Kd.C_below HR2_0.out HB.out) | (with_reducible refine Kd.C_alloc ?_ _) | (with_reducible refine Kd.C_drewN ?_ _) | (with_reducible refine Kd.C_drew ?_))); (case side2 => exact HC2_0.out); (case side3 => repeat (first | exact (Kd.C_below HR2_1.out HB.out) | (with_reducible refine Kd.C_alloc ?_ _) | (with_reducible refine Kd.C_drewN ?_ _) | (with_reducible refine Kd.C_drew ?_))); (case side4 => exact HC2_1.out); (case side5 => repeat (first | exact (Kd.C_below HR2_2.out HB.out) | (with_reducible refine Kd.C_alloc ?_ _) | (with_reducible refine Kd.C_drewN ?_ _) | (with_reducible refine Kd.C_drew ?_))); (case side6 => exact HC2_2.out); rintro e w54 ⟨v811, v814, v817, rfl, ho0, ho1, ho2, hb⟩; refine ⟨_, rfl, ?_⟩; have n0_ := Aside0.mk (Kd.R_below (by (with_reducible repeat (first | apply Kd.R_alloc | apply Kd.R_drewN | apply Kd.R_drew)); exact HO788.out) hb); have n1_ := Aside0.mk (Kd.R_below (by (with_reducible repeat (first | apply Kd.R_alloc | apply Kd.R_drewN | apply Kd.R_drew)); exact HO791.out) hb); have n2_ := Aside0.mk (Kd.R_mono (Kd.R_told (Kd.R_told (Kd.R_told (Kd.R_old (by (with_reducible repeat (first | apply Kd.R_alloc | apply Kd.R_drewN | apply Kd.R_drew)); exact HO794.out) hb) (Kd.R_base ho0)) (Kd.R_base ho1)) (Kd.R_base ho2)) (fun _ h_ => h_.1)); have n3_ := Aside0.mk (Kd.R_mono (Kd.R_told (Kd.R_told (Kd.R_told (Kd.R_old (by (with_reducible repeat (first | apply Kd.R_alloc | apply Kd.R_drewN | apply Kd.R_drew)); exact HO797.out) hb) (Kd.R_base ho0)) (Kd.R_base ho1)) (Kd.R_base ho2)) (fun _ h_ => h_.1)); have n4_ := Aside0.mk (Kd.R_mono (Kd.R_told (Kd.R_told (Kd.R_told (Kd.R_old (by (with_reducible repeat (first | apply Kd.R_alloc | apply Kd.R_drewN | apply Kd.R_drew)); exact HO800.out) hb) (Kd.R_base ho0)) (Kd.R_base ho1)) (Kd.R_base ho2)) (fun _ h_ => h_.1)); have n5_ := Aside0.mk (Kd.R_mono (Kd.R_told (Kd.R_told (Kd.R_told (Kd.R_old (by (with_reducible repeat (first | apply Kd.R_alloc | apply Kd.R_drewN | apply Kd.R_drew)); exact HO803.out) hb) (Kd.R_base ho0)) (Kd.R_base ho1)) (Kd.R_base ho2)) (fun _ h_ => h_.1)); have n6_ := Aside0.mk (Kd.R_below (by (with_reducible repeat (first | apply Kd.R_alloc | apply Kd.R_drewN | apply Kd.R_drew)); exact HO806.out) hb); have n7_ := Aside0.mk (Kd.R_below (by (with_reducible repeat (first | apply Kd.R_alloc | apply Kd.R_drewN | apply Kd.R_drew)); exact HO809.out) hb); have n8_ := Aside0.mk (Kd.R_lower (Kd.R_new' (Kd.R_new' (Kd.R_new' (Kd.R_new' ho0 (Kd.R_lt (by (with_reducible repeat (first | apply Kd.R_alloc | apply Kd.R_drewN | apply Kd.R_drew)); exact HO794.out))) (Kd.R_lt (by (with_reducible repeat (first | apply Kd.R_alloc | apply Kd.R_drewN | apply Kd.R_drew)); exact HO797.out))) (Kd.R_lt (by (with_reducible repeat (first | apply Kd.R_alloc | apply Kd.R_drewN | apply Kd.R_drew)); exact HO800.out))) (Kd.R_lt (by (with_reducible repeat (first | apply Kd.R_alloc | apply Kd.R_drewN | apply Kd.R_drew)); exact HO803.out))) (below_size (by repeat (first | (with_reducible first | exact HB.out | apply below_alloc | apply pw_below_drewN | apply below_drew1 | refine below_set ?_ GE782.out) | exact HB.out)))); have n9_ := Aside0.mk (Kd.R_lower (Kd.R_new' (Kd.R_new' (Kd.R_new' (Kd.R_new' ho1 (Kd.R_lt (by (with_reducible repeat (first | apply Kd.R_alloc | apply Kd.R_drewN | apply Kd.R_drew)); exact HO794.out))) (Kd.R_lt (by (with_reducible repeat (first | apply Kd.R_alloc | apply Kd.R_drewN | apply Kd.R_drew)); exact HO797.out))) (Kd.R_lt (by (with_reducible repeat (first | apply Kd.R_alloc | apply Kd.R_drewN | apply Kd.R_drew)); exact HO800.out))) (Kd.R_lt (by (with_reducible repeat (first | apply Kd.R_alloc | apply Kd.R_drewN | apply Kd.R_drew)); exact HO803.out))) (below_size (by repeat (first | (with_reducible first | exact HB.out | apply below_alloc | apply pw_below_drewN | apply below_drew1 | refine below_set ?_ GE782.out) | exact HB.out)))); have n10_ := Aside0.mk (Kd.R_lower (Kd.R_new' (Kd.R_new' (Kd.R_new' (Kd.R_new' ho2 (Kd.R_lt (by (with_reducible repeat (first | apply Kd.R_alloc | apply Kd.R_drewN | apply Kd.R_drew)); exact HO794.out))) (Kd.R_lt (by (with_reducible repeat (first | apply Kd.R_alloc | apply Kd.R_drewN | apply Kd.R_drew)); exact HO797.out))) (Kd.R_lt (by (with_reducible repeat (first | apply Kd.R_alloc | apply Kd.R_drewN | apply Kd.R_drew)); exact HO800.out))) (Kd.R_lt (by (with_reducible repeat (first | apply Kd.R_alloc | apply Kd.R_drewN | apply Kd.R_drew)); exact HO803.out))) (below_size (by repeat (first | (with_reducible first | exact HB.out | apply below_alloc | apply pw_below_drewN | apply below_drew1 | refine below_set ?_ GE782.out) | exact HB.out)))); have n11_ := Aside0.mk (blk_below (g := gb782) (o := .cells #[.slice A2_0 l2_0.length c2_0, .slice A2_1 l2_1.length c2_1, .slice A2_2 l2_2.length c2_2] 25 (0, 0)) (by (with_reducible repeat (first | refine blk_drewN ?_ _ | refine blk_drew ?_ | refine blk_alloc ?_ _)); exact BK782.out) hb); have n12_ := Aside0.mk (below_step (by repeat (first | (with_reducible first | exact HB.out | apply below_alloc | apply pw_below_drewN | apply below_drew1 | refine below_set ?_ GE782.out) | exact HB.out)) hb); clear HO788; clear HO791; clear HO794; clear HO797; clear HO800; clear HO803; clear HO806; clear HO809; clear BK782; clear HB; have HO788 := n0_; have HO791 := n1_; have HO794 := n2_; have HO797 := n3_; have HO800 := n4_; have HO803 := n5_; have HO806 := n6_; have HO809 := n7_; have HO812 := n8_; have HO815 := n9_; have HO818 := n10_; have BK782 := n11_; have HB := n12_; clear n0_ n1_ n2_ n3_ n4_ n5_ n6_ n7_ n8_ n9_ n10_ n11_ n12_; (try clear hb); (try clear hb2); (try clear hk); (try clear hi); (try clear ho0); (try clear ho1); (try clear ho2)) | ((with_reducible refine gate_dst (N := 11) rfl ?_); refine box_event ?hg (N := 11) ?hd (cs := #[.slice none 0 0, .slice none 0 0, .slice none 0 0]) (t := 31) ?hr ?_; (case hd => rfl); (case hg => rfl); (case hr => first | (go_simp; done) | (go_simp; rfl)); intro gb819 hg w55 hbox hb; have n0_ := Aside0.mk (Kd.R_below (by (with_reducible repeat (first | apply Kd.R_alloc | apply Kd.R_drewN | apply Kd.R_drew)); exact HO788.out) hb); have n1_ := Aside0.mk (Kd.R_below (by (with_reducible repeat (first | apply Kd.R_alloc | apply Kd.R_drewN | apply Kd.R_drew)); exact HO791.out) hb); have n2_ := Aside0.mk (Kd.R_below (by (with_reducible repeat (first | apply Kd.R_alloc | apply Kd.R_drewN | apply Kd.R_drew)); exact HO794.out) hb); have n3_ := Aside0.mk (Kd.R_below (by (with_reducible repeat (first | apply Kd.R_alloc | apply Kd.R_drewN | apply Kd.R_drew)); exact HO797.out) hb); have n4_ := Aside0.mk (Kd.R_below (by (with_reducible repeat (first | apply Kd.R_alloc | apply Kd.R_drewN | apply Kd.R_drew)); exact HO800.out) hb); have n5_ := Aside0.mk (Kd.R_below (by (with_reducible repeat (first | apply Kd.R_alloc | apply Kd.R_drewN | apply Kd.R_drew)); exact HO803.out) hb); have n6_ := Aside0.mk (Kd.R_below (by (with_reducible repeat (first | apply Kd.R_alloc | apply Kd.R_drewN | apply Kd.R_drew)); exact HO806.out) hb); have n7_ := Aside0.mk (Kd.R_below (by (with_reducible repeat (first | apply Kd.R_alloc | apply Kd.R_drewN | apply Kd.R_drew)); exact HO809.out) hb); have n8_ := Aside0.mk (Kd.R_below (by (with_reducible repeat (first | apply Kd.R_alloc | apply Kd.R_drewN | apply Kd.R_drew)); exact HO812.out) hb); have n9_ := Aside0.mk (Kd.R_below (by (with_reducible repeat (first | apply Kd.R_alloc | apply Kd.R_drewN | apply Kd.R_drew)); exact HO815.out) hb); have n10_ := Aside0.mk (Kd.R_below (by (with_reducible repeat (first | apply Kd.R_alloc | apply Kd.R_drewN | apply Kd.R_drew)); exact HO818.out) hb); have n11_ := Aside0.mk (blk_below (g := gb782) (o := .cells #[.slice A2_0 l2_0.length c2_0, .slice A2_1 l2_1.length c2_1, .slice A2_2 l2_2.length c2_2] 25 (0, 0)) (by (with_reducible repeat (first | refine blk_drewN ?_ _ | refine blk_drew ?_ | refine blk_alloc ?_ _)); exact BK782.out) hb); have n12_ := Aside0.mk (below_step (by repeat (first | (with_reducible first | exact HB.out | apply below_alloc | apply pw_below_drewN | apply below_drew1 | refine below_set ?_ GE782.out) | exact HB.out)) hb); have n13_ := Aside0.mk (hbox); have n14_ := Aside0.mk ((by rw [hg]; exact (below_size (by repeat (first | (with_reducible first | exact HB.out | apply below_alloc | apply pw_below_drewN | apply below_drew1 | refine below_set ?_ GE782.out) | exact HB.out))) : w.heap.size ≤ gb819)); have n15_ := Aside0.mk ((by rw [hg]; exact (below_size (by repeat (first | (with_reducible first | exact HB.out | apply below_alloc | apply pw_below_drewN | apply below_drew1 | refine below_set ?_ GE782.out) | exact HB.out))) : w.heap.size ≤ gb819)); have n16_ := Aside0.mk ((by rw [hg]; exact Nat.ne_of_lt (blk_lt (g := gb782) (o := .cells #[.slice A2_0 l2_0.length c2_0, .slice A2_1 l2_1.length c2_1, .slice A2_2 l2_2.length c2_2] 25 (0, 0)) (by (with_reducible repeat (first | refine blk_drewN ?_ _ | refine blk_drew ?_ | refine blk_alloc ?_ _)); exact BK782.out)) : gb782 ≠ gb819)); have n17_ := Aside0.mk ((by rw [hg]; exact Nat.ne_of_gt (blk_lt (g := gb782) (o := .cells #[.slice A2_0 l2_0.length c2_0, .slice A2_1 l2_1.length c2_1, .slice A2_2 l2_2.length c2_2] 25 (0, 0)) (by (with_reducible repeat (first | refine blk_drewN ?_ _ | refine blk_drew ?_ | refine blk_alloc ?_ _)); exact BK782.out)) : gb819 ≠ gb782)); clear HO788; clear HO791; clear HO794; clear HO797; clear HO800; clear HO803; clear HO806; clear HO809; clear HO812; clear HO815; clear HO818; clear BK782; clear HB; have HO788 := n0_; have HO791 := n1_; have HO794 := n2_; have HO797 := n3_; have HO800 := n4_; have HO803 := n5_; have HO806 := n6_; have HO809 := n7_; have HO812 := n8_; have HO815 := n9_; have HO818 := n10_; have BK782 := n11_; have HB := n12_; have BK819 := n13_; have GW819 := n14_; have GE819 := n15_; have NB782_819 := n16_; have NB819_782 := n17_; clear n0_ n1_ n2_ n3_ n4_ n5_ n6_ n7_ n8_ n9_ n10_ n11_ n12_ n13_ n14_ n15_ n16_ n17_; clear hb hbox hg; obtain ⟨Ao56, co56, eo56⟩ := Kd.R_slice HO812.out; subst eo56; have hnb57 := NB819_782.out; have hnc57 := NB782_819.out; have hcz58_0 : w55.cell? ⟨gb819, 0, none⟩ = some (.slice none 0 0) := (blk_cell BK819.out 0).trans rfl; have hcz58_1 : w55.cell? ⟨gb819, 1, none⟩ = some (.slice none 0 0) := (blk_cell BK819.out 1).trans rfl; have hcz58_2 : w55.cell? ⟨gb819, 2, none⟩ = some (.slice none 0 0) := (blk_cell BK819.out 2).trans rfl; have hfz58_0 := blk_frozen BK819.out 0; have hfz58_1 := blk_frozen BK819.out 1; have hfz58_2 := blk_frozen BK819.out 2; obtain ⟨Ao59, co59, eo59⟩ := Kd.R_slice HO815.out; subst eo59; obtain ⟨Ao60, co60, eo60⟩ := Kd.R_slice HO818.out; subst eo60; obtain ⟨Ao61, co61, eo61⟩ := Kd.R_slice HO806.out; subst eo61; obtain ⟨Ao62, co62, eo62⟩ := Kd.R_slice HO809.out; subst eo62) | ((with_reducible refine gate_callee (f := 27) rfl ?_); refine goesL_ (some 48) rfl rfl Try.func27 (by kernel_rfl) rfl #[.slice Ao61 t804.length co61, .slice Ao62 t807.length co62, .agg #[.slice Ao56 t810.length co56, .slice Ao59 t813.length co59, .slice Ao60 t816.length co60]] rfl (by (try simp only [List.map_toArray, List.map_cons, List.map_nil]); first | done | rfl | (simp only [List.length_drop, List.length_take]; rfl)) ?_; (with_reducible refine (impl_TreeDists.calls k _ _ t804 _ _ t807 _ _ t810 _ _ t813 _ _ t816 t820 _ ?side1 ?side2 ?side3 ?side4 ?side5 ?side6 ?side7 ?side8 ?side9 ?side10 A22.out).mono ?_); (case side1 => refine (Kd.R_reads' (e := 53) (base := w.heap.size) (ok := fun k_ => (((True ∧ some k_ ≠ (.slice Ao45 t786.length co45 : Value).ownBlock) ∧ some k_ ≠ (.slice Ao46 t789.length co46 : Value).ownBlock) ∧ some k_ ≠ (.slice Ao62 t807.length co62 : Value).ownBlock)) (n := t804.length) (c := co61) ?_).2.2; exact (by (with_reducible repeat (first | apply Kd.R_alloc | apply Kd.R_drewN | apply Kd.R_drew)); exact (Kd.R_mono (Kd.R_far (p := ⟨gb819, 2, none⟩) (Kd.R_far (p := ⟨gb819, 1, none⟩) (Kd.R_far (p := ⟨gb819, 0, none⟩) (Kd.R_types HO806.out BK819.out (by decide)) (fun _ hk => hk.2) (.slice Ao56 t810.length co56)) (fun _ hk => hk.2) (.slice Ao59 t813.length co59)) (fun _ hk => hk.2) (.slice Ao60 t816.length co60)) (fun _ h_ => h_.1)))); (case side2 => exact (Kd.R_reads' HO806.out).2.1); (case side3 => refine (Kd.R_reads' (e := 53) (base := w.heap.size) (ok := fun k_ => (((True ∧ some k_ ≠ (.slice Ao45 t786.length co45 : Value).ownBlock) ∧ some k_ ≠ (.slice Ao46 t789.length co46 : Value).ownBlock) ∧ some k_ ≠ (.slice Ao61 t804.length co61 : Value).ownBlock)) (n := t807.length) (c := co62) ?_).2.2; exact (by (with_reducible repeat (first | apply Kd.R_alloc | apply Kd.R_drewN | apply Kd.R_drew)); exact (Kd.R_mono (Kd.R_far (p := ⟨gb819, 2, none⟩) (Kd.R_far (p := ⟨gb819, 1, none⟩) (Kd.R_far (p := ⟨gb819, 0, none⟩) (Kd.R_types HO809.out BK819.out (by decide)) (fun _ hk => hk.2) (.slice Ao56 t810.length co56)) (fun _ hk => hk.2) (.slice Ao59 t813.length co59)) (fun _ hk => hk.2) (.slice Ao60 t816.length co60)) (fun _ h_ => h_.1)))); (case side4 => exact (Kd.R_reads' HO809.out).2.1); (case side5 => refine (Kd.R_reads' (e := 3) (base := w.heap.size) (ok := fun k_ => (((((some k_ ≠ (.slice Ao59 t813.length co59 : Value).ownBlock ∧ some k_ ≠ (.slice Ao60 t816.length co60 : Value).ownBlock) ∧ some k_ ≠ (.slice Ao47 t792.length co47 : Value).ownBlock) ∧ some k_ ≠ (.slice Ao48 t795.length co48 : Value).ownBlock) ∧ some k_ ≠ (.slice Ao49 t798.length co49 : Value).ownBlock) ∧ some k_ ≠ (v802 : Value).ownBlock)) (n := t810.length) (c := co56) ?_).2.2; exact (by (with_reducible repeat (first | apply Kd.R_alloc | apply Kd.R_drewN | apply Kd.R_drew)); exact (Kd.R_mono (Kd.R_far (p := ⟨gb819, 2, none⟩) (Kd.R_far (p := ⟨gb819, 1, none⟩) (Kd.R_far (p := ⟨gb819, 0, none⟩) (Kd.R_types HO812.out BK819.out (by decide)) (fun _ hk => hk.2) (.slice Ao56 t810.length co56)) (fun _ hk => hk.2) (.slice Ao59 t813.length co59)) (fun _ hk => hk.2) (.slice Ao60 t816.length co60)) (fun _ h_ => h_.1)))); (case side6 => exact (Kd.R_reads' HO812.out).2.1); (case side7 => refine (Kd.R_reads' (e := 3) (base := w.heap.size) (ok := fun k_ => (((((some k_ ≠ (.slice Ao56 t810.length co56 : Value).ownBlock ∧ some k_ ≠ (.slice Ao60 t816.length co60 : Value).ownBlock) ∧ some k_ ≠ (.slice Ao47 t792.length co47 : Value).ownBlock) ∧ some k_ ≠ (.slice Ao48 t795.length co48 : Value).ownBlock) ∧ some k_ ≠ (.slice Ao49 t798.length co49 : Value).ownBlock) ∧ some k_ ≠ (v802 : Value).ownBlock)) (n := t813.length) (c := co59) ?_).2.2; exact (by (with_reducible repeat (first | apply Kd.R_alloc | apply Kd.R_drewN | apply Kd.R_drew)); exact (Kd.R_mono (Kd.R_far (p := ⟨gb819, 2, none⟩) (Kd.R_far (p := ⟨gb819, 1, none⟩) (Kd.R_far (p := ⟨gb819, 0, none⟩) (Kd.R_types HO815.out BK819.out (by decide)) (fun _ hk => hk.2) (.slice Ao56 t810.length co56)) (fun _ hk => hk.2) (.slice Ao59 t813.length co59)) (fun _ hk => hk.2) (.slice Ao60 t816.length co60)) (fun _ h_ => h_.1)))); (case side8 => exact (Kd.R_reads' HO815.out).2.1); (case side9 => refine (Kd.R_reads' (e := 3) (base := w.heap.size) (ok := fun k_ => (((((some k_ ≠ (.slice Ao56 t810.length co56 : Value).ownBlock ∧ some k_ ≠ (.slice Ao59 t813.length co59 : Value).ownBlock) ∧ some k_ ≠ (.slice Ao47 t792.length co47 : Value).ownBlock) ∧ some k_ ≠ (.slice Ao48 t795.length co48 : Value).ownBlock) ∧ some k_ ≠ (.slice Ao49 t798.length co49 : Value).ownBlock) ∧ some k_ ≠ (v802 : Value).ownBlock)) (n := t816.length) (c := co60) ?_).2.2; exact (by (with_reducible repeat (first | apply Kd.R_alloc | apply Kd.R_drewN | apply Kd.R_drew)); exact (Kd.R_mono (Kd.R_far (p := ⟨gb819, 2, none⟩) (Kd.R_far (p := ⟨gb819, 1, none⟩) (Kd.R_far (p := ⟨gb819, 0, none⟩) (Kd.R_types HO818.out BK819.out (by decide)) (fun _ hk => hk.2) (.slice Ao56 t810.length co56)) (fun _ hk => hk.2) (.slice Ao59 t813.length co59)) (fun _ hk => hk.2) (.slice Ao60 t816.length co60)) (fun _ h_ => h_.1)))); (case side10 => exact (Kd.R_reads' HO818.out).2.1); rintro e w63 ⟨v821, rfl, ho0, hb⟩; refine ⟨_, rfl, ?_⟩; have n0_ := Aside0.mk (Kd.R_below (by (with_reducible repeat (first | apply Kd.R_alloc | apply Kd.R_drewN | apply Kd.R_drew)); exact (Kd.R_mono (Kd.R_far (p := ⟨gb819, 2, none⟩) (Kd.R_far (p := ⟨gb819, 1, none⟩) (Kd.R_far (p := ⟨gb819, 0, none⟩) (Kd.R_types HO788.out BK819.out (by decide)) (fun _ hk => hk.2) (.slice Ao56 t810.length co56)) (fun _ hk => hk.2) (.slice Ao59 t813.length co59)) (fun _ hk => hk.2) (.slice Ao60 t816.length co60)) (fun _ h_ => h_.1))) hb); have n1_ := Aside0.mk (Kd.R_below (by (with_reducible repeat (first | apply Kd.R_alloc | apply Kd.R_drewN | apply Kd.R_drew)); exact (Kd.R_mono (Kd.R_far (p := ⟨gb819, 2, none⟩) (Kd.R_far (p := ⟨gb819, 1, none⟩) (Kd.R_far (p := ⟨gb819, 0, none⟩) (Kd.R_types HO791.out BK819.out (by decide)) (fun _ hk => hk.2) (.slice Ao56 t810.length co56)) (fun _ hk => hk.2) (.slice Ao59 t813.length co59)) (fun _ hk => hk.2) (.slice Ao60 t816.length co60)) (fun _ h_ => h_.1))) hb); have n2_ := Aside0.mk (Kd.R_elder' (by (with_reducible repeat (first | apply Kd.R_alloc | apply Kd.R_drewN | apply Kd.R_drew)); exact (Kd.R_mono (Kd.R_far (p := ⟨gb819, 2, none⟩) (Kd.R_far (p := ⟨gb819, 1, none⟩) (Kd.R_far (p := ⟨gb819, 0, none⟩) (Kd.R_types HO794.out BK819.out (by decide)) (fun _ hk => hk.2) (.slice Ao56 t810.length co56)) (fun _ hk => hk.2) (.slice Ao59 t813.length co59)) (fun _ hk => hk.2) (.slice Ao60 t816.length co60)) (fun _ h_ => h_.1))) (Kd.R_base ho0) hb); have n3_ := Aside0.mk (Kd.R_elder' (by (with_reducible repeat (first | apply Kd.R_alloc | apply Kd.R_drewN | apply Kd.R_drew)); exact (Kd.R_mono (Kd.R_far (p := ⟨gb819, 2, none⟩) (Kd.R_far (p := ⟨gb819, 1, none⟩) (Kd.R_far (p := ⟨gb819, 0, none⟩) (Kd.R_types HO797.out BK819.out (by decide)) (fun _ hk => hk.2) (.slice Ao56 t810.length co56)) (fun _ hk => hk.2) (.slice Ao59 t813.length co59)) (fun _ hk => hk.2) (.slice Ao60 t816.length co60)) (fun _ h_ => h_.1))) (Kd.R_base ho0) hb); have n4_ := Aside0.mk (Kd.R_elder' (by (with_reducible repeat (first | apply Kd.R_alloc | apply Kd.R_drewN | apply Kd.R_drew)); exact (Kd.R_mono (Kd.R_far (p := ⟨gb819, 2, none⟩) (Kd.R_far (p := ⟨gb819, 1, none⟩) (Kd.R_far (p := ⟨gb819, 0, none⟩) (Kd.R_types HO800.out BK819.out (by decide)) (fun _ hk => hk.2) (.slice Ao56 t810.length co56)) (fun _ hk => hk.2) (.slice Ao59 t813.length co59)) (fun _ hk => hk.2) (.slice Ao60 t816.length co60)) (fun _ h_ => h_.1))) (Kd.R_base ho0) hb); have n5_ := Aside0.mk (Kd.R_elder' (by (with_reducible repeat (first | apply Kd.R_alloc | apply Kd.R_drewN | apply Kd.R_drew)); exact (Kd.R_mono (Kd.R_far (p := ⟨gb819, 2, none⟩) (Kd.R_far (p := ⟨gb819, 1, none⟩) (Kd.R_far (p := ⟨gb819, 0, none⟩) (Kd.R_types HO803.out BK819.out (by decide)) (fun _ hk => hk.2) (.slice Ao56 t810.length co56)) (fun _ hk => hk.2) (.slice Ao59 t813.length co59)) (fun _ hk => hk.2) (.slice Ao60 t816.length co60)) (fun _ h_ => h_.1))) (Kd.R_base ho0) hb); have n6_ := Aside0.mk (Kd.R_below (by (with_reducible repeat (first | apply Kd.R_alloc | apply Kd.R_drewN | apply Kd.R_drew)); exact (Kd.R_mono (Kd.R_far (p := ⟨gb819, 2, none⟩) (Kd.R_far (p := ⟨gb819, 1, none⟩) (Kd.R_far (p := ⟨gb819, 0, none⟩) (Kd.R_types HO806.out BK819.out (by decide)) (fun _ hk => hk.2) (.slice Ao56 t810.length co56)) (fun _ hk => hk.2) (.slice Ao59 t813.length co59)) (fun _ hk => hk.2) (.slice Ao60 t816.length co60)) (fun _ h_ => h_.1))) hb); have n7_ := Aside0.mk (Kd.R_below (by (with_reducible repeat (first | apply Kd.R_alloc | apply Kd.R_drewN | apply Kd.R_drew)); exact (Kd.R_mono (Kd.R_far (p := ⟨gb819, 2, none⟩) (Kd.R_far (p := ⟨gb819, 1, none⟩) (Kd.R_far (p := ⟨gb819, 0, none⟩) (Kd.R_types HO809.out BK819.out (by decide)) (fun _ hk => hk.2) (.slice Ao56 t810.length co56)) (fun _ hk => hk.2) (.slice Ao59 t813.length co59)) (fun _ hk => hk.2) (.slice Ao60 t816.length co60)) (fun _ h_ => h_.1))) hb); have n8_ := Aside0.mk (Kd.R_elder' (by (with_reducible repeat (first | apply Kd.R_alloc | apply Kd.R_drewN | apply Kd.R_drew)); exact (Kd.R_mono (Kd.R_far (p := ⟨gb819, 2, none⟩) (Kd.R_far (p := ⟨gb819, 1, none⟩) (Kd.R_far (p := ⟨gb819, 0, none⟩) (Kd.R_types HO812.out BK819.out (by decide)) (fun _ hk => hk.2) (.slice Ao56 t810.length co56)) (fun _ hk => hk.2) (.slice Ao59 t813.length co59)) (fun _ hk => hk.2) (.slice Ao60 t816.length co60)) (fun _ h_ => h_.1))) (Kd.R_base ho0) hb); have n9_ := Aside0.mk (Kd.R_elder' (by (with_reducible repeat (first | apply Kd.R_alloc | apply Kd.R_drewN | apply Kd.R_drew)); exact (Kd.R_mono (Kd.R_far (p := ⟨gb819, 2, none⟩) (Kd.R_far (p := ⟨gb819, 1, none⟩) (Kd.R_far (p := ⟨gb819, 0, none⟩) (Kd.R_types HO815.out BK819.out (by decide)) (fun _ hk => hk.2) (.slice Ao56 t810.length co56)) (fun _ hk => hk.2) (.slice Ao59 t813.length co59)) (fun _ hk => hk.2) (.slice Ao60 t816.length co60)) (fun _ h_ => h_.1))) (Kd.R_base ho0) hb); have n10_ := Aside0.mk (Kd.R_elder' (by (with_reducible repeat (first | apply Kd.R_alloc | apply Kd.R_drewN | apply Kd.R_drew)); exact (Kd.R_mono (Kd.R_far (p := ⟨gb819, 2, none⟩) (Kd.R_far (p := ⟨gb819, 1, none⟩) (Kd.R_far (p := ⟨gb819, 0, none⟩) (Kd.R_types HO818.out BK819.out (by decide)) (fun _ hk => hk.2) (.slice Ao56 t810.length co56)) (fun _ hk => hk.2) (.slice Ao59 t813.length co59)) (fun _ hk => hk.2) (.slice Ao60 t816.length co60)) (fun _ h_ => h_.1))) (Kd.R_base ho0) hb); have n11_ := Aside0.mk (Kd.R_lower (Kd.R_new' (Kd.R_new' (Kd.R_new' (Kd.R_new' (Kd.R_new' (Kd.R_new' (Kd.R_new' ho0 (Kd.R_lt (by (with_reducible repeat (first | apply Kd.R_alloc | apply Kd.R_drewN | apply Kd.R_drew)); exact (Kd.R_mono (Kd.R_far (p := ⟨gb819, 2, none⟩) (Kd.R_far (p := ⟨gb819, 1, none⟩) (Kd.R_far (p := ⟨gb819, 0, none⟩) (Kd.R_types HO794.out BK819.out (by decide)) (fun _ hk => hk.2) (.slice Ao56 t810.length co56)) (fun _ hk => hk.2) (.slice Ao59 t813.length co59)) (fun _ hk => hk.2) (.slice Ao60 t816.length co60)) (fun _ h_ => h_.1))))) (Kd.R_lt (by (with_reducible repeat (first | apply Kd.R_alloc | apply Kd.R_drewN | apply Kd.R_drew)); exact (Kd.R_mono (Kd.R_far (p := ⟨gb819, 2, none⟩) (Kd.R_far (p := ⟨gb819, 1, none⟩) (Kd.R_far (p := ⟨gb819, 0, none⟩) (Kd.R_types HO797.out BK819.out (by decide)) (fun _ hk => hk.2) (.slice Ao56 t810.length co56)) (fun _ hk => hk.2) (.slice Ao59 t813.length co59)) (fun _ hk => hk.2) (.slice Ao60 t816.length co60)) (fun _ h_ => h_.1))))) (Kd.R_lt (by (with_reducible repeat (first | apply Kd.R_alloc | apply Kd.R_drewN | apply Kd.R_drew)); exact (Kd.R_mono (Kd.R_far (p := ⟨gb819, 2, none⟩) (Kd.R_far (p := ⟨gb819, 1, none⟩) (Kd.R_far (p := ⟨gb819, 0, none⟩) (Kd.R_types HO800.out BK819.out (by decide)) (fun _ hk => hk.2) (.slice Ao56 t810.length co56)) (fun _ hk => hk.2) (.slice Ao59 t813.length co59)) (fun _ hk => hk.2) (.slice Ao60 t816.length co60)) (fun _ h_ => h_.1))))) (Kd.R_lt (by (with_reducible repeat (first | apply Kd.R_alloc | apply Kd.R_drewN | apply Kd.R_drew)); exact (Kd.R_mono (Kd.R_far (p := ⟨gb819, 2, none⟩) (Kd.R_far (p := ⟨gb819, 1, none⟩) (Kd.R_far (p := ⟨gb819, 0, none⟩) (Kd.R_types HO803.out BK819.out (by decide)) (fun _ hk => hk.2) (.slice Ao56 t810.length co56)) (fun _ hk => hk.2) (.slice Ao59 t813.length co59)) (fun _ hk => hk.2) (.slice Ao60 t816.length co60)) (fun _ h_ => h_.1))))) (Kd.R_lt (by (with_reducible repeat (first | apply Kd.R_alloc | apply Kd.R_drewN | apply Kd.R_drew)); exact (Kd.R_mono (Kd.R_far (p := ⟨gb819, 2, none⟩) (Kd.R_far (p := ⟨gb819, 1, none⟩) (Kd.R_far (p := ⟨gb819, 0, none⟩) (Kd.R_types HO812.out BK819.out (by decide)) (fun _ hk => hk.2) (.slice Ao56 t810.length co56)) (fun _ hk => hk.2) (.slice Ao59 t813.length co59)) (fun _ hk => hk.2) (.slice Ao60 t816.length co60)) (fun _ h_ => h_.1))))) (Kd.R_lt (by (with_reducible repeat (first | apply Kd.R_alloc | apply Kd.R_drewN | apply Kd.R_drew)); exact (Kd.R_mono (Kd.R_far (p := ⟨gb819, 2, none⟩) (Kd.R_far (p := ⟨gb819, 1, none⟩) (Kd.R_far (p := ⟨gb819, 0, none⟩) (Kd.R_types HO815.out BK819.out (by decide)) (fun _ hk => hk.2) (.slice Ao56 t810.length co56)) (fun _ hk => hk.2) (.slice Ao59 t813.length co59)) (fun _ hk => hk.2) (.slice Ao60 t816.length co60)) (fun _ h_ => h_.1))))) (Kd.R_lt (by (with_reducible repeat (first | apply Kd.R_alloc | apply Kd.R_drewN | apply Kd.R_drew)); exact (Kd.R_mono (Kd.R_far (p := ⟨gb819, 2, none⟩) (Kd.R_far (p := ⟨gb819, 1, none⟩) (Kd.R_far (p := ⟨gb819, 0, none⟩) (Kd.R_types HO818.out BK819.out (by decide)) (fun _ hk => hk.2) (.slice Ao56 t810.length co56)) (fun _ hk => hk.2) (.slice Ao59 t813.length co59)) (fun _ hk => hk.2) (.slice Ao60 t816.length co60)) (fun _ h_ => h_.1))))) (below_size (by repeat (first | (with_reducible first | exact HB.out | apply below_alloc | apply pw_below_drewN | apply below_drew1 | refine below_set ?_ GE782.out | refine below_set ?_ GE819.out) | exact HB.out)))); have n12_ := Aside0.mk (blk_below (g := gb782) (o := .cells #[.slice A2_0 l2_0.length c2_0, .slice A2_1 l2_1.length c2_1, .slice A2_2 l2_2.length c2_2] 25 (0, 0)) (by (with_reducible repeat (first | refine blk_drewN ?_ _ | refine blk_drew ?_ | refine blk_alloc ?_ _)); refine blk_far ?_ NB782_819.out _; (with_reducible repeat (first | refine blk_drewN ?_ _ | refine blk_drew ?_ | refine blk_alloc ?_ _)); refine blk_far ?_ NB782_819.out _; (with_reducible repeat (first | refine blk_drewN ?_ _ | refine blk_drew ?_ | refine blk_alloc ?_ _)); refine blk_far ?_ NB782_819.out _; (with_reducible repeat (first | refine blk_drewN ?_ _ | refine blk_drew ?_ | refine blk_alloc ?_ _)); exact BK782.out) hb); have n13_ := Aside0.mk (blk_below (g := gb819) (o := .cells #[.slice Ao56 t810.length co56, .slice Ao59 t813.length co59, .slice Ao60 t816.length co60] 31 (0, 0)) (by (with_reducible repeat (first | refine blk_drewN ?_ _ | refine blk_drew ?_ | refine blk_alloc ?_ _)); refine blk_put (cs := #[.slice Ao56 t810.length co56, .slice Ao59 t813.length co59, .slice none 0 0]) ?_ 2 _ rfl; (with_reducible repeat (first | refine blk_drewN ?_ _ | refine blk_drew ?_ | refine blk_alloc ?_ _)); refine blk_put (cs := #[.slice Ao56 t810.length co56, .slice none 0 0, .slice none 0 0]) ?_ 1 _ rfl; (with_reducible repeat (first | refine blk_drewN ?_ _ | refine blk_drew ?_ | refine blk_alloc ?_ _)); refine blk_put (cs := #[.slice none 0 0, .slice none 0 0, .slice none 0 0]) ?_ 0 _ rfl; (with_reducible repeat (first | refine blk_drewN ?_ _ | refine blk_drew ?_ | refine blk_alloc ?_ _)); exact BK819.out) hb); have n14_ := Aside0.mk (below_step (by repeat (first | (with_reducible first | exact HB.out | apply below_alloc | apply pw_below_drewN | apply below_drew1 | refine below_set ?_ GE782.out | refine below_set ?_ GE819.out) | exact HB.out)) hb); clear HO788; clear HO791; clear HO794; clear HO797; clear HO800; clear HO803; clear HO806; clear HO809; clear HO812; clear HO815; clear HO818; clear BK782; clear BK819; clear HB; have HO788 := n0_; have HO791 := n1_; have HO794 := n2_; have HO797 := n3_; have HO800 := n4_; have HO803 := n5_; have HO806 := n6_; have HO809 := n7_; have HO812 := n8_; have HO815 := n9_; have HO818 := n10_; have HO822 := n11_; have BK782 := n12_; have BK819 := n13_; have HB := n14_; clear n0_ n1_ n2_ n3_ n4_ n5_ n6_ n7_ n8_ n9_ n10_ n11_ n12_ n13_ n14_; (try clear hb); (try clear hb2); (try clear hk); (try clear hi); (try clear ho0); obtain ⟨Ao64, co64, eo64⟩ := Kd.R_slice HO822.out; subst eo64; obtain ⟨Ao65, co65, eo65⟩ := Kd.R_slice HO803.out; subst eo65) | ((with_reducible refine gate_callee (f := 28) rfl ?_); refine goesL_ (some 51) rfl rfl Try.func28 (by kernel_rfl) rfl #[.slice Ao64 t820.length co64, .slice Ao65 t801.length co65] rfl (by (try simp only [List.map_toArray, List.map_cons, List.map_nil]); first | done | rfl | (simp only [List.length_drop, List.length_take]; rfl)) ?_; (with_reducible refine (laws_eqIntS.calls k _ _ t820 _ _ t801 true _ ?side1 ?side2 ?side3 ?side4 A23.out).mono ?_); (case side1 => repeat (first | exact (Kd.R_reads' HO822.out).2.2 | (with_reducible refine Kd.C_alloc ?_ _) | (with_reducible refine Kd.C_drewN ?_ _) | (with_reducible refine Kd.C_drew ?_))); (case side2 => exact (Kd.R_reads' HO822.out).2.1); (case side3 => repeat (first | exact (Kd.R_reads' HO803.out).2.2 | (with_reducible refine Kd.C_alloc ?_ _) | (with_reducible refine Kd.C_drewN ?_ _) | (with_reducible refine Kd.C_drew ?_))); (case side4 => exact (Kd.R_reads' HO803.out).2.1); rintro e w' ⟨rfl, ⟨nd, rfl⟩⟩; refine ⟨_, rfl, ?_⟩) | ((with_reducible refine gate_callee (f := 15) rfl ?_); refine goesL_ (some 55) rfl rfl Try.func15 (by kernel_rfl) rfl #[.slice A0 l0.length c0] rfl (by (try simp only [List.map_toArray, List.map_cons, List.map_nil]); first | done | rfl | (simp only [List.length_drop, List.length_take]; rfl)) ?_; (with_reducible refine (laws_toNodeS.calls k _ _ l0 t824 _ ?side1 ?side2 A25.out).mono ?_); (case side1 => repeat (first | exact (Kd.C_below HR0.out (by repeat (first | (with_reducible first | exact HB.out | apply below_alloc | apply pw_below_drewN | apply below_drew1 | refine below_set ?_ GE782.out | refine below_set ?_ GE819.out) | exact HB.out))) | (with_reducible refine Kd.C_alloc ?_ _) | (with_reducible refine Kd.C_drewN ?_ _) | (with_reducible refine Kd.C_drew ?_))); (case side2 => exact HC0.out); rintro e w66 ⟨v825, rfl, ho0, hb⟩; refine ⟨_, rfl, ?_⟩; have n0_ := Aside0.mk (Kd.R_elder' (by (with_reducible repeat (first | apply Kd.R_alloc | apply Kd.R_drewN | apply Kd.R_drew)); exact HO788.out) (Kd.R_base ho0) hb); have n1_ := Aside0.mk (Kd.R_elder' (by (with_reducible repeat (first | apply Kd.R_alloc | apply Kd.R_drewN | apply Kd.R_drew)); exact HO791.out) (Kd.R_base ho0) hb); have n2_ := Aside0.mk (Kd.R_below (by (with_reducible repeat (first | apply Kd.R_alloc | apply Kd.R_drewN | apply Kd.R_drew)); exact HO794.out) hb); have n3_ := Aside0.mk (Kd.R_below (by (with_reducible repeat (first | apply Kd.R_alloc | apply Kd.R_drewN | apply Kd.R_drew)); exact HO797.out) hb); have n4_ := Aside0.mk (Kd.R_below (by (with_reducible repeat (first | apply Kd.R_alloc | apply Kd.R_drewN | apply Kd.R_drew)); exact HO800.out) hb); have n5_ := Aside0.mk (Kd.R_below (by (with_reducible repeat (first | apply Kd.R_alloc | apply Kd.R_drewN | apply Kd.R_drew)); exact HO803.out) hb); have n6_ := Aside0.mk (Kd.R_elder' (by (with_reducible repeat (first | apply Kd.R_alloc | apply Kd.R_drewN | apply Kd.R_drew)); exact HO806.out) (Kd.R_base ho0) hb); have n7_ := Aside0.mk (Kd.R_elder' (by (with_reducible repeat (first | apply Kd.R_alloc | apply Kd.R_drewN | apply Kd.R_drew)); exact HO809.out) (Kd.R_base ho0) hb); have n8_ := Aside0.mk (Kd.R_below (by (with_reducible repeat (first | apply Kd.R_alloc | apply Kd.R_drewN | apply Kd.R_drew)); exact HO812.out) hb); have n9_ := Aside0.mk (Kd.R_below (by (with_reducible repeat (first | apply Kd.R_alloc | apply Kd.R_drewN | apply Kd.R_drew)); exact HO815.out) hb); have n10_ := Aside0.mk (Kd.R_below (by (with_reducible repeat (first | apply Kd.R_alloc | apply Kd.R_drewN | apply Kd.R_drew)); exact HO818.out) hb); have n11_ := Aside0.mk (Kd.R_below (by (with_reducible repeat (first | apply Kd.R_alloc | apply Kd.R_drewN | apply Kd.R_drew)); exact HO822.out) hb); have n12_ := Aside0.mk (Kd.R_lower (Kd.R_new' (Kd.R_new' (Kd.R_new' (Kd.R_new' ho0 (Kd.R_lt (by (with_reducible repeat (first | apply Kd.R_alloc | apply Kd.R_drewN | apply Kd.R_drew)); exact HO788.out))) (Kd.R_lt (by (with_reducible repeat (first | apply Kd.R_alloc | apply Kd.R_drewN | apply Kd.R_drew)); exact HO791.out))) (Kd.R_lt (by (with_reducible repeat (first | apply Kd.R_alloc | apply Kd.R_drewN | apply Kd.R_drew)); exact HO806.out))) (Kd.R_lt (by (with_reducible repeat (first | apply Kd.R_alloc | apply Kd.R_drewN | apply Kd.R_drew)); exact HO809.out))) (below_size (by repeat (first | (with_reducible first | exact HB.out | apply below_alloc | apply pw_below_drewN | apply below_drew1 | refine below_set ?_ GE782.out | refine below_set ?_ GE819.out) | exact HB.out)))); have n13_ := Aside0.mk (blk_below (g := gb782) (o := .cells #[.slice A2_0 l2_0.length c2_0, .slice A2_1 l2_1.length c2_1, .slice A2_2 l2_2.length c2_2] 25 (0, 0)) (by (with_reducible repeat (first | refine blk_drewN ?_ _ | refine blk_drew ?_ | refine blk_alloc ?_ _)); exact BK782.out) hb); have n14_ := Aside0.mk (blk_below (g := gb819) (o := .cells #[.slice Ao56 t810.length co56, .slice Ao59 t813.length co59, .slice Ao60 t816.length co60] 31 (0, 0)) (by (with_reducible repeat (first | refine blk_drewN ?_ _ | refine blk_drew ?_ | refine blk_alloc ?_ _)); exact BK819.out) hb); have n15_ := Aside0.mk (below_step (by repeat (first | (with_reducible first | exact HB.out | apply below_alloc | apply pw_below_drewN | apply below_drew1 | refine below_set ?_ GE782.out | refine below_set ?_ GE819.out) | exact HB.out)) hb); clear HO788; clear HO791; clear HO794; clear HO797; clear HO800; clear HO803; clear HO806; clear HO809; clear HO812; clear HO815; clear HO818; clear HO822; clear BK782; clear BK819; clear HB; have HO788 := n0_; have HO791 := n1_; have HO794 := n2_; have HO797 := n3_; have HO800 := n4_; have HO803 := n5_; have HO806 := n6_; have HO809 := n7_; have HO812 := n8_; have HO815 := n9_; have HO818 := n10_; have HO822 := n11_; have HO826 := n12_; have BK782 := n13_; have BK819 := n14_; have HB := n15_; clear n0_ n1_ n2_ n3_ n4_ n5_ n6_ n7_ n8_ n9_ n10_ n11_ n12_ n13_ n14_ n15_; (try clear hb); (try clear hb2); (try clear hk); (try clear hi); (try clear ho0); obtain ⟨Ao67, co67, eo67⟩ := Kd.R_slice HO826.out; subst eo67) | ((with_reducible refine gate_callee (f := 18) rfl ?_); refine goesL_ (some 56) rfl rfl Try.func18 (by kernel_rfl) rfl #[.slice Ao61 t804.length co61, .slice Ao67 t824.length co67] rfl (by (try simp only [List.map_toArray, List.map_cons, List.map_nil]); first | done | rfl | (simp only [List.length_drop, List.length_take]; rfl)) ?_; (with_reducible refine (laws_eqNodeS.calls k _ _ t804 _ _ t824 true _ ?side1 ?side2 ?side3 ?side4 A26.out).mono ?_); (case side1 => repeat (first | exact (Kd.R_reads' HO806.out).2.2 | (with_reducible refine Kd.C_alloc ?_ _) | (with_reducible refine Kd.C_drewN ?_ _) | (with_reducible refine Kd.C_drew ?_))); (case side2 => exact (Kd.R_reads' HO806.out).2.1); (case side3 => repeat (first | exact (Kd.R_reads' HO826.out).2.2 | (with_reducible refine Kd.C_alloc ?_ _) | (with_reducible refine Kd.C_drewN ?_ _) | (with_reducible refine Kd.C_drew ?_))); (case side4 => exact (Kd.R_reads' HO826.out).2.1); rintro e w68 ⟨rfl, hb⟩; refine ⟨_, rfl, ?_⟩; have n0_ := Aside0.mk (Kd.R_below (by (with_reducible repeat (first | apply Kd.R_alloc | apply Kd.R_drewN | apply Kd.R_drew)); exact HO788.out) hb); have n1_ := Aside0.mk (Kd.R_below (by (with_reducible repeat (first | apply Kd.R_alloc | apply Kd.R_drewN | apply Kd.R_drew)); exact HO791.out) hb); have n2_ := Aside0.mk (Kd.R_below (by (with_reducible repeat (first | apply Kd.R_alloc | apply Kd.R_drewN | apply Kd.R_drew)); exact HO794.out) hb); have n3_ := Aside0.mk (Kd.R_below (by (with_reducible repeat (first | apply Kd.R_alloc | apply Kd.R_drewN | apply Kd.R_drew)); exact HO797.out) hb); have n4_ := Aside0.mk (Kd.R_below (by (with_reducible repeat (first | apply Kd.R_alloc | apply Kd.R_drewN | apply Kd.R_drew)); exact HO800.out) hb); have n5_ := Aside0.mk (Kd.R_below (by (with_reducible repeat (first | apply Kd.R_alloc | apply Kd.R_drewN | apply Kd.R_drew)); exact HO803.out) hb); have n6_ := Aside0.mk (Kd.R_below (by (with_reducible repeat (first | apply Kd.R_alloc | apply Kd.R_drewN | apply Kd.R_drew)); exact HO806.out) hb); have n7_ := Aside0.mk (Kd.R_below (by (with_reducible repeat (first | apply Kd.R_alloc | apply Kd.R_drewN | apply Kd.R_drew)); exact HO809.out) hb); have n8_ := Aside0.mk (Kd.R_below (by (with_reducible repeat (first | apply Kd.R_alloc | apply Kd.R_drewN | apply Kd.R_drew)); exact HO812.out) hb); have n9_ := Aside0.mk (Kd.R_below (by (with_reducible repeat (first | apply Kd.R_alloc | apply Kd.R_drewN | apply Kd.R_drew)); exact HO815.out) hb); have n10_ := Aside0.mk (Kd.R_below (by (with_reducible repeat (first | apply Kd.R_alloc | apply Kd.R_drewN | apply Kd.R_drew)); exact HO818.out) hb); have n11_ := Aside0.mk (Kd.R_below (by (with_reducible repeat (first | apply Kd.R_alloc | apply Kd.R_drewN | apply Kd.R_drew)); exact HO822.out) hb); have n12_ := Aside0.mk (Kd.R_below (by (with_reducible repeat (first | apply Kd.R_alloc | apply Kd.R_drewN | apply Kd.R_drew)); exact HO826.out) hb); have n13_ := Aside0.mk (blk_below (g := gb782) (o := .cells #[.slice A2_0 l2_0.length c2_0, .slice A2_1 l2_1.length c2_1, .slice A2_2 l2_2.length c2_2] 25 (0, 0)) (by (with_reducible repeat (first | refine blk_drewN ?_ _ | refine blk_drew ?_ | refine blk_alloc ?_ _)); exact BK782.out) hb); have n14_ := Aside0.mk (blk_below (g := gb819) (o := .cells #[.slice Ao56 t810.length co56, .slice Ao59 t813.length co59, .slice Ao60 t816.length co60] 31 (0, 0)) (by (with_reducible repeat (first | refine blk_drewN ?_ _ | refine blk_drew ?_ | refine blk_alloc ?_ _)); exact BK819.out) hb); have n15_ := Aside0.mk (below_step (by repeat (first | (with_reducible first | exact HB.out | apply below_alloc | apply pw_below_drewN | apply below_drew1 | refine below_set ?_ GE782.out | refine below_set ?_ GE819.out) | exact HB.out)) hb); clear HO788; clear HO791; clear HO794; clear HO797; clear HO800; clear HO803; clear HO806; clear HO809; clear HO812; clear HO815; clear HO818; clear HO822; clear HO826; clear BK782; clear BK819; clear HB; have HO788 := n0_; have HO791 := n1_; have HO794 := n2_; have HO797 := n3_; have HO800 := n4_; have HO803 := n5_; have HO806 := n6_; have HO809 := n7_; have HO812 := n8_; have HO815 := n9_; have HO818 := n10_; have HO822 := n11_; have HO826 := n12_; have BK782 := n13_; have BK819 := n14_; have HB := n15_; clear n0_ n1_ n2_ n3_ n4_ n5_ n6_ n7_ n8_ n9_ n10_ n11_ n12_ n13_ n14_ n15_; (try clear hb); (try clear hb2); (try clear hk); (try clear hi)) | ((with_reducible refine gate_callee (f := 15) rfl ?_); refine goesL_ (some 60) rfl rfl Try.func15 (by kernel_rfl) rfl #[.slice A1 l1.length c1] rfl (by (try simp only [List.map_toArray, List.map_cons, List.map_nil]); first | done | rfl | (simp only [List.length_drop, List.length_take]; rfl)) ?_; (with_reducible refine (laws_toNodeS.calls k _ _ l1 t828 _ ?side1 ?side2 A28.out).mono ?_); (case side1 => repeat (first | exact (Kd.C_below HR1.out HB.out) | (with_reducible refine Kd.C_alloc ?_ _) | (with_reducible refine Kd.C_drewN ?_ _) | (with_reducible refine Kd.C_drew ?_))); (case side2 => exact HC1.out); rintro e w69 ⟨v829, rfl, ho0, hb⟩; refine ⟨_, rfl, ?_⟩; have n0_ := Aside0.mk (Kd.R_elder' (by (with_reducible repeat (first | apply Kd.R_alloc | apply Kd.R_drewN | apply Kd.R_drew)); exact HO788.out) (Kd.R_base ho0) hb); have n1_ := Aside0.mk (Kd.R_elder' (by (with_reducible repeat (first | apply Kd.R_alloc | apply Kd.R_drewN | apply Kd.R_drew)); exact HO791.out) (Kd.R_base ho0) hb); have n2_ := Aside0.mk (Kd.R_below (by (with_reducible repeat (first | apply Kd.R_alloc | apply Kd.R_drewN | apply Kd.R_drew)); exact HO794.out) hb); have n3_ := Aside0.mk (Kd.R_below (by (with_reducible repeat (first | apply Kd.R_alloc | apply Kd.R_drewN | apply Kd.R_drew)); exact HO797.out) hb); have n4_ := Aside0.mk (Kd.R_below (by (with_reducible repeat (first | apply Kd.R_alloc | apply Kd.R_drewN | apply Kd.R_drew)); exact HO800.out) hb); have n5_ := Aside0.mk (Kd.R_below (by (with_reducible repeat (first | apply Kd.R_alloc | apply Kd.R_drewN | apply Kd.R_drew)); exact HO803.out) hb); have n6_ := Aside0.mk (Kd.R_elder' (by (with_reducible repeat (first | apply Kd.R_alloc | apply Kd.R_drewN | apply Kd.R_drew)); exact HO806.out) (Kd.R_base ho0) hb); have n7_ := Aside0.mk (Kd.R_elder' (by (with_reducible repeat (first | apply Kd.R_alloc | apply Kd.R_drewN | apply Kd.R_drew)); exact HO809.out) (Kd.R_base ho0) hb); have n8_ := Aside0.mk (Kd.R_below (by (with_reducible repeat (first | apply Kd.R_alloc | apply Kd.R_drewN | apply Kd.R_drew)); exact HO812.out) hb); have n9_ := Aside0.mk (Kd.R_below (by (with_reducible repeat (first | apply Kd.R_alloc | apply Kd.R_drewN | apply Kd.R_drew)); exact HO815.out) hb); have n10_ := Aside0.mk (Kd.R_below (by (with_reducible repeat (first | apply Kd.R_alloc | apply Kd.R_drewN | apply Kd.R_drew)); exact HO818.out) hb); have n11_ := Aside0.mk (Kd.R_below (by (with_reducible repeat (first | apply Kd.R_alloc | apply Kd.R_drewN | apply Kd.R_drew)); exact HO822.out) hb); have n12_ := Aside0.mk (Kd.R_elder' (by (with_reducible repeat (first | apply Kd.R_alloc | apply Kd.R_drewN | apply Kd.R_drew)); exact HO826.out) (Kd.R_base ho0) hb); have n13_ := Aside0.mk (Kd.R_lower (Kd.R_new' (Kd.R_new' (Kd.R_new' (Kd.R_new' (Kd.R_new' ho0 (Kd.R_lt (by (with_reducible repeat (first | apply Kd.R_alloc | apply Kd.R_drewN | apply Kd.R_drew)); exact HO788.out))) (Kd.R_lt (by (with_reducible repeat (first | apply Kd.R_alloc | apply Kd.R_drewN | apply Kd.R_drew)); exact HO791.out))) (Kd.R_lt (by (with_reducible repeat (first | apply Kd.R_alloc | apply Kd.R_drewN | apply Kd.R_drew)); exact HO806.out))) (Kd.R_lt (by (with_reducible repeat (first | apply Kd.R_alloc | apply Kd.R_drewN | apply Kd.R_drew)); exact HO809.out))) (Kd.R_lt (by (with_reducible repeat (first | apply Kd.R_alloc | apply Kd.R_drewN | apply Kd.R_drew)); exact HO826.out))) (below_size (by repeat (first | (with_reducible first | exact HB.out | apply below_alloc | apply pw_below_drewN | apply below_drew1 | refine below_set ?_ GE782.out | refine below_set ?_ GE819.out) | exact HB.out)))); have n14_ := Aside0.mk (blk_below (g := gb782) (o := .cells #[.slice A2_0 l2_0.length c2_0, .slice A2_1 l2_1.length c2_1, .slice A2_2 l2_2.length c2_2] 25 (0, 0)) (by (with_reducible repeat (first | refine blk_drewN ?_ _ | refine blk_drew ?_ | refine blk_alloc ?_ _)); exact BK782.out) hb); have n15_ := Aside0.mk (blk_below (g := gb819) (o := .cells #[.slice Ao56 t810.length co56, .slice Ao59 t813.length co59, .slice Ao60 t816.length co60] 31 (0, 0)) (by (with_reducible repeat (first | refine blk_drewN ?_ _ | refine blk_drew ?_ | refine blk_alloc ?_ _)); exact BK819.out) hb); have n16_ := Aside0.mk (below_step (by repeat (first | (with_reducible first | exact HB.out | apply below_alloc | apply pw_below_drewN | apply below_drew1 | refine below_set ?_ GE782.out | refine below_set ?_ GE819.out) | exact HB.out)) hb); clear HO788; clear HO791; clear HO794; clear HO797; clear HO800; clear HO803; clear HO806; clear HO809; clear HO812; clear HO815; clear HO818; clear HO822; clear HO826; clear BK782; clear BK819; clear HB; have HO788 := n0_; have HO791 := n1_; have HO794 := n2_; have HO797 := n3_; have HO800 := n4_; have HO803 := n5_; have HO806 := n6_; have HO809 := n7_; have HO812 := n8_; have HO815 := n9_; have HO818 := n10_; have HO822 := n11_; have HO826 := n12_; have HO830 := n13_; have BK782 := n14_; have BK819 := n15_; have HB := n16_; clear n0_ n1_ n2_ n3_ n4_ n5_ n6_ n7_ n8_ n9_ n10_ n11_ n12_ n13_ n14_ n15_ n16_; (try clear hb); (try clear hb2); (try clear hk); (try clear hi); (try clear ho0); obtain ⟨Ao70, co70, eo70⟩ := Kd.R_slice HO830.out; subst eo70) | ((with_reducible refine gate_callee (f := 18) rfl ?_); refine goesL_ (some 61) rfl rfl Try.func18 (by kernel_rfl) rfl #[.slice Ao62 t807.length co62, .slice Ao70 t828.length co70] rfl (by (try simp only [List.map_toArray, List.map_cons, List.map_nil]); first | done | rfl | (simp only [List.length_drop, List.length_take]; rfl)) ?_; (with_reducible refine (laws_eqNodeS.calls k _ _ t807 _ _ t828 true _ ?side1 ?side2 ?side3 ?side4 A29.out).mono ?_); (case side1 => repeat (first | exact (Kd.R_reads' HO809.out).2.2 | (with_reducible refine Kd.C_alloc ?_ _) | (with_reducible refine Kd.C_drewN ?_ _) | (with_reducible refine Kd.C_drew ?_))); (case side2 => exact (Kd.R_reads' HO809.out).2.1); (case side3 => repeat (first | exact (Kd.R_reads' HO830.out).2.2 | (with_reducible refine Kd.C_alloc ?_ _) | (with_reducible refine Kd.C_drewN ?_ _) | (with_reducible refine Kd.C_drew ?_))); (case side4 => exact (Kd.R_reads' HO830.out).2.1); rintro e w71 ⟨rfl, hb⟩; refine ⟨_, rfl, ?_⟩; have n0_ := Aside0.mk (Kd.R_below (by (with_reducible repeat (first | apply Kd.R_alloc | apply Kd.R_drewN | apply Kd.R_drew)); exact HO788.out) hb); have n1_ := Aside0.mk (Kd.R_below (by (with_reducible repeat (first | apply Kd.R_alloc | apply Kd.R_drewN | apply Kd.R_drew)); exact HO791.out) hb); have n2_ := Aside0.mk (Kd.R_below (by (with_reducible repeat (first | apply Kd.R_alloc | apply Kd.R_drewN | apply Kd.R_drew)); exact HO794.out) hb); have n3_ := Aside0.mk (Kd.R_below (by (with_reducible repeat (first | apply Kd.R_alloc | apply Kd.R_drewN | apply Kd.R_drew)); exact HO797.out) hb); have n4_ := Aside0.mk (Kd.R_below (by (with_reducible repeat (first | apply Kd.R_alloc | apply Kd.R_drewN | apply Kd.R_drew)); exact HO800.out) hb); have n5_ := Aside0.mk (Kd.R_below (by (with_reducible repeat (first | apply Kd.R_alloc | apply Kd.R_drewN | apply Kd.R_drew)); exact HO803.out) hb); have n6_ := Aside0.mk (Kd.R_below (by (with_reducible repeat (first | apply Kd.R_alloc | apply Kd.R_drewN | apply Kd.R_drew)); exact HO806.out) hb); have n7_ := Aside0.mk (Kd.R_below (by (with_reducible repeat (first | apply Kd.R_alloc | apply Kd.R_drewN | apply Kd.R_drew)); exact HO809.out) hb); have n8_ := Aside0.mk (Kd.R_below (by (with_reducible repeat (first | apply Kd.R_alloc | apply Kd.R_drewN | apply Kd.R_drew)); exact HO812.out) hb); have n9_ := Aside0.mk (Kd.R_below (by (with_reducible repeat (first | apply Kd.R_alloc | apply Kd.R_drewN | apply Kd.R_drew)); exact HO815.out) hb); have n10_ := Aside0.mk (Kd.R_below (by (with_reducible repeat (first | apply Kd.R_alloc | apply Kd.R_drewN | apply Kd.R_drew)); exact HO818.out) hb); have n11_ := Aside0.mk (Kd.R_below (by (with_reducible repeat (first | apply Kd.R_alloc | apply Kd.R_drewN | apply Kd.R_drew)); exact HO822.out) hb); have n12_ := Aside0.mk (Kd.R_below (by (with_reducible repeat (first | apply Kd.R_alloc | apply Kd.R_drewN | apply Kd.R_drew)); exact HO826.out) hb); have n13_ := Aside0.mk (Kd.R_below (by (with_reducible repeat (first | apply Kd.R_alloc | apply Kd.R_drewN | apply Kd.R_drew)); exact HO830.out) hb); have n14_ := Aside0.mk (blk_below (g := gb782) (o := .cells #[.slice A2_0 l2_0.length c2_0, .slice A2_1 l2_1.length c2_1, .slice A2_2 l2_2.length c2_2] 25 (0, 0)) (by (with_reducible repeat (first | refine blk_drewN ?_ _ | refine blk_drew ?_ | refine blk_alloc ?_ _)); exact BK782.out) hb); have n15_ := Aside0.mk (blk_below (g := gb819) (o := .cells #[.slice Ao56 t810.length co56, .slice Ao59 t813.length co59, .slice Ao60 t816.length co60] 31 (0, 0)) (by (with_reducible repeat (first | refine blk_drewN ?_ _ | refine blk_drew ?_ | refine blk_alloc ?_ _)); exact BK819.out) hb); have n16_ := Aside0.mk (below_step (by repeat (first | (with_reducible first | exact HB.out | apply below_alloc | apply pw_below_drewN | apply below_drew1 | refine below_set ?_ GE782.out | refine below_set ?_ GE819.out) | exact HB.out)) hb); clear HO788; clear HO791; clear HO794; clear HO797; clear HO800; clear HO803; clear HO806; clear HO809; clear HO812; clear HO815; clear HO818; clear HO822; clear HO826; clear HO830; clear BK782; clear BK819; clear HB; have HO788 := n0_; have HO791 := n1_; have HO794 := n2_; have HO797 := n3_; have HO800 := n4_; have HO803 := n5_; have HO806 := n6_; have HO809 := n7_; have HO812 := n8_; have HO815 := n9_; have HO818 := n10_; have HO822 := n11_; have HO826 := n12_; have HO830 := n13_; have BK782 := n14_; have BK819 := n15_; have HB := n16_; clear n0_ n1_ n2_ n3_ n4_ n5_ n6_ n7_ n8_ n9_ n10_ n11_ n12_ n13_ n14_ n15_ n16_; (try clear hb); (try clear hb2); (try clear hk); (try clear hi)))
        have n0_ := Aside0.mk (Kd.R_drew HO788.out)
        have n1_ := Aside0.mk (Kd.R_drew HO791.out)
        have n2_ := Aside0.mk (Kd.R_drew HO794.out)
        have n3_ := Aside0.mk (Kd.R_drew HO797.out)
        have n4_ := Aside0.mk (Kd.R_drew HO800.out)
        have n5_ := Aside0.mk (Kd.R_drew HO803.out)
        have n6_ := Aside0.mk (Kd.R_drew HO806.out)
        have n7_ := Aside0.mk (Kd.R_drew HO809.out)
        have n8_ := Aside0.mk (Kd.R_drew HO812.out)
        have n9_ := Aside0.mk (Kd.R_drew HO815.out)
        have n10_ := Aside0.mk (Kd.R_drew HO818.out)
        have n11_ := Aside0.mk (Kd.R_drew HO822.out)
        have n12_ := Aside0.mk (Kd.R_drew HO826.out)
        have n13_ := Aside0.mk (Kd.R_drew HO830.out)
        have n14_ := Aside0.mk (blk_drew BK782.out)
        have n15_ := Aside0.mk (blk_drew BK819.out)
        have n16_ := Aside0.mk (below_drew1 HB.out)
        clear HO788
        clear HO791
        clear HO794
        clear HO797
        clear HO800
        clear HO803
        clear HO806
        clear HO809
        clear HO812
        clear HO815
        clear HO818
        clear HO822
        clear HO826
        clear HO830
        clear BK782
        clear BK819
        clear HB
        have HO788 := n0_
        have HO791 := n1_
        have HO794 := n2_
        have HO797 := n3_
        have HO800 := n4_
        have HO803 := n5_
        have HO806 := n6_
        have HO809 := n7_
        have HO812 := n8_
        have HO815 := n9_
        have HO818 := n10_
        have HO822 := n11_
        have HO826 := n12_
        have HO830 := n13_
        have BK782 := n14_
        have BK819 := n15_
        have HB := n16_
        clear n0_ n1_ n2_ n3_ n4_ n5_ n6_ n7_ n8_ n9_ n10_ n11_ n12_ n13_ n14_ n15_ n16_
        refine start_ (n := 5) (S := fun w' => w'.cell? ⟨gb819, 0, none⟩ = some (.slice Ao56 t810.length co56) ∧ w'.cell? ⟨gb819, 1, none⟩ = some (.slice Ao59 t813.length co59) ∧ w'.cell? ⟨gb819, 2, none⟩ = some (.slice Ao60 t816.length co60) ∧ w'.cell? ⟨gb782, 0, none⟩ = some (.slice A2_0 l2_0.length c2_0) ∧ w'.cell? ⟨gb782, 1, none⟩ = some (.slice A2_1 l2_1.length c2_1) ∧ w'.cell? ⟨gb782, 2, none⟩ = some (.slice A2_2 l2_2.length c2_2)) (ds := []) #[false, false, false, false, false] (by kernel_rfl) rfl rfl ⟨(blk_cell BK819.out 0).trans rfl, (blk_cell BK819.out 1).trans rfl, (blk_cell BK819.out 2).trans rfl, (blk_cell BK782.out 0).trans rfl, (blk_cell BK782.out 1).trans rfl, (blk_cell BK782.out 2).trans rfl⟩ (fun hHeld => ?_)
        generalize w71.drew = w72 at HO788 HO791 HO794 HO797 HO800 HO803 HO806 HO809 HO812 HO815 HO818 HO822 HO826 HO830 BK782 BK819 HB hHeld ⊢
        refine ta_ 0 (some 63) #[true, false, false, false, false] rfl rfl (by kernel_rfl) hHeld (by rintro w' ⟨s0, s1, s2, s3, s4, s5⟩; go_simp; with_reducible rfl) ?_
        refine ta_ 1 (some 64) #[true, true, false, false, false] rfl rfl (by kernel_rfl) hHeld (by rintro w' ⟨s0, s1, s2, s3, s4, s5⟩; go_simp; with_reducible rfl) ?_
        refine one_ (i := 2) (N := some 65) #[true, true, true, false, false] rfl rfl (by kernel_rfl) (by decide) (fun K hK => ?_)
        refine goes_ Try.func16 (by kernel_rfl) rfl #[.agg #[.slice A2_0 l2_0.length c2_0, .slice A2_1 l2_1.length c2_1, .slice A2_2 l2_2.length c2_2]] (by rfl) rfl rfl (by (try simp only [List.map_toArray, List.map_cons, List.map_nil]); first | done | rfl | (simp only [List.length_drop, List.length_take]; rfl)) ?_
        with_reducible refine (laws_toCost.calls k _ _ l2_0 _ _ l2_1 _ _ l2_2 t832 t835 t838 _ ?side1 ?side2 ?side3 ?side4 ?side5 ?side6 A31.out).mono ?_
        (case side1 => exact cx_ HR2_0 HB)
        (case side2 => exact HC2_0.out)
        (case side3 => exact cx_ HR2_1 HB)
        (case side4 => exact HC2_1.out)
        (case side5 => exact cx_ HR2_2 HB)
        (case side6 => exact HC2_2.out)
        rintro e w73 ⟨v833, v836, v839, rfl, ho0, ho1, ho2, hb⟩
        refine ⟨_, rfl, ?_⟩
        have n0_ := tR_ HO788 hb
        have n1_ := tR_ HO791 hb
        have n2_ := Aside0.mk (Kd.R_mono (Kd.R_told (Kd.R_told (Kd.R_told (Kd.R_old (rx_ HO794.out) hb) (Kd.R_base ho0)) (Kd.R_base ho1)) (Kd.R_base ho2)) (fun _ h_ => h_.1))
        have n3_ := Aside0.mk (Kd.R_mono (Kd.R_told (Kd.R_told (Kd.R_told (Kd.R_old (rx_ HO797.out) hb) (Kd.R_base ho0)) (Kd.R_base ho1)) (Kd.R_base ho2)) (fun _ h_ => h_.1))
        have n4_ := Aside0.mk (Kd.R_mono (Kd.R_told (Kd.R_told (Kd.R_told (Kd.R_old (rx_ HO800.out) hb) (Kd.R_base ho0)) (Kd.R_base ho1)) (Kd.R_base ho2)) (fun _ h_ => h_.1))
        have n5_ := Aside0.mk (Kd.R_mono (Kd.R_told (Kd.R_told (Kd.R_told (Kd.R_old (rx_ HO803.out) hb) (Kd.R_base ho0)) (Kd.R_base ho1)) (Kd.R_base ho2)) (fun _ h_ => h_.1))
        have n6_ := tR_ HO806 hb
        have n7_ := tR_ HO809 hb
        have n8_ := Aside0.mk (Kd.R_mono (Kd.R_told (Kd.R_told (Kd.R_told (Kd.R_old (rx_ HO812.out) hb) (Kd.R_base ho0)) (Kd.R_base ho1)) (Kd.R_base ho2)) (fun _ h_ => h_.1))
        have n9_ := Aside0.mk (Kd.R_mono (Kd.R_told (Kd.R_told (Kd.R_told (Kd.R_old (rx_ HO815.out) hb) (Kd.R_base ho0)) (Kd.R_base ho1)) (Kd.R_base ho2)) (fun _ h_ => h_.1))
        have n10_ := Aside0.mk (Kd.R_mono (Kd.R_told (Kd.R_told (Kd.R_told (Kd.R_old (rx_ HO818.out) hb) (Kd.R_base ho0)) (Kd.R_base ho1)) (Kd.R_base ho2)) (fun _ h_ => h_.1))
        have n11_ := Aside0.mk (Kd.R_mono (Kd.R_told (Kd.R_told (Kd.R_told (Kd.R_old (rx_ HO822.out) hb) (Kd.R_base ho0)) (Kd.R_base ho1)) (Kd.R_base ho2)) (fun _ h_ => h_.1))
        have n12_ := tR_ HO826 hb
        have n13_ := tR_ HO830 hb
        have n14_ := Aside0.mk (Kd.R_lower (Kd.R_new' (Kd.R_new' (Kd.R_new' (Kd.R_new' (Kd.R_new' (Kd.R_new' (Kd.R_new' (Kd.R_new' ho0 (Kd.R_lt (rx_ HO794.out))) (Kd.R_lt (rx_ HO797.out))) (Kd.R_lt (rx_ HO800.out))) (Kd.R_lt (rx_ HO803.out))) (Kd.R_lt (rx_ HO812.out))) (Kd.R_lt (rx_ HO815.out))) (Kd.R_lt (rx_ HO818.out))) (Kd.R_lt (rx_ HO822.out))) (bs_ HB))
        have n15_ := Aside0.mk (Kd.R_lower (Kd.R_new' (Kd.R_new' (Kd.R_new' (Kd.R_new' (Kd.R_new' (Kd.R_new' (Kd.R_new' (Kd.R_new' ho1 (Kd.R_lt (rx_ HO794.out))) (Kd.R_lt (rx_ HO797.out))) (Kd.R_lt (rx_ HO800.out))) (Kd.R_lt (rx_ HO803.out))) (Kd.R_lt (rx_ HO812.out))) (Kd.R_lt (rx_ HO815.out))) (Kd.R_lt (rx_ HO818.out))) (Kd.R_lt (rx_ HO822.out))) (bs_ HB))
        have n16_ := Aside0.mk (Kd.R_lower (Kd.R_new' (Kd.R_new' (Kd.R_new' (Kd.R_new' (Kd.R_new' (Kd.R_new' (Kd.R_new' (Kd.R_new' ho2 (Kd.R_lt (rx_ HO794.out))) (Kd.R_lt (rx_ HO797.out))) (Kd.R_lt (rx_ HO800.out))) (Kd.R_lt (rx_ HO803.out))) (Kd.R_lt (rx_ HO812.out))) (Kd.R_lt (rx_ HO815.out))) (Kd.R_lt (rx_ HO818.out))) (Kd.R_lt (rx_ HO822.out))) (bs_ HB))
        have n17_ := tK_ BK782 hb
        have n18_ := tK_ BK819 hb
        have n19_ := tB_ HB hb
        clear HO788
        clear HO791
        clear HO794
        clear HO797
        clear HO800
        clear HO803
        clear HO806
        clear HO809
        clear HO812
        clear HO815
        clear HO818
        clear HO822
        clear HO826
        clear HO830
        clear BK782
        clear BK819
        clear HB
        have HO788 := n0_
        have HO791 := n1_
        have HO794 := n2_
        have HO797 := n3_
        have HO800 := n4_
        have HO803 := n5_
        have HO806 := n6_
        have HO809 := n7_
        have HO812 := n8_
        have HO815 := n9_
        have HO818 := n10_
        have HO822 := n11_
        have HO826 := n12_
        have HO830 := n13_
        have HO834 := n14_
        have HO837 := n15_
        have HO840 := n16_
        have BK782 := n17_
        have BK819 := n18_
        have HB := n19_
        clear n0_ n1_ n2_ n3_ n4_ n5_ n6_ n7_ n8_ n9_ n10_ n11_ n12_ n13_ n14_ n15_ n16_ n17_ n18_ n19_
        (try clear hb)
        (try clear hb2)
        (try clear hk)
        (try clear hi)
        (try clear ho0)
        (try clear ho1)
        (try clear ho2)
        obtain ⟨Ao74, co74, eo74⟩ := Kd.R_slice HO834.out
        (first | subst eo74 | (injection eo74 with f1_ f2_ f3_; have f4_ := f1_.symm; have f5_ := f3_.symm; clear f1_ f2_ f3_; subst f4_; subst f5_))
        obtain ⟨Ao75, co75, eo75⟩ := Kd.R_slice HO837.out
        (first | subst eo75 | (injection eo75 with f1_ f2_ f3_; have f4_ := f1_.symm; have f5_ := f3_.symm; clear f1_ f2_ f3_; subst f4_; subst f5_))
        obtain ⟨Ao76, co76, eo76⟩ := Kd.R_slice HO840.out
        (first | subst eo76 | (injection eo76 with f1_ f2_ f3_; have f4_ := f1_.symm; have f5_ := f3_.symm; clear f1_ f2_ f3_; subst f4_; subst f5_))
        refine hK.out _ _ ⟨(blk_cell BK819.out 0).trans rfl, (blk_cell BK819.out 1).trans rfl, (blk_cell BK819.out 2).trans rfl, (blk_cell BK782.out 0).trans rfl, (blk_cell BK782.out 1).trans rfl, (blk_cell BK782.out 2).trans rfl⟩ (fun hHeld => ?_)
        clear hK K
        refine norm_ (a' := ?_) ?_ ?_
        rotate_left
        ·show Act.put _ (some 65) _ = _
         simp only [Act.put, List.setIfInBounds_toArray, List.set_cons_zero, List.set_cons_succ, i64_w, i32_w]
         rfl
        refine one_ (i := 3) (N := some 66) #[true, true, true, true, false] rfl rfl (by kernel_rfl) (by decide) (fun K hK => ?_)
        refine goes_ Try.func19 (by kernel_rfl) rfl #[.agg #[.slice Ao56 t810.length co56, .slice Ao59 t813.length co59, .slice Ao60 t816.length co60], .agg #[.slice Ao74 t832.length co74, .slice Ao75 t835.length co75, .slice Ao76 t838.length co76]] (by rfl) rfl rfl (by (try simp only [List.map_toArray, List.map_cons, List.map_nil]); first | done | rfl | (simp only [List.length_drop, List.length_take]; rfl)) ?_
        with_reducible refine (laws_eqCost.calls k _ _ t810 _ _ t813 _ _ t816 _ _ t832 _ _ t835 _ _ t838 true _ ?side1 ?side2 ?side3 ?side4 ?side5 ?side6 ?side7 ?side8 ?side9 ?side10 ?side11 ?side12 A32.out).mono ?_
        (case side1 => exact cc_ (Kd.R_reads' HO812.out).2.2)
        (case side2 => exact (Kd.R_reads' HO812.out).2.1)
        (case side3 => exact cc_ (Kd.R_reads' HO815.out).2.2)
        (case side4 => exact (Kd.R_reads' HO815.out).2.1)
        (case side5 => exact cc_ (Kd.R_reads' HO818.out).2.2)
        (case side6 => exact (Kd.R_reads' HO818.out).2.1)
        (case side7 => exact cc_ (Kd.R_reads' HO834.out).2.2)
        (case side8 => exact (Kd.R_reads' HO834.out).2.1)
        (case side9 => exact cc_ (Kd.R_reads' HO837.out).2.2)
        (case side10 => exact (Kd.R_reads' HO837.out).2.1)
        (case side11 => exact cc_ (Kd.R_reads' HO840.out).2.2)
        (case side12 => exact (Kd.R_reads' HO840.out).2.1)
        rintro e w77 ⟨rfl, hb⟩
        refine ⟨_, rfl, ?_⟩
        have n0_ := tR_ HO788 hb
        have n1_ := tR_ HO791 hb
        have n2_ := tR_ HO794 hb
        have n3_ := tR_ HO797 hb
        have n4_ := tR_ HO800 hb
        have n5_ := tR_ HO803 hb
        have n6_ := tR_ HO806 hb
        have n7_ := tR_ HO809 hb
        have n8_ := tR_ HO812 hb
        have n9_ := tR_ HO815 hb
        have n10_ := tR_ HO818 hb
        have n11_ := tR_ HO822 hb
        have n12_ := tR_ HO826 hb
        have n13_ := tR_ HO830 hb
        have n14_ := tR_ HO834 hb
        have n15_ := tR_ HO837 hb
        have n16_ := tR_ HO840 hb
        have n17_ := tK_ BK782 hb
        have n18_ := tK_ BK819 hb
        have n19_ := tB_ HB hb
        clear HO788
        clear HO791
        clear HO794
        clear HO797
        clear HO800
        clear HO803
        clear HO806
        clear HO809
        clear HO812
        clear HO815
        clear HO818
        clear HO822
        clear HO826
        clear HO830
        clear HO834
        clear HO837
        clear HO840
        clear BK782
        clear BK819
        clear HB
        have HO788 := n0_
        have HO791 := n1_
        have HO794 := n2_
        have HO797 := n3_
        have HO800 := n4_
        have HO803 := n5_
        have HO806 := n6_
        have HO809 := n7_
        have HO812 := n8_
        have HO815 := n9_
        have HO818 := n10_
        have HO822 := n11_
        have HO826 := n12_
        have HO830 := n13_
        have HO834 := n14_
        have HO837 := n15_
        have HO840 := n16_
        have BK782 := n17_
        have BK819 := n18_
        have HB := n19_
        clear n0_ n1_ n2_ n3_ n4_ n5_ n6_ n7_ n8_ n9_ n10_ n11_ n12_ n13_ n14_ n15_ n16_ n17_ n18_ n19_
        (try clear hb)
        (try clear hb2)
        (try clear hk)
        (try clear hi)
        refine hK.out _ _ ⟨(blk_cell BK819.out 0).trans rfl, (blk_cell BK819.out 1).trans rfl, (blk_cell BK819.out 2).trans rfl, (blk_cell BK782.out 0).trans rfl, (blk_cell BK782.out 1).trans rfl, (blk_cell BK782.out 2).trans rfl⟩ (fun hHeld => ?_)
        clear hK K
        refine norm_ (a' := ?_) ?_ ?_
        rotate_left
        ·show Act.put _ (some 66) _ = _
         simp only [Act.put, List.setIfInBounds_toArray, List.set_cons_zero, List.set_cons_succ, i64_w, i32_w]
         rfl
        refine pu_ 4 (some 67) #[true, true, true, true, true] rfl rfl (by kernel_rfl) ?_
        refine done_ (by kernel_rfl) ?_
        go_upto_region 28 with (first | ((with_reducible refine gate_callee (f := 29) rfl ?_); refine gL_ (some 70) Try.func29 #[.slice Ao61 t804.length co61, .int .i64 1] ?_; (with_reducible refine (laws_markNodeS.calls k (fun k_ => some k_ = (.slice Ao61 t804.length co61 : Value).ownBlock) (.slice Ao61 t804.length co61) t804 1 t842 t843 w _ ?side1 ?side2 A34.out).mono ?_); (case side1 => repeat (first | (with_reducible first | exact HB.out | apply below_alloc | apply pw_below_drewN | apply below_drew1 | refine below_set ?_ GE782.out | refine below_set ?_ GE819.out) | exact HB.out)); (case side2 => exact Kd.R_tight rfl HO806.out); rintro e w78 ⟨rfl, hy0, hb, hkp⟩; refine ⟨_, rfl, ?_⟩; replace BK782 := Aside0.mk (blk_kept (kx_ BK782.out) hkp (fun hs_ => (fun e_ => (Kd.R_ne HO806.out BK782.out (by decide)) e_) hs_)); replace HO788 := Aside0.mk (Kd.R_mono (ok' := fun k_ => some k_ ≠ (.slice Ao46 t789.length co46 : Value).ownBlock ∧ some k_ ≠ (.slice Ao61 t804.length co61 : Value).ownBlock ∧ some k_ ≠ (.slice Ao62 t807.length co62 : Value).ownBlock ∧ some k_ ≠ (.slice Ao67 t824.length co67 : Value).ownBlock ∧ some k_ ≠ (.slice Ao70 t828.length co70 : Value).ownBlock) (Kd.R_keptB (HO788.out) hkp (fun k_ hk_ hs_ => (hk_.1.1.1.2) hs_)) (fun k_ hk_ => ⟨hk_.1.1.1.1.1.2, hk_.1.1.1.1.2, hk_.1.1.1.2, hk_.1.1.2, hk_.1.2⟩)); replace HO791 := Aside0.mk (Kd.R_mono (ok' := fun k_ => some k_ ≠ (.slice Ao45 t786.length co45 : Value).ownBlock ∧ some k_ ≠ (.slice Ao61 t804.length co61 : Value).ownBlock ∧ some k_ ≠ (.slice Ao62 t807.length co62 : Value).ownBlock ∧ some k_ ≠ (.slice Ao67 t824.length co67 : Value).ownBlock ∧ some k_ ≠ (.slice Ao70 t828.length co70 : Value).ownBlock) (Kd.R_keptB (HO791.out) hkp (fun k_ hk_ hs_ => (hk_.1.1.1.2) hs_)) (fun k_ hk_ => ⟨hk_.1.1.1.1.1.2, hk_.1.1.1.1.2, hk_.1.1.1.2, hk_.1.1.2, hk_.1.2⟩)); replace HO794 := Aside0.mk (Kd.R_mono (ok' := fun k_ => some k_ ≠ (.slice Ao48 t795.length co48 : Value).ownBlock ∧ some k_ ≠ (.slice Ao49 t798.length co49 : Value).ownBlock ∧ some k_ ≠ (.slice Ao65 t801.length co65 : Value).ownBlock ∧ some k_ ≠ (.slice Ao56 t810.length co56 : Value).ownBlock ∧ some k_ ≠ (.slice Ao59 t813.length co59 : Value).ownBlock ∧ some k_ ≠ (.slice Ao60 t816.length co60 : Value).ownBlock ∧ some k_ ≠ (.slice Ao64 t820.length co64 : Value).ownBlock ∧ some k_ ≠ (.slice Ao74 t832.length co74 : Value).ownBlock ∧ some k_ ≠ (.slice Ao75 t835.length co75 : Value).ownBlock ∧ some k_ ≠ (.slice Ao76 t838.length co76 : Value).ownBlock) (Kd.R_keptB ((Kd.R_apart' HO794.out (Kd.R_typed HO806.out) (by decide))) hkp (fun k_ hk_ hs_ => (hk_.2) hs_)) (fun k_ hk_ => ⟨hk_.1.1.1.1.1.1.1.1.1.1.1, hk_.1.1.1.1.1.1.1.1.1.1.2, hk_.1.1.1.1.1.1.1.1.1.2, hk_.1.1.1.1.1.1.1.1.2, hk_.1.1.1.1.1.1.1.2, hk_.1.1.1.1.1.1.2, hk_.1.1.1.1.1.2, hk_.1.1.1.1.2, hk_.1.1.1.2, hk_.1.1.2⟩)); replace HO797 := Aside0.mk (Kd.R_mono (ok' := fun k_ => some k_ ≠ (.slice Ao47 t792.length co47 : Value).ownBlock ∧ some k_ ≠ (.slice Ao49 t798.length co49 : Value).ownBlock ∧ some k_ ≠ (.slice Ao65 t801.length co65 : Value).ownBlock ∧ some k_ ≠ (.slice Ao56 t810.length co56 : Value).ownBlock ∧ some k_ ≠ (.slice Ao59 t813.length co59 : Value).ownBlock ∧ some k_ ≠ (.slice Ao60 t816.length co60 : Value).ownBlock ∧ some k_ ≠ (.slice Ao64 t820.length co64 : Value).ownBlock ∧ some k_ ≠ (.slice Ao74 t832.length co74 : Value).ownBlock ∧ some k_ ≠ (.slice Ao75 t835.length co75 : Value).ownBlock ∧ some k_ ≠ (.slice Ao76 t838.length co76 : Value).ownBlock) (Kd.R_keptB ((Kd.R_apart' HO797.out (Kd.R_typed HO806.out) (by decide))) hkp (fun k_ hk_ hs_ => (hk_.2) hs_)) (fun k_ hk_ => ⟨hk_.1.1.1.1.1.1.1.1.1.1.1, hk_.1.1.1.1.1.1.1.1.1.1.2, hk_.1.1.1.1.1.1.1.1.1.2, hk_.1.1.1.1.1.1.1.1.2, hk_.1.1.1.1.1.1.1.2, hk_.1.1.1.1.1.1.2, hk_.1.1.1.1.1.2, hk_.1.1.1.1.2, hk_.1.1.1.2, hk_.1.1.2⟩)); replace HO800 := Aside0.mk (Kd.R_mono (ok' := fun k_ => some k_ ≠ (.slice Ao47 t792.length co47 : Value).ownBlock ∧ some k_ ≠ (.slice Ao48 t795.length co48 : Value).ownBlock ∧ some k_ ≠ (.slice Ao65 t801.length co65 : Value).ownBlock ∧ some k_ ≠ (.slice Ao56 t810.length co56 : Value).ownBlock ∧ some k_ ≠ (.slice Ao59 t813.length co59 : Value).ownBlock ∧ some k_ ≠ (.slice Ao60 t816.length co60 : Value).ownBlock ∧ some k_ ≠ (.slice Ao64 t820.length co64 : Value).ownBlock ∧ some k_ ≠ (.slice Ao74 t832.length co74 : Value).ownBlock ∧ some k_ ≠ (.slice Ao75 t835.length co75 : Value).ownBlock ∧ some k_ ≠ (.slice Ao76 t838.length co76 : Value).ownBlock) (Kd.R_keptB ((Kd.R_apart' HO800.out (Kd.R_typed HO806.out) (by decide))) hkp (fun k_ hk_ hs_ => (hk_.2) hs_)) (fun k_ hk_ => ⟨hk_.1.1.1.1.1.1.1.1.1.1.1, hk_.1.1.1.1.1.1.1.1.1.1.2, hk_.1.1.1.1.1.1.1.1.1.2, hk_.1.1.1.1.1.1.1.1.2, hk_.1.1.1.1.1.1.1.2, hk_.1.1.1.1.1.1.2, hk_.1.1.1.1.1.2, hk_.1.1.1.1.2, hk_.1.1.1.2, hk_.1.1.2⟩)); replace HO803 := Aside0.mk (Kd.R_mono (ok' := fun k_ => some k_ ≠ (.slice Ao47 t792.length co47 : Value).ownBlock ∧ some k_ ≠ (.slice Ao48 t795.length co48 : Value).ownBlock ∧ some k_ ≠ (.slice Ao49 t798.length co49 : Value).ownBlock ∧ some k_ ≠ (.slice Ao56 t810.length co56 : Value).ownBlock ∧ some k_ ≠ (.slice Ao59 t813.length co59 : Value).ownBlock ∧ some k_ ≠ (.slice Ao60 t816.length co60 : Value).ownBlock ∧ some k_ ≠ (.slice Ao64 t820.length co64 : Value).ownBlock ∧ some k_ ≠ (.slice Ao74 t832.length co74 : Value).ownBlock ∧ some k_ ≠ (.slice Ao75 t835.length co75 : Value).ownBlock ∧ some k_ ≠ (.slice Ao76 t838.length co76 : Value).ownBlock) (Kd.R_keptB ((Kd.R_apart' HO803.out (Kd.R_typed HO806.out) (by decide))) hkp (fun k_ hk_ hs_ => (hk_.2) hs_)) (fun k_ hk_ => ⟨hk_.1.1.1.1.1.1.1.1.1.1.1.2, hk_.1.1.1.1.1.1.1.1.1.1.2, hk_.1.1.1.1.1.1.1.1.1.2, hk_.1.1.1.1.1.1.1.1.2, hk_.1.1.1.1.1.1.1.2, hk_.1.1.1.1.1.1.2, hk_.1.1.1.1.1.2, hk_.1.1.1.1.2, hk_.1.1.1.2, hk_.1.1.2⟩)); replace HO809 := Aside0.mk (Kd.R_mono (ok' := fun k_ => some k_ ≠ (.slice Ao45 t786.length co45 : Value).ownBlock ∧ some k_ ≠ (.slice Ao46 t789.length co46 : Value).ownBlock ∧ some k_ ≠ (.slice Ao61 t804.length co61 : Value).ownBlock ∧ some k_ ≠ (.slice Ao67 t824.length co67 : Value).ownBlock ∧ some k_ ≠ (.slice Ao70 t828.length co70 : Value).ownBlock) (Kd.R_keptB (HO809.out) hkp (fun k_ hk_ hs_ => (hk_.1.1.2) hs_)) (fun k_ hk_ => ⟨hk_.1.1.1.1.1.2, hk_.1.1.1.1.2, hk_.1.1.1.2, hk_.1.1.2, hk_.1.2⟩)); replace HO812 := Aside0.mk (Kd.R_mono (ok' := fun k_ => some k_ ≠ (.slice Ao47 t792.length co47 : Value).ownBlock ∧ some k_ ≠ (.slice Ao48 t795.length co48 : Value).ownBlock ∧ some k_ ≠ (.slice Ao49 t798.length co49 : Value).ownBlock ∧ some k_ ≠ (.slice Ao65 t801.length co65 : Value).ownBlock ∧ some k_ ≠ (.slice Ao59 t813.length co59 : Value).ownBlock ∧ some k_ ≠ (.slice Ao60 t816.length co60 : Value).ownBlock ∧ some k_ ≠ (.slice Ao64 t820.length co64 : Value).ownBlock ∧ some k_ ≠ (.slice Ao74 t832.length co74 : Value).ownBlock ∧ some k_ ≠ (.slice Ao75 t835.length co75 : Value).ownBlock ∧ some k_ ≠ (.slice Ao76 t838.length co76 : Value).ownBlock) (Kd.R_keptB ((Kd.R_apart' HO812.out (Kd.R_typed HO806.out) (by decide))) hkp (fun k_ hk_ hs_ => (hk_.2) hs_)) (fun k_ hk_ => ⟨hk_.1.1.1.1.1.1.1.1.1.2, hk_.1.1.1.1.1.1.1.1.2, hk_.1.1.1.1.1.1.1.2, hk_.1.1.1.1.1.1.2, hk_.1.1.1.1.1.1.1.1.1.1.1, hk_.1.1.1.1.1.1.1.1.1.1.2, hk_.1.1.1.1.1.2, hk_.1.1.1.1.2, hk_.1.1.1.2, hk_.1.1.2⟩)); replace HO815 := Aside0.mk (Kd.R_mono (ok' := fun k_ => some k_ ≠ (.slice Ao47 t792.length co47 : Value).ownBlock ∧ some k_ ≠ (.slice Ao48 t795.length co48 : Value).ownBlock ∧ some k_ ≠ (.slice Ao49 t798.length co49 : Value).ownBlock ∧ some k_ ≠ (.slice Ao65 t801.length co65 : Value).ownBlock ∧ some k_ ≠ (.slice Ao56 t810.length co56 : Value).ownBlock ∧ some k_ ≠ (.slice Ao60 t816.length co60 : Value).ownBlock ∧ some k_ ≠ (.slice Ao64 t820.length co64 : Value).ownBlock ∧ some k_ ≠ (.slice Ao74 t832.length co74 : Value).ownBlock ∧ some k_ ≠ (.slice Ao75 t835.length co75 : Value).ownBlock ∧ some k_ ≠ (.slice Ao76 t838.length co76 : Value).ownBlock) (Kd.R_keptB ((Kd.R_apart' HO815.out (Kd.R_typed HO806.out) (by decide))) hkp (fun k_ hk_ hs_ => (hk_.2) hs_)) (fun k_ hk_ => ⟨hk_.1.1.1.1.1.1.1.1.1.2, hk_.1.1.1.1.1.1.1.1.2, hk_.1.1.1.1.1.1.1.2, hk_.1.1.1.1.1.1.2, hk_.1.1.1.1.1.1.1.1.1.1.1, hk_.1.1.1.1.1.1.1.1.1.1.2, hk_.1.1.1.1.1.2, hk_.1.1.1.1.2, hk_.1.1.1.2, hk_.1.1.2⟩)); replace HO818 := Aside0.mk (Kd.R_mono (ok' := fun k_ => some k_ ≠ (.slice Ao47 t792.length co47 : Value).ownBlock ∧ some k_ ≠ (.slice Ao48 t795.length co48 : Value).ownBlock ∧ some k_ ≠ (.slice Ao49 t798.length co49 : Value).ownBlock ∧ some k_ ≠ (.slice Ao65 t801.length co65 : Value).ownBlock ∧ some k_ ≠ (.slice Ao56 t810.length co56 : Value).ownBlock ∧ some k_ ≠ (.slice Ao59 t813.length co59 : Value).ownBlock ∧ some k_ ≠ (.slice Ao64 t820.length co64 : Value).ownBlock ∧ some k_ ≠ (.slice Ao74 t832.length co74 : Value).ownBlock ∧ some k_ ≠ (.slice Ao75 t835.length co75 : Value).ownBlock ∧ some k_ ≠ (.slice Ao76 t838.length co76 : Value).ownBlock) (Kd.R_keptB ((Kd.R_apart' HO818.out (Kd.R_typed HO806.out) (by decide))) hkp (fun k_ hk_ hs_ => (hk_.2) hs_)) (fun k_ hk_ => ⟨hk_.1.1.1.1.1.1.1.1.1.2, hk_.1.1.1.1.1.1.1.1.2, hk_.1.1.1.1.1.1.1.2, hk_.1.1.1.1.1.1.2, hk_.1.1.1.1.1.1.1.1.1.1.1, hk_.1.1.1.1.1.1.1.1.1.1.2, hk_.1.1.1.1.1.2, hk_.1.1.1.1.2, hk_.1.1.1.2, hk_.1.1.2⟩)); replace BK819 := Aside0.mk (blk_kept (kx_ BK819.out) hkp (fun hs_ => (fun e_ => (Kd.R_ne HO806.out BK819.out (by decide)) e_) hs_)); replace HO822 := Aside0.mk (Kd.R_mono (ok' := fun k_ => some k_ ≠ (.slice Ao47 t792.length co47 : Value).ownBlock ∧ some k_ ≠ (.slice Ao48 t795.length co48 : Value).ownBlock ∧ some k_ ≠ (.slice Ao49 t798.length co49 : Value).ownBlock ∧ some k_ ≠ (.slice Ao65 t801.length co65 : Value).ownBlock ∧ some k_ ≠ (.slice Ao56 t810.length co56 : Value).ownBlock ∧ some k_ ≠ (.slice Ao59 t813.length co59 : Value).ownBlock ∧ some k_ ≠ (.slice Ao60 t816.length co60 : Value).ownBlock ∧ some k_ ≠ (.slice Ao74 t832.length co74 : Value).ownBlock ∧ some k_ ≠ (.slice Ao75 t835.length co75 : Value).ownBlock ∧ some k_ ≠ (.slice Ao76 t838.length co76 : Value).ownBlock) (Kd.R_keptB ((Kd.R_apart' HO822.out (Kd.R_typed HO806.out) (by decide))) hkp (fun k_ hk_ hs_ => (hk_.2) hs_)) (fun k_ hk_ => ⟨hk_.1.1.1.1.1.1.1.1.1.1.1.2, hk_.1.1.1.1.1.1.1.1.1.1.2, hk_.1.1.1.1.1.1.1.1.1.2, hk_.1.1.1.1.1.1.1.1.2, hk_.1.1.1.1.1.1.1.2, hk_.1.1.1.1.1.1.2, hk_.1.1.1.1.1.2, hk_.1.1.1.1.2, hk_.1.1.1.2, hk_.1.1.2⟩)); replace HO826 := Aside0.mk (Kd.R_mono (ok' := fun k_ => some k_ ≠ (.slice Ao45 t786.length co45 : Value).ownBlock ∧ some k_ ≠ (.slice Ao46 t789.length co46 : Value).ownBlock ∧ some k_ ≠ (.slice Ao61 t804.length co61 : Value).ownBlock ∧ some k_ ≠ (.slice Ao62 t807.length co62 : Value).ownBlock ∧ some k_ ≠ (.slice Ao70 t828.length co70 : Value).ownBlock) (Kd.R_keptB (HO826.out) hkp (fun k_ hk_ hs_ => (hk_.1.1.2) hs_)) (fun k_ hk_ => ⟨hk_.1.1.1.1.1.2, hk_.1.1.1.1.2, hk_.1.1.1.2, hk_.1.1.2, hk_.1.2⟩)); replace HO830 := Aside0.mk (Kd.R_mono (ok' := fun k_ => some k_ ≠ (.slice Ao45 t786.length co45 : Value).ownBlock ∧ some k_ ≠ (.slice Ao46 t789.length co46 : Value).ownBlock ∧ some k_ ≠ (.slice Ao61 t804.length co61 : Value).ownBlock ∧ some k_ ≠ (.slice Ao62 t807.length co62 : Value).ownBlock ∧ some k_ ≠ (.slice Ao67 t824.length co67 : Value).ownBlock) (Kd.R_keptB (HO830.out) hkp (fun k_ hk_ hs_ => (hk_.1.1.2) hs_)) (fun k_ hk_ => ⟨hk_.1.1.1.1.1.2, hk_.1.1.1.1.2, hk_.1.1.1.2, hk_.1.1.2, hk_.1.2⟩)); replace HO834 := Aside0.mk (Kd.R_mono (ok' := fun k_ => some k_ ≠ (.slice Ao47 t792.length co47 : Value).ownBlock ∧ some k_ ≠ (.slice Ao48 t795.length co48 : Value).ownBlock ∧ some k_ ≠ (.slice Ao49 t798.length co49 : Value).ownBlock ∧ some k_ ≠ (.slice Ao65 t801.length co65 : Value).ownBlock ∧ some k_ ≠ (.slice Ao56 t810.length co56 : Value).ownBlock ∧ some k_ ≠ (.slice Ao59 t813.length co59 : Value).ownBlock ∧ some k_ ≠ (.slice Ao60 t816.length co60 : Value).ownBlock ∧ some k_ ≠ (.slice Ao64 t820.length co64 : Value).ownBlock ∧ some k_ ≠ (.slice Ao75 t835.length co75 : Value).ownBlock ∧ some k_ ≠ (.slice Ao76 t838.length co76 : Value).ownBlock) (Kd.R_keptB ((Kd.R_apart' HO834.out (Kd.R_typed HO806.out) (by decide))) hkp (fun k_ hk_ hs_ => (hk_.2) hs_)) (fun k_ hk_ => ⟨hk_.1.1.1.1.1.1.1.1.1.2, hk_.1.1.1.1.1.1.1.1.2, hk_.1.1.1.1.1.1.1.2, hk_.1.1.1.1.1.1.2, hk_.1.1.1.1.1.2, hk_.1.1.1.1.2, hk_.1.1.1.2, hk_.1.1.2, hk_.1.1.1.1.1.1.1.1.1.1.1, hk_.1.1.1.1.1.1.1.1.1.1.2⟩)); replace HO837 := Aside0.mk (Kd.R_mono (ok' := fun k_ => some k_ ≠ (.slice Ao47 t792.length co47 : Value).ownBlock ∧ some k_ ≠ (.slice Ao48 t795.length co48 : Value).ownBlock ∧ some k_ ≠ (.slice Ao49 t798.length co49 : Value).ownBlock ∧ some k_ ≠ (.slice Ao65 t801.length co65 : Value).ownBlock ∧ some k_ ≠ (.slice Ao56 t810.length co56 : Value).ownBlock ∧ some k_ ≠ (.slice Ao59 t813.length co59 : Value).ownBlock ∧ some k_ ≠ (.slice Ao60 t816.length co60 : Value).ownBlock ∧ some k_ ≠ (.slice Ao64 t820.length co64 : Value).ownBlock ∧ some k_ ≠ (.slice Ao74 t832.length co74 : Value).ownBlock ∧ some k_ ≠ (.slice Ao76 t838.length co76 : Value).ownBlock) (Kd.R_keptB ((Kd.R_apart' HO837.out (Kd.R_typed HO806.out) (by decide))) hkp (fun k_ hk_ hs_ => (hk_.2) hs_)) (fun k_ hk_ => ⟨hk_.1.1.1.1.1.1.1.1.1.2, hk_.1.1.1.1.1.1.1.1.2, hk_.1.1.1.1.1.1.1.2, hk_.1.1.1.1.1.1.2, hk_.1.1.1.1.1.2, hk_.1.1.1.1.2, hk_.1.1.1.2, hk_.1.1.2, hk_.1.1.1.1.1.1.1.1.1.1.1, hk_.1.1.1.1.1.1.1.1.1.1.2⟩)); replace HO840 := Aside0.mk (Kd.R_mono (ok' := fun k_ => some k_ ≠ (.slice Ao47 t792.length co47 : Value).ownBlock ∧ some k_ ≠ (.slice Ao48 t795.length co48 : Value).ownBlock ∧ some k_ ≠ (.slice Ao49 t798.length co49 : Value).ownBlock ∧ some k_ ≠ (.slice Ao65 t801.length co65 : Value).ownBlock ∧ some k_ ≠ (.slice Ao56 t810.length co56 : Value).ownBlock ∧ some k_ ≠ (.slice Ao59 t813.length co59 : Value).ownBlock ∧ some k_ ≠ (.slice Ao60 t816.length co60 : Value).ownBlock ∧ some k_ ≠ (.slice Ao64 t820.length co64 : Value).ownBlock ∧ some k_ ≠ (.slice Ao74 t832.length co74 : Value).ownBlock ∧ some k_ ≠ (.slice Ao75 t835.length co75 : Value).ownBlock) (Kd.R_keptB ((Kd.R_apart' HO840.out (Kd.R_typed HO806.out) (by decide))) hkp (fun k_ hk_ hs_ => (hk_.2) hs_)) (fun k_ hk_ => ⟨hk_.1.1.1.1.1.1.1.1.1.2, hk_.1.1.1.1.1.1.1.1.2, hk_.1.1.1.1.1.1.1.2, hk_.1.1.1.1.1.1.2, hk_.1.1.1.1.1.2, hk_.1.1.1.1.2, hk_.1.1.1.2, hk_.1.1.2, hk_.1.1.1.1.1.1.1.1.1.1.1, hk_.1.1.1.1.1.1.1.1.1.1.2⟩)); replace HO806 := Aside0.mk (Kd.R_reok rfl hy0 (fun k_ e_ => HO806.out.1 k_ e_)); replace HB := Aside0.mk (hb); (try clear hb); (try clear hkp); (try clear hy0)) | ((with_reducible refine gate_callee (f := 29) rfl ?_); refine gL_ (some 73) Try.func29 #[.slice Ao62 t807.length co62, .int .i64 t842] ?_; (with_reducible refine (laws_markNodeS.calls k (fun k_ => some k_ = (.slice Ao62 t807.length co62 : Value).ownBlock) (.slice Ao62 t807.length co62) t807 t842 t844 t845 w _ ?side1 ?side2 A35.out).mono ?_); (case side1 => repeat (first | (with_reducible first | exact HB.out | apply below_alloc | apply pw_below_drewN | apply below_drew1 | refine below_set ?_ GE782.out | refine below_set ?_ GE819.out) | exact HB.out)); (case side2 => exact Kd.R_tight rfl HO809.out); rintro e w79 ⟨rfl, hy0, hb, hkp⟩; refine ⟨_, rfl, ?_⟩; replace BK782 := Aside0.mk (blk_kept (kx_ BK782.out) hkp (fun hs_ => (fun e_ => (Kd.R_ne HO809.out BK782.out (by decide)) e_) hs_)); replace HO788 := Aside0.mk (Kd.R_mono (ok' := fun k_ => some k_ ≠ (.slice Ao46 t789.length co46 : Value).ownBlock ∧ some k_ ≠ (.slice Ao61 t804.length co61 : Value).ownBlock ∧ some k_ ≠ (.slice Ao62 t807.length co62 : Value).ownBlock ∧ some k_ ≠ (.slice Ao67 t824.length co67 : Value).ownBlock ∧ some k_ ≠ (.slice Ao70 t828.length co70 : Value).ownBlock) (Kd.R_keptB (HO788.out) hkp (fun k_ hk_ hs_ => (hk_.2.2.1) hs_)) (fun k_ hk_ => ⟨hk_.1.1, hk_.1.2.1, hk_.1.2.2.1, hk_.1.2.2.2.1, hk_.1.2.2.2.2⟩)); replace HO791 := Aside0.mk (Kd.R_mono (ok' := fun k_ => some k_ ≠ (.slice Ao45 t786.length co45 : Value).ownBlock ∧ some k_ ≠ (.slice Ao61 t804.length co61 : Value).ownBlock ∧ some k_ ≠ (.slice Ao62 t807.length co62 : Value).ownBlock ∧ some k_ ≠ (.slice Ao67 t824.length co67 : Value).ownBlock ∧ some k_ ≠ (.slice Ao70 t828.length co70 : Value).ownBlock) (Kd.R_keptB (HO791.out) hkp (fun k_ hk_ hs_ => (hk_.2.2.1) hs_)) (fun k_ hk_ => ⟨hk_.1.1, hk_.1.2.1, hk_.1.2.2.1, hk_.1.2.2.2.1, hk_.1.2.2.2.2⟩)); replace HO794 := Aside0.mk (Kd.R_mono (ok' := fun k_ => some k_ ≠ (.slice Ao48 t795.length co48 : Value).ownBlock ∧ some k_ ≠ (.slice Ao49 t798.length co49 : Value).ownBlock ∧ some k_ ≠ (.slice Ao65 t801.length co65 : Value).ownBlock ∧ some k_ ≠ (.slice Ao56 t810.length co56 : Value).ownBlock ∧ some k_ ≠ (.slice Ao59 t813.length co59 : Value).ownBlock ∧ some k_ ≠ (.slice Ao60 t816.length co60 : Value).ownBlock ∧ some k_ ≠ (.slice Ao64 t820.length co64 : Value).ownBlock ∧ some k_ ≠ (.slice Ao74 t832.length co74 : Value).ownBlock ∧ some k_ ≠ (.slice Ao75 t835.length co75 : Value).ownBlock ∧ some k_ ≠ (.slice Ao76 t838.length co76 : Value).ownBlock) (Kd.R_keptB ((Kd.R_apart' HO794.out (Kd.R_typed HO809.out) (by decide))) hkp (fun k_ hk_ hs_ => (hk_.2) hs_)) (fun k_ hk_ => ⟨hk_.1.1.1, hk_.1.1.2.1, hk_.1.1.2.2.1, hk_.1.1.2.2.2.1, hk_.1.1.2.2.2.2.1, hk_.1.1.2.2.2.2.2.1, hk_.1.1.2.2.2.2.2.2.1, hk_.1.1.2.2.2.2.2.2.2.1, hk_.1.1.2.2.2.2.2.2.2.2.1, hk_.1.1.2.2.2.2.2.2.2.2.2⟩)); replace HO797 := Aside0.mk (Kd.R_mono (ok' := fun k_ => some k_ ≠ (.slice Ao47 t792.length co47 : Value).ownBlock ∧ some k_ ≠ (.slice Ao49 t798.length co49 : Value).ownBlock ∧ some k_ ≠ (.slice Ao65 t801.length co65 : Value).ownBlock ∧ some k_ ≠ (.slice Ao56 t810.length co56 : Value).ownBlock ∧ some k_ ≠ (.slice Ao59 t813.length co59 : Value).ownBlock ∧ some k_ ≠ (.slice Ao60 t816.length co60 : Value).ownBlock ∧ some k_ ≠ (.slice Ao64 t820.length co64 : Value).ownBlock ∧ some k_ ≠ (.slice Ao74 t832.length co74 : Value).ownBlock ∧ some k_ ≠ (.slice Ao75 t835.length co75 : Value).ownBlock ∧ some k_ ≠ (.slice Ao76 t838.length co76 : Value).ownBlock) (Kd.R_keptB ((Kd.R_apart' HO797.out (Kd.R_typed HO809.out) (by decide))) hkp (fun k_ hk_ hs_ => (hk_.2) hs_)) (fun k_ hk_ => ⟨hk_.1.1.1, hk_.1.1.2.1, hk_.1.1.2.2.1, hk_.1.1.2.2.2.1, hk_.1.1.2.2.2.2.1, hk_.1.1.2.2.2.2.2.1, hk_.1.1.2.2.2.2.2.2.1, hk_.1.1.2.2.2.2.2.2.2.1, hk_.1.1.2.2.2.2.2.2.2.2.1, hk_.1.1.2.2.2.2.2.2.2.2.2⟩)); replace HO800 := Aside0.mk (Kd.R_mono (ok' := fun k_ => some k_ ≠ (.slice Ao47 t792.length co47 : Value).ownBlock ∧ some k_ ≠ (.slice Ao48 t795.length co48 : Value).ownBlock ∧ some k_ ≠ (.slice Ao65 t801.length co65 : Value).ownBlock ∧ some k_ ≠ (.slice Ao56 t810.length co56 : Value).ownBlock ∧ some k_ ≠ (.slice Ao59 t813.length co59 : Value).ownBlock ∧ some k_ ≠ (.slice Ao60 t816.length co60 : Value).ownBlock ∧ some k_ ≠ (.slice Ao64 t820.length co64 : Value).ownBlock ∧ some k_ ≠ (.slice Ao74 t832.length co74 : Value).ownBlock ∧ some k_ ≠ (.slice Ao75 t835.length co75 : Value).ownBlock ∧ some k_ ≠ (.slice Ao76 t838.length co76 : Value).ownBlock) (Kd.R_keptB ((Kd.R_apart' HO800.out (Kd.R_typed HO809.out) (by decide))) hkp (fun k_ hk_ hs_ => (hk_.2) hs_)) (fun k_ hk_ => ⟨hk_.1.1.1, hk_.1.1.2.1, hk_.1.1.2.2.1, hk_.1.1.2.2.2.1, hk_.1.1.2.2.2.2.1, hk_.1.1.2.2.2.2.2.1, hk_.1.1.2.2.2.2.2.2.1, hk_.1.1.2.2.2.2.2.2.2.1, hk_.1.1.2.2.2.2.2.2.2.2.1, hk_.1.1.2.2.2.2.2.2.2.2.2⟩)); replace HO803 := Aside0.mk (Kd.R_mono (ok' := fun k_ => some k_ ≠ (.slice Ao47 t792.length co47 : Value).ownBlock ∧ some k_ ≠ (.slice Ao48 t795.length co48 : Value).ownBlock ∧ some k_ ≠ (.slice Ao49 t798.length co49 : Value).ownBlock ∧ some k_ ≠ (.slice Ao56 t810.length co56 : Value).ownBlock ∧ some k_ ≠ (.slice Ao59 t813.length co59 : Value).ownBlock ∧ some k_ ≠ (.slice Ao60 t816.length co60 : Value).ownBlock ∧ some k_ ≠ (.slice Ao64 t820.length co64 : Value).ownBlock ∧ some k_ ≠ (.slice Ao74 t832.length co74 : Value).ownBlock ∧ some k_ ≠ (.slice Ao75 t835.length co75 : Value).ownBlock ∧ some k_ ≠ (.slice Ao76 t838.length co76 : Value).ownBlock) (Kd.R_keptB ((Kd.R_apart' HO803.out (Kd.R_typed HO809.out) (by decide))) hkp (fun k_ hk_ hs_ => (hk_.2) hs_)) (fun k_ hk_ => ⟨hk_.1.1.1, hk_.1.1.2.1, hk_.1.1.2.2.1, hk_.1.1.2.2.2.1, hk_.1.1.2.2.2.2.1, hk_.1.1.2.2.2.2.2.1, hk_.1.1.2.2.2.2.2.2.1, hk_.1.1.2.2.2.2.2.2.2.1, hk_.1.1.2.2.2.2.2.2.2.2.1, hk_.1.1.2.2.2.2.2.2.2.2.2⟩)); replace HO806 := Aside0.mk (Kd.R_mono (ok' := fun k_ => some k_ ≠ (.slice Ao45 t786.length co45 : Value).ownBlock ∧ some k_ ≠ (.slice Ao46 t789.length co46 : Value).ownBlock ∧ some k_ ≠ (.slice Ao62 t807.length co62 : Value).ownBlock ∧ some k_ ≠ (.slice Ao67 t824.length co67 : Value).ownBlock ∧ some k_ ≠ (.slice Ao70 t828.length co70 : Value).ownBlock) (Kd.R_keptB (HO806.out) hkp (fun k_ hk_ hs_ => (hk_.1.1.2) hs_)) (fun k_ hk_ => ⟨hk_.1.1.1.1.1.2, hk_.1.1.1.1.2, hk_.1.1.1.2, hk_.1.1.2, hk_.1.2⟩)); replace HO812 := Aside0.mk (Kd.R_mono (ok' := fun k_ => some k_ ≠ (.slice Ao47 t792.length co47 : Value).ownBlock ∧ some k_ ≠ (.slice Ao48 t795.length co48 : Value).ownBlock ∧ some k_ ≠ (.slice Ao49 t798.length co49 : Value).ownBlock ∧ some k_ ≠ (.slice Ao65 t801.length co65 : Value).ownBlock ∧ some k_ ≠ (.slice Ao59 t813.length co59 : Value).ownBlock ∧ some k_ ≠ (.slice Ao60 t816.length co60 : Value).ownBlock ∧ some k_ ≠ (.slice Ao64 t820.length co64 : Value).ownBlock ∧ some k_ ≠ (.slice Ao74 t832.length co74 : Value).ownBlock ∧ some k_ ≠ (.slice Ao75 t835.length co75 : Value).ownBlock ∧ some k_ ≠ (.slice Ao76 t838.length co76 : Value).ownBlock) (Kd.R_keptB ((Kd.R_apart' HO812.out (Kd.R_typed HO809.out) (by decide))) hkp (fun k_ hk_ hs_ => (hk_.2) hs_)) (fun k_ hk_ => ⟨hk_.1.1.1, hk_.1.1.2.1, hk_.1.1.2.2.1, hk_.1.1.2.2.2.1, hk_.1.1.2.2.2.2.1, hk_.1.1.2.2.2.2.2.1, hk_.1.1.2.2.2.2.2.2.1, hk_.1.1.2.2.2.2.2.2.2.1, hk_.1.1.2.2.2.2.2.2.2.2.1, hk_.1.1.2.2.2.2.2.2.2.2.2⟩)); replace HO815 := Aside0.mk (Kd.R_mono (ok' := fun k_ => some k_ ≠ (.slice Ao47 t792.length co47 : Value).ownBlock ∧ some k_ ≠ (.slice Ao48 t795.length co48 : Value).ownBlock ∧ some k_ ≠ (.slice Ao49 t798.length co49 : Value).ownBlock ∧ some k_ ≠ (.slice Ao65 t801.length co65 : Value).ownBlock ∧ some k_ ≠ (.slice Ao56 t810.length co56 : Value).ownBlock ∧ some k_ ≠ (.slice Ao60 t816.length co60 : Value).ownBlock ∧ some k_ ≠ (.slice Ao64 t820.length co64 : Value).ownBlock ∧ some k_ ≠ (.slice Ao74 t832.length co74 : Value).ownBlock ∧ some k_ ≠ (.slice Ao75 t835.length co75 : Value).ownBlock ∧ some k_ ≠ (.slice Ao76 t838.length co76 : Value).ownBlock) (Kd.R_keptB ((Kd.R_apart' HO815.out (Kd.R_typed HO809.out) (by decide))) hkp (fun k_ hk_ hs_ => (hk_.2) hs_)) (fun k_ hk_ => ⟨hk_.1.1.1, hk_.1.1.2.1, hk_.1.1.2.2.1, hk_.1.1.2.2.2.1, hk_.1.1.2.2.2.2.1, hk_.1.1.2.2.2.2.2.1, hk_.1.1.2.2.2.2.2.2.1, hk_.1.1.2.2.2.2.2.2.2.1, hk_.1.1.2.2.2.2.2.2.2.2.1, hk_.1.1.2.2.2.2.2.2.2.2.2⟩)); replace HO818 := Aside0.mk (Kd.R_mono (ok' := fun k_ => some k_ ≠ (.slice Ao47 t792.length co47 : Value).ownBlock ∧ some k_ ≠ (.slice Ao48 t795.length co48 : Value).ownBlock ∧ some k_ ≠ (.slice Ao49 t798.length co49 : Value).ownBlock ∧ some k_ ≠ (.slice Ao65 t801.length co65 : Value).ownBlock ∧ some k_ ≠ (.slice Ao56 t810.length co56 : Value).ownBlock ∧ some k_ ≠ (.slice Ao59 t813.length co59 : Value).ownBlock ∧ some k_ ≠ (.slice Ao64 t820.length co64 : Value).ownBlock ∧ some k_ ≠ (.slice Ao74 t832.length co74 : Value).ownBlock ∧ some k_ ≠ (.slice Ao75 t835.length co75 : Value).ownBlock ∧ some k_ ≠ (.slice Ao76 t838.length co76 : Value).ownBlock) (Kd.R_keptB ((Kd.R_apart' HO818.out (Kd.R_typed HO809.out) (by decide))) hkp (fun k_ hk_ hs_ => (hk_.2) hs_)) (fun k_ hk_ => ⟨hk_.1.1.1, hk_.1.1.2.1, hk_.1.1.2.2.1, hk_.1.1.2.2.2.1, hk_.1.1.2.2.2.2.1, hk_.1.1.2.2.2.2.2.1, hk_.1.1.2.2.2.2.2.2.1, hk_.1.1.2.2.2.2.2.2.2.1, hk_.1.1.2.2.2.2.2.2.2.2.1, hk_.1.1.2.2.2.2.2.2.2.2.2⟩)); replace BK819 := Aside0.mk (blk_kept (kx_ BK819.out) hkp (fun hs_ => (fun e_ => (Kd.R_ne HO809.out BK819.out (by decide)) e_) hs_)); replace HO822 := Aside0.mk (Kd.R_mono (ok' := fun k_ => some k_ ≠ (.slice Ao47 t792.length co47 : Value).ownBlock ∧ some k_ ≠ (.slice Ao48 t795.length co48 : Value).ownBlock ∧ some k_ ≠ (.slice Ao49 t798.length co49 : Value).ownBlock ∧ some k_ ≠ (.slice Ao65 t801.length co65 : Value).ownBlock ∧ some k_ ≠ (.slice Ao56 t810.length co56 : Value).ownBlock ∧ some k_ ≠ (.slice Ao59 t813.length co59 : Value).ownBlock ∧ some k_ ≠ (.slice Ao60 t816.length co60 : Value).ownBlock ∧ some k_ ≠ (.slice Ao74 t832.length co74 : Value).ownBlock ∧ some k_ ≠ (.slice Ao75 t835.length co75 : Value).ownBlock ∧ some k_ ≠ (.slice Ao76 t838.length co76 : Value).ownBlock) (Kd.R_keptB ((Kd.R_apart' HO822.out (Kd.R_typed HO809.out) (by decide))) hkp (fun k_ hk_ hs_ => (hk_.2) hs_)) (fun k_ hk_ => ⟨hk_.1.1.1, hk_.1.1.2.1, hk_.1.1.2.2.1, hk_.1.1.2.2.2.1, hk_.1.1.2.2.2.2.1, hk_.1.1.2.2.2.2.2.1, hk_.1.1.2.2.2.2.2.2.1, hk_.1.1.2.2.2.2.2.2.2.1, hk_.1.1.2.2.2.2.2.2.2.2.1, hk_.1.1.2.2.2.2.2.2.2.2.2⟩)); replace HO826 := Aside0.mk (Kd.R_mono (ok' := fun k_ => some k_ ≠ (.slice Ao45 t786.length co45 : Value).ownBlock ∧ some k_ ≠ (.slice Ao46 t789.length co46 : Value).ownBlock ∧ some k_ ≠ (.slice Ao61 t804.length co61 : Value).ownBlock ∧ some k_ ≠ (.slice Ao62 t807.length co62 : Value).ownBlock ∧ some k_ ≠ (.slice Ao70 t828.length co70 : Value).ownBlock) (Kd.R_keptB (HO826.out) hkp (fun k_ hk_ hs_ => (hk_.2.2.2.1) hs_)) (fun k_ hk_ => ⟨hk_.1.1, hk_.1.2.1, hk_.1.2.2.1, hk_.1.2.2.2.1, hk_.1.2.2.2.2⟩)); replace HO830 := Aside0.mk (Kd.R_mono (ok' := fun k_ => some k_ ≠ (.slice Ao45 t786.length co45 : Value).ownBlock ∧ some k_ ≠ (.slice Ao46 t789.length co46 : Value).ownBlock ∧ some k_ ≠ (.slice Ao61 t804.length co61 : Value).ownBlock ∧ some k_ ≠ (.slice Ao62 t807.length co62 : Value).ownBlock ∧ some k_ ≠ (.slice Ao67 t824.length co67 : Value).ownBlock) (Kd.R_keptB (HO830.out) hkp (fun k_ hk_ hs_ => (hk_.2.2.2.1) hs_)) (fun k_ hk_ => ⟨hk_.1.1, hk_.1.2.1, hk_.1.2.2.1, hk_.1.2.2.2.1, hk_.1.2.2.2.2⟩)); replace HO834 := Aside0.mk (Kd.R_mono (ok' := fun k_ => some k_ ≠ (.slice Ao47 t792.length co47 : Value).ownBlock ∧ some k_ ≠ (.slice Ao48 t795.length co48 : Value).ownBlock ∧ some k_ ≠ (.slice Ao49 t798.length co49 : Value).ownBlock ∧ some k_ ≠ (.slice Ao65 t801.length co65 : Value).ownBlock ∧ some k_ ≠ (.slice Ao56 t810.length co56 : Value).ownBlock ∧ some k_ ≠ (.slice Ao59 t813.length co59 : Value).ownBlock ∧ some k_ ≠ (.slice Ao60 t816.length co60 : Value).ownBlock ∧ some k_ ≠ (.slice Ao64 t820.length co64 : Value).ownBlock ∧ some k_ ≠ (.slice Ao75 t835.length co75 : Value).ownBlock ∧ some k_ ≠ (.slice Ao76 t838.length co76 : Value).ownBlock) (Kd.R_keptB ((Kd.R_apart' HO834.out (Kd.R_typed HO809.out) (by decide))) hkp (fun k_ hk_ hs_ => (hk_.2) hs_)) (fun k_ hk_ => ⟨hk_.1.1.1, hk_.1.1.2.1, hk_.1.1.2.2.1, hk_.1.1.2.2.2.1, hk_.1.1.2.2.2.2.1, hk_.1.1.2.2.2.2.2.1, hk_.1.1.2.2.2.2.2.2.1, hk_.1.1.2.2.2.2.2.2.2.1, hk_.1.1.2.2.2.2.2.2.2.2.1, hk_.1.1.2.2.2.2.2.2.2.2.2⟩)); replace HO837 := Aside0.mk (Kd.R_mono (ok' := fun k_ => some k_ ≠ (.slice Ao47 t792.length co47 : Value).ownBlock ∧ some k_ ≠ (.slice Ao48 t795.length co48 : Value).ownBlock ∧ some k_ ≠ (.slice Ao49 t798.length co49 : Value).ownBlock ∧ some k_ ≠ (.slice Ao65 t801.length co65 : Value).ownBlock ∧ some k_ ≠ (.slice Ao56 t810.length co56 : Value).ownBlock ∧ some k_ ≠ (.slice Ao59 t813.length co59 : Value).ownBlock ∧ some k_ ≠ (.slice Ao60 t816.length co60 : Value).ownBlock ∧ some k_ ≠ (.slice Ao64 t820.length co64 : Value).ownBlock ∧ some k_ ≠ (.slice Ao74 t832.length co74 : Value).ownBlock ∧ some k_ ≠ (.slice Ao76 t838.length co76 : Value).ownBlock) (Kd.R_keptB ((Kd.R_apart' HO837.out (Kd.R_typed HO809.out) (by decide))) hkp (fun k_ hk_ hs_ => (hk_.2) hs_)) (fun k_ hk_ => ⟨hk_.1.1.1, hk_.1.1.2.1, hk_.1.1.2.2.1, hk_.1.1.2.2.2.1, hk_.1.1.2.2.2.2.1, hk_.1.1.2.2.2.2.2.1, hk_.1.1.2.2.2.2.2.2.1, hk_.1.1.2.2.2.2.2.2.2.1, hk_.1.1.2.2.2.2.2.2.2.2.1, hk_.1.1.2.2.2.2.2.2.2.2.2⟩)); replace HO840 := Aside0.mk (Kd.R_mono (ok' := fun k_ => some k_ ≠ (.slice Ao47 t792.length co47 : Value).ownBlock ∧ some k_ ≠ (.slice Ao48 t795.length co48 : Value).ownBlock ∧ some k_ ≠ (.slice Ao49 t798.length co49 : Value).ownBlock ∧ some k_ ≠ (.slice Ao65 t801.length co65 : Value).ownBlock ∧ some k_ ≠ (.slice Ao56 t810.length co56 : Value).ownBlock ∧ some k_ ≠ (.slice Ao59 t813.length co59 : Value).ownBlock ∧ some k_ ≠ (.slice Ao60 t816.length co60 : Value).ownBlock ∧ some k_ ≠ (.slice Ao64 t820.length co64 : Value).ownBlock ∧ some k_ ≠ (.slice Ao74 t832.length co74 : Value).ownBlock ∧ some k_ ≠ (.slice Ao75 t835.length co75 : Value).ownBlock) (Kd.R_keptB ((Kd.R_apart' HO840.out (Kd.R_typed HO809.out) (by decide))) hkp (fun k_ hk_ hs_ => (hk_.2) hs_)) (fun k_ hk_ => ⟨hk_.1.1.1, hk_.1.1.2.1, hk_.1.1.2.2.1, hk_.1.1.2.2.2.1, hk_.1.1.2.2.2.2.1, hk_.1.1.2.2.2.2.2.1, hk_.1.1.2.2.2.2.2.2.1, hk_.1.1.2.2.2.2.2.2.2.1, hk_.1.1.2.2.2.2.2.2.2.2.1, hk_.1.1.2.2.2.2.2.2.2.2.2⟩)); replace HO809 := Aside0.mk (Kd.R_reok rfl hy0 (fun k_ e_ => HO809.out.1 k_ e_)); replace HB := Aside0.mk (hb); (try clear hb); (try clear hkp); (try clear hy0); obtain ⟨hcz80_0, hcz80_1, hcz80_2, hfz80_0, hfz80_1, hfz80_2⟩ := bk3_ BK819) | ((with_reducible refine gate_callee (f := 30) rfl ?_); refine gL_ (some 76) Try.func30 #[.agg #[.slice Ao56 t810.length co56, .slice Ao59 t813.length co59, .slice Ao60 t816.length co60], .int .i64 t844] ?_; (with_reducible refine (laws_markCost.calls k (fun k_ => some k_ = (.slice Ao56 t810.length co56 : Value).ownBlock) (.slice Ao56 t810.length co56) t810 (fun k_ => some k_ = (.slice Ao59 t813.length co59 : Value).ownBlock) (.slice Ao59 t813.length co59) t813 (fun k_ => some k_ = (.slice Ao60 t816.length co60 : Value).ownBlock) (.slice Ao60 t816.length co60) t816 t844 t846 t847 t848 t849 w _ ?side1 ?side2 ?side3 ?side4 ?side5 ?side6 ?side7 ?side8 ?side9 ?side10 A36.out).mono ?_); (case side1 => repeat (first | (with_reducible first | exact HB.out | apply below_alloc | apply pw_below_drewN | apply below_drew1 | refine below_set ?_ GE782.out | refine below_set ?_ GE819.out) | exact HB.out)); (case side2 => exact Kd.R_tight rfl HO812.out); (case side3 => exact fun k_ e_ => (HO812.out.1 k_ e_.symm).2.2.2.2.1); (case side4 => exact fun k_ e_ => (HO812.out.1 k_ e_.symm).2.2.2.2.2.1); (case side5 => exact Kd.R_tight rfl HO815.out); (case side6 => exact fun k_ e_ => (HO815.out.1 k_ e_.symm).2.2.2.2.1); (case side7 => exact fun k_ e_ => (HO815.out.1 k_ e_.symm).2.2.2.2.2.1); (case side8 => exact Kd.R_tight rfl HO818.out); (case side9 => exact fun k_ e_ => (HO818.out.1 k_ e_.symm).2.2.2.2.1); (case side10 => exact fun k_ e_ => (HO818.out.1 k_ e_.symm).2.2.2.2.2.1); rintro e w81 ⟨rfl, hy0, hy1, hy2, hb, hkp⟩; refine ⟨_, rfl, ?_⟩; replace BK782 := Aside0.mk (blk_kept (kx_ BK782.out) hkp (fun hs_ => Or.elim hs_ (fun e_ => (fun e_ => (Kd.R_ne HO812.out BK782.out (by decide)) e_) e_) (fun e_ => Or.elim e_ (fun e_ => (fun e_ => (Kd.R_ne HO815.out BK782.out (by decide)) e_) e_) (fun e_ => (fun e_ => (Kd.R_ne HO818.out BK782.out (by decide)) e_) e_)))); replace HO788 := Aside0.mk (Kd.R_mono (ok' := fun k_ => some k_ ≠ (.slice Ao46 t789.length co46 : Value).ownBlock ∧ some k_ ≠ (.slice Ao61 t804.length co61 : Value).ownBlock ∧ some k_ ≠ (.slice Ao62 t807.length co62 : Value).ownBlock ∧ some k_ ≠ (.slice Ao67 t824.length co67 : Value).ownBlock ∧ some k_ ≠ (.slice Ao70 t828.length co70 : Value).ownBlock) (Kd.R_keptB ((Kd.R_apart' (Kd.R_apart' (Kd.R_apart' HO788.out (Kd.R_typed HO812.out) (by decide)) (Kd.R_typed HO815.out) (by decide)) (Kd.R_typed HO818.out) (by decide))) hkp (fun k_ hk_ hs_ => Or.elim hs_ (fun e_ => (hk_.1.1.2) e_) (fun e_ => Or.elim e_ (fun e_ => (hk_.1.2) e_) (fun e_ => (hk_.2) e_)))) (fun k_ hk_ => ⟨hk_.1.1.1.1.1, hk_.1.1.1.1.2.1, hk_.1.1.1.1.2.2.1, hk_.1.1.1.1.2.2.2.1, hk_.1.1.1.1.2.2.2.2⟩)); replace HO791 := Aside0.mk (Kd.R_mono (ok' := fun k_ => some k_ ≠ (.slice Ao45 t786.length co45 : Value).ownBlock ∧ some k_ ≠ (.slice Ao61 t804.length co61 : Value).ownBlock ∧ some k_ ≠ (.slice Ao62 t807.length co62 : Value).ownBlock ∧ some k_ ≠ (.slice Ao67 t824.length co67 : Value).ownBlock ∧ some k_ ≠ (.slice Ao70 t828.length co70 : Value).ownBlock) (Kd.R_keptB ((Kd.R_apart' (Kd.R_apart' (Kd.R_apart' HO791.out (Kd.R_typed HO812.out) (by decide)) (Kd.R_typed HO815.out) (by decide)) (Kd.R_typed HO818.out) (by decide))) hkp (fun k_ hk_ hs_ => Or.elim hs_ (fun e_ => (hk_.1.1.2) e_) (fun e_ => Or.elim e_ (fun e_ => (hk_.1.2) e_) (fun e_ => (hk_.2) e_)))) (fun k_ hk_ => ⟨hk_.1.1.1.1.1, hk_.1.1.1.1.2.1, hk_.1.1.1.1.2.2.1, hk_.1.1.1.1.2.2.2.1, hk_.1.1.1.1.2.2.2.2⟩)); replace HO794 := Aside0.mk (Kd.R_mono (ok' := fun k_ => some k_ ≠ (.slice Ao48 t795.length co48 : Value).ownBlock ∧ some k_ ≠ (.slice Ao49 t798.length co49 : Value).ownBlock ∧ some k_ ≠ (.slice Ao65 t801.length co65 : Value).ownBlock ∧ some k_ ≠ (.slice Ao56 t810.length co56 : Value).ownBlock ∧ some k_ ≠ (.slice Ao59 t813.length co59 : Value).ownBlock ∧ some k_ ≠ (.slice Ao60 t816.length co60 : Value).ownBlock ∧ some k_ ≠ (.slice Ao64 t820.length co64 : Value).ownBlock ∧ some k_ ≠ (.slice Ao74 t832.length co74 : Value).ownBlock ∧ some k_ ≠ (.slice Ao75 t835.length co75 : Value).ownBlock ∧ some k_ ≠ (.slice Ao76 t838.length co76 : Value).ownBlock) (Kd.R_keptB (HO794.out) hkp (fun k_ hk_ hs_ => Or.elim hs_ (fun e_ => (hk_.2.2.2.1) e_) (fun e_ => Or.elim e_ (fun e_ => (hk_.2.2.2.2.1) e_) (fun e_ => (hk_.2.2.2.2.2.1) e_)))) (fun k_ hk_ => ⟨hk_.1.1, hk_.1.2.1, hk_.1.2.2.1, hk_.1.2.2.2.1, hk_.1.2.2.2.2.1, hk_.1.2.2.2.2.2.1, hk_.1.2.2.2.2.2.2.1, hk_.1.2.2.2.2.2.2.2.1, hk_.1.2.2.2.2.2.2.2.2.1, hk_.1.2.2.2.2.2.2.2.2.2⟩)); replace HO797 := Aside0.mk (Kd.R_mono (ok' := fun k_ => some k_ ≠ (.slice Ao47 t792.length co47 : Value).ownBlock ∧ some k_ ≠ (.slice Ao49 t798.length co49 : Value).ownBlock ∧ some k_ ≠ (.slice Ao65 t801.length co65 : Value).ownBlock ∧ some k_ ≠ (.slice Ao56 t810.length co56 : Value).ownBlock ∧ some k_ ≠ (.slice Ao59 t813.length co59 : Value).ownBlock ∧ some k_ ≠ (.slice Ao60 t816.length co60 : Value).ownBlock ∧ some k_ ≠ (.slice Ao64 t820.length co64 : Value).ownBlock ∧ some k_ ≠ (.slice Ao74 t832.length co74 : Value).ownBlock ∧ some k_ ≠ (.slice Ao75 t835.length co75 : Value).ownBlock ∧ some k_ ≠ (.slice Ao76 t838.length co76 : Value).ownBlock) (Kd.R_keptB (HO797.out) hkp (fun k_ hk_ hs_ => Or.elim hs_ (fun e_ => (hk_.2.2.2.1) e_) (fun e_ => Or.elim e_ (fun e_ => (hk_.2.2.2.2.1) e_) (fun e_ => (hk_.2.2.2.2.2.1) e_)))) (fun k_ hk_ => ⟨hk_.1.1, hk_.1.2.1, hk_.1.2.2.1, hk_.1.2.2.2.1, hk_.1.2.2.2.2.1, hk_.1.2.2.2.2.2.1, hk_.1.2.2.2.2.2.2.1, hk_.1.2.2.2.2.2.2.2.1, hk_.1.2.2.2.2.2.2.2.2.1, hk_.1.2.2.2.2.2.2.2.2.2⟩)); replace HO800 := Aside0.mk (Kd.R_mono (ok' := fun k_ => some k_ ≠ (.slice Ao47 t792.length co47 : Value).ownBlock ∧ some k_ ≠ (.slice Ao48 t795.length co48 : Value).ownBlock ∧ some k_ ≠ (.slice Ao65 t801.length co65 : Value).ownBlock ∧ some k_ ≠ (.slice Ao56 t810.length co56 : Value).ownBlock ∧ some k_ ≠ (.slice Ao59 t813.length co59 : Value).ownBlock ∧ some k_ ≠ (.slice Ao60 t816.length co60 : Value).ownBlock ∧ some k_ ≠ (.slice Ao64 t820.length co64 : Value).ownBlock ∧ some k_ ≠ (.slice Ao74 t832.length co74 : Value).ownBlock ∧ some k_ ≠ (.slice Ao75 t835.length co75 : Value).ownBlock ∧ some k_ ≠ (.slice Ao76 t838.length co76 : Value).ownBlock) (Kd.R_keptB (HO800.out) hkp (fun k_ hk_ hs_ => Or.elim hs_ (fun e_ => (hk_.2.2.2.1) e_) (fun e_ => Or.elim e_ (fun e_ => (hk_.2.2.2.2.1) e_) (fun e_ => (hk_.2.2.2.2.2.1) e_)))) (fun k_ hk_ => ⟨hk_.1.1, hk_.1.2.1, hk_.1.2.2.1, hk_.1.2.2.2.1, hk_.1.2.2.2.2.1, hk_.1.2.2.2.2.2.1, hk_.1.2.2.2.2.2.2.1, hk_.1.2.2.2.2.2.2.2.1, hk_.1.2.2.2.2.2.2.2.2.1, hk_.1.2.2.2.2.2.2.2.2.2⟩)); replace HO803 := Aside0.mk (Kd.R_mono (ok' := fun k_ => some k_ ≠ (.slice Ao47 t792.length co47 : Value).ownBlock ∧ some k_ ≠ (.slice Ao48 t795.length co48 : Value).ownBlock ∧ some k_ ≠ (.slice Ao49 t798.length co49 : Value).ownBlock ∧ some k_ ≠ (.slice Ao56 t810.length co56 : Value).ownBlock ∧ some k_ ≠ (.slice Ao59 t813.length co59 : Value).ownBlock ∧ some k_ ≠ (.slice Ao60 t816.length co60 : Value).ownBlock ∧ some k_ ≠ (.slice Ao64 t820.length co64 : Value).ownBlock ∧ some k_ ≠ (.slice Ao74 t832.length co74 : Value).ownBlock ∧ some k_ ≠ (.slice Ao75 t835.length co75 : Value).ownBlock ∧ some k_ ≠ (.slice Ao76 t838.length co76 : Value).ownBlock) (Kd.R_keptB (HO803.out) hkp (fun k_ hk_ hs_ => Or.elim hs_ (fun e_ => (hk_.2.2.2.1) e_) (fun e_ => Or.elim e_ (fun e_ => (hk_.2.2.2.2.1) e_) (fun e_ => (hk_.2.2.2.2.2.1) e_)))) (fun k_ hk_ => ⟨hk_.1.1, hk_.1.2.1, hk_.1.2.2.1, hk_.1.2.2.2.1, hk_.1.2.2.2.2.1, hk_.1.2.2.2.2.2.1, hk_.1.2.2.2.2.2.2.1, hk_.1.2.2.2.2.2.2.2.1, hk_.1.2.2.2.2.2.2.2.2.1, hk_.1.2.2.2.2.2.2.2.2.2⟩)); replace HO806 := Aside0.mk (Kd.R_mono (ok' := fun k_ => some k_ ≠ (.slice Ao45 t786.length co45 : Value).ownBlock ∧ some k_ ≠ (.slice Ao46 t789.length co46 : Value).ownBlock ∧ some k_ ≠ (.slice Ao62 t807.length co62 : Value).ownBlock ∧ some k_ ≠ (.slice Ao67 t824.length co67 : Value).ownBlock ∧ some k_ ≠ (.slice Ao70 t828.length co70 : Value).ownBlock) (Kd.R_keptB ((Kd.R_apart' (Kd.R_apart' (Kd.R_apart' HO806.out (Kd.R_typed HO812.out) (by decide)) (Kd.R_typed HO815.out) (by decide)) (Kd.R_typed HO818.out) (by decide))) hkp (fun k_ hk_ hs_ => Or.elim hs_ (fun e_ => (hk_.1.1.2) e_) (fun e_ => Or.elim e_ (fun e_ => (hk_.1.2) e_) (fun e_ => (hk_.2) e_)))) (fun k_ hk_ => ⟨hk_.1.1.1.1.1, hk_.1.1.1.1.2.1, hk_.1.1.1.1.2.2.1, hk_.1.1.1.1.2.2.2.1, hk_.1.1.1.1.2.2.2.2⟩)); replace HO809 := Aside0.mk (Kd.R_mono (ok' := fun k_ => some k_ ≠ (.slice Ao45 t786.length co45 : Value).ownBlock ∧ some k_ ≠ (.slice Ao46 t789.length co46 : Value).ownBlock ∧ some k_ ≠ (.slice Ao61 t804.length co61 : Value).ownBlock ∧ some k_ ≠ (.slice Ao67 t824.length co67 : Value).ownBlock ∧ some k_ ≠ (.slice Ao70 t828.length co70 : Value).ownBlock) (Kd.R_keptB ((Kd.R_apart' (Kd.R_apart' (Kd.R_apart' HO809.out (Kd.R_typed HO812.out) (by decide)) (Kd.R_typed HO815.out) (by decide)) (Kd.R_typed HO818.out) (by decide))) hkp (fun k_ hk_ hs_ => Or.elim hs_ (fun e_ => (hk_.1.1.2) e_) (fun e_ => Or.elim e_ (fun e_ => (hk_.1.2) e_) (fun e_ => (hk_.2) e_)))) (fun k_ hk_ => ⟨hk_.1.1.1.1.1, hk_.1.1.1.1.2.1, hk_.1.1.1.1.2.2.1, hk_.1.1.1.1.2.2.2.1, hk_.1.1.1.1.2.2.2.2⟩)); replace BK819 := Aside0.mk (blk_kept (kx_ BK819.out) hkp (fun hs_ => Or.elim hs_ (fun e_ => (fun e_ => (Kd.R_ne HO812.out BK819.out (by decide)) e_) e_) (fun e_ => Or.elim e_ (fun e_ => (fun e_ => (Kd.R_ne HO815.out BK819.out (by decide)) e_) e_) (fun e_ => (fun e_ => (Kd.R_ne HO818.out BK819.out (by decide)) e_) e_)))); replace HO822 := Aside0.mk (Kd.R_mono (ok' := fun k_ => some k_ ≠ (.slice Ao47 t792.length co47 : Value).ownBlock ∧ some k_ ≠ (.slice Ao48 t795.length co48 : Value).ownBlock ∧ some k_ ≠ (.slice Ao49 t798.length co49 : Value).ownBlock ∧ some k_ ≠ (.slice Ao65 t801.length co65 : Value).ownBlock ∧ some k_ ≠ (.slice Ao56 t810.length co56 : Value).ownBlock ∧ some k_ ≠ (.slice Ao59 t813.length co59 : Value).ownBlock ∧ some k_ ≠ (.slice Ao60 t816.length co60 : Value).ownBlock ∧ some k_ ≠ (.slice Ao74 t832.length co74 : Value).ownBlock ∧ some k_ ≠ (.slice Ao75 t835.length co75 : Value).ownBlock ∧ some k_ ≠ (.slice Ao76 t838.length co76 : Value).ownBlock) (Kd.R_keptB (HO822.out) hkp (fun k_ hk_ hs_ => Or.elim hs_ (fun e_ => (hk_.2.2.2.2.1) e_) (fun e_ => Or.elim e_ (fun e_ => (hk_.2.2.2.2.2.1) e_) (fun e_ => (hk_.2.2.2.2.2.2.1) e_)))) (fun k_ hk_ => ⟨hk_.1.1, hk_.1.2.1, hk_.1.2.2.1, hk_.1.2.2.2.1, hk_.1.2.2.2.2.1, hk_.1.2.2.2.2.2.1, hk_.1.2.2.2.2.2.2.1, hk_.1.2.2.2.2.2.2.2.1, hk_.1.2.2.2.2.2.2.2.2.1, hk_.1.2.2.2.2.2.2.2.2.2⟩)); replace HO826 := Aside0.mk (Kd.R_mono (ok' := fun k_ => some k_ ≠ (.slice Ao45 t786.length co45 : Value).ownBlock ∧ some k_ ≠ (.slice Ao46 t789.length co46 : Value).ownBlock ∧ some k_ ≠ (.slice Ao61 t804.length co61 : Value).ownBlock ∧ some k_ ≠ (.slice Ao62 t807.length co62 : Value).ownBlock ∧ some k_ ≠ (.slice Ao70 t828.length co70 : Value).ownBlock) (Kd.R_keptB ((Kd.R_apart' (Kd.R_apart' (Kd.R_apart' HO826.out (Kd.R_typed HO812.out) (by decide)) (Kd.R_typed HO815.out) (by decide)) (Kd.R_typed HO818.out) (by decide))) hkp (fun k_ hk_ hs_ => Or.elim hs_ (fun e_ => (hk_.1.1.2) e_) (fun e_ => Or.elim e_ (fun e_ => (hk_.1.2) e_) (fun e_ => (hk_.2) e_)))) (fun k_ hk_ => ⟨hk_.1.1.1.1.1, hk_.1.1.1.1.2.1, hk_.1.1.1.1.2.2.1, hk_.1.1.1.1.2.2.2.1, hk_.1.1.1.1.2.2.2.2⟩)); replace HO830 := Aside0.mk (Kd.R_mono (ok' := fun k_ => some k_ ≠ (.slice Ao45 t786.length co45 : Value).ownBlock ∧ some k_ ≠ (.slice Ao46 t789.length co46 : Value).ownBlock ∧ some k_ ≠ (.slice Ao61 t804.length co61 : Value).ownBlock ∧ some k_ ≠ (.slice Ao62 t807.length co62 : Value).ownBlock ∧ some k_ ≠ (.slice Ao67 t824.length co67 : Value).ownBlock) (Kd.R_keptB ((Kd.R_apart' (Kd.R_apart' (Kd.R_apart' HO830.out (Kd.R_typed HO812.out) (by decide)) (Kd.R_typed HO815.out) (by decide)) (Kd.R_typed HO818.out) (by decide))) hkp (fun k_ hk_ hs_ => Or.elim hs_ (fun e_ => (hk_.1.1.2) e_) (fun e_ => Or.elim e_ (fun e_ => (hk_.1.2) e_) (fun e_ => (hk_.2) e_)))) (fun k_ hk_ => ⟨hk_.1.1.1.1.1, hk_.1.1.1.1.2.1, hk_.1.1.1.1.2.2.1, hk_.1.1.1.1.2.2.2.1, hk_.1.1.1.1.2.2.2.2⟩)); replace HO812 := Aside0.mk (Kd.R_reok rfl hy0 (fun k_ e_ => HO812.out.1 k_ e_)); replace HO815 := Aside0.mk (Kd.R_reok rfl hy1 (fun k_ e_ => HO815.out.1 k_ e_)); replace HO818 := Aside0.mk (Kd.R_reok rfl hy2 (fun k_ e_ => HO818.out.1 k_ e_)); replace HO834 := Aside0.mk (Kd.R_mono (ok' := fun k_ => some k_ ≠ (.slice Ao47 t792.length co47 : Value).ownBlock ∧ some k_ ≠ (.slice Ao48 t795.length co48 : Value).ownBlock ∧ some k_ ≠ (.slice Ao49 t798.length co49 : Value).ownBlock ∧ some k_ ≠ (.slice Ao65 t801.length co65 : Value).ownBlock ∧ some k_ ≠ (.slice Ao56 t810.length co56 : Value).ownBlock ∧ some k_ ≠ (.slice Ao59 t813.length co59 : Value).ownBlock ∧ some k_ ≠ (.slice Ao60 t816.length co60 : Value).ownBlock ∧ some k_ ≠ (.slice Ao64 t820.length co64 : Value).ownBlock ∧ some k_ ≠ (.slice Ao75 t835.length co75 : Value).ownBlock ∧ some k_ ≠ (.slice Ao76 t838.length co76 : Value).ownBlock) (Kd.R_keptB (HO834.out) hkp (fun k_ hk_ hs_ => Or.elim hs_ (fun e_ => (hk_.2.2.2.2.1) e_) (fun e_ => Or.elim e_ (fun e_ => (hk_.2.2.2.2.2.1) e_) (fun e_ => (hk_.2.2.2.2.2.2.1) e_)))) (fun k_ hk_ => ⟨hk_.1.1, hk_.1.2.1, hk_.1.2.2.1, hk_.1.2.2.2.1, hk_.1.2.2.2.2.1, hk_.1.2.2.2.2.2.1, hk_.1.2.2.2.2.2.2.1, hk_.1.2.2.2.2.2.2.2.1, hk_.1.2.2.2.2.2.2.2.2.1, hk_.1.2.2.2.2.2.2.2.2.2⟩)); replace HO837 := Aside0.mk (Kd.R_mono (ok' := fun k_ => some k_ ≠ (.slice Ao47 t792.length co47 : Value).ownBlock ∧ some k_ ≠ (.slice Ao48 t795.length co48 : Value).ownBlock ∧ some k_ ≠ (.slice Ao49 t798.length co49 : Value).ownBlock ∧ some k_ ≠ (.slice Ao65 t801.length co65 : Value).ownBlock ∧ some k_ ≠ (.slice Ao56 t810.length co56 : Value).ownBlock ∧ some k_ ≠ (.slice Ao59 t813.length co59 : Value).ownBlock ∧ some k_ ≠ (.slice Ao60 t816.length co60 : Value).ownBlock ∧ some k_ ≠ (.slice Ao64 t820.length co64 : Value).ownBlock ∧ some k_ ≠ (.slice Ao74 t832.length co74 : Value).ownBlock ∧ some k_ ≠ (.slice Ao76 t838.length co76 : Value).ownBlock) (Kd.R_keptB (HO837.out) hkp (fun k_ hk_ hs_ => Or.elim hs_ (fun e_ => (hk_.2.2.2.2.1) e_) (fun e_ => Or.elim e_ (fun e_ => (hk_.2.2.2.2.2.1) e_) (fun e_ => (hk_.2.2.2.2.2.2.1) e_)))) (fun k_ hk_ => ⟨hk_.1.1, hk_.1.2.1, hk_.1.2.2.1, hk_.1.2.2.2.1, hk_.1.2.2.2.2.1, hk_.1.2.2.2.2.2.1, hk_.1.2.2.2.2.2.2.1, hk_.1.2.2.2.2.2.2.2.1, hk_.1.2.2.2.2.2.2.2.2.1, hk_.1.2.2.2.2.2.2.2.2.2⟩)); replace HO840 := Aside0.mk (Kd.R_mono (ok' := fun k_ => some k_ ≠ (.slice Ao47 t792.length co47 : Value).ownBlock ∧ some k_ ≠ (.slice Ao48 t795.length co48 : Value).ownBlock ∧ some k_ ≠ (.slice Ao49 t798.length co49 : Value).ownBlock ∧ some k_ ≠ (.slice Ao65 t801.length co65 : Value).ownBlock ∧ some k_ ≠ (.slice Ao56 t810.length co56 : Value).ownBlock ∧ some k_ ≠ (.slice Ao59 t813.length co59 : Value).ownBlock ∧ some k_ ≠ (.slice Ao60 t816.length co60 : Value).ownBlock ∧ some k_ ≠ (.slice Ao64 t820.length co64 : Value).ownBlock ∧ some k_ ≠ (.slice Ao74 t832.length co74 : Value).ownBlock ∧ some k_ ≠ (.slice Ao75 t835.length co75 : Value).ownBlock) (Kd.R_keptB (HO840.out) hkp (fun k_ hk_ hs_ => Or.elim hs_ (fun e_ => (hk_.2.2.2.2.1) e_) (fun e_ => Or.elim e_ (fun e_ => (hk_.2.2.2.2.2.1) e_) (fun e_ => (hk_.2.2.2.2.2.2.1) e_)))) (fun k_ hk_ => ⟨hk_.1.1, hk_.1.2.1, hk_.1.2.2.1, hk_.1.2.2.2.1, hk_.1.2.2.2.2.1, hk_.1.2.2.2.2.2.1, hk_.1.2.2.2.2.2.2.1, hk_.1.2.2.2.2.2.2.2.1, hk_.1.2.2.2.2.2.2.2.2.1, hk_.1.2.2.2.2.2.2.2.2.2⟩)); replace HB := Aside0.mk (hb); (try clear hb); (try clear hkp); (try clear hy0); (try clear hy1); (try clear hy2)))
        (try simp only [Act.put, List.setIfInBounds_toArray, List.set_cons_zero, List.set_cons_succ])
        go_cut [84] (fun v84 wc => ∃ (kq : Nat) (x84_36 : Bool), v84 = .bool x84_36 ∧ Aside0 (laws_FnExactTreeDists.j0 kq l0 l1 t801 t820 x84_36 l2_0 l2_1 l2_2 = some true) ∧ Aside0 (kq ≤ k) ∧ Aside0 (Kd.R (Kd.int .i64) 3 wc w.heap.size (fun k_ => some k_ ≠ ((.slice Ao64 t820.length co64) : Value).ownBlock ∧ some k_ ≠ ((.slice Ao56 t810.length co56) : Value).ownBlock ∧ some k_ ≠ ((.slice Ao59 t813.length co59) : Value).ownBlock ∧ some k_ ≠ ((.slice Ao60 t816.length co60) : Value).ownBlock) (.slice Ao65 t801.length co65) t801) ∧ Aside0 (Kd.R (Kd.int .i64) 3 wc w.heap.size (fun k_ => some k_ ≠ ((.slice Ao65 t801.length co65) : Value).ownBlock ∧ some k_ ≠ ((.slice Ao56 t810.length co56) : Value).ownBlock ∧ some k_ ≠ ((.slice Ao59 t813.length co59) : Value).ownBlock ∧ some k_ ≠ ((.slice Ao60 t816.length co60) : Value).ownBlock) (.slice Ao64 t820.length co64) t820) ∧ Aside0 (Kd.R (Kd.int .i64) 3 wc w.heap.size (fun k_ => some k_ ≠ ((.slice Ao65 t801.length co65) : Value).ownBlock ∧ some k_ ≠ ((.slice Ao64 t820.length co64) : Value).ownBlock ∧ some k_ ≠ ((.slice Ao59 t813.length co59) : Value).ownBlock ∧ some k_ ≠ ((.slice Ao60 t816.length co60) : Value).ownBlock) (.slice Ao56 t810.length co56) t847) ∧ Aside0 (Kd.R (Kd.int .i64) 3 wc w.heap.size (fun k_ => some k_ ≠ ((.slice Ao65 t801.length co65) : Value).ownBlock ∧ some k_ ≠ ((.slice Ao64 t820.length co64) : Value).ownBlock ∧ some k_ ≠ ((.slice Ao56 t810.length co56) : Value).ownBlock ∧ some k_ ≠ ((.slice Ao60 t816.length co60) : Value).ownBlock) (.slice Ao59 t813.length co59) t848) ∧ Aside0 (Kd.R (Kd.int .i64) 3 wc w.heap.size (fun k_ => some k_ ≠ ((.slice Ao65 t801.length co65) : Value).ownBlock ∧ some k_ ≠ ((.slice Ao64 t820.length co64) : Value).ownBlock ∧ some k_ ≠ ((.slice Ao56 t810.length co56) : Value).ownBlock ∧ some k_ ≠ ((.slice Ao59 t813.length co59) : Value).ownBlock) (.slice Ao60 t816.length co60) t849) ∧ Aside0 (wc.heap[gb782]? = some (.cells #[(.slice A2_0 l2_0.length c2_0), (.slice A2_1 l2_1.length c2_1), (.slice A2_2 l2_2.length c2_2)] 25 (0, 0))) ∧ Aside0 (wc.heap[gb819]? = some (.cells #[(.slice Ao56 t810.length co56), (.slice Ao59 t813.length co59), (.slice Ao60 t816.length co60)] 31 (0, 0))) ∧ Aside0 (Below w.heap.size w wc))
        case first =>
         have H := HC37.out
         clear HC37
         by_cases c82 : t846 < 0
         ·rw [if_pos c82] at H
          have c82b0 : decide (t846 < 0) = true := decide_eq_true c82
          clear c82
          (first | rw [c82b0] | (simp only [i64_w, i32_w]; rw [c82b0]) | skip)
          have H' := Aside0.mk H
          clear H
          go_wp2
          go_meet
          case rel => exact ⟨_, (true), eb_, H', ⟨by first | omega | exact Nat.le_refl _⟩, ⟨rx_ (Kd.R_mono HO803.out (fun _ hk => ⟨hk.2.2.2.2.2.2.1, ⟨hk.2.2.2.1, ⟨hk.2.2.2.2.1, hk.2.2.2.2.2.1⟩⟩⟩))⟩, ⟨rx_ (Kd.R_mono HO822.out (fun _ hk => ⟨hk.2.2.2.1, ⟨hk.2.2.2.2.1, ⟨hk.2.2.2.2.2.1, hk.2.2.2.2.2.2.1⟩⟩⟩))⟩, ⟨rx_ (Kd.R_mono HO812.out (fun _ hk => ⟨hk.2.2.2.1, ⟨hk.2.2.2.2.2.2.1, ⟨hk.2.2.2.2.1, hk.2.2.2.2.2.1⟩⟩⟩))⟩, ⟨rx_ (Kd.R_mono HO815.out (fun _ hk => ⟨hk.2.2.2.1, ⟨hk.2.2.2.2.2.2.1, ⟨hk.2.2.2.2.1, hk.2.2.2.2.2.1⟩⟩⟩))⟩, ⟨rx_ (Kd.R_mono HO818.out (fun _ hk => ⟨hk.2.2.2.1, ⟨hk.2.2.2.2.2.2.1, ⟨hk.2.2.2.2.1, hk.2.2.2.2.2.1⟩⟩⟩))⟩, ⟨kx_ BK782.out⟩, ⟨kx_ BK819.out⟩, bl_ HB⟩
         ·rw [if_neg c82] at H
          have c82b0 : decide (t846 < 0) = false := decide_eq_false c82
          clear c82
          (first | rw [c82b0] | (simp only [i64_w, i32_w]; rw [c82b0]) | skip)
          replace H := Option.bind_eq_some_iff.mp H
          obtain ⟨t850, A830, H⟩ := H
          replace H : (laws_FnExactTreeDists.j0 k l0 l1 t801 t820 (!t850) l2_0 l2_1 l2_2) = some true := H
          have A83 := Aside0.mk A830
          clear A830
          have H' := Aside0.mk H
          clear H
          go_wp2_with (first | (go_at_call 28; (with_reducible refine (laws_eqIntS.calls k _ _ t820 _ _ t801 t850 _ (cc_ (Kd.R_reads' HO822.out).2.2) ((Kd.R_reads' HO822.out).2.1) (cc_ (Kd.R_reads' HO803.out).2.2) ((Kd.R_reads' HO803.out).2.1) A83.out).mono ?_); rintro e w' ⟨rfl, ⟨nd, rfl⟩⟩))
          go_meet
          case rel => exact ⟨_, (!t850), eb_, H', ⟨by first | omega | exact Nat.le_refl _⟩, ⟨rx_ (Kd.R_mono HO803.out (fun _ hk => ⟨hk.2.2.2.2.2.2.1, ⟨hk.2.2.2.1, ⟨hk.2.2.2.2.1, hk.2.2.2.2.2.1⟩⟩⟩))⟩, ⟨rx_ (Kd.R_mono HO822.out (fun _ hk => ⟨hk.2.2.2.1, ⟨hk.2.2.2.2.1, ⟨hk.2.2.2.2.2.1, hk.2.2.2.2.2.2.1⟩⟩⟩))⟩, ⟨rx_ (Kd.R_mono HO812.out (fun _ hk => ⟨hk.2.2.2.1, ⟨hk.2.2.2.2.2.2.1, ⟨hk.2.2.2.2.1, hk.2.2.2.2.2.1⟩⟩⟩))⟩, ⟨rx_ (Kd.R_mono HO815.out (fun _ hk => ⟨hk.2.2.2.1, ⟨hk.2.2.2.2.2.2.1, ⟨hk.2.2.2.2.1, hk.2.2.2.2.2.1⟩⟩⟩))⟩, ⟨rx_ (Kd.R_mono HO818.out (fun _ hk => ⟨hk.2.2.2.1, ⟨hk.2.2.2.2.2.2.1, ⟨hk.2.2.2.2.1, hk.2.2.2.2.2.1⟩⟩⟩))⟩, ⟨kx_ BK782.out⟩, ⟨kx_ BK819.out⟩, bl_ HB⟩
        case rest =>
         clear HC37
         try clear c1
         try clear c2
         try clear p2
         try clear c3
         try clear c5
         try clear c7
         try clear c8
         try clear c12
         try clear c13
         try clear c15
         try clear c16
         try clear c18
         try clear c19
         try clear c24
         try clear c26
         try clear c27
         try clear c28
         try clear c29
         try clear c30
         try clear c33
         try clear c57
         try clear c82
         try clear c82b0
         try clear hcz39_0
         try clear hcz39_1
         try clear hcz39_2
         try clear hcz53_0
         try clear hcz53_1
         try clear hcz53_2
         try clear hcz58_0
         try clear hcz58_1
         try clear hcz58_2
         try clear hcz80_0
         try clear hcz80_1
         try clear hcz80_2
         try clear hfz39_0
         try clear hfz39_1
         try clear hfz39_2
         try clear hfz53_0
         try clear hfz53_1
         try clear hfz53_2
         try clear hfz58_0
         try clear hfz58_1
         try clear hfz58_2
         try clear hfz80_0
         try clear hfz80_1
         try clear hfz80_2
         obtain ⟨kq, x84_36, rfl, HA, HJ36, HO_8, HO_12, HO_820000, HO_820001, HO_820002, BK782, BK819, HB⟩ := hcut
         have hl820000_36 := (Kd.R_reads' HO_820000.out).1
         rw [hl820000_36] at HO_820000
         (try simp only [hl820000_36])
         (try simp only [hl820000_36] at BK782)
         (try simp only [hl820000_36] at BK819)
         (try simp only [hl820000_36] at HO_8)
         (try simp only [hl820000_36] at HO_12)
         (try simp only [hl820000_36] at HO_820001)
         (try simp only [hl820000_36] at HO_820002)
         have hl820001_36 := (Kd.R_reads' HO_820001.out).1
         rw [hl820001_36] at HO_820001
         (try simp only [hl820001_36])
         (try simp only [hl820001_36] at BK782)
         (try simp only [hl820001_36] at BK819)
         (try simp only [hl820001_36] at HO_8)
         (try simp only [hl820001_36] at HO_12)
         (try simp only [hl820001_36] at HO_820000)
         (try simp only [hl820001_36] at HO_820002)
         have hl820002_36 := (Kd.R_reads' HO_820002.out).1
         rw [hl820002_36] at HO_820002
         (try simp only [hl820002_36])
         (try simp only [hl820002_36] at BK782)
         (try simp only [hl820002_36] at BK819)
         (try simp only [hl820002_36] at HO_8)
         (try simp only [hl820002_36] at HO_12)
         (try simp only [hl820002_36] at HO_820000)
         (try simp only [hl820002_36] at HO_820001)
         cases kq with
         | zero => exact absurd HA.out (by simp [laws_FnExactTreeDists.j0])
         | succ kj36 =>
          have H := HA.out
          clear HA
          simp only [laws_FnExactTreeDists.j0] at H
          by_cases c84 : x84_36 = true
          ·subst c84
           have H1 : (some false) = some true := by rw [if_pos rfl] at H; exact H
           clear H
           have H := H1
           clear H1
           exact absurd H (by simp)
          ·replace c84 := Bool.eq_false_iff.mpr c84
           subst c84
           have H1 : ((laws_markIntS.f kj36 t820 1).bind fun bt851 => ((laws_heldIntS.f kj36 bt851.2 1).bind fun t853 => (if t853 < 0 then (some false) else (if t853 = bt851.1 then ((laws_toNodeS.f kj36 l0).bind fun t854 => ((laws_toNodeS.f kj36 l1).bind fun t857 => ((laws_toCost.f kj36 l2_0 l2_1 l2_2).bind fun bt860 => ((impl_TreeDists.f kj36 t854 t857 bt860.1 bt860.2.1 bt860.2.2).bind fun t869 => ((laws_eqIntS.f kj36 t869 t801).bind fun t872 => (if t872 = true then ((laws_heldIntS.f kj36 bt851.2 1).bind fun t873 => (if t873 < 0 then (some false) else (if t873 = bt851.1 then (some true) else (some false)))) else (some false))))))) else (some false))))) = some true := by rw [if_neg (show ¬ (false = true) by decide)] at H; exact H
           clear H
           have H := H1
           clear H1
           replace H := Option.bind_eq_some_iff.mp H
           obtain ⟨⟨t851, t852⟩, A850, H⟩ := H
           try dsimp only at H
           have A85 := Aside0.mk A850
           clear A850
           replace H := Option.bind_eq_some_iff.mp H
           obtain ⟨t853, A860, H⟩ := H
           try dsimp only at H
           have A86 := Aside0.mk A860
           clear A860
           by_cases c87 : t853 < 0
           ·rw [if_pos c87] at H
            have c87b0 : decide (t853 < 0) = true := decide_eq_true c87
            clear c87
            exact absurd H (by simp)
           ·rw [if_neg c87] at H
            have c87b0 : decide (t853 < 0) = false := decide_eq_false c87
            clear c87
            by_cases c89 : t853 = t851
            ·rw [if_pos c89] at H
             have c89b0 : (t853 == t851) = true := beq_iff_eq.mpr c89
             have c89b1 : (t853 != t851) = false := bne_eq_false_iff_eq.mpr c89
             clear c89
             replace H := Option.bind_eq_some_iff.mp H
             obtain ⟨t854, A900, H⟩ := H
             try dsimp only at H
             have A90 := Aside0.mk A900
             clear A900
             replace H := Option.bind_eq_some_iff.mp H
             obtain ⟨t857, A910, H⟩ := H
             try dsimp only at H
             have A91 := Aside0.mk A910
             clear A910
             replace H := Option.bind_eq_some_iff.mp H
             obtain ⟨⟨t860, t863, t866⟩, A920, H⟩ := H
             try dsimp only at H
             have A92 := Aside0.mk A920
             clear A920
             replace H := Option.bind_eq_some_iff.mp H
             obtain ⟨t869, A930, H⟩ := H
             try dsimp only at H
             have A93 := Aside0.mk A930
             clear A930
             replace H := Option.bind_eq_some_iff.mp H
             obtain ⟨t872, A940, H⟩ := H
             try dsimp only at H
             have A94 := Aside0.mk A940
             clear A940
             by_cases c95 : t872 = true
             ·subst c95
              have H1 : ((laws_heldIntS.f kj36 t852 1).bind fun t873 => (if t873 < 0 then (some false) else (if t873 = t851 then (some true) else (some false)))) = some true := by rw [if_pos rfl] at H; exact H
              clear H
              have H := H1
              clear H1
              replace H := Option.bind_eq_some_iff.mp H
              obtain ⟨t873, A960, H⟩ := H
              try dsimp only at H
              have A96 := Aside0.mk A960
              clear A960
              by_cases c97 : t873 < 0
              ·rw [if_pos c97] at H
               have c97b0 : decide (t873 < 0) = true := decide_eq_true c97
               clear c97
               exact absurd H (by simp)
              ·rw [if_neg c97] at H
               have c97b0 : decide (t873 < 0) = false := decide_eq_false c97
               clear c97
               by_cases c110 : t873 = t851
               ·rw [if_pos c110] at H
                have c110b0 : (t873 == t851) = true := beq_iff_eq.mpr c110
                have c110b1 : (t873 != t851) = false := bne_eq_false_iff_eq.mpr c110
                clear c110
                clear H
                try go_wp2_with (first | ((with_reducible refine gate_callee (f := 31) rfl ?_); refine gL_ (some 87) Try.func31 #[.slice Ao64 t820.length co64, .int .i64 1] ?_; (with_reducible refine (laws_markIntS.calls kj36 (fun k_ => some k_ = (.slice Ao64 t820.length co64 : Value).ownBlock) (.slice Ao64 t820.length co64) t820 1 t851 t852 w _ ?side1 ?side2 A85.out).mono ?_); (case side1 => repeat (first | (with_reducible first | exact HB.out | apply below_alloc | apply pw_below_drewN | apply below_drew1 | refine below_set ?_ GE782.out | refine below_set ?_ GE819.out) | exact HB.out)); (case side2 => exact Kd.R_tight rfl HO_12.out); rintro e w111 ⟨rfl, hy0, hb, hkp⟩; refine ⟨_, rfl, ?_⟩; replace HO_8 := Aside0.mk (Kd.R_mono (ok' := fun k_ => some k_ ≠ (.slice Ao64 t820.length co64 : Value).ownBlock ∧ some k_ ≠ (.slice Ao56 t847.length co56 : Value).ownBlock ∧ some k_ ≠ (.slice Ao59 t848.length co59 : Value).ownBlock ∧ some k_ ≠ (.slice Ao60 t849.length co60 : Value).ownBlock) (Kd.R_keptB (HO_8.out) hkp (fun k_ hk_ hs_ => (hk_.1) hs_)) (fun k_ hk_ => ⟨hk_.1.1, hk_.1.2.1, hk_.1.2.2.1, hk_.1.2.2.2⟩)); replace HO_820000 := Aside0.mk (Kd.R_mono (ok' := fun k_ => some k_ ≠ (.slice Ao65 t801.length co65 : Value).ownBlock ∧ some k_ ≠ (.slice Ao64 t820.length co64 : Value).ownBlock ∧ some k_ ≠ (.slice Ao59 t848.length co59 : Value).ownBlock ∧ some k_ ≠ (.slice Ao60 t849.length co60 : Value).ownBlock) (Kd.R_keptB (HO_820000.out) hkp (fun k_ hk_ hs_ => (hk_.2.1) hs_)) (fun k_ hk_ => ⟨hk_.1.1, hk_.1.2.1, hk_.1.2.2.1, hk_.1.2.2.2⟩)); replace HO_820001 := Aside0.mk (Kd.R_mono (ok' := fun k_ => some k_ ≠ (.slice Ao65 t801.length co65 : Value).ownBlock ∧ some k_ ≠ (.slice Ao64 t820.length co64 : Value).ownBlock ∧ some k_ ≠ (.slice Ao56 t847.length co56 : Value).ownBlock ∧ some k_ ≠ (.slice Ao60 t849.length co60 : Value).ownBlock) (Kd.R_keptB (HO_820001.out) hkp (fun k_ hk_ hs_ => (hk_.2.1) hs_)) (fun k_ hk_ => ⟨hk_.1.1, hk_.1.2.1, hk_.1.2.2.1, hk_.1.2.2.2⟩)); replace HO_820002 := Aside0.mk (Kd.R_mono (ok' := fun k_ => some k_ ≠ (.slice Ao65 t801.length co65 : Value).ownBlock ∧ some k_ ≠ (.slice Ao64 t820.length co64 : Value).ownBlock ∧ some k_ ≠ (.slice Ao56 t847.length co56 : Value).ownBlock ∧ some k_ ≠ (.slice Ao59 t848.length co59 : Value).ownBlock) (Kd.R_keptB (HO_820002.out) hkp (fun k_ hk_ hs_ => (hk_.2.1) hs_)) (fun k_ hk_ => ⟨hk_.1.1, hk_.1.2.1, hk_.1.2.2.1, hk_.1.2.2.2⟩)); replace BK782 := Aside0.mk (blk_kept (kx_ BK782.out) hkp (fun hs_ => (fun e_ => (Kd.R_ne HO_12.out BK782.out (by decide)) e_) hs_)); replace BK819 := Aside0.mk (blk_kept (kx_ BK819.out) hkp (fun hs_ => (fun e_ => (Kd.R_ne HO_12.out BK819.out (by decide)) e_) hs_)); replace HO_12 := Aside0.mk (Kd.R_reok rfl hy0 (fun k_ e_ => HO_12.out.1 k_ e_)); replace HB := Aside0.mk (hb); (try clear hb); (try clear hkp); (try clear hy0)) | ((with_reducible refine gate_callee (f := 32) rfl ?_); refine goesL_ (some 90) rfl rfl Try.func32 (by kernel_rfl) rfl #[.slice Ao64 t852.length co64, .int .i64 1] rfl (by (try simp only [List.map_toArray, List.map_cons, List.map_nil]); first | done | (rw [show t852.length = t820.length from (Kd.R_reads' HO_12.out).1.symm] <;> rfl) | rfl | (simp only [List.length_drop, List.length_take]; rfl)) ?_; (with_reducible refine (laws_heldIntS.calls kj36 _ _ t852 1 t853 _ ?side1 ?side2 A86.out).mono ?_); (case side1 => exact cc_ (Kd.R_reads' HO_12.out).2.2); (case side2 => rw [show t852.length = t820.length from (Kd.R_reads' HO_12.out).1.symm]; exact (Kd.R_reads' HO_12.out).2.1); rintro e w' ⟨rfl, ⟨nd, rfl⟩⟩; refine ⟨_, rfl, ?_⟩))
                (try (rw [drewN_self w111]; generalize hq_ : World.drewN w111 _ = w111; have n0_ : Aside0 (Kd.R (Kd.int .i64) 3 w111 w.heap.size (fun k_ => some k_ ≠ (.slice Ao65 t801.length co65 : Value).ownBlock ∧ some k_ ≠ (.slice Ao56 t847.length co56 : Value).ownBlock ∧ some k_ ≠ (.slice Ao59 t848.length co59 : Value).ownBlock ∧ some k_ ≠ (.slice Ao60 t849.length co60 : Value).ownBlock) (.slice Ao64 t820.length co64) t852) := ⟨by rw [← hq_]; exact (rx_ HO_12.out)⟩; have n1_ : Aside0 (Kd.R (Kd.int .i64) 3 w111 w.heap.size (fun k_ => some k_ ≠ (.slice Ao64 t820.length co64 : Value).ownBlock ∧ some k_ ≠ (.slice Ao56 t847.length co56 : Value).ownBlock ∧ some k_ ≠ (.slice Ao59 t848.length co59 : Value).ownBlock ∧ some k_ ≠ (.slice Ao60 t849.length co60 : Value).ownBlock) (.slice Ao65 t801.length co65) t801) := ⟨by rw [← hq_]; exact (rx_ HO_8.out)⟩; have n2_ : Aside0 (Kd.R (Kd.int .i64) 3 w111 w.heap.size (fun k_ => some k_ ≠ (.slice Ao64 t820.length co64 : Value).ownBlock ∧ some k_ ≠ (.slice Ao65 t801.length co65 : Value).ownBlock ∧ some k_ ≠ (.slice Ao59 t848.length co59 : Value).ownBlock ∧ some k_ ≠ (.slice Ao60 t849.length co60 : Value).ownBlock) (.slice Ao56 t847.length co56) t847) := ⟨by rw [← hq_]; exact (rx_ (Kd.R_mono HO_820000.out (fun _ hk => ⟨hk.2.1, ⟨hk.1, ⟨hk.2.2.1, hk.2.2.2⟩⟩⟩)))⟩; have n3_ : Aside0 (Kd.R (Kd.int .i64) 3 w111 w.heap.size (fun k_ => some k_ ≠ (.slice Ao64 t820.length co64 : Value).ownBlock ∧ some k_ ≠ (.slice Ao65 t801.length co65 : Value).ownBlock ∧ some k_ ≠ (.slice Ao56 t847.length co56 : Value).ownBlock ∧ some k_ ≠ (.slice Ao60 t849.length co60 : Value).ownBlock) (.slice Ao59 t848.length co59) t848) := ⟨by rw [← hq_]; exact (rx_ (Kd.R_mono HO_820001.out (fun _ hk => ⟨hk.2.1, ⟨hk.1, ⟨hk.2.2.1, hk.2.2.2⟩⟩⟩)))⟩; have n4_ : Aside0 (Kd.R (Kd.int .i64) 3 w111 w.heap.size (fun k_ => some k_ ≠ (.slice Ao64 t820.length co64 : Value).ownBlock ∧ some k_ ≠ (.slice Ao65 t801.length co65 : Value).ownBlock ∧ some k_ ≠ (.slice Ao56 t847.length co56 : Value).ownBlock ∧ some k_ ≠ (.slice Ao59 t848.length co59 : Value).ownBlock) (.slice Ao60 t849.length co60) t849) := ⟨by rw [← hq_]; exact (rx_ (Kd.R_mono HO_820002.out (fun _ hk => ⟨hk.2.1, ⟨hk.1, ⟨hk.2.2.1, hk.2.2.2⟩⟩⟩)))⟩; have n5_ : Aside0 (w111.heap[gb782]? = some (.cells #[.slice A2_0 l2_0.length c2_0, .slice A2_1 l2_1.length c2_1, .slice A2_2 l2_2.length c2_2] 25 (0, 0))) := ⟨by rw [← hq_]; exact (kx_ BK782.out)⟩; have n6_ : Aside0 (w111.heap[gb819]? = some (.cells #[.slice Ao56 t847.length co56, .slice Ao59 t848.length co59, .slice Ao60 t849.length co60] 31 (0, 0))) := ⟨by rw [← hq_]; exact (kx_ BK819.out)⟩; have n7_ : Aside0 (Below w.heap.size w w111) := ⟨by rw [← hq_]; exact ((bl_ HB).out)⟩; clear HO_12 HO_8 HO_820000 HO_820001 HO_820002 BK782 BK819 HB hq_; have HO_12 := n0_; have HO_8 := n1_; have HO_820000 := n2_; have HO_820001 := n3_; have HO_820002 := n4_; have BK782 := n5_; have BK819 := n6_; have HB := n7_; clear n0_ n1_ n2_ n3_ n4_ n5_ n6_ n7_))
                have n0_ := Aside0.mk (Kd.R_drew HO_8.out)
                have n1_ := Aside0.mk (Kd.R_drew HO_12.out)
                have n2_ := Aside0.mk (Kd.R_drew HO_820000.out)
                have n3_ := Aside0.mk (Kd.R_drew HO_820001.out)
                have n4_ := Aside0.mk (Kd.R_drew HO_820002.out)
                have n5_ := Aside0.mk (blk_drew BK782.out)
                have n6_ := Aside0.mk (blk_drew BK819.out)
                have n7_ := Aside0.mk (below_drew1 HB.out)
                clear HO_8
                clear HO_12
                clear HO_820000
                clear HO_820001
                clear HO_820002
                clear BK782
                clear BK819
                clear HB
                have HO_8 := n0_
                have HO_12 := n1_
                have HO_820000 := n2_
                have HO_820001 := n3_
                have HO_820002 := n4_
                have BK782 := n5_
                have BK819 := n6_
                have HB := n7_
                clear n0_ n1_ n2_ n3_ n4_ n5_ n6_ n7_
                refine start_ (n := 8) (S := fun w' => w'.cell? ⟨gb782, 0, none⟩ = some (.slice A2_0 l2_0.length c2_0) ∧ w'.cell? ⟨gb782, 1, none⟩ = some (.slice A2_1 l2_1.length c2_1) ∧ w'.cell? ⟨gb782, 2, none⟩ = some (.slice A2_2 l2_2.length c2_2)) (ds := []) (ba_ 8 0) (by kernel_rfl) rfl rfl ⟨(blk_cell BK782.out 0).trans rfl, (blk_cell BK782.out 1).trans rfl, (blk_cell BK782.out 2).trans rfl⟩ (fun hHeld => ?_); refine with_tabW laws_FnExactTreeDists.tab38 laws_FnExactTreeDists.bits38 (fun HT_ HW_ => ?_)
                generalize w111.drew = w112 at HO_8 HO_12 HO_820000 HO_820001 HO_820002 BK782 BK819 HB hHeld ⊢
                refine pu_ 0 (some 96) (ba_ 8 1) rfl rfl (any_of HT_.out (by kernel_rfl)) ?_
                refine pu_ 2 (some 98) (ba_ 8 5) rfl rfl (any_of HT_.out (by kernel_rfl)) ?_
                refine ta_ 4 (some 100) (ba_ 8 21) rfl rfl (take_ofW HT_.out HW_.out (by kernel_rfl)) hHeld (by rintro w' ⟨s0, s1, s2⟩; go_simp; with_reducible rfl) ?_
                refine one_ (i := 1) (N := some 97) (ba_ 8 23) rfl rfl (one_of HT_.out (by kernel_rfl)) (by decide) (fun K hK => ?_)
                refine goes_ Try.func15 (by kernel_rfl) rfl #[.slice A0 l0.length c0] (by rfl) rfl rfl (by (try simp only [List.map_toArray, List.map_cons, List.map_nil]); first | done | rfl | (simp only [List.length_drop, List.length_take]; rfl)) ?_
                with_reducible refine (laws_toNodeS.calls kj36 _ _ l0 t854 _ ?side1 ?side2 A90.out).mono ?_
                (case side1 => exact cx_ HR0 HB)
                (case side2 => exact HC0.out)
                rintro e w113 ⟨v855, rfl, ho0, hb⟩
                refine ⟨_, rfl, ?_⟩
                have n0_ := tR_ HO_8 hb
                have n1_ := tR_ HO_12 hb
                have n2_ := tR_ HO_820000 hb
                have n3_ := tR_ HO_820001 hb
                have n4_ := tR_ HO_820002 hb
                have n5_ := Aside0.mk (Kd.R_lower ho0 (bs_ HB))
                have n6_ := tK_ BK782 hb
                have n7_ := tK_ BK819 hb
                have n8_ := tB_ HB hb
                clear HO_8
                clear HO_12
                clear HO_820000
                clear HO_820001
                clear HO_820002
                clear BK782
                clear BK819
                clear HB
                have HO_8 := n0_
                have HO_12 := n1_
                have HO_820000 := n2_
                have HO_820001 := n3_
                have HO_820002 := n4_
                have HO856 := n5_
                have BK782 := n6_
                have BK819 := n7_
                have HB := n8_
                clear n0_ n1_ n2_ n3_ n4_ n5_ n6_ n7_ n8_
                (try clear hb)
                (try clear hb2)
                (try clear hk)
                (try clear hi)
                (try clear ho0)
                refine hK.out _ _ ⟨(blk_cell BK782.out 0).trans rfl, (blk_cell BK782.out 1).trans rfl, (blk_cell BK782.out 2).trans rfl⟩ (fun hHeld => ?_)
                clear hK K
                refine norm_ (a' := ?_) ?_ ?_
                rotate_left
                ·show Act.put _ (some 97) _ = _
                 simp only [Act.put, List.setIfInBounds_toArray, List.set_cons_zero, List.set_cons_succ, i64_w, i32_w]
                 rfl
                refine one_ (i := 3) (N := some 99) (ba_ 8 31) rfl rfl (one_of HT_.out (by kernel_rfl)) (by decide) (fun K hK => ?_)
                refine goes_ Try.func15 (by kernel_rfl) rfl #[.slice A1 l1.length c1] (by rfl) rfl rfl (by (try simp only [List.map_toArray, List.map_cons, List.map_nil]); first | done | rfl | (simp only [List.length_drop, List.length_take]; rfl)) ?_
                with_reducible refine (laws_toNodeS.calls kj36 _ _ l1 t857 _ ?side1 ?side2 A91.out).mono ?_
                (case side1 => exact cx_ HR1 HB)
                (case side2 => exact HC1.out)
                rintro e w114 ⟨v858, rfl, ho0, hb⟩
                refine ⟨_, rfl, ?_⟩
                have n0_ := tR_ HO_8 hb
                have n1_ := tR_ HO_12 hb
                have n2_ := tR_ HO_820000 hb
                have n3_ := tR_ HO_820001 hb
                have n4_ := tR_ HO_820002 hb
                have n5_ := Aside0.mk (Kd.R_elder' (rx_ HO856.out) (Kd.R_base ho0) hb)
                have n6_ := Aside0.mk (Kd.R_lower (Kd.R_new' ho0 (Kd.R_lt (rx_ HO856.out))) (bs_ HB))
                have n7_ := tK_ BK782 hb
                have n8_ := tK_ BK819 hb
                have n9_ := tB_ HB hb
                clear HO_8
                clear HO_12
                clear HO_820000
                clear HO_820001
                clear HO_820002
                clear HO856
                clear BK782
                clear BK819
                clear HB
                have HO_8 := n0_
                have HO_12 := n1_
                have HO_820000 := n2_
                have HO_820001 := n3_
                have HO_820002 := n4_
                have HO856 := n5_
                have HO859 := n6_
                have BK782 := n7_
                have BK819 := n8_
                have HB := n9_
                clear n0_ n1_ n2_ n3_ n4_ n5_ n6_ n7_ n8_ n9_
                (try clear hb)
                (try clear hb2)
                (try clear hk)
                (try clear hi)
                (try clear ho0)
                refine hK.out _ _ ⟨(blk_cell BK782.out 0).trans rfl, (blk_cell BK782.out 1).trans rfl, (blk_cell BK782.out 2).trans rfl⟩ (fun hHeld => ?_)
                clear hK K
                refine norm_ (a' := ?_) ?_ ?_
                rotate_left
                ·show Act.put _ (some 99) _ = _
                 simp only [Act.put, List.setIfInBounds_toArray, List.set_cons_zero, List.set_cons_succ, i64_w, i32_w]
                 rfl
                refine one_ (i := 5) (N := some 101) (ba_ 8 63) rfl rfl (one_of HT_.out (by kernel_rfl)) (by decide) (fun K hK => ?_)
                refine goes_ Try.func16 (by kernel_rfl) rfl #[.agg #[.slice A2_0 l2_0.length c2_0, .slice A2_1 l2_1.length c2_1, .slice A2_2 l2_2.length c2_2]] (by rfl) rfl rfl (by (try simp only [List.map_toArray, List.map_cons, List.map_nil]); first | done | rfl | (simp only [List.length_drop, List.length_take]; rfl)) ?_
                with_reducible refine (laws_toCost.calls kj36 _ _ l2_0 _ _ l2_1 _ _ l2_2 t860 t863 t866 _ ?side1 ?side2 ?side3 ?side4 ?side5 ?side6 A92.out).mono ?_
                (case side1 => exact cx_ HR2_0 HB)
                (case side2 => exact HC2_0.out)
                (case side3 => exact cx_ HR2_1 HB)
                (case side4 => exact HC2_1.out)
                (case side5 => exact cx_ HR2_2 HB)
                (case side6 => exact HC2_2.out)
                rintro e w115 ⟨v861, v864, v867, rfl, ho0, ho1, ho2, hb⟩
                refine ⟨_, rfl, ?_⟩
                have n0_ := Aside0.mk (Kd.R_mono (Kd.R_told (Kd.R_told (Kd.R_told (Kd.R_old (rx_ HO_8.out) hb) (Kd.R_base ho0)) (Kd.R_base ho1)) (Kd.R_base ho2)) (fun _ h_ => h_.1))
                have n1_ := Aside0.mk (Kd.R_mono (Kd.R_told (Kd.R_told (Kd.R_told (Kd.R_old (rx_ HO_12.out) hb) (Kd.R_base ho0)) (Kd.R_base ho1)) (Kd.R_base ho2)) (fun _ h_ => h_.1))
                have n2_ := Aside0.mk (Kd.R_mono (Kd.R_told (Kd.R_told (Kd.R_told (Kd.R_old (rx_ HO_820000.out) hb) (Kd.R_base ho0)) (Kd.R_base ho1)) (Kd.R_base ho2)) (fun _ h_ => h_.1))
                have n3_ := Aside0.mk (Kd.R_mono (Kd.R_told (Kd.R_told (Kd.R_told (Kd.R_old (rx_ HO_820001.out) hb) (Kd.R_base ho0)) (Kd.R_base ho1)) (Kd.R_base ho2)) (fun _ h_ => h_.1))
                have n4_ := Aside0.mk (Kd.R_mono (Kd.R_told (Kd.R_told (Kd.R_told (Kd.R_old (rx_ HO_820002.out) hb) (Kd.R_base ho0)) (Kd.R_base ho1)) (Kd.R_base ho2)) (fun _ h_ => h_.1))
                have n5_ := tR_ HO856 hb
                have n6_ := tR_ HO859 hb
                have n7_ := Aside0.mk (Kd.R_lower (Kd.R_new' (Kd.R_new' (Kd.R_new' (Kd.R_new' (Kd.R_new' ho0 (Kd.R_lt (rx_ HO_8.out))) (Kd.R_lt (rx_ HO_12.out))) (Kd.R_lt (rx_ HO_820000.out))) (Kd.R_lt (rx_ HO_820001.out))) (Kd.R_lt (rx_ HO_820002.out))) (bs_ HB))
                have n8_ := Aside0.mk (Kd.R_lower (Kd.R_new' (Kd.R_new' (Kd.R_new' (Kd.R_new' (Kd.R_new' ho1 (Kd.R_lt (rx_ HO_8.out))) (Kd.R_lt (rx_ HO_12.out))) (Kd.R_lt (rx_ HO_820000.out))) (Kd.R_lt (rx_ HO_820001.out))) (Kd.R_lt (rx_ HO_820002.out))) (bs_ HB))
                have n9_ := Aside0.mk (Kd.R_lower (Kd.R_new' (Kd.R_new' (Kd.R_new' (Kd.R_new' (Kd.R_new' ho2 (Kd.R_lt (rx_ HO_8.out))) (Kd.R_lt (rx_ HO_12.out))) (Kd.R_lt (rx_ HO_820000.out))) (Kd.R_lt (rx_ HO_820001.out))) (Kd.R_lt (rx_ HO_820002.out))) (bs_ HB))
                have n10_ := tK_ BK782 hb
                have n11_ := tK_ BK819 hb
                have n12_ := tB_ HB hb
                clear HO_8
                clear HO_12
                clear HO_820000
                clear HO_820001
                clear HO_820002
                clear HO856
                clear HO859
                clear BK782
                clear BK819
                clear HB
                have HO_8 := n0_
                have HO_12 := n1_
                have HO_820000 := n2_
                have HO_820001 := n3_
                have HO_820002 := n4_
                have HO856 := n5_
                have HO859 := n6_
                have HO862 := n7_
                have HO865 := n8_
                have HO868 := n9_
                have BK782 := n10_
                have BK819 := n11_
                have HB := n12_
                clear n0_ n1_ n2_ n3_ n4_ n5_ n6_ n7_ n8_ n9_ n10_ n11_ n12_
                (try clear hb)
                (try clear hb2)
                (try clear hk)
                (try clear hi)
                (try clear ho0)
                (try clear ho1)
                (try clear ho2)
                obtain ⟨Ao116, co116, eo116⟩ := Kd.R_slice HO856.out
                (first | subst eo116 | (injection eo116 with f1_ f2_ f3_; have f4_ := f1_.symm; have f5_ := f3_.symm; clear f1_ f2_ f3_; subst f4_; subst f5_))
                obtain ⟨Ao117, co117, eo117⟩ := Kd.R_slice HO859.out
                (first | subst eo117 | (injection eo117 with f1_ f2_ f3_; have f4_ := f1_.symm; have f5_ := f3_.symm; clear f1_ f2_ f3_; subst f4_; subst f5_))
                obtain ⟨Ao118, co118, eo118⟩ := Kd.R_slice HO862.out
                (first | subst eo118 | (injection eo118 with f1_ f2_ f3_; have f4_ := f1_.symm; have f5_ := f3_.symm; clear f1_ f2_ f3_; subst f4_; subst f5_))
                obtain ⟨Ao119, co119, eo119⟩ := Kd.R_slice HO865.out
                (first | subst eo119 | (injection eo119 with f1_ f2_ f3_; have f4_ := f1_.symm; have f5_ := f3_.symm; clear f1_ f2_ f3_; subst f4_; subst f5_))
                obtain ⟨Ao120, co120, eo120⟩ := Kd.R_slice HO868.out
                (first | subst eo120 | (injection eo120 with f1_ f2_ f3_; have f4_ := f1_.symm; have f5_ := f3_.symm; clear f1_ f2_ f3_; subst f4_; subst f5_))
                refine hK.out _ _ ⟨(blk_cell BK782.out 0).trans rfl, (blk_cell BK782.out 1).trans rfl, (blk_cell BK782.out 2).trans rfl⟩ (fun hHeld => ?_)
                clear hK K
                refine norm_ (a' := ?_) ?_ ?_
                rotate_left
                ·show Act.put _ (some 101) _ = _
                 simp only [Act.put, List.setIfInBounds_toArray, List.set_cons_zero, List.set_cons_succ, i64_w, i32_w]
                 rfl
                refine one_ (i := 6) (N := some 102) (ba_ 8 127) rfl rfl (one_of HT_.out (by kernel_rfl)) (by decide) (fun K hK => ?_)
                refine goes_ Try.func27 (by kernel_rfl) rfl #[.slice Ao116 t854.length co116, .slice Ao117 t857.length co117, .agg #[.slice Ao118 t860.length co118, .slice Ao119 t863.length co119, .slice Ao120 t866.length co120]] (by rfl) rfl rfl (by (try simp only [List.map_toArray, List.map_cons, List.map_nil]); first | done | rfl | (simp only [List.length_drop, List.length_take]; rfl)) ?_
                with_reducible refine (impl_TreeDists.calls kj36 _ _ t854 _ _ t857 _ _ t860 _ _ t863 _ _ t866 t869 _ ?side1 ?side2 ?side3 ?side4 ?side5 ?side6 ?side7 ?side8 ?side9 ?side10 A93.out).mono ?_
                (case side1 => exact cc_ (Kd.R_reads' HO856.out).2.2)
                (case side2 => exact (Kd.R_reads' HO856.out).2.1)
                (case side3 => exact cc_ (Kd.R_reads' HO859.out).2.2)
                (case side4 => exact (Kd.R_reads' HO859.out).2.1)
                (case side5 => exact cc_ (Kd.R_reads' HO862.out).2.2)
                (case side6 => exact (Kd.R_reads' HO862.out).2.1)
                (case side7 => exact cc_ (Kd.R_reads' HO865.out).2.2)
                (case side8 => exact (Kd.R_reads' HO865.out).2.1)
                (case side9 => exact cc_ (Kd.R_reads' HO868.out).2.2)
                (case side10 => exact (Kd.R_reads' HO868.out).2.1)
                rintro e w121 ⟨v870, rfl, ho0, hb⟩
                refine ⟨_, rfl, ?_⟩
                have n0_ := Aside0.mk (Kd.R_elder' (rx_ HO_8.out) (Kd.R_base ho0) hb)
                have n1_ := Aside0.mk (Kd.R_elder' (rx_ HO_12.out) (Kd.R_base ho0) hb)
                have n2_ := Aside0.mk (Kd.R_elder' (rx_ HO_820000.out) (Kd.R_base ho0) hb)
                have n3_ := Aside0.mk (Kd.R_elder' (rx_ HO_820001.out) (Kd.R_base ho0) hb)
                have n4_ := Aside0.mk (Kd.R_elder' (rx_ HO_820002.out) (Kd.R_base ho0) hb)
                have n5_ := tR_ HO856 hb
                have n6_ := tR_ HO859 hb
                have n7_ := Aside0.mk (Kd.R_elder' (rx_ HO862.out) (Kd.R_base ho0) hb)
                have n8_ := Aside0.mk (Kd.R_elder' (rx_ HO865.out) (Kd.R_base ho0) hb)
                have n9_ := Aside0.mk (Kd.R_elder' (rx_ HO868.out) (Kd.R_base ho0) hb)
                have n10_ := Aside0.mk (Kd.R_lower (Kd.R_new' (Kd.R_new' (Kd.R_new' (Kd.R_new' (Kd.R_new' (Kd.R_new' (Kd.R_new' (Kd.R_new' ho0 (Kd.R_lt (rx_ HO_8.out))) (Kd.R_lt (rx_ HO_12.out))) (Kd.R_lt (rx_ HO_820000.out))) (Kd.R_lt (rx_ HO_820001.out))) (Kd.R_lt (rx_ HO_820002.out))) (Kd.R_lt (rx_ HO862.out))) (Kd.R_lt (rx_ HO865.out))) (Kd.R_lt (rx_ HO868.out))) (bs_ HB))
                have n11_ := tK_ BK782 hb
                have n12_ := tK_ BK819 hb
                have n13_ := tB_ HB hb
                clear HO_8
                clear HO_12
                clear HO_820000
                clear HO_820001
                clear HO_820002
                clear HO856
                clear HO859
                clear HO862
                clear HO865
                clear HO868
                clear BK782
                clear BK819
                clear HB
                have HO_8 := n0_
                have HO_12 := n1_
                have HO_820000 := n2_
                have HO_820001 := n3_
                have HO_820002 := n4_
                have HO856 := n5_
                have HO859 := n6_
                have HO862 := n7_
                have HO865 := n8_
                have HO868 := n9_
                have HO871 := n10_
                have BK782 := n11_
                have BK819 := n12_
                have HB := n13_
                clear n0_ n1_ n2_ n3_ n4_ n5_ n6_ n7_ n8_ n9_ n10_ n11_ n12_ n13_
                (try clear hb)
                (try clear hb2)
                (try clear hk)
                (try clear hi)
                (try clear ho0)
                refine hK.out _ _ ⟨(blk_cell BK782.out 0).trans rfl, (blk_cell BK782.out 1).trans rfl, (blk_cell BK782.out 2).trans rfl⟩ (fun hHeld => ?_)
                clear hK K
                refine norm_ (a' := ?_) ?_ ?_
                rotate_left
                ·show Act.put _ (some 102) _ = _
                 simp only [Act.put, List.setIfInBounds_toArray, List.set_cons_zero, List.set_cons_succ, i64_w, i32_w]
                 rfl
                refine pu_ 7 (some 16) (ba_ 8 255) rfl rfl (any_of HT_.out (by kernel_rfl)) ?_
                refine done_ (done_of HT_.out (by kernel_rfl)) ?_
                obtain ⟨Ao122, co122, eo122⟩ := Kd.R_slice HO871.out
                subst eo122
                try go_wp2_with (first | ((with_reducible refine gate_callee (f := 28) rfl ?_); refine gL_ (some 105) Try.func28 #[.slice Ao122 t869.length co122, .slice Ao65 t801.length co65] ?_; (with_reducible refine (laws_eqIntS.calls kj36 _ _ t869 _ _ t801 true _ (cc_ (Kd.R_reads' HO871.out).2.2) ((Kd.R_reads' HO871.out).2.1) (cc_ (Kd.R_reads' HO_8.out).2.2) ((Kd.R_reads' HO_8.out).2.1) A94.out).mono ?_); rintro e w' ⟨rfl, ⟨nd, rfl⟩⟩; refine ⟨_, rfl, ?_⟩) | ((with_reducible refine gate_callee (f := 32) rfl ?_); refine goesL_ (some 109) rfl rfl Try.func32 (by kernel_rfl) rfl #[.slice Ao64 t852.length co64, .int .i64 1] rfl (by (try simp only [List.map_toArray, List.map_cons, List.map_nil]); first | done | (rw [show t852.length = t820.length from (Kd.R_reads' HO_12.out).1.symm] <;> rfl) | rfl | (simp only [List.length_drop, List.length_take]; rfl)) ?_; (with_reducible refine (laws_heldIntS.calls kj36 _ _ t852 1 t873 _ ?side1 ?side2 A96.out).mono ?_); (case side1 => exact cc_ (Kd.R_reads' HO_12.out).2.2); (case side2 => rw [show t852.length = t820.length from (Kd.R_reads' HO_12.out).1.symm]; exact (Kd.R_reads' HO_12.out).2.1); rintro e w' ⟨rfl, ⟨nd, rfl⟩⟩; refine ⟨_, rfl, ?_⟩))
                go_ret
                exact ⟨ea_, (bl_ HB).out⟩
               ·rw [if_neg c110] at H
                have c110b0 : (t873 == t851) = false := beq_eq_false_iff_ne.mpr c110
                have c110b1 : (t873 != t851) = true := bne_iff_ne.mpr c110
                exact absurd H (by simp)
             ·replace c95 := Bool.eq_false_iff.mpr c95
              subst c95
              have H1 : (some false) = some true := by rw [if_neg (show ¬ (false = true) by decide)] at H; exact H
              clear H
              have H := H1
              clear H1
              exact absurd H (by simp)
            ·rw [if_neg c89] at H
             have c89b0 : (t853 == t851) = false := beq_eq_false_iff_ne.mpr c89
             have c89b1 : (t853 != t851) = true := bne_iff_ne.mpr c89
             exact absurd H (by simp)
       ·replace c33 := Bool.eq_false_iff.mpr c33
        subst c33
        have H1 : (some false) = some true := by rw [if_neg (show ¬ (false = true) by decide)] at H; exact H
        clear H
        have H := H1
        clear H1
        exact absurd H (by simp)
      ·replace c30 := Bool.eq_false_iff.mpr c30
       subst c30
       have H1 : (some false) = some true := by rw [if_neg (show ¬ (false = true) by decide)] at H; exact H
       clear H
       have H := H1
       clear H1
       exact absurd H (by simp)
     ·replace c27 := Bool.eq_false_iff.mpr c27
      subst c27
      have H1 : (some false) = some true := by rw [if_neg (show ¬ (false = true) by decide)] at H; exact H
      clear H
      have H := H1
      clear H1
      exact absurd H (by simp)
    ·replace c24 := Bool.eq_false_iff.mpr c24
     subst c24
     have H1 : (some false) = some true := by rw [if_neg (show ¬ (false = true) by decide)] at H; exact H
     clear H
     have H := H1
     clear H1
     exact absurd H (by simp)
end Go.Proofs.Ytelglbebffdaaaa.X
namespace Go.Proofs.Ytelglbebffdaaaa.Q
open Go.RowKit Go.Proofs.YtelglbebffdaaaaW.PrintWords Go.Proofs.YtelglbebffdaaaaW.PrintLast Go.Proofs.YtelglbebffdaaaaW.PrintMore Go.Proofs.Ytelglbebffdaaaa.X Go.Proofs.Ytelglbebffdaaaa.Rd
set_option linter.unusedVariables false
set_option linter.unusedSimpArgs false
theorem tdB_len (a b : List NodeI) (d n r : List Int) : (tdB a b d n r).length ≤ 576 := by
  unfold tdB
  by_cases h : okAB a b d n r = true
  · rw [if_pos h]
    obtain ⟨ta, tb, _⟩ := okAB_iff.1 h
    unfold tdL
    rw [List.length_map, List.length_range]
    exact Nat.mul_le_mul ta.len24 tb.len24
  · rw [if_neg h]
    exact Nat.zero_le _
theorem FnExactTreeDists (a : List NodeL) (wa : WF22 a) (b : List NodeL) (wb : WF22 b) (c : CostL) (wc : WF25 c) : ∃ k, laws_FnExactTreeDists.f k a b c.f0 c.f1 c.f2 = some true := by
  refine Ev.rounds (g := fun k => laws_FnExactTreeDists.f k a b c.f0 c.f1 c.f2) ?_
  have wd := wc.1.1
  have wi_ := wc.2.1.1
  have wr := wc.2.2.1
  unfold laws_FnExactTreeDists.f
  refine Ev.bindC (szNodeS_eq a _ (by omega) (by omega) wa.1) ?_
  by_cases h : (1048576 : Int) < a.length
  · rw [if_pos h]
    exact Ev.ifT (by omega) (Ev.now _)
  rw [if_neg h]
  refine Ev.ifF (by omega) (Ev.bindC (szNodeS_eq b _ (by omega) (by omega) wb.1) ?_)
  by_cases h1 : (1048576 : Int) - a.length < b.length
  · rw [if_pos h1]
    exact Ev.ifT (by omega) (Ev.now _)
  rw [if_neg h1]
  obtain ⟨z, hz, hp⟩ := szCost_eq c.f0 c.f1 c.f2 ((1048576 : Int) - a.length - b.length) (by omega) (by omega) wd wi_ wr
  refine Ev.ifF (by omega) (Ev.bindC hz ?_)
  rcases hp with hp | ⟨hp, rfl⟩
  · exact Ev.ifT hp (Ev.now _)
  refine Ev.ifF (by omega) ?_
  have ta := toNodeS_ev a (by omega)
  have tb := toNodeS_ev b (by omega)
  have tc := toCost_ev c.f0 c.f1 c.f2 (by omega) (by omega) (by omega)
  have la : (a.map toNode).length = a.length := by simp
  have lb : (b.map toNode).length = b.length := by simp
  have fit : Fit (a.map toNode) (b.map toNode) c.f0 c.f1 c.f2 := ⟨by omega, by omega, by omega, by omega, by omega⟩
  have s := spec_TreeDists.ev fit
  have i := impl_TreeDists.ev (a.map toNode) (b.map toNode) c.f0 c.f1 c.f2
  have hres := tdB_len (a.map toNode) (b.map toNode) c.f0 c.f1 c.f2
  generalize tdB (a.map toNode) (b.map toNode) c.f0 c.f1 c.f2 = res at s i hres
  have e := eqIntS_ev res (by omega)
  obtain ⟨r1, _, m1⟩ := markNodeS_one 1 (a.map toNode) (by omega) (by omega)
  obtain ⟨r3, _, m3⟩ := markNodeS_one (1 + 2 * (a.map toNode).length) (b.map toNode) (by omega) (by omega)
  obtain ⟨q0, _, n0, _⟩ := markIntS_ev (1 + 2 * (a.map toNode).length + 2 * (b.map toNode).length) c.f0 (by omega) (by omega)
  obtain ⟨q1, _, n1, _⟩ := markIntS_ev (1 + 2 * (a.map toNode).length + 2 * (b.map toNode).length + c.f0.length) c.f1 (by omega) (by omega)
  obtain ⟨q2, _, n2, _⟩ := markIntS_ev (1 + 2 * (a.map toNode).length + 2 * (b.map toNode).length + c.f0.length + c.f1.length) c.f2 (by omega) (by omega)
  obtain ⟨r2, _, m2, h2⟩ := markIntS_ev 1 res (by omega) (by omega)
  have mc : Ev (fun k => laws_markCost.f k c.f0 c.f1 c.f2 (1 + 2 * (a.map toNode).length + 2 * (b.map toNode).length)) (1 + 2 * (a.map toNode).length + 2 * (b.map toNode).length + c.f0.length + c.f1.length + c.f2.length, q0, q1, q2) := by
    unfold laws_markCost.f
    exact Ev.bind n0 (Ev.bind n1 (Ev.bind n2 (Ev.now _)))
  refine Ev.bind ta (Ev.bind tb (Ev.bind tc (Ev.bind s (Ev.bind ta (Ev.bind tb (Ev.bind tc (Ev.bind i (Ev.bind e (Ev.ifT rfl ?_)))))))))
  refine Ev.bind ta (Ev.bind (eqNodeS_ev _ (by omega)) (Ev.ifT rfl (Ev.bind tb (Ev.bind (eqNodeS_ev _ (by omega)) (Ev.ifT rfl (Ev.bind tc (Ev.bind (eqCost_ev _ _ _ (by omega) (by omega) (by omega)) (Ev.ifT rfl ?_))))))))
  refine Ev.bind m1 (Ev.bind m3 (Ev.bind mc (Ev.ifF (by simp only; omega) (Ev.bind e ?_))))
  refine Ev.step (fun _ => rfl) ?_
  simp only [laws_FnExactTreeDists.j0]
  refine Ev.ifF (by simp) ?_
  refine Ev.bind m2 (Ev.bind h2 (Ev.ifF (by omega) (Ev.ifT rfl (Ev.bind ta (Ev.bind tb (Ev.bind tc (Ev.bind i (Ev.bind e (Ev.ifT rfl (Ev.bind h2 (Ev.ifF (by omega) (Ev.ifT rfl (Ev.now _)))))))))))))
end Go.Proofs.Ytelglbebffdaaaa.Q
