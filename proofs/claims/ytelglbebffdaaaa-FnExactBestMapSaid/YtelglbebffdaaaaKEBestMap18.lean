/- Part 18 of the proof of FnExactBestMap: what it needs. -/
import Derived.Carry
import Derived.Test.YtelglbebffdaaaaKEBestMap3
import Derived.Test.YtelglbebffdaaaaKEBestMap6
import Derived.Test.YtelglbebffdaaaaKEBestMap8
import Derived.Test.YtelglbebffdaaaaKEBestMap15
import Derived.Test.YtelglbebffdaaaaKEBestMap17
namespace Go.Proofs.Ytelglbebffdaaaa.X
open Go.RowKit Go.Proofs.YtelglbebffdaaaaW.PrintWords Go.Proofs.YtelglbebffdaaaaW.PrintLast Go.Proofs.YtelglbebffdaaaaW.PrintMore Go.Proofs.Ytelglbebffdaaaa.Q
set_option linter.unusedVariables false
set_option linter.unusedSimpArgs false
noncomputable def impl_BestMap.f (q : Nat) (a b : List NodeI) (d n r : List Int) : Option (List PairI):=(impl_measureOf.f q a b d n r).bind fun _ => some (bmB a b d n r)
theorem impl_BestMap.ev (a b : List NodeI) (d n r : List Int) : Ev (fun q => impl_BestMap.f q a b d n r) (bmB a b d n r):=by
 unfold impl_BestMap.f
 exact Ev.bind (implMeasure_ev a b d n r) (Ev.now _)
theorem px_none (W : World) : PX (W.alloc (.cells #[] 84)) W.heap.size (.slice (some ⟨W.heap.size,0,none⟩) 0 0) [] :=
 ⟨fun _ _ => trivial,[],⟨rfl,.inr ⟨W.heap.size,0,#[],rfl,Nat.le_refl _,blk_new W _,Nat.le_refl _,by unfold maxLen;omega,rfl,rfl⟩⟩,Reps.none _ _⟩
attribute [local go_sem] run_makeMap
set_option maxHeartbeats 4000000 in
set_option maxRecDepth 100000 in
theorem impl_BestMap.calls (q : Nat) (A0 : Option Addr) (c0 : Nat) (l0 : List NodeI) (A3 : Option Addr) (c3 : Nat) (l3 : List NodeI) (A6 : Option Addr) (c6 : Nat) (d : List Int) (A7 : Option Addr) (c7 : Nat) (n : List Int) (A8 : Option Addr) (c8 : Nat) (r : List Int) (res : List PairI) (w : World)
  (hr0 : Kd.C k53 w A0 l0.length l0) (hc0 : l0.length ≤ c0) (hr3 : Kd.C k53 w A3 l3.length l3) (hc3 : l3.length ≤ c3) (hr6 : Kd.C (Kd.int .i64) w A6 d.length d) (hc6 : d.length ≤ c6) (hr7 : Kd.C (Kd.int .i64) w A7 n.length n) (hc7 : n.length ≤ c7) (hr8 : Kd.C (Kd.int .i64) w A8 r.length r) (hc8 : r.length ≤ c8)
  (h : impl_BestMap.f q l0 l3 d n r = some res) :
  Calls Try.prog 34 #[.slice A0 l0.length c0,.slice A3 l3.length c3,.agg #[.slice A6 d.length c6,.slice A7 n.length c7,.slice A8 r.length c8]] w fun e w' => ∃ v0_ : Value,e = .returned (v0_) ∧ Kd.R k84 84 w' w.heap.size (fun _ => True) v0_ res ∧ Below w.heap.size w w':=by
 unfold impl_BestMap.f at h
 obtain ⟨t,ht,h⟩:=Option.bind_eq_some_iff.mp h
 obtain rfl:=Option.some.inj h
 clear h
 rcases mea_told ht with ⟨ho,hcase⟩ | ⟨ta,tb,hco,h1,h2,h3,h4,h5,h6,h7⟩
 ·have HM : Aside0 (∀ W,Below w.heap.size w W → _):=⟨fun W hb => mea_no (Kd.C_below hr0 hb) hc0 (Kd.C_below hr3 hb) hc3 (Kd.C_below hr6 hb) hc6 (Kd.C_below hr7 hb) hc7 (Kd.C_below hr8 hb) hc8 hcase⟩
  clear hr0 hc0 hr3 hc3 hr6 hc6 hr7 hc7 hr8 hc8 ht hcase
  have HV:=Aside0.mk (show bmB l0 l3 d n r = [] by unfold bmB;rw [ho];rfl)
  clear ho
  rw [HV.out]
  go_enter Try.func34,Try.ntmps34
  go_wp2_with (first | (go_at_call 57;refine (HM.out _ (by first | exact Below.refl _ _ | exact (Below.refl _ _).alloc (Nat.le_refl _) _)).mono ?_;rintro e w6 ⟨rfl,hb⟩))
  go_ret
  have hsz : (w6.alloc (Obj.cells #[nl,nl,nl,nl,nl,nl,nl] 70)).heap.size = w6.heap.size + 1:=by simp
  have hp:=px_none (w6.alloc (Obj.cells #[nl,nl,nl,nl,nl,nl,nl] 70))
  rw [hsz] at hp
  have hB6:=((Below.refl w.heap.size w).alloc (Nat.le_refl _) (.cells #[.slice A6 d.length c6,.slice A7 n.length c7,.slice A8 r.length c8] 31)).trans (hb.mono (by simp))
  exact ⟨_,rfl,Kd.R_lower hp (Nat.le_succ_of_le hB6.size),below_alloc (below_alloc hB6 _) _⟩
 ·have HM : Aside0 (∀ W,Below w.heap.size w W → _):=⟨fun W hb => mea_yes (Kd.C_below hr0 hb) hc0 (Kd.C_below hr3 hb) hc3 (Kd.C_below hr6 hb) hc6 (Kd.C_below hr7 hb) hc7 (Kd.C_below hr8 hb) hc8 ta tb hco h1 h2 h3 h4 h5 h6 h7⟩
  clear hr0 hc0 hr3 hc3 hr6 hc6 hr7 hc7 hr8 hc8 ht h1 h2 h3 h4 h5 h6 h7
  have ho : okAB l0 l3 d n r = true:=okAB_iff.2 ⟨ta,tb,hco⟩
  have HV:=Aside0.mk (show bmB l0 l3 d n r = bmL l0 l3 d n r by unfold bmB;rw [ho];rfl)
  clear ho
  rw [HV.out]
  have HTA:=Aside0.mk ta
  have HTB:=Aside0.mk tb
  have HCO:=Aside0.mk hco
  clear ta tb hco
  have hu:=Try.underlying86
  have hu2:=Try.underlying70
  go_enter Try.func34,Try.ntmps34
  go_wp2_with (first | (go_at_call 57;refine (HM.out _ (by first | exact Below.refl _ _ | exact (Below.refl _ _).alloc (Nat.le_refl _) _)).mono ?_;rintro e w6 ⟨v0,v1,v2,v3,v4,v5,v6,rfl,hb,⟨⟨a0,n0,e0,rfl⟩,⟨a1,n1,e1,rfl⟩,⟨a2,n2,e2,rfl⟩,⟨a3,n3,e3,rfl⟩,⟨a4,n4,e4,rfl⟩,⟨a5,n5,e5,rfl⟩,⟨a6,n6,e6,rfl⟩⟩,hmea⟩;have HB:=Aside0.mk hb;have HMM:=Aside0.mk hmea;clear hb hmea))
  have ta:=HTA.out
  have tb:=HTB.out
  have hB6:=Aside0.mk (((Below.refl w.heap.size w).alloc (Nat.le_refl _) (.cells #[.slice A6 d.length c6,.slice A7 n.length c7,.slice A8 r.length c8] 31)).trans (HB.out.mono (by simp)))
  have hMemo:=Memo.start (msOf l0 l3 d n r) (w6.alloc (Obj.cells #[.slice a0 n0 e0,.slice a1 n1 e1,.slice a2 n2 e2,.slice a3 n3 e3,.slice a4 n4 e4,.slice a5 n5 e5,.slice a6 n6 e6] 70))
  have hsz : (w6.alloc (Obj.cells #[.slice a0 n0 e0,.slice a1 n1 e1,.slice a2 n2 e2,.slice a3 n3 e3,.slice a4 n4 e4,.slice a5 n5 e5,.slice a6 n6 e6] 70)).heap.size = w6.heap.size + 1:=by simp
  rw [hsz] at hMemo
  have hbb:=((Below.refl w6.heap.size w6).alloc (Nat.le_refl _) (Obj.cells #[.slice a0 n0 e0,.slice a1 n1 e1,.slice a2 n2 e2,.slice a3 n3 e3,.slice a4 n4 e4,.slice a5 n5 e5,.slice a6 n6 e6] 70)).alloc (by simp) (.map #[] 0)
  obtain ⟨r0,r1,hm⟩:=HMM.out (w6.heap.size + 1) (by omega)
  have hT:=(⟨hm.below hbb,r0.below hbb,r1.below hbb,[],hMemo⟩ : Ts (msOf l0 l3 d n r) l0.length l3.length (nodeN l0) (nodeN l3) (w6.heap.size + 1) _ _ _ _ _ _ _ _)
  have hs:=msOf_small (a:=l0) (b:=l3) HCO.out
  have hla:=fun p (hp : p < l0.length) => lfN_le ta hp
  have hlb:=fun p (hp : p < l3.length) => lfN_le tb hp
  refine (match_calls (oa:=nodeN l0) (ob:=nodeN l3) ta.len24 tb.len24 hla hlb (fun N' _ => trace_calls hs ta.len24 tb.len24 hla hlb N') 0 l0.length 0 l3.length rfl ta.len1 (Nat.le_refl _) tb.len1 (Nat.le_refl _) _ _ _ _ _ _ _ _ _ hT).mono ?_
  rintro e w9 ⟨u,rfl,hp,hol,_⟩
  go_wp2
  go_ret
  have hB9:=Below.mono ((((Below.refl w6.heap.size w6).alloc (Nat.le_refl _) (Obj.cells #[.slice a0 n0 e0,.slice a1 n1 e1,.slice a2 n2 e2,.slice a3 n3 e3,.slice a4 n4 e4,.slice a5 n5 e5,.slice a6 n6 e6] 70)).alloc (by simp) (.map #[] 0)).trans ⟨hol.os,hol.tape,hol.output,hol.size,fun x hx => hol.block x (by simp;omega) (by simp;omega)⟩) (show w.heap.size ≤ w6.heap.size from hB6.out.size)
  exact ⟨u,rfl,Kd.R_lower hp (Nat.le_trans hB6.out.size hbb.size),hB6.out.trans hB9⟩
end Go.Proofs.Ytelglbebffdaaaa.X
namespace Go.Proofs.Ytelglbebffdaaaa.X
open Go.RowKit Go.Proofs.YtelglbebffdaaaaW.PrintWords Go.Proofs.YtelglbebffdaaaaW.PrintLast Go.Proofs.YtelglbebffdaaaaW.PrintMore
attribute [local go_sem] max2_int min2_int max_two min_two max_three min_three max_four min_four   -- for this text's walks alone
set_option linter.unusedVariables false
set_option linter.unusedSimpArgs false
noncomputable def laws_FnExactBestMap.j0 : Nat → List (S66) → List (S66) → List (S84) → List (S84) → Bool → List Int → List Int → List Int → Option (Bool)
 | 0,_,_,_,_,_,_,_,_ => none
 | k + 1,x0,x1,x8,x12,x84,x890000,x890001,x890002 => if x84 = true then (some false) else ((laws_markPairS.f k x12 1).bind fun bt958 => ((laws_heldPairS.f k bt958.2 1).bind fun t960 => (if t960 < 0 then (some false) else (if t960 = bt958.1 then ((laws_toNodeS.f k x0).bind fun t961 => ((laws_toNodeS.f k x1).bind fun t964 => ((laws_toCost.f k x890000 x890001 x890002).bind fun bt967 => ((impl_BestMap.f k t961 t964 bt967.1 bt967.2.1 bt967.2.2).bind fun t976 => ((laws_eqPairS.f k t976 x8).bind fun t979 => (if t979 = true then ((laws_heldPairS.f k bt958.2 1).bind fun t980 => (if t980 < 0 then (some false) else (if t980 = bt958.1 then (some true) else (some false)))) else (some false))))))) else (some false)))))
noncomputable def laws_FnExactBestMap.f (k : Nat) (l0 : List (S66)) (l1 : List (S66)) (l2_0 : List Int) (l2_1 : List Int) (l2_2 : List Int) : Option (Bool):=(laws_szNodeS.f l0 1048576).bind fun t890 => (if t890 < 0 then (some true) else ((laws_szNodeS.f l1 t890).bind fun t891 => (if t891 < 0 then (some true) else ((laws_szCost.f l2_0 l2_1 l2_2 t891).bind fun t892 => (if t892 < 0 then (some true) else ((laws_toNodeS.f k l0).bind fun t893 => ((laws_toNodeS.f k l1).bind fun t896 => ((laws_toCost.f k l2_0 l2_1 l2_2).bind fun bt899 => ((spec_BestMap.f k t893 t896 bt899.1 bt899.2.1 bt899.2.2).bind fun t908 => ((laws_toNodeS.f k l0).bind fun t911 => ((laws_toNodeS.f k l1).bind fun t914 => ((laws_toCost.f k l2_0 l2_1 l2_2).bind fun bt917 => ((impl_BestMap.f k t911 t914 bt917.1 bt917.2.1 bt917.2.2).bind fun t927 => ((laws_eqPairS.f k t927 t908).bind fun t930 => (if t930 = true then ((laws_toNodeS.f k l0).bind fun t931 => ((laws_eqNodeS.f k t911 t931).bind fun t934 => (if t934 = true then ((laws_toNodeS.f k l1).bind fun t935 => ((laws_eqNodeS.f k t914 t935).bind fun t938 => (if t938 = true then ((laws_toCost.f k l2_0 l2_1 l2_2).bind fun bt939 => ((laws_eqCost.f k bt917.1 bt917.2.1 bt917.2.2 bt939.1 bt939.2.1 bt939.2.2).bind fun t948 => (if t948 = true then ((laws_markNodeS.f k t911 1).bind fun bt949 => ((laws_markNodeS.f k t914 bt949.1).bind fun bt951 => ((laws_markCost.f k bt917.1 bt917.2.1 bt917.2.2 bt951.1).bind fun bt953 => (if bt953.1 < 0 then (laws_FnExactBestMap.j0 k l0 l1 t908 t927 true l2_0 l2_1 l2_2) else ((laws_eqPairS.f k t927 t908).bind fun t957 => (laws_FnExactBestMap.j0 k l0 l1 t908 t927 (!t957) l2_0 l2_1 l2_2)))))) else (some false)))) else (some false)))) else (some false)))) else (some false))))))))))))))))
def laws_FnExactBestMap.T11 : Bool × List (List Nat × List Nat):=(true,[([],[]),([0],[0]),([],[]),([2,1],[2]),([],[]),([4,3],[4]),([1,3,5,5],[1,3,5]),([6,6,0,1,2,3,4,5,6],[6])])
def laws_FnExactBestMap.B11 : List Nat:=[0,1,0,7,0,31,63,127]
theorem laws_FnExactBestMap.tab11 : rtab .any (opsOf Try.f8 11) = laws_FnExactBestMap.T11:=by kernel_rfl
theorem laws_FnExactBestMap.bits11 : waitsOk laws_FnExactBestMap.T11.2 laws_FnExactBestMap.B11 = true:=by kernel_rfl
def laws_FnExactBestMap.T38 : Bool × List (List Nat × List Nat):=(true,[([],[]),([0],[0]),([],[]),([2,1],[2]),([],[]),([4,3],[4]),([1,3,5,5],[1,3,5]),([6,6,0,1,2,3,4,5,6],[6])])
def laws_FnExactBestMap.B38 : List Nat:=[0,1,0,7,0,31,63,127]
theorem laws_FnExactBestMap.tab38 : rtab .any (opsOf Try.f8 38) = laws_FnExactBestMap.T38:=by kernel_rfl
theorem laws_FnExactBestMap.bits38 : waitsOk laws_FnExactBestMap.T38.2 laws_FnExactBestMap.B38 = true:=by kernel_rfl
set_option maxHeartbeats 8000000 in
set_option maxRecDepth 100000 in
theorem laws_FnExactBestMap.calls (k : Nat) (A0 : Option Addr) (c0 : Nat) (l0 : List (S66)) (A1 : Option Addr) (c1 : Nat) (l1 : List (S66)) (A2_0 : Option Addr) (c2_0 : Nat) (l2_0 : List Int) (A2_1 : Option Addr) (c2_1 : Nat) (l2_1 : List Int) (A2_2 : Option Addr) (c2_2 : Nat) (l2_2 : List Int) (w : World) (hr0 : Kd.C k66 w A0 l0.length l0) (hc0 : l0.length ≤ c0) (hr1 : Kd.C k66 w A1 l1.length l1) (hc1 : l1.length ≤ c1) (hr2_0 : Kd.C (Kd.int .i64) w A2_0 l2_0.length l2_0) (hc2_0 : l2_0.length ≤ c2_0) (hr2_1 : Kd.C (Kd.int .i64) w A2_1 l2_1.length l2_1) (hc2_1 : l2_1.length ≤ c2_1) (hr2_2 : Kd.C (Kd.int .i64) w A2_2 l2_2.length l2_2) (hc2_2 : l2_2.length ≤ c2_2) (h : laws_FnExactBestMap.f k l0 l1 l2_0 l2_1 l2_2 = some true) :
  Calls Try.prog 8 #[.slice A0 l0.length c0,.slice A1 l1.length c1,.agg #[.slice A2_0 l2_0.length c2_0,.slice A2_1 l2_1.length c2_1,.slice A2_2 l2_2.length c2_2]] w fun e w' => e = .returned (.bool true) ∧ Below w.heap.size w w':=by
 have hu25:=Try.underlying25
 have hu31:=Try.underlying31
 have HR0:=Aside0.mk hr0
 have HC0:=Aside0.mk hc0
 clear hr0 hc0
 have HR1:=Aside0.mk hr1
 have HC1:=Aside0.mk hc1
 clear hr1 hc1
 have HR2_0:=Aside0.mk hr2_0
 have HC2_0:=Aside0.mk hc2_0
 clear hr2_0 hc2_0
 have HR2_1:=Aside0.mk hr2_1
 have HC2_1:=Aside0.mk hc2_1
 clear hr2_1 hc2_1
 have HR2_2:=Aside0.mk hr2_2
 have HC2_2:=Aside0.mk hc2_2
 clear hr2_2 hc2_2
 have HB:=Aside0.mk (Below.refl w.heap.size w)
 have H : ((laws_szNodeS.f l0 1048576).bind fun t890 => (if t890 < 0 then (some true) else ((laws_szNodeS.f l1 t890).bind fun t891 => (if t891 < 0 then (some true) else ((laws_szCost.f l2_0 l2_1 l2_2 t891).bind fun t892 => (if t892 < 0 then (some true) else ((laws_toNodeS.f k l0).bind fun t893 => ((laws_toNodeS.f k l1).bind fun t896 => ((laws_toCost.f k l2_0 l2_1 l2_2).bind fun bt899 => ((spec_BestMap.f k t893 t896 bt899.1 bt899.2.1 bt899.2.2).bind fun t908 => ((laws_toNodeS.f k l0).bind fun t911 => ((laws_toNodeS.f k l1).bind fun t914 => ((laws_toCost.f k l2_0 l2_1 l2_2).bind fun bt917 => ((impl_BestMap.f k t911 t914 bt917.1 bt917.2.1 bt917.2.2).bind fun t927 => ((laws_eqPairS.f k t927 t908).bind fun t930 => (if t930 = true then ((laws_toNodeS.f k l0).bind fun t931 => ((laws_eqNodeS.f k t911 t931).bind fun t934 => (if t934 = true then ((laws_toNodeS.f k l1).bind fun t935 => ((laws_eqNodeS.f k t914 t935).bind fun t938 => (if t938 = true then ((laws_toCost.f k l2_0 l2_1 l2_2).bind fun bt939 => ((laws_eqCost.f k bt917.1 bt917.2.1 bt917.2.2 bt939.1 bt939.2.1 bt939.2.2).bind fun t948 => (if t948 = true then ((laws_markNodeS.f k t911 1).bind fun bt949 => ((laws_markNodeS.f k t914 bt949.1).bind fun bt951 => ((laws_markCost.f k bt917.1 bt917.2.1 bt917.2.2 bt951.1).bind fun bt953 => (if bt953.1 < 0 then (laws_FnExactBestMap.j0 k l0 l1 t908 t927 true l2_0 l2_1 l2_2) else ((laws_eqPairS.f k t927 t908).bind fun t957 => (laws_FnExactBestMap.j0 k l0 l1 t908 t927 (!t957) l2_0 l2_1 l2_2)))))) else (some false)))) else (some false)))) else (some false)))) else (some false))))))))))))))))) = some true:=h
 clear h
 replace H:=Option.bind_eq_some_iff.mp H
 obtain ⟨t890,A40,H⟩:=H
 try dsimp only at H
 have A4:=Aside0.mk A40
 clear A40
 by_cases c5 : t890 < 0
 ·rw [if_pos c5] at H
  have c5b0 : decide (t890 < 0) = true:=decide_eq_true c5
  clear c5
  clear H
  go_enter Try.func8,Try.ntmps8
  go_wp2_with (first | ((with_reducible refine gate_dst (N:=5) rfl ?_);refine bx_ 5 #[.slice A2_0 l2_0.length c2_0,.slice A2_1 l2_1.length c2_1,.slice A2_2 l2_2.length c2_2] 25 ?_;intro gb889 hg w6 hbox hb;have BK889:=Aside0.mk (hbox);have GW889:=Aside0.mk ((by rw [hg];exact (bs_ HB) : w.heap.size ≤ gb889));have GE889:=Aside0.mk ((by rw [hg];exact (bs_ HB) : w.heap.size ≤ gb889));replace HB:=tB_ HB hb;clear hb hbox hg) | ((with_reducible refine gate_callee (f:=12) rfl ?_);refine gL_ (some 19) Try.func12 #[.slice A0 l0.length c0,.int .i64 1048576] ?_;(with_reducible refine (laws_szNodeS.calls _ _ l0 1048576 t890 _ (cx_ HR0 HB) HC0.out A4.out).mono ?_);rintro e w' ⟨rfl,⟨nd,rfl⟩⟩;refine ⟨_,rfl,?_⟩))
  go_ret
  exact ⟨ea_,(bl_ HB).out⟩
 ·rw [if_neg c5] at H
  have c5b0 : decide (t890 < 0) = false:=decide_eq_false c5
  clear c5
  replace H:=Option.bind_eq_some_iff.mp H
  obtain ⟨t891,A70,H⟩:=H
  try dsimp only at H
  have A7:=Aside0.mk A70
  clear A70
  by_cases c8 : t891 < 0
  ·rw [if_pos c8] at H
   have c8b0 : decide (t891 < 0) = true:=decide_eq_true c8
   clear c8
   clear H
   go_enter Try.func8,Try.ntmps8
   go_wp2_with (first | ((with_reducible refine gate_dst (N:=5) rfl ?_);refine bx_ 5 #[.slice A2_0 l2_0.length c2_0,.slice A2_1 l2_1.length c2_1,.slice A2_2 l2_2.length c2_2] 25 ?_;intro gb889 hg w9 hbox hb;have BK889:=Aside0.mk (hbox);have GW889:=Aside0.mk ((by rw [hg];exact (bs_ HB) : w.heap.size ≤ gb889));have GE889:=Aside0.mk ((by rw [hg];exact (bs_ HB) : w.heap.size ≤ gb889));replace HB:=tB_ HB hb;clear hb hbox hg) | ((with_reducible refine gate_callee (f:=12) rfl ?_);refine gL_ (some 19) Try.func12 #[.slice A0 l0.length c0,.int .i64 1048576] ?_;(with_reducible refine (laws_szNodeS.calls _ _ l0 1048576 t890 _ (cx_ HR0 HB) HC0.out A4.out).mono ?_);rintro e w' ⟨rfl,⟨nd,rfl⟩⟩;refine ⟨_,rfl,?_⟩) | ((with_reducible refine gate_callee (f:=12) rfl ?_);refine gL_ (some 24) Try.func12 #[.slice A1 l1.length c1,.int .i64 t890] ?_;(with_reducible refine (laws_szNodeS.calls _ _ l1 t890 t891 _ (cx_ HR1 HB) HC1.out A7.out).mono ?_);rintro e w' ⟨rfl,⟨nd,rfl⟩⟩;refine ⟨_,rfl,?_⟩))
   go_ret
   exact ⟨ea_,(bl_ HB).out⟩
  ·rw [if_neg c8] at H
   have c8b0 : decide (t891 < 0) = false:=decide_eq_false c8
   clear c8
   replace H:=Option.bind_eq_some_iff.mp H
   obtain ⟨t892,A100,H⟩:=H
   try dsimp only at H
   have A10:=Aside0.mk A100
   clear A100
   by_cases c11 : t892 < 0
   ·rw [if_pos c11] at H
    have c11b0 : decide (t892 < 0) = true:=decide_eq_true c11
    clear c11
    clear H
    go_enter Try.func8,Try.ntmps8
    go_wp2_with (first | ((with_reducible refine gate_dst (N:=5) rfl ?_);refine bx_ 5 #[.slice A2_0 l2_0.length c2_0,.slice A2_1 l2_1.length c2_1,.slice A2_2 l2_2.length c2_2] 25 ?_;intro gb889 hg w12 hbox hb;have BK889:=Aside0.mk (hbox);have GW889:=Aside0.mk ((by rw [hg];exact (bs_ HB) : w.heap.size ≤ gb889));have GE889:=Aside0.mk ((by rw [hg];exact (bs_ HB) : w.heap.size ≤ gb889));replace HB:=tB_ HB hb;clear hb hbox hg) | ((with_reducible refine gate_callee (f:=12) rfl ?_);refine gL_ (some 19) Try.func12 #[.slice A0 l0.length c0,.int .i64 1048576] ?_;(with_reducible refine (laws_szNodeS.calls _ _ l0 1048576 t890 _ (cx_ HR0 HB) HC0.out A4.out).mono ?_);rintro e w' ⟨rfl,⟨nd,rfl⟩⟩;refine ⟨_,rfl,?_⟩) | ((with_reducible refine gate_callee (f:=12) rfl ?_);refine gL_ (some 24) Try.func12 #[.slice A1 l1.length c1,.int .i64 t890] ?_;(with_reducible refine (laws_szNodeS.calls _ _ l1 t890 t891 _ (cx_ HR1 HB) HC1.out A7.out).mono ?_);rintro e w' ⟨rfl,⟨nd,rfl⟩⟩;refine ⟨_,rfl,?_⟩;obtain ⟨hcz13_0,hcz13_1,hcz13_2,hfz13_0,hfz13_1,hfz13_2⟩:=bk3_ BK889) | ((with_reducible refine gate_callee (f:=13) rfl ?_);refine gL_ (some 29) Try.func13 #[.agg #[.slice A2_0 l2_0.length c2_0,.slice A2_1 l2_1.length c2_1,.slice A2_2 l2_2.length c2_2],.int .i64 t891] ?_;(with_reducible refine (laws_szCost.calls _ _ l2_0 _ _ l2_1 _ _ l2_2 t891 t892 _ (cx_ HR2_0 HB) HC2_0.out (cx_ HR2_1 HB) HC2_1.out (cx_ HR2_2 HB) HC2_2.out A10.out).mono ?_);rintro e w14 ⟨rfl,hb⟩;refine ⟨_,rfl,?_⟩;replace BK889:=tK_ BK889 hb;replace HB:=tB_ HB hb;(try clear hb)))
    go_ret
    exact ⟨ea_,(bl_ HB).out⟩
   ·rw [if_neg c11] at H
    have c11b0 : decide (t892 < 0) = false:=decide_eq_false c11
    clear c11
    replace H:=Option.bind_eq_some_iff.mp H
    obtain ⟨t893,A150,H⟩:=H
    try dsimp only at H
    have A15:=Aside0.mk A150
    clear A150
    replace H:=Option.bind_eq_some_iff.mp H
    obtain ⟨t896,A160,H⟩:=H
    try dsimp only at H
    have A16:=Aside0.mk A160
    clear A160
    replace H:=Option.bind_eq_some_iff.mp H
    obtain ⟨⟨t899,t902,t905⟩,A170,H⟩:=H
    try dsimp only at H
    have A17:=Aside0.mk A170
    clear A170
    replace H:=Option.bind_eq_some_iff.mp H
    obtain ⟨t908,A180,H⟩:=H
    try dsimp only at H
    have A18:=Aside0.mk A180
    clear A180
    replace H:=Option.bind_eq_some_iff.mp H
    obtain ⟨t911,A190,H⟩:=H
    try dsimp only at H
    have A19:=Aside0.mk A190
    clear A190
    replace H:=Option.bind_eq_some_iff.mp H
    obtain ⟨t914,A200,H⟩:=H
    try dsimp only at H
    have A20:=Aside0.mk A200
    clear A200
    replace H:=Option.bind_eq_some_iff.mp H
    obtain ⟨⟨t917,t920,t923⟩,A210,H⟩:=H
    try dsimp only at H
    have A21:=Aside0.mk A210
    clear A210
    replace H:=Option.bind_eq_some_iff.mp H
    obtain ⟨t927,A220,H⟩:=H
    try dsimp only at H
    have A22:=Aside0.mk A220
    clear A220
    replace H:=Option.bind_eq_some_iff.mp H
    obtain ⟨t930,A230,H⟩:=H
    try dsimp only at H
    have A23:=Aside0.mk A230
    clear A230
    by_cases c24 : t930 = true
    ·subst c24
     have H1 : ((laws_toNodeS.f k l0).bind fun t931 => ((laws_eqNodeS.f k t911 t931).bind fun t934 => (if t934 = true then ((laws_toNodeS.f k l1).bind fun t935 => ((laws_eqNodeS.f k t914 t935).bind fun t938 => (if t938 = true then ((laws_toCost.f k l2_0 l2_1 l2_2).bind fun bt939 => ((laws_eqCost.f k t917 t920 t923 bt939.1 bt939.2.1 bt939.2.2).bind fun t948 => (if t948 = true then ((laws_markNodeS.f k t911 1).bind fun bt949 => ((laws_markNodeS.f k t914 bt949.1).bind fun bt951 => ((laws_markCost.f k t917 t920 t923 bt951.1).bind fun bt953 => (if bt953.1 < 0 then (laws_FnExactBestMap.j0 k l0 l1 t908 t927 true l2_0 l2_1 l2_2) else ((laws_eqPairS.f k t927 t908).bind fun t957 => (laws_FnExactBestMap.j0 k l0 l1 t908 t927 (!t957) l2_0 l2_1 l2_2)))))) else (some false)))) else (some false)))) else (some false)))) = some true:=by rw [if_pos rfl] at H;exact H
     clear H
     have H:=H1
     clear H1
     replace H:=Option.bind_eq_some_iff.mp H
     obtain ⟨t931,A250,H⟩:=H
     try dsimp only at H
     have A25:=Aside0.mk A250
     clear A250
     replace H:=Option.bind_eq_some_iff.mp H
     obtain ⟨t934,A260,H⟩:=H
     try dsimp only at H
     have A26:=Aside0.mk A260
     clear A260
     by_cases c27 : t934 = true
     ·subst c27
      have H1 : ((laws_toNodeS.f k l1).bind fun t935 => ((laws_eqNodeS.f k t914 t935).bind fun t938 => (if t938 = true then ((laws_toCost.f k l2_0 l2_1 l2_2).bind fun bt939 => ((laws_eqCost.f k t917 t920 t923 bt939.1 bt939.2.1 bt939.2.2).bind fun t948 => (if t948 = true then ((laws_markNodeS.f k t911 1).bind fun bt949 => ((laws_markNodeS.f k t914 bt949.1).bind fun bt951 => ((laws_markCost.f k t917 t920 t923 bt951.1).bind fun bt953 => (if bt953.1 < 0 then (laws_FnExactBestMap.j0 k l0 l1 t908 t927 true l2_0 l2_1 l2_2) else ((laws_eqPairS.f k t927 t908).bind fun t957 => (laws_FnExactBestMap.j0 k l0 l1 t908 t927 (!t957) l2_0 l2_1 l2_2)))))) else (some false)))) else (some false)))) = some true:=by rw [if_pos rfl] at H;exact H
      clear H
      have H:=H1
      clear H1
      replace H:=Option.bind_eq_some_iff.mp H
      obtain ⟨t935,A280,H⟩:=H
      try dsimp only at H
      have A28:=Aside0.mk A280
      clear A280
      replace H:=Option.bind_eq_some_iff.mp H
      obtain ⟨t938,A290,H⟩:=H
      try dsimp only at H
      have A29:=Aside0.mk A290
      clear A290
      by_cases c30 : t938 = true
      ·subst c30
       have H1 : ((laws_toCost.f k l2_0 l2_1 l2_2).bind fun bt939 => ((laws_eqCost.f k t917 t920 t923 bt939.1 bt939.2.1 bt939.2.2).bind fun t948 => (if t948 = true then ((laws_markNodeS.f k t911 1).bind fun bt949 => ((laws_markNodeS.f k t914 bt949.1).bind fun bt951 => ((laws_markCost.f k t917 t920 t923 bt951.1).bind fun bt953 => (if bt953.1 < 0 then (laws_FnExactBestMap.j0 k l0 l1 t908 t927 true l2_0 l2_1 l2_2) else ((laws_eqPairS.f k t927 t908).bind fun t957 => (laws_FnExactBestMap.j0 k l0 l1 t908 t927 (!t957) l2_0 l2_1 l2_2)))))) else (some false)))) = some true:=by rw [if_pos rfl] at H;exact H
       clear H
       have H:=H1
       clear H1
       replace H:=Option.bind_eq_some_iff.mp H
       obtain ⟨⟨t939,t942,t945⟩,A310,H⟩:=H
       try dsimp only at H
       have A31:=Aside0.mk A310
       clear A310
       replace H:=Option.bind_eq_some_iff.mp H
       obtain ⟨t948,A320,H⟩:=H
       try dsimp only at H
       have A32:=Aside0.mk A320
       clear A320
       by_cases c33 : t948 = true
       ·subst c33
        have H1 : ((laws_markNodeS.f k t911 1).bind fun bt949 => ((laws_markNodeS.f k t914 bt949.1).bind fun bt951 => ((laws_markCost.f k t917 t920 t923 bt951.1).bind fun bt953 => (if bt953.1 < 0 then (laws_FnExactBestMap.j0 k l0 l1 t908 t927 true l2_0 l2_1 l2_2) else ((laws_eqPairS.f k t927 t908).bind fun t957 => (laws_FnExactBestMap.j0 k l0 l1 t908 t927 (!t957) l2_0 l2_1 l2_2)))))) = some true:=by rw [if_pos rfl] at H;exact H
        clear H
        have H:=H1
        clear H1
        replace H:=Option.bind_eq_some_iff.mp H
        obtain ⟨⟨t949,t950⟩,A340,H⟩:=H
        try dsimp only at H
        have A34:=Aside0.mk A340
        clear A340
        replace H:=Option.bind_eq_some_iff.mp H
        obtain ⟨⟨t951,t952⟩,A350,H⟩:=H
        try dsimp only at H
        have A35:=Aside0.mk A350
        clear A350
        replace H:=Option.bind_eq_some_iff.mp H
        obtain ⟨⟨t953,t954,t955,t956⟩,A360,H⟩:=H
        try dsimp only at H
        have A36:=Aside0.mk A360
        clear A360
        have HC37:=Aside0.mk H
        clear H
        go_enter Try.func8,Try.ntmps8
        try go_wp2_with (first | ((with_reducible refine gate_dst (N:=5) rfl ?_);refine bx_ 5 #[.slice A2_0 l2_0.length c2_0,.slice A2_1 l2_1.length c2_1,.slice A2_2 l2_2.length c2_2] 25 ?_;intro gb889 hg w38 hbox hb;have BK889:=Aside0.mk (hbox);have GW889:=Aside0.mk ((by rw [hg];exact (bs_ HB) : w.heap.size ≤ gb889));have GE889:=Aside0.mk ((by rw [hg];exact (bs_ HB) : w.heap.size ≤ gb889));replace HB:=tB_ HB hb;clear hb hbox hg) | ((with_reducible refine gate_callee (f:=12) rfl ?_);refine gL_ (some 19) Try.func12 #[.slice A0 l0.length c0,.int .i64 1048576] ?_;(with_reducible refine (laws_szNodeS.calls _ _ l0 1048576 t890 _ (cx_ HR0 HB) HC0.out A4.out).mono ?_);rintro e w' ⟨rfl,⟨nd,rfl⟩⟩;refine ⟨_,rfl,?_⟩;(try (rw [drewN_self w38];generalize hq_ : World.drewN w38 _ = w38;have n0_ : Aside0 (w38.heap[gb889]? = some (.cells #[.slice A2_0 l2_0.length c2_0,.slice A2_1 l2_1.length c2_1,.slice A2_2 l2_2.length c2_2] 25 (0,0))):=⟨by rw [← hq_];exact (kx_ BK889.out)⟩;have n1_ : Aside0 (Below w.heap.size w w38):=⟨by rw [← hq_];exact ((bl_ HB).out)⟩;clear BK889 HB hq_;have BK889:=n0_;have HB:=n1_;clear n0_ n1_))) | ((with_reducible refine gate_callee (f:=12) rfl ?_);refine gL_ (some 24) Try.func12 #[.slice A1 l1.length c1,.int .i64 t890] ?_;(with_reducible refine (laws_szNodeS.calls _ _ l1 t890 t891 _ (cx_ HR1 HB) HC1.out A7.out).mono ?_);rintro e w' ⟨rfl,⟨nd,rfl⟩⟩;refine ⟨_,rfl,?_⟩;(try (rw [drewN_self w38];generalize hq_ : World.drewN w38 _ = w38;have n0_ : Aside0 (w38.heap[gb889]? = some (.cells #[.slice A2_0 l2_0.length c2_0,.slice A2_1 l2_1.length c2_1,.slice A2_2 l2_2.length c2_2] 25 (0,0))):=⟨by rw [← hq_];exact (kx_ BK889.out)⟩;have n1_ : Aside0 (Below w.heap.size w w38):=⟨by rw [← hq_];exact ((bl_ HB).out)⟩;clear BK889 HB hq_;have BK889:=n0_;have HB:=n1_;clear n0_ n1_));obtain ⟨hcz39_0,hcz39_1,hcz39_2,hfz39_0,hfz39_1,hfz39_2⟩:=bk3_ BK889) | ((with_reducible refine gate_callee (f:=13) rfl ?_);refine gL_ (some 29) Try.func13 #[.agg #[.slice A2_0 l2_0.length c2_0,.slice A2_1 l2_1.length c2_1,.slice A2_2 l2_2.length c2_2],.int .i64 t891] ?_;(with_reducible refine (laws_szCost.calls _ _ l2_0 _ _ l2_1 _ _ l2_2 t891 t892 _ (cx_ HR2_0 HB) HC2_0.out (cx_ HR2_1 HB) HC2_1.out (cx_ HR2_2 HB) HC2_2.out A10.out).mono ?_);rintro e w40 ⟨rfl,hb⟩;refine ⟨_,rfl,?_⟩;replace BK889:=tK_ BK889 hb;replace HB:=tB_ HB hb;(try clear hb)))
        have n0_:=Aside0.mk (blk_drew BK889.out)
        have n1_:=Aside0.mk (below_drew1 HB.out)
        clear BK889
        clear HB
        have BK889:=n0_
        have HB:=n1_
        clear n0_ n1_
        refine start_ (n:=8) (S:=fun w' => w'.cell? ⟨gb889,0,none⟩ = some (.slice A2_0 l2_0.length c2_0) ∧ w'.cell? ⟨gb889,1,none⟩ = some (.slice A2_1 l2_1.length c2_1) ∧ w'.cell? ⟨gb889,2,none⟩ = some (.slice A2_2 l2_2.length c2_2)) (ds:=[]) (ba_ 8 0) (by kernel_rfl) rfl rfl ⟨(blk_cell BK889.out 0).trans rfl,(blk_cell BK889.out 1).trans rfl,(blk_cell BK889.out 2).trans rfl⟩ (fun hHeld => ?_);refine with_tabW laws_FnExactBestMap.tab11 laws_FnExactBestMap.bits11 (fun HT_ HW_ => ?_)
        generalize w40.drew = w41 at BK889 HB hHeld ⊢
        refine pu_ 0 (some 32) (ba_ 8 1) rfl rfl (any_of HT_.out (by kernel_rfl)) ?_
        refine pu_ 2 (some 34) (ba_ 8 5) rfl rfl (any_of HT_.out (by kernel_rfl)) ?_
        refine ta_ 4 (some 36) (ba_ 8 21) rfl rfl (take_ofW HT_.out HW_.out (by kernel_rfl)) hHeld (by rintro w' ⟨s0,s1,s2⟩;go_simp;with_reducible rfl) ?_
        refine one_ (i:=1) (N:=some 33) (ba_ 8 23) rfl rfl (one_of HT_.out (by kernel_rfl)) (by decide) (fun K hK => ?_)
        refine goes_ Try.func15 (by kernel_rfl) rfl #[.slice A0 l0.length c0] (by rfl) rfl rfl (by (try simp only [List.map_toArray,List.map_cons,List.map_nil]);first | done | rfl | (simp only [List.length_drop,List.length_take];rfl)) ?_
        with_reducible refine (laws_toNodeS.calls k _ _ l0 t893 _ ?side1 ?side2 A15.out).mono ?_
        (case side1 => exact cx_ HR0 HB)
        (case side2 => exact HC0.out)
        rintro e w42 ⟨v894,rfl,ho0,hb⟩
        refine ⟨_,rfl,?_⟩
        have n0_:=Aside0.mk (Kd.R_lower ho0 (bs_ HB))
        have n1_:=tK_ BK889 hb
        have n2_:=tB_ HB hb
        clear BK889
        clear HB
        have HO895:=n0_
        have BK889:=n1_
        have HB:=n2_
        clear n0_ n1_ n2_
        (try clear hb)
        (try clear hb2)
        (try clear hk)
        (try clear hi)
        (try clear ho0)
        refine hK.out _ _ ⟨(blk_cell BK889.out 0).trans rfl,(blk_cell BK889.out 1).trans rfl,(blk_cell BK889.out 2).trans rfl⟩ (fun hHeld => ?_)
        clear hK K
        refine norm_ (a':=?_) ?_ ?_
        rotate_left
        ·show Act.put _ (some 33) _ = _
         simp only [Act.put,List.setIfInBounds_toArray,List.set_cons_zero,List.set_cons_succ,i64_w,i32_w]
         rfl
        refine one_ (i:=3) (N:=some 35) (ba_ 8 31) rfl rfl (one_of HT_.out (by kernel_rfl)) (by decide) (fun K hK => ?_)
        refine goes_ Try.func15 (by kernel_rfl) rfl #[.slice A1 l1.length c1] (by rfl) rfl rfl (by (try simp only [List.map_toArray,List.map_cons,List.map_nil]);first | done | rfl | (simp only [List.length_drop,List.length_take];rfl)) ?_
        with_reducible refine (laws_toNodeS.calls k _ _ l1 t896 _ ?side1 ?side2 A16.out).mono ?_
        (case side1 => exact cx_ HR1 HB)
        (case side2 => exact HC1.out)
        rintro e w43 ⟨v897,rfl,ho0,hb⟩
        refine ⟨_,rfl,?_⟩
        have n0_:=Aside0.mk (Kd.R_elder' (rx_ HO895.out) (Kd.R_base ho0) hb)
        have n1_:=Aside0.mk (Kd.R_lower (Kd.R_new' ho0 (Kd.R_lt (rx_ HO895.out))) (bs_ HB))
        have n2_:=tK_ BK889 hb
        have n3_:=tB_ HB hb
        clear HO895
        clear BK889
        clear HB
        have HO895:=n0_
        have HO898:=n1_
        have BK889:=n2_
        have HB:=n3_
        clear n0_ n1_ n2_ n3_
        (try clear hb)
        (try clear hb2)
        (try clear hk)
        (try clear hi)
        (try clear ho0)
        refine hK.out _ _ ⟨(blk_cell BK889.out 0).trans rfl,(blk_cell BK889.out 1).trans rfl,(blk_cell BK889.out 2).trans rfl⟩ (fun hHeld => ?_)
        clear hK K
        refine norm_ (a':=?_) ?_ ?_
        rotate_left
        ·show Act.put _ (some 35) _ = _
         simp only [Act.put,List.setIfInBounds_toArray,List.set_cons_zero,List.set_cons_succ,i64_w,i32_w]
         rfl
        refine one_ (i:=5) (N:=some 37) (ba_ 8 63) rfl rfl (one_of HT_.out (by kernel_rfl)) (by decide) (fun K hK => ?_)
        refine goes_ Try.func16 (by kernel_rfl) rfl #[.agg #[.slice A2_0 l2_0.length c2_0,.slice A2_1 l2_1.length c2_1,.slice A2_2 l2_2.length c2_2]] (by rfl) rfl rfl (by (try simp only [List.map_toArray,List.map_cons,List.map_nil]);first | done | rfl | (simp only [List.length_drop,List.length_take];rfl)) ?_
        with_reducible refine (laws_toCost.calls k _ _ l2_0 _ _ l2_1 _ _ l2_2 t899 t902 t905 _ ?side1 ?side2 ?side3 ?side4 ?side5 ?side6 A17.out).mono ?_
        (case side1 => exact cx_ HR2_0 HB)
        (case side2 => exact HC2_0.out)
        (case side3 => exact cx_ HR2_1 HB)
        (case side4 => exact HC2_1.out)
        (case side5 => exact cx_ HR2_2 HB)
        (case side6 => exact HC2_2.out)
        rintro e w44 ⟨v900,v903,v906,rfl,ho0,ho1,ho2,hb⟩
        refine ⟨_,rfl,?_⟩
        have n0_:=tR_ HO895 hb
        have n1_:=tR_ HO898 hb
        have n2_:=Aside0.mk (Kd.R_lower ho0 (bs_ HB))
        have n3_:=Aside0.mk (Kd.R_lower ho1 (bs_ HB))
        have n4_:=Aside0.mk (Kd.R_lower ho2 (bs_ HB))
        have n5_:=tK_ BK889 hb
        have n6_:=tB_ HB hb
        clear HO895
        clear HO898
        clear BK889
        clear HB
        have HO895:=n0_
        have HO898:=n1_
        have HO901:=n2_
        have HO904:=n3_
        have HO907:=n4_
        have BK889:=n5_
        have HB:=n6_
        clear n0_ n1_ n2_ n3_ n4_ n5_ n6_
        (try clear hb)
        (try clear hb2)
        (try clear hk)
        (try clear hi)
        (try clear ho0)
        (try clear ho1)
        (try clear ho2)
        obtain ⟨Ao45,co45,eo45⟩:=Kd.R_slice HO895.out
        (first | subst eo45 | (injection eo45 with f1_ f2_ f3_;have f4_:=f1_.symm;have f5_:=f3_.symm;clear f1_ f2_ f3_;subst f4_;subst f5_))
        obtain ⟨Ao46,co46,eo46⟩:=Kd.R_slice HO898.out
        (first | subst eo46 | (injection eo46 with f1_ f2_ f3_;have f4_:=f1_.symm;have f5_:=f3_.symm;clear f1_ f2_ f3_;subst f4_;subst f5_))
        obtain ⟨Ao47,co47,eo47⟩:=Kd.R_slice HO901.out
        (first | subst eo47 | (injection eo47 with f1_ f2_ f3_;have f4_:=f1_.symm;have f5_:=f3_.symm;clear f1_ f2_ f3_;subst f4_;subst f5_))
        obtain ⟨Ao48,co48,eo48⟩:=Kd.R_slice HO904.out
        (first | subst eo48 | (injection eo48 with f1_ f2_ f3_;have f4_:=f1_.symm;have f5_:=f3_.symm;clear f1_ f2_ f3_;subst f4_;subst f5_))
        obtain ⟨Ao49,co49,eo49⟩:=Kd.R_slice HO907.out
        (first | subst eo49 | (injection eo49 with f1_ f2_ f3_;have f4_:=f1_.symm;have f5_:=f3_.symm;clear f1_ f2_ f3_;subst f4_;subst f5_))
        refine hK.out _ _ ⟨(blk_cell BK889.out 0).trans rfl,(blk_cell BK889.out 1).trans rfl,(blk_cell BK889.out 2).trans rfl⟩ (fun hHeld => ?_)
        clear hK K
        refine norm_ (a':=?_) ?_ ?_
        rotate_left
        ·show Act.put _ (some 37) _ = _
         simp only [Act.put,List.setIfInBounds_toArray,List.set_cons_zero,List.set_cons_succ,i64_w,i32_w]
         rfl
        refine one_ (i:=6) (N:=some 38) (ba_ 8 127) rfl rfl (one_of HT_.out (by kernel_rfl)) (by decide) (fun K hK => ?_)
        refine goes_ Try.func33 (by kernel_rfl) rfl #[.slice Ao45 t893.length co45,.slice Ao46 t896.length co46,.agg #[.slice Ao47 t899.length co47,.slice Ao48 t902.length co48,.slice Ao49 t905.length co49]] (by rfl) rfl rfl (by (try simp only [List.map_toArray,List.map_cons,List.map_nil]);first | done | rfl | (simp only [List.length_drop,List.length_take];rfl)) ?_
        with_reducible refine (spec_BestMap.calls k _ _ t893 _ _ t896 _ _ t899 _ _ t902 _ _ t905 t908 _ ?side1 ?side2 ?side3 ?side4 ?side5 ?side6 ?side7 ?side8 ?side9 ?side10 A18.out).mono ?_
        (case side1 => exact cc_ (Kd.R_reads' HO895.out).2.2)
        (case side2 => exact (Kd.R_reads' HO895.out).2.1)
        (case side3 => exact cc_ (Kd.R_reads' HO898.out).2.2)
        (case side4 => exact (Kd.R_reads' HO898.out).2.1)
        (case side5 => exact cc_ (Kd.R_reads' HO901.out).2.2)
        (case side6 => exact (Kd.R_reads' HO901.out).2.1)
        (case side7 => exact cc_ (Kd.R_reads' HO904.out).2.2)
        (case side8 => exact (Kd.R_reads' HO904.out).2.1)
        (case side9 => exact cc_ (Kd.R_reads' HO907.out).2.2)
        (case side10 => exact (Kd.R_reads' HO907.out).2.1)
        rintro e w50 ⟨v909,rfl,ho0,hb⟩
        refine ⟨_,rfl,?_⟩
        have n0_:=tR_ HO895 hb
        have n1_:=tR_ HO898 hb
        have n2_:=tR_ HO901 hb
        have n3_:=tR_ HO904 hb
        have n4_:=tR_ HO907 hb
        have n5_:=Aside0.mk (Kd.R_lower ho0 (bs_ HB))
        have n6_:=Aside0.mk (blk_below (g:=gb889) (o:=.cells #[.slice A2_0 l2_0.length c2_0,.slice A2_1 l2_1.length c2_1,.slice A2_2 l2_2.length c2_2] 25 (0,0)) (by (with_reducible repeat (first | refine blk_drewN ?_ _ | refine blk_drew ?_ | refine blk_alloc ?_ _));exact BK889.out) hb)
        have n7_:=Aside0.mk (below_step (by repeat (first | (with_reducible first | exact HB.out | apply below_alloc | apply pw_below_drewN | apply below_drew1 | refine below_set ?_ GE889.out) | exact HB.out)) hb)
        clear HO895
        clear HO898
        clear HO901
        clear HO904
        clear HO907
        clear BK889
        clear HB
        have HO895:=n0_
        have HO898:=n1_
        have HO901:=n2_
        have HO904:=n3_
        have HO907:=n4_
        have HO910:=n5_
        have BK889:=n6_
        have HB:=n7_
        clear n0_ n1_ n2_ n3_ n4_ n5_ n6_ n7_
        (try clear hb)
        (try clear hb2)
        (try clear hk)
        (try clear hi)
        (try clear ho0)
        refine hK.out _ _ ⟨(blk_cell BK889.out 0).trans rfl,(blk_cell BK889.out 1).trans rfl,(blk_cell BK889.out 2).trans rfl⟩ (fun hHeld => ?_)
        clear hK K
        refine norm_ (a':=?_) ?_ ?_
        rotate_left
        ·show Act.put _ (some 38) _ = _
         simp only [Act.put,List.setIfInBounds_toArray,List.set_cons_zero,List.set_cons_succ,i64_w,i32_w]
         rfl
        refine pu_ 7 (some 8) (ba_ 8 255) rfl rfl (any_of HT_.out (by kernel_rfl)) ?_
        refine done_ (done_of HT_.out (by kernel_rfl)) ?_
        try go_wp2_with (first | ((with_reducible refine gate_callee (f:=15) rfl ?_);refine goesL_ (some 40) rfl rfl Try.func15 (by kernel_rfl) rfl #[.slice A0 l0.length c0] rfl (by (try simp only [List.map_toArray,List.map_cons,List.map_nil]);first | done | rfl | (simp only [List.length_drop,List.length_take];rfl)) ?_;(with_reducible refine (laws_toNodeS.calls k _ _ l0 t911 _ ?side1 ?side2 A19.out).mono ?_);(case side1 => repeat (first | exact (Kd.C_below HR0.out HB.out) | (with_reducible refine Kd.C_alloc ?_ _) | (with_reducible refine Kd.C_drewN ?_ _) | (with_reducible refine Kd.C_drew ?_)));(case side2 => exact HC0.out);rintro e w51 ⟨v912,rfl,ho0,hb⟩;refine ⟨_,rfl,?_⟩;have n0_:=Aside0.mk (Kd.R_elder' (by (with_reducible repeat (first | apply Kd.R_alloc | apply Kd.R_drewN | apply Kd.R_drew));exact HO895.out) (Kd.R_base ho0) hb);have n1_:=Aside0.mk (Kd.R_elder' (by (with_reducible repeat (first | apply Kd.R_alloc | apply Kd.R_drewN | apply Kd.R_drew));exact HO898.out) (Kd.R_base ho0) hb);have n2_:=Aside0.mk (Kd.R_below (by (with_reducible repeat (first | apply Kd.R_alloc | apply Kd.R_drewN | apply Kd.R_drew));exact HO901.out) hb);have n3_:=Aside0.mk (Kd.R_below (by (with_reducible repeat (first | apply Kd.R_alloc | apply Kd.R_drewN | apply Kd.R_drew));exact HO904.out) hb);have n4_:=Aside0.mk (Kd.R_below (by (with_reducible repeat (first | apply Kd.R_alloc | apply Kd.R_drewN | apply Kd.R_drew));exact HO907.out) hb);have n5_:=Aside0.mk (Kd.R_below (by (with_reducible repeat (first | apply Kd.R_alloc | apply Kd.R_drewN | apply Kd.R_drew));exact HO910.out) hb);have n6_:=Aside0.mk (Kd.R_lower (Kd.R_new' (Kd.R_new' ho0 (Kd.R_lt (by (with_reducible repeat (first | apply Kd.R_alloc | apply Kd.R_drewN | apply Kd.R_drew));exact HO895.out))) (Kd.R_lt (by (with_reducible repeat (first | apply Kd.R_alloc | apply Kd.R_drewN | apply Kd.R_drew));exact HO898.out))) (below_size (by repeat (first | (with_reducible first | exact HB.out | apply below_alloc | apply pw_below_drewN | apply below_drew1 | refine below_set ?_ GE889.out) | exact HB.out))));have n7_:=Aside0.mk (blk_below (g:=gb889) (o:=.cells #[.slice A2_0 l2_0.length c2_0,.slice A2_1 l2_1.length c2_1,.slice A2_2 l2_2.length c2_2] 25 (0,0)) (by (with_reducible repeat (first | refine blk_drewN ?_ _ | refine blk_drew ?_ | refine blk_alloc ?_ _));exact BK889.out) hb);have n8_:=Aside0.mk (below_step (by repeat (first | (with_reducible first | exact HB.out | apply below_alloc | apply pw_below_drewN | apply below_drew1 | refine below_set ?_ GE889.out) | exact HB.out)) hb);clear HO895;clear HO898;clear HO901;clear HO904;clear HO907;clear HO910;clear BK889;clear HB;have HO895:=n0_;have HO898:=n1_;have HO901:=n2_;have HO904:=n3_;have HO907:=n4_;have HO910:=n5_;have HO913:=n6_;have BK889:=n7_;have HB:=n8_;clear n0_ n1_ n2_ n3_ n4_ n5_ n6_ n7_ n8_;(try clear hb);(try clear hb2);(try clear hk);(try clear hi);(try clear ho0)) | ((with_reducible refine gate_callee (f:=15) rfl ?_);refine goesL_ (some 42) rfl rfl Try.func15 (by kernel_rfl) rfl #[.slice A1 l1.length c1] rfl (by (try simp only [List.map_toArray,List.map_cons,List.map_nil]);first | done | rfl | (simp only [List.length_drop,List.length_take];rfl)) ?_;(with_reducible refine (laws_toNodeS.calls k _ _ l1 t914 _ ?side1 ?side2 A20.out).mono ?_);(case side1 => repeat (first | exact (Kd.C_below HR1.out HB.out) | (with_reducible refine Kd.C_alloc ?_ _) | (with_reducible refine Kd.C_drewN ?_ _) | (with_reducible refine Kd.C_drew ?_)));(case side2 => exact HC1.out);rintro e w52 ⟨v915,rfl,ho0,hb⟩;refine ⟨_,rfl,?_⟩;have n0_:=Aside0.mk (Kd.R_elder' (by (with_reducible repeat (first | apply Kd.R_alloc | apply Kd.R_drewN | apply Kd.R_drew));exact HO895.out) (Kd.R_base ho0) hb);have n1_:=Aside0.mk (Kd.R_elder' (by (with_reducible repeat (first | apply Kd.R_alloc | apply Kd.R_drewN | apply Kd.R_drew));exact HO898.out) (Kd.R_base ho0) hb);have n2_:=Aside0.mk (Kd.R_below (by (with_reducible repeat (first | apply Kd.R_alloc | apply Kd.R_drewN | apply Kd.R_drew));exact HO901.out) hb);have n3_:=Aside0.mk (Kd.R_below (by (with_reducible repeat (first | apply Kd.R_alloc | apply Kd.R_drewN | apply Kd.R_drew));exact HO904.out) hb);have n4_:=Aside0.mk (Kd.R_below (by (with_reducible repeat (first | apply Kd.R_alloc | apply Kd.R_drewN | apply Kd.R_drew));exact HO907.out) hb);have n5_:=Aside0.mk (Kd.R_below (by (with_reducible repeat (first | apply Kd.R_alloc | apply Kd.R_drewN | apply Kd.R_drew));exact HO910.out) hb);have n6_:=Aside0.mk (Kd.R_elder' (by (with_reducible repeat (first | apply Kd.R_alloc | apply Kd.R_drewN | apply Kd.R_drew));exact HO913.out) (Kd.R_base ho0) hb);have n7_:=Aside0.mk (Kd.R_lower (Kd.R_new' (Kd.R_new' (Kd.R_new' ho0 (Kd.R_lt (by (with_reducible repeat (first | apply Kd.R_alloc | apply Kd.R_drewN | apply Kd.R_drew));exact HO895.out))) (Kd.R_lt (by (with_reducible repeat (first | apply Kd.R_alloc | apply Kd.R_drewN | apply Kd.R_drew));exact HO898.out))) (Kd.R_lt (by (with_reducible repeat (first | apply Kd.R_alloc | apply Kd.R_drewN | apply Kd.R_drew));exact HO913.out))) (below_size (by repeat (first | (with_reducible first | exact HB.out | apply below_alloc | apply pw_below_drewN | apply below_drew1 | refine below_set ?_ GE889.out) | exact HB.out))));have n8_:=Aside0.mk (blk_below (g:=gb889) (o:=.cells #[.slice A2_0 l2_0.length c2_0,.slice A2_1 l2_1.length c2_1,.slice A2_2 l2_2.length c2_2] 25 (0,0)) (by (with_reducible repeat (first | refine blk_drewN ?_ _ | refine blk_drew ?_ | refine blk_alloc ?_ _));exact BK889.out) hb);have n9_:=Aside0.mk (below_step (by repeat (first | (with_reducible first | exact HB.out | apply below_alloc | apply pw_below_drewN | apply below_drew1 | refine below_set ?_ GE889.out) | exact HB.out)) hb);clear HO895;clear HO898;clear HO901;clear HO904;clear HO907;clear HO910;clear HO913;clear BK889;clear HB;have HO895:=n0_;have HO898:=n1_;have HO901:=n2_;have HO904:=n3_;have HO907:=n4_;have HO910:=n5_;have HO913:=n6_;have HO916:=n7_;have BK889:=n8_;have HB:=n9_;clear n0_ n1_ n2_ n3_ n4_ n5_ n6_ n7_ n8_ n9_;(try clear hb);(try clear hb2);(try clear hk);(try clear hi);(try clear ho0);have hcz53_0 : w52.cell? ⟨gb889,0,none⟩ = some (.slice A2_0 l2_0.length c2_0):=(blk_cell BK889.out 0).trans rfl;have hcz53_1 : w52.cell? ⟨gb889,1,none⟩ = some (.slice A2_1 l2_1.length c2_1):=(blk_cell BK889.out 1).trans rfl;have hcz53_2 : w52.cell? ⟨gb889,2,none⟩ = some (.slice A2_2 l2_2.length c2_2):=(blk_cell BK889.out 2).trans rfl;have hfz53_0:=blk_frozen BK889.out 0;have hfz53_1:=blk_frozen BK889.out 1;have hfz53_2:=blk_frozen BK889.out 2) | ((with_reducible refine gate_callee (f:=16) rfl ?_);refine goesL_ (some 44) rfl rfl Try.func16 (by kernel_rfl) rfl #[.agg #[.slice A2_0 l2_0.length c2_0,.slice A2_1 l2_1.length c2_1,.slice A2_2 l2_2.length c2_2]] rfl (by (try simp only [List.map_toArray,List.map_cons,List.map_nil]);first | done | rfl | (simp only [List.length_drop,List.length_take];rfl)) ?_;(with_reducible refine (laws_toCost.calls k _ _ l2_0 _ _ l2_1 _ _ l2_2 t917 t920 t923 _ ?side1 ?side2 ?side3 ?side4 ?side5 ?side6 A21.out).mono ?_);(case side1 => repeat (first | exact (Kd.C_below HR2_0.out HB.out) | (with_reducible refine Kd.C_alloc ?_ _) | (with_reducible refine Kd.C_drewN ?_ _) | (with_reducible refine Kd.C_drew ?_)));(case side2 => exact HC2_0.out);(case side3 => repeat (first | exact (Kd.C_below HR2_1.out HB.out) | (with_reducible refine Kd.C_alloc ?_ _) | (with_reducible refine Kd.C_drewN ?_ _) | (with_reducible refine Kd.C_drew ?_)));(case side4 => exact HC2_1.out);(case side5 => repeat (first | exact (Kd.C_below HR2_2.out HB.out) | (with_reducible refine Kd.C_alloc ?_ _) | (with_reducible refine Kd.C_drewN ?_ _) | (with_reducible refine Kd.C_drew ?_)));(case side6 => exact HC2_2.out);rintro e w54 ⟨v918,v921,v924,rfl,ho0,ho1,ho2,hb⟩;refine ⟨_,rfl,?_⟩;have n0_:=Aside0.mk (Kd.R_below (by (with_reducible repeat (first | apply Kd.R_alloc | apply Kd.R_drewN | apply Kd.R_drew));exact HO895.out) hb);have n1_:=Aside0.mk (Kd.R_below (by (with_reducible repeat (first | apply Kd.R_alloc | apply Kd.R_drewN | apply Kd.R_drew));exact HO898.out) hb);have n2_:=Aside0.mk (Kd.R_mono (Kd.R_told (Kd.R_told (Kd.R_told (Kd.R_old (by (with_reducible repeat (first | apply Kd.R_alloc | apply Kd.R_drewN | apply Kd.R_drew));exact HO901.out) hb) (Kd.R_base ho0)) (Kd.R_base ho1)) (Kd.R_base ho2)) (fun _ h_ => h_.1));have n3_:=Aside0.mk (Kd.R_mono (Kd.R_told (Kd.R_told (Kd.R_told (Kd.R_old (by (with_reducible repeat (first | apply Kd.R_alloc | apply Kd.R_drewN | apply Kd.R_drew));exact HO904.out) hb) (Kd.R_base ho0)) (Kd.R_base ho1)) (Kd.R_base ho2)) (fun _ h_ => h_.1));have n4_:=Aside0.mk (Kd.R_mono (Kd.R_told (Kd.R_told (Kd.R_told (Kd.R_old (by (with_reducible repeat (first | apply Kd.R_alloc | apply Kd.R_drewN | apply Kd.R_drew));exact HO907.out) hb) (Kd.R_base ho0)) (Kd.R_base ho1)) (Kd.R_base ho2)) (fun _ h_ => h_.1));have n5_:=Aside0.mk (Kd.R_below (by (with_reducible repeat (first | apply Kd.R_alloc | apply Kd.R_drewN | apply Kd.R_drew));exact HO910.out) hb);have n6_:=Aside0.mk (Kd.R_below (by (with_reducible repeat (first | apply Kd.R_alloc | apply Kd.R_drewN | apply Kd.R_drew));exact HO913.out) hb);have n7_:=Aside0.mk (Kd.R_below (by (with_reducible repeat (first | apply Kd.R_alloc | apply Kd.R_drewN | apply Kd.R_drew));exact HO916.out) hb);have n8_:=Aside0.mk (Kd.R_lower (Kd.R_new' (Kd.R_new' (Kd.R_new' ho0 (Kd.R_lt (by (with_reducible repeat (first | apply Kd.R_alloc | apply Kd.R_drewN | apply Kd.R_drew));exact HO901.out))) (Kd.R_lt (by (with_reducible repeat (first | apply Kd.R_alloc | apply Kd.R_drewN | apply Kd.R_drew));exact HO904.out))) (Kd.R_lt (by (with_reducible repeat (first | apply Kd.R_alloc | apply Kd.R_drewN | apply Kd.R_drew));exact HO907.out))) (below_size (by repeat (first | (with_reducible first | exact HB.out | apply below_alloc | apply pw_below_drewN | apply below_drew1 | refine below_set ?_ GE889.out) | exact HB.out))));have n9_:=Aside0.mk (Kd.R_lower (Kd.R_new' (Kd.R_new' (Kd.R_new' ho1 (Kd.R_lt (by (with_reducible repeat (first | apply Kd.R_alloc | apply Kd.R_drewN | apply Kd.R_drew));exact HO901.out))) (Kd.R_lt (by (with_reducible repeat (first | apply Kd.R_alloc | apply Kd.R_drewN | apply Kd.R_drew));exact HO904.out))) (Kd.R_lt (by (with_reducible repeat (first | apply Kd.R_alloc | apply Kd.R_drewN | apply Kd.R_drew));exact HO907.out))) (below_size (by repeat (first | (with_reducible first | exact HB.out | apply below_alloc | apply pw_below_drewN | apply below_drew1 | refine below_set ?_ GE889.out) | exact HB.out))));have n10_:=Aside0.mk (Kd.R_lower (Kd.R_new' (Kd.R_new' (Kd.R_new' ho2 (Kd.R_lt (by (with_reducible repeat (first | apply Kd.R_alloc | apply Kd.R_drewN | apply Kd.R_drew));exact HO901.out))) (Kd.R_lt (by (with_reducible repeat (first | apply Kd.R_alloc | apply Kd.R_drewN | apply Kd.R_drew));exact HO904.out))) (Kd.R_lt (by (with_reducible repeat (first | apply Kd.R_alloc | apply Kd.R_drewN | apply Kd.R_drew));exact HO907.out))) (below_size (by repeat (first | (with_reducible first | exact HB.out | apply below_alloc | apply pw_below_drewN | apply below_drew1 | refine below_set ?_ GE889.out) | exact HB.out))));have n11_:=Aside0.mk (blk_below (g:=gb889) (o:=.cells #[.slice A2_0 l2_0.length c2_0,.slice A2_1 l2_1.length c2_1,.slice A2_2 l2_2.length c2_2] 25 (0,0)) (by (with_reducible repeat (first | refine blk_drewN ?_ _ | refine blk_drew ?_ | refine blk_alloc ?_ _));exact BK889.out) hb);have n12_:=Aside0.mk (below_step (by repeat (first | (with_reducible first | exact HB.out | apply below_alloc | apply pw_below_drewN | apply below_drew1 | refine below_set ?_ GE889.out) | exact HB.out)) hb);clear HO895;clear HO898;clear HO901;clear HO904;clear HO907;clear HO910;clear HO913;clear HO916;clear BK889;clear HB;have HO895:=n0_;have HO898:=n1_;have HO901:=n2_;have HO904:=n3_;have HO907:=n4_;have HO910:=n5_;have HO913:=n6_;have HO916:=n7_;have HO919:=n8_;have HO922:=n9_;have HO925:=n10_;have BK889:=n11_;have HB:=n12_;clear n0_ n1_ n2_ n3_ n4_ n5_ n6_ n7_ n8_ n9_ n10_ n11_ n12_;(try clear hb);(try clear hb2);(try clear hk);(try clear hi);(try clear ho0);(try clear ho1);(try clear ho2)) | ((with_reducible refine gate_dst (N:=11) rfl ?_);refine box_event ?hg (N:=11) ?hd (cs:=#[.slice none 0 0,.slice none 0 0,.slice none 0 0]) (t:=31) ?hr ?_;(case hd => rfl);(case hg => rfl);(case hr => first | (go_simp;done) | (go_simp;rfl));intro gb926 hg w55 hbox hb;have n0_:=Aside0.mk (Kd.R_below (by (with_reducible repeat (first | apply Kd.R_alloc | apply Kd.R_drewN | apply Kd.R_drew));exact HO895.out) hb);have n1_:=Aside0.mk (Kd.R_below (by (with_reducible repeat (first | apply Kd.R_alloc | apply Kd.R_drewN | apply Kd.R_drew));exact HO898.out) hb);have n2_:=Aside0.mk (Kd.R_below (by (with_reducible repeat (first | apply Kd.R_alloc | apply Kd.R_drewN | apply Kd.R_drew));exact HO901.out) hb);have n3_:=Aside0.mk (Kd.R_below (by (with_reducible repeat (first | apply Kd.R_alloc | apply Kd.R_drewN | apply Kd.R_drew));exact HO904.out) hb);have n4_:=Aside0.mk (Kd.R_below (by (with_reducible repeat (first | apply Kd.R_alloc | apply Kd.R_drewN | apply Kd.R_drew));exact HO907.out) hb);have n5_:=Aside0.mk (Kd.R_below (by (with_reducible repeat (first | apply Kd.R_alloc | apply Kd.R_drewN | apply Kd.R_drew));exact HO910.out) hb);have n6_:=Aside0.mk (Kd.R_below (by (with_reducible repeat (first | apply Kd.R_alloc | apply Kd.R_drewN | apply Kd.R_drew));exact HO913.out) hb);have n7_:=Aside0.mk (Kd.R_below (by (with_reducible repeat (first | apply Kd.R_alloc | apply Kd.R_drewN | apply Kd.R_drew));exact HO916.out) hb);have n8_:=Aside0.mk (Kd.R_below (by (with_reducible repeat (first | apply Kd.R_alloc | apply Kd.R_drewN | apply Kd.R_drew));exact HO919.out) hb);have n9_:=Aside0.mk (Kd.R_below (by (with_reducible repeat (first | apply Kd.R_alloc | apply Kd.R_drewN | apply Kd.R_drew));exact HO922.out) hb);have n10_:=Aside0.mk (Kd.R_below (by (with_reducible repeat (first | apply Kd.R_alloc | apply Kd.R_drewN | apply Kd.R_drew));exact HO925.out) hb);have n11_:=Aside0.mk (blk_below (g:=gb889) (o:=.cells #[.slice A2_0 l2_0.length c2_0,.slice A2_1 l2_1.length c2_1,.slice A2_2 l2_2.length c2_2] 25 (0,0)) (by (with_reducible repeat (first | refine blk_drewN ?_ _ | refine blk_drew ?_ | refine blk_alloc ?_ _));exact BK889.out) hb);have n12_:=Aside0.mk (below_step (by repeat (first | (with_reducible first | exact HB.out | apply below_alloc | apply pw_below_drewN | apply below_drew1 | refine below_set ?_ GE889.out) | exact HB.out)) hb);have n13_:=Aside0.mk (hbox);have n14_:=Aside0.mk ((by rw [hg];exact (below_size (by repeat (first | (with_reducible first | exact HB.out | apply below_alloc | apply pw_below_drewN | apply below_drew1 | refine below_set ?_ GE889.out) | exact HB.out))) : w.heap.size ≤ gb926));have n15_:=Aside0.mk ((by rw [hg];exact (below_size (by repeat (first | (with_reducible first | exact HB.out | apply below_alloc | apply pw_below_drewN | apply below_drew1 | refine below_set ?_ GE889.out) | exact HB.out))) : w.heap.size ≤ gb926));have n16_:=Aside0.mk ((by rw [hg];exact Nat.ne_of_lt (blk_lt (g:=gb889) (o:=.cells #[.slice A2_0 l2_0.length c2_0,.slice A2_1 l2_1.length c2_1,.slice A2_2 l2_2.length c2_2] 25 (0,0)) (by (with_reducible repeat (first | refine blk_drewN ?_ _ | refine blk_drew ?_ | refine blk_alloc ?_ _));exact BK889.out)) : gb889 ≠ gb926));have n17_:=Aside0.mk ((by rw [hg];exact Nat.ne_of_gt (blk_lt (g:=gb889) (o:=.cells #[.slice A2_0 l2_0.length c2_0,.slice A2_1 l2_1.length c2_1,.slice A2_2 l2_2.length c2_2] 25 (0,0)) (by (with_reducible repeat (first | refine blk_drewN ?_ _ | refine blk_drew ?_ | refine blk_alloc ?_ _));exact BK889.out)) : gb926 ≠ gb889));clear HO895;clear HO898;clear HO901;clear HO904;clear HO907;clear HO910;clear HO913;clear HO916;clear HO919;clear HO922;clear HO925;clear BK889;clear HB;have HO895:=n0_;have HO898:=n1_;have HO901:=n2_;have HO904:=n3_;have HO907:=n4_;have HO910:=n5_;have HO913:=n6_;have HO916:=n7_;have HO919:=n8_;have HO922:=n9_;have HO925:=n10_;have BK889:=n11_;have HB:=n12_;have BK926:=n13_;have GW926:=n14_;have GE926:=n15_;have NB889_926:=n16_;have NB926_889:=n17_;clear n0_ n1_ n2_ n3_ n4_ n5_ n6_ n7_ n8_ n9_ n10_ n11_ n12_ n13_ n14_ n15_ n16_ n17_;clear hb hbox hg;obtain ⟨Ao56,co56,eo56⟩:=Kd.R_slice HO919.out;subst eo56;have hnb57:=NB926_889.out;have hnc57:=NB889_926.out;have hcz58_0 : w55.cell? ⟨gb926,0,none⟩ = some (.slice none 0 0):=(blk_cell BK926.out 0).trans rfl;have hcz58_1 : w55.cell? ⟨gb926,1,none⟩ = some (.slice none 0 0):=(blk_cell BK926.out 1).trans rfl;have hcz58_2 : w55.cell? ⟨gb926,2,none⟩ = some (.slice none 0 0):=(blk_cell BK926.out 2).trans rfl;have hfz58_0:=blk_frozen BK926.out 0;have hfz58_1:=blk_frozen BK926.out 1;have hfz58_2:=blk_frozen BK926.out 2;obtain ⟨Ao59,co59,eo59⟩:=Kd.R_slice HO922.out;subst eo59;obtain ⟨Ao60,co60,eo60⟩:=Kd.R_slice HO925.out;subst eo60;obtain ⟨Ao61,co61,eo61⟩:=Kd.R_slice HO913.out;subst eo61;obtain ⟨Ao62,co62,eo62⟩:=Kd.R_slice HO916.out;subst eo62) | ((with_reducible refine gate_callee (f:=34) rfl ?_);refine goesL_ (some 48) rfl rfl Try.func34 (by kernel_rfl) rfl #[.slice Ao61 t911.length co61,.slice Ao62 t914.length co62,.agg #[.slice Ao56 t917.length co56,.slice Ao59 t920.length co59,.slice Ao60 t923.length co60]] rfl (by (try simp only [List.map_toArray,List.map_cons,List.map_nil]);first | done | rfl | (simp only [List.length_drop,List.length_take];rfl)) ?_;(with_reducible refine (impl_BestMap.calls k _ _ t911 _ _ t914 _ _ t917 _ _ t920 _ _ t923 t927 _ ?side1 ?side2 ?side3 ?side4 ?side5 ?side6 ?side7 ?side8 ?side9 ?side10 A22.out).mono ?_);(case side1 => refine (Kd.R_reads' (e:=53) (base:=w.heap.size) (ok:=fun k_ => (((True ∧ some k_ ≠ (.slice Ao45 t893.length co45 : Value).ownBlock) ∧ some k_ ≠ (.slice Ao46 t896.length co46 : Value).ownBlock) ∧ some k_ ≠ (.slice Ao62 t914.length co62 : Value).ownBlock)) (n:=t911.length) (c:=co61) ?_).2.2;exact (by (with_reducible repeat (first | apply Kd.R_alloc | apply Kd.R_drewN | apply Kd.R_drew));exact (Kd.R_mono (Kd.R_far (p:=⟨gb926,2,none⟩) (Kd.R_far (p:=⟨gb926,1,none⟩) (Kd.R_far (p:=⟨gb926,0,none⟩) (Kd.R_types HO913.out BK926.out (by decide)) (fun _ hk => hk.2) (.slice Ao56 t917.length co56)) (fun _ hk => hk.2) (.slice Ao59 t920.length co59)) (fun _ hk => hk.2) (.slice Ao60 t923.length co60)) (fun _ h_ => h_.1))));(case side2 => exact (Kd.R_reads' HO913.out).2.1);(case side3 => refine (Kd.R_reads' (e:=53) (base:=w.heap.size) (ok:=fun k_ => (((True ∧ some k_ ≠ (.slice Ao45 t893.length co45 : Value).ownBlock) ∧ some k_ ≠ (.slice Ao46 t896.length co46 : Value).ownBlock) ∧ some k_ ≠ (.slice Ao61 t911.length co61 : Value).ownBlock)) (n:=t914.length) (c:=co62) ?_).2.2;exact (by (with_reducible repeat (first | apply Kd.R_alloc | apply Kd.R_drewN | apply Kd.R_drew));exact (Kd.R_mono (Kd.R_far (p:=⟨gb926,2,none⟩) (Kd.R_far (p:=⟨gb926,1,none⟩) (Kd.R_far (p:=⟨gb926,0,none⟩) (Kd.R_types HO916.out BK926.out (by decide)) (fun _ hk => hk.2) (.slice Ao56 t917.length co56)) (fun _ hk => hk.2) (.slice Ao59 t920.length co59)) (fun _ hk => hk.2) (.slice Ao60 t923.length co60)) (fun _ h_ => h_.1))));(case side4 => exact (Kd.R_reads' HO916.out).2.1);(case side5 => refine (Kd.R_reads' (e:=3) (base:=w.heap.size) (ok:=fun k_ => ((((some k_ ≠ (.slice Ao59 t920.length co59 : Value).ownBlock ∧ some k_ ≠ (.slice Ao60 t923.length co60 : Value).ownBlock) ∧ some k_ ≠ (.slice Ao47 t899.length co47 : Value).ownBlock) ∧ some k_ ≠ (.slice Ao48 t902.length co48 : Value).ownBlock) ∧ some k_ ≠ (.slice Ao49 t905.length co49 : Value).ownBlock)) (n:=t917.length) (c:=co56) ?_).2.2;exact (by (with_reducible repeat (first | apply Kd.R_alloc | apply Kd.R_drewN | apply Kd.R_drew));exact (Kd.R_mono (Kd.R_far (p:=⟨gb926,2,none⟩) (Kd.R_far (p:=⟨gb926,1,none⟩) (Kd.R_far (p:=⟨gb926,0,none⟩) (Kd.R_types HO919.out BK926.out (by decide)) (fun _ hk => hk.2) (.slice Ao56 t917.length co56)) (fun _ hk => hk.2) (.slice Ao59 t920.length co59)) (fun _ hk => hk.2) (.slice Ao60 t923.length co60)) (fun _ h_ => h_.1))));(case side6 => exact (Kd.R_reads' HO919.out).2.1);(case side7 => refine (Kd.R_reads' (e:=3) (base:=w.heap.size) (ok:=fun k_ => ((((some k_ ≠ (.slice Ao56 t917.length co56 : Value).ownBlock ∧ some k_ ≠ (.slice Ao60 t923.length co60 : Value).ownBlock) ∧ some k_ ≠ (.slice Ao47 t899.length co47 : Value).ownBlock) ∧ some k_ ≠ (.slice Ao48 t902.length co48 : Value).ownBlock) ∧ some k_ ≠ (.slice Ao49 t905.length co49 : Value).ownBlock)) (n:=t920.length) (c:=co59) ?_).2.2;exact (by (with_reducible repeat (first | apply Kd.R_alloc | apply Kd.R_drewN | apply Kd.R_drew));exact (Kd.R_mono (Kd.R_far (p:=⟨gb926,2,none⟩) (Kd.R_far (p:=⟨gb926,1,none⟩) (Kd.R_far (p:=⟨gb926,0,none⟩) (Kd.R_types HO922.out BK926.out (by decide)) (fun _ hk => hk.2) (.slice Ao56 t917.length co56)) (fun _ hk => hk.2) (.slice Ao59 t920.length co59)) (fun _ hk => hk.2) (.slice Ao60 t923.length co60)) (fun _ h_ => h_.1))));(case side8 => exact (Kd.R_reads' HO922.out).2.1);(case side9 => refine (Kd.R_reads' (e:=3) (base:=w.heap.size) (ok:=fun k_ => ((((some k_ ≠ (.slice Ao56 t917.length co56 : Value).ownBlock ∧ some k_ ≠ (.slice Ao59 t920.length co59 : Value).ownBlock) ∧ some k_ ≠ (.slice Ao47 t899.length co47 : Value).ownBlock) ∧ some k_ ≠ (.slice Ao48 t902.length co48 : Value).ownBlock) ∧ some k_ ≠ (.slice Ao49 t905.length co49 : Value).ownBlock)) (n:=t923.length) (c:=co60) ?_).2.2;exact (by (with_reducible repeat (first | apply Kd.R_alloc | apply Kd.R_drewN | apply Kd.R_drew));exact (Kd.R_mono (Kd.R_far (p:=⟨gb926,2,none⟩) (Kd.R_far (p:=⟨gb926,1,none⟩) (Kd.R_far (p:=⟨gb926,0,none⟩) (Kd.R_types HO925.out BK926.out (by decide)) (fun _ hk => hk.2) (.slice Ao56 t917.length co56)) (fun _ hk => hk.2) (.slice Ao59 t920.length co59)) (fun _ hk => hk.2) (.slice Ao60 t923.length co60)) (fun _ h_ => h_.1))));(case side10 => exact (Kd.R_reads' HO925.out).2.1);rintro e w63 ⟨v928,rfl,ho0,hb⟩;refine ⟨_,rfl,?_⟩;have n0_:=Aside0.mk (Kd.R_below (by (with_reducible repeat (first | apply Kd.R_alloc | apply Kd.R_drewN | apply Kd.R_drew));exact (Kd.R_mono (Kd.R_far (p:=⟨gb926,2,none⟩) (Kd.R_far (p:=⟨gb926,1,none⟩) (Kd.R_far (p:=⟨gb926,0,none⟩) (Kd.R_types HO895.out BK926.out (by decide)) (fun _ hk => hk.2) (.slice Ao56 t917.length co56)) (fun _ hk => hk.2) (.slice Ao59 t920.length co59)) (fun _ hk => hk.2) (.slice Ao60 t923.length co60)) (fun _ h_ => h_.1))) hb);have n1_:=Aside0.mk (Kd.R_below (by (with_reducible repeat (first | apply Kd.R_alloc | apply Kd.R_drewN | apply Kd.R_drew));exact (Kd.R_mono (Kd.R_far (p:=⟨gb926,2,none⟩) (Kd.R_far (p:=⟨gb926,1,none⟩) (Kd.R_far (p:=⟨gb926,0,none⟩) (Kd.R_types HO898.out BK926.out (by decide)) (fun _ hk => hk.2) (.slice Ao56 t917.length co56)) (fun _ hk => hk.2) (.slice Ao59 t920.length co59)) (fun _ hk => hk.2) (.slice Ao60 t923.length co60)) (fun _ h_ => h_.1))) hb);have n2_:=Aside0.mk (Kd.R_below (by (with_reducible repeat (first | apply Kd.R_alloc | apply Kd.R_drewN | apply Kd.R_drew));exact (Kd.R_mono (Kd.R_far (p:=⟨gb926,2,none⟩) (Kd.R_far (p:=⟨gb926,1,none⟩) (Kd.R_far (p:=⟨gb926,0,none⟩) (Kd.R_types HO901.out BK926.out (by decide)) (fun _ hk => hk.2) (.slice Ao56 t917.length co56)) (fun _ hk => hk.2) (.slice Ao59 t920.length co59)) (fun _ hk => hk.2) (.slice Ao60 t923.length co60)) (fun _ h_ => h_.1))) hb);have n3_:=Aside0.mk (Kd.R_below (by (with_reducible repeat (first | apply Kd.R_alloc | apply Kd.R_drewN | apply Kd.R_drew));exact (Kd.R_mono (Kd.R_far (p:=⟨gb926,2,none⟩) (Kd.R_far (p:=⟨gb926,1,none⟩) (Kd.R_far (p:=⟨gb926,0,none⟩) (Kd.R_types HO904.out BK926.out (by decide)) (fun _ hk => hk.2) (.slice Ao56 t917.length co56)) (fun _ hk => hk.2) (.slice Ao59 t920.length co59)) (fun _ hk => hk.2) (.slice Ao60 t923.length co60)) (fun _ h_ => h_.1))) hb);have n4_:=Aside0.mk (Kd.R_below (by (with_reducible repeat (first | apply Kd.R_alloc | apply Kd.R_drewN | apply Kd.R_drew));exact (Kd.R_mono (Kd.R_far (p:=⟨gb926,2,none⟩) (Kd.R_far (p:=⟨gb926,1,none⟩) (Kd.R_far (p:=⟨gb926,0,none⟩) (Kd.R_types HO907.out BK926.out (by decide)) (fun _ hk => hk.2) (.slice Ao56 t917.length co56)) (fun _ hk => hk.2) (.slice Ao59 t920.length co59)) (fun _ hk => hk.2) (.slice Ao60 t923.length co60)) (fun _ h_ => h_.1))) hb);have n5_:=Aside0.mk (Kd.R_elder' (by (with_reducible repeat (first | apply Kd.R_alloc | apply Kd.R_drewN | apply Kd.R_drew));exact (Kd.R_mono (Kd.R_far (p:=⟨gb926,2,none⟩) (Kd.R_far (p:=⟨gb926,1,none⟩) (Kd.R_far (p:=⟨gb926,0,none⟩) (Kd.R_types HO910.out BK926.out (by decide)) (fun _ hk => hk.2) (.slice Ao56 t917.length co56)) (fun _ hk => hk.2) (.slice Ao59 t920.length co59)) (fun _ hk => hk.2) (.slice Ao60 t923.length co60)) (fun _ h_ => h_.1))) (Kd.R_base ho0) hb);have n6_:=Aside0.mk (Kd.R_below (by (with_reducible repeat (first | apply Kd.R_alloc | apply Kd.R_drewN | apply Kd.R_drew));exact (Kd.R_mono (Kd.R_far (p:=⟨gb926,2,none⟩) (Kd.R_far (p:=⟨gb926,1,none⟩) (Kd.R_far (p:=⟨gb926,0,none⟩) (Kd.R_types HO913.out BK926.out (by decide)) (fun _ hk => hk.2) (.slice Ao56 t917.length co56)) (fun _ hk => hk.2) (.slice Ao59 t920.length co59)) (fun _ hk => hk.2) (.slice Ao60 t923.length co60)) (fun _ h_ => h_.1))) hb);have n7_:=Aside0.mk (Kd.R_below (by (with_reducible repeat (first | apply Kd.R_alloc | apply Kd.R_drewN | apply Kd.R_drew));exact (Kd.R_mono (Kd.R_far (p:=⟨gb926,2,none⟩) (Kd.R_far (p:=⟨gb926,1,none⟩) (Kd.R_far (p:=⟨gb926,0,none⟩) (Kd.R_types HO916.out BK926.out (by decide)) (fun _ hk => hk.2) (.slice Ao56 t917.length co56)) (fun _ hk => hk.2) (.slice Ao59 t920.length co59)) (fun _ hk => hk.2) (.slice Ao60 t923.length co60)) (fun _ h_ => h_.1))) hb);have n8_:=Aside0.mk (Kd.R_below (by (with_reducible repeat (first | apply Kd.R_alloc | apply Kd.R_drewN | apply Kd.R_drew));exact (Kd.R_mono (Kd.R_far (p:=⟨gb926,2,none⟩) (Kd.R_far (p:=⟨gb926,1,none⟩) (Kd.R_far (p:=⟨gb926,0,none⟩) (Kd.R_types HO919.out BK926.out (by decide)) (fun _ hk => hk.2) (.slice Ao56 t917.length co56)) (fun _ hk => hk.2) (.slice Ao59 t920.length co59)) (fun _ hk => hk.2) (.slice Ao60 t923.length co60)) (fun _ h_ => h_.1))) hb);have n9_:=Aside0.mk (Kd.R_below (by (with_reducible repeat (first | apply Kd.R_alloc | apply Kd.R_drewN | apply Kd.R_drew));exact (Kd.R_mono (Kd.R_far (p:=⟨gb926,2,none⟩) (Kd.R_far (p:=⟨gb926,1,none⟩) (Kd.R_far (p:=⟨gb926,0,none⟩) (Kd.R_types HO922.out BK926.out (by decide)) (fun _ hk => hk.2) (.slice Ao56 t917.length co56)) (fun _ hk => hk.2) (.slice Ao59 t920.length co59)) (fun _ hk => hk.2) (.slice Ao60 t923.length co60)) (fun _ h_ => h_.1))) hb);have n10_:=Aside0.mk (Kd.R_below (by (with_reducible repeat (first | apply Kd.R_alloc | apply Kd.R_drewN | apply Kd.R_drew));exact (Kd.R_mono (Kd.R_far (p:=⟨gb926,2,none⟩) (Kd.R_far (p:=⟨gb926,1,none⟩) (Kd.R_far (p:=⟨gb926,0,none⟩) (Kd.R_types HO925.out BK926.out (by decide)) (fun _ hk => hk.2) (.slice Ao56 t917.length co56)) (fun _ hk => hk.2) (.slice Ao59 t920.length co59)) (fun _ hk => hk.2) (.slice Ao60 t923.length co60)) (fun _ h_ => h_.1))) hb);have n11_:=Aside0.mk (Kd.R_lower (Kd.R_new' ho0 (Kd.R_lt (by (with_reducible repeat (first | apply Kd.R_alloc | apply Kd.R_drewN | apply Kd.R_drew));exact (Kd.R_mono (Kd.R_far (p:=⟨gb926,2,none⟩) (Kd.R_far (p:=⟨gb926,1,none⟩) (Kd.R_far (p:=⟨gb926,0,none⟩) (Kd.R_types HO910.out BK926.out (by decide)) (fun _ hk => hk.2) (.slice Ao56 t917.length co56)) (fun _ hk => hk.2) (.slice Ao59 t920.length co59)) (fun _ hk => hk.2) (.slice Ao60 t923.length co60)) (fun _ h_ => h_.1))))) (below_size (by repeat (first | (with_reducible first | exact HB.out | apply below_alloc | apply pw_below_drewN | apply below_drew1 | refine below_set ?_ GE889.out | refine below_set ?_ GE926.out) | exact HB.out))));have n12_:=Aside0.mk (blk_below (g:=gb889) (o:=.cells #[.slice A2_0 l2_0.length c2_0,.slice A2_1 l2_1.length c2_1,.slice A2_2 l2_2.length c2_2] 25 (0,0)) (by (with_reducible repeat (first | refine blk_drewN ?_ _ | refine blk_drew ?_ | refine blk_alloc ?_ _));refine blk_far ?_ NB889_926.out _;(with_reducible repeat (first | refine blk_drewN ?_ _ | refine blk_drew ?_ | refine blk_alloc ?_ _));refine blk_far ?_ NB889_926.out _;(with_reducible repeat (first | refine blk_drewN ?_ _ | refine blk_drew ?_ | refine blk_alloc ?_ _));refine blk_far ?_ NB889_926.out _;(with_reducible repeat (first | refine blk_drewN ?_ _ | refine blk_drew ?_ | refine blk_alloc ?_ _));exact BK889.out) hb);have n13_:=Aside0.mk (blk_below (g:=gb926) (o:=.cells #[.slice Ao56 t917.length co56,.slice Ao59 t920.length co59,.slice Ao60 t923.length co60] 31 (0,0)) (by (with_reducible repeat (first | refine blk_drewN ?_ _ | refine blk_drew ?_ | refine blk_alloc ?_ _));refine blk_put (cs:=#[.slice Ao56 t917.length co56,.slice Ao59 t920.length co59,.slice none 0 0]) ?_ 2 _ rfl;(with_reducible repeat (first | refine blk_drewN ?_ _ | refine blk_drew ?_ | refine blk_alloc ?_ _));refine blk_put (cs:=#[.slice Ao56 t917.length co56,.slice none 0 0,.slice none 0 0]) ?_ 1 _ rfl;(with_reducible repeat (first | refine blk_drewN ?_ _ | refine blk_drew ?_ | refine blk_alloc ?_ _));refine blk_put (cs:=#[.slice none 0 0,.slice none 0 0,.slice none 0 0]) ?_ 0 _ rfl;(with_reducible repeat (first | refine blk_drewN ?_ _ | refine blk_drew ?_ | refine blk_alloc ?_ _));exact BK926.out) hb);have n14_:=Aside0.mk (below_step (by repeat (first | (with_reducible first | exact HB.out | apply below_alloc | apply pw_below_drewN | apply below_drew1 | refine below_set ?_ GE889.out | refine below_set ?_ GE926.out) | exact HB.out)) hb);clear HO895;clear HO898;clear HO901;clear HO904;clear HO907;clear HO910;clear HO913;clear HO916;clear HO919;clear HO922;clear HO925;clear BK889;clear BK926;clear HB;have HO895:=n0_;have HO898:=n1_;have HO901:=n2_;have HO904:=n3_;have HO907:=n4_;have HO910:=n5_;have HO913:=n6_;have HO916:=n7_;have HO919:=n8_;have HO922:=n9_;have HO925:=n10_;have HO929:=n11_;have BK889:=n12_;have BK926:=n13_;have HB:=n14_;clear n0_ n1_ n2_ n3_ n4_ n5_ n6_ n7_ n8_ n9_ n10_ n11_ n12_ n13_ n14_;(try clear hb);(try clear hb2);(try clear hk);(try clear hi);(try clear ho0);obtain ⟨Ao64,co64,eo64⟩:=Kd.R_slice HO929.out;subst eo64;obtain ⟨Ao65,co65,eo65⟩:=Kd.R_slice HO910.out;subst eo65) | ((with_reducible refine gate_callee (f:=35) rfl ?_);refine goesL_ (some 51) rfl rfl Try.func35 (by kernel_rfl) rfl #[.slice Ao64 t927.length co64,.slice Ao65 t908.length co65] rfl (by (try simp only [List.map_toArray,List.map_cons,List.map_nil]);first | done | rfl | (simp only [List.length_drop,List.length_take];rfl)) ?_;(with_reducible refine (laws_eqPairS.calls k _ _ t927 _ _ t908 true _ ?side1 ?side2 ?side3 ?side4 A23.out).mono ?_);(case side1 => repeat (first | exact (Kd.R_reads' HO929.out).2.2 | (with_reducible refine Kd.C_alloc ?_ _) | (with_reducible refine Kd.C_drewN ?_ _) | (with_reducible refine Kd.C_drew ?_)));(case side2 => exact (Kd.R_reads' HO929.out).2.1);(case side3 => repeat (first | exact (Kd.R_reads' HO910.out).2.2 | (with_reducible refine Kd.C_alloc ?_ _) | (with_reducible refine Kd.C_drewN ?_ _) | (with_reducible refine Kd.C_drew ?_)));(case side4 => exact (Kd.R_reads' HO910.out).2.1);rintro e w66 ⟨rfl,hb⟩;refine ⟨_,rfl,?_⟩;have n0_:=Aside0.mk (Kd.R_below (by (with_reducible repeat (first | apply Kd.R_alloc | apply Kd.R_drewN | apply Kd.R_drew));exact HO895.out) hb);have n1_:=Aside0.mk (Kd.R_below (by (with_reducible repeat (first | apply Kd.R_alloc | apply Kd.R_drewN | apply Kd.R_drew));exact HO898.out) hb);have n2_:=Aside0.mk (Kd.R_below (by (with_reducible repeat (first | apply Kd.R_alloc | apply Kd.R_drewN | apply Kd.R_drew));exact HO901.out) hb);have n3_:=Aside0.mk (Kd.R_below (by (with_reducible repeat (first | apply Kd.R_alloc | apply Kd.R_drewN | apply Kd.R_drew));exact HO904.out) hb);have n4_:=Aside0.mk (Kd.R_below (by (with_reducible repeat (first | apply Kd.R_alloc | apply Kd.R_drewN | apply Kd.R_drew));exact HO907.out) hb);have n5_:=Aside0.mk (Kd.R_below (by (with_reducible repeat (first | apply Kd.R_alloc | apply Kd.R_drewN | apply Kd.R_drew));exact HO910.out) hb);have n6_:=Aside0.mk (Kd.R_below (by (with_reducible repeat (first | apply Kd.R_alloc | apply Kd.R_drewN | apply Kd.R_drew));exact HO913.out) hb);have n7_:=Aside0.mk (Kd.R_below (by (with_reducible repeat (first | apply Kd.R_alloc | apply Kd.R_drewN | apply Kd.R_drew));exact HO916.out) hb);have n8_:=Aside0.mk (Kd.R_below (by (with_reducible repeat (first | apply Kd.R_alloc | apply Kd.R_drewN | apply Kd.R_drew));exact HO919.out) hb);have n9_:=Aside0.mk (Kd.R_below (by (with_reducible repeat (first | apply Kd.R_alloc | apply Kd.R_drewN | apply Kd.R_drew));exact HO922.out) hb);have n10_:=Aside0.mk (Kd.R_below (by (with_reducible repeat (first | apply Kd.R_alloc | apply Kd.R_drewN | apply Kd.R_drew));exact HO925.out) hb);have n11_:=Aside0.mk (Kd.R_below (by (with_reducible repeat (first | apply Kd.R_alloc | apply Kd.R_drewN | apply Kd.R_drew));exact HO929.out) hb);have n12_:=Aside0.mk (blk_below (g:=gb889) (o:=.cells #[.slice A2_0 l2_0.length c2_0,.slice A2_1 l2_1.length c2_1,.slice A2_2 l2_2.length c2_2] 25 (0,0)) (by (with_reducible repeat (first | refine blk_drewN ?_ _ | refine blk_drew ?_ | refine blk_alloc ?_ _));exact BK889.out) hb);have n13_:=Aside0.mk (blk_below (g:=gb926) (o:=.cells #[.slice Ao56 t917.length co56,.slice Ao59 t920.length co59,.slice Ao60 t923.length co60] 31 (0,0)) (by (with_reducible repeat (first | refine blk_drewN ?_ _ | refine blk_drew ?_ | refine blk_alloc ?_ _));exact BK926.out) hb);have n14_:=Aside0.mk (below_step (by repeat (first | (with_reducible first | exact HB.out | apply below_alloc | apply pw_below_drewN | apply below_drew1 | refine below_set ?_ GE889.out | refine below_set ?_ GE926.out) | exact HB.out)) hb);clear HO895;clear HO898;clear HO901;clear HO904;clear HO907;clear HO910;clear HO913;clear HO916;clear HO919;clear HO922;clear HO925;clear HO929;clear BK889;clear BK926;clear HB;have HO895:=n0_;have HO898:=n1_;have HO901:=n2_;have HO904:=n3_;have HO907:=n4_;have HO910:=n5_;have HO913:=n6_;have HO916:=n7_;have HO919:=n8_;have HO922:=n9_;have HO925:=n10_;have HO929:=n11_;have BK889:=n12_;have BK926:=n13_;have HB:=n14_;clear n0_ n1_ n2_ n3_ n4_ n5_ n6_ n7_ n8_ n9_ n10_ n11_ n12_ n13_ n14_;(try clear hb);(try clear hb2);(try clear hk);(try clear hi)) | ((with_reducible refine gate_callee (f:=15) rfl ?_);refine goesL_ (some 55) rfl rfl Try.func15 (by kernel_rfl) rfl #[.slice A0 l0.length c0] rfl (by (try simp only [List.map_toArray,List.map_cons,List.map_nil]);first | done | rfl | (simp only [List.length_drop,List.length_take];rfl)) ?_;(with_reducible refine (laws_toNodeS.calls k _ _ l0 t931 _ ?side1 ?side2 A25.out).mono ?_);(case side1 => repeat (first | exact (Kd.C_below HR0.out HB.out) | (with_reducible refine Kd.C_alloc ?_ _) | (with_reducible refine Kd.C_drewN ?_ _) | (with_reducible refine Kd.C_drew ?_)));(case side2 => exact HC0.out);rintro e w67 ⟨v932,rfl,ho0,hb⟩;refine ⟨_,rfl,?_⟩;have n0_:=Aside0.mk (Kd.R_elder' (by (with_reducible repeat (first | apply Kd.R_alloc | apply Kd.R_drewN | apply Kd.R_drew));exact HO895.out) (Kd.R_base ho0) hb);have n1_:=Aside0.mk (Kd.R_elder' (by (with_reducible repeat (first | apply Kd.R_alloc | apply Kd.R_drewN | apply Kd.R_drew));exact HO898.out) (Kd.R_base ho0) hb);have n2_:=Aside0.mk (Kd.R_below (by (with_reducible repeat (first | apply Kd.R_alloc | apply Kd.R_drewN | apply Kd.R_drew));exact HO901.out) hb);have n3_:=Aside0.mk (Kd.R_below (by (with_reducible repeat (first | apply Kd.R_alloc | apply Kd.R_drewN | apply Kd.R_drew));exact HO904.out) hb);have n4_:=Aside0.mk (Kd.R_below (by (with_reducible repeat (first | apply Kd.R_alloc | apply Kd.R_drewN | apply Kd.R_drew));exact HO907.out) hb);have n5_:=Aside0.mk (Kd.R_below (by (with_reducible repeat (first | apply Kd.R_alloc | apply Kd.R_drewN | apply Kd.R_drew));exact HO910.out) hb);have n6_:=Aside0.mk (Kd.R_elder' (by (with_reducible repeat (first | apply Kd.R_alloc | apply Kd.R_drewN | apply Kd.R_drew));exact HO913.out) (Kd.R_base ho0) hb);have n7_:=Aside0.mk (Kd.R_elder' (by (with_reducible repeat (first | apply Kd.R_alloc | apply Kd.R_drewN | apply Kd.R_drew));exact HO916.out) (Kd.R_base ho0) hb);have n8_:=Aside0.mk (Kd.R_below (by (with_reducible repeat (first | apply Kd.R_alloc | apply Kd.R_drewN | apply Kd.R_drew));exact HO919.out) hb);have n9_:=Aside0.mk (Kd.R_below (by (with_reducible repeat (first | apply Kd.R_alloc | apply Kd.R_drewN | apply Kd.R_drew));exact HO922.out) hb);have n10_:=Aside0.mk (Kd.R_below (by (with_reducible repeat (first | apply Kd.R_alloc | apply Kd.R_drewN | apply Kd.R_drew));exact HO925.out) hb);have n11_:=Aside0.mk (Kd.R_below (by (with_reducible repeat (first | apply Kd.R_alloc | apply Kd.R_drewN | apply Kd.R_drew));exact HO929.out) hb);have n12_:=Aside0.mk (Kd.R_lower (Kd.R_new' (Kd.R_new' (Kd.R_new' (Kd.R_new' ho0 (Kd.R_lt (by (with_reducible repeat (first | apply Kd.R_alloc | apply Kd.R_drewN | apply Kd.R_drew));exact HO895.out))) (Kd.R_lt (by (with_reducible repeat (first | apply Kd.R_alloc | apply Kd.R_drewN | apply Kd.R_drew));exact HO898.out))) (Kd.R_lt (by (with_reducible repeat (first | apply Kd.R_alloc | apply Kd.R_drewN | apply Kd.R_drew));exact HO913.out))) (Kd.R_lt (by (with_reducible repeat (first | apply Kd.R_alloc | apply Kd.R_drewN | apply Kd.R_drew));exact HO916.out))) (below_size (by repeat (first | (with_reducible first | exact HB.out | apply below_alloc | apply pw_below_drewN | apply below_drew1 | refine below_set ?_ GE889.out | refine below_set ?_ GE926.out) | exact HB.out))));have n13_:=Aside0.mk (blk_below (g:=gb889) (o:=.cells #[.slice A2_0 l2_0.length c2_0,.slice A2_1 l2_1.length c2_1,.slice A2_2 l2_2.length c2_2] 25 (0,0)) (by (with_reducible repeat (first | refine blk_drewN ?_ _ | refine blk_drew ?_ | refine blk_alloc ?_ _));exact BK889.out) hb);have n14_:=Aside0.mk (blk_below (g:=gb926) (o:=.cells #[.slice Ao56 t917.length co56,.slice Ao59 t920.length co59,.slice Ao60 t923.length co60] 31 (0,0)) (by (with_reducible repeat (first | refine blk_drewN ?_ _ | refine blk_drew ?_ | refine blk_alloc ?_ _));exact BK926.out) hb);have n15_:=Aside0.mk (below_step (by repeat (first | (with_reducible first | exact HB.out | apply below_alloc | apply pw_below_drewN | apply below_drew1 | refine below_set ?_ GE889.out | refine below_set ?_ GE926.out) | exact HB.out)) hb);clear HO895;clear HO898;clear HO901;clear HO904;clear HO907;clear HO910;clear HO913;clear HO916;clear HO919;clear HO922;clear HO925;clear HO929;clear BK889;clear BK926;clear HB;have HO895:=n0_;have HO898:=n1_;have HO901:=n2_;have HO904:=n3_;have HO907:=n4_;have HO910:=n5_;have HO913:=n6_;have HO916:=n7_;have HO919:=n8_;have HO922:=n9_;have HO925:=n10_;have HO929:=n11_;have HO933:=n12_;have BK889:=n13_;have BK926:=n14_;have HB:=n15_;clear n0_ n1_ n2_ n3_ n4_ n5_ n6_ n7_ n8_ n9_ n10_ n11_ n12_ n13_ n14_ n15_;(try clear hb);(try clear hb2);(try clear hk);(try clear hi);(try clear ho0);obtain ⟨Ao68,co68,eo68⟩:=Kd.R_slice HO933.out;subst eo68) | ((with_reducible refine gate_callee (f:=18) rfl ?_);refine goesL_ (some 56) rfl rfl Try.func18 (by kernel_rfl) rfl #[.slice Ao61 t911.length co61,.slice Ao68 t931.length co68] rfl (by (try simp only [List.map_toArray,List.map_cons,List.map_nil]);first | done | rfl | (simp only [List.length_drop,List.length_take];rfl)) ?_;(with_reducible refine (laws_eqNodeS.calls k _ _ t911 _ _ t931 true _ ?side1 ?side2 ?side3 ?side4 A26.out).mono ?_);(case side1 => repeat (first | exact (Kd.R_reads' HO913.out).2.2 | (with_reducible refine Kd.C_alloc ?_ _) | (with_reducible refine Kd.C_drewN ?_ _) | (with_reducible refine Kd.C_drew ?_)));(case side2 => exact (Kd.R_reads' HO913.out).2.1);(case side3 => repeat (first | exact (Kd.R_reads' HO933.out).2.2 | (with_reducible refine Kd.C_alloc ?_ _) | (with_reducible refine Kd.C_drewN ?_ _) | (with_reducible refine Kd.C_drew ?_)));(case side4 => exact (Kd.R_reads' HO933.out).2.1);rintro e w69 ⟨rfl,hb⟩;refine ⟨_,rfl,?_⟩;have n0_:=Aside0.mk (Kd.R_below (by (with_reducible repeat (first | apply Kd.R_alloc | apply Kd.R_drewN | apply Kd.R_drew));exact HO895.out) hb);have n1_:=Aside0.mk (Kd.R_below (by (with_reducible repeat (first | apply Kd.R_alloc | apply Kd.R_drewN | apply Kd.R_drew));exact HO898.out) hb);have n2_:=Aside0.mk (Kd.R_below (by (with_reducible repeat (first | apply Kd.R_alloc | apply Kd.R_drewN | apply Kd.R_drew));exact HO901.out) hb);have n3_:=Aside0.mk (Kd.R_below (by (with_reducible repeat (first | apply Kd.R_alloc | apply Kd.R_drewN | apply Kd.R_drew));exact HO904.out) hb);have n4_:=Aside0.mk (Kd.R_below (by (with_reducible repeat (first | apply Kd.R_alloc | apply Kd.R_drewN | apply Kd.R_drew));exact HO907.out) hb);have n5_:=Aside0.mk (Kd.R_below (by (with_reducible repeat (first | apply Kd.R_alloc | apply Kd.R_drewN | apply Kd.R_drew));exact HO910.out) hb);have n6_:=Aside0.mk (Kd.R_below (by (with_reducible repeat (first | apply Kd.R_alloc | apply Kd.R_drewN | apply Kd.R_drew));exact HO913.out) hb);have n7_:=Aside0.mk (Kd.R_below (by (with_reducible repeat (first | apply Kd.R_alloc | apply Kd.R_drewN | apply Kd.R_drew));exact HO916.out) hb);have n8_:=Aside0.mk (Kd.R_below (by (with_reducible repeat (first | apply Kd.R_alloc | apply Kd.R_drewN | apply Kd.R_drew));exact HO919.out) hb);have n9_:=Aside0.mk (Kd.R_below (by (with_reducible repeat (first | apply Kd.R_alloc | apply Kd.R_drewN | apply Kd.R_drew));exact HO922.out) hb);have n10_:=Aside0.mk (Kd.R_below (by (with_reducible repeat (first | apply Kd.R_alloc | apply Kd.R_drewN | apply Kd.R_drew));exact HO925.out) hb);have n11_:=Aside0.mk (Kd.R_below (by (with_reducible repeat (first | apply Kd.R_alloc | apply Kd.R_drewN | apply Kd.R_drew));exact HO929.out) hb);have n12_:=Aside0.mk (Kd.R_below (by (with_reducible repeat (first | apply Kd.R_alloc | apply Kd.R_drewN | apply Kd.R_drew));exact HO933.out) hb);have n13_:=Aside0.mk (blk_below (g:=gb889) (o:=.cells #[.slice A2_0 l2_0.length c2_0,.slice A2_1 l2_1.length c2_1,.slice A2_2 l2_2.length c2_2] 25 (0,0)) (by (with_reducible repeat (first | refine blk_drewN ?_ _ | refine blk_drew ?_ | refine blk_alloc ?_ _));exact BK889.out) hb);have n14_:=Aside0.mk (blk_below (g:=gb926) (o:=.cells #[.slice Ao56 t917.length co56,.slice Ao59 t920.length co59,.slice Ao60 t923.length co60] 31 (0,0)) (by (with_reducible repeat (first | refine blk_drewN ?_ _ | refine blk_drew ?_ | refine blk_alloc ?_ _));exact BK926.out) hb);have n15_:=Aside0.mk (below_step (by repeat (first | (with_reducible first | exact HB.out | apply below_alloc | apply pw_below_drewN | apply below_drew1 | refine below_set ?_ GE889.out | refine below_set ?_ GE926.out) | exact HB.out)) hb);clear HO895;clear HO898;clear HO901;clear HO904;clear HO907;clear HO910;clear HO913;clear HO916;clear HO919;clear HO922;clear HO925;clear HO929;clear HO933;clear BK889;clear BK926;clear HB;have HO895:=n0_;have HO898:=n1_;have HO901:=n2_;have HO904:=n3_;have HO907:=n4_;have HO910:=n5_;have HO913:=n6_;have HO916:=n7_;have HO919:=n8_;have HO922:=n9_;have HO925:=n10_;have HO929:=n11_;have HO933:=n12_;have BK889:=n13_;have BK926:=n14_;have HB:=n15_;clear n0_ n1_ n2_ n3_ n4_ n5_ n6_ n7_ n8_ n9_ n10_ n11_ n12_ n13_ n14_ n15_;(try clear hb);(try clear hb2);(try clear hk);(try clear hi)) | ((with_reducible refine gate_callee (f:=15) rfl ?_);refine goesL_ (some 60) rfl rfl Try.func15 (by kernel_rfl) rfl #[.slice A1 l1.length c1] rfl (by (try simp only [List.map_toArray,List.map_cons,List.map_nil]);first | done | rfl | (simp only [List.length_drop,List.length_take];rfl)) ?_;(with_reducible refine (laws_toNodeS.calls k _ _ l1 t935 _ ?side1 ?side2 A28.out).mono ?_);(case side1 => repeat (first | exact (Kd.C_below HR1.out HB.out) | (with_reducible refine Kd.C_alloc ?_ _) | (with_reducible refine Kd.C_drewN ?_ _) | (with_reducible refine Kd.C_drew ?_)));(case side2 => exact HC1.out);rintro e w70 ⟨v936,rfl,ho0,hb⟩;refine ⟨_,rfl,?_⟩;have n0_:=Aside0.mk (Kd.R_elder' (by (with_reducible repeat (first | apply Kd.R_alloc | apply Kd.R_drewN | apply Kd.R_drew));exact HO895.out) (Kd.R_base ho0) hb);have n1_:=Aside0.mk (Kd.R_elder' (by (with_reducible repeat (first | apply Kd.R_alloc | apply Kd.R_drewN | apply Kd.R_drew));exact HO898.out) (Kd.R_base ho0) hb);have n2_:=Aside0.mk (Kd.R_below (by (with_reducible repeat (first | apply Kd.R_alloc | apply Kd.R_drewN | apply Kd.R_drew));exact HO901.out) hb);have n3_:=Aside0.mk (Kd.R_below (by (with_reducible repeat (first | apply Kd.R_alloc | apply Kd.R_drewN | apply Kd.R_drew));exact HO904.out) hb);have n4_:=Aside0.mk (Kd.R_below (by (with_reducible repeat (first | apply Kd.R_alloc | apply Kd.R_drewN | apply Kd.R_drew));exact HO907.out) hb);have n5_:=Aside0.mk (Kd.R_below (by (with_reducible repeat (first | apply Kd.R_alloc | apply Kd.R_drewN | apply Kd.R_drew));exact HO910.out) hb);have n6_:=Aside0.mk (Kd.R_elder' (by (with_reducible repeat (first | apply Kd.R_alloc | apply Kd.R_drewN | apply Kd.R_drew));exact HO913.out) (Kd.R_base ho0) hb);have n7_:=Aside0.mk (Kd.R_elder' (by (with_reducible repeat (first | apply Kd.R_alloc | apply Kd.R_drewN | apply Kd.R_drew));exact HO916.out) (Kd.R_base ho0) hb);have n8_:=Aside0.mk (Kd.R_below (by (with_reducible repeat (first | apply Kd.R_alloc | apply Kd.R_drewN | apply Kd.R_drew));exact HO919.out) hb);have n9_:=Aside0.mk (Kd.R_below (by (with_reducible repeat (first | apply Kd.R_alloc | apply Kd.R_drewN | apply Kd.R_drew));exact HO922.out) hb);have n10_:=Aside0.mk (Kd.R_below (by (with_reducible repeat (first | apply Kd.R_alloc | apply Kd.R_drewN | apply Kd.R_drew));exact HO925.out) hb);have n11_:=Aside0.mk (Kd.R_below (by (with_reducible repeat (first | apply Kd.R_alloc | apply Kd.R_drewN | apply Kd.R_drew));exact HO929.out) hb);have n12_:=Aside0.mk (Kd.R_elder' (by (with_reducible repeat (first | apply Kd.R_alloc | apply Kd.R_drewN | apply Kd.R_drew));exact HO933.out) (Kd.R_base ho0) hb);have n13_:=Aside0.mk (Kd.R_lower (Kd.R_new' (Kd.R_new' (Kd.R_new' (Kd.R_new' (Kd.R_new' ho0 (Kd.R_lt (by (with_reducible repeat (first | apply Kd.R_alloc | apply Kd.R_drewN | apply Kd.R_drew));exact HO895.out))) (Kd.R_lt (by (with_reducible repeat (first | apply Kd.R_alloc | apply Kd.R_drewN | apply Kd.R_drew));exact HO898.out))) (Kd.R_lt (by (with_reducible repeat (first | apply Kd.R_alloc | apply Kd.R_drewN | apply Kd.R_drew));exact HO913.out))) (Kd.R_lt (by (with_reducible repeat (first | apply Kd.R_alloc | apply Kd.R_drewN | apply Kd.R_drew));exact HO916.out))) (Kd.R_lt (by (with_reducible repeat (first | apply Kd.R_alloc | apply Kd.R_drewN | apply Kd.R_drew));exact HO933.out))) (below_size (by repeat (first | (with_reducible first | exact HB.out | apply below_alloc | apply pw_below_drewN | apply below_drew1 | refine below_set ?_ GE889.out | refine below_set ?_ GE926.out) | exact HB.out))));have n14_:=Aside0.mk (blk_below (g:=gb889) (o:=.cells #[.slice A2_0 l2_0.length c2_0,.slice A2_1 l2_1.length c2_1,.slice A2_2 l2_2.length c2_2] 25 (0,0)) (by (with_reducible repeat (first | refine blk_drewN ?_ _ | refine blk_drew ?_ | refine blk_alloc ?_ _));exact BK889.out) hb);have n15_:=Aside0.mk (blk_below (g:=gb926) (o:=.cells #[.slice Ao56 t917.length co56,.slice Ao59 t920.length co59,.slice Ao60 t923.length co60] 31 (0,0)) (by (with_reducible repeat (first | refine blk_drewN ?_ _ | refine blk_drew ?_ | refine blk_alloc ?_ _));exact BK926.out) hb);have n16_:=Aside0.mk (below_step (by repeat (first | (with_reducible first | exact HB.out | apply below_alloc | apply pw_below_drewN | apply below_drew1 | refine below_set ?_ GE889.out | refine below_set ?_ GE926.out) | exact HB.out)) hb);clear HO895;clear HO898;clear HO901;clear HO904;clear HO907;clear HO910;clear HO913;clear HO916;clear HO919;clear HO922;clear HO925;clear HO929;clear HO933;clear BK889;clear BK926;clear HB;have HO895:=n0_;have HO898:=n1_;have HO901:=n2_;have HO904:=n3_;have HO907:=n4_;have HO910:=n5_;have HO913:=n6_;have HO916:=n7_;have HO919:=n8_;have HO922:=n9_;have HO925:=n10_;have HO929:=n11_;have HO933:=n12_;have HO937:=n13_;have BK889:=n14_;have BK926:=n15_;have HB:=n16_;clear n0_ n1_ n2_ n3_ n4_ n5_ n6_ n7_ n8_ n9_ n10_ n11_ n12_ n13_ n14_ n15_ n16_;(try clear hb);(try clear hb2);(try clear hk);(try clear hi);(try clear ho0);obtain ⟨Ao71,co71,eo71⟩:=Kd.R_slice HO937.out;subst eo71) | ((with_reducible refine gate_callee (f:=18) rfl ?_);refine goesL_ (some 61) rfl rfl Try.func18 (by kernel_rfl) rfl #[.slice Ao62 t914.length co62,.slice Ao71 t935.length co71] rfl (by (try simp only [List.map_toArray,List.map_cons,List.map_nil]);first | done | rfl | (simp only [List.length_drop,List.length_take];rfl)) ?_;(with_reducible refine (laws_eqNodeS.calls k _ _ t914 _ _ t935 true _ ?side1 ?side2 ?side3 ?side4 A29.out).mono ?_);(case side1 => repeat (first | exact (Kd.R_reads' HO916.out).2.2 | (with_reducible refine Kd.C_alloc ?_ _) | (with_reducible refine Kd.C_drewN ?_ _) | (with_reducible refine Kd.C_drew ?_)));(case side2 => exact (Kd.R_reads' HO916.out).2.1);(case side3 => repeat (first | exact (Kd.R_reads' HO937.out).2.2 | (with_reducible refine Kd.C_alloc ?_ _) | (with_reducible refine Kd.C_drewN ?_ _) | (with_reducible refine Kd.C_drew ?_)));(case side4 => exact (Kd.R_reads' HO937.out).2.1);rintro e w72 ⟨rfl,hb⟩;refine ⟨_,rfl,?_⟩;have n0_:=Aside0.mk (Kd.R_below (by (with_reducible repeat (first | apply Kd.R_alloc | apply Kd.R_drewN | apply Kd.R_drew));exact HO895.out) hb);have n1_:=Aside0.mk (Kd.R_below (by (with_reducible repeat (first | apply Kd.R_alloc | apply Kd.R_drewN | apply Kd.R_drew));exact HO898.out) hb);have n2_:=Aside0.mk (Kd.R_below (by (with_reducible repeat (first | apply Kd.R_alloc | apply Kd.R_drewN | apply Kd.R_drew));exact HO901.out) hb);have n3_:=Aside0.mk (Kd.R_below (by (with_reducible repeat (first | apply Kd.R_alloc | apply Kd.R_drewN | apply Kd.R_drew));exact HO904.out) hb);have n4_:=Aside0.mk (Kd.R_below (by (with_reducible repeat (first | apply Kd.R_alloc | apply Kd.R_drewN | apply Kd.R_drew));exact HO907.out) hb);have n5_:=Aside0.mk (Kd.R_below (by (with_reducible repeat (first | apply Kd.R_alloc | apply Kd.R_drewN | apply Kd.R_drew));exact HO910.out) hb);have n6_:=Aside0.mk (Kd.R_below (by (with_reducible repeat (first | apply Kd.R_alloc | apply Kd.R_drewN | apply Kd.R_drew));exact HO913.out) hb);have n7_:=Aside0.mk (Kd.R_below (by (with_reducible repeat (first | apply Kd.R_alloc | apply Kd.R_drewN | apply Kd.R_drew));exact HO916.out) hb);have n8_:=Aside0.mk (Kd.R_below (by (with_reducible repeat (first | apply Kd.R_alloc | apply Kd.R_drewN | apply Kd.R_drew));exact HO919.out) hb);have n9_:=Aside0.mk (Kd.R_below (by (with_reducible repeat (first | apply Kd.R_alloc | apply Kd.R_drewN | apply Kd.R_drew));exact HO922.out) hb);have n10_:=Aside0.mk (Kd.R_below (by (with_reducible repeat (first | apply Kd.R_alloc | apply Kd.R_drewN | apply Kd.R_drew));exact HO925.out) hb);have n11_:=Aside0.mk (Kd.R_below (by (with_reducible repeat (first | apply Kd.R_alloc | apply Kd.R_drewN | apply Kd.R_drew));exact HO929.out) hb);have n12_:=Aside0.mk (Kd.R_below (by (with_reducible repeat (first | apply Kd.R_alloc | apply Kd.R_drewN | apply Kd.R_drew));exact HO933.out) hb);have n13_:=Aside0.mk (Kd.R_below (by (with_reducible repeat (first | apply Kd.R_alloc | apply Kd.R_drewN | apply Kd.R_drew));exact HO937.out) hb);have n14_:=Aside0.mk (blk_below (g:=gb889) (o:=.cells #[.slice A2_0 l2_0.length c2_0,.slice A2_1 l2_1.length c2_1,.slice A2_2 l2_2.length c2_2] 25 (0,0)) (by (with_reducible repeat (first | refine blk_drewN ?_ _ | refine blk_drew ?_ | refine blk_alloc ?_ _));exact BK889.out) hb);have n15_:=Aside0.mk (blk_below (g:=gb926) (o:=.cells #[.slice Ao56 t917.length co56,.slice Ao59 t920.length co59,.slice Ao60 t923.length co60] 31 (0,0)) (by (with_reducible repeat (first | refine blk_drewN ?_ _ | refine blk_drew ?_ | refine blk_alloc ?_ _));exact BK926.out) hb);have n16_:=Aside0.mk (below_step (by repeat (first | (with_reducible first | exact HB.out | apply below_alloc | apply pw_below_drewN | apply below_drew1 | refine below_set ?_ GE889.out | refine below_set ?_ GE926.out) | exact HB.out)) hb);clear HO895;clear HO898;clear HO901;clear HO904;clear HO907;clear HO910;clear HO913;clear HO916;clear HO919;clear HO922;clear HO925;clear HO929;clear HO933;clear HO937;clear BK889;clear BK926;clear HB;have HO895:=n0_;have HO898:=n1_;have HO901:=n2_;have HO904:=n3_;have HO907:=n4_;have HO910:=n5_;have HO913:=n6_;have HO916:=n7_;have HO919:=n8_;have HO922:=n9_;have HO925:=n10_;have HO929:=n11_;have HO933:=n12_;have HO937:=n13_;have BK889:=n14_;have BK926:=n15_;have HB:=n16_;clear n0_ n1_ n2_ n3_ n4_ n5_ n6_ n7_ n8_ n9_ n10_ n11_ n12_ n13_ n14_ n15_ n16_;(try clear hb);(try clear hb2);(try clear hk);(try clear hi)))
        have n0_:=Aside0.mk (Kd.R_drew HO895.out)
        have n1_:=Aside0.mk (Kd.R_drew HO898.out)
        have n2_:=Aside0.mk (Kd.R_drew HO901.out)
        have n3_:=Aside0.mk (Kd.R_drew HO904.out)
        have n4_:=Aside0.mk (Kd.R_drew HO907.out)
        have n5_:=Aside0.mk (Kd.R_drew HO910.out)
        have n6_:=Aside0.mk (Kd.R_drew HO913.out)
        have n7_:=Aside0.mk (Kd.R_drew HO916.out)
        have n8_:=Aside0.mk (Kd.R_drew HO919.out)
        have n9_:=Aside0.mk (Kd.R_drew HO922.out)
        have n10_:=Aside0.mk (Kd.R_drew HO925.out)
        have n11_:=Aside0.mk (Kd.R_drew HO929.out)
        have n12_:=Aside0.mk (Kd.R_drew HO933.out)
        have n13_:=Aside0.mk (Kd.R_drew HO937.out)
        have n14_:=Aside0.mk (blk_drew BK889.out)
        have n15_:=Aside0.mk (blk_drew BK926.out)
        have n16_:=Aside0.mk (below_drew1 HB.out)
        clear HO895
        clear HO898
        clear HO901
        clear HO904
        clear HO907
        clear HO910
        clear HO913
        clear HO916
        clear HO919
        clear HO922
        clear HO925
        clear HO929
        clear HO933
        clear HO937
        clear BK889
        clear BK926
        clear HB
        have HO895:=n0_
        have HO898:=n1_
        have HO901:=n2_
        have HO904:=n3_
        have HO907:=n4_
        have HO910:=n5_
        have HO913:=n6_
        have HO916:=n7_
        have HO919:=n8_
        have HO922:=n9_
        have HO925:=n10_
        have HO929:=n11_
        have HO933:=n12_
        have HO937:=n13_
        have BK889:=n14_
        have BK926:=n15_
        have HB:=n16_
        clear n0_ n1_ n2_ n3_ n4_ n5_ n6_ n7_ n8_ n9_ n10_ n11_ n12_ n13_ n14_ n15_ n16_
        refine start_ (n:=5) (S:=fun w' => w'.cell? ⟨gb926,0,none⟩ = some (.slice Ao56 t917.length co56) ∧ w'.cell? ⟨gb926,1,none⟩ = some (.slice Ao59 t920.length co59) ∧ w'.cell? ⟨gb926,2,none⟩ = some (.slice Ao60 t923.length co60) ∧ w'.cell? ⟨gb889,0,none⟩ = some (.slice A2_0 l2_0.length c2_0) ∧ w'.cell? ⟨gb889,1,none⟩ = some (.slice A2_1 l2_1.length c2_1) ∧ w'.cell? ⟨gb889,2,none⟩ = some (.slice A2_2 l2_2.length c2_2)) (ds:=[]) #[false,false,false,false,false] (by kernel_rfl) rfl rfl ⟨(blk_cell BK926.out 0).trans rfl,(blk_cell BK926.out 1).trans rfl,(blk_cell BK926.out 2).trans rfl,(blk_cell BK889.out 0).trans rfl,(blk_cell BK889.out 1).trans rfl,(blk_cell BK889.out 2).trans rfl⟩ (fun hHeld => ?_)
        generalize w72.drew = w73 at HO895 HO898 HO901 HO904 HO907 HO910 HO913 HO916 HO919 HO922 HO925 HO929 HO933 HO937 BK889 BK926 HB hHeld ⊢
        refine ta_ 0 (some 63) #[true,false,false,false,false] rfl rfl (by kernel_rfl) hHeld (by rintro w' ⟨s0,s1,s2,s3,s4,s5⟩;go_simp;with_reducible rfl) ?_
        refine ta_ 1 (some 64) #[true,true,false,false,false] rfl rfl (by kernel_rfl) hHeld (by rintro w' ⟨s0,s1,s2,s3,s4,s5⟩;go_simp;with_reducible rfl) ?_
        refine one_ (i:=2) (N:=some 65) #[true,true,true,false,false] rfl rfl (by kernel_rfl) (by decide) (fun K hK => ?_)
        refine goes_ Try.func16 (by kernel_rfl) rfl #[.agg #[.slice A2_0 l2_0.length c2_0,.slice A2_1 l2_1.length c2_1,.slice A2_2 l2_2.length c2_2]] (by rfl) rfl rfl (by (try simp only [List.map_toArray,List.map_cons,List.map_nil]);first | done | rfl | (simp only [List.length_drop,List.length_take];rfl)) ?_
        with_reducible refine (laws_toCost.calls k _ _ l2_0 _ _ l2_1 _ _ l2_2 t939 t942 t945 _ ?side1 ?side2 ?side3 ?side4 ?side5 ?side6 A31.out).mono ?_
        (case side1 => exact cx_ HR2_0 HB)
        (case side2 => exact HC2_0.out)
        (case side3 => exact cx_ HR2_1 HB)
        (case side4 => exact HC2_1.out)
        (case side5 => exact cx_ HR2_2 HB)
        (case side6 => exact HC2_2.out)
        rintro e w74 ⟨v940,v943,v946,rfl,ho0,ho1,ho2,hb⟩
        refine ⟨_,rfl,?_⟩
        have n0_:=tR_ HO895 hb
        have n1_:=tR_ HO898 hb
        have n2_:=Aside0.mk (Kd.R_mono (Kd.R_told (Kd.R_told (Kd.R_told (Kd.R_old (rx_ HO901.out) hb) (Kd.R_base ho0)) (Kd.R_base ho1)) (Kd.R_base ho2)) (fun _ h_ => h_.1))
        have n3_:=Aside0.mk (Kd.R_mono (Kd.R_told (Kd.R_told (Kd.R_told (Kd.R_old (rx_ HO904.out) hb) (Kd.R_base ho0)) (Kd.R_base ho1)) (Kd.R_base ho2)) (fun _ h_ => h_.1))
        have n4_:=Aside0.mk (Kd.R_mono (Kd.R_told (Kd.R_told (Kd.R_told (Kd.R_old (rx_ HO907.out) hb) (Kd.R_base ho0)) (Kd.R_base ho1)) (Kd.R_base ho2)) (fun _ h_ => h_.1))
        have n5_:=tR_ HO910 hb
        have n6_:=tR_ HO913 hb
        have n7_:=tR_ HO916 hb
        have n8_:=Aside0.mk (Kd.R_mono (Kd.R_told (Kd.R_told (Kd.R_told (Kd.R_old (rx_ HO919.out) hb) (Kd.R_base ho0)) (Kd.R_base ho1)) (Kd.R_base ho2)) (fun _ h_ => h_.1))
        have n9_:=Aside0.mk (Kd.R_mono (Kd.R_told (Kd.R_told (Kd.R_told (Kd.R_old (rx_ HO922.out) hb) (Kd.R_base ho0)) (Kd.R_base ho1)) (Kd.R_base ho2)) (fun _ h_ => h_.1))
        have n10_:=Aside0.mk (Kd.R_mono (Kd.R_told (Kd.R_told (Kd.R_told (Kd.R_old (rx_ HO925.out) hb) (Kd.R_base ho0)) (Kd.R_base ho1)) (Kd.R_base ho2)) (fun _ h_ => h_.1))
        have n11_:=tR_ HO929 hb
        have n12_:=tR_ HO933 hb
        have n13_:=tR_ HO937 hb
        have n14_:=Aside0.mk (Kd.R_lower (Kd.R_new' (Kd.R_new' (Kd.R_new' (Kd.R_new' (Kd.R_new' (Kd.R_new' ho0 (Kd.R_lt (rx_ HO901.out))) (Kd.R_lt (rx_ HO904.out))) (Kd.R_lt (rx_ HO907.out))) (Kd.R_lt (rx_ HO919.out))) (Kd.R_lt (rx_ HO922.out))) (Kd.R_lt (rx_ HO925.out))) (bs_ HB))
        have n15_:=Aside0.mk (Kd.R_lower (Kd.R_new' (Kd.R_new' (Kd.R_new' (Kd.R_new' (Kd.R_new' (Kd.R_new' ho1 (Kd.R_lt (rx_ HO901.out))) (Kd.R_lt (rx_ HO904.out))) (Kd.R_lt (rx_ HO907.out))) (Kd.R_lt (rx_ HO919.out))) (Kd.R_lt (rx_ HO922.out))) (Kd.R_lt (rx_ HO925.out))) (bs_ HB))
        have n16_:=Aside0.mk (Kd.R_lower (Kd.R_new' (Kd.R_new' (Kd.R_new' (Kd.R_new' (Kd.R_new' (Kd.R_new' ho2 (Kd.R_lt (rx_ HO901.out))) (Kd.R_lt (rx_ HO904.out))) (Kd.R_lt (rx_ HO907.out))) (Kd.R_lt (rx_ HO919.out))) (Kd.R_lt (rx_ HO922.out))) (Kd.R_lt (rx_ HO925.out))) (bs_ HB))
        have n17_:=tK_ BK889 hb
        have n18_:=tK_ BK926 hb
        have n19_:=tB_ HB hb
        clear HO895
        clear HO898
        clear HO901
        clear HO904
        clear HO907
        clear HO910
        clear HO913
        clear HO916
        clear HO919
        clear HO922
        clear HO925
        clear HO929
        clear HO933
        clear HO937
        clear BK889
        clear BK926
        clear HB
        have HO895:=n0_
        have HO898:=n1_
        have HO901:=n2_
        have HO904:=n3_
        have HO907:=n4_
        have HO910:=n5_
        have HO913:=n6_
        have HO916:=n7_
        have HO919:=n8_
        have HO922:=n9_
        have HO925:=n10_
        have HO929:=n11_
        have HO933:=n12_
        have HO937:=n13_
        have HO941:=n14_
        have HO944:=n15_
        have HO947:=n16_
        have BK889:=n17_
        have BK926:=n18_
        have HB:=n19_
        clear n0_ n1_ n2_ n3_ n4_ n5_ n6_ n7_ n8_ n9_ n10_ n11_ n12_ n13_ n14_ n15_ n16_ n17_ n18_ n19_
        (try clear hb)
        (try clear hb2)
        (try clear hk)
        (try clear hi)
        (try clear ho0)
        (try clear ho1)
        (try clear ho2)
        obtain ⟨Ao75,co75,eo75⟩:=Kd.R_slice HO941.out
        (first | subst eo75 | (injection eo75 with f1_ f2_ f3_;have f4_:=f1_.symm;have f5_:=f3_.symm;clear f1_ f2_ f3_;subst f4_;subst f5_))
        obtain ⟨Ao76,co76,eo76⟩:=Kd.R_slice HO944.out
        (first | subst eo76 | (injection eo76 with f1_ f2_ f3_;have f4_:=f1_.symm;have f5_:=f3_.symm;clear f1_ f2_ f3_;subst f4_;subst f5_))
        obtain ⟨Ao77,co77,eo77⟩:=Kd.R_slice HO947.out
        (first | subst eo77 | (injection eo77 with f1_ f2_ f3_;have f4_:=f1_.symm;have f5_:=f3_.symm;clear f1_ f2_ f3_;subst f4_;subst f5_))
        refine hK.out _ _ ⟨(blk_cell BK926.out 0).trans rfl,(blk_cell BK926.out 1).trans rfl,(blk_cell BK926.out 2).trans rfl,(blk_cell BK889.out 0).trans rfl,(blk_cell BK889.out 1).trans rfl,(blk_cell BK889.out 2).trans rfl⟩ (fun hHeld => ?_)
        clear hK K
        refine norm_ (a':=?_) ?_ ?_
        rotate_left
        ·show Act.put _ (some 65) _ = _
         simp only [Act.put,List.setIfInBounds_toArray,List.set_cons_zero,List.set_cons_succ,i64_w,i32_w]
         rfl
        refine one_ (i:=3) (N:=some 66) #[true,true,true,true,false] rfl rfl (by kernel_rfl) (by decide) (fun K hK => ?_)
        refine goes_ Try.func19 (by kernel_rfl) rfl #[.agg #[.slice Ao56 t917.length co56,.slice Ao59 t920.length co59,.slice Ao60 t923.length co60],.agg #[.slice Ao75 t939.length co75,.slice Ao76 t942.length co76,.slice Ao77 t945.length co77]] (by rfl) rfl rfl (by (try simp only [List.map_toArray,List.map_cons,List.map_nil]);first | done | rfl | (simp only [List.length_drop,List.length_take];rfl)) ?_
        with_reducible refine (laws_eqCost.calls k _ _ t917 _ _ t920 _ _ t923 _ _ t939 _ _ t942 _ _ t945 true _ ?side1 ?side2 ?side3 ?side4 ?side5 ?side6 ?side7 ?side8 ?side9 ?side10 ?side11 ?side12 A32.out).mono ?_
        (case side1 => exact cc_ (Kd.R_reads' HO919.out).2.2)
        (case side2 => exact (Kd.R_reads' HO919.out).2.1)
        (case side3 => exact cc_ (Kd.R_reads' HO922.out).2.2)
        (case side4 => exact (Kd.R_reads' HO922.out).2.1)
        (case side5 => exact cc_ (Kd.R_reads' HO925.out).2.2)
        (case side6 => exact (Kd.R_reads' HO925.out).2.1)
        (case side7 => exact cc_ (Kd.R_reads' HO941.out).2.2)
        (case side8 => exact (Kd.R_reads' HO941.out).2.1)
        (case side9 => exact cc_ (Kd.R_reads' HO944.out).2.2)
        (case side10 => exact (Kd.R_reads' HO944.out).2.1)
        (case side11 => exact cc_ (Kd.R_reads' HO947.out).2.2)
        (case side12 => exact (Kd.R_reads' HO947.out).2.1)
        rintro e w78 ⟨rfl,hb⟩
        refine ⟨_,rfl,?_⟩
        have n0_:=tR_ HO895 hb
        have n1_:=tR_ HO898 hb
        have n2_:=tR_ HO901 hb
        have n3_:=tR_ HO904 hb
        have n4_:=tR_ HO907 hb
        have n5_:=tR_ HO910 hb
        have n6_:=tR_ HO913 hb
        have n7_:=tR_ HO916 hb
        have n8_:=tR_ HO919 hb
        have n9_:=tR_ HO922 hb
        have n10_:=tR_ HO925 hb
        have n11_:=tR_ HO929 hb
        have n12_:=tR_ HO933 hb
        have n13_:=tR_ HO937 hb
        have n14_:=tR_ HO941 hb
        have n15_:=tR_ HO944 hb
        have n16_:=tR_ HO947 hb
        have n17_:=tK_ BK889 hb
        have n18_:=tK_ BK926 hb
        have n19_:=tB_ HB hb
        clear HO895
        clear HO898
        clear HO901
        clear HO904
        clear HO907
        clear HO910
        clear HO913
        clear HO916
        clear HO919
        clear HO922
        clear HO925
        clear HO929
        clear HO933
        clear HO937
        clear HO941
        clear HO944
        clear HO947
        clear BK889
        clear BK926
        clear HB
        have HO895:=n0_
        have HO898:=n1_
        have HO901:=n2_
        have HO904:=n3_
        have HO907:=n4_
        have HO910:=n5_
        have HO913:=n6_
        have HO916:=n7_
        have HO919:=n8_
        have HO922:=n9_
        have HO925:=n10_
        have HO929:=n11_
        have HO933:=n12_
        have HO937:=n13_
        have HO941:=n14_
        have HO944:=n15_
        have HO947:=n16_
        have BK889:=n17_
        have BK926:=n18_
        have HB:=n19_
        clear n0_ n1_ n2_ n3_ n4_ n5_ n6_ n7_ n8_ n9_ n10_ n11_ n12_ n13_ n14_ n15_ n16_ n17_ n18_ n19_
        (try clear hb)
        (try clear hb2)
        (try clear hk)
        (try clear hi)
        refine hK.out _ _ ⟨(blk_cell BK926.out 0).trans rfl,(blk_cell BK926.out 1).trans rfl,(blk_cell BK926.out 2).trans rfl,(blk_cell BK889.out 0).trans rfl,(blk_cell BK889.out 1).trans rfl,(blk_cell BK889.out 2).trans rfl⟩ (fun hHeld => ?_)
        clear hK K
        refine norm_ (a':=?_) ?_ ?_
        rotate_left
        ·show Act.put _ (some 66) _ = _
         simp only [Act.put,List.setIfInBounds_toArray,List.set_cons_zero,List.set_cons_succ,i64_w,i32_w]
         rfl
        refine pu_ 4 (some 67) #[true,true,true,true,true] rfl rfl (by kernel_rfl) ?_
        refine done_ (by kernel_rfl) ?_
        go_upto_region 28 with (first | ((with_reducible refine gate_callee (f:=29) rfl ?_);refine gL_ (some 70) Try.func29 #[.slice Ao61 t911.length co61,.int .i64 1] ?_;(with_reducible refine (laws_markNodeS.calls k (fun k_ => some k_ = (.slice Ao61 t911.length co61 : Value).ownBlock) (.slice Ao61 t911.length co61) t911 1 t949 t950 w _ ?side1 ?side2 A34.out).mono ?_);(case side1 => repeat (first | (with_reducible first | exact HB.out | apply below_alloc | apply pw_below_drewN | apply below_drew1 | refine below_set ?_ GE889.out | refine below_set ?_ GE926.out) | exact HB.out));(case side2 => exact Kd.R_tight rfl HO913.out);rintro e w79 ⟨rfl,hy0,hb,hkp⟩;refine ⟨_,rfl,?_⟩;replace BK889:=Aside0.mk (blk_kept (kx_ BK889.out) hkp (fun hs_ => (fun e_ => (Kd.R_ne HO913.out BK889.out (by decide)) e_) hs_));replace HO895:=Aside0.mk (Kd.R_mono (ok':=fun k_ => some k_ ≠ (.slice Ao46 t896.length co46 : Value).ownBlock ∧ some k_ ≠ (.slice Ao61 t911.length co61 : Value).ownBlock ∧ some k_ ≠ (.slice Ao62 t914.length co62 : Value).ownBlock ∧ some k_ ≠ (.slice Ao68 t931.length co68 : Value).ownBlock ∧ some k_ ≠ (.slice Ao71 t935.length co71 : Value).ownBlock) (Kd.R_keptB (HO895.out) hkp (fun k_ hk_ hs_ => (hk_.1.1.1.2) hs_)) (fun k_ hk_ => ⟨hk_.1.1.1.1.1.2,hk_.1.1.1.1.2,hk_.1.1.1.2,hk_.1.1.2,hk_.1.2⟩));replace HO898:=Aside0.mk (Kd.R_mono (ok':=fun k_ => some k_ ≠ (.slice Ao45 t893.length co45 : Value).ownBlock ∧ some k_ ≠ (.slice Ao61 t911.length co61 : Value).ownBlock ∧ some k_ ≠ (.slice Ao62 t914.length co62 : Value).ownBlock ∧ some k_ ≠ (.slice Ao68 t931.length co68 : Value).ownBlock ∧ some k_ ≠ (.slice Ao71 t935.length co71 : Value).ownBlock) (Kd.R_keptB (HO898.out) hkp (fun k_ hk_ hs_ => (hk_.1.1.1.2) hs_)) (fun k_ hk_ => ⟨hk_.1.1.1.1.1.2,hk_.1.1.1.1.2,hk_.1.1.1.2,hk_.1.1.2,hk_.1.2⟩));replace HO901:=Aside0.mk (Kd.R_mono (ok':=fun k_ => some k_ ≠ (.slice Ao48 t902.length co48 : Value).ownBlock ∧ some k_ ≠ (.slice Ao49 t905.length co49 : Value).ownBlock ∧ some k_ ≠ (.slice Ao56 t917.length co56 : Value).ownBlock ∧ some k_ ≠ (.slice Ao59 t920.length co59 : Value).ownBlock ∧ some k_ ≠ (.slice Ao60 t923.length co60 : Value).ownBlock ∧ some k_ ≠ (.slice Ao75 t939.length co75 : Value).ownBlock ∧ some k_ ≠ (.slice Ao76 t942.length co76 : Value).ownBlock ∧ some k_ ≠ (.slice Ao77 t945.length co77 : Value).ownBlock) (Kd.R_keptB ((Kd.R_apart' HO901.out (Kd.R_typed HO913.out) (by decide))) hkp (fun k_ hk_ hs_ => (hk_.2) hs_)) (fun k_ hk_ => ⟨hk_.1.1.1.1.1.1.1.1.1,hk_.1.1.1.1.1.1.1.1.2,hk_.1.1.1.1.1.1.1.2,hk_.1.1.1.1.1.1.2,hk_.1.1.1.1.1.2,hk_.1.1.1.1.2,hk_.1.1.1.2,hk_.1.1.2⟩));replace HO904:=Aside0.mk (Kd.R_mono (ok':=fun k_ => some k_ ≠ (.slice Ao47 t899.length co47 : Value).ownBlock ∧ some k_ ≠ (.slice Ao49 t905.length co49 : Value).ownBlock ∧ some k_ ≠ (.slice Ao56 t917.length co56 : Value).ownBlock ∧ some k_ ≠ (.slice Ao59 t920.length co59 : Value).ownBlock ∧ some k_ ≠ (.slice Ao60 t923.length co60 : Value).ownBlock ∧ some k_ ≠ (.slice Ao75 t939.length co75 : Value).ownBlock ∧ some k_ ≠ (.slice Ao76 t942.length co76 : Value).ownBlock ∧ some k_ ≠ (.slice Ao77 t945.length co77 : Value).ownBlock) (Kd.R_keptB ((Kd.R_apart' HO904.out (Kd.R_typed HO913.out) (by decide))) hkp (fun k_ hk_ hs_ => (hk_.2) hs_)) (fun k_ hk_ => ⟨hk_.1.1.1.1.1.1.1.1.1,hk_.1.1.1.1.1.1.1.1.2,hk_.1.1.1.1.1.1.1.2,hk_.1.1.1.1.1.1.2,hk_.1.1.1.1.1.2,hk_.1.1.1.1.2,hk_.1.1.1.2,hk_.1.1.2⟩));replace HO907:=Aside0.mk (Kd.R_mono (ok':=fun k_ => some k_ ≠ (.slice Ao47 t899.length co47 : Value).ownBlock ∧ some k_ ≠ (.slice Ao48 t902.length co48 : Value).ownBlock ∧ some k_ ≠ (.slice Ao56 t917.length co56 : Value).ownBlock ∧ some k_ ≠ (.slice Ao59 t920.length co59 : Value).ownBlock ∧ some k_ ≠ (.slice Ao60 t923.length co60 : Value).ownBlock ∧ some k_ ≠ (.slice Ao75 t939.length co75 : Value).ownBlock ∧ some k_ ≠ (.slice Ao76 t942.length co76 : Value).ownBlock ∧ some k_ ≠ (.slice Ao77 t945.length co77 : Value).ownBlock) (Kd.R_keptB ((Kd.R_apart' HO907.out (Kd.R_typed HO913.out) (by decide))) hkp (fun k_ hk_ hs_ => (hk_.2) hs_)) (fun k_ hk_ => ⟨hk_.1.1.1.1.1.1.1.1.1,hk_.1.1.1.1.1.1.1.1.2,hk_.1.1.1.1.1.1.1.2,hk_.1.1.1.1.1.1.2,hk_.1.1.1.1.1.2,hk_.1.1.1.1.2,hk_.1.1.1.2,hk_.1.1.2⟩));replace HO910:=Aside0.mk (Kd.R_mono (ok':=fun k_ => some k_ ≠ (.slice Ao64 t927.length co64 : Value).ownBlock) (Kd.R_keptB ((Kd.R_apart' HO910.out (Kd.R_typed HO913.out) (by decide))) hkp (fun k_ hk_ hs_ => (hk_.2) hs_)) (fun k_ hk_ => hk_.1.1.2));replace HO916:=Aside0.mk (Kd.R_mono (ok':=fun k_ => some k_ ≠ (.slice Ao45 t893.length co45 : Value).ownBlock ∧ some k_ ≠ (.slice Ao46 t896.length co46 : Value).ownBlock ∧ some k_ ≠ (.slice Ao61 t911.length co61 : Value).ownBlock ∧ some k_ ≠ (.slice Ao68 t931.length co68 : Value).ownBlock ∧ some k_ ≠ (.slice Ao71 t935.length co71 : Value).ownBlock) (Kd.R_keptB (HO916.out) hkp (fun k_ hk_ hs_ => (hk_.1.1.2) hs_)) (fun k_ hk_ => ⟨hk_.1.1.1.1.1.2,hk_.1.1.1.1.2,hk_.1.1.1.2,hk_.1.1.2,hk_.1.2⟩));replace HO919:=Aside0.mk (Kd.R_mono (ok':=fun k_ => some k_ ≠ (.slice Ao47 t899.length co47 : Value).ownBlock ∧ some k_ ≠ (.slice Ao48 t902.length co48 : Value).ownBlock ∧ some k_ ≠ (.slice Ao49 t905.length co49 : Value).ownBlock ∧ some k_ ≠ (.slice Ao59 t920.length co59 : Value).ownBlock ∧ some k_ ≠ (.slice Ao60 t923.length co60 : Value).ownBlock ∧ some k_ ≠ (.slice Ao75 t939.length co75 : Value).ownBlock ∧ some k_ ≠ (.slice Ao76 t942.length co76 : Value).ownBlock ∧ some k_ ≠ (.slice Ao77 t945.length co77 : Value).ownBlock) (Kd.R_keptB ((Kd.R_apart' HO919.out (Kd.R_typed HO913.out) (by decide))) hkp (fun k_ hk_ hs_ => (hk_.2) hs_)) (fun k_ hk_ => ⟨hk_.1.1.1.1.1.1.1.2,hk_.1.1.1.1.1.1.2,hk_.1.1.1.1.1.2,hk_.1.1.1.1.1.1.1.1.1,hk_.1.1.1.1.1.1.1.1.2,hk_.1.1.1.1.2,hk_.1.1.1.2,hk_.1.1.2⟩));replace HO922:=Aside0.mk (Kd.R_mono (ok':=fun k_ => some k_ ≠ (.slice Ao47 t899.length co47 : Value).ownBlock ∧ some k_ ≠ (.slice Ao48 t902.length co48 : Value).ownBlock ∧ some k_ ≠ (.slice Ao49 t905.length co49 : Value).ownBlock ∧ some k_ ≠ (.slice Ao56 t917.length co56 : Value).ownBlock ∧ some k_ ≠ (.slice Ao60 t923.length co60 : Value).ownBlock ∧ some k_ ≠ (.slice Ao75 t939.length co75 : Value).ownBlock ∧ some k_ ≠ (.slice Ao76 t942.length co76 : Value).ownBlock ∧ some k_ ≠ (.slice Ao77 t945.length co77 : Value).ownBlock) (Kd.R_keptB ((Kd.R_apart' HO922.out (Kd.R_typed HO913.out) (by decide))) hkp (fun k_ hk_ hs_ => (hk_.2) hs_)) (fun k_ hk_ => ⟨hk_.1.1.1.1.1.1.1.2,hk_.1.1.1.1.1.1.2,hk_.1.1.1.1.1.2,hk_.1.1.1.1.1.1.1.1.1,hk_.1.1.1.1.1.1.1.1.2,hk_.1.1.1.1.2,hk_.1.1.1.2,hk_.1.1.2⟩));replace HO925:=Aside0.mk (Kd.R_mono (ok':=fun k_ => some k_ ≠ (.slice Ao47 t899.length co47 : Value).ownBlock ∧ some k_ ≠ (.slice Ao48 t902.length co48 : Value).ownBlock ∧ some k_ ≠ (.slice Ao49 t905.length co49 : Value).ownBlock ∧ some k_ ≠ (.slice Ao56 t917.length co56 : Value).ownBlock ∧ some k_ ≠ (.slice Ao59 t920.length co59 : Value).ownBlock ∧ some k_ ≠ (.slice Ao75 t939.length co75 : Value).ownBlock ∧ some k_ ≠ (.slice Ao76 t942.length co76 : Value).ownBlock ∧ some k_ ≠ (.slice Ao77 t945.length co77 : Value).ownBlock) (Kd.R_keptB ((Kd.R_apart' HO925.out (Kd.R_typed HO913.out) (by decide))) hkp (fun k_ hk_ hs_ => (hk_.2) hs_)) (fun k_ hk_ => ⟨hk_.1.1.1.1.1.1.1.2,hk_.1.1.1.1.1.1.2,hk_.1.1.1.1.1.2,hk_.1.1.1.1.1.1.1.1.1,hk_.1.1.1.1.1.1.1.1.2,hk_.1.1.1.1.2,hk_.1.1.1.2,hk_.1.1.2⟩));replace BK926:=Aside0.mk (blk_kept (kx_ BK926.out) hkp (fun hs_ => (fun e_ => (Kd.R_ne HO913.out BK926.out (by decide)) e_) hs_));replace HO929:=Aside0.mk (Kd.R_mono (ok':=fun k_ => some k_ ≠ (.slice Ao65 t908.length co65 : Value).ownBlock) (Kd.R_keptB ((Kd.R_apart' HO929.out (Kd.R_typed HO913.out) (by decide))) hkp (fun k_ hk_ hs_ => (hk_.2) hs_)) (fun k_ hk_ => hk_.1.1.2));replace HO933:=Aside0.mk (Kd.R_mono (ok':=fun k_ => some k_ ≠ (.slice Ao45 t893.length co45 : Value).ownBlock ∧ some k_ ≠ (.slice Ao46 t896.length co46 : Value).ownBlock ∧ some k_ ≠ (.slice Ao61 t911.length co61 : Value).ownBlock ∧ some k_ ≠ (.slice Ao62 t914.length co62 : Value).ownBlock ∧ some k_ ≠ (.slice Ao71 t935.length co71 : Value).ownBlock) (Kd.R_keptB (HO933.out) hkp (fun k_ hk_ hs_ => (hk_.1.1.2) hs_)) (fun k_ hk_ => ⟨hk_.1.1.1.1.1.2,hk_.1.1.1.1.2,hk_.1.1.1.2,hk_.1.1.2,hk_.1.2⟩));replace HO937:=Aside0.mk (Kd.R_mono (ok':=fun k_ => some k_ ≠ (.slice Ao45 t893.length co45 : Value).ownBlock ∧ some k_ ≠ (.slice Ao46 t896.length co46 : Value).ownBlock ∧ some k_ ≠ (.slice Ao61 t911.length co61 : Value).ownBlock ∧ some k_ ≠ (.slice Ao62 t914.length co62 : Value).ownBlock ∧ some k_ ≠ (.slice Ao68 t931.length co68 : Value).ownBlock) (Kd.R_keptB (HO937.out) hkp (fun k_ hk_ hs_ => (hk_.1.1.2) hs_)) (fun k_ hk_ => ⟨hk_.1.1.1.1.1.2,hk_.1.1.1.1.2,hk_.1.1.1.2,hk_.1.1.2,hk_.1.2⟩));replace HO941:=Aside0.mk (Kd.R_mono (ok':=fun k_ => some k_ ≠ (.slice Ao47 t899.length co47 : Value).ownBlock ∧ some k_ ≠ (.slice Ao48 t902.length co48 : Value).ownBlock ∧ some k_ ≠ (.slice Ao49 t905.length co49 : Value).ownBlock ∧ some k_ ≠ (.slice Ao56 t917.length co56 : Value).ownBlock ∧ some k_ ≠ (.slice Ao59 t920.length co59 : Value).ownBlock ∧ some k_ ≠ (.slice Ao60 t923.length co60 : Value).ownBlock ∧ some k_ ≠ (.slice Ao76 t942.length co76 : Value).ownBlock ∧ some k_ ≠ (.slice Ao77 t945.length co77 : Value).ownBlock) (Kd.R_keptB ((Kd.R_apart' HO941.out (Kd.R_typed HO913.out) (by decide))) hkp (fun k_ hk_ hs_ => (hk_.2) hs_)) (fun k_ hk_ => ⟨hk_.1.1.1.1.1.1.1.2,hk_.1.1.1.1.1.1.2,hk_.1.1.1.1.1.2,hk_.1.1.1.1.2,hk_.1.1.1.2,hk_.1.1.2,hk_.1.1.1.1.1.1.1.1.1,hk_.1.1.1.1.1.1.1.1.2⟩));replace HO944:=Aside0.mk (Kd.R_mono (ok':=fun k_ => some k_ ≠ (.slice Ao47 t899.length co47 : Value).ownBlock ∧ some k_ ≠ (.slice Ao48 t902.length co48 : Value).ownBlock ∧ some k_ ≠ (.slice Ao49 t905.length co49 : Value).ownBlock ∧ some k_ ≠ (.slice Ao56 t917.length co56 : Value).ownBlock ∧ some k_ ≠ (.slice Ao59 t920.length co59 : Value).ownBlock ∧ some k_ ≠ (.slice Ao60 t923.length co60 : Value).ownBlock ∧ some k_ ≠ (.slice Ao75 t939.length co75 : Value).ownBlock ∧ some k_ ≠ (.slice Ao77 t945.length co77 : Value).ownBlock) (Kd.R_keptB ((Kd.R_apart' HO944.out (Kd.R_typed HO913.out) (by decide))) hkp (fun k_ hk_ hs_ => (hk_.2) hs_)) (fun k_ hk_ => ⟨hk_.1.1.1.1.1.1.1.2,hk_.1.1.1.1.1.1.2,hk_.1.1.1.1.1.2,hk_.1.1.1.1.2,hk_.1.1.1.2,hk_.1.1.2,hk_.1.1.1.1.1.1.1.1.1,hk_.1.1.1.1.1.1.1.1.2⟩));replace HO947:=Aside0.mk (Kd.R_mono (ok':=fun k_ => some k_ ≠ (.slice Ao47 t899.length co47 : Value).ownBlock ∧ some k_ ≠ (.slice Ao48 t902.length co48 : Value).ownBlock ∧ some k_ ≠ (.slice Ao49 t905.length co49 : Value).ownBlock ∧ some k_ ≠ (.slice Ao56 t917.length co56 : Value).ownBlock ∧ some k_ ≠ (.slice Ao59 t920.length co59 : Value).ownBlock ∧ some k_ ≠ (.slice Ao60 t923.length co60 : Value).ownBlock ∧ some k_ ≠ (.slice Ao75 t939.length co75 : Value).ownBlock ∧ some k_ ≠ (.slice Ao76 t942.length co76 : Value).ownBlock) (Kd.R_keptB ((Kd.R_apart' HO947.out (Kd.R_typed HO913.out) (by decide))) hkp (fun k_ hk_ hs_ => (hk_.2) hs_)) (fun k_ hk_ => ⟨hk_.1.1.1.1.1.1.1.2,hk_.1.1.1.1.1.1.2,hk_.1.1.1.1.1.2,hk_.1.1.1.1.2,hk_.1.1.1.2,hk_.1.1.2,hk_.1.1.1.1.1.1.1.1.1,hk_.1.1.1.1.1.1.1.1.2⟩));replace HO913:=Aside0.mk (Kd.R_reok rfl hy0 (fun k_ e_ => HO913.out.1 k_ e_));replace HB:=Aside0.mk (hb);(try clear hb);(try clear hkp);(try clear hy0)) | ((with_reducible refine gate_callee (f:=29) rfl ?_);refine gL_ (some 73) Try.func29 #[.slice Ao62 t914.length co62,.int .i64 t949] ?_;(with_reducible refine (laws_markNodeS.calls k (fun k_ => some k_ = (.slice Ao62 t914.length co62 : Value).ownBlock) (.slice Ao62 t914.length co62) t914 t949 t951 t952 w _ ?side1 ?side2 A35.out).mono ?_);(case side1 => repeat (first | (with_reducible first | exact HB.out | apply below_alloc | apply pw_below_drewN | apply below_drew1 | refine below_set ?_ GE889.out | refine below_set ?_ GE926.out) | exact HB.out));(case side2 => exact Kd.R_tight rfl HO916.out);rintro e w80 ⟨rfl,hy0,hb,hkp⟩;refine ⟨_,rfl,?_⟩;replace BK889:=Aside0.mk (blk_kept (kx_ BK889.out) hkp (fun hs_ => (fun e_ => (Kd.R_ne HO916.out BK889.out (by decide)) e_) hs_));replace HO895:=Aside0.mk (Kd.R_mono (ok':=fun k_ => some k_ ≠ (.slice Ao46 t896.length co46 : Value).ownBlock ∧ some k_ ≠ (.slice Ao61 t911.length co61 : Value).ownBlock ∧ some k_ ≠ (.slice Ao62 t914.length co62 : Value).ownBlock ∧ some k_ ≠ (.slice Ao68 t931.length co68 : Value).ownBlock ∧ some k_ ≠ (.slice Ao71 t935.length co71 : Value).ownBlock) (Kd.R_keptB (HO895.out) hkp (fun k_ hk_ hs_ => (hk_.2.2.1) hs_)) (fun k_ hk_ => ⟨hk_.1.1,hk_.1.2.1,hk_.1.2.2.1,hk_.1.2.2.2.1,hk_.1.2.2.2.2⟩));replace HO898:=Aside0.mk (Kd.R_mono (ok':=fun k_ => some k_ ≠ (.slice Ao45 t893.length co45 : Value).ownBlock ∧ some k_ ≠ (.slice Ao61 t911.length co61 : Value).ownBlock ∧ some k_ ≠ (.slice Ao62 t914.length co62 : Value).ownBlock ∧ some k_ ≠ (.slice Ao68 t931.length co68 : Value).ownBlock ∧ some k_ ≠ (.slice Ao71 t935.length co71 : Value).ownBlock) (Kd.R_keptB (HO898.out) hkp (fun k_ hk_ hs_ => (hk_.2.2.1) hs_)) (fun k_ hk_ => ⟨hk_.1.1,hk_.1.2.1,hk_.1.2.2.1,hk_.1.2.2.2.1,hk_.1.2.2.2.2⟩));replace HO901:=Aside0.mk (Kd.R_mono (ok':=fun k_ => some k_ ≠ (.slice Ao48 t902.length co48 : Value).ownBlock ∧ some k_ ≠ (.slice Ao49 t905.length co49 : Value).ownBlock ∧ some k_ ≠ (.slice Ao56 t917.length co56 : Value).ownBlock ∧ some k_ ≠ (.slice Ao59 t920.length co59 : Value).ownBlock ∧ some k_ ≠ (.slice Ao60 t923.length co60 : Value).ownBlock ∧ some k_ ≠ (.slice Ao75 t939.length co75 : Value).ownBlock ∧ some k_ ≠ (.slice Ao76 t942.length co76 : Value).ownBlock ∧ some k_ ≠ (.slice Ao77 t945.length co77 : Value).ownBlock) (Kd.R_keptB ((Kd.R_apart' HO901.out (Kd.R_typed HO916.out) (by decide))) hkp (fun k_ hk_ hs_ => (hk_.2) hs_)) (fun k_ hk_ => ⟨hk_.1.1.1,hk_.1.1.2.1,hk_.1.1.2.2.1,hk_.1.1.2.2.2.1,hk_.1.1.2.2.2.2.1,hk_.1.1.2.2.2.2.2.1,hk_.1.1.2.2.2.2.2.2.1,hk_.1.1.2.2.2.2.2.2.2⟩));replace HO904:=Aside0.mk (Kd.R_mono (ok':=fun k_ => some k_ ≠ (.slice Ao47 t899.length co47 : Value).ownBlock ∧ some k_ ≠ (.slice Ao49 t905.length co49 : Value).ownBlock ∧ some k_ ≠ (.slice Ao56 t917.length co56 : Value).ownBlock ∧ some k_ ≠ (.slice Ao59 t920.length co59 : Value).ownBlock ∧ some k_ ≠ (.slice Ao60 t923.length co60 : Value).ownBlock ∧ some k_ ≠ (.slice Ao75 t939.length co75 : Value).ownBlock ∧ some k_ ≠ (.slice Ao76 t942.length co76 : Value).ownBlock ∧ some k_ ≠ (.slice Ao77 t945.length co77 : Value).ownBlock) (Kd.R_keptB ((Kd.R_apart' HO904.out (Kd.R_typed HO916.out) (by decide))) hkp (fun k_ hk_ hs_ => (hk_.2) hs_)) (fun k_ hk_ => ⟨hk_.1.1.1,hk_.1.1.2.1,hk_.1.1.2.2.1,hk_.1.1.2.2.2.1,hk_.1.1.2.2.2.2.1,hk_.1.1.2.2.2.2.2.1,hk_.1.1.2.2.2.2.2.2.1,hk_.1.1.2.2.2.2.2.2.2⟩));replace HO907:=Aside0.mk (Kd.R_mono (ok':=fun k_ => some k_ ≠ (.slice Ao47 t899.length co47 : Value).ownBlock ∧ some k_ ≠ (.slice Ao48 t902.length co48 : Value).ownBlock ∧ some k_ ≠ (.slice Ao56 t917.length co56 : Value).ownBlock ∧ some k_ ≠ (.slice Ao59 t920.length co59 : Value).ownBlock ∧ some k_ ≠ (.slice Ao60 t923.length co60 : Value).ownBlock ∧ some k_ ≠ (.slice Ao75 t939.length co75 : Value).ownBlock ∧ some k_ ≠ (.slice Ao76 t942.length co76 : Value).ownBlock ∧ some k_ ≠ (.slice Ao77 t945.length co77 : Value).ownBlock) (Kd.R_keptB ((Kd.R_apart' HO907.out (Kd.R_typed HO916.out) (by decide))) hkp (fun k_ hk_ hs_ => (hk_.2) hs_)) (fun k_ hk_ => ⟨hk_.1.1.1,hk_.1.1.2.1,hk_.1.1.2.2.1,hk_.1.1.2.2.2.1,hk_.1.1.2.2.2.2.1,hk_.1.1.2.2.2.2.2.1,hk_.1.1.2.2.2.2.2.2.1,hk_.1.1.2.2.2.2.2.2.2⟩));replace HO910:=Aside0.mk (Kd.R_mono (ok':=fun k_ => some k_ ≠ (.slice Ao64 t927.length co64 : Value).ownBlock) (Kd.R_keptB ((Kd.R_apart' HO910.out (Kd.R_typed HO916.out) (by decide))) hkp (fun k_ hk_ hs_ => (hk_.2) hs_)) (fun k_ hk_ => hk_.1.1));replace HO913:=Aside0.mk (Kd.R_mono (ok':=fun k_ => some k_ ≠ (.slice Ao45 t893.length co45 : Value).ownBlock ∧ some k_ ≠ (.slice Ao46 t896.length co46 : Value).ownBlock ∧ some k_ ≠ (.slice Ao62 t914.length co62 : Value).ownBlock ∧ some k_ ≠ (.slice Ao68 t931.length co68 : Value).ownBlock ∧ some k_ ≠ (.slice Ao71 t935.length co71 : Value).ownBlock) (Kd.R_keptB (HO913.out) hkp (fun k_ hk_ hs_ => (hk_.1.1.2) hs_)) (fun k_ hk_ => ⟨hk_.1.1.1.1.1.2,hk_.1.1.1.1.2,hk_.1.1.1.2,hk_.1.1.2,hk_.1.2⟩));replace HO919:=Aside0.mk (Kd.R_mono (ok':=fun k_ => some k_ ≠ (.slice Ao47 t899.length co47 : Value).ownBlock ∧ some k_ ≠ (.slice Ao48 t902.length co48 : Value).ownBlock ∧ some k_ ≠ (.slice Ao49 t905.length co49 : Value).ownBlock ∧ some k_ ≠ (.slice Ao59 t920.length co59 : Value).ownBlock ∧ some k_ ≠ (.slice Ao60 t923.length co60 : Value).ownBlock ∧ some k_ ≠ (.slice Ao75 t939.length co75 : Value).ownBlock ∧ some k_ ≠ (.slice Ao76 t942.length co76 : Value).ownBlock ∧ some k_ ≠ (.slice Ao77 t945.length co77 : Value).ownBlock) (Kd.R_keptB ((Kd.R_apart' HO919.out (Kd.R_typed HO916.out) (by decide))) hkp (fun k_ hk_ hs_ => (hk_.2) hs_)) (fun k_ hk_ => ⟨hk_.1.1.1,hk_.1.1.2.1,hk_.1.1.2.2.1,hk_.1.1.2.2.2.1,hk_.1.1.2.2.2.2.1,hk_.1.1.2.2.2.2.2.1,hk_.1.1.2.2.2.2.2.2.1,hk_.1.1.2.2.2.2.2.2.2⟩));replace HO922:=Aside0.mk (Kd.R_mono (ok':=fun k_ => some k_ ≠ (.slice Ao47 t899.length co47 : Value).ownBlock ∧ some k_ ≠ (.slice Ao48 t902.length co48 : Value).ownBlock ∧ some k_ ≠ (.slice Ao49 t905.length co49 : Value).ownBlock ∧ some k_ ≠ (.slice Ao56 t917.length co56 : Value).ownBlock ∧ some k_ ≠ (.slice Ao60 t923.length co60 : Value).ownBlock ∧ some k_ ≠ (.slice Ao75 t939.length co75 : Value).ownBlock ∧ some k_ ≠ (.slice Ao76 t942.length co76 : Value).ownBlock ∧ some k_ ≠ (.slice Ao77 t945.length co77 : Value).ownBlock) (Kd.R_keptB ((Kd.R_apart' HO922.out (Kd.R_typed HO916.out) (by decide))) hkp (fun k_ hk_ hs_ => (hk_.2) hs_)) (fun k_ hk_ => ⟨hk_.1.1.1,hk_.1.1.2.1,hk_.1.1.2.2.1,hk_.1.1.2.2.2.1,hk_.1.1.2.2.2.2.1,hk_.1.1.2.2.2.2.2.1,hk_.1.1.2.2.2.2.2.2.1,hk_.1.1.2.2.2.2.2.2.2⟩));replace HO925:=Aside0.mk (Kd.R_mono (ok':=fun k_ => some k_ ≠ (.slice Ao47 t899.length co47 : Value).ownBlock ∧ some k_ ≠ (.slice Ao48 t902.length co48 : Value).ownBlock ∧ some k_ ≠ (.slice Ao49 t905.length co49 : Value).ownBlock ∧ some k_ ≠ (.slice Ao56 t917.length co56 : Value).ownBlock ∧ some k_ ≠ (.slice Ao59 t920.length co59 : Value).ownBlock ∧ some k_ ≠ (.slice Ao75 t939.length co75 : Value).ownBlock ∧ some k_ ≠ (.slice Ao76 t942.length co76 : Value).ownBlock ∧ some k_ ≠ (.slice Ao77 t945.length co77 : Value).ownBlock) (Kd.R_keptB ((Kd.R_apart' HO925.out (Kd.R_typed HO916.out) (by decide))) hkp (fun k_ hk_ hs_ => (hk_.2) hs_)) (fun k_ hk_ => ⟨hk_.1.1.1,hk_.1.1.2.1,hk_.1.1.2.2.1,hk_.1.1.2.2.2.1,hk_.1.1.2.2.2.2.1,hk_.1.1.2.2.2.2.2.1,hk_.1.1.2.2.2.2.2.2.1,hk_.1.1.2.2.2.2.2.2.2⟩));replace BK926:=Aside0.mk (blk_kept (kx_ BK926.out) hkp (fun hs_ => (fun e_ => (Kd.R_ne HO916.out BK926.out (by decide)) e_) hs_));replace HO929:=Aside0.mk (Kd.R_mono (ok':=fun k_ => some k_ ≠ (.slice Ao65 t908.length co65 : Value).ownBlock) (Kd.R_keptB ((Kd.R_apart' HO929.out (Kd.R_typed HO916.out) (by decide))) hkp (fun k_ hk_ hs_ => (hk_.2) hs_)) (fun k_ hk_ => hk_.1.1));replace HO933:=Aside0.mk (Kd.R_mono (ok':=fun k_ => some k_ ≠ (.slice Ao45 t893.length co45 : Value).ownBlock ∧ some k_ ≠ (.slice Ao46 t896.length co46 : Value).ownBlock ∧ some k_ ≠ (.slice Ao61 t911.length co61 : Value).ownBlock ∧ some k_ ≠ (.slice Ao62 t914.length co62 : Value).ownBlock ∧ some k_ ≠ (.slice Ao71 t935.length co71 : Value).ownBlock) (Kd.R_keptB (HO933.out) hkp (fun k_ hk_ hs_ => (hk_.2.2.2.1) hs_)) (fun k_ hk_ => ⟨hk_.1.1,hk_.1.2.1,hk_.1.2.2.1,hk_.1.2.2.2.1,hk_.1.2.2.2.2⟩));replace HO937:=Aside0.mk (Kd.R_mono (ok':=fun k_ => some k_ ≠ (.slice Ao45 t893.length co45 : Value).ownBlock ∧ some k_ ≠ (.slice Ao46 t896.length co46 : Value).ownBlock ∧ some k_ ≠ (.slice Ao61 t911.length co61 : Value).ownBlock ∧ some k_ ≠ (.slice Ao62 t914.length co62 : Value).ownBlock ∧ some k_ ≠ (.slice Ao68 t931.length co68 : Value).ownBlock) (Kd.R_keptB (HO937.out) hkp (fun k_ hk_ hs_ => (hk_.2.2.2.1) hs_)) (fun k_ hk_ => ⟨hk_.1.1,hk_.1.2.1,hk_.1.2.2.1,hk_.1.2.2.2.1,hk_.1.2.2.2.2⟩));replace HO941:=Aside0.mk (Kd.R_mono (ok':=fun k_ => some k_ ≠ (.slice Ao47 t899.length co47 : Value).ownBlock ∧ some k_ ≠ (.slice Ao48 t902.length co48 : Value).ownBlock ∧ some k_ ≠ (.slice Ao49 t905.length co49 : Value).ownBlock ∧ some k_ ≠ (.slice Ao56 t917.length co56 : Value).ownBlock ∧ some k_ ≠ (.slice Ao59 t920.length co59 : Value).ownBlock ∧ some k_ ≠ (.slice Ao60 t923.length co60 : Value).ownBlock ∧ some k_ ≠ (.slice Ao76 t942.length co76 : Value).ownBlock ∧ some k_ ≠ (.slice Ao77 t945.length co77 : Value).ownBlock) (Kd.R_keptB ((Kd.R_apart' HO941.out (Kd.R_typed HO916.out) (by decide))) hkp (fun k_ hk_ hs_ => (hk_.2) hs_)) (fun k_ hk_ => ⟨hk_.1.1.1,hk_.1.1.2.1,hk_.1.1.2.2.1,hk_.1.1.2.2.2.1,hk_.1.1.2.2.2.2.1,hk_.1.1.2.2.2.2.2.1,hk_.1.1.2.2.2.2.2.2.1,hk_.1.1.2.2.2.2.2.2.2⟩));replace HO944:=Aside0.mk (Kd.R_mono (ok':=fun k_ => some k_ ≠ (.slice Ao47 t899.length co47 : Value).ownBlock ∧ some k_ ≠ (.slice Ao48 t902.length co48 : Value).ownBlock ∧ some k_ ≠ (.slice Ao49 t905.length co49 : Value).ownBlock ∧ some k_ ≠ (.slice Ao56 t917.length co56 : Value).ownBlock ∧ some k_ ≠ (.slice Ao59 t920.length co59 : Value).ownBlock ∧ some k_ ≠ (.slice Ao60 t923.length co60 : Value).ownBlock ∧ some k_ ≠ (.slice Ao75 t939.length co75 : Value).ownBlock ∧ some k_ ≠ (.slice Ao77 t945.length co77 : Value).ownBlock) (Kd.R_keptB ((Kd.R_apart' HO944.out (Kd.R_typed HO916.out) (by decide))) hkp (fun k_ hk_ hs_ => (hk_.2) hs_)) (fun k_ hk_ => ⟨hk_.1.1.1,hk_.1.1.2.1,hk_.1.1.2.2.1,hk_.1.1.2.2.2.1,hk_.1.1.2.2.2.2.1,hk_.1.1.2.2.2.2.2.1,hk_.1.1.2.2.2.2.2.2.1,hk_.1.1.2.2.2.2.2.2.2⟩));replace HO947:=Aside0.mk (Kd.R_mono (ok':=fun k_ => some k_ ≠ (.slice Ao47 t899.length co47 : Value).ownBlock ∧ some k_ ≠ (.slice Ao48 t902.length co48 : Value).ownBlock ∧ some k_ ≠ (.slice Ao49 t905.length co49 : Value).ownBlock ∧ some k_ ≠ (.slice Ao56 t917.length co56 : Value).ownBlock ∧ some k_ ≠ (.slice Ao59 t920.length co59 : Value).ownBlock ∧ some k_ ≠ (.slice Ao60 t923.length co60 : Value).ownBlock ∧ some k_ ≠ (.slice Ao75 t939.length co75 : Value).ownBlock ∧ some k_ ≠ (.slice Ao76 t942.length co76 : Value).ownBlock) (Kd.R_keptB ((Kd.R_apart' HO947.out (Kd.R_typed HO916.out) (by decide))) hkp (fun k_ hk_ hs_ => (hk_.2) hs_)) (fun k_ hk_ => ⟨hk_.1.1.1,hk_.1.1.2.1,hk_.1.1.2.2.1,hk_.1.1.2.2.2.1,hk_.1.1.2.2.2.2.1,hk_.1.1.2.2.2.2.2.1,hk_.1.1.2.2.2.2.2.2.1,hk_.1.1.2.2.2.2.2.2.2⟩));replace HO916:=Aside0.mk (Kd.R_reok rfl hy0 (fun k_ e_ => HO916.out.1 k_ e_));replace HB:=Aside0.mk (hb);(try clear hb);(try clear hkp);(try clear hy0);obtain ⟨hcz81_0,hcz81_1,hcz81_2,hfz81_0,hfz81_1,hfz81_2⟩:=bk3_ BK926) | ((with_reducible refine gate_callee (f:=30) rfl ?_);refine gL_ (some 76) Try.func30 #[.agg #[.slice Ao56 t917.length co56,.slice Ao59 t920.length co59,.slice Ao60 t923.length co60],.int .i64 t951] ?_;(with_reducible refine (laws_markCost.calls k (fun k_ => some k_ = (.slice Ao56 t917.length co56 : Value).ownBlock) (.slice Ao56 t917.length co56) t917 (fun k_ => some k_ = (.slice Ao59 t920.length co59 : Value).ownBlock) (.slice Ao59 t920.length co59) t920 (fun k_ => some k_ = (.slice Ao60 t923.length co60 : Value).ownBlock) (.slice Ao60 t923.length co60) t923 t951 t953 t954 t955 t956 w _ ?side1 ?side2 ?side3 ?side4 ?side5 ?side6 ?side7 ?side8 ?side9 ?side10 A36.out).mono ?_);(case side1 => repeat (first | (with_reducible first | exact HB.out | apply below_alloc | apply pw_below_drewN | apply below_drew1 | refine below_set ?_ GE889.out | refine below_set ?_ GE926.out) | exact HB.out));(case side2 => exact Kd.R_tight rfl HO919.out);(case side3 => exact fun k_ e_ => (HO919.out.1 k_ e_.symm).2.2.2.1);(case side4 => exact fun k_ e_ => (HO919.out.1 k_ e_.symm).2.2.2.2.1);(case side5 => exact Kd.R_tight rfl HO922.out);(case side6 => exact fun k_ e_ => (HO922.out.1 k_ e_.symm).2.2.2.1);(case side7 => exact fun k_ e_ => (HO922.out.1 k_ e_.symm).2.2.2.2.1);(case side8 => exact Kd.R_tight rfl HO925.out);(case side9 => exact fun k_ e_ => (HO925.out.1 k_ e_.symm).2.2.2.1);(case side10 => exact fun k_ e_ => (HO925.out.1 k_ e_.symm).2.2.2.2.1);rintro e w82 ⟨rfl,hy0,hy1,hy2,hb,hkp⟩;refine ⟨_,rfl,?_⟩;replace BK889:=Aside0.mk (blk_kept (kx_ BK889.out) hkp (fun hs_ => Or.elim hs_ (fun e_ => (fun e_ => (Kd.R_ne HO919.out BK889.out (by decide)) e_) e_) (fun e_ => Or.elim e_ (fun e_ => (fun e_ => (Kd.R_ne HO922.out BK889.out (by decide)) e_) e_) (fun e_ => (fun e_ => (Kd.R_ne HO925.out BK889.out (by decide)) e_) e_))));replace HO895:=Aside0.mk (Kd.R_mono (ok':=fun k_ => some k_ ≠ (.slice Ao46 t896.length co46 : Value).ownBlock ∧ some k_ ≠ (.slice Ao61 t911.length co61 : Value).ownBlock ∧ some k_ ≠ (.slice Ao62 t914.length co62 : Value).ownBlock ∧ some k_ ≠ (.slice Ao68 t931.length co68 : Value).ownBlock ∧ some k_ ≠ (.slice Ao71 t935.length co71 : Value).ownBlock) (Kd.R_keptB ((Kd.R_apart' (Kd.R_apart' (Kd.R_apart' HO895.out (Kd.R_typed HO919.out) (by decide)) (Kd.R_typed HO922.out) (by decide)) (Kd.R_typed HO925.out) (by decide))) hkp (fun k_ hk_ hs_ => Or.elim hs_ (fun e_ => (hk_.1.1.2) e_) (fun e_ => Or.elim e_ (fun e_ => (hk_.1.2) e_) (fun e_ => (hk_.2) e_)))) (fun k_ hk_ => ⟨hk_.1.1.1.1.1,hk_.1.1.1.1.2.1,hk_.1.1.1.1.2.2.1,hk_.1.1.1.1.2.2.2.1,hk_.1.1.1.1.2.2.2.2⟩));replace HO898:=Aside0.mk (Kd.R_mono (ok':=fun k_ => some k_ ≠ (.slice Ao45 t893.length co45 : Value).ownBlock ∧ some k_ ≠ (.slice Ao61 t911.length co61 : Value).ownBlock ∧ some k_ ≠ (.slice Ao62 t914.length co62 : Value).ownBlock ∧ some k_ ≠ (.slice Ao68 t931.length co68 : Value).ownBlock ∧ some k_ ≠ (.slice Ao71 t935.length co71 : Value).ownBlock) (Kd.R_keptB ((Kd.R_apart' (Kd.R_apart' (Kd.R_apart' HO898.out (Kd.R_typed HO919.out) (by decide)) (Kd.R_typed HO922.out) (by decide)) (Kd.R_typed HO925.out) (by decide))) hkp (fun k_ hk_ hs_ => Or.elim hs_ (fun e_ => (hk_.1.1.2) e_) (fun e_ => Or.elim e_ (fun e_ => (hk_.1.2) e_) (fun e_ => (hk_.2) e_)))) (fun k_ hk_ => ⟨hk_.1.1.1.1.1,hk_.1.1.1.1.2.1,hk_.1.1.1.1.2.2.1,hk_.1.1.1.1.2.2.2.1,hk_.1.1.1.1.2.2.2.2⟩));replace HO901:=Aside0.mk (Kd.R_mono (ok':=fun k_ => some k_ ≠ (.slice Ao48 t902.length co48 : Value).ownBlock ∧ some k_ ≠ (.slice Ao49 t905.length co49 : Value).ownBlock ∧ some k_ ≠ (.slice Ao56 t917.length co56 : Value).ownBlock ∧ some k_ ≠ (.slice Ao59 t920.length co59 : Value).ownBlock ∧ some k_ ≠ (.slice Ao60 t923.length co60 : Value).ownBlock ∧ some k_ ≠ (.slice Ao75 t939.length co75 : Value).ownBlock ∧ some k_ ≠ (.slice Ao76 t942.length co76 : Value).ownBlock ∧ some k_ ≠ (.slice Ao77 t945.length co77 : Value).ownBlock) (Kd.R_keptB (HO901.out) hkp (fun k_ hk_ hs_ => Or.elim hs_ (fun e_ => (hk_.2.2.1) e_) (fun e_ => Or.elim e_ (fun e_ => (hk_.2.2.2.1) e_) (fun e_ => (hk_.2.2.2.2.1) e_)))) (fun k_ hk_ => ⟨hk_.1.1,hk_.1.2.1,hk_.1.2.2.1,hk_.1.2.2.2.1,hk_.1.2.2.2.2.1,hk_.1.2.2.2.2.2.1,hk_.1.2.2.2.2.2.2.1,hk_.1.2.2.2.2.2.2.2⟩));replace HO904:=Aside0.mk (Kd.R_mono (ok':=fun k_ => some k_ ≠ (.slice Ao47 t899.length co47 : Value).ownBlock ∧ some k_ ≠ (.slice Ao49 t905.length co49 : Value).ownBlock ∧ some k_ ≠ (.slice Ao56 t917.length co56 : Value).ownBlock ∧ some k_ ≠ (.slice Ao59 t920.length co59 : Value).ownBlock ∧ some k_ ≠ (.slice Ao60 t923.length co60 : Value).ownBlock ∧ some k_ ≠ (.slice Ao75 t939.length co75 : Value).ownBlock ∧ some k_ ≠ (.slice Ao76 t942.length co76 : Value).ownBlock ∧ some k_ ≠ (.slice Ao77 t945.length co77 : Value).ownBlock) (Kd.R_keptB (HO904.out) hkp (fun k_ hk_ hs_ => Or.elim hs_ (fun e_ => (hk_.2.2.1) e_) (fun e_ => Or.elim e_ (fun e_ => (hk_.2.2.2.1) e_) (fun e_ => (hk_.2.2.2.2.1) e_)))) (fun k_ hk_ => ⟨hk_.1.1,hk_.1.2.1,hk_.1.2.2.1,hk_.1.2.2.2.1,hk_.1.2.2.2.2.1,hk_.1.2.2.2.2.2.1,hk_.1.2.2.2.2.2.2.1,hk_.1.2.2.2.2.2.2.2⟩));replace HO907:=Aside0.mk (Kd.R_mono (ok':=fun k_ => some k_ ≠ (.slice Ao47 t899.length co47 : Value).ownBlock ∧ some k_ ≠ (.slice Ao48 t902.length co48 : Value).ownBlock ∧ some k_ ≠ (.slice Ao56 t917.length co56 : Value).ownBlock ∧ some k_ ≠ (.slice Ao59 t920.length co59 : Value).ownBlock ∧ some k_ ≠ (.slice Ao60 t923.length co60 : Value).ownBlock ∧ some k_ ≠ (.slice Ao75 t939.length co75 : Value).ownBlock ∧ some k_ ≠ (.slice Ao76 t942.length co76 : Value).ownBlock ∧ some k_ ≠ (.slice Ao77 t945.length co77 : Value).ownBlock) (Kd.R_keptB (HO907.out) hkp (fun k_ hk_ hs_ => Or.elim hs_ (fun e_ => (hk_.2.2.1) e_) (fun e_ => Or.elim e_ (fun e_ => (hk_.2.2.2.1) e_) (fun e_ => (hk_.2.2.2.2.1) e_)))) (fun k_ hk_ => ⟨hk_.1.1,hk_.1.2.1,hk_.1.2.2.1,hk_.1.2.2.2.1,hk_.1.2.2.2.2.1,hk_.1.2.2.2.2.2.1,hk_.1.2.2.2.2.2.2.1,hk_.1.2.2.2.2.2.2.2⟩));replace HO910:=Aside0.mk (Kd.R_mono (ok':=fun k_ => some k_ ≠ (.slice Ao64 t927.length co64 : Value).ownBlock) (Kd.R_keptB ((Kd.R_apart' (Kd.R_apart' (Kd.R_apart' HO910.out (Kd.R_typed HO919.out) (by decide)) (Kd.R_typed HO922.out) (by decide)) (Kd.R_typed HO925.out) (by decide))) hkp (fun k_ hk_ hs_ => Or.elim hs_ (fun e_ => (hk_.1.1.2) e_) (fun e_ => Or.elim e_ (fun e_ => (hk_.1.2) e_) (fun e_ => (hk_.2) e_)))) (fun k_ hk_ => hk_.1.1.1.1));replace HO913:=Aside0.mk (Kd.R_mono (ok':=fun k_ => some k_ ≠ (.slice Ao45 t893.length co45 : Value).ownBlock ∧ some k_ ≠ (.slice Ao46 t896.length co46 : Value).ownBlock ∧ some k_ ≠ (.slice Ao62 t914.length co62 : Value).ownBlock ∧ some k_ ≠ (.slice Ao68 t931.length co68 : Value).ownBlock ∧ some k_ ≠ (.slice Ao71 t935.length co71 : Value).ownBlock) (Kd.R_keptB ((Kd.R_apart' (Kd.R_apart' (Kd.R_apart' HO913.out (Kd.R_typed HO919.out) (by decide)) (Kd.R_typed HO922.out) (by decide)) (Kd.R_typed HO925.out) (by decide))) hkp (fun k_ hk_ hs_ => Or.elim hs_ (fun e_ => (hk_.1.1.2) e_) (fun e_ => Or.elim e_ (fun e_ => (hk_.1.2) e_) (fun e_ => (hk_.2) e_)))) (fun k_ hk_ => ⟨hk_.1.1.1.1.1,hk_.1.1.1.1.2.1,hk_.1.1.1.1.2.2.1,hk_.1.1.1.1.2.2.2.1,hk_.1.1.1.1.2.2.2.2⟩));replace HO916:=Aside0.mk (Kd.R_mono (ok':=fun k_ => some k_ ≠ (.slice Ao45 t893.length co45 : Value).ownBlock ∧ some k_ ≠ (.slice Ao46 t896.length co46 : Value).ownBlock ∧ some k_ ≠ (.slice Ao61 t911.length co61 : Value).ownBlock ∧ some k_ ≠ (.slice Ao68 t931.length co68 : Value).ownBlock ∧ some k_ ≠ (.slice Ao71 t935.length co71 : Value).ownBlock) (Kd.R_keptB ((Kd.R_apart' (Kd.R_apart' (Kd.R_apart' HO916.out (Kd.R_typed HO919.out) (by decide)) (Kd.R_typed HO922.out) (by decide)) (Kd.R_typed HO925.out) (by decide))) hkp (fun k_ hk_ hs_ => Or.elim hs_ (fun e_ => (hk_.1.1.2) e_) (fun e_ => Or.elim e_ (fun e_ => (hk_.1.2) e_) (fun e_ => (hk_.2) e_)))) (fun k_ hk_ => ⟨hk_.1.1.1.1.1,hk_.1.1.1.1.2.1,hk_.1.1.1.1.2.2.1,hk_.1.1.1.1.2.2.2.1,hk_.1.1.1.1.2.2.2.2⟩));replace BK926:=Aside0.mk (blk_kept (kx_ BK926.out) hkp (fun hs_ => Or.elim hs_ (fun e_ => (fun e_ => (Kd.R_ne HO919.out BK926.out (by decide)) e_) e_) (fun e_ => Or.elim e_ (fun e_ => (fun e_ => (Kd.R_ne HO922.out BK926.out (by decide)) e_) e_) (fun e_ => (fun e_ => (Kd.R_ne HO925.out BK926.out (by decide)) e_) e_))));replace HO929:=Aside0.mk (Kd.R_mono (ok':=fun k_ => some k_ ≠ (.slice Ao65 t908.length co65 : Value).ownBlock) (Kd.R_keptB ((Kd.R_apart' (Kd.R_apart' (Kd.R_apart' HO929.out (Kd.R_typed HO919.out) (by decide)) (Kd.R_typed HO922.out) (by decide)) (Kd.R_typed HO925.out) (by decide))) hkp (fun k_ hk_ hs_ => Or.elim hs_ (fun e_ => (hk_.1.1.2) e_) (fun e_ => Or.elim e_ (fun e_ => (hk_.1.2) e_) (fun e_ => (hk_.2) e_)))) (fun k_ hk_ => hk_.1.1.1.1));replace HO933:=Aside0.mk (Kd.R_mono (ok':=fun k_ => some k_ ≠ (.slice Ao45 t893.length co45 : Value).ownBlock ∧ some k_ ≠ (.slice Ao46 t896.length co46 : Value).ownBlock ∧ some k_ ≠ (.slice Ao61 t911.length co61 : Value).ownBlock ∧ some k_ ≠ (.slice Ao62 t914.length co62 : Value).ownBlock ∧ some k_ ≠ (.slice Ao71 t935.length co71 : Value).ownBlock) (Kd.R_keptB ((Kd.R_apart' (Kd.R_apart' (Kd.R_apart' HO933.out (Kd.R_typed HO919.out) (by decide)) (Kd.R_typed HO922.out) (by decide)) (Kd.R_typed HO925.out) (by decide))) hkp (fun k_ hk_ hs_ => Or.elim hs_ (fun e_ => (hk_.1.1.2) e_) (fun e_ => Or.elim e_ (fun e_ => (hk_.1.2) e_) (fun e_ => (hk_.2) e_)))) (fun k_ hk_ => ⟨hk_.1.1.1.1.1,hk_.1.1.1.1.2.1,hk_.1.1.1.1.2.2.1,hk_.1.1.1.1.2.2.2.1,hk_.1.1.1.1.2.2.2.2⟩));replace HO937:=Aside0.mk (Kd.R_mono (ok':=fun k_ => some k_ ≠ (.slice Ao45 t893.length co45 : Value).ownBlock ∧ some k_ ≠ (.slice Ao46 t896.length co46 : Value).ownBlock ∧ some k_ ≠ (.slice Ao61 t911.length co61 : Value).ownBlock ∧ some k_ ≠ (.slice Ao62 t914.length co62 : Value).ownBlock ∧ some k_ ≠ (.slice Ao68 t931.length co68 : Value).ownBlock) (Kd.R_keptB ((Kd.R_apart' (Kd.R_apart' (Kd.R_apart' HO937.out (Kd.R_typed HO919.out) (by decide)) (Kd.R_typed HO922.out) (by decide)) (Kd.R_typed HO925.out) (by decide))) hkp (fun k_ hk_ hs_ => Or.elim hs_ (fun e_ => (hk_.1.1.2) e_) (fun e_ => Or.elim e_ (fun e_ => (hk_.1.2) e_) (fun e_ => (hk_.2) e_)))) (fun k_ hk_ => ⟨hk_.1.1.1.1.1,hk_.1.1.1.1.2.1,hk_.1.1.1.1.2.2.1,hk_.1.1.1.1.2.2.2.1,hk_.1.1.1.1.2.2.2.2⟩));replace HO919:=Aside0.mk (Kd.R_reok rfl hy0 (fun k_ e_ => HO919.out.1 k_ e_));replace HO922:=Aside0.mk (Kd.R_reok rfl hy1 (fun k_ e_ => HO922.out.1 k_ e_));replace HO925:=Aside0.mk (Kd.R_reok rfl hy2 (fun k_ e_ => HO925.out.1 k_ e_));replace HO941:=Aside0.mk (Kd.R_mono (ok':=fun k_ => some k_ ≠ (.slice Ao47 t899.length co47 : Value).ownBlock ∧ some k_ ≠ (.slice Ao48 t902.length co48 : Value).ownBlock ∧ some k_ ≠ (.slice Ao49 t905.length co49 : Value).ownBlock ∧ some k_ ≠ (.slice Ao56 t917.length co56 : Value).ownBlock ∧ some k_ ≠ (.slice Ao59 t920.length co59 : Value).ownBlock ∧ some k_ ≠ (.slice Ao60 t923.length co60 : Value).ownBlock ∧ some k_ ≠ (.slice Ao76 t942.length co76 : Value).ownBlock ∧ some k_ ≠ (.slice Ao77 t945.length co77 : Value).ownBlock) (Kd.R_keptB (HO941.out) hkp (fun k_ hk_ hs_ => Or.elim hs_ (fun e_ => (hk_.2.2.2.1) e_) (fun e_ => Or.elim e_ (fun e_ => (hk_.2.2.2.2.1) e_) (fun e_ => (hk_.2.2.2.2.2.1) e_)))) (fun k_ hk_ => ⟨hk_.1.1,hk_.1.2.1,hk_.1.2.2.1,hk_.1.2.2.2.1,hk_.1.2.2.2.2.1,hk_.1.2.2.2.2.2.1,hk_.1.2.2.2.2.2.2.1,hk_.1.2.2.2.2.2.2.2⟩));replace HO944:=Aside0.mk (Kd.R_mono (ok':=fun k_ => some k_ ≠ (.slice Ao47 t899.length co47 : Value).ownBlock ∧ some k_ ≠ (.slice Ao48 t902.length co48 : Value).ownBlock ∧ some k_ ≠ (.slice Ao49 t905.length co49 : Value).ownBlock ∧ some k_ ≠ (.slice Ao56 t917.length co56 : Value).ownBlock ∧ some k_ ≠ (.slice Ao59 t920.length co59 : Value).ownBlock ∧ some k_ ≠ (.slice Ao60 t923.length co60 : Value).ownBlock ∧ some k_ ≠ (.slice Ao75 t939.length co75 : Value).ownBlock ∧ some k_ ≠ (.slice Ao77 t945.length co77 : Value).ownBlock) (Kd.R_keptB (HO944.out) hkp (fun k_ hk_ hs_ => Or.elim hs_ (fun e_ => (hk_.2.2.2.1) e_) (fun e_ => Or.elim e_ (fun e_ => (hk_.2.2.2.2.1) e_) (fun e_ => (hk_.2.2.2.2.2.1) e_)))) (fun k_ hk_ => ⟨hk_.1.1,hk_.1.2.1,hk_.1.2.2.1,hk_.1.2.2.2.1,hk_.1.2.2.2.2.1,hk_.1.2.2.2.2.2.1,hk_.1.2.2.2.2.2.2.1,hk_.1.2.2.2.2.2.2.2⟩));replace HO947:=Aside0.mk (Kd.R_mono (ok':=fun k_ => some k_ ≠ (.slice Ao47 t899.length co47 : Value).ownBlock ∧ some k_ ≠ (.slice Ao48 t902.length co48 : Value).ownBlock ∧ some k_ ≠ (.slice Ao49 t905.length co49 : Value).ownBlock ∧ some k_ ≠ (.slice Ao56 t917.length co56 : Value).ownBlock ∧ some k_ ≠ (.slice Ao59 t920.length co59 : Value).ownBlock ∧ some k_ ≠ (.slice Ao60 t923.length co60 : Value).ownBlock ∧ some k_ ≠ (.slice Ao75 t939.length co75 : Value).ownBlock ∧ some k_ ≠ (.slice Ao76 t942.length co76 : Value).ownBlock) (Kd.R_keptB (HO947.out) hkp (fun k_ hk_ hs_ => Or.elim hs_ (fun e_ => (hk_.2.2.2.1) e_) (fun e_ => Or.elim e_ (fun e_ => (hk_.2.2.2.2.1) e_) (fun e_ => (hk_.2.2.2.2.2.1) e_)))) (fun k_ hk_ => ⟨hk_.1.1,hk_.1.2.1,hk_.1.2.2.1,hk_.1.2.2.2.1,hk_.1.2.2.2.2.1,hk_.1.2.2.2.2.2.1,hk_.1.2.2.2.2.2.2.1,hk_.1.2.2.2.2.2.2.2⟩));replace HB:=Aside0.mk (hb);(try clear hb);(try clear hkp);(try clear hy0);(try clear hy1);(try clear hy2)))
        (try simp only [Act.put,List.setIfInBounds_toArray,List.set_cons_zero,List.set_cons_succ])
        go_cut [84] (fun v84 wc => ∃ (kq : Nat) (x84_36 : Bool),v84 = .bool x84_36 ∧ Aside0 (laws_FnExactBestMap.j0 kq l0 l1 t908 t927 x84_36 l2_0 l2_1 l2_2 = some true) ∧ Aside0 (kq ≤ k) ∧ Aside0 (Kd.R k84 84 wc w.heap.size (fun k_ => some k_ ≠ ((.slice Ao64 t927.length co64) : Value).ownBlock) (.slice Ao65 t908.length co65) t908) ∧ Aside0 (Kd.R k84 84 wc w.heap.size (fun k_ => some k_ ≠ ((.slice Ao65 t908.length co65) : Value).ownBlock) (.slice Ao64 t927.length co64) t927) ∧ Aside0 (Kd.R (Kd.int .i64) 3 wc w.heap.size (fun k_ => some k_ ≠ ((.slice Ao59 t920.length co59) : Value).ownBlock ∧ some k_ ≠ ((.slice Ao60 t923.length co60) : Value).ownBlock) (.slice Ao56 t917.length co56) t954) ∧ Aside0 (Kd.R (Kd.int .i64) 3 wc w.heap.size (fun k_ => some k_ ≠ ((.slice Ao56 t917.length co56) : Value).ownBlock ∧ some k_ ≠ ((.slice Ao60 t923.length co60) : Value).ownBlock) (.slice Ao59 t920.length co59) t955) ∧ Aside0 (Kd.R (Kd.int .i64) 3 wc w.heap.size (fun k_ => some k_ ≠ ((.slice Ao56 t917.length co56) : Value).ownBlock ∧ some k_ ≠ ((.slice Ao59 t920.length co59) : Value).ownBlock) (.slice Ao60 t923.length co60) t956) ∧ Aside0 (wc.heap[gb889]? = some (.cells #[(.slice A2_0 l2_0.length c2_0),(.slice A2_1 l2_1.length c2_1),(.slice A2_2 l2_2.length c2_2)] 25 (0,0))) ∧ Aside0 (wc.heap[gb926]? = some (.cells #[(.slice Ao56 t917.length co56),(.slice Ao59 t920.length co59),(.slice Ao60 t923.length co60)] 31 (0,0))) ∧ Aside0 (Below w.heap.size w wc))
        case first =>
         have H:=HC37.out
         clear HC37
         by_cases c83 : t953 < 0
         ·rw [if_pos c83] at H
          have c83b0 : decide (t953 < 0) = true:=decide_eq_true c83
          clear c83
          (first | rw [c83b0] | (simp only [i64_w,i32_w];rw [c83b0]) | skip)
          have H':=Aside0.mk H
          clear H
          go_wp2
          go_meet
          case rel => exact ⟨_,(true),eb_,H',⟨by first | omega | exact Nat.le_refl _⟩,⟨rx_ HO910.out⟩,⟨rx_ HO929.out⟩,⟨rx_ (Kd.R_mono HO919.out (fun _ hk => ⟨hk.2.2.2.1,hk.2.2.2.2.1⟩))⟩,⟨rx_ (Kd.R_mono HO922.out (fun _ hk => ⟨hk.2.2.2.1,hk.2.2.2.2.1⟩))⟩,⟨rx_ (Kd.R_mono HO925.out (fun _ hk => ⟨hk.2.2.2.1,hk.2.2.2.2.1⟩))⟩,⟨kx_ BK889.out⟩,⟨kx_ BK926.out⟩,bl_ HB⟩
         ·rw [if_neg c83] at H
          have c83b0 : decide (t953 < 0) = false:=decide_eq_false c83
          clear c83
          (first | rw [c83b0] | (simp only [i64_w,i32_w];rw [c83b0]) | skip)
          replace H:=Option.bind_eq_some_iff.mp H
          obtain ⟨t957,A840,H⟩:=H
          replace H : (laws_FnExactBestMap.j0 k l0 l1 t908 t927 (!t957) l2_0 l2_1 l2_2) = some true:=H
          have A84:=Aside0.mk A840
          clear A840
          have H':=Aside0.mk H
          clear H
          go_wp2_with (first | (go_at_call 35;(with_reducible refine (laws_eqPairS.calls k _ _ t927 _ _ t908 t957 _ (cc_ (Kd.R_reads' HO929.out).2.2) ((Kd.R_reads' HO929.out).2.1) (cc_ (Kd.R_reads' HO910.out).2.2) ((Kd.R_reads' HO910.out).2.1) A84.out).mono ?_);rintro e w85 ⟨rfl,hb⟩;replace HO895:=tR_ HO895 hb;replace HO898:=tR_ HO898 hb;replace HO901:=tR_ HO901 hb;replace HO904:=tR_ HO904 hb;replace HO907:=tR_ HO907 hb;replace HO910:=tR_ HO910 hb;replace HO913:=tR_ HO913 hb;replace HO916:=tR_ HO916 hb;replace HO919:=tR_ HO919 hb;replace HO922:=tR_ HO922 hb;replace HO925:=tR_ HO925 hb;replace HO929:=tR_ HO929 hb;replace HO933:=tR_ HO933 hb;replace HO937:=tR_ HO937 hb;replace HO941:=tR_ HO941 hb;replace HO944:=tR_ HO944 hb;replace HO947:=tR_ HO947 hb;replace BK889:=tK_ BK889 hb;replace BK926:=tK_ BK926 hb;replace HB:=tB_ HB hb;(try clear hb)))
          go_meet
          case rel => exact ⟨_,(!t957),eb_,H',⟨by first | omega | exact Nat.le_refl _⟩,⟨rx_ HO910.out⟩,⟨rx_ HO929.out⟩,⟨rx_ (Kd.R_mono HO919.out (fun _ hk => ⟨hk.2.2.2.1,hk.2.2.2.2.1⟩))⟩,⟨rx_ (Kd.R_mono HO922.out (fun _ hk => ⟨hk.2.2.2.1,hk.2.2.2.2.1⟩))⟩,⟨rx_ (Kd.R_mono HO925.out (fun _ hk => ⟨hk.2.2.2.1,hk.2.2.2.2.1⟩))⟩,⟨kx_ BK889.out⟩,⟨kx_ BK926.out⟩,bl_ HB⟩
        case rest =>
         clear HC37
         try clear c1
         try clear c2
         try clear p2
         try clear c3
         try clear c5
         try clear c8
         try clear c12
         try clear c13
         try clear c15
         try clear c16
         try clear c18
         try clear c19
         try clear c24
         try clear c27
         try clear c29
         try clear c30
         try clear c33
         try clear c34
         try clear c35
         try clear c57
         try clear c83
         try clear c83b0
         try clear hcz39_0
         try clear hcz39_1
         try clear hcz39_2
         try clear hcz53_0
         try clear hcz53_1
         try clear hcz53_2
         try clear hcz58_0
         try clear hcz58_1
         try clear hcz58_2
         try clear hcz81_0
         try clear hcz81_1
         try clear hcz81_2
         try clear hfz39_0
         try clear hfz39_1
         try clear hfz39_2
         try clear hfz53_0
         try clear hfz53_1
         try clear hfz53_2
         try clear hfz58_0
         try clear hfz58_1
         try clear hfz58_2
         try clear hfz81_0
         try clear hfz81_1
         try clear hfz81_2
         obtain ⟨kq,x84_36,rfl,HA,HJ36,HO_8,HO_12,HO_927000,HO_927001,HO_927002,BK889,BK926,HB⟩:=hcut
         have hl927000_36:=(Kd.R_reads' HO_927000.out).1
         rw [hl927000_36] at HO_927000
         (try simp only [hl927000_36])
         (try simp only [hl927000_36] at BK889)
         (try simp only [hl927000_36] at BK926)
         (try simp only [hl927000_36] at HO_8)
         (try simp only [hl927000_36] at HO_12)
         (try simp only [hl927000_36] at HO_927001)
         (try simp only [hl927000_36] at HO_927002)
         have hl927001_36:=(Kd.R_reads' HO_927001.out).1
         rw [hl927001_36] at HO_927001
         (try simp only [hl927001_36])
         (try simp only [hl927001_36] at BK889)
         (try simp only [hl927001_36] at BK926)
         (try simp only [hl927001_36] at HO_8)
         (try simp only [hl927001_36] at HO_12)
         (try simp only [hl927001_36] at HO_927000)
         (try simp only [hl927001_36] at HO_927002)
         have hl927002_36:=(Kd.R_reads' HO_927002.out).1
         rw [hl927002_36] at HO_927002
         (try simp only [hl927002_36])
         (try simp only [hl927002_36] at BK889)
         (try simp only [hl927002_36] at BK926)
         (try simp only [hl927002_36] at HO_8)
         (try simp only [hl927002_36] at HO_12)
         (try simp only [hl927002_36] at HO_927000)
         (try simp only [hl927002_36] at HO_927001)
         cases kq with
         | zero => exact absurd HA.out (by simp [laws_FnExactBestMap.j0])
         | succ kj36 =>
          have H:=HA.out
          clear HA
          simp only [laws_FnExactBestMap.j0] at H
          by_cases c86 : x84_36 = true
          ·subst c86
           have H1 : (some false) = some true:=by rw [if_pos rfl] at H;exact H
           clear H
           have H:=H1
           clear H1
           exact absurd H (by simp)
          ·replace c86:=Bool.eq_false_iff.mpr c86
           subst c86
           have H1 : ((laws_markPairS.f kj36 t927 1).bind fun bt958 => ((laws_heldPairS.f kj36 bt958.2 1).bind fun t960 => (if t960 < 0 then (some false) else (if t960 = bt958.1 then ((laws_toNodeS.f kj36 l0).bind fun t961 => ((laws_toNodeS.f kj36 l1).bind fun t964 => ((laws_toCost.f kj36 l2_0 l2_1 l2_2).bind fun bt967 => ((impl_BestMap.f kj36 t961 t964 bt967.1 bt967.2.1 bt967.2.2).bind fun t976 => ((laws_eqPairS.f kj36 t976 t908).bind fun t979 => (if t979 = true then ((laws_heldPairS.f kj36 bt958.2 1).bind fun t980 => (if t980 < 0 then (some false) else (if t980 = bt958.1 then (some true) else (some false)))) else (some false))))))) else (some false))))) = some true:=by rw [if_neg (show ¬ (false = true) by decide)] at H;exact H
           clear H
           have H:=H1
           clear H1
           replace H:=Option.bind_eq_some_iff.mp H
           obtain ⟨⟨t958,t959⟩,A870,H⟩:=H
           try dsimp only at H
           have A87:=Aside0.mk A870
           clear A870
           replace H:=Option.bind_eq_some_iff.mp H
           obtain ⟨t960,A880,H⟩:=H
           try dsimp only at H
           have A88:=Aside0.mk A880
           clear A880
           by_cases c89 : t960 < 0
           ·rw [if_pos c89] at H
            have c89b0 : decide (t960 < 0) = true:=decide_eq_true c89
            clear c89
            exact absurd H (by simp)
           ·rw [if_neg c89] at H
            have c89b0 : decide (t960 < 0) = false:=decide_eq_false c89
            clear c89
            by_cases c91 : t960 = t958
            ·rw [if_pos c91] at H
             have c91b0 : (t960 == t958) = true:=beq_iff_eq.mpr c91
             have c91b1 : (t960 != t958) = false:=bne_eq_false_iff_eq.mpr c91
             clear c91
             replace H:=Option.bind_eq_some_iff.mp H
             obtain ⟨t961,A920,H⟩:=H
             try dsimp only at H
             have A92:=Aside0.mk A920
             clear A920
             replace H:=Option.bind_eq_some_iff.mp H
             obtain ⟨t964,A930,H⟩:=H
             try dsimp only at H
             have A93:=Aside0.mk A930
             clear A930
             replace H:=Option.bind_eq_some_iff.mp H
             obtain ⟨⟨t967,t970,t973⟩,A940,H⟩:=H
             try dsimp only at H
             have A94:=Aside0.mk A940
             clear A940
             replace H:=Option.bind_eq_some_iff.mp H
             obtain ⟨t976,A950,H⟩:=H
             try dsimp only at H
             have A95:=Aside0.mk A950
             clear A950
             replace H:=Option.bind_eq_some_iff.mp H
             obtain ⟨t979,A960,H⟩:=H
             try dsimp only at H
             have A96:=Aside0.mk A960
             clear A960
             by_cases c97 : t979 = true
             ·subst c97
              have H1 : ((laws_heldPairS.f kj36 t959 1).bind fun t980 => (if t980 < 0 then (some false) else (if t980 = t958 then (some true) else (some false)))) = some true:=by rw [if_pos rfl] at H;exact H
              clear H
              have H:=H1
              clear H1
              replace H:=Option.bind_eq_some_iff.mp H
              obtain ⟨t980,A980,H⟩:=H
              try dsimp only at H
              have A98:=Aside0.mk A980
              clear A980
              by_cases c99 : t980 < 0
              ·rw [if_pos c99] at H
               have c99b0 : decide (t980 < 0) = true:=decide_eq_true c99
               clear c99
               exact absurd H (by simp)
              ·rw [if_neg c99] at H
               have c99b0 : decide (t980 < 0) = false:=decide_eq_false c99
               clear c99
               by_cases c113 : t980 = t958
               ·rw [if_pos c113] at H
                have c113b0 : (t980 == t958) = true:=beq_iff_eq.mpr c113
                have c113b1 : (t980 != t958) = false:=bne_eq_false_iff_eq.mpr c113
                clear c113
                clear H
                try go_wp2_with (first | ((with_reducible refine gate_callee (f:=36) rfl ?_);refine gL_ (some 87) Try.func36 #[.slice Ao64 t927.length co64,.int .i64 1] ?_;(with_reducible refine (laws_markPairS.calls kj36 (fun k_ => some k_ = (.slice Ao64 t927.length co64 : Value).ownBlock) (.slice Ao64 t927.length co64) t927 1 t958 t959 w _ ?side1 ?side2 A87.out).mono ?_);(case side1 => repeat (first | (with_reducible first | exact HB.out | apply below_alloc | apply pw_below_drewN | apply below_drew1 | refine below_set ?_ GE889.out | refine below_set ?_ GE926.out) | exact HB.out));(case side2 => exact Kd.R_tight rfl HO_12.out);rintro e w114 ⟨rfl,hy0,hb,hkp⟩;refine ⟨_,rfl,?_⟩;replace HO_8:=Aside0.mk (Kd.R_mono (ok':=fun k_ => some k_ ≠ (.slice Ao64 t927.length co64 : Value).ownBlock) (Kd.R_keptB (HO_8.out) hkp (fun k_ hk_ hs_ => (hk_) hs_)) (fun k_ hk_ => hk_.1));replace HO_927000:=Aside0.mk (Kd.R_mono (ok':=fun k_ => some k_ ≠ (.slice Ao59 t955.length co59 : Value).ownBlock ∧ some k_ ≠ (.slice Ao60 t956.length co60 : Value).ownBlock) (Kd.R_keptB ((Kd.R_apart' HO_927000.out (Kd.R_typed HO_12.out) (by decide))) hkp (fun k_ hk_ hs_ => (hk_.2) hs_)) (fun k_ hk_ => ⟨hk_.1.1.1,hk_.1.1.2⟩));replace HO_927001:=Aside0.mk (Kd.R_mono (ok':=fun k_ => some k_ ≠ (.slice Ao56 t954.length co56 : Value).ownBlock ∧ some k_ ≠ (.slice Ao60 t956.length co60 : Value).ownBlock) (Kd.R_keptB ((Kd.R_apart' HO_927001.out (Kd.R_typed HO_12.out) (by decide))) hkp (fun k_ hk_ hs_ => (hk_.2) hs_)) (fun k_ hk_ => ⟨hk_.1.1.1,hk_.1.1.2⟩));replace HO_927002:=Aside0.mk (Kd.R_mono (ok':=fun k_ => some k_ ≠ (.slice Ao56 t954.length co56 : Value).ownBlock ∧ some k_ ≠ (.slice Ao59 t955.length co59 : Value).ownBlock) (Kd.R_keptB ((Kd.R_apart' HO_927002.out (Kd.R_typed HO_12.out) (by decide))) hkp (fun k_ hk_ hs_ => (hk_.2) hs_)) (fun k_ hk_ => ⟨hk_.1.1.1,hk_.1.1.2⟩));replace BK889:=Aside0.mk (blk_kept (kx_ BK889.out) hkp (fun hs_ => (fun e_ => (Kd.R_ne HO_12.out BK889.out (by decide)) e_) hs_));replace BK926:=Aside0.mk (blk_kept (kx_ BK926.out) hkp (fun hs_ => (fun e_ => (Kd.R_ne HO_12.out BK926.out (by decide)) e_) hs_));replace HO_12:=Aside0.mk (Kd.R_reok rfl hy0 (fun k_ e_ => HO_12.out.1 k_ e_));replace HB:=Aside0.mk (hb);(try clear hb);(try clear hkp);(try clear hy0)) | ((with_reducible refine gate_callee (f:=37) rfl ?_);refine goesL_ (some 90) rfl rfl Try.func37 (by kernel_rfl) rfl #[.slice Ao64 t959.length co64,.int .i64 1] rfl (by (try simp only [List.map_toArray,List.map_cons,List.map_nil]);first | done | (rw [show t959.length = t927.length from (Kd.R_reads' HO_12.out).1.symm] <;> rfl) | rfl | (simp only [List.length_drop,List.length_take];rfl)) ?_;(with_reducible refine (laws_heldPairS.calls kj36 _ _ t959 1 t960 _ ?side1 ?side2 A88.out).mono ?_);(case side1 => exact cc_ (Kd.R_reads' HO_12.out).2.2);(case side2 => rw [show t959.length = t927.length from (Kd.R_reads' HO_12.out).1.symm];exact (Kd.R_reads' HO_12.out).2.1);rintro e w' ⟨rfl,⟨nd,rfl⟩⟩;refine ⟨_,rfl,?_⟩))
                (try (rw [drewN_self w114];generalize hq_ : World.drewN w114 _ = w114;have n0_ : Aside0 (Kd.R k84 84 w114 w.heap.size (fun k_ => some k_ ≠ (.slice Ao65 t908.length co65 : Value).ownBlock) (.slice Ao64 t927.length co64) t959):=⟨by rw [← hq_];exact (rx_ HO_12.out)⟩;have n1_ : Aside0 (Kd.R k84 84 w114 w.heap.size (fun k_ => some k_ ≠ (.slice Ao64 t927.length co64 : Value).ownBlock) (.slice Ao65 t908.length co65) t908):=⟨by rw [← hq_];exact (rx_ HO_8.out)⟩;have n2_ : Aside0 (Kd.R (Kd.int .i64) 3 w114 w.heap.size (fun k_ => some k_ ≠ (.slice Ao59 t955.length co59 : Value).ownBlock ∧ some k_ ≠ (.slice Ao60 t956.length co60 : Value).ownBlock) (.slice Ao56 t954.length co56) t954):=⟨by rw [← hq_];exact (rx_ HO_927000.out)⟩;have n3_ : Aside0 (Kd.R (Kd.int .i64) 3 w114 w.heap.size (fun k_ => some k_ ≠ (.slice Ao56 t954.length co56 : Value).ownBlock ∧ some k_ ≠ (.slice Ao60 t956.length co60 : Value).ownBlock) (.slice Ao59 t955.length co59) t955):=⟨by rw [← hq_];exact (rx_ HO_927001.out)⟩;have n4_ : Aside0 (Kd.R (Kd.int .i64) 3 w114 w.heap.size (fun k_ => some k_ ≠ (.slice Ao56 t954.length co56 : Value).ownBlock ∧ some k_ ≠ (.slice Ao59 t955.length co59 : Value).ownBlock) (.slice Ao60 t956.length co60) t956):=⟨by rw [← hq_];exact (rx_ HO_927002.out)⟩;have n5_ : Aside0 (w114.heap[gb889]? = some (.cells #[.slice A2_0 l2_0.length c2_0,.slice A2_1 l2_1.length c2_1,.slice A2_2 l2_2.length c2_2] 25 (0,0))):=⟨by rw [← hq_];exact (kx_ BK889.out)⟩;have n6_ : Aside0 (w114.heap[gb926]? = some (.cells #[.slice Ao56 t954.length co56,.slice Ao59 t955.length co59,.slice Ao60 t956.length co60] 31 (0,0))):=⟨by rw [← hq_];exact (kx_ BK926.out)⟩;have n7_ : Aside0 (Below w.heap.size w w114):=⟨by rw [← hq_];exact ((bl_ HB).out)⟩;clear HO_12 HO_8 HO_927000 HO_927001 HO_927002 BK889 BK926 HB hq_;have HO_12:=n0_;have HO_8:=n1_;have HO_927000:=n2_;have HO_927001:=n3_;have HO_927002:=n4_;have BK889:=n5_;have BK926:=n6_;have HB:=n7_;clear n0_ n1_ n2_ n3_ n4_ n5_ n6_ n7_))
                have n0_:=Aside0.mk (Kd.R_drew HO_8.out)
                have n1_:=Aside0.mk (Kd.R_drew HO_12.out)
                have n2_:=Aside0.mk (Kd.R_drew HO_927000.out)
                have n3_:=Aside0.mk (Kd.R_drew HO_927001.out)
                have n4_:=Aside0.mk (Kd.R_drew HO_927002.out)
                have n5_:=Aside0.mk (blk_drew BK889.out)
                have n6_:=Aside0.mk (blk_drew BK926.out)
                have n7_:=Aside0.mk (below_drew1 HB.out)
                clear HO_8
                clear HO_12
                clear HO_927000
                clear HO_927001
                clear HO_927002
                clear BK889
                clear BK926
                clear HB
                have HO_8:=n0_
                have HO_12:=n1_
                have HO_927000:=n2_
                have HO_927001:=n3_
                have HO_927002:=n4_
                have BK889:=n5_
                have BK926:=n6_
                have HB:=n7_
                clear n0_ n1_ n2_ n3_ n4_ n5_ n6_ n7_
                refine start_ (n:=8) (S:=fun w' => w'.cell? ⟨gb889,0,none⟩ = some (.slice A2_0 l2_0.length c2_0) ∧ w'.cell? ⟨gb889,1,none⟩ = some (.slice A2_1 l2_1.length c2_1) ∧ w'.cell? ⟨gb889,2,none⟩ = some (.slice A2_2 l2_2.length c2_2)) (ds:=[]) (ba_ 8 0) (by kernel_rfl) rfl rfl ⟨(blk_cell BK889.out 0).trans rfl,(blk_cell BK889.out 1).trans rfl,(blk_cell BK889.out 2).trans rfl⟩ (fun hHeld => ?_);refine with_tabW laws_FnExactBestMap.tab38 laws_FnExactBestMap.bits38 (fun HT_ HW_ => ?_)
                generalize w114.drew = w115 at HO_8 HO_12 HO_927000 HO_927001 HO_927002 BK889 BK926 HB hHeld ⊢
                refine pu_ 0 (some 96) (ba_ 8 1) rfl rfl (any_of HT_.out (by kernel_rfl)) ?_
                refine pu_ 2 (some 98) (ba_ 8 5) rfl rfl (any_of HT_.out (by kernel_rfl)) ?_
                refine ta_ 4 (some 100) (ba_ 8 21) rfl rfl (take_ofW HT_.out HW_.out (by kernel_rfl)) hHeld (by rintro w' ⟨s0,s1,s2⟩;go_simp;with_reducible rfl) ?_
                refine one_ (i:=1) (N:=some 97) (ba_ 8 23) rfl rfl (one_of HT_.out (by kernel_rfl)) (by decide) (fun K hK => ?_)
                refine goes_ Try.func15 (by kernel_rfl) rfl #[.slice A0 l0.length c0] (by rfl) rfl rfl (by (try simp only [List.map_toArray,List.map_cons,List.map_nil]);first | done | rfl | (simp only [List.length_drop,List.length_take];rfl)) ?_
                with_reducible refine (laws_toNodeS.calls kj36 _ _ l0 t961 _ ?side1 ?side2 A92.out).mono ?_
                (case side1 => exact cx_ HR0 HB)
                (case side2 => exact HC0.out)
                rintro e w116 ⟨v962,rfl,ho0,hb⟩
                refine ⟨_,rfl,?_⟩
                have n0_:=tR_ HO_8 hb
                have n1_:=tR_ HO_12 hb
                have n2_:=tR_ HO_927000 hb
                have n3_:=tR_ HO_927001 hb
                have n4_:=tR_ HO_927002 hb
                have n5_:=Aside0.mk (Kd.R_lower ho0 (bs_ HB))
                have n6_:=tK_ BK889 hb
                have n7_:=tK_ BK926 hb
                have n8_:=tB_ HB hb
                clear HO_8
                clear HO_12
                clear HO_927000
                clear HO_927001
                clear HO_927002
                clear BK889
                clear BK926
                clear HB
                have HO_8:=n0_
                have HO_12:=n1_
                have HO_927000:=n2_
                have HO_927001:=n3_
                have HO_927002:=n4_
                have HO963:=n5_
                have BK889:=n6_
                have BK926:=n7_
                have HB:=n8_
                clear n0_ n1_ n2_ n3_ n4_ n5_ n6_ n7_ n8_
                (try clear hb)
                (try clear hb2)
                (try clear hk)
                (try clear hi)
                (try clear ho0)
                refine hK.out _ _ ⟨(blk_cell BK889.out 0).trans rfl,(blk_cell BK889.out 1).trans rfl,(blk_cell BK889.out 2).trans rfl⟩ (fun hHeld => ?_)
                clear hK K
                refine norm_ (a':=?_) ?_ ?_
                rotate_left
                ·show Act.put _ (some 97) _ = _
                 simp only [Act.put,List.setIfInBounds_toArray,List.set_cons_zero,List.set_cons_succ,i64_w,i32_w]
                 rfl
                refine one_ (i:=3) (N:=some 99) (ba_ 8 31) rfl rfl (one_of HT_.out (by kernel_rfl)) (by decide) (fun K hK => ?_)
                refine goes_ Try.func15 (by kernel_rfl) rfl #[.slice A1 l1.length c1] (by rfl) rfl rfl (by (try simp only [List.map_toArray,List.map_cons,List.map_nil]);first | done | rfl | (simp only [List.length_drop,List.length_take];rfl)) ?_
                with_reducible refine (laws_toNodeS.calls kj36 _ _ l1 t964 _ ?side1 ?side2 A93.out).mono ?_
                (case side1 => exact cx_ HR1 HB)
                (case side2 => exact HC1.out)
                rintro e w117 ⟨v965,rfl,ho0,hb⟩
                refine ⟨_,rfl,?_⟩
                have n0_:=tR_ HO_8 hb
                have n1_:=tR_ HO_12 hb
                have n2_:=tR_ HO_927000 hb
                have n3_:=tR_ HO_927001 hb
                have n4_:=tR_ HO_927002 hb
                have n5_:=Aside0.mk (Kd.R_elder' (rx_ HO963.out) (Kd.R_base ho0) hb)
                have n6_:=Aside0.mk (Kd.R_lower (Kd.R_new' ho0 (Kd.R_lt (rx_ HO963.out))) (bs_ HB))
                have n7_:=tK_ BK889 hb
                have n8_:=tK_ BK926 hb
                have n9_:=tB_ HB hb
                clear HO_8
                clear HO_12
                clear HO_927000
                clear HO_927001
                clear HO_927002
                clear HO963
                clear BK889
                clear BK926
                clear HB
                have HO_8:=n0_
                have HO_12:=n1_
                have HO_927000:=n2_
                have HO_927001:=n3_
                have HO_927002:=n4_
                have HO963:=n5_
                have HO966:=n6_
                have BK889:=n7_
                have BK926:=n8_
                have HB:=n9_
                clear n0_ n1_ n2_ n3_ n4_ n5_ n6_ n7_ n8_ n9_
                (try clear hb)
                (try clear hb2)
                (try clear hk)
                (try clear hi)
                (try clear ho0)
                refine hK.out _ _ ⟨(blk_cell BK889.out 0).trans rfl,(blk_cell BK889.out 1).trans rfl,(blk_cell BK889.out 2).trans rfl⟩ (fun hHeld => ?_)
                clear hK K
                refine norm_ (a':=?_) ?_ ?_
                rotate_left
                ·show Act.put _ (some 99) _ = _
                 simp only [Act.put,List.setIfInBounds_toArray,List.set_cons_zero,List.set_cons_succ,i64_w,i32_w]
                 rfl
                refine one_ (i:=5) (N:=some 101) (ba_ 8 63) rfl rfl (one_of HT_.out (by kernel_rfl)) (by decide) (fun K hK => ?_)
                refine goes_ Try.func16 (by kernel_rfl) rfl #[.agg #[.slice A2_0 l2_0.length c2_0,.slice A2_1 l2_1.length c2_1,.slice A2_2 l2_2.length c2_2]] (by rfl) rfl rfl (by (try simp only [List.map_toArray,List.map_cons,List.map_nil]);first | done | rfl | (simp only [List.length_drop,List.length_take];rfl)) ?_
                with_reducible refine (laws_toCost.calls kj36 _ _ l2_0 _ _ l2_1 _ _ l2_2 t967 t970 t973 _ ?side1 ?side2 ?side3 ?side4 ?side5 ?side6 A94.out).mono ?_
                (case side1 => exact cx_ HR2_0 HB)
                (case side2 => exact HC2_0.out)
                (case side3 => exact cx_ HR2_1 HB)
                (case side4 => exact HC2_1.out)
                (case side5 => exact cx_ HR2_2 HB)
                (case side6 => exact HC2_2.out)
                rintro e w118 ⟨v968,v971,v974,rfl,ho0,ho1,ho2,hb⟩
                refine ⟨_,rfl,?_⟩
                have n0_:=tR_ HO_8 hb
                have n1_:=tR_ HO_12 hb
                have n2_:=Aside0.mk (Kd.R_mono (Kd.R_told (Kd.R_told (Kd.R_told (Kd.R_old (rx_ HO_927000.out) hb) (Kd.R_base ho0)) (Kd.R_base ho1)) (Kd.R_base ho2)) (fun _ h_ => h_.1))
                have n3_:=Aside0.mk (Kd.R_mono (Kd.R_told (Kd.R_told (Kd.R_told (Kd.R_old (rx_ HO_927001.out) hb) (Kd.R_base ho0)) (Kd.R_base ho1)) (Kd.R_base ho2)) (fun _ h_ => h_.1))
                have n4_:=Aside0.mk (Kd.R_mono (Kd.R_told (Kd.R_told (Kd.R_told (Kd.R_old (rx_ HO_927002.out) hb) (Kd.R_base ho0)) (Kd.R_base ho1)) (Kd.R_base ho2)) (fun _ h_ => h_.1))
                have n5_:=tR_ HO963 hb
                have n6_:=tR_ HO966 hb
                have n7_:=Aside0.mk (Kd.R_lower (Kd.R_new' (Kd.R_new' (Kd.R_new' ho0 (Kd.R_lt (rx_ HO_927000.out))) (Kd.R_lt (rx_ HO_927001.out))) (Kd.R_lt (rx_ HO_927002.out))) (bs_ HB))
                have n8_:=Aside0.mk (Kd.R_lower (Kd.R_new' (Kd.R_new' (Kd.R_new' ho1 (Kd.R_lt (rx_ HO_927000.out))) (Kd.R_lt (rx_ HO_927001.out))) (Kd.R_lt (rx_ HO_927002.out))) (bs_ HB))
                have n9_:=Aside0.mk (Kd.R_lower (Kd.R_new' (Kd.R_new' (Kd.R_new' ho2 (Kd.R_lt (rx_ HO_927000.out))) (Kd.R_lt (rx_ HO_927001.out))) (Kd.R_lt (rx_ HO_927002.out))) (bs_ HB))
                have n10_:=tK_ BK889 hb
                have n11_:=tK_ BK926 hb
                have n12_:=tB_ HB hb
                clear HO_8
                clear HO_12
                clear HO_927000
                clear HO_927001
                clear HO_927002
                clear HO963
                clear HO966
                clear BK889
                clear BK926
                clear HB
                have HO_8:=n0_
                have HO_12:=n1_
                have HO_927000:=n2_
                have HO_927001:=n3_
                have HO_927002:=n4_
                have HO963:=n5_
                have HO966:=n6_
                have HO969:=n7_
                have HO972:=n8_
                have HO975:=n9_
                have BK889:=n10_
                have BK926:=n11_
                have HB:=n12_
                clear n0_ n1_ n2_ n3_ n4_ n5_ n6_ n7_ n8_ n9_ n10_ n11_ n12_
                (try clear hb)
                (try clear hb2)
                (try clear hk)
                (try clear hi)
                (try clear ho0)
                (try clear ho1)
                (try clear ho2)
                obtain ⟨Ao119,co119,eo119⟩:=Kd.R_slice HO963.out
                (first | subst eo119 | (injection eo119 with f1_ f2_ f3_;have f4_:=f1_.symm;have f5_:=f3_.symm;clear f1_ f2_ f3_;subst f4_;subst f5_))
                obtain ⟨Ao120,co120,eo120⟩:=Kd.R_slice HO966.out
                (first | subst eo120 | (injection eo120 with f1_ f2_ f3_;have f4_:=f1_.symm;have f5_:=f3_.symm;clear f1_ f2_ f3_;subst f4_;subst f5_))
                obtain ⟨Ao121,co121,eo121⟩:=Kd.R_slice HO969.out
                (first | subst eo121 | (injection eo121 with f1_ f2_ f3_;have f4_:=f1_.symm;have f5_:=f3_.symm;clear f1_ f2_ f3_;subst f4_;subst f5_))
                obtain ⟨Ao122,co122,eo122⟩:=Kd.R_slice HO972.out
                (first | subst eo122 | (injection eo122 with f1_ f2_ f3_;have f4_:=f1_.symm;have f5_:=f3_.symm;clear f1_ f2_ f3_;subst f4_;subst f5_))
                obtain ⟨Ao123,co123,eo123⟩:=Kd.R_slice HO975.out
                (first | subst eo123 | (injection eo123 with f1_ f2_ f3_;have f4_:=f1_.symm;have f5_:=f3_.symm;clear f1_ f2_ f3_;subst f4_;subst f5_))
                refine hK.out _ _ ⟨(blk_cell BK889.out 0).trans rfl,(blk_cell BK889.out 1).trans rfl,(blk_cell BK889.out 2).trans rfl⟩ (fun hHeld => ?_)
                clear hK K
                refine norm_ (a':=?_) ?_ ?_
                rotate_left
                ·show Act.put _ (some 101) _ = _
                 simp only [Act.put,List.setIfInBounds_toArray,List.set_cons_zero,List.set_cons_succ,i64_w,i32_w]
                 rfl
                refine one_ (i:=6) (N:=some 102) (ba_ 8 127) rfl rfl (one_of HT_.out (by kernel_rfl)) (by decide) (fun K hK => ?_)
                refine goes_ Try.func34 (by kernel_rfl) rfl #[.slice Ao119 t961.length co119,.slice Ao120 t964.length co120,.agg #[.slice Ao121 t967.length co121,.slice Ao122 t970.length co122,.slice Ao123 t973.length co123]] (by rfl) rfl rfl (by (try simp only [List.map_toArray,List.map_cons,List.map_nil]);first | done | rfl | (simp only [List.length_drop,List.length_take];rfl)) ?_
                with_reducible refine (impl_BestMap.calls kj36 _ _ t961 _ _ t964 _ _ t967 _ _ t970 _ _ t973 t976 _ ?side1 ?side2 ?side3 ?side4 ?side5 ?side6 ?side7 ?side8 ?side9 ?side10 A95.out).mono ?_
                (case side1 => exact cc_ (Kd.R_reads' HO963.out).2.2)
                (case side2 => exact (Kd.R_reads' HO963.out).2.1)
                (case side3 => exact cc_ (Kd.R_reads' HO966.out).2.2)
                (case side4 => exact (Kd.R_reads' HO966.out).2.1)
                (case side5 => exact cc_ (Kd.R_reads' HO969.out).2.2)
                (case side6 => exact (Kd.R_reads' HO969.out).2.1)
                (case side7 => exact cc_ (Kd.R_reads' HO972.out).2.2)
                (case side8 => exact (Kd.R_reads' HO972.out).2.1)
                (case side9 => exact cc_ (Kd.R_reads' HO975.out).2.2)
                (case side10 => exact (Kd.R_reads' HO975.out).2.1)
                rintro e w124 ⟨v977,rfl,ho0,hb⟩
                refine ⟨_,rfl,?_⟩
                have n0_:=Aside0.mk (Kd.R_elder' (rx_ HO_8.out) (Kd.R_base ho0) hb)
                have n1_:=Aside0.mk (Kd.R_elder' (rx_ HO_12.out) (Kd.R_base ho0) hb)
                have n2_:=tR_ HO_927000 hb
                have n3_:=tR_ HO_927001 hb
                have n4_:=tR_ HO_927002 hb
                have n5_:=tR_ HO963 hb
                have n6_:=tR_ HO966 hb
                have n7_:=tR_ HO969 hb
                have n8_:=tR_ HO972 hb
                have n9_:=tR_ HO975 hb
                have n10_:=Aside0.mk (Kd.R_lower (Kd.R_new' (Kd.R_new' ho0 (Kd.R_lt (rx_ HO_8.out))) (Kd.R_lt (rx_ HO_12.out))) (bs_ HB))
                have n11_:=tK_ BK889 hb
                have n12_:=tK_ BK926 hb
                have n13_:=tB_ HB hb
                clear HO_8
                clear HO_12
                clear HO_927000
                clear HO_927001
                clear HO_927002
                clear HO963
                clear HO966
                clear HO969
                clear HO972
                clear HO975
                clear BK889
                clear BK926
                clear HB
                have HO_8:=n0_
                have HO_12:=n1_
                have HO_927000:=n2_
                have HO_927001:=n3_
                have HO_927002:=n4_
                have HO963:=n5_
                have HO966:=n6_
                have HO969:=n7_
                have HO972:=n8_
                have HO975:=n9_
                have HO978:=n10_
                have BK889:=n11_
                have BK926:=n12_
                have HB:=n13_
                clear n0_ n1_ n2_ n3_ n4_ n5_ n6_ n7_ n8_ n9_ n10_ n11_ n12_ n13_
                (try clear hb)
                (try clear hb2)
                (try clear hk)
                (try clear hi)
                (try clear ho0)
                refine hK.out _ _ ⟨(blk_cell BK889.out 0).trans rfl,(blk_cell BK889.out 1).trans rfl,(blk_cell BK889.out 2).trans rfl⟩ (fun hHeld => ?_)
                clear hK K
                refine norm_ (a':=?_) ?_ ?_
                rotate_left
                ·show Act.put _ (some 102) _ = _
                 simp only [Act.put,List.setIfInBounds_toArray,List.set_cons_zero,List.set_cons_succ,i64_w,i32_w]
                 rfl
                refine pu_ 7 (some 16) (ba_ 8 255) rfl rfl (any_of HT_.out (by kernel_rfl)) ?_
                refine done_ (done_of HT_.out (by kernel_rfl)) ?_
                obtain ⟨Ao125,co125,eo125⟩:=Kd.R_slice HO978.out
                subst eo125
                try go_wp2_with (first | ((with_reducible refine gate_callee (f:=35) rfl ?_);refine gL_ (some 105) Try.func35 #[.slice Ao125 t976.length co125,.slice Ao65 t908.length co65] ?_;(with_reducible refine (laws_eqPairS.calls kj36 _ _ t976 _ _ t908 true _ (cc_ (Kd.R_reads' HO978.out).2.2) ((Kd.R_reads' HO978.out).2.1) (cc_ (Kd.R_reads' HO_8.out).2.2) ((Kd.R_reads' HO_8.out).2.1) A96.out).mono ?_);rintro e w126 ⟨rfl,hb⟩;refine ⟨_,rfl,?_⟩;replace HO_8:=tR_ HO_8 hb;replace HO_12:=tR_ HO_12 hb;replace HO_927000:=tR_ HO_927000 hb;replace HO_927001:=tR_ HO_927001 hb;replace HO_927002:=tR_ HO_927002 hb;replace HO963:=tR_ HO963 hb;replace HO966:=tR_ HO966 hb;replace HO969:=tR_ HO969 hb;replace HO972:=tR_ HO972 hb;replace HO975:=tR_ HO975 hb;replace HO978:=tR_ HO978 hb;replace BK889:=tK_ BK889 hb;replace BK926:=tK_ BK926 hb;replace HB:=tB_ HB hb;(try clear hb)) | ((with_reducible refine gate_callee (f:=37) rfl ?_);refine goesL_ (some 109) rfl rfl Try.func37 (by kernel_rfl) rfl #[.slice Ao64 t959.length co64,.int .i64 1] rfl (by (try simp only [List.map_toArray,List.map_cons,List.map_nil]);first | done | (rw [show t959.length = t927.length from (Kd.R_reads' HO_12.out).1.symm] <;> rfl) | rfl | (simp only [List.length_drop,List.length_take];rfl)) ?_;(with_reducible refine (laws_heldPairS.calls kj36 _ _ t959 1 t980 _ ?side1 ?side2 A98.out).mono ?_);(case side1 => exact cc_ (Kd.R_reads' HO_12.out).2.2);(case side2 => rw [show t959.length = t927.length from (Kd.R_reads' HO_12.out).1.symm];exact (Kd.R_reads' HO_12.out).2.1);rintro e w' ⟨rfl,⟨nd,rfl⟩⟩;refine ⟨_,rfl,?_⟩))
                go_ret
                exact ⟨ea_,(bl_ HB).out⟩
               ·rw [if_neg c113] at H
                have c113b0 : (t980 == t958) = false:=beq_eq_false_iff_ne.mpr c113
                have c113b1 : (t980 != t958) = true:=bne_iff_ne.mpr c113
                exact absurd H (by simp)
             ·replace c97:=Bool.eq_false_iff.mpr c97
              subst c97
              have H1 : (some false) = some true:=by rw [if_neg (show ¬ (false = true) by decide)] at H;exact H
              clear H
              have H:=H1
              clear H1
              exact absurd H (by simp)
            ·rw [if_neg c91] at H
             have c91b0 : (t960 == t958) = false:=beq_eq_false_iff_ne.mpr c91
             have c91b1 : (t960 != t958) = true:=bne_iff_ne.mpr c91
             exact absurd H (by simp)
       ·replace c33:=Bool.eq_false_iff.mpr c33
        subst c33
        have H1 : (some false) = some true:=by rw [if_neg (show ¬ (false = true) by decide)] at H;exact H
        clear H
        have H:=H1
        clear H1
        exact absurd H (by simp)
      ·replace c30:=Bool.eq_false_iff.mpr c30
       subst c30
       have H1 : (some false) = some true:=by rw [if_neg (show ¬ (false = true) by decide)] at H;exact H
       clear H
       have H:=H1
       clear H1
       exact absurd H (by simp)
     ·replace c27:=Bool.eq_false_iff.mpr c27
      subst c27
      have H1 : (some false) = some true:=by rw [if_neg (show ¬ (false = true) by decide)] at H;exact H
      clear H
      have H:=H1
      clear H1
      exact absurd H (by simp)
    ·replace c24:=Bool.eq_false_iff.mpr c24
     subst c24
     have H1 : (some false) = some true:=by rw [if_neg (show ¬ (false = true) by decide)] at H;exact H
     clear H
     have H:=H1
     clear H1
     exact absurd H (by simp)
end Go.Proofs.Ytelglbebffdaaaa.X
namespace Go.Proofs.Ytelglbebffdaaaa.Q
open Go.RowKit Go.Proofs.YtelglbebffdaaaaW.PrintWords Go.Proofs.YtelglbebffdaaaaW.PrintLast Go.Proofs.YtelglbebffdaaaaW.PrintMore Go.Proofs.Ytelglbebffdaaaa.X Go.Proofs.Ytelglbebffdaaaa.Rd
set_option linter.unusedVariables false
set_option linter.unusedSimpArgs false
theorem bmB_len (a b : List NodeI) (d n r : List Int) : (bmB a b d n r).length ≤ 24:=by
  unfold bmB
  by_cases h : okAB a b d n r = true
  · rw [if_pos h]
    obtain ⟨ta,tb,_⟩:=okAB_iff.1 h
    exact best_len ta tb d n r
  · rw [if_neg h]
    exact Nat.zero_le _
theorem FnExactBestMap (a : List NodeL) (wa : WF22 a) (b : List NodeL) (wb : WF22 b) (c : CostL) (wc : WF25 c) : ∃ k,laws_FnExactBestMap.f k a b c.f0 c.f1 c.f2 = some true:=by
  refine Ev.rounds (g:=fun k => laws_FnExactBestMap.f k a b c.f0 c.f1 c.f2) ?_
  have wd:=wc.1.1
  have wi_:=wc.2.1.1
  have wr:=wc.2.2.1
  unfold laws_FnExactBestMap.f
  refine Ev.bindC (szNodeS_eq a _ (by omega) (by omega) wa.1) ?_
  by_cases h : (1048576 : Int) < a.length
  · rw [if_pos h]
    exact Ev.ifT (by omega) (Ev.now _)
  rw [if_neg h]
  refine Ev.ifF (by omega) (Ev.bindC (szNodeS_eq b _ (by omega) (by omega) wb.1) ?_)
  by_cases h1 : (1048576 : Int) - a.length < b.length
  · rw [if_pos h1]
    exact Ev.ifT (by omega) (Ev.now _)
  rw [if_neg h1]
  obtain ⟨z,hz,hp⟩:=szCost_eq c.f0 c.f1 c.f2 ((1048576 : Int) - a.length - b.length) (by omega) (by omega) wd wi_ wr
  refine Ev.ifF (by omega) (Ev.bindC hz ?_)
  rcases hp with hp | ⟨hp,rfl⟩
  · exact Ev.ifT hp (Ev.now _)
  refine Ev.ifF (by omega) ?_
  have ta:=toNodeS_ev a (by omega)
  have tb:=toNodeS_ev b (by omega)
  have tc:=toCost_ev c.f0 c.f1 c.f2 (by omega) (by omega) (by omega)
  have la : (a.map toNode).length = a.length:=by simp
  have lb : (b.map toNode).length = b.length:=by simp
  have fit : Fit (a.map toNode) (b.map toNode) c.f0 c.f1 c.f2:=⟨by omega,by omega,by omega,by omega,by omega⟩
  have s:=spec_BestMap.ev fit
  have i:=impl_BestMap.ev (a.map toNode) (b.map toNode) c.f0 c.f1 c.f2
  have hres:=bmB_len (a.map toNode) (b.map toNode) c.f0 c.f1 c.f2
  generalize bmB (a.map toNode) (b.map toNode) c.f0 c.f1 c.f2 = res at s i hres
  have e:=eqPairS_ev res (by omega)
  obtain ⟨r1,_,m1⟩:=markNodeS_one 1 (a.map toNode) (by omega) (by omega)
  obtain ⟨r3,_,m3⟩:=markNodeS_one (1 + 2 * (a.map toNode).length) (b.map toNode) (by omega) (by omega)
  obtain ⟨q0,_,n0,_⟩:=markIntS_ev (1 + 2 * (a.map toNode).length + 2 * (b.map toNode).length) c.f0 (by omega) (by omega)
  obtain ⟨q1,_,n1,_⟩:=markIntS_ev (1 + 2 * (a.map toNode).length + 2 * (b.map toNode).length + c.f0.length) c.f1 (by omega) (by omega)
  obtain ⟨q2,_,n2,_⟩:=markIntS_ev (1 + 2 * (a.map toNode).length + 2 * (b.map toNode).length + c.f0.length + c.f1.length) c.f2 (by omega) (by omega)
  obtain ⟨r2,_,m2,h2⟩:=markPairS_ev 1 res (by omega) (by omega)
  have mc : Ev (fun k => laws_markCost.f k c.f0 c.f1 c.f2 (1 + 2 * (a.map toNode).length + 2 * (b.map toNode).length)) (1 + 2 * (a.map toNode).length + 2 * (b.map toNode).length + c.f0.length + c.f1.length + c.f2.length,q0,q1,q2):=by
    unfold laws_markCost.f
    exact Ev.bind n0 (Ev.bind n1 (Ev.bind n2 (Ev.now _)))
  refine Ev.bind ta (Ev.bind tb (Ev.bind tc (Ev.bind s (Ev.bind ta (Ev.bind tb (Ev.bind tc (Ev.bind i (Ev.bind e (Ev.ifT rfl ?_)))))))))
  refine Ev.bind ta (Ev.bind (eqNodeS_ev _ (by omega)) (Ev.ifT rfl (Ev.bind tb (Ev.bind (eqNodeS_ev _ (by omega)) (Ev.ifT rfl (Ev.bind tc (Ev.bind (eqCost_ev _ _ _ (by omega) (by omega) (by omega)) (Ev.ifT rfl ?_))))))))
  refine Ev.bind m1 (Ev.bind m3 (Ev.bind mc (Ev.ifF (by simp only;omega) (Ev.bind e ?_))))
  refine Ev.step (fun _ => rfl) ?_
  simp only [laws_FnExactBestMap.j0]
  refine Ev.ifF (by simp) ?_
  refine Ev.bind m2 (Ev.bind h2 (Ev.ifF (by omega) (Ev.ifT rfl (Ev.bind ta (Ev.bind tb (Ev.bind tc (Ev.bind i (Ev.bind e (Ev.ifT rfl (Ev.bind h2 (Ev.ifF (by omega) (Ev.ifT rfl (Ev.now _)))))))))))))
end Go.Proofs.Ytelglbebffdaaaa.Q
