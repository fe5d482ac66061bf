/- Part 17 of the proof of FnExactBestMap: what it needs. -/
import Derived.Carry
import Derived.Test.YtelglbebffdaaaaKEBestMap5
import Derived.Test.YtelglbebffdaaaaKEBestMap7
import Derived.Test.YtelglbebffdaaaaKEBestMap11
import Derived.Test.YtelglbebffdaaaaKEBestMap15
import Derived.Test.YtelglbebffdaaaaKEBestMap16
namespace Go.Proofs.Ytelglbebffdaaaa.X
open Go.RowKit Go.Proofs.YtelglbebffdaaaaW.PrintWords Go.Proofs.YtelglbebffdaaaaW.PrintLast Go.Proofs.YtelglbebffdaaaaW.PrintMore Go.Proofs.Ytelglbebffdaaaa.Q
set_option linter.unusedVariables false
set_option linter.unusedSimpArgs false
noncomputable def fdB (a b : List NodeI) (i j k m : Int) (d n r : List Int) : Int :=
 if okAB a b d n r = true ∧ 0 ≤ i ∧ i ≤ j ∧ j ≤ (a.length : Int) ∧ 0 ≤ k ∧ k ≤ m ∧ m ≤ (b.length : Int) then Ted.D (msOf a b d n r) i.toNat j.toNat k.toNat m.toNat else -1
noncomputable def impl_ForestDist.f (q : Nat) (a : List NodeI) (i j : Int) (b : List NodeI) (k m : Int) (d n r : List Int) : Option Int:=(impl_measureOf.f q a b d n r).bind fun _ => some (fdB a b i j k m d n r)
theorem impl_ForestDist.ev (a : List NodeI) (i j : Int) (b : List NodeI) (k m : Int) (d n r : List Int) : Ev (fun q => impl_ForestDist.f q a i j b k m d n r) (fdB a b i j k m d n r):=by
 unfold impl_ForestDist.f
 exact Ev.bind (implMeasure_ev a b d n r) (Ev.now _)
attribute [local go_sem] run_makeMap
end Go.Proofs.Ytelglbebffdaaaa.X
namespace Go.Proofs.Ytelglbebffdaaaa.X
open Go.RowKit Go.Proofs.YtelglbebffdaaaaW.PrintWords Go.Proofs.YtelglbebffdaaaaW.PrintLast Go.Proofs.YtelglbebffdaaaaW.PrintMore Go.Proofs.Ytelglbebffdaaaa.Q
set_option linter.unusedVariables false
set_option linter.unusedSimpArgs false
theorem Row1.congr {W : World} {b n : Nat} {v : Value} {f g : Nat → Int} (h : Row1 W b v n f) (e : ∀ p,p < n → f p = g p) : Row1 W b v n g:=by
 obtain ⟨ad,c,h1,h2,h3,h4⟩:=h.is
 exact ⟨ad,c,h1,h2,h3,fun p hp => by rw [← e p hp];exact h4 p hp⟩
theorem list_getD (l : List Int) : (List.range l.length).map (fun x => l.getD x 0) = l:=by
 apply List.ext_getElem?
 intro j
 by_cases h : j < l.length
 ·rw [List.getElem?_map,List.getElem?_range h,Option.map_some,List.getD_eq_getElem?_getD,List.getElem?_eq_getElem h];rfl
 ·rw [List.getElem?_eq_none (by simp;omega),List.getElem?_eq_none (by omega)]
theorem row1_list {W : World} {A : Option Addr} {c b n : Nat} {l : List Int} (hl : l.length = n) (hn : 0 < n) (hc : n ≤ c) (hb : W.heap.size ≤ b) (h : Kd.C (Kd.int .i64) W A l.length l) : Row1 W b (.slice A l.length c) n (fun x => l.getD x 0):=by
 subst hl
 refine row1_of hn hc hb ?_
 rw [list_getD]
 exact h
theorem kn_start {M : Ted.Ms} {A B : Nat} {W : World} {b : Nat} (h : W.heap[b]? = some (.cells (nums .i64 (List.replicate (ksz A B) 0)).toArray 3 (0,0))) : Kn M A B W b:=by
 refine ⟨_,h,by simp,fun i j k m h1 h2 h3 h4 => Or.inl ?_⟩
 rw [List.getD_eq_getElem?_getD,List.getElem?_replicate]
 split <;> rfl
theorem mem_start {a b : List NodeI} {d n r : List Int} (ta : Tr a) (tb : Tr b) (hc : Co d n r) {w W : World} {A2 A3 A4 : Option Addr} {c2 c3 c4 g bk : Nat} {v0 v1 v2 v3 : Value} (hB : Below w.heap.size w W) (hgb : g ≠ bk) (hbk : w.heap.size ≤ bk)
  (hblk : W.heap[g]? = some (.cells #[v0,v1,v2,v3,.slice (some ⟨bk,0,none⟩) (ksz a.length b.length) (ksz a.length b.length),.slice A2 d.length c2,.slice A3 n.length c3,.slice A4 r.length c4] 100 (0,0)))
  (h0 : Row1 W bk v0 a.length (fun x => lab a (nodeN a x))) (h1 : Row1 W bk v1 b.length (fun x => lab b (nodeN b x))) (h2 : Row1 W bk v2 a.length (fun x => (lfN a x : Int))) (h3 : Row1 W bk v3 b.length (fun x => (lfN b x : Int)))
  (hr2 : Kd.C (Kd.int .i64) w A2 d.length d) (hc2 : d.length ≤ c2) (hr3 : Kd.C (Kd.int .i64) w A3 n.length n) (hc3 : n.length ≤ c3) (hr4 : Kd.C (Kd.int .i64) w A4 r.length r) (hc4 : r.length ≤ c4) :
  Mem (msOf a b d n r) a.length b.length (fun p => (lab a (nodeN a p)).toNat) (fun q => (lab b (nodeN b q)).toNat) W bk g:=by
 have la : ∀ p,p < a.length → 0 ≤ lab a (nodeN a p) ∧ lab a (nodeN a p) ≤ 5:=fun p hp => ⟨(ta.chk _ (nodeN_lt ta hp)).l0,(ta.chk _ (nodeN_lt ta hp)).l5⟩
 have lb : ∀ p,p < b.length → 0 ≤ lab b (nodeN b p) ∧ lab b (nodeN b p) ≤ 5:=fun p hp => ⟨(tb.chk _ (nodeN_lt tb hp)).l0,(tb.chk _ (nodeN_lt tb hp)).l5⟩
 have hd:=hc.dl
 have hi:=hc.il
 have hr:=hc.rl
 refine ⟨v0,v1,v2,v3,_,_,_,hblk,hgb,h0.congr fun p hp => ?_,h1.congr fun p hp => ?_,h2,h3,fun x => d.getD x 0,fun x => n.getD x 0,fun x => r.getD x 0,(row1_list hd (by omega) (by omega) hbk hr2).below hB,(row1_list hi (by omega) (by omega) hbk hr3).below hB,(row1_list hr (by omega) (by omega) hbk hr4).below hB,fun p hp => ⟨?_,rfl⟩,fun p hp => ⟨?_,rfl⟩,fun p q hp hq => rfl⟩
 ·have:=la p hp;omega
 ·have:=lb p hp;omega
 ·have:=la p hp;omega
 ·have:=lb p hp;omega
noncomputable def preF (q : Nat) (a b : List NodeI) (d n r : List Int) : Option Bool :=
 if Fit a b d n r then (spec_l8Three.f q a b d n r).bind fun t => if t = true then (spec_l8Labels.f q a).bind fun _ => (spec_l8Labels.f q b).bind fun _ => (spec_LeftLeaf.f q a).bind fun _ => (spec_LeftLeaf.f q b).bind fun _ => some true else some false else none
theorem preF_ev {a b : List NodeI} {d n r : List Int} (h : Fit a b d n r) : Ev (fun k => preF k a b d n r) (okAB a b d n r):=by
 unfold preF
 refine Ev.ifT h (Ev.bind (specThree_ev h) ?_)
 cases ho : okAB a b d n r with
 | false => exact Ev.ifF (by simp) (Ev.now _)
 | true =>
  obtain ⟨ta,tb,_⟩:=okAB_iff.1 ho
  exact Ev.ifT rfl (Ev.bind (specLabels_ev ta) (Ev.bind (specLabels_ev tb) (Ev.bind (specLeftLeaf_ev ta) (Ev.bind (specLeftLeaf_ev tb) (Ev.now _)))))
theorem preF_told {q : Nat} {a b : List NodeI} {d n r : List Int} {t : Bool} (h : preF q a b d n r = some t) : spec_l8Three.f q a b d n r = some t ∧ t = okAB a b d n r ∧
  (t = true → spec_l8Labels.f q a = some (labL a) ∧ spec_l8Labels.f q b = some (labL b) ∧ spec_LeftLeaf.f q a = some (lfL a) ∧ spec_LeftLeaf.f q b = some (lfL b)):=by
 unfold preF at h
 by_cases hf : Fit a b d n r
 ·rw [if_pos hf] at h
  obtain ⟨u,hu,h⟩:=Option.bind_eq_some_iff.mp h
  have eu : u = okAB a b d n r:=ev_uniq (Ev.of (spec_l8Three.mono a b d n r) hu) (specThree_ev hf)
  by_cases c : u = true
  ·rw [if_pos c] at h
   obtain ⟨x1,h1,h⟩:=Option.bind_eq_some_iff.mp h
   obtain ⟨x2,h2,h⟩:=Option.bind_eq_some_iff.mp h
   obtain ⟨x3,h3,h⟩:=Option.bind_eq_some_iff.mp h
   obtain ⟨x4,h4,h⟩:=Option.bind_eq_some_iff.mp h
   obtain rfl:=Option.some.inj h
   obtain ⟨ta,tb,_⟩:=okAB_iff.1 (eu.symm.trans c)
   refine ⟨by rw [hu,c],by rw [← eu,c],fun _ => ⟨?_,?_,?_,?_⟩⟩
   ·rw [h1,ev_uniq (Ev.of (spec_l8Labels.mono a) h1) (specLabels_ev ta)]
   ·rw [h2,ev_uniq (Ev.of (spec_l8Labels.mono b) h2) (specLabels_ev tb)]
   ·rw [h3,ev_uniq (Ev.of (spec_LeftLeaf.mono a) h3) (specLeftLeaf_ev ta)]
   ·rw [h4,ev_uniq (Ev.of (spec_LeftLeaf.mono b) h4) (specLeftLeaf_ev tb)]
  ·rw [if_neg c] at h
   obtain rfl:=Option.some.inj h
   have e : u = false:=by simpa using c
   subst e
   exact ⟨hu,eu,fun h => by cases h⟩
 ·rw [if_neg hf] at h;cases h
theorem NS.start' {w : World} {ty : TypeId} (x0 x1 x2 : Value) : NS w w.heap.size x0 x1 x2 (w.alloc (.cells #[x0,x1,x2] ty)) :=
 have h : (w.alloc (.cells #[x0,x1,x2] ty)).heap[w.heap.size]? = some (.cells #[x0,x1,x2] ty (0,0)):=(MapKept.heap_alloc w _).1
 ⟨(blk_cell h 0).trans rfl,(blk_cell h 1).trans rfl,(blk_cell h 2).trans rfl,below_alloc (Below.refl _ _) _⟩
theorem below_only {w W W1 : World} {b : Nat} (h : Below w.heap.size w W) (hb : w.heap.size ≤ b) (k : Only b W W1) : Below w.heap.size w W1 :=
 ⟨k.os.trans h.os,k.tape.trans h.tape,k.output.trans h.output,Nat.le_trans h.size k.size,fun x hx => (k.block x (Nat.lt_of_lt_of_le hx h.size) (by simp;omega)).trans (h.block x hx)⟩
end Go.Proofs.Ytelglbebffdaaaa.X
namespace Go.Proofs.Ytelglbebffdaaaa.X
open Go.RowKit Go.Proofs.YtelglbebffdaaaaW.PrintWords Go.Proofs.YtelglbebffdaaaaW.PrintLast Go.Proofs.YtelglbebffdaaaaW.PrintMore Go.Proofs.Ytelglbebffdaaaa.Q
set_option linter.unusedVariables false
set_option linter.unusedSimpArgs false
noncomputable def preB (q : Nat) (a b : List NodeI) (d n r : List Int) : Option Bool :=
 (preF q a b d n r).bind fun t => if t = true then (spec_PostOrder.f q a).bind fun _ => (spec_PostOrder.f q b).bind fun _ => some true else some false
theorem preB_ev {a b : List NodeI} {d n r : List Int} (h : Fit a b d n r) : Ev (fun k => preB k a b d n r) (okAB a b d n r):=by
 unfold preB
 refine Ev.bind (preF_ev h) ?_
 cases ho : okAB a b d n r with
 | false => exact Ev.ifF (by simp) (Ev.now _)
 | true =>
  obtain ⟨ta,tb,_⟩:=okAB_iff.1 ho
  exact Ev.ifT rfl (Ev.bind (specPost_tr ta) (Ev.bind (specPost_tr tb) (Ev.now _)))
theorem preB_told {q : Nat} {a b : List NodeI} {d n r : List Int} {t : Bool} (h : preB q a b d n r = some t) : preF q a b d n r = some t ∧ (t = true → spec_PostOrder.f q a = some (pst a) ∧ spec_PostOrder.f q b = some (pst b)):=by
 unfold preB at h
 obtain ⟨u,hu,h⟩:=Option.bind_eq_some_iff.mp h
 by_cases c : u = true
 ·rw [if_pos c] at h
  obtain ⟨x1,h1,h⟩:=Option.bind_eq_some_iff.mp h
  obtain ⟨x2,h2,h⟩:=Option.bind_eq_some_iff.mp h
  obtain rfl:=Option.some.inj h
  obtain ⟨_,eu,_⟩:=preF_told hu
  obtain ⟨ta,tb,_⟩:=okAB_iff.1 (eu.symm.trans c)
  refine ⟨by rw [hu,c],fun _ => ⟨?_,?_⟩⟩
  ·rw [h1,ev_uniq (Ev.of (spec_PostOrder.mono a) h1) (specPost_tr ta)]
  ·rw [h2,ev_uniq (Ev.of (spec_PostOrder.mono b) h2) (specPost_tr tb)]
 ·rw [if_neg c] at h
  obtain rfl:=Option.some.inj h
  have e : u = false:=by simpa using c
  subst e
  exact ⟨hu,fun h => by cases h⟩
noncomputable def spec_BestMap.f (q : Nat) (a b : List NodeI) (d n r : List Int) : Option (List PairI):=(preB q a b d n r).bind fun _ => some (bmB a b d n r)
theorem spec_BestMap.ev {a b : List NodeI} {d n r : List Int} (h : Fit a b d n r) : Ev (fun q => spec_BestMap.f q a b d n r) (bmB a b d n r):=by
 unfold spec_BestMap.f
 exact Ev.bind (preB_ev h) (Ev.now _)
def innB (f g : Nat → Nat) (L : List (Nat × Nat)) (i t : Nat) : List PairI:=((L.take t).filter fun p => f p.1 == i).map fun p => ⟨(i : Int),(g p.2 : Int)⟩
def flatB (f g : Nat → Nat) (L : List (Nat × Nat)) (i : Nat) : List PairI:=(List.range i).flatMap fun i => (L.filter fun p => f p.1 == i).map fun p => ⟨(i : Int),(g p.2 : Int)⟩
section
variable {f g : Nat → Nat} {L : List (Nat × Nat)}
theorem innB_zero (i : Nat) : innB f g L i 0 = []:=rfl
theorem innB_take {t : Nat} (h : t < L.length) : L.take (t + 1) = L.take t ++ [L.getD t (0,0)]:=by
 rw [List.take_add_one,List.getD_eq_getElem?_getD,List.getElem?_eq_getElem h];rfl
theorem innB_yes {i t : Nat} (h : t < L.length) (e : f (L.getD t (0,0)).1 = i) : innB f g L i (t + 1) = innB f g L i t ++ [⟨(i : Int),(g (L.getD t (0,0)).2 : Int)⟩]:=by
 unfold innB
 rw [innB_take h,List.filter_append,List.map_append]
 generalize L.getD t (0,0) = p at e ⊢
 simp [e]
theorem innB_no {i t : Nat} (h : t < L.length) (e : f (L.getD t (0,0)).1 ≠ i) : innB f g L i (t + 1) = innB f g L i t:=by
 unfold innB
 rw [innB_take h,List.filter_append,List.map_append]
 generalize L.getD t (0,0) = p at e ⊢
 simp [e]
theorem innB_len (i t : Nat) : (innB f g L i t).length ≤ L.length:=by
 unfold innB
 rw [List.length_map]
 exact Nat.le_trans (List.length_filter_le _ _) (by rw [List.length_take];omega)
theorem flatB_succ (i : Nat) : flatB f g L (i + 1) = flatB f g L i ++ innB f g L i L.length:=by
 unfold flatB innB
 rw [List.range_succ,List.flatMap_append,List.take_length]
 simp
theorem flatB_len (i : Nat) : (flatB f g L i).length ≤ i * L.length:=by
 induction i with
 | zero => exact Nat.zero_le _
 | succ i ih =>
  have:=innB_len (f:=f) (g:=g) (L:=L) i L.length
  rw [flatB_succ,List.length_append,Nat.succ_mul]
  omega
theorem pairsR_rd {t : Nat} (h : t < L.length) : rd_T84 (pairsR L) (t : Int) = ⟨((L.getD t (0,0)).1 : Int),((L.getD t (0,0)).2 : Int)⟩:=by
 unfold rd_T84 pairsR
 rw [Int.toNat_natCast,List.getD_eq_getElem?_getD,List.getElem?_map,List.getD_eq_getElem?_getD,List.getElem?_eq_getElem h]
 rfl
end
set_option maxHeartbeats 4000000 in
set_option maxRecDepth 100000 in
theorem spec_BestMap.calls (q : Nat) (A0 : Option Addr) (c0 : Nat) (l0 : List NodeI) (A3 : Option Addr) (c3 : Nat) (l3 : List NodeI) (A6 : Option Addr) (c6 : Nat) (d : List Int) (A7 : Option Addr) (c7 : Nat) (n : List Int) (A8 : Option Addr) (c8 : Nat) (r : List Int) (res : List PairI) (w : World)
  (hr0 : Kd.C k53 w A0 l0.length l0) (hc0 : l0.length ≤ c0) (hr3 : Kd.C k53 w A3 l3.length l3) (hc3 : l3.length ≤ c3) (hr6 : Kd.C (Kd.int .i64) w A6 d.length d) (hc6 : d.length ≤ c6) (hr7 : Kd.C (Kd.int .i64) w A7 n.length n) (hc7 : n.length ≤ c7) (hr8 : Kd.C (Kd.int .i64) w A8 r.length r) (hc8 : r.length ≤ c8)
  (h : spec_BestMap.f q l0 l3 d n r = some res) :
  Calls Try.prog 33 #[.slice A0 l0.length c0,.slice A3 l3.length c3,.agg #[.slice A6 d.length c6,.slice A7 n.length c7,.slice A8 r.length c8]] w fun e w' => ∃ v0_ : Value,e = .returned (v0_) ∧ Kd.R k84 84 w' w.heap.size (fun _ => True) v0_ res ∧ Below w.heap.size w w':=by
 unfold spec_BestMap.f at h
 obtain ⟨t,ht0,h⟩:=Option.bind_eq_some_iff.mp h
 obtain rfl:=Option.some.inj h
 clear h
 obtain ⟨ht,hpo⟩:=preB_told ht0
 obtain ⟨hth,eok,hpre⟩:=preF_told ht
 have HT : Aside0 (∀ W,Below w.heap.size w W → _):=⟨fun W hb => spec_l8Three.calls q A0 c0 l0 A3 c3 l3 A6 c6 d A7 c7 n A8 c8 r t W (Kd.C_below hr0 hb) hc0 (Kd.C_below hr3 hb) hc3 (Kd.C_below hr6 hb) hc6 (Kd.C_below hr7 hb) hc7 (Kd.C_below hr8 hb) hc8 hth⟩
 clear ht hth ht0
 have HN:=Aside0.mk (NS.start' (w:=w) (ty:=31) (.slice A6 d.length c6) (.slice A7 n.length c7) (.slice A8 r.length c8))
 cases t with
 | false =>
  have HV:=Aside0.mk (show bmB l0 l3 d n r = [] by unfold bmB;rw [← eok];rfl)
  rw [HV.out]
  clear hpo hpre eok HV
  go_enter Try.func33,Try.ntmps33
  go_wp2_with (first | (go_at_call 51;refine (HT.out _ HN.out.bel).mono ?_;rintro e w6 ⟨rfl,hb⟩;replace HN:=Aside0.mk (HN.out.step hb);have y0:=HN.out.c0;have y1:=HN.out.c1;have y2:=HN.out.c2;clear hb))
  go_ret
  exact ⟨_,rfl,Kd.R_lower (px_lit0 _) HN.out.bel.size,below_alloc HN.out.bel _⟩
 | true =>
  have ho:=eok.symm
  obtain ⟨p1,p2,p3,p4⟩:=hpre rfl
  obtain ⟨o1,o2⟩:=hpo rfl
  obtain ⟨ta,tb,hco⟩:=okAB_iff.1 ho
  have HV:=Aside0.mk (show bmB l0 l3 d n r = flatB (nodeN l0) (nodeN l3) (Ted.wayN (msOf l0 l3 d n r) 0 l0.length 0 l3.length) l0.length by unfold bmB;rw [if_pos ho,← best_spec ta tb d n r];rfl)
  have HNEW : Aside0 (∀ W,Below w.heap.size w W → _):=⟨fun W hb => l9New_calls q A0 c0 l0 A3 c3 l3 A6 c6 d A7 c7 n A8 c8 r _ _ _ _ W ta.len1 tb.len1 ta.len24 tb.len24 (Kd.C_below hr0 hb) hc0 (Kd.C_below hr3 hb) hc3 p1 p2 p3 p4⟩
  have HMS : Aside0 (∀ {W : World} {g bk : Nat} {v0 v1 v2 v3 : Value},Below w.heap.size w W → g ≠ bk → w.heap.size ≤ bk → _ → _ → _ → _ → _ → _):=⟨fun {W g bk v0 v1 v2 v3} hB hgb hbk hblk e0 e1 e2 e3 => mem_start (W:=W) (g:=g) (bk:=bk) (v0:=v0) (v1:=v1) (v2:=v2) (v3:=v3) ta tb hco hB hgb hbk hblk e0 e1 e2 e3 hr6 hc6 hr7 hc7 hr8 hc8⟩
  have HPA : Aside0 (∀ W,Below w.heap.size w W → _):=⟨fun W hb => spec_PostOrder.calls q A0 c0 l0 (pst l0) W (Kd.C_below hr0 hb) hc0 o1⟩
  have HPB : Aside0 (∀ W,Below w.heap.size w W → _):=⟨fun W hb => spec_PostOrder.calls q A3 c3 l3 (pst l3) W (Kd.C_below hr3 hb) hc3 o2⟩
  have hs:=msOf_small (a:=l0) (b:=l3) hco
  have hla:=fun p (hp : p < l0.length) => lfN_le ta hp
  have hlb:=fun p (hp : p < l3.length) => lfN_le tb hp
  have HMA : Aside0 (∀ (W : World) (b g : Nat),_ → _ → _):=⟨fun W b g mem kn => l11match (X:=fun p => (lab l0 (nodeN l0 p)).toNat) (Y:=fun q => (lab l3 (nodeN l3 q)).toNat) ta.len24 tb.len24 hla hlb (fun N' _ => walk_calls hs ta.len24 tb.len24 hla hlb N') (i:=0) (j:=l0.length) (k:=0) (m:=l3.length) rfl ta.len1 (Nat.le_refl _) tb.len1 (Nat.le_refl _) W b g mem kn⟩
  have HLL:=Aside0.mk (show (Ted.wayN (msOf l0 l3 d n r) 0 l0.length 0 l3.length).length ≤ 24 ∧ l0.length ≤ 24 ∧ 0 < l0.length ∧ 0 < l3.length ∧ l3.length ≤ 24 ∧ 0 < (Ted.wayN (msOf l0 l3 d n r) 0 l0.length 0 l3.length).length ∧ (∀ p ∈ Ted.wayN (msOf l0 l3 d n r) 0 l0.length 0 l3.length,p.1 < l0.length ∧ p.2 < l3.length) from ⟨by rw [(Ted.wayN_perm _ _ _ _ _).length_eq];have h:=best_len ta tb d n r;unfold bmL at h;rwa [List.length_map] at h,ta.len24,ta.len1,tb.len1,tb.len24,by unfold Ted.wayN;rw [List.length_append];exact Nat.succ_pos _,fun p hp => (way_in ta tb d n r).2 p ((Ted.wayN_perm _ _ _ _ _).mem_iff.1 hp)⟩)
  have HTA:=Aside0.mk (And.intro ta tb)
  rw [HV.out]
  generalize Ted.wayN (msOf l0 l3 d n r) 0 l0.length 0 l3.length = L at HMA HLL ⊢
  clear hs hla hlb p1 p2 p3 p4 o1 o2 ta tb hco ho eok hpre hpo HV hr0 hc0 hr3 hc3 hr6 hc6 hr7 hc7 hr8 hc8
  go_enter Try.func33,Try.ntmps33
  go_wp2_with (first | (go_at_call 51;refine (HT.out _ HN.out.bel).mono ?_;rintro e w6 ⟨rfl,hb⟩;replace HN:=Aside0.mk (HN.out.step hb);have y0:=HN.out.c0;have y1:=HN.out.c1;have y2:=HN.out.c2;clear hb) | (go_at_call 54;refine (HNEW.out _ HN.out.bel).mono ?_;rintro e w9 ⟨g,bk,rfl,hb,hgb,hbk,hkn,v0,v1,v2,v3,hblk,e0,e1,e2,e3⟩;have hsz:=HN.out.bel.size;have HB:=Aside0.mk (below_step HN.out.bel hb);have HM:=Aside0.mk (HMS.out HB.out hgb (Nat.le_trans hsz hbk) hblk e0 e1 e2 e3);have HK:=Aside0.mk (kn_start (M:=msOf l0 l3 d n r) hkn);have HBK:=Aside0.mk (Nat.le_trans hsz hbk);clear hb hgb hbk hkn hblk e0 e1 e2 e3 hsz HMS HN y0 y1 y2) | (go_at_call 65;have hh:=HMA.out _ bk g HM.out HK.out;refine hh.mono ?_;clear hh;rintro e w10 ⟨u,rfl,hp,ho,hk⟩;obtain ⟨Au,cu,rfl⟩:=Kd.R_slice hp;have HPX:=Aside0.mk (Kd.R_lower hp HB.out.size);replace HB:=Aside0.mk (below_only HB.out HBK.out ho);clear hp ho hk HM HK) | (go_at_call 40;refine (HPA.out _ HB.out).mono ?_;rintro e w11 ⟨va,rfl,hp,hb⟩;have HRA:=Aside0.mk hp;replace HPX:=Aside0.mk (Kd.R_below HPX.out hb);replace HB:=Aside0.mk (below_step HB.out hb);clear hp hb) | (go_at_call 40;refine (HPB.out _ HB.out).mono ?_;rintro e w12 ⟨vb,rfl,hp,hb⟩;have HRB:=Aside0.mk hp;replace HRA:=Aside0.mk (Kd.R_below HRA.out hb);replace HPX:=Aside0.mk (Kd.R_below HPX.out hb);replace HB:=Aside0.mk (below_step HB.out hb);clear hp hb))
  have hLr : (pairsR L).length = L.length:=pairsR_len L
  have hC:=(Kd.R_reads' HPX.out).2.2
  obtain ⟨au,rfl,_,_⟩:=at_T84 hC 0 (by omega) (by have:=HLL.out.2.2.2.2.2.1;omega)
  have hPR : ∀ t,t < L.length → w12.cell? (au.add (t * 2)) = some (.int .i64 ((L.getD t (0,0)).1 : Int)) ∧ w12.cell? ⟨(au.add (t * 2)).block,(au.add (t * 2)).off + 1,none⟩ = some (.int .i64 ((L.getD t (0,0)).2 : Int)):=by
   intro t ht
   obtain ⟨au2,e,h1,h2⟩:=at_T84 hC (t : Int) (by omega) (by omega)
   obtain rfl:=Option.some.inj e
   rw [pairsR_rd ht,Int.toNat_natCast] at h1 h2
   exact ⟨h1,h2⟩
  have hA:=row1_R (v:=va) HLL.out.2.2.1 (Nat.le_refl _) (by have h:=HRA.out;rw [pst_eq_map HTA.out.1] at h;exact h)
  have hB:=row1_R (v:=vb) HLL.out.2.2.2.1 (Nat.le_refl _) (by have h:=HRB.out;rw [pst_eq_map HTA.out.2] at h;exact h)
  obtain ⟨aa,ca,rfl,_,_,ra⟩:=hA.is
  obtain ⟨ab,cb,rfl,_,_,rb⟩:=hB.is
  have hin : ∀ t,t < L.length → (L.getD t (0,0)).1 < l0.length ∧ (L.getD t (0,0)).2 < l3.length:=by
   intro t ht
   refine HLL.out.2.2.2.2.2.2 _ ?_
   rw [List.getD_eq_getElem?_getD,List.getElem?_eq_getElem ht]
   exact List.getElem_mem ht
  have HR:=Aside0.mk (And.intro hPR (And.intro ra (And.intro rb hin)))
  have HLN:=Aside0.mk (And.intro HLL.out.1 HLL.out.2.1)
  rw [hLr]
  clear hC hPR hA hB ra rb hin hLr HRA HRB HPX HLL HT HNEW HMA HPA HPB HTA
  have LF : ∀ i t,i ≤ l0.length → (flatB (nodeN l0) (nodeN l3) L i ++ innB (nodeN l0) (nodeN l3) L i t).length ≤ 1000:=by
   intro i t hi
   have h1:=flatB_len (f:=nodeN l0) (g:=nodeN l3) (L:=L) i
   have h2:=innB_len (f:=nodeN l0) (g:=nodeN l3) (L:=L) i t
   have h3:=Nat.mul_le_mul (Nat.le_trans hi HLN.out.2) HLN.out.1
   have:=HLN.out.1
   rw [List.length_append]
   omega
  have HLF:=Aside0.mk LF
  clear LF
  go_loopg [10,11] l0.length (fun gg v10 v11 wr => ∃ i : Nat,v11 = .int .i64 (i : Int) ∧ i ≤ l0.length ∧ l0.length - i ≤ gg ∧ Aside0 (PX wr w12.heap.size v10 (flatB (nodeN l0) (nodeN l3) L i)) ∧ Aside0 (Below w12.heap.size w12 wr))
  case atStart => exact ⟨0,rfl,Nat.zero_le _,Nat.le_refl _,⟨px_lit0 w12⟩,⟨below_alloc (Below.refl _ _) _⟩⟩
  case round =>
   obtain ⟨i,rfl,hi1,hgg,HP,HB2⟩:=hrel
   by_cases hi : i < l0.length
   ·have b1 : ((i : Int) < (l0.length : Int)) = True:=eq_true (by omega)
    have HI:=Aside0.mk (And.intro hi1 (And.intro hgg hi))
    have G1:=Aside0.mk (show wrap64 ((i : Int) + 1) = ((i + 1 : Nat) : Int) by have:=HLN.out.2;unfold wrap64;omega)
    clear hi1 hgg hi
    go_wp2
    go_loopg [10,12] L.length (fun gg v10 v12 wr => ∃ t : Nat,v12 = .int .i64 (t : Int) ∧ t ≤ L.length ∧ L.length - t ≤ gg ∧ Aside0 (PX wr w12.heap.size v10 (flatB (nodeN l0) (nodeN l3) L i ++ innB (nodeN l0) (nodeN l3) L i t)) ∧ Aside0 (Below w12.heap.size w12 wr))
    case atStart => exact ⟨0,rfl,Nat.zero_le _,Nat.le_refl _,by rw [innB_zero,List.append_nil];exact HP,HB2⟩
    case round =>
     clear HP HB2 b1
     obtain ⟨t,rfl,ht1,hgg,HP,HB2⟩:=hrel
     by_cases ht : t < L.length
     ·have b1 : ((t : Int) < (L.length : Int)) = True:=eq_true (by omega)
      have b2 : (0 ≤ (t : Int)) = True:=eq_true (by omega)
      have z1:=pw_cell_below HB2.out (HR.out.1 t ht).1
      have z2:=pw_cell_below HB2.out (HR.out.1 t ht).2
      have z3:=pw_cell_below HB2.out (HR.out.2.1 _ (HR.out.2.2.2 t ht).1)
      have z4:=pw_cell_below HB2.out (HR.out.2.2.1 _ (HR.out.2.2.2 t ht).2)
      have b3 : (((L.getD t (0,0)).1 : Int) < (l0.length : Int)) = True:=eq_true (by have:=(HR.out.2.2.2 t ht).1;omega)
      have b4 : (((L.getD t (0,0)).2 : Int) < (l3.length : Int)) = True:=eq_true (by have:=(HR.out.2.2.2 t ht).2;omega)
      have HX:=Aside0.mk (show (nodeN l0 (L.getD t (0,0)).1 = i → innB (nodeN l0) (nodeN l3) L i (t + 1) = innB (nodeN l0) (nodeN l3) L i t ++ [⟨(i : Int),(nodeN l3 (L.getD t (0,0)).2 : Int)⟩]) ∧ (nodeN l0 (L.getD t (0,0)).1 ≠ i → innB (nodeN l0) (nodeN l3) L i (t + 1) = innB (nodeN l0) (nodeN l3) L i t) from ⟨fun e => innB_yes ht e,fun e => innB_no ht e⟩)
      obtain ⟨x,hx⟩ : ∃ x,x = (L.getD t (0,0)).1:=⟨_,rfl⟩
      obtain ⟨y,hy⟩ : ∃ y,y = (L.getD t (0,0)).2:=⟨_,rfl⟩
      rw [← hx] at z1 z3 b3 HX
      rw [← hy] at z2 z4 b4 HX
      have b5 : (0 ≤ (x : Int)) = True:=eq_true (by omega)
      have b6 : (0 ≤ (y : Int)) = True:=eq_true (by omega)
      obtain ⟨x2,hx2⟩ : ∃ x2,x2 = nodeN l0 x:=⟨_,rfl⟩
      obtain ⟨y2,hy2⟩ : ∃ y2,y2 = nodeN l3 y:=⟨_,rfl⟩
      rw [← hx2] at z3 HX
      rw [← hy2] at z4 HX
      have G2:=Aside0.mk (show wrap64 ((t : Int) + 1) = ((t + 1 : Nat) : Int) by have:=HLN.out.1;unfold wrap64;omega)
      have HQ:=Aside0.mk (And.intro ht1 (And.intro hgg ht))
      clear ht1 hgg ht hx hy hx2 hy2
      by_cases he : x2 = i
      ·have q1 : ((x2 : Int) == (i : Int)) = true:=by rw [he];simp
       have HE:=Aside0.mk he
       clear he
       go_wp2_with (at_builtin;refine papp1 55 66 (i : Int) (y2 : Int) HP.out HB2.out.size (HLF.out i t HI.out.1) ?_ (ho:=rfl);intro v67 w67 h1 hb;replace HP:=Aside0.mk h1;replace HB2:=Aside0.mk (HB2.out.trans hb);clear h1 hb z1 z2 z3 z4)
       obtain ⟨ht1,hgg,ht⟩:=HQ.out
       go_roundg (L.length - (t + 1))
       case measure => omega
       case rel => exact ⟨t + 1,congrArg _ G2.out,by omega,Nat.le_refl _,by rw [HX.out.1 HE.out,← List.append_assoc];exact HP,HB2⟩
      ·have q1 : ((x2 : Int) == (i : Int)) = false:=beq_eq_false_iff_ne.2 (by omega)
       have HE:=Aside0.mk he
       clear he
       go_wp2
       obtain ⟨ht1,hgg,ht⟩:=HQ.out
       go_roundg (L.length - (t + 1))
       case measure => omega
       case rel => exact ⟨t + 1,congrArg _ G2.out,by omega,Nat.le_refl _,by rw [HX.out.2 HE.out];exact HP,HB2⟩
     ·obtain rfl : t = L.length:=by omega
      have b1 : ((L.length : Int) < (L.length : Int)) = False:=eq_false (by omega)
      clear ht1 hgg ht
      go_wp2
      obtain ⟨hi1,hgg,hi⟩:=HI.out
      go_roundg (l0.length - (i + 1))
      case measure => omega
      case rel => exact ⟨i + 1,congrArg _ G1.out,by omega,Nat.le_refl _,by rw [flatB_succ];exact HP,HB2⟩
   ·obtain rfl : i = l0.length:=by omega
    have b1 : ((l0.length : Int) < (l0.length : Int)) = False:=eq_false (by omega)
    clear hi1 hgg hi
    go_wp2
    go_ret
    exact ⟨_,rfl,Kd.R_lower HP.out HB.out.size,below_step HB.out HB2.out⟩
end Go.Proofs.Ytelglbebffdaaaa.X
