/- Part 19 of the proof of FnLeast: what it needs. -/
import Derived.Test.YtngphdmbjenkaaaKLLeast6
import Derived.Test.YtngphdmbjenkaaaKLLeast11
import Derived.Test.YtngphdmbjenkaaaKLLeast16
import Derived.Test.YtngphdmbjenkaaaKLLeast17
import Derived.Test.YtngphdmbjenkaaaKLLeast18
namespace Go.Proofs.Ytngphdmbjenkaaa.X
open Go.RowKit Go.Proofs.YtngphdmbjenkaaaW.PrintWords Go.Proofs.YtngphdmbjenkaaaW.PrintLast Go.Proofs.YtngphdmbjenkaaaW.PrintMore Go.Proofs.Ytngphdmbjenkaaa.Q
set_option linter.unusedVariables false
set_option linter.unusedSimpArgs false
variable {w W1 : World} {p : Ad} {a b : List NdI} {d i r : List Int}
theorem rootDist_v (h : Ar w p a b d i r) [c : Ch w W1] : Calls Try.prog 18 #[.slice p.Aa a.length p.ca, .slice p.Ab b.length p.cb, .agg #[.slice p.A0 d.length p.c0, .slice p.A1 i.length p.c1, .slice p.A2 r.length p.c2]] W1 fun e w' => e = .returned (.int .i64 (rdB a b d i r)) ∧ Below w.heap.size w w' := by
 obtain ⟨k, hk⟩ := (implRootDist_ev a b d i r).rounds
 have g := h.ch (W' := W1)
 exact (impl_RootDist.calls k p.Aa p.ca a p.Ab p.cb b p.A0 p.c0 d p.A1 p.c1 i p.A2 p.c2 r _ W1 g.ha g.ka g.hb g.kb g.h0 g.k0 g.h1 g.k1 g.h2 g.k2 hk).mono fun e w' ⟨he, hb⟩ => ⟨he, below_step c.out hb⟩
end Go.Proofs.Ytngphdmbjenkaaa.X
namespace Go.Proofs.Ytngphdmbjenkaaa.X
open Go.RowKit Go.Proofs.YtngphdmbjenkaaaW.PrintWords Go.Proofs.YtngphdmbjenkaaaW.PrintLast Go.Proofs.YtngphdmbjenkaaaW.PrintMore Go.Proofs.Ytngphdmbjenkaaa.Q
set_option linter.unusedVariables false
set_option linter.unusedSimpArgs false
section
variable {w W1 : World} {p : Ad} {a b : List NdI} {d i r : List Int}
abbrev MR (w : World) (base : Nat) (v : Value) (l : List (List PairI)) : Prop := Kd.N (Kd.slice 48 k48) 36 w base (fun k => base ≤ k) v l
theorem mapsOf_v (h : Ar w p a b d i r) [c : Ch w W1] : Calls Try.prog 14 #[.slice p.Aa a.length p.ca, .slice p.Ab b.length p.cb] W1 fun e w' => ∃ (bs : Nat) (A : Option Addr) (c : Nat), e = .returned (.slice A (mapsOf a b).length c) ∧ MR w' bs (.slice A (mapsOf a b).length c) (mapsOf a b) ∧ Below w.heap.size w w' := by
 obtain ⟨k, hk⟩ := (implMapsOf_ev a b).rounds
 have g := h.ch (W' := W1)
 refine (impl_MapsOf.calls k p.Aa p.ca a p.Ab p.cb b _ W1 g.ha g.ka g.hb g.kb hk).mono ?_
 rintro e w' ⟨v, rfl, h1, h2⟩
 obtain ⟨A, c', rfl⟩ := Kd.N_slice h1
 exact ⟨_, A, c', rfl, h1, below_step c.out h2⟩
theorem specMapsOf_v (h : Ar w p a b d i r) [c : Ch w W1] : Calls Try.prog 22 #[.slice p.Aa a.length p.ca, .slice p.Ab b.length p.cb] W1 fun e w' => ∃ (A : Option Addr) (c : Nat), e = .returned (.slice A (mapsOf a b).length c) ∧ Below w.heap.size w w' := by
 have la := h.la
 have lb := h.lb
 obtain ⟨k, hk⟩ := (specMapsOf_ev a b (by omega) (by omega)).rounds
 have g := h.ch (W' := W1)
 refine (spec_MapsOf.calls k p.Aa p.ca a p.Ab p.cb b _ W1 g.ha g.ka g.hb g.kb hk).mono ?_
 rintro e w' ⟨v, rfl, h1, h2⟩
 obtain ⟨A, c', rfl⟩ := Kd.N_slice h1
 exact ⟨A, c', rfl, below_step c.out h2⟩
theorem leastCost_v (h : Ar w p a b d i r) [c : Ch w W1] : Calls Try.prog 15 #[.slice p.Aa a.length p.ca, .slice p.Ab b.length p.cb, .agg #[.slice p.A0 d.length p.c0, .slice p.A1 i.length p.c1, .slice p.A2 r.length p.c2]] W1 fun e w' => e = .returned (.int .i64 (leastCost a b d i r)) ∧ Below w.heap.size w w' := by
 obtain ⟨k, hk⟩ := (implLeast_ev a b d i r).rounds
 have g := h.ch (W' := W1)
 exact (impl_LeastCost.calls k p.Aa p.ca a p.Ab p.cb b p.A0 p.c0 d p.A1 p.c1 i p.A2 p.c2 r _ W1 g.ha g.ka g.hb g.kb g.h0 g.k0 g.h1 g.k1 g.h2 g.k2 hk).mono fun e w' ⟨he, hb⟩ => ⟨he, below_step c.out hb⟩
theorem mapCost_v {A : Option Addr} {cm n : Nat} {m : List PairI} (h : Ar w p a b d i r) (hr : Kd.C k48 w A n m) (hc : n ≤ cm) (hl : n ≤ 1000) [c : Ch w W1] (hn : m.length = n) : Calls Try.prog 19 #[.slice p.Aa a.length p.ca, .slice p.Ab b.length p.cb, .agg #[.slice p.A0 d.length p.c0, .slice p.A1 i.length p.c1, .slice p.A2 r.length p.c2], .slice A n cm] W1 fun e w' => e = .returned (.int .i64 (mapCost a b d i r m)) ∧ Below w.heap.size w w' := by
 subst hn
 obtain ⟨k, hk⟩ := (implMapCost_ev a b d i r m (by omega)).rounds
 have g := h.ch (W' := W1)
 exact (impl_MapCost.calls k p.Aa p.ca a p.Ab p.cb b p.A0 p.c0 d p.A1 p.c1 i p.A2 p.c2 r A cm m _ W1 g.ha g.ka g.hb g.kb g.h0 g.k0 g.h1 g.k1 g.h2 g.k2 (Kd.C_below hr c.out) hc hk).mono fun e w' ⟨he, hb⟩ => ⟨he, below_step c.out hb⟩
theorem mapOk_v {A : Option Addr} {cm n : Nat} {m : List PairI} (h : Ar w p a b d i r) (hr : Kd.C k48 w A n m) (hc : n ≤ cm) (hl : n ≤ 1000) [c : Ch w W1] (hn : m.length = n) : Calls Try.prog 20 #[.slice p.Aa a.length p.ca, .slice p.Ab b.length p.cb, .slice A n cm] W1 fun e w' => e = .returned (.bool (mapB a b m)) ∧ Below w.heap.size w w' := by
 subst hn
 have la := h.la
 have lb := h.lb
 obtain ⟨k, hk⟩ := (specMapOk_ev a b m (by omega) (by omega) (by omega)).rounds
 have g := h.ch (W' := W1)
 exact (spec_MapOk.calls k p.Aa p.ca a p.Ab p.cb b A cm m _ W1 g.ha g.ka g.hb g.kb (Kd.C_below hr c.out) hc hk).mono fun e w' ⟨he, hb⟩ => ⟨he, below_step c.out hb⟩
theorem rooted_v {A : Option Addr} {cm n : Nat} {m : List PairI} (hr : Kd.C k48 w A n m) (hc : n ≤ cm) (hm : ∃ s, m = ⟨0, 0⟩ :: s) [c : Ch w W1] (hn : m.length = n) : Calls Try.prog 21 #[.slice A n cm] W1 fun e w' => e = .returned (.bool true) ∧ Below w.heap.size w w' := by
 subst hn
 obtain ⟨s, rfl⟩ := hm
 have hk : spec_RootsPaired.f ((⟨0, 0⟩ : PairI) :: s) = some true := by
  unfold spec_RootsPaired.f
  rw [if_pos (by simp only [List.length_cons]; omega), if_pos (by simp only [List.length_cons]; omega)]
  rfl
 exact (spec_RootsPaired.calls A cm _ _ W1 (Kd.C_below hr c.out) hc hk).mono fun e w' ⟨he, hb⟩ => ⟨he, below_step c.out hb.below⟩
theorem MR.below {w w' : World} {base : Nat} {v : Value} {l : List (List PairI)} (h : MR w base v l) (k : Below w.heap.size w w') : MR w' base v l := Kd.N_below h k
theorem MR.form {w : World} {base n c : Nat} {A : Option Addr} {l : List (List PairI)} (h : MR w base (.slice A n c) l) (hp : 0 < l.length) : ∃ g, A = some ⟨g, 0, none⟩ := by
 obtain ⟨_, rows, hl, hR, _⟩ := h
 obtain ⟨g, cap, e, _⟩ := Kd.R_form hR (by omega)
 injection e with e _
 exact ⟨g, e⟩
theorem MR.at_ {w : World} {base n c g : Nat} {l : List (List PairI)} (h : MR w base (.slice (some ⟨g, 0, none⟩) n c) l) {j : Nat} (hj : j < l.length) : ∃ A' c', w.cell? ⟨g, j, none⟩ = some (.slice A' l[j].length c') ∧ l[j].length ≤ c' ∧ Kd.C k48 w A' l[j].length l[j] := by
 obtain ⟨hn, _, hC⟩ := Kd.N_reads' h
 obtain ⟨ad, cs, hA, hlen, hK, hcell⟩ := ReadsRow.get_ hC [] (j : Int) (by omega) (by omega)
 obtain ⟨A', c', hcs, hc', hC'⟩ := hK
 subst hcs
 cases hA
 have e : l.getD (j : Int).toNat [] = l[j] := by rw [Int.toNat_natCast, List.getD_eq_getElem?_getD, List.getElem?_eq_getElem hj]; rfl
 rw [e] at hc' hC' hcell
 have h1 := hcell 0 _ rfl
 have e2 : (j : Int).toNat * (Kd.slice 48 k48).sz + 0 = j := by rw [Int.toNat_natCast]; show j * 1 + 0 = j; omega
 rw [e2, add_plain] at h1
 exact ⟨A', c', h1, hc', hC'⟩
end
set_option maxRecDepth 100000 in
set_option maxHeartbeats 2000000 in
theorem laws_FnLeast.calls (A0 : Option Addr) (c0 : Nat) (l0 : List Int) (w : World) (hr0 : Kd.C (Kd.int .u8) w A0 l0.length l0) (hc0 : l0.length ≤ c0) :
  Calls Try.prog 3 #[.slice A0 l0.length c0] w fun e w' => e = .returned (.bool true) ∧ Below w.heap.size w w' := by
 have HC := Aside0.mk hr0
 clear hr0
 by_cases hbig : (l0.length : Int) > 1048576
 ·have hq : decide ((l0.length : Int) > 1048576) = true := decide_eq_true hbig
  have HV := Aside0.mk (fun W (c : Ch w W) => big_v (W1 := W) HC.out hc0)
  rw [hq] at HV
  clear hq hbig
  go_enter Try.func3, Try.ntmps3
  go_wp2_with (go_at_call 12; refine (HV.out _ inferInstance).mono ?_; rintro e w1 ⟨rfl, hb⟩; have HB := Aside0.mk hb; clear hb)
  go_ret
  exact ⟨rfl, HB.out⟩
 ·have hl : l0.length ≤ 1048576 := by omega
  have hq : decide ((l0.length : Int) > 1048576) = false := decide_eq_false hbig
  have HV := Aside0.mk (fun W (c : Ch w W) => big_v (W1 := W) HC.out hc0)
  rw [hq] at HV
  clear hq hbig
  go_enter Try.func3, Try.ntmps3
  go_wp2_with (first | (go_at_call 12; refine (HV.out _ inferInstance).mono ?_; rintro e w1 ⟨rfl, hb⟩; have HB := Aside0.mk hb; clear hb) | (go_at_call 13; refine (DrawLeastCost_r A0 c0 l0 w1 (Kd.C_below HC.out HB.out) hc0 hl).mono ?_; rintro e w2 hd; obtain ⟨p, a, b, d, i, r, rfl, har, hb⟩ := hd.ar; have HL := Aside0.mk (ls_new har (below_step HB.out hb)); clear hd har hb))
  obtain ⟨kx, hkx⟩ : ∃ kx, kx = w2.heap.size := ⟨_, rfl⟩
  rw [← hkx] at HL ⊢
  clear hkx HB HV HC
  refine (mapsOf_v HL.out.ar).mono ?_
  rintro e w3 ⟨bs, Am, cm, rfl, hm, hb⟩
  replace HL := Aside0.mk (HL.out.below hb)
  have HM := Aside0.mk hm
  clear hm hb
  obtain ⟨y0, y1, y2, f0, f1, f2⟩ := HL.out.box
  go_wp2_with (go_at_call 15; refine (leastCost_v HL.out.ar).mono ?_; rintro e w4 ⟨rfl, hb⟩; replace HM := Aside0.mk (HM.out.below hb); replace HL := Aside0.mk (HL.out.below hb); clear hb y0 y1 y2 f0 f1 f2)
  refine (treeA_v HL.out.ar).mono ?_
  rintro e w5 ⟨rfl, hb⟩
  replace HM := Aside0.mk (HM.out.below hb)
  replace HL := Aside0.mk (HL.out.below hb)
  clear hb
  have no : ¬ (trB a = true ∧ trB b = true ∧ a.length ≤ 5 ∧ b.length ≤ 5) → mapsOf a b = [] ∧ leastCost a b d i r = -1 := fun hn => by
   have e1 : mapsOf a b = [] := by unfold mapsOf; rw [if_neg hn]
   exact ⟨e1, by unfold leastCost costs; rw [e1]; rfl⟩
  by_cases ha : trB a = true
  ·rw [ha]
   by_cases hb : trB b = true
   ·by_cases la : (a.length : Int) > 5
    ·obtain ⟨e1, e2⟩ := no (fun z => by omega)
     rw [e1, e2, List.length_nil]
     clear e1 e2 no
     go_wp2_with (go_at_call 16; refine (treeB_v HL.out.ar).mono ?_; rw [hb]; rintro e w6 ⟨rfl, hbel⟩; replace HL := Aside0.mk (HL.out.below hbel); clear hbel)
     go_ret
     exact ⟨rfl, HL.out.bel⟩
    by_cases lb : (b.length : Int) > 5
    ·obtain ⟨e1, e2⟩ := no (fun z => by omega)
     rw [e1, e2, List.length_nil]
     clear e1 e2 no
     go_wp2_with (go_at_call 16; refine (treeB_v HL.out.ar).mono ?_; rw [hb]; rintro e w6 ⟨rfl, hbel⟩; replace HL := Aside0.mk (HL.out.below hbel); clear hbel)
     go_ret
     exact ⟨rfl, HL.out.bel⟩
    have ta := (trB_iff a).1 ha
    have tb := (trB_iff b).1 hb
    clear no
    have HT := Aside0.mk hb
    clear ha hb
    go_wp2_with (go_at_call 16; refine (treeB_v HL.out.ar).mono ?_; rw [HT.out]; rintro e w6 ⟨rfl, hbel⟩; replace HM := Aside0.mk (HM.out.below hbel); replace HL := Aside0.mk (HL.out.below hbel); clear hbel; obtain ⟨y0, y1, y2, f0, f1, f2⟩ := HL.out.box)
    clear HT
    refine (costOk_v HL.out.ar).mono ?_
    rintro e w7 ⟨rfl, hbel⟩
    clear y0 y1 y2 f0 f1 f2
    replace HM := Aside0.mk (HM.out.below hbel)
    replace HL := Aside0.mk (HL.out.below hbel)
    clear hbel
    have hp := mapsOf_pos (a := a) (b := b) ta tb (by omega) (by omega)
    have hlen := mapsOf_len a b
    by_cases hc : Co d i r
    ·have HRD := Aside0.mk (show rdB a b d i r = rootDist a b d i r from if_pos (okAB_iff.2 ⟨ta, tb, hc⟩))
     have HME := Aside0.mk (mapsOf_met (d := d) (i := i) (r := r) ta tb (by omega) (by omega) hc)
     rw [costB_iff.2 hc, leastCost_eq ta tb (by omega) (by omega) hc]
     obtain ⟨g, rfl⟩ := HM.out.form hp
     have HCO := Aside0.mk hc
     obtain ⟨y0, y1, y2, f0, f1, f2⟩ := HL.out.box
     clear hp ta tb hc la lb
     go_wp2_with (go_at_call 18; refine (rootDist_v HL.out.ar).mono ?_; rw [HRD.out]; rintro e w8 ⟨rfl, hbel⟩; replace HM := Aside0.mk (HM.out.below hbel); replace HL := Aside0.mk (HL.out.below hbel); clear hbel y0 y1 y2 f0 f1 f2)
     clear HRD
     go_loopg [9, 10] (mapsOf a b).length (fun gg s9 s10 wr => ∃ (j : Nat) (met : Bool), j ≤ (mapsOf a b).length ∧ (mapsOf a b).length - j ≤ gg ∧ s9 = .bool met ∧ s10 = .int .i64 (j : Int) ∧ Aside0 (met = true ∨ ∃ m ∈ (mapsOf a b).drop j, mapCost a b d i r m = rootDist a b d i r) ∧ Aside0 (Ls w kx p a b d i r wr) ∧ Aside0 (MR wr bs (.slice (some ⟨g, 0, none⟩) (mapsOf a b).length cm) (mapsOf a b)))
     case atStart => exact ⟨0, false, Nat.zero_le _, by omega, rfl, rfl, ⟨.inr (by rw [List.drop_zero]; exact HME.out)⟩, HL, HM⟩
     case round =>
      clear HL HM HME
      obtain ⟨j, met, hj, hgg, rfl, rfl, HME, HL, HM⟩ := hrel
      by_cases hlt : j < (mapsOf a b).length
      ·obtain ⟨Ae, ce, z0, hce, hCe⟩ := HM.out.at_ hlt
       have hmem : (mapsOf a b)[j] ∈ mapsOf a b := List.getElem_mem hlt
       have HOK := Aside0.mk ((mapB_iff _ _ _).2 (mapsOf_ok a b _ hmem))
       have hml := mok_len (mapsOf_ok a b _ hmem)
       have HRT := Aside0.mk (mapsOf_root hmem)
       have hle := mapsOf_least (d := d) (i := i) (r := r) HCO.out hmem
       have HC := Aside0.mk hCe
       have a5 := HL.out.ar.la
       have HLE := Aside0.mk (show (mapsOf a b)[j].length ≤ 1000 by omega)
       have HN := Aside0.mk (show met = true ∨ mapCost a b d i r (mapsOf a b)[j] = rootDist a b d i r ∨ ∃ m ∈ (mapsOf a b).drop (j + 1), mapCost a b d i r m = rootDist a b d i r by
        rcases HME.out with h | ⟨m, h, e2⟩
        ·exact .inl h
        ·rw [List.drop_eq_getElem_cons hlt] at h
         rcases List.mem_cons.1 h with rfl | h
         ·exact .inr (.inl e2)
         ·exact .inr (.inr ⟨m, h, e2⟩))
       obtain ⟨y0, y1, y2, f0, f1, f2⟩ := HL.out.box
       have hji : (j : Int) < ((mapsOf a b).length : Int) := by omega
       have hjl : (mapsOf a b).length ≤ 1000000 := by omega
       generalize (mapsOf a b)[j] = m at z0 hce HOK HRT hle HC HLE HN
       clear hmem hml HME a5 hCe
       generalize hmc : mapCost a b d i r m = mc at hle HN
       have HMC := Aside0.mk hmc
       clear hmc
       go_wp2
       go_region_held3 (fun w' => w'.cell? ⟨kx, 0, none⟩ = some (.slice p.A0 d.length p.c0) ∧ w'.cell? ⟨kx, 1, none⟩ = some (.slice p.A1 i.length p.c1) ∧ w'.cell? ⟨kx, 2, none⟩ = some (.slice p.A2 r.length p.c2) ∧ w'.cell? ⟨g, j, none⟩ = some (.slice Ae m.length ce)) (first | exact ⟨y0, y1, y2, z0⟩) ((go_at_call 19; refine (mapCost_v HL.out.ar HC.out hce HLE.out rfl).mono ?_; rw [HMC.out]; rintro e w9 ⟨rfl, hbel⟩; replace HM := Aside0.mk (HM.out.below hbel); replace HL := Aside0.mk (HL.out.below hbel); replace HC := Aside0.mk (Kd.C_below HC.out hbel); replace z0 := pw_cell_below hbel z0; clear hbel y0 y1 y2 f0 f1 f2; obtain ⟨y0, y1, y2, f0, f1, f2⟩ := HL.out.box))
       have hnl : ¬ mc < rootDist a b d i r := by omega
       clear hle
       go_wp2_with (first | (go_at_call 20; refine (mapOk_v HL.out.ar HC.out hce HLE.out rfl).mono ?_; rw [HOK.out]; rintro e w10 ⟨rfl, hbel⟩; replace HM := Aside0.mk (HM.out.below hbel); replace HL := Aside0.mk (HL.out.below hbel); replace HC := Aside0.mk (Kd.C_below HC.out hbel); replace z0 := pw_cell_below hbel z0; clear hbel y0 y1 y2 f0 f1 f2) | (go_at_call 21; refine (rooted_v HC.out hce HRT.out rfl).mono ?_; rintro e w11 ⟨rfl, hbel⟩; replace HM := Aside0.mk (HM.out.below hbel); replace HL := Aside0.mk (HL.out.below hbel); clear hbel z0))
       all_goals
        go_roundg ((mapsOf a b).length - (j + 1))
        case measure => omega
        case rel => exact ⟨j + 1, _, by omega, Nat.le_refl _, rfl, by go_num, ⟨by first | exact .inl rfl | (rcases HN.out with h | h | h <;> first | exact .inl (beq_iff_eq.2 h) | exact .inr h | (exfalso; simp_all; done))⟩, HL, HM⟩
      ·obtain rfl : j = (mapsOf a b).length := by omega
       have hmt : met = true := by
        rcases HME.out with h | ⟨m, h, _⟩
        ·exact h
        ·rw [List.drop_length] at h; cases h
       subst hmt
       clear hgg hj HME
       go_wp2_with (go_at_call 22; refine (specMapsOf_v HL.out.ar).mono ?_; rintro e w12 ⟨As, cs, rfl, hbel⟩; replace HL := Aside0.mk (HL.out.below hbel); clear hbel)
       go_ret
       exact ⟨rfl, HL.out.bel⟩
    ·have hf : costB d i r = false := by rw [← Bool.not_eq_true, costB_iff]; exact hc
     have hz : decide (0 < (mapsOf a b).length) = true := decide_eq_true hp
     rw [hf, leastCost_no ta tb (by omega) (by omega) hc]
     clear hf hc hp ta tb
     go_wp2
     go_ret
     exact ⟨rfl, HL.out.bel⟩
   ·obtain ⟨e1, e2⟩ := no (fun z => hb z.2.1)
    have hb' : trB b = false := by simpa using hb
    rw [e1, e2, List.length_nil]
    clear e1 e2 no hb
    go_wp2_with (go_at_call 16; refine (treeB_v HL.out.ar).mono ?_; rw [hb']; rintro e w6 ⟨rfl, hbel⟩; replace HL := Aside0.mk (HL.out.below hbel); clear hbel)
    go_ret
    exact ⟨rfl, HL.out.bel⟩
  ·obtain ⟨e1, e2⟩ := no (fun z => ha z.1)
   have ha' : trB a = false := by simpa using ha
   rw [ha', e1, e2, List.length_nil]
   clear e1 e2 no ha
   go_wp2
   go_ret
   exact ⟨rfl, HL.out.bel⟩
end Go.Proofs.Ytngphdmbjenkaaa.X
