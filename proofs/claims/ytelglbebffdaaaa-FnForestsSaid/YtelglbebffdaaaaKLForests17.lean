/- Part 17 of the proof of FnForests: what it needs. -/
import Derived.Deep.Cut
import Derived.Test.YtelglbebffdaaaaKLForests10
namespace Go.Proofs.Ytelglbebffdaaaa.X
open Go.RowKit Go.Proofs.YtelglbebffdaaaaW.PrintWords Go.Proofs.YtelglbebffdaaaaW.PrintLast Go.Proofs.YtelglbebffdaaaaW.PrintMore Go.Proofs.Ytelglbebffdaaaa.Q
set_option linter.unusedVariables false
set_option linter.unusedSimpArgs false
theorem results_t6c {P : Program} {fn : Func} {u1 u2 u3 u4 u5 u6 p : Tmp} {ty : TypeId} (h : fn.results = #[.tmp u1, .tmp u2, .tmp u3, .tmp u4, .tmp u5, .tmp u6, .cell p ty]) (tmps : Array Value) (w : World) (g : Nat) (t : TypeId) (cs : Array Value) (fr : Nat × Nat) (d : TypeDesc)
  (hp : tmps.getD p undef = .pointer (some ⟨g, 0, none⟩)) (hg : w.heap[g]? = some (.cells cs t fr))
  (hu : P.underlying ty = some d) (hd : (match d with | .struct _ | .array _ _ => true | _ => false) = true) (hi : (P.info? ty).map (·.size) = some cs.size) :
  (results fn tmps).run P w = .ok (.tuple #[tmps.getD u1 undef, tmps.getD u2 undef, tmps.getD u3 undef, tmps.getD u4 undef, tmps.getD u5 undef, tmps.getD u6 undef, .agg cs]) w := by
 have hp' : tmps[p]?.getD undef = .pointer (some ⟨g, 0, none⟩) := by simpa using hp
 simp [results, h, hp', asAddr, run_loadVar_row w g t ty cs fr d hg hu hd hi]
def Dn7 (w : World) (e : Ending) (w' : World) : Prop := ∃ va vb v0 v1 v2 a b d i r, ∃ x1 x2 x3 x4 : Int, e = .returned (.tuple #[va, .int .i64 x1, .int .i64 x2, vb, .int .i64 x3, .int .i64 x4, .agg #[v0, v1, v2]]) ∧ a.length ≤ 200 ∧ b.length ≤ 200 ∧ d.length ≤ 40 ∧ i.length ≤ 40 ∧ r.length ≤ 40 ∧ NQ w' w.heap.size va a ∧ NQ w' w.heap.size vb b ∧ Q3 w' w.heap.size v0 v1 v2 d i r ∧ Below w.heap.size w w'
theorem Dn.seven {w : World} {va vb v0 v1 v2 : Value} {w' : World} (h : Dn w (.returned (.tuple #[va, vb, .agg #[v0, v1, v2]])) w') (x1 x2 x3 x4 : Int) : Dn7 w (.returned (.tuple #[va, .int .i64 x1, .int .i64 x2, vb, .int .i64 x3, .int .i64 x4, .agg #[v0, v1, v2]])) w' := by
 obtain ⟨ua, ub, u0, u1, u2, a, b, d, i, r, he, hrest⟩ := h
 cases he
 exact ⟨_, _, _, _, _, a, b, d, i, r, x1, x2, x3, x4, rfl, hrest⟩
set_option maxRecDepth 100000 in
set_option maxHeartbeats 1000000 in
theorem DrawForestDist_r (A : Option Addr) (c : Nat) (l : List Int) (w : World) (hr : Kd.C (Kd.int .u8) w A l.length l) (hc : l.length ≤ c) (hl : l.length ≤ 1048576) :
  Calls Try.prog 39 #[.slice A l.length c] w (Dn7 w) := by
 have hu := Try.underlying31
 have HC := Aside0.mk hr
 clear hr
 go_enter Try.func39, Try.ntmps39
 go_wp2_with (first | ((with_reducible refine gate_dst (N := 8) rfl ?_); refine bx_ 8 #[nl, nl, nl] 31 ?_; intro kr hg w1 hr hb1; have HB := Aside0.mk hb1; have HR := Aside0.mk hr; have HG := Aside0.mk (show w.heap.size ≤ kr by omega); clear hr hb1 hg) | (go_at_call 68; refine (new_r2 A c l w _ HB.out HC.out hc hl).mono ?_; rintro e w2 ⟨g, rfl, hs, hb⟩; have HS := Aside0.mk hs; replace HR := Aside0.mk (blk_below HR.out hb); clear hs hb) | (go_at_call 69; refine (draw8_r HS.out 6 (by decide) (by decide)).mono ?_; rintro e w3 ⟨va, vb, v0, v1, v2, a, b, d, i, r, rfl, h1, h2, h3, h4, h5, h6, h7, h8, h9⟩; obtain ⟨A0, n0, c0, A1, n1, c1, A2, n2, c2, rfl, rfl, rfl⟩ := h8.form; have HE := Aside0.mk (d2_made HS.out h9 HR.out HG.out h1 h2 ⟨h3, h4, h5⟩ h6 h7 h8); obtain ⟨Aa, ca, rfl, _, _⟩ := h6.form; obtain ⟨Ab, cb, rfl, _, _⟩ := h7.form; clear h1 h2 h3 h4 h5 h6 h7 h8 h9 HR HS))
 obtain ⟨kb, hkb⟩ : ∃ kb, kb = w3.heap.size := ⟨_, rfl⟩
 rw [← hkb] at HE ⊢
 clear hkb
 generalize w3.alloc _ = w5 at HE ⊢
 go_wp2_with fail
 refine (below_r HE.out.d1.st _).mono ?_
 rintro e w6 ⟨x1, rfl, _, _, hs⟩
 replace HE := Aside0.mk (HE.out.call hs)
 clear hs
 go_wp2_with fail
 refine (below_r HE.out.d1.st _).mono ?_
 rintro e w7 ⟨x3, rfl, _, _, hs⟩
 replace HE := Aside0.mk (HE.out.call hs)
 clear hs
 go_wp2_with fail
 refine (below_r HE.out.d1.st _).mono ?_
 rintro e w8 ⟨y2, rfl, _, _, hs⟩
 replace HE := Aside0.mk (HE.out.call hs)
 clear hs
 go_wp2_with fail
 refine (below_r HE.out.d1.st _).mono ?_
 rintro e w9 ⟨y4, rfl, _, _, hs⟩
 replace HE := Aside0.mk (HE.out.call hs)
 clear hs
 go_wp2_with fail
 refine (once_r HE.out.d1.st 14 (by decide)).mono ?_
 rintro e w10 ⟨r10, rfl, hs⟩
 replace HE := Aside0.mk (HE.out.call hs)
 clear hs
 go_upto_if 54 with fail
 go_cut [15] from 53 (fun c15 wx => ∃ x2 : Int, c15 = .int .i64 x2 ∧ Aside0 (D2 w w g kr kb (.slice Aa a.length ca) (.slice Ab b.length cb) (.slice A0 n0 c0) (.slice A1 n1 c1) (.slice A2 n2 c2) a b d i r wx))
 case first =>
  rename_i J1 K1 hJ1 hK1
  cases r10 with
  | false =>
   go_wp2_with fail
   refine Met.intro (hJ1 _ _ ?_)
   repeat apply Exists.intro
   exact ⟨⟨_, rfl, HE⟩, rfl⟩
  | true =>
   have HS := Aside0.mk HE.out.d1.st
   go_wp2_with (first | ((with_reducible refine gate_dst (N := 61) rfl ?_); refine ilit 61 [-1, wrap64 ((a.length : Int) + 1), wrap64 (x1 - 1)] (by simp) HS ?_; intro b5 w11 hb5 hC hs _ hbel; have HCC := Aside0.mk hC; have HBB := Aside0.mk hb5; replace HE := Aside0.mk (HE.out.below hbel); replace HS := hs; clear hs hbel hC hb5) | (go_at_call 72; refine (pick_r HS.out b5 3 [-1, wrap64 ((a.length : Int) + 1), wrap64 (x1 - 1)] HBB.out (by simp) (by simp) (by simp) HCC.out).mono ?_; rintro e w12 ⟨r12, rfl, hs⟩; replace HE := Aside0.mk (HE.out.call hs); clear hs HS HCC HBB))
   refine Met.intro (hJ1 _ _ ?_)
   repeat apply Exists.intro
   exact ⟨⟨_, rfl, HE⟩, rfl⟩
 case rest =>
  clear HE
  obtain ⟨x2, rfl, HE⟩ := hcut
  obtain ⟨y0, y1, y2', f0, f1, f2⟩ := bx_of HE.out.bk
  obtain ⟨z0, z1, z2, e0, e1, e2⟩ := bx_of HE.out.d1.br
  go_wp2
  go_still_tail 13, (by kernel_rfl)
  change wpList _ _ _ _ _ (World.drew wc)
  replace HE := Aside0.mk (HE.out.ch (w' := World.drew wc))
  clear y0 y1 y2' f0 f1 f2 z0 z1 z2 e0 e1 e2
  generalize World.drew wc = w9 at HE ⊢
  obtain ⟨z0, z1, z2, e0, e1, e2⟩ := bx_of HE.out.d1.br
  go_wp2
  have hg := HE.out.ret (Nat.le_refl _)
  exact bodyPost_ret (results_t6c (u1 := 2) (u2 := 3) (u3 := 4) (u4 := 5) (u5 := 6) (u6 := 7) (p := 8) rfl _ _ kr 31 _ (0, 0) _ rfl hg.1 hu rfl (by kernel_rfl)) rfl (hg.2.dn.seven _ _ _ _)
end Go.Proofs.Ytelglbebffdaaaa.X
