/- Part 18 of the proof of FnBothWays: what it needs. -/
import Derived.StillTailTactics
import Derived.Deep.CutRange
import Derived.Deep.QuietTactic
import Derived.BigQuiet
import Derived.Test.YtngphdmbjenkaaaKLBothWays3
import Derived.Test.YtngphdmbjenkaaaKLBothWays13
namespace Go.Proofs.Ytngphdmbjenkaaa.X
open Go.RowKit Go.Proofs.YtngphdmbjenkaaaW.PrintWords Go.Proofs.YtngphdmbjenkaaaW.PrintLast Go.Proofs.YtngphdmbjenkaaaW.PrintMore
set_option linter.unusedVariables false
set_option linter.unusedSimpArgs false
attribute [local go_sem] max2_int min2_int max_two min_two
set_option maxHeartbeats 30000000 in
set_option maxRecDepth 100000 in
theorem forest8 {M : Ted.Ms} {A B : Nat} {X Y : Nat → Nat} (hs : Small M) (hA : A ≤ 24) (hB : B ≤ 24) (lamA : Ted.Lam M.la A) (lamB : Ted.Lam M.lb B) (hla : ∀ p,p < A → M.la p ≤ p) (hlb : ∀ q,q < B → M.lb q ≤ q) (hX : ∀ p,p < A → X p < 6) (hY : ∀ q,q < B → Y q < 6)
  {i j : Nat} (hi : i < A) (hj : j < B) (o : Nat → Nat → Int) (fill : ∀ p q,M.la i ≤ p → p ≤ i → M.lb j ≤ q → q ≤ j → ¬ (M.la p = M.la i ∧ M.lb q = M.lb j) → o p q = Ted.TD M p q)
  (W : World) (bt cT : Nat) (a0 a1 a2 a3 a4 a5 a6 : Addr) (c0 c1 c2 c3 c4 c5 c6 : Nat) (T : List Int) (ht : Blk W bt T) (tr : Trs A B o T) (rs : Rs M A B X Y bt a0 a1 a2 a3 a4 a5 a6 W) :
  Calls Try.prog 124 #[.agg #[.slice (some a0) A c0,.slice (some a1) B c1,.slice (some a2) A c2,.slice (some a3) B c3,.slice (some a4) 6 c4,.slice (some a5) 6 c5,.slice (some a6) 36 c6],.int .i64 (i : Int),.int .i64 (j : Int),.slice (some ⟨bt,0,none⟩) (A * B) cT] W fun e w' =>
   ∃ (bf : Nat) (L T' : List Int),e = .returned (.slice (some ⟨bf,0,none⟩) ((i - M.la i + 2) * (j - M.lb j + 2)) ((i - M.la i + 2) * (j - M.lb j + 2))) ∧ W.heap.size ≤ bf ∧ Blk w' bf L ∧ Tab M (M.la i) (M.lb j) (j - M.lb j + 2) ((i - M.la i + 2) * (j - M.lb j + 2)) (fun u v => u ≤ i - M.la i + 1) L ∧ Only bt W w' ∧ Blk w' bt T' ∧ Trs A B (trs M o i j (i + 1) 0) T' := by
 have hu := Try.underlying134
 obtain ⟨nt,hnt⟩ : ∃ n,n = A * B := ⟨_,rfl⟩
 rw [← hnt]
 have HNT := Aside0.mk hnt
 clear hnt
 obtain ⟨x,y,n1,m1,h,wd,nn,HH⟩ : ∃ x y n1 m1 h wd nn,Aside0 (Pr8 M A B i j x y n1 m1 h wd nn) := by
  have hxi := hla i hi
  have hyj := hlb j hj
  exact ⟨M.la i,M.lb j,i - M.la i,j - M.lb j,_,_,_,⟨⟨hA,hB,hi,hj,rfl,rfl,by omega,by omega,rfl,rfl,rfl,mul26 (by omega) (by omega),Nat.mul_pos (by omega) (by omega)⟩⟩⟩
 have e2 := rs.r2 i hi
 have e3 := rs.r3 j hj
 rw [show (i - M.la i + 2) * (j - M.lb j + 2) = nn by obtain ⟨hA,hB,hi,hj,rfl,rfl,ex,ey,rfl,rfl,rfl,nl,n0⟩ := HH.out;congr 2 <;> omega,show j - M.lb j + 2 = wd by obtain ⟨hA,hB,hi,hj,rfl,rfl,ex,ey,rfl,rfl,rfl,nl,n0⟩ := HH.out;omega,show i - M.la i + 1 = n1 + 1 by obtain ⟨hA,hB,hi,hj,rfl,rfl,ex,ey,rfl,rfl,rfl,nl,n0⟩ := HH.out;omega,← HH.out.hx,← HH.out.hy]
 rw [← HH.out.hx] at e2
 rw [← HH.out.hy] at e3
 obtain ⟨hA',hB',hi',hj',hx,hy,ex,ey,eh,ew,en,nl,n0⟩ := HH.out
 have b1 : (0 ≤ (i : Int)) = True := eq_true (by omega)
 have b2 : ((i : Int) < (A : Int)) = True := eq_true (by omega)
 have b3 : (0 ≤ (j : Int)) = True := eq_true (by omega)
 have b4 : ((j : Int) < (B : Int)) = True := eq_true (by omega)
 have f1 : Vi _ _ := vi (w_sub (a := i) (b := x) (c := n1) ex (by omega))
 have f2 : Vi _ _ := vi (w_two (a := n1) (b := h) eh.symm (by omega))
 have f3 : Vi _ _ := vi (w_sub (a := j) (b := y) (c := m1) ey (by omega))
 have f4 : Vi _ _ := vi (w_two (a := m1) (b := wd) ew.symm (by omega))
 have f5 : Vi _ _ := vi (w_mul en (by omega))
 have HNL := Aside0.mk (show nn ≤ 1000000 by omega)
 have HP := Aside0.mk (And.intro hs (And.intro hla (And.intro hlb (And.intro hX (And.intro hY (And.intro fill (And.intro lamA lamB)))))))
 have RS := Aside0.mk rs
 have HT0 := Aside0.mk tr
 have HB := Aside0.mk ht
 clear rs tr ht hA hB hi hj hA' hB' hi' hj' hx hy ex ey eh ew en nl n0 hs hla hlb hX hY fill lamA lamB
 go_enter Try.func124,Try.ntmps124
 go_wp2_with (first | ((with_reducible refine gate_dst (N := 4) rfl ?_);refine bx_ 4 #[.slice (some a0) A c0,.slice (some a1) B c1,.slice (some a2) A c2,.slice (some a3) B c3,.slice (some a4) 6 c4,.slice (some a5) 6 c5,.slice (some a6) 36 c6] 134 ?_;intro g hg w1 hb1 hb2;have HG := Aside0.mk hb1;have HG2 := Aside0.mk hb2;have HG3 := Aside0.mk hg;have y2 : w1.cell? ⟨g,2,none⟩ = some (.slice (some a2) A c2) := (blk_cell hb1 2).trans rfl;have y3 : w1.cell? ⟨g,3,none⟩ = some (.slice (some a3) B c3) := (blk_cell hb1 3).trans rfl;replace e2 := pw_cell_below hb2 e2;replace e3 := pw_cell_below hb2 e3;clear hb1 hb2 hg) | ((with_reducible refine gate_dst (N := 44) rfl ?_);refine make_w rfl (N := 44) rfl 25 _ _ rfl nn f5 f5 Try.underlying25 info3 HNL.out ?_;intro bf hbf w2 hf2 hb2;have HF := Aside0.mk hf2;have HF2 := Aside0.mk hb2;have HF3 := Aside0.mk hbf;replace e2 := pw_cell_below hb2 e2;replace e3 := pw_cell_below hb2 e3;clear hf2 hb2 hbf y2 y3))
 have hz0 : Aside0 (Z8 M A B X Y W g bf bt a0 a1 a2 a3 a4 a5 a6 c0 c1 c2 c3 c4 c5 c6 (List.replicate nn 0) T w2) := by
  obtain ⟨rfl⟩ := HG3
  obtain ⟨rfl⟩ := HF3
  have hlt := blk_lt HB.out
  have hl2 := blk_lt HG.out
  have ho := below_step HG2.out HF2.out
  exact ⟨⟨blk_below HG.out HF2.out,HF.out,blk_below (blk_below HB.out HG2.out) HF2.out,Only.of_below ho bt,RS.out.only (Only.of_below ho bt),by omega,by omega,by have := HG2.out.size;omega,HG2.out.size⟩⟩
 clear HG HG2 HG3 HF HF2 HF3 HB
 have hz1 : Aside0 (Tab M x y wd nn (fun u v => v = 0 ∧ u ≤ 0) (List.replicate nn 0)) := ⟨(tab0 M x y wd nn HH.out.n0).mono (fun u v _ h => ⟨h.1,by omega⟩)⟩
 go_loopg [14] (i + 1) (fun gg v14 wr => ∃ (p u : Nat) (L : List Int),Aside0 (x + u = p) ∧ p ≤ i + 1 ∧ i + 1 - p ≤ gg ∧ v14 = .int .i64 (p : Int) ∧ Aside0 (Z8 M A B X Y W g bf bt a0 a1 a2 a3 a4 a5 a6 c0 c1 c2 c3 c4 c5 c6 L T wr) ∧ Aside0 (Tab M x y wd nn (fun u' v' => v' = 0 ∧ u' ≤ u) L))
 case atStart => exact ⟨x,0,_,⟨rfl⟩,by have := HH.out.ex;omega,by omega,rfl,hz0,hz1⟩
 case round =>
  as_aux_lemma =>
   clear hz0 hz1 e2 e3
   obtain ⟨p,u,L,hpu,hp1,hgg,rfl,HZ,HT⟩ := hrel
   by_cases hp : p ≤ i
   ·obtain ⟨hA,hB,hi,hj,hx,hy,ex,ey,eh,ew,en,nl,n0⟩ := HH.out
    have hpu' := hpu.out
    have e2 := HZ.out.rs.r2 i hi
    rw [← hx] at e2
    have e0 := HZ.out.rs.r0 p (by omega)
    have e4 := HZ.out.rs.r4 p (by omega)
    have x6 := HP.out.2.2.2.1 p (by omega)
    obtain ⟨r,hr⟩ : ∃ r,r = u + 1 := ⟨_,rfl⟩
    obtain ⟨k1,hk1⟩ : ∃ k,k = u * wd := ⟨_,rfl⟩
    obtain ⟨k2,hk2⟩ : ∃ k,k = r * wd := ⟨_,rfl⟩
    have l1 : k1 < nn := by have := two_lt (a := h) (b := wd) (x := u) (y := 0) (by omega) (by omega);omega
    have l2 : k2 < nn := by have := two_lt (a := h) (b := wd) (x := r) (y := 0) (by omega) (by omega);omega
    obtain ⟨z,hz⟩ : ∃ z,z = Ted.D M x p y y := ⟨_,rfl⟩
    obtain ⟨z2,hz2⟩ : ∃ z,z = Ted.D M x (p + 1) y y := ⟨_,rfl⟩
    have q1 : wr.cell? ⟨bf,k1,none⟩ = some (.int .i64 z) := by
     have h1 := HZ.out.f.cell (n := k1) (by rw [HT.out.len];exact l1)
     have h2 := HT.out.val u 0 (by omega) ⟨rfl,Nat.le_refl _⟩
     rw [Nat.add_zero,← hk1,Nat.add_zero,hpu',← hz] at h2
     rw [h1,h2]
    obtain ⟨pn,hpn⟩ : ∃ n,n = p + 1 := ⟨_,rfl⟩
    have g1 : Vi _ _ := vi (w_sub (a := p) (b := x) (c := u) hpu' (by omega))
    have g7 : Vi _ _ := vi (w_inc (a := p) (b := pn) hpn.symm (by omega))
    have g2 : Vi _ _ := vi (w_inc (a := u) (b := r) hr.symm (by omega))
    have g3 := iw (w_mul hk2 (by omega))
    have g4 := iw (w_dec (a := u) (b := r) hr.symm (by omega))
    have g5 := iw (w_mul hk1 (by omega))
    have g6 : IntKind.i64.wrap (z + M.del p) = z2 := iw (by
     have h1 := D_small HP.out.1 x p y y
     have h2 := HP.out.1.del p
     rw [wid (by omega) (by omega),hz,hz2,Ted.D_a M (j := p + 1) (by omega) (by omega)]
     rfl)
    have b5 : (0 ≤ (p : Int)) = True := eq_true (by omega)
    have b6 : ((p : Int) < (A : Int)) = True := eq_true (by omega)
    have b7 : (0 ≤ (X p : Int)) = True := eq_true (by omega)
    have b8 : ((X p : Int) < ((6 : Nat) : Int)) = True := eq_true (by omega)
    have b8' : ((X p : Int) < (6 : Int)) = True := eq_true (by omega)
    have b9 : (0 ≤ (k1 : Int)) = True := eq_true (by omega)
    have b10 : ((k1 : Int) < (nn : Int)) = True := eq_true (by omega)
    have b11 : (0 ≤ (k2 : Int)) = True := eq_true (by omega)
    have b12 : ((k2 : Int) < (nn : Int)) = True := eq_true (by omega)
    have b13 : ((p : Int) ≤ (i : Int)) = True := eq_true (by omega)
    have HI := Aside0.mk (And.intro hp1 (And.intro hgg (And.intro hp (And.intro hr (And.intro hk2 (And.intro l2 (And.intro hz2 hpn)))))))
    obtain ⟨y0,y1,y2,y3,y4,y5,y6⟩ := HZ.out.boxes
    clear hA hB hi hj hx hy ex ey eh ew en nl n0 hpu' hp1 hgg hp hr hk1 hk2 l1 l2 hz hz2 hpn x6
    go_wp2
    go_still_tail 23,(by kernel_rfl)
    change wpList _ _ _ _ _ wr.drew
    replace HZ := Aside0.mk HZ.out.drew
    clear y0 y1 y2 y3 y4 y5 y6 e0 e2 e4 q1
    generalize wr.drew = w5 at HZ ⊢
    have q2 := HZ.out.f.cell (n := k2) (by rw [HT.out.len];exact HI.out.2.2.2.2.2.1)
    have q3 := blk_frozen HZ.out.f k2
    generalize L.getD k2 0 = z9 at q2
    go_wp2
    clear q2 q3
    replace HZ := Aside0.mk (HZ.out.putf RS.out k2 z2)
    replace HT : Aside0 (Tab M x y wd nn (fun u' v' => v' = 0 ∧ u' ≤ r) (L.set k2 z2)) := ⟨HT.out.put (u := r) (v := 0) HI.out.2.2.2.2.1 (by have := HH.out.ew;omega) HI.out.2.2.2.2.2.1 (by
     rw [HI.out.2.2.2.2.2.2.1,HI.out.2.2.2.1,← Nat.add_assoc,hpu.out];rfl) (fun u' v' _ hh => by have := HI.out.2.2.2.1;omega)⟩
    obtain ⟨hp1,hgg,hp,hr,_,_,_,hpn⟩ := HI.out
    go_roundg (i - p)
    case measure => omega
    case rel => exact ⟨pn,r,_,⟨by have := hpu.out;omega⟩,by omega,by omega,(by first | rfl | exact g7 | exact (congrArg (Value.int .i64) (i64_w _)).trans g7),HZ,HT⟩
   ·obtain rfl : p = i + 1 := by omega
    obtain ⟨hA,hB,hi,hj,hx,hy,ex,ey,eh,ew,en,nl,n0⟩ := HH.out
    have b5 : (((i + 1 : Nat) : Int) ≤ (i : Int)) = False := eq_false (by omega)
    have b6 : ((i : Int) + 1 ≤ (i : Int)) = False := eq_false (by omega)
    obtain rfl : u = n1 + 1 := by have := hpu.out;omega
    have e3 := HZ.out.rs.r3 j hj
    rw [← hy] at e3
    clear hA hB hi hj hx hy ex ey eh ew en nl n0 hpu hp1 hgg hp
    go_wp2
    clear b5 b6 e3
    go_loopg [16] (j + 1) (fun gg v16 wr => ∃ (q v : Nat) (L : List Int),Aside0 (y + v = q) ∧ q ≤ j + 1 ∧ j + 1 - q ≤ gg ∧ v16 = .int .i64 (q : Int) ∧ Aside0 (Z8 M A B X Y W g bf bt a0 a1 a2 a3 a4 a5 a6 c0 c1 c2 c3 c4 c5 c6 L T wr) ∧ Aside0 (Tab M x y wd nn (fun u' v' => v' = 0 ∧ u' ≤ n1 + 1 ∨ u' = 0 ∧ v' ≤ v) L))
    case atStart => exact ⟨y,0,_,⟨rfl⟩,by have := HH.out.ey;omega,by omega,rfl,HZ,⟨HT.out.mono (fun u' v' _ hh => by omega)⟩⟩
    case round =>
     as_aux_lemma =>
      clear HZ HT
      obtain ⟨q,v,L,hqv,hq1,hgg,rfl,HZ,HT⟩ := hrel
      by_cases hq : q ≤ j
      ·obtain ⟨hA,hB,hi,hj,hx,hy,ex,ey,eh,ew,en,nl,n0⟩ := HH.out
       have hqv' := hqv.out
       have e3 := HZ.out.rs.r3 j hj
       rw [← hy] at e3
       have e1 := HZ.out.rs.r1 q (by omega)
       have e5 := HZ.out.rs.r5 q (by omega)
       have x6 := HP.out.2.2.2.2.1 q (by omega)
       obtain ⟨s,hs⟩ : ∃ s,s = v + 1 := ⟨_,rfl⟩
       obtain ⟨qn,hqn⟩ : ∃ n,n = q + 1 := ⟨_,rfl⟩
       have l1 : v < nn := by have := two_lt (a := h) (b := wd) (x := 0) (y := v) (by omega) (by omega);omega
       have l2 : s < nn := by have := two_lt (a := h) (b := wd) (x := 0) (y := s) (by omega) (by omega);omega
       obtain ⟨z,hz⟩ : ∃ z,z = Ted.D M x x y q := ⟨_,rfl⟩
       obtain ⟨z2,hz2⟩ : ∃ z,z = Ted.D M x x y (q + 1) := ⟨_,rfl⟩
       have q1 : wr.cell? ⟨bf,v,none⟩ = some (.int .i64 z) := by
        have h1 := HZ.out.f.cell (n := v) (by rw [HT.out.len];exact l1)
        have h2 := HT.out.val 0 v (by omega) (.inr ⟨rfl,Nat.le_refl _⟩)
        rw [Nat.add_zero,Nat.zero_mul,Nat.zero_add,hqv',← hz] at h2
        rw [h1,h2]
       have g1 := iw (w_sub (a := q) (b := y) (c := v) hqv' (by omega))
       have g2 := iw (w_inc (a := v) (b := s) hs.symm (by omega))
       have g7 : Vi _ _ := vi (w_inc (a := q) (b := qn) hqn.symm (by omega))
       have g6 : IntKind.i64.wrap (z + M.ins q) = z2 := iw (by
        have h1 := D_small HP.out.1 x x y q
        have h2 := HP.out.1.ins q
        rw [wid (by omega) (by omega),hz,hz2,Ted.D_b M (i := x) (j := x) (k := y) (m := q + 1) (by omega) (by omega)]
        rfl)
       have b5 : (0 ≤ (q : Int)) = True := eq_true (by omega)
       have b6 : ((q : Int) < (B : Int)) = True := eq_true (by omega)
       have b7 : (0 ≤ (Y q : Int)) = True := eq_true (by omega)
       have b8 : ((Y q : Int) < ((6 : Nat) : Int)) = True := eq_true (by omega)
       have b8' : ((Y q : Int) < (6 : Int)) = True := eq_true (by omega)
       have b9 : (0 ≤ (v : Int)) = True := eq_true (by omega)
       have b10 : ((v : Int) < (nn : Int)) = True := eq_true (by omega)
       have b11 : (0 ≤ (s : Int)) = True := eq_true (by omega)
       have b12 : ((s : Int) < (nn : Int)) = True := eq_true (by omega)
       have b13 : ((q : Int) ≤ (j : Int)) = True := eq_true (by omega)
       have HI := Aside0.mk (And.intro hq1 (And.intro hgg (And.intro hq (And.intro hs (And.intro l2 (And.intro hz2 hqn))))))
       obtain ⟨y0,y1,y2,y3,y4,y5,y6⟩ := HZ.out.boxes
       clear hA hB hi hj hx hy ex ey eh ew en nl n0 hqv' hq1 hgg hq hs l1 l2 hz hz2 hqn x6
       go_wp2
       go_still_tail 29,(by kernel_rfl)
       change wpList _ _ _ _ _ wr.drew
       replace HZ := Aside0.mk HZ.out.drew
       clear y0 y1 y2 y3 y4 y5 y6 e1 e3 e5 q1
       generalize wr.drew = w5 at HZ ⊢
       have q2 := HZ.out.f.cell (n := s) (by rw [HT.out.len];exact HI.out.2.2.2.2.1)
       have q3 := blk_frozen HZ.out.f s
       generalize L.getD s 0 = z9 at q2
       go_wp2
       clear q2 q3
       replace HZ := Aside0.mk (HZ.out.putf RS.out s z2)
       replace HT : Aside0 (Tab M x y wd nn (fun u' v' => v' = 0 ∧ u' ≤ n1 + 1 ∨ u' = 0 ∧ v' ≤ s) (L.set s z2)) := ⟨HT.out.put (u := 0) (v := s) (by omega) (by have := HH.out.ew;have := HH.out.ey;have := hqv.out;have := HI.out;omega) HI.out.2.2.2.2.1 (by
        rw [HI.out.2.2.2.2.2.1,HI.out.2.2.2.1,← Nat.add_assoc,hqv.out];rfl) (fun u' v' _ hh => by have := HI.out.2.2.2.1;omega)⟩
       obtain ⟨hq1,hgg,hq,hs,_,_,hqn⟩ := HI.out
       go_roundg (j - q)
       case measure => omega
       case rel => exact ⟨qn,s,_,⟨by have := hqv.out;omega⟩,by omega,by omega,(by first | rfl | exact g7 | exact (congrArg (Value.int .i64) (i64_w _)).trans g7),HZ,HT⟩
      ·obtain rfl : q = j + 1 := by omega
       obtain ⟨hA,hB,hi,hj,hx,hy,ex,ey,eh,ew,en,nl,n0⟩ := HH.out
       have b5 : (((j + 1 : Nat) : Int) ≤ (j : Int)) = False := eq_false (by omega)
       have b6 : ((j : Int) + 1 ≤ (j : Int)) = False := eq_false (by omega)
       obtain rfl : v = m1 + 1 := by have := hqv.out;omega
       have e2 := HZ.out.rs.r2 i hi
       rw [← hx] at e2
       clear hA hB hi hj hx hy ex ey eh ew en nl n0 hqv hq1 hgg hq
       go_wp2
       clear b5 b6 e2
       go_loopg [17] (i + 1) (fun gg v17 wr => ∃ (p u : Nat) (L T' : List Int),Aside0 (x + u = p) ∧ p ≤ i + 1 ∧ i + 1 - p ≤ gg ∧ v17 = .int .i64 (p : Int) ∧ Aside0 (Z8 M A B X Y W g bf bt a0 a1 a2 a3 a4 a5 a6 c0 c1 c2 c3 c4 c5 c6 L T' wr) ∧ Aside0 (Tab M x y wd nn (fun u' v' => v' = 0 ∧ u' ≤ n1 + 1 ∨ u' ≤ u) L) ∧ Aside0 (Trs A B (trs M o i j p 0) T'))
       case atStart => exact ⟨x,0,_,_,⟨rfl⟩,by have := HH.out.ex;omega,by omega,rfl,HZ,⟨HT.out.mono (fun u' v' _ hh => by have := HH.out.ew;omega)⟩,⟨HT0.out.ext fun p' q' _ _ => trs_start M o HH.out.hx p' q'⟩⟩
       case round =>
        as_aux_lemma =>
         clear HZ HT
         obtain ⟨p,u,L,T',hpu,hp1,hgg,rfl,HZ,HT,HU⟩ := hrel
         by_cases hp : p ≤ i
         ·obtain ⟨hA,hB,hi,hj,hx,hy,ex,ey,eh,ew,en,nl,n0⟩ := HH.out
          have e3 := HZ.out.rs.r3 j hj
          rw [← hy] at e3
          have b13 : ((p : Int) ≤ (i : Int)) = True := eq_true (by omega)
          have HI := Aside0.mk (And.intro hp1 (And.intro hgg hp))
          obtain ⟨pn,hpn⟩ : ∃ n,n = p + 1 := ⟨_,rfl⟩
          have g7 : Vi _ _ := vi (w_inc (a := p) (b := pn) hpn.symm (by omega))
          have HPN := Aside0.mk hpn
          clear hA hB hi hj hx hy ex ey eh ew en nl n0 hp1 hgg hp hpn
          go_wp2
          clear e3
          go_loopg [18] (j + 1) (fun gg v18 wr => ∃ (q v : Nat) (L T' : List Int),Aside0 (y + v = q) ∧ q ≤ j + 1 ∧ j + 1 - q ≤ gg ∧ v18 = .int .i64 (q : Int) ∧ Aside0 (Z8 M A B X Y W g bf bt a0 a1 a2 a3 a4 a5 a6 c0 c1 c2 c3 c4 c5 c6 L T' wr) ∧ Aside0 (Tab M x y wd nn (fun u' v' => v' = 0 ∧ u' ≤ n1 + 1 ∨ u' ≤ u ∨ u' = u + 1 ∧ v' ≤ v) L) ∧ Aside0 (Trs A B (trs M o i j p q) T'))
          case atStart => exact ⟨y,0,_,_,⟨rfl⟩,by have := HH.out.ey;omega,by omega,rfl,HZ,⟨HT.out.mono (fun u' v' _ hh => by have := HH.out.ex;have := hpu.out;have := HI.out;omega)⟩,⟨HU.out.ext fun p' q' _ _ => trs_line M o HH.out.hy p' q'⟩⟩
          case round =>
           as_aux_lemma =>
            clear HZ HT HU
            obtain ⟨q,v,L,T',hqv,hq1,hgg,rfl,HZ,HT,HU⟩ := hrel
            by_cases hq : q ≤ j
            ·obtain ⟨hA,hB,hi,hj,hx,hy,ex,ey,eh,ew,en,nl,n0⟩ := HH.out
             have hp := HI.out.2.2
             have hpu' := hpu.out
             have hqv' := hqv.out
             obtain ⟨rX,rY,rfill,rlA,rlB⟩ : (∀ p,p < A → X p < 6) ∧ (∀ q,q < B → Y q < 6) ∧ (∀ p q,M.la i ≤ p → p ≤ i → M.lb j ≤ q → q ≤ j → ¬ (M.la p = M.la i ∧ M.lb q = M.lb j) → o p q = Ted.TD M p q) ∧ Ted.Lam M.la A ∧ Ted.Lam M.lb B := HP.out.2.2.2
             obtain ⟨lx,lp,ly,lq,z1,z2,z3,mm,d1,d2,d3,hd1,hd2,g1,g2,g3,hboth,hother⟩ := cell8 HH.out HP.out.1 rlA rlB HP.out.2.1 HP.out.2.2.1 hpu' hp hqv' hq
             have x0 := rX p (by omega)
             have x1 := rY q (by omega)
             have e0 := HZ.out.rs.r0 p (by omega)
             have e1 := HZ.out.rs.r1 q (by omega)
             have e2 := HZ.out.rs.r2 i hi
             have e3 := HZ.out.rs.r3 j hj
             have e4 := HZ.out.rs.r4 p (by omega)
             have e5 := HZ.out.rs.r5 q (by omega)
             rw [← hx] at e2
             rw [← hy] at e3
             obtain ⟨r,hr⟩ : ∃ r,r = u + 1 := ⟨_,rfl⟩
             obtain ⟨s,hs⟩ : ∃ s,s = v + 1 := ⟨_,rfl⟩
             obtain ⟨qn,hqn⟩ : ∃ n,n = q + 1 := ⟨_,rfl⟩
             obtain ⟨k1,hk1⟩ : ∃ k,k = u * wd := ⟨_,rfl⟩
             obtain ⟨k2,hk2⟩ : ∃ k,k = r * wd := ⟨_,rfl⟩
             obtain ⟨i1,hi1⟩ : ∃ k,k = k1 + s := ⟨_,rfl⟩
             obtain ⟨i2,hi2⟩ : ∃ k,k = k2 + s := ⟨_,rfl⟩
             obtain ⟨i3,hi3⟩ : ∃ k,k = k2 + v := ⟨_,rfl⟩
             have l1 : i1 < nn := by have := two_lt (a := h) (b := wd) (x := u) (y := s) (by omega) (by omega);omega
             have l2 : i2 < nn := by have := two_lt (a := h) (b := wd) (x := r) (y := s) (by omega) (by omega);omega
             have l3 : i3 < nn := by omega
             have q1 : wr.cell? ⟨bf,i1,none⟩ = some (.int .i64 d1) := by
              have h1 := HZ.out.f.cell (n := i1) (by rw [HT.out.len];exact l1)
              have h2 := HT.out.val u s (by omega) (by omega)
              rw [← hk1,← hi1,hpu',hs,← Nat.add_assoc,hqv',← hd1] at h2
              rw [h1,h2]
             have q2 : wr.cell? ⟨bf,i3,none⟩ = some (.int .i64 d2) := by
              have h1 := HZ.out.f.cell (n := i3) (by rw [HT.out.len];exact l3)
              have h2 := HT.out.val r v (by omega) (by omega)
              rw [← hk2,← hi3,hqv',hr,← Nat.add_assoc,hpu',← hd2] at h2
              rw [h1,h2]
             have g4 : Vi _ _ := vi (w_sub (a := p) (b := x) (c := u) hpu' (by omega))
             have g5 : Vi _ _ := vi (w_inc (a := u) (b := r) hr.symm (by omega))
             have g6 : Vi _ _ := vi (w_sub (a := q) (b := y) (c := v) hqv' (by omega))
             have g8 : Vi _ _ := vi (w_inc (a := v) (b := s) hs.symm (by omega))
             have g9 := iw (w_dec (a := u) (b := r) hr.symm (by omega))
             have g10 := iw (w_mul hk1 (by omega))
             have g11 := iw (w_add hi1.symm (by omega))
             have g12 := iw (w_mul hk2 (by omega))
             have g13 := iw (w_add hi2.symm (by omega))
             have g14 := iw (w_dec (a := i3) (b := i2) (by omega) (by omega))
             have g15 : Vi _ _ := vi (w_inc (a := q) (b := qn) hqn.symm (by omega))
             have b5 : (0 ≤ (q : Int)) = True := eq_true (by omega)
             have b6 : ((q : Int) < (B : Int)) = True := eq_true (by omega)
             have b7 : (0 ≤ (Y q : Int)) = True := eq_true (by omega)
             have b8 : ((Y q : Int) < ((6 : Nat) : Int)) = True := eq_true (by omega)
             have b8' : ((Y q : Int) < (6 : Int)) = True := eq_true (by omega)
             have b9 : (0 ≤ (p : Int)) = True := eq_true (by omega)
             have b10 : ((p : Int) < (A : Int)) = True := eq_true (by omega)
             have b11 : (0 ≤ (X p : Int)) = True := eq_true (by omega)
             have b12 : ((X p : Int) < ((6 : Nat) : Int)) = True := eq_true (by omega)
             have b12' : ((X p : Int) < (6 : Int)) = True := eq_true (by omega)
             have b14 : ((q : Int) ≤ (j : Int)) = True := eq_true (by omega)
             have b15 : (0 ≤ (i1 : Int)) = True := eq_true (by omega)
             have b16 : ((i1 : Int) < (nn : Int)) = True := eq_true (by omega)
             have b17 : (0 ≤ (i3 : Int)) = True := eq_true (by omega)
             have b18 : ((i3 : Int) < (nn : Int)) = True := eq_true (by omega)
             have HI2 := Aside0.mk (And.intro hq1 (And.intro hgg (And.intro hq (And.intro hr (And.intro hs (And.intro hqn (And.intro hk1 (And.intro hk2 (And.intro hi1 (And.intro hi2 (And.intro hi3 (And.intro l1 l2))))))))))))
             have HI3 := Aside0.mk (And.intro lx (And.intro lp (And.intro ly (And.intro lq (And.intro hboth (And.intro hother rfill))))))
             have HI4 := Aside0.mk (And.intro (rX p (by omega)) (rY q (by omega)))
             obtain ⟨y0,y1,y2,y3,y4,y5,y6⟩ := HZ.out.boxes
             clear hA hB hi hj hx hy ex ey eh ew en nl n0 hpu' hqv' hq1 hgg hq hr hs hqn hk1 hk2 hi1 hi2 hi3 l1 l2 l3 lx lp ly lq hd1 hd2 hboth hother hp rX rY rfill rlA rlB x0 x1
             go_upto_region 23 with fail
             clear f1 f2 f3 f4 f5 g4 g6 g7 g15 b1 b2 b3 b4 b13 b14 b8 b12 y2 y3 y6 e2 e3
             go_cut [19,20,21] from 135 to 295 (fun c19 c20 c21 wx => c19 = .int .i64 (r : Int) ∧ c20 = .int .i64 (s : Int) ∧ c21 = .int .i64 mm ∧ wx = wr.drew)
             case first =>
              as_aux_lemma =>
               rename_i J1 K1 hJ1 hK1
               go_wp2
               go_still (by kernel_rfl)
               refine hK1 _ _ (Met.intro (hJ1 _ _ ?_))
               repeat apply Exists.intro
               exact ⟨⟨(by first | rfl | exact g5),(by first | rfl | exact g8),rfl,rfl⟩,rfl⟩
             case rest =>
              as_aux_lemma =>
               obtain ⟨rfl,rfl,rfl,rfl⟩ := hcut
               replace HZ := Aside0.mk HZ.out.drew
               clear y0 y1 y4 y5 e0 e1 e4 e5 q1 q2 g1 g2 g3 g5 g8 g9 g10 g11 g12 g13 g14 b5 b6 b7 b8' b9 b10 b11 b12' b15 b16 b17 b18
               generalize wr.drew = w5 at HZ ⊢
               obtain ⟨xp,hxp⟩ : ∃ n,n = M.la p := ⟨_,rfl⟩
               obtain ⟨yq,hyq⟩ : ∃ n,n = M.lb q := ⟨_,rfl⟩
               obtain ⟨dd,hdd⟩ : ∃ d,d = Ted.D M x (p + 1) y (q + 1) := ⟨_,rfl⟩
               obtain ⟨lx,lp,ly,lq,hboth,hother,rfill⟩ := HI3.out
               rw [← hdd,← hxp,← hyq] at hboth hother
               rw [← hxp] at lx lp
               rw [← hyq] at ly lq
               obtain ⟨hA,hB,hi,hj,hx,hy,ex,ey,eh,ew,en,nl,n0⟩ := HH.out
               obtain ⟨hq1,hgg,hq,hr,hs,hqn,hk1,hk2,hi1,hi2,hi3,l1,l2⟩ := HI2.out
               have hp := HI.out.2.2
               have hpu' := hpu.out
               have hqv' := hqv.out
               have b1 : (0 ≤ (i : Int)) = True := eq_true (by omega)
               have b2 : ((i : Int) < (A : Int)) = True := eq_true (by omega)
               have b3 : (0 ≤ (j : Int)) = True := eq_true (by omega)
               have b4 : ((j : Int) < (B : Int)) = True := eq_true (by omega)
               have b5 : (0 ≤ (q : Int)) = True := eq_true (by omega)
               have b6 : ((q : Int) < (B : Int)) = True := eq_true (by omega)
               have b9 : (0 ≤ (p : Int)) = True := eq_true (by omega)
               have b10 : ((p : Int) < (A : Int)) = True := eq_true (by omega)
               have e2 := HZ.out.rs.r2 i hi
               have e3 := HZ.out.rs.r3 j hj
               have e2p := HZ.out.rs.r2 p (by omega)
               have e3q := HZ.out.rs.r3 q (by omega)
               rw [← hx] at e2
               rw [← hy] at e3
               rw [← hxp] at e2p
               rw [← hyq] at e3q
               obtain ⟨k5,hk5⟩ : ∃ k,k = p * B := ⟨_,rfl⟩
               obtain ⟨i5,hi5⟩ : ∃ k,k = k5 + q := ⟨_,rfl⟩
               have l5 : i5 < nt := by have := two_lt (a := A) (b := B) (x := p) (y := q) (by omega) (by omega);rw [HNT.out];omega
               have hnt9 : nt ≤ 676 := by rw [HNT.out];exact mul26 (by omega) (by omega)
               have g23 := iw (w_mul hk5 (by omega))
               have g24 := iw (w_add hi5.symm (by omega))
               have b21 : (0 ≤ (i5 : Int)) = True := eq_true (by omega)
               have b22 : ((i5 : Int) < (nt : Int)) = True := eq_true (by omega)
               have g25 := iw (w_mul hk2 (by omega))
               have g26 := iw (w_add hi2.symm (by omega))
               have b23 : (0 ≤ (i2 : Int)) = True := eq_true (by omega)
               have b24 : ((i2 : Int) < (nn : Int)) = True := eq_true (by omega)
               have g15 : Vi _ _ := vi (w_inc (a := q) (b := qn) hqn.symm (by omega))
               have HL5 := Aside0.mk (And.intro hk5 (And.intro hi5 (And.intro l5 (And.intro hdd (And.intro hxp hyq)))))
               have HI3b := Aside0.mk (And.intro hboth (And.intro hother (And.intro (show xp ≤ x ∨ x ≤ xp by omega) (show ¬ (xp = x ∧ yq = y) → o p q = Ted.TD M p q from fun hc => rfill p q (by omega) (by omega) (by omega) (by omega) (by rw [← hxp,← hyq,← hx,← hy];exact hc)))))
               have HI6 := Aside0.mk (And.intro lx (And.intro lp (And.intro ly lq)))
               have h3 : (xp = x ∧ yq = y) ∨ ¬ xp = x ∨ (xp = x ∧ ¬ yq = y) := by omega
               have H3 := Aside0.mk h3
               clear h3 hboth hother rfill hA hB hi hj hx hy ex ey eh ew en nl n0 hpu' hqv' hq1 hgg hq hr hs hqn hk1 hk2 hi1 hi2 hi3 l1 l2 lx lp ly lq hp hk5 hi5 l5 hnt9 hdd hxp hyq
               go_upto_region 24 with fail
               go_cut [214] from 135 to 295 (fun c wx => c = .bool (decide (xp = x ∧ yq = y)) ∧ Aside0 (Drawn0 w5 wx))
               case first =>
                as_aux_lemma =>
                 rename_i J1 K1 hJ1 hK1
                 rcases H3.out with ⟨hc1,hc2⟩ | hcx | ⟨hcx,hcy⟩
                 ·have hdec : decide (xp = x ∧ yq = y) = true := decide_eq_true ⟨hc1,hc2⟩
                  rw [hc1] at e2p
                  rw [hc2] at e3q
                  have HDEC := Aside0.mk hdec
                  clear hc1 hc2 hdec
                  go_wp2
                  go_still (by kernel_rfl)
                  refine hK1 _ _ (Met.intro (hJ1 _ _ ?_))
                  repeat apply Exists.intro
                  exact ⟨⟨congrArg Value.bool HDEC.out.symm,⟨⟨⟨_,rfl⟩⟩⟩⟩,rfl⟩
                 ·have m1 := (beq_eq_false_iff_ne (a := (xp : Int)) (b := (x : Int))).2 (by omega)
                  have m2 : ((xp : Int) = (x : Int)) = False := eq_false (by omega)
                  have m3 : decide ((xp : Int) = (x : Int)) = false := decide_eq_false (by omega)
                  have HDEC := Aside0.mk (show decide (xp = x ∧ yq = y) = false from decide_eq_false (fun h => hcx h.1))
                  clear hcx
                  go_wp2
                  go_quiet (fail)
                  first | refine hK1 _ _ (Met.intro (hJ1 _ _ ?_)) | (go_wp2_with fail;refine Met.intro (hJ1 _ _ ?_))
                  repeat apply Exists.intro
                  exact ⟨⟨congrArg Value.bool HDEC.out.symm,⟨⟨⟨_,rfl⟩⟩⟩⟩,rfl⟩
                 ·have m1 := (beq_eq_false_iff_ne (a := (yq : Int)) (b := (y : Int))).2 (by omega)
                  have m2 : ((yq : Int) = (y : Int)) = False := eq_false (by omega)
                  have m3 : decide ((yq : Int) = (y : Int)) = false := decide_eq_false (by omega)
                  have HDEC := Aside0.mk (show decide (xp = x ∧ yq = y) = false from decide_eq_false (fun h => hcy h.2))
                  rw [hcx] at e2p
                  clear hcx hcy
                  go_wp2
                  go_quiet (fail)
                  first | refine hK1 _ _ (Met.intro (hJ1 _ _ ?_)) | (go_wp2_with fail;refine Met.intro (hJ1 _ _ ?_))
                  repeat apply Exists.intro
                  exact ⟨⟨congrArg Value.bool HDEC.out.symm,⟨⟨⟨_,rfl⟩⟩⟩⟩,rfl⟩
               case rest =>
                as_aux_lemma =>
                 obtain ⟨rfl,HD6⟩ := hcut
                 replace HZ := Aside0.mk (HZ.out.drawn HD6.out)
                 clear e2 e3 e2p e3q HD6
                 generalize wc = w6 at HZ ⊢
                 go_upto_if 214 with fail
                 go_cut [21] from 135 to 295 (fun c21 wx => ∃ T2 : List Int,c21 = .int .i64 dd ∧ Aside0 (Z8 M A B X Y W g bf bt a0 a1 a2 a3 a4 a5 a6 c0 c1 c2 c3 c4 c5 c6 L T2 wx) ∧ Aside0 (Trs A B (trs M o i j p qn) T2))
                 case first =>
                  as_aux_lemma =>
                   rename_i J1 K1 hJ1 hK1
                   by_cases hc : xp = x ∧ yq = y
                   ·obtain ⟨hd3,g3,g27⟩ := HI3b.out.1 hc
                    rw [decide_eq_true hc]
                    obtain ⟨hc1,hc2⟩ := hc
                    have HI5 := Aside0.mk (And.intro hd3 (And.intro hc1 hc2))
                    clear hc1 hc2 hd3
                    obtain ⟨hA,hB,hi,hj,hx,hy,ex,ey,eh,ew,en,nl,n0⟩ := HH.out
                    obtain ⟨hq1,hgg,hq,hr,hs,hqn,hk1,hk2,hi1,hi2,hi3,l1,l2⟩ := HI2.out
                    have hp := HI.out.2.2
                    have hpu' := hpu.out
                    have hqv' := hqv.out
                    obtain ⟨hd3,hc1,hc2⟩ := HI5.out
                    have e0 := HZ.out.rs.r0 p (by omega)
                    have e1 := HZ.out.rs.r1 q (by omega)
                    have e6 := HZ.out.rs.r6 p q (by omega) (by omega)
                    obtain ⟨x6,x7⟩ := HI4.out
                    obtain ⟨z6,hz6⟩ : ∃ z,z = 6 * X p := ⟨_,rfl⟩
                    obtain ⟨z7,hz7⟩ : ∃ z,z = z6 + Y q := ⟨_,rfl⟩
                    rw [← hz6,← hz7] at e6
                    obtain ⟨i4,hi4⟩ : ∃ z,z = k1 + v := ⟨_,rfl⟩
                    have l4 : i4 < nn := by omega
                    have q4 : w6.cell? ⟨bf,i4,none⟩ = some (.int .i64 d3) := by
                     have h1 := HZ.out.f.cell (n := i4) (by rw [HT.out.len];exact l4)
                     have h2 := HT.out.val u v (by omega) (by omega)
                     rw [← hk1,← hi4,hpu',hqv',← hd3] at h2
                     rw [h1,h2]
                    have g9 := iw (w_dec (a := u) (b := r) hr.symm (by omega))
                    have g10 := iw (w_mul hk1 (by omega))
                    have g11 := iw (w_add hi1.symm (by omega))
                    have g16 := iw (w_dec (a := i4) (b := i1) (by omega) (by omega))
                    have g17 := iw (w_six hz6.symm (by omega))
                    have g18 := iw (w_add hz7.symm (by omega))
                    have b25 : (0 ≤ (z7 : Int)) = True := eq_true (by omega)
                    have b26 : ((z7 : Int) < ((36 : Nat) : Int)) = True := eq_true (by omega)
                    have b26' : ((z7 : Int) < (36 : Int)) = True := eq_true (by omega)
                    have b27 : (0 ≤ (i4 : Int)) = True := eq_true (by omega)
                    have b28 : ((i4 : Int) < (nn : Int)) = True := eq_true (by omega)
                    obtain ⟨y0,y1,y2,y3,y4,y5,y6⟩ := HZ.out.boxes
                    clear hz6 hz7 hi4 l4 x6 x7 y2 y3 y4 y5
                    clear hd3 hc1 hc2 hA hB hi hj hx hy ex ey eh ew en nl n0 hpu' hqv' hq1 hgg hq hr hs hqn hk1 hk2 hi1 hi2 hi3 l1 l2 hp
                    go_wp2
                    go_still (by kernel_rfl)
                    change Exit.then _ _ _ _ (World.drew w6)
                    replace HZ := Aside0.mk HZ.out.drew
                    clear e0 e1 e6 q4 y0 y1 y6 g9 g10 g11 g16 g17 g18 b25 b26 b26' b27 b28
                    generalize w6.drew = w7 at HZ ⊢
                    have l5 := HL5.out.2.2.1
                    have t1 := HZ.out.t.cell (n := i5) (by rw [HU.out.len,← HNT.out];exact l5)
                    have t2 := blk_frozen HZ.out.t i5
                    replace HZ := Aside0.mk (HZ.out.putt RS.out i5 dd)
                    generalize T'.getD i5 0 = t9 at t1
                    clear l5
                    go_wp2
                    clear t1 t2
                    replace HU : Aside0 (Trs A B (trs M o i j p (q + 1)) (T'.set i5 dd)) := by
                     obtain ⟨hA,hB,hi,hj,hx,hy,ex,ey,eh,ew,en,nl,n0⟩ := HH.out
                     obtain ⟨hk5,hi5,l5,hdd,hxp,hyq⟩ := HL5.out
                     obtain ⟨hd3,hc1,hc2⟩ := HI5.out
                     have := hpu.out
                     have := hqv.out
                     have := HI.out.2.2
                     have := HI2.out.2.2.1
                     refine ⟨HU.out.put (p := p) (q := q) (by omega) (by omega) (by omega) ?_ (fun p' q' hh => trs_same M o p' q' hh)⟩
                     rw [trs_set M o (by omega) (by omega) (by omega) (by omega) (by omega) (by omega),hdd,hx,hy]
                    rw [← HI2.out.2.2.2.2.2.1] at HU
                    first | refine hK1 _ _ (Met.intro (hJ1 _ _ ?_)) | refine Met.intro (hJ1 _ _ ?_)
                    repeat apply Exists.intro
                    exact ⟨⟨_,rfl,HZ,HU⟩,rfl⟩
                   ·obtain ⟨hd3,g3,g27⟩ := HI3b.out.2.1 hc
                    rw [decide_eq_false hc]
                    have HI5 := Aside0.mk (And.intro hd3 (And.intro hc (HI3b.out.2.2.2 hc)))
                    clear hd3 hc
                    obtain ⟨hA,hB,hi,hj,hx,hy,ex,ey,eh,ew,en,nl,n0⟩ := HH.out
                    obtain ⟨hq1,hgg,hq,hr,hs,hqn,hk1,hk2,hi1,hi2,hi3,l1,l2⟩ := HI2.out
                    obtain ⟨hk5,hi5,l5,hdd,hxp,hyq⟩ := HL5.out
                    obtain ⟨lx,lp,ly,lq⟩ := HI6.out
                    have htd := HI5.out.2.2
                    have hp := HI.out.2.2
                    have hpu' := hpu.out
                    have hqv' := hqv.out
                    have hd3 := HI5.out.1
                    have e2 := HZ.out.rs.r2 i hi
                    have e3 := HZ.out.rs.r3 j hj
                    have e2p := HZ.out.rs.r2 p (by omega)
                    have e3q := HZ.out.rs.r3 q (by omega)
                    rw [← hx] at e2
                    rw [← hy] at e3
                    rw [← hxp] at e2p
                    rw [← hyq] at e3q
                    obtain ⟨ee,hee⟩ : ∃ z,z = xp - x := ⟨_,rfl⟩
                    obtain ⟨k6,hk6⟩ : ∃ z,z = ee * wd := ⟨_,rfl⟩
                    obtain ⟨k7,hk7⟩ : ∃ z,z = k6 + yq := ⟨_,rfl⟩
                    obtain ⟨i6,hi6⟩ : ∃ z,z = k6 + (yq - y) := ⟨_,rfl⟩
                    have l6 : i6 < nn := by have := two_lt (a := h) (b := wd) (x := ee) (y := yq - y) (by omega) (by omega);omega
                    have q6 : w6.cell? ⟨bf,i6,none⟩ = some (.int .i64 d3) := by
                     have h1 := HZ.out.f.cell (n := i6) (by rw [HT.out.len];exact l6)
                     have h2 := HT.out.val ee (yq - y) (by omega) (by omega)
                     rw [← hk6,← hi6,show x + ee = xp by omega,show y + (yq - y) = yq by omega,← hd3] at h2
                     rw [h1,h2]
                    have q7 : w6.cell? ⟨bt,i5,none⟩ = some (.int .i64 (Ted.TD M p q)) := by
                     have h1 := HZ.out.t.cell (n := i5) (by rw [HU.out.len,← HNT.out];exact l5)
                     have h2 := HU.out.val p q (by omega) (by omega)
                     rw [← hk5,← hi5,trs_here,htd] at h2
                     rw [h1,h2]
                    have g19 := iw (w_sub (a := xp) (b := x) (c := ee) (by omega) (by omega))
                    have g20 := iw (w_mul hk6 (by omega))
                    have g21 := iw (w_add hk7.symm (by omega))
                    have g22 := iw (w_sub (a := k7) (b := y) (c := i6) (by omega) (by omega))
                    have b27 : (0 ≤ (i6 : Int)) = True := eq_true (by omega)
                    have b28 : ((i6 : Int) < (nn : Int)) = True := eq_true (by omega)
                    clear hA hB hi hj hx hy ex ey eh ew en nl n0 hpu' hqv' hq1 hgg hq hr hs hqn hk1 hk2 hi1 hi2 hi3 l1 l2 hp hk5 hi5 l5 hdd hxp hyq htd lx lp ly lq hd3 hee hk6 hk7 hi6 l6
                    go_wp2
                    go_still (by kernel_rfl)
                    change Exit.then _ _ _ _ (World.drew w6)
                    replace HZ := Aside0.mk HZ.out.drew
                    clear e2 e3 e2p e3q q6 q7 g19 g20 g21 g22 b27 b28
                    generalize w6.drew = w7 at HZ ⊢
                    replace HU : Aside0 (Trs A B (trs M o i j p qn) T') := by
                     obtain ⟨hk5,hi5,l5,hdd,hxp,hyq⟩ := HL5.out
                     have hcc := HI5.out.2.1
                     rw [hxp,hyq,HH.out.hx,HH.out.hy] at hcc
                     rw [HI2.out.2.2.2.2.2.1]
                     exact ⟨HU.out.ext fun p' q' _ _ => trs_skip M o hcc p' q'⟩
                    refine hK1 _ _ (Met.intro (hJ1 _ _ ?_))
                    repeat apply Exists.intro
                    exact ⟨⟨_,rfl,HZ,HU⟩,rfl⟩
                 case rest =>
                  as_aux_lemma =>
                   clear HU HZ
                   obtain ⟨T2,rfl,HZ,HU⟩ := hcut
                   generalize wc = w7 at HZ ⊢
                   have l2 := HI2.out.2.2.2.2.2.2.2.2.2.2.2.2
                   have t3 := HZ.out.f.cell (n := i2) (by rw [HT.out.len];exact l2)
                   have t4 := blk_frozen HZ.out.f i2
                   replace HZ := Aside0.mk (HZ.out.putf RS.out i2 dd)
                   generalize L.getD i2 0 = z9 at t3
                   clear l2
                   go_wp2
                   clear t3 t4
                   replace HT : Aside0 (Tab M x y wd nn (fun u' v' => v' = 0 ∧ u' ≤ n1 + 1 ∨ u' ≤ u ∨ u' = u + 1 ∧ v' ≤ s) (L.set i2 dd)) := by
                    obtain ⟨hq1,hgg,hq,hr,hs,hqn,hk1,hk2,hi1,hi2,hi3,l1,l2⟩ := HI2.out
                    refine ⟨HT.out.put (u := r) (v := s) (by omega) (by have := HH.out.ew;have := HH.out.ey;have := hqv.out;omega) l2 ?_ (fun u' v' _ hh => by omega)⟩
                    rw [HL5.out.2.2.2.1,hr,hs,← Nat.add_assoc,← Nat.add_assoc,hpu.out,hqv.out]
                   obtain ⟨hq1,hgg,hq,hr,hs,hqn,hk1,hk2,hi1,hi2,hi3,l1,l2⟩ := HI2.out
                   go_roundg (j - q)
                   case measure => omega
                   case rel => exact ⟨qn,s,_,_,⟨by have := hqv.out;omega⟩,by omega,by omega,(by first | rfl | exact g15 | exact (congrArg (Value.int .i64) (i64_w _)).trans g15),HZ,HT,HU⟩
            ·obtain rfl : q = j + 1 := by omega
             have b5 : (((j + 1 : Nat) : Int) ≤ (j : Int)) = False := eq_false (by omega)
             have b6 : ((j : Int) + 1 ≤ (j : Int)) = False := eq_false (by omega)
             obtain rfl : v = m1 + 1 := by have := hqv.out;have := HH.out.ey;omega
             clear hqv hq1 hgg hq
             go_wp2
             obtain ⟨hp1,hgg,hp⟩ := HI.out
             have hpn := HPN.out
             go_roundg (i - p)
             case measure => omega
             case rel => exact ⟨pn,u + 1,_,_,⟨by have := hpu.out;omega⟩,by omega,by omega,(by first | rfl | exact g7 | exact (congrArg (Value.int .i64) (i64_w _)).trans g7),HZ,⟨HT.out.mono (fun u' v' _ hh => by have := HH.out.ew;omega)⟩,⟨HU.out.ext fun p' q' _ _ => by rw [hpn];exact trs_next M o p' q'⟩⟩
         ·obtain rfl : p = i + 1 := by omega
          have b5 : (((i + 1 : Nat) : Int) ≤ (i : Int)) = False := eq_false (by omega)
          have b6 : ((i : Int) + 1 ≤ (i : Int)) = False := eq_false (by omega)
          obtain rfl : u = n1 + 1 := by have := hpu.out;have := HH.out.ex;omega
          clear hpu hp1 hgg hp
          go_wp2
          go_ret
          exact ⟨bf,L,T',rfl,HZ.out.hf,HZ.out.f,HT.out.mono (fun u' v' _ hh => Or.inr hh),HZ.out.only,HZ.out.t,HU.out⟩
end Go.Proofs.Ytngphdmbjenkaaa.X
namespace Go.Proofs.Ytngphdmbjenkaaa.X
open Go.RowKit Go.Proofs.YtngphdmbjenkaaaW.PrintWords Go.Proofs.YtngphdmbjenkaaaW.PrintLast Go.Proofs.YtngphdmbjenkaaaW.PrintMore
set_option linter.unusedVariables false
set_option linter.unusedSimpArgs false
section
variable {P : Program} {ops : Array Oper} {rest : List Oper} {o : Oper} {a : Act} {Q : Exit → Act → World → Prop}
theorem make_s {W : World} (hgd : o.guard = none) {N : Tmp} (hd : o.dst = some N) (t : TypeId) (x y : Operand) (ho : o.op = .makeSlice t x y) (m : Nat) (hx : a.eval x = .int .i64 (m : Int)) (hy : a.eval y = .int .i64 (m : Int))
  {e : TypeId} (ht : P.underlying t = some (.slice e)) (hinfo : (P.info? e).map (fun i => (i.zero,i.size,i.bytes)) = some (some (.slice none 0 0),1,24)) (hl : m ≤ 1000000)
  (h : ∀ g,g = W.heap.size → ∀ w1,w1.heap[g]? = some (.cells (List.replicate m (Value.slice none 0 0)).toArray e (0,0)) → Below W.heap.size W w1 → wpList P ops Q rest (a.put o.dst (.slice (some ⟨g,0,none⟩) m m)) w1) : wpList P ops Q (o :: rest) a W := by
 obtain ⟨i0,hi,hzz⟩ := Option.map_eq_some_iff.1 hinfo
 simp only [Prod.mk.injEq] at hzz
 obtain ⟨hz0,hz1,hz2⟩ := hzz
 have hr := run_make (P := P) W t e i0 _ ht hi hz0 .i64 .i64 (m : Int) (m : Int) (by omega) (by omega) (by rw [hz2];omega) (by omega)
 simp only [Int.toNat_natCast] at hr
 rw [hz1] at hr
 have hc : madeCells (Value.slice none 0 0).cells (m * 1) = (List.replicate m (Value.slice none 0 0)).toArray := by
  apply Array.ext
  ·simp [size_madeCells]
  ·intro j h1 h2
   simp [madeCells,Value.cells,Nat.mod_one]
 rw [hc] at hr
 exact Kd.event_run hgd (by simp [execOp,ho,hx,hy,hr]) (h _ rfl _ (blk_new W _) (below_alloc (Below.refl _ _) _))
end
attribute [local go_sem] max2_int min2_int max_two min_two
set_option maxHeartbeats 30000000 in
set_option maxRecDepth 100000 in
theorem fill8 {M : Ted.Ms} {A B : Nat} (hs : Small M) (hA : A ≤ 24) (hB : B ≤ 24) (lamA : Ted.Lam M.la A) (lamB : Ted.Lam M.lb B) (hla : ∀ p,p < A → M.la p ≤ p) (hlb : ∀ q,q < B → M.lb q ≤ q)
  {i j : Nat} (hi : i < A) (hj : j < B) (o : Nat → Nat → Int) (fill : ∀ p q,M.la i ≤ p → p ≤ i → M.lb j ≤ q → q ≤ j → ¬ (M.la p = M.la i ∧ M.lb q = M.lb j) → o p q = Ted.TD M p q)
  (W : World) (ob cO : Nat) (os : Nat → Nat) (uA : Option Addr) (nA kA : Nat) (uB : Option Addr) (nB kB : Nat) (a2 a3 a4 a5 a6 : Addr) (ar : Nat → Addr) (cr : Nat → Nat) (c2 c3 c4 c5 c6 : Nat) (G : Nat → List Int) (ht : Rw W ob os A B G) (tr : TrI A B o G) (rs : RsI M A B (fun k => ∃ p,p < A ∧ k = os p) a2 a3 a4 a5 a6 ar cr W) :
  Calls Try.prog 155 #[.agg #[.slice uA nA kA,.slice uB nB kB,.slice (some a2) A c2,.slice (some a3) B c3,.slice (some a4) A c4,.slice (some a5) B c5,.slice (some a6) A c6],.slice (some ⟨ob,0,none⟩) A cO,.int .i64 (i : Int),.int .i64 (j : Int)] W fun e w' =>
   e = .returned (.tuple #[]) ∧ ∃ G' : Nat → List Int,Rw w' ob os A B G' ∧ TrI A B (trs M o i j (i + 1) 0) G' ∧ KeepS (fun k => ∃ p,p < A ∧ k = os p) W w' := by
 have hu := Try.underlying92
 obtain ⟨x,y,n1,m1,h,wd,nn,HH⟩ : ∃ x y n1 m1 h wd nn,Aside0 (Pr8 M A B i j x y n1 m1 h wd nn) := by
  have hxi := hla i hi
  have hyj := hlb j hj
  exact ⟨M.la i,M.lb j,i - M.la i,j - M.lb j,_,_,_,⟨⟨hA,hB,hi,hj,rfl,rfl,by omega,by omega,rfl,rfl,rfl,mul26 (by omega) (by omega),Nat.mul_pos (by omega) (by omega)⟩⟩⟩
 have e2 := rs.r2 i hi
 have e3 := rs.r3 j hj
 rw [← HH.out.hx] at e2
 rw [← HH.out.hy] at e3
 obtain ⟨hA',hB',hi',hj',hx,hy,ex,ey,eh,ew,en,nl,n0⟩ := HH.out
 have b1 : (0 ≤ (i : Int)) = True := eq_true (by omega)
 have b2 : ((i : Int) < (A : Int)) = True := eq_true (by omega)
 have b3 : (0 ≤ (j : Int)) = True := eq_true (by omega)
 have b4 : ((j : Int) < (B : Int)) = True := eq_true (by omega)
 have f1 : Vi _ _ := vi (w_sub (a := i) (b := x) (c := n1) ex (by omega))
 have f2 : Vi _ _ := vi (w_two (a := n1) (b := h) eh.symm (by omega))
 have f3 : Vi _ _ := vi (w_sub (a := j) (b := y) (c := m1) ey (by omega))
 have f4 : Vi _ _ := vi (w_two (a := m1) (b := wd) ew.symm (by omega))
 have HNL := Aside0.mk (show h ≤ 26 ∧ wd ≤ 26 ∧ 0 < h ∧ 0 < wd by omega)
 have HP := Aside0.mk (And.intro hs (And.intro hla (And.intro hlb (And.intro fill (And.intro lamA lamB)))))
 have RS := Aside0.mk rs
 have HT0 := Aside0.mk tr
 have HRW := Aside0.mk ht
 clear rs tr ht hA hB hi hj hA' hB' hi' hj' hx hy ex ey eh ew en nl n0 hs hla hlb fill lamA lamB
 go_enter Try.func155,Try.ntmps155
 go_upto_region 1 with ((with_reducible refine gate_dst (N := 4) rfl ?_);refine bx_ 4 #[.slice uA nA kA,.slice uB nB kB,.slice (some a2) A c2,.slice (some a3) B c3,.slice (some a4) A c4,.slice (some a5) B c5,.slice (some a6) A c6] 92 ?_;intro g hg w1 hb1 hb2;have HG := Aside0.mk hb1;have HG2 := Aside0.mk hb2;have HG3 := Aside0.mk hg;have y2 : w1.cell? ⟨g,2,none⟩ = some (.slice (some a2) A c2) := (blk_cell hb1 2).trans rfl;have y3 : w1.cell? ⟨g,3,none⟩ = some (.slice (some a3) B c3) := (blk_cell hb1 3).trans rfl;replace e2 := pw_cell_below hb2 e2;replace e3 := pw_cell_below hb2 e3;clear hb1 hb2 hg)
 simp only [Act.put,List.setIfInBounds_toArray,List.set_cons_zero,List.set_cons_succ]
 go_cut [8,9] from 19 (fun c8 c9 wx => c8 = .int .i64 (x : Int) ∧ c9 = .int .i64 (y : Int) ∧ wx = w1.drew)
 case first =>
  as_aux_lemma =>
   rename_i J1 K1 hJ1 hK1
   go_wp2
   go_still (by kernel_rfl)
   first | refine hK1 _ _ (Met.intro (hJ1 _ _ ?_)) | refine Met.intro (hJ1 _ _ ?_)
   repeat apply Exists.intro
   exact ⟨⟨rfl,rfl,rfl⟩,rfl⟩
 case rest =>
  obtain ⟨rfl,rfl,rfl⟩ := hcut
  clear y2 y3 e2 e3 b1 b2 b3 b4
  go_wp2_with ((with_reducible refine gate_dst (N := 33) rfl ?_);refine make_s rfl (N := 33) rfl 90 _ _ rfl h f2 f2 Try.underlying90 info25 (by have := HNL.out;omega) ?_;intro bo hbo w2 hf2 hb2;have HF := Aside0.mk hf2;have HF2 := Aside0.mk hb2;have HF3 := Aside0.mk hbo;clear hf2 hb2 hbo)
  have HMK : Aside0 (MkI W g bo (fun _ => 0) h wd 0 #[.slice uA nA kA,.slice uB nB kB,.slice (some a2) A c2,.slice (some a3) B c3,.slice (some a4) A c4,.slice (some a5) B c5,.slice (some a6) A c6] w2) := by
   have l1 := blk_lt HG.out
   have e1 := HG3.out
   have e2 : bo = w1.heap.size := HF3.out
   have hb : Below w1.heap.size w1 w2 := below_step (W := w1.drew) (below_drew (Below.refl _ _)) HF2.out
   exact ⟨⟨blk_below HG.out hb,by rw [tops_none];exact HF.out,fun r hr => absurd hr (Nat.not_lt_zero _),fun r hr => absurd hr (Nat.not_lt_zero _),fun r s _ hr => absurd hr (Nat.not_lt_zero _),below_step HG2.out hb,by omega,by omega⟩⟩
  clear HG HG2 HG3 HF HF2 HF3
  go_loopg [36] h (fun gg v36 wr => ∃ (k : Nat) (bs : Nat → Nat),v36 = .int .i64 (k : Int) ∧ k ≤ h ∧ h - k ≤ gg ∧ Aside0 (MkI W g bo bs h wd k #[.slice uA nA kA,.slice uB nB kB,.slice (some a2) A c2,.slice (some a3) B c3,.slice (some a4) A c4,.slice (some a5) B c5,.slice (some a6) A c6] wr))
  case atStart => exact ⟨0,_,rfl,Nat.zero_le _,by omega,HMK⟩
  case round =>
   clear HMK
   obtain ⟨k,bs,rfl,hk1,hgg,HMK⟩ := hrel
   by_cases hk : k < h
   ·have b1 : ((k : Int) < (h : Int)) = True := eq_true (by omega)
    have b2 : (0 ≤ (k : Int)) = True := eq_true (by omega)
    have g1 : Vi _ _ := vi (w_inc (a := k) (b := k + 1) rfl (by have := HNL.out;omega))
    have HK := Aside0.mk (And.intro hk1 (And.intro hgg hk))
    clear hk1 hgg hk
    go_wp2_with ((with_reducible refine gate_dst (N := 45) rfl ?_);refine make_w rfl (N := 45) rfl 25 _ _ rfl wd f4 f4 Try.underlying25 info3 (by have := HNL.out;omega) ?_;intro b hb w3 hf3 hb3;have t1 := (blk_cell (blk_below HMK.out.top hb3) k).trans (tops_at HK.out.2.2);rw [if_neg (Nat.lt_irrefl _)] at t1;have t2 := blk_frozen (blk_below HMK.out.top hb3) k;replace HMK := Aside0.mk (HMK.out.step HK.out.2.2 hb hf3 hb3);clear hb hf3 hb3)
    obtain ⟨hk1,hgg,hk⟩ := HK.out
    go_roundg (h - (k + 1))
    case measure => omega
    case rel => exact ⟨k + 1,_,(by first | rfl | exact g1 | exact (congrArg (Value.int .i64) (i64_w _)).trans g1),by omega,Nat.le_refl _,HMK⟩
   ·obtain rfl : h = k := by omega
    have b1 : ((h : Int) < (h : Int)) = False := eq_false (by omega)
    clear hk hk1 hgg
    go_wp2
    clear b1
    have HZ := Aside0.mk (HMK.out.done HRW.out RS.out)
    clear HMK
    have HT : Aside0 (TabI M x y h wd (fun u v => v = 0 ∧ u ≤ 0) (fun _ => List.replicate wd 0)) := ⟨⟨fun u v hu hv hh => by
     obtain ⟨rfl,hu0⟩ := hh
     obtain rfl : u = 0 := by omega
     rw [Nat.add_zero,Nat.add_zero,Ted.D_none M (Nat.lt_irrefl x) (Nat.lt_irrefl y),List.getD_eq_getElem?_getD,List.getElem?_replicate,if_pos hv]
     rfl⟩⟩
    go_loopg [12] (n1 + 1) (fun gg v12 wr => ∃ (u r : Nat) (F : Nat → List Int),Aside0 (r = u + 1) ∧ u ≤ n1 + 1 ∧ n1 + 1 - u ≤ gg ∧ v12 = .int .i64 (r : Int) ∧ Aside0 (ZI M A B W g bo ob bs os (.slice uA nA kA) (.slice uB nB kB) a2 a3 a4 a5 a6 ar cr c2 c3 c4 c5 c6 h wd F G wr) ∧ Aside0 (TabI M x y h wd (fun u' v' => v' = 0 ∧ u' ≤ u) F))
    case atStart => exact ⟨0,1,_,⟨rfl⟩,Nat.zero_le _,by omega,rfl,HZ,HT⟩
    case round =>
     as_aux_lemma =>
      clear HZ HT
      obtain ⟨u,r,F,hr,hu1,hgg,rfl,HZ,HT⟩ := hrel
      by_cases hun : u ≤ n1
      ·obtain ⟨hA,hB,hi,hj,hx,hy,ex,ey,eh,ew,en,nl,n0⟩ := HH.out
       have hr' := hr.out
       obtain ⟨p,hp⟩ : ∃ p,p = x + u := ⟨_,rfl⟩
       obtain ⟨pn,hpn⟩ : ∃ p,p = x + r := ⟨_,rfl⟩
       obtain ⟨rn,hrn⟩ : ∃ z,z = r + 1 := ⟨_,rfl⟩
       have e4 := HZ.out.rs.r4 p (by omega)
       have t0 := HZ.out.f.cell0 (r := r) (by omega)
       have t1 := HZ.out.f.cell0 (r := u) (by omega)
       obtain ⟨z,hz⟩ : ∃ z,z = Ted.D M x p y y := ⟨_,rfl⟩
       obtain ⟨z2,hz2⟩ : ∃ z,z = Ted.D M x (p + 1) y y := ⟨_,rfl⟩
       have q1 : wr.cell? ⟨bs u,0,none⟩ = some (.int .i64 z) := by
        have h1 := HZ.out.f.cell (r := u) (s := 0) (by omega) (by omega)
        have h2 := HT.out.val u 0 (by omega) (by omega) ⟨rfl,Nat.le_refl _⟩
        rw [Nat.add_zero,← hp,← hz] at h2
        rw [h1,h2]
       have g1 := iw (w_dec (a := u) (b := r) hr'.symm (by omega))
       have g2 := iw (w_add (a := x) (b := r) hpn.symm (by omega))
       have g3 := iw (w_dec (a := p) (b := pn) (by omega) (by omega))
       have g4 : IntKind.i64.wrap (z + M.del p) = z2 := iw (by
        have h1 := D_small HP.out.1 x p y y
        have h2 := HP.out.1.del p
        rw [wid (by omega) (by omega),hz,hz2,Ted.D_a M (j := p + 1) (by omega) (by omega)]
        rfl)
       have g5 : Vi _ _ := vi (w_inc (a := r) (b := rn) hrn.symm (by omega))
       have b1 : ((r : Int) < (h : Int)) = True := eq_true (by omega)
       have b2 : (0 ≤ (r : Int)) = True := eq_true (by omega)
       have b3 : (0 ≤ (u : Int)) = True := eq_true (by omega)
       have b4 : ((u : Int) < (h : Int)) = True := eq_true (by omega)
       have b5 : (0 ≤ (p : Int)) = True := eq_true (by omega)
       have b6 : ((p : Int) < (A : Int)) = True := eq_true (by omega)
       have b7 : ((0 : Int) < (wd : Int)) = True := eq_true (by omega)
       have b8 : (0 < wd) = True := eq_true (by omega)
       have HI := Aside0.mk (And.intro hu1 (And.intro hgg (And.intro hun (And.intro hp (And.intro hpn (And.intro hrn (And.intro hz2 (show r < h by omega))))))))
       obtain ⟨y2,y3,y4,y5,y6⟩ := HZ.out.boxes
       clear hA hB hi hj hx hy ex ey eh ew en nl n0 hr' hu1 hgg hun hp hpn hrn hz hz2 y2 y3 y5 y6
       go_wp2
       go_still_tail 21,(by kernel_rfl)
       change wpList _ _ _ _ _ wr.drew
       replace HZ := Aside0.mk HZ.out.drew
       clear y4 e4 t0 t1 q1
       generalize wr.drew = w5 at HZ ⊢
       have q2 := HZ.out.f.cell (r := r) (s := 0) HI.out.2.2.2.2.2.2.2 HNL.out.2.2.2
       have q3 := HZ.out.f.froz HI.out.2.2.2.2.2.2.2 0
       generalize (F r).getD 0 0 = z9 at q2
       go_wp2
       clear q2 q3
       replace HT : Aside0 (TabI M x y h wd (fun u' v' => v' = 0 ∧ u' ≤ r) (fun u => if u = r then (F r).set 0 z2 else F u)) := ⟨HT.out.put (HZ.out.f.len r HI.out.2.2.2.2.2.2.2) HNL.out.2.2.2 (by
        rw [HI.out.2.2.2.2.2.2.1,Nat.add_zero,show p + 1 = x + r by have := HI.out;have := hr.out;omega];rfl) (fun u' v' _ _ hh => by have := hr.out;omega)⟩
       replace HZ := Aside0.mk (HZ.out.putf RS.out HI.out.2.2.2.2.2.2.2 0 z2)
       obtain ⟨hu1,hgg,hun,hp,hpn,hrn,_,_⟩ := HI.out
       have hr' := hr.out
       go_roundg (n1 - u)
       case measure => omega
       case rel => exact ⟨r,rn,_,⟨hrn⟩,by omega,by omega,(by first | rfl | exact g5 | exact (congrArg (Value.int .i64) (i64_w _)).trans g5),HZ,HT⟩
      ·obtain rfl : u = n1 + 1 := by omega
       obtain ⟨hA,hB,hi,hj,hx,hy,ex,ey,eh,ew,en,nl,n0⟩ := HH.out
       obtain rfl : r = h := by have := hr.out;omega
       have b1 : ((r : Int) < (r : Int)) = False := eq_false (by omega)
       clear hA hB hi hj hx hy ex ey eh ew en nl n0 hr hu1 hgg hun
       go_wp2
       clear b1
       go_loopg [13] (m1 + 1) (fun gg v13 wr => ∃ (v s : Nat) (F : Nat → List Int),Aside0 (s = v + 1) ∧ v ≤ m1 + 1 ∧ m1 + 1 - v ≤ gg ∧ v13 = .int .i64 (s : Int) ∧ Aside0 (ZI M A B W g bo ob bs os (.slice uA nA kA) (.slice uB nB kB) a2 a3 a4 a5 a6 ar cr c2 c3 c4 c5 c6 r wd F G wr) ∧ Aside0 (TabI M x y r wd (fun u' v' => v' = 0 ∨ u' = 0 ∧ v' ≤ v) F))
       case atStart => exact ⟨0,1,_,⟨rfl⟩,Nat.zero_le _,by omega,rfl,HZ,⟨HT.out.mono (fun u' v' hu' _ hh => by have := HH.out.eh;omega)⟩⟩
       case round =>
        as_aux_lemma =>
         clear HZ HT
         obtain ⟨v,s,F,hs,hv1,hgg,rfl,HZ,HT⟩ := hrel
         have t0 := HZ.out.f.cell0 (r := 0) HNL.out.2.2.1
         have b9 : ((0 : Int) < (r : Int)) = True := eq_true (by have := HNL.out;omega)
         have b10 : (0 < r) = True := eq_true HNL.out.2.2.1
         by_cases hvn : v ≤ m1
         ·obtain ⟨hA,hB,hi,hj,hx,hy,ex,ey,eh,ew,en,nl,n0⟩ := HH.out
          have hs' := hs.out
          obtain ⟨q,hq⟩ : ∃ q,q = y + v := ⟨_,rfl⟩
          obtain ⟨qn,hqn⟩ : ∃ q,q = y + s := ⟨_,rfl⟩
          obtain ⟨sn,hsn⟩ : ∃ z,z = s + 1 := ⟨_,rfl⟩
          have e5 := HZ.out.rs.r5 q (by omega)
          obtain ⟨z,hz⟩ : ∃ z,z = Ted.D M x x y q := ⟨_,rfl⟩
          obtain ⟨z2,hz2⟩ : ∃ z,z = Ted.D M x x y (q + 1) := ⟨_,rfl⟩
          have q1 : wr.cell? ⟨bs 0,v,none⟩ = some (.int .i64 z) := by
           have h1 := HZ.out.f.cell (r := 0) (s := v) (by omega) (by omega)
           have h2 := HT.out.val 0 v (by omega) (by omega) (.inr ⟨rfl,Nat.le_refl _⟩)
           rw [Nat.add_zero,← hq,← hz] at h2
           rw [h1,h2]
          have g1 := iw (w_dec (a := v) (b := s) hs'.symm (by omega))
          have g2 := iw (w_add (a := y) (b := s) hqn.symm (by omega))
          have g3 := iw (w_dec (a := q) (b := qn) (by omega) (by omega))
          have g4 : IntKind.i64.wrap (z + M.ins q) = z2 := iw (by
           have h1 := D_small HP.out.1 x x y q
           have h2 := HP.out.1.ins q
           rw [wid (by omega) (by omega),hz,hz2,Ted.D_b M (i := x) (j := x) (k := y) (m := q + 1) (by omega) (by omega)]
           rfl)
          have g5 : Vi _ _ := vi (w_inc (a := s) (b := sn) hsn.symm (by omega))
          have b1 : ((s : Int) < (wd : Int)) = True := eq_true (by omega)
          have b2 : (0 ≤ (s : Int)) = True := eq_true (by omega)
          have b3 : (0 ≤ (v : Int)) = True := eq_true (by omega)
          have b4 : ((v : Int) < (wd : Int)) = True := eq_true (by omega)
          have b5 : (0 ≤ (q : Int)) = True := eq_true (by omega)
          have b6 : ((q : Int) < (B : Int)) = True := eq_true (by omega)
          have HI := Aside0.mk (And.intro hv1 (And.intro hgg (And.intro hvn (And.intro hq (And.intro hqn (And.intro hsn (And.intro hz2 (show s < wd by omega))))))))
          obtain ⟨y2,y3,y4,y5,y6⟩ := HZ.out.boxes
          clear hA hB hi hj hx hy ex ey eh ew en nl n0 hs' hv1 hgg hvn hq hqn hsn hz hz2 y2 y3 y4 y6
          go_wp2
          go_still_tail 21,(by kernel_rfl)
          change wpList _ _ _ _ _ wr.drew
          replace HZ := Aside0.mk HZ.out.drew
          clear y5 e5 t0 q1
          generalize wr.drew = w5 at HZ ⊢
          have q2 := HZ.out.f.cell (r := 0) (s := s) HNL.out.2.2.1 HI.out.2.2.2.2.2.2.2
          have q3 := HZ.out.f.froz HNL.out.2.2.1 s
          generalize (F 0).getD s 0 = z9 at q2
          go_wp2
          clear q2 q3
          replace HT : Aside0 (TabI M x y r wd (fun u' v' => v' = 0 ∨ u' = 0 ∧ v' ≤ s) (fun u => if u = 0 then (F 0).set s z2 else F u)) := ⟨HT.out.put (HZ.out.f.len 0 HNL.out.2.2.1) HI.out.2.2.2.2.2.2.2 (by
           rw [HI.out.2.2.2.2.2.2.1,Nat.add_zero,show q + 1 = y + s by have := HI.out;have := hs.out;omega];rfl) (fun u' v' _ _ hh => by have := hs.out;omega)⟩
          replace HZ := Aside0.mk (HZ.out.putf RS.out HNL.out.2.2.1 s z2)
          obtain ⟨hv1,hgg,hvn,hq,hqn,hsn,_,_⟩ := HI.out
          have hs' := hs.out
          go_roundg (m1 - v)
          case measure => omega
          case rel => exact ⟨s,sn,_,⟨hsn⟩,by omega,by omega,(by first | rfl | exact g5 | exact (congrArg (Value.int .i64) (i64_w _)).trans g5),HZ,HT⟩
         ·obtain rfl : v = m1 + 1 := by omega
          obtain ⟨hA,hB,hi,hj,hx,hy,ex,ey,eh,ew,en,nl,n0⟩ := HH.out
          obtain rfl : s = wd := by have := hs.out;omega
          have b1 : ((s : Int) < (s : Int)) = False := eq_false (by omega)
          clear hA hB hi hj hx hy ex ey eh ew en nl n0 hs hv1 hgg hvn
          go_wp2
          clear b1 t0
          go_loopg [14] (n1 + 1) (fun gg v14 wr => ∃ (u rr : Nat) (F G' : Nat → List Int),Aside0 (rr = u + 1) ∧ u ≤ n1 + 1 ∧ n1 + 1 - u ≤ gg ∧ v14 = .int .i64 (rr : Int) ∧ Aside0 (ZI M A B W g bo ob bs os (.slice uA nA kA) (.slice uB nB kB) a2 a3 a4 a5 a6 ar cr c2 c3 c4 c5 c6 r s F G' wr) ∧ Aside0 (TabI M x y r s (fun u' v' => v' = 0 ∨ u' ≤ u) F) ∧ Aside0 (TrI A B (trs M o i j (x + u) 0) G'))
          case atStart => exact ⟨0,1,_,_,⟨rfl⟩,Nat.zero_le _,by omega,rfl,HZ,⟨HT.out.mono (fun u' v' _ hv' hh => by have := HH.out.ew;omega)⟩,⟨HT0.out.ext fun p' q' _ _ => by rw [Nat.add_zero];exact trs_start M o HH.out.hx p' q'⟩⟩
          case round =>
           as_aux_lemma =>
            clear HZ HT
            obtain ⟨u,rr,F,G',hr,hu1,hgg,rfl,HZ,HT,HU⟩ := hrel
            by_cases hun : u ≤ n1
            ·have b1 : ((rr : Int) < (r : Int)) = True := eq_true (by have := HH.out.eh;have := hr.out;omega)
             obtain ⟨p,hp⟩ : ∃ p,p = x + u := ⟨_,rfl⟩
             obtain ⟨rn,hrn⟩ : ∃ z,z = rr + 1 := ⟨_,rfl⟩
             have g9 : Vi _ _ := vi (w_inc (a := rr) (b := rn) hrn.symm (by have := HNL.out;have := HH.out.eh;have := hr.out;omega))
             rw [← hp] at HU
             have HI := Aside0.mk (And.intro hu1 (And.intro hgg (And.intro hun (And.intro hp hrn))))
             clear hu1 hgg hun hp hrn
             go_wp2
             clear b1
             go_loopg [15] (m1 + 1) (fun gg v15 wr => ∃ (v ss : Nat) (F G' : Nat → List Int),Aside0 (ss = v + 1) ∧ v ≤ m1 + 1 ∧ m1 + 1 - v ≤ gg ∧ v15 = .int .i64 (ss : Int) ∧ Aside0 (ZI M A B W g bo ob bs os (.slice uA nA kA) (.slice uB nB kB) a2 a3 a4 a5 a6 ar cr c2 c3 c4 c5 c6 r s F G' wr) ∧ Aside0 (TabI M x y r s (fun u' v' => v' = 0 ∨ u' ≤ u ∨ u' = u + 1 ∧ v' ≤ v) F) ∧ Aside0 (TrI A B (trs M o i j p (y + v)) G'))
             case atStart => exact ⟨0,1,_,_,⟨rfl⟩,Nat.zero_le _,by omega,rfl,HZ,⟨HT.out.mono (fun u' v' _ _ hh => by omega)⟩,⟨HU.out.ext fun p' q' _ _ => by rw [Nat.add_zero];exact trs_line M o HH.out.hy p' q'⟩⟩
             case round =>
              as_aux_lemma =>
               clear HZ HT HU
               obtain ⟨v,ss,F,G',hs,hv1,hgg,rfl,HZ,HT,HU⟩ := hrel
               have t0 := HZ.out.f.cell0 (r := 0) HNL.out.2.2.1
               have b9 : ((0 : Int) < (r : Int)) = True := eq_true (by have := HNL.out;omega)
               have b10 : (0 < r) = True := eq_true HNL.out.2.2.1
               by_cases hvn : v ≤ m1
               ·obtain ⟨hA,hB,hi,hj,hx,hy,ex,ey,eh,ew,en,nl,n0⟩ := HH.out
                have hr' := hr.out
                have hs' := hs.out
                have hp := HI.out.2.2.2.1
                have hun := HI.out.2.2.1
                obtain ⟨q,hq⟩ : ∃ q,q = y + v := ⟨_,rfl⟩
                obtain ⟨qn,hqn⟩ : ∃ z,z = q + 1 := ⟨_,rfl⟩
                obtain ⟨sn,hsn⟩ : ∃ z,z = ss + 1 := ⟨_,rfl⟩
                obtain ⟨pn,hpn⟩ : ∃ z,z = p + 1 := ⟨_,rfl⟩
                obtain ⟨lx,lp,ly,lq,z1,z2,z3,mm,d1,d2,d3,hd1,hd2,g1,g2,g3,hboth,hother⟩ := cell8 HH.out HP.out.1 HP.out.2.2.2.2.1 HP.out.2.2.2.2.2 HP.out.2.1 HP.out.2.2.1 (u := u) (v := v) hp.symm (by omega) hq.symm (by omega)
                have rfill := HP.out.2.2.2.1
                have e4 := HZ.out.rs.r4 p (by omega)
                have e5 := HZ.out.rs.r5 q (by omega)
                have t1 := HZ.out.f.cell0 (r := u) (by omega)
                have t2 := HZ.out.f.cell0 (r := rr) (by omega)
                have q1 : wr.cell? ⟨bs u,ss,none⟩ = some (.int .i64 d1) := by
                 have h1 := HZ.out.f.cell (r := u) (s := ss) (by omega) (by omega)
                 have h2 := HT.out.val u ss (by omega) (by omega) (by omega)
                 rw [← hp,show y + ss = q + 1 by omega,← hd1] at h2
                 rw [h1,h2]
                have q2 : wr.cell? ⟨bs rr,v,none⟩ = some (.int .i64 d2) := by
                 have h1 := HZ.out.f.cell (r := rr) (s := v) (by omega) (by omega)
                 have h2 := HT.out.val rr v (by omega) (by omega) (by omega)
                 rw [show x + rr = p + 1 by omega,← hq,← hd2] at h2
                 rw [h1,h2]
                have g4 : Vi _ _ := vi (w_add (a := x) (b := rr) (c := pn) (by omega) (by omega))
                have g5 : Vi _ _ := vi (w_dec (a := p) (b := pn) hpn.symm (by omega))
                have g6 : Vi _ _ := vi (w_add (a := y) (b := ss) (c := qn) (by omega) (by omega))
                have g7 : Vi _ _ := vi (w_dec (a := q) (b := qn) hqn.symm (by omega))
                have g8 := iw (w_dec (a := u) (b := rr) hr'.symm (by omega))
                have g10 := iw (w_dec (a := v) (b := ss) hs'.symm (by omega))
                have g11 : Vi _ _ := vi (w_inc (a := ss) (b := sn) hsn.symm (by omega))
                have b1 : ((ss : Int) < (s : Int)) = True := eq_true (by omega)
                have b2 : (0 ≤ (ss : Int)) = True := eq_true (by omega)
                have b3 : (0 ≤ (v : Int)) = True := eq_true (by omega)
                have b4 : ((v : Int) < (s : Int)) = True := eq_true (by omega)
                have b5 : (0 ≤ (u : Int)) = True := eq_true (by omega)
                have b6 : ((u : Int) < (r : Int)) = True := eq_true (by omega)
                have b7 : (0 ≤ (rr : Int)) = True := eq_true (by omega)
                have b8 : ((rr : Int) < (r : Int)) = True := eq_true (by omega)
                have b11 : (0 ≤ (p : Int)) = True := eq_true (by omega)
                have b12 : ((p : Int) < (A : Int)) = True := eq_true (by omega)
                have b13 : (0 ≤ (q : Int)) = True := eq_true (by omega)
                have b14 : ((q : Int) < (B : Int)) = True := eq_true (by omega)
                have HI2 := Aside0.mk (And.intro hv1 (And.intro hgg (And.intro hvn (And.intro hq (And.intro hqn (And.intro hsn (And.intro hpn (show u < r ∧ rr < r ∧ v < s ∧ ss < s ∧ p < A ∧ q < B ∧ p ≤ i ∧ q ≤ j by omega))))))))
                have HI3 := Aside0.mk (And.intro lx (And.intro lp (And.intro ly (And.intro lq (And.intro hboth (And.intro hother rfill))))))
                obtain ⟨y2,y3,y4,y5,y6⟩ := HZ.out.boxes
                clear hA hB hi hj hx hy ex ey eh ew en nl n0 hr' hs' hp hun hv1 hgg hvn hq hqn hsn hpn lx lp ly lq hd1 hd2 hboth hother rfill y2 y3 y6
                go_upto_region 22 with fail
                go_cut [16,17] from 110 to 233 (fun c16 c17 wx => c16 = .int .i64 (p : Int) ∧ c17 = .int .i64 (q : Int) ∧ wr = wx)
                case first =>
                 as_aux_lemma =>
                  rename_i J1 K1 hJ1 hK1
                  go_wp2_with fail
                  first | refine hK1 _ _ (Met.intro (hJ1 _ _ ?_)) | refine Met.intro (hJ1 _ _ ?_)
                  repeat apply Exists.intro
                  exact ⟨⟨(by first | rfl | exact g5),(by first | rfl | exact g7),rfl⟩,rfl⟩
                case' rest => obtain ⟨rfl,rfl,rfl⟩ := hcut
                clear g4 g5 g6 g7
                go_upto_region 23 with fail
                clear g11 t0 b9 b10 f1 f2 f3 f4
                go_cut [18] from 110 to 233 (fun c18 wx => c18 = .int .i64 mm ∧ wx = wr.drew)
                case first =>
                 as_aux_lemma =>
                  rename_i J1 K1 hJ1 hK1
                  go_wp2
                  go_still (by kernel_rfl)
                  first | refine hK1 _ _ (Met.intro (hJ1 _ _ ?_)) | refine Met.intro (hJ1 _ _ ?_)
                  repeat apply Exists.intro
                  exact ⟨⟨rfl,rfl⟩,rfl⟩
                case rest =>
                 as_aux_lemma =>
                  obtain ⟨rfl,rfl⟩ := hcut
                  replace HZ := Aside0.mk HZ.out.drew
                  clear y4 y5 e4 e5 t1 t2 q1 q2 g1 g2 g3 g8 g10 b1 b2 b3 b4 b5 b6 b7 b8 b11 b12 b13 b14
                  generalize wr.drew = w5 at HZ ⊢
                  obtain ⟨xp,hxp⟩ : ∃ n,n = M.la p := ⟨_,rfl⟩
                  obtain ⟨yq,hyq⟩ : ∃ n,n = M.lb q := ⟨_,rfl⟩
                  obtain ⟨dd,hdd⟩ : ∃ d,d = Ted.D M x (p + 1) y (q + 1) := ⟨_,rfl⟩
                  obtain ⟨lx,lp,ly,lq,hboth,hother,rfill⟩ := HI3.out
                  rw [← hdd,← hxp,← hyq] at hboth hother
                  rw [← hxp] at lx lp
                  rw [← hyq] at ly lq
                  obtain ⟨hA,hB,hi,hj,hx,hy,ex,ey,eh,ew,en,nl,n0⟩ := HH.out
                  obtain ⟨hv1,hgg,hvn,hq,hqn,hsn,hpn,hb⟩ := HI2.out
                  have b11 : (0 ≤ (p : Int)) = True := eq_true (by omega)
                  have b12 : ((p : Int) < (A : Int)) = True := eq_true (by omega)
                  have b13 : (0 ≤ (q : Int)) = True := eq_true (by omega)
                  have b14 : ((q : Int) < (B : Int)) = True := eq_true (by omega)
                  have e2p := HZ.out.rs.r2 p (by omega)
                  have e3q := HZ.out.rs.r3 q (by omega)
                  rw [← hxp] at e2p
                  rw [← hyq] at e3q
                  have hp := HI.out.2.2.2.1
                  have HX := Aside0.mk (And.intro hxp (And.intro hyq hdd))
                  have HI3b := Aside0.mk (And.intro hboth (And.intro hother (show ¬ (xp = x ∧ yq = y) → o p q = Ted.TD M p q from fun hc => rfill p q (by omega) (by omega) (by omega) (by omega) (by rw [← hxp,← hyq,← hx,← hy];exact hc))))
                  have HI6 := Aside0.mk (And.intro lx (And.intro lp (And.intro ly lq)))
                  have H3 := Aside0.mk (show (xp = x ∧ yq = y) ∨ ¬ xp = x ∨ (xp = x ∧ ¬ yq = y) by omega)
                  obtain ⟨y2,y3,y4,y5,y6⟩ := HZ.out.boxes
                  clear hboth hother rfill hA hB hi hj hx hy ex ey eh ew en nl n0 hv1 hgg hvn hq hqn hsn hpn hb lx lp ly lq hxp hyq hdd hp y4 y5 y6
                  go_upto_region 24 with fail
                  go_cut [170] from 110 to 233 (fun c wx => c = .bool (decide (xp = x ∧ yq = y)) ∧ wx = w5)
                  case first =>
                   as_aux_lemma =>
                    rename_i J1 K1 hJ1 hK1
                    rcases H3.out with ⟨hc1,hc2⟩ | hcx | ⟨hcx,hcy⟩
                    ·have HDEC := Aside0.mk (show decide (xp = x ∧ yq = y) = true from decide_eq_true ⟨hc1,hc2⟩)
                     rw [hc1] at e2p
                     rw [hc2] at e3q
                     clear hc1 hc2
                     go_wp2_with fail
                     first | refine hK1 _ _ (Met.intro (hJ1 _ _ ?_)) | refine Met.intro (hJ1 _ _ ?_)
                     repeat apply Exists.intro
                     exact ⟨⟨congrArg Value.bool HDEC.out.symm,rfl⟩,rfl⟩
                    ·have m1 := (beq_eq_false_iff_ne (a := (xp : Int)) (b := (x : Int))).2 (by omega)
                     have m2 : ((xp : Int) = (x : Int)) = False := eq_false (by omega)
                     have m3 : decide ((xp : Int) = (x : Int)) = false := decide_eq_false (by omega)
                     have HDEC := Aside0.mk (show decide (xp = x ∧ yq = y) = false from decide_eq_false (fun h => hcx h.1))
                     clear hcx
                     go_wp2_with fail
                     first | refine hK1 _ _ (Met.intro (hJ1 _ _ ?_)) | refine Met.intro (hJ1 _ _ ?_)
                     repeat apply Exists.intro
                     exact ⟨⟨congrArg Value.bool HDEC.out.symm,rfl⟩,rfl⟩
                    ·have m1 := (beq_eq_false_iff_ne (a := (yq : Int)) (b := (y : Int))).2 (by omega)
                     have m2 : ((yq : Int) = (y : Int)) = False := eq_false (by omega)
                     have m3 : decide ((yq : Int) = (y : Int)) = false := decide_eq_false (by omega)
                     have HDEC := Aside0.mk (show decide (xp = x ∧ yq = y) = false from decide_eq_false (fun h => hcy h.2))
                     rw [hcx] at e2p
                     clear hcx hcy
                     go_wp2_with fail
                     first | refine hK1 _ _ (Met.intro (hJ1 _ _ ?_)) | refine Met.intro (hJ1 _ _ ?_)
                     repeat apply Exists.intro
                     exact ⟨⟨congrArg Value.bool HDEC.out.symm,rfl⟩,rfl⟩
                  case rest =>
                   as_aux_lemma =>
                    obtain ⟨rfl,rfl⟩ := hcut
                    clear e2p e3q y2 y3
                    generalize wc = w6 at HZ ⊢
                    go_upto_if 170 with fail
                    go_cut [18] from 110 to 233 (fun c18 wx => ∃ G2 : Nat → List Int,c18 = .int .i64 dd ∧ Aside0 (ZI M A B W g bo ob bs os (.slice uA nA kA) (.slice uB nB kB) a2 a3 a4 a5 a6 ar cr c2 c3 c4 c5 c6 r s F G2 wx) ∧ Aside0 (TrI A B (trs M o i j p qn) G2))
                    case first =>
                     as_aux_lemma =>
                      rename_i J1 K1 hJ1 hK1
                      obtain ⟨hA,hB,hi,hj,hx,hy,ex,ey,eh,ew,en,nl,n0⟩ := HH.out
                      obtain ⟨hv1,hgg,hvn,hq,hqn,hsn,hpn,hb⟩ := HI2.out
                      obtain ⟨hxp,hyq,hdd⟩ := HX.out
                      obtain ⟨lx,lp,ly,lq⟩ := HI6.out
                      have hp := HI.out.2.2.2.1
                      have hr' := hr.out
                      have hs' := hs.out
                      have t5 := HZ.out.t.cell0 (r := p) (by omega)
                      have b1 : (0 ≤ (u : Int)) = True := eq_true (by omega)
                      have b2 : ((u : Int) < (r : Int)) = True := eq_true (by omega)
                      have b3 : (0 ≤ (v : Int)) = True := eq_true (by omega)
                      have b4 : ((v : Int) < (s : Int)) = True := eq_true (by omega)
                      by_cases hc : xp = x ∧ yq = y
                      ·obtain ⟨hd3,g3,g27⟩ := HI3b.out.1 hc
                       rw [decide_eq_true hc]
                       obtain ⟨hc1,hc2⟩ := hc
                       have t1 := HZ.out.f.cell0 (r := u) (by omega)
                       have q4 : w6.cell? ⟨bs u,v,none⟩ = some (.int .i64 d3) := by
                        have h1 := HZ.out.f.cell (r := u) (s := v) (by omega) (by omega)
                        have h2 := HT.out.val u v (by omega) (by omega) (by omega)
                        rw [← hp,← hq,← hd3] at h2
                        rw [h1,h2]
                       have e6 := HZ.out.rs.r6 p (by omega)
                       have e7 := HZ.out.rs.r7 p q (by omega) (by omega)
                       have g8 := iw (w_dec (a := u) (b := rr) hr'.symm (by omega))
                       have g10 := iw (w_dec (a := v) (b := ss) hs'.symm (by omega))
                       have HC5 := Aside0.mk (And.intro hc1 hc2)
                       obtain ⟨y2,y3,y4,y5,y6⟩ := HZ.out.boxes
                       clear hA hB hi hj hx hy ex ey eh ew en nl n0 hv1 hgg hvn hq hqn hsn hpn hb hxp hyq hdd lx lp ly lq hp hr' hs' hc1 hc2 hd3 y2 y3 y4 y5
                       go_wp2
                       go_still (by kernel_rfl)
                       change Exit.then _ _ _ _ (World.drew w6)
                       replace HZ := Aside0.mk HZ.out.drew
                       clear y6 t1 t5 q4 e6 e7 g3 g27 g8 g10 b1 b2 b3 b4
                       generalize w6.drew = w7 at HZ ⊢
                       have hb := HI2.out.2.2.2.2.2.2.2
                       have t5 := HZ.out.t.cell0 (r := p) hb.2.2.2.2.1
                       have t6 := HZ.out.t.cell (r := p) (s := q) hb.2.2.2.2.1 hb.2.2.2.2.2.1
                       have t7 := HZ.out.t.froz hb.2.2.2.2.1 q
                       have hl := HZ.out.t.len p hb.2.2.2.2.1
                       have HL := Aside0.mk hl
                       replace HZ := Aside0.mk (HZ.out.putt RS.out hb.2.2.2.2.1 q dd)
                       generalize (G' p).getD q 0 = t9 at t6
                       clear hb hl
                       go_wp2_with fail
                       have HU2 : Aside0 (TrI A B (trs M o i j p qn) (fun u => if u = p then (G' p).set q dd else G' u)) := by
                        obtain ⟨hA,hB,hi,hj,hx,hy,ex,ey,eh,ew,en,nl,n0⟩ := HH.out
                        obtain ⟨hv1,hgg,hvn,hq,hqn,hsn,hpn,hb⟩ := HI2.out
                        obtain ⟨hxp,hyq,hdd⟩ := HX.out
                        obtain ⟨hc1,hc2⟩ := HC5.out
                        obtain ⟨lx,lp,ly,lq⟩ := HI6.out
                        have hUu := HU.out
                        rw [← hq] at hUu
                        refine ⟨hUu.put HL.out (by omega) ?_ (fun p' q' hh => by rw [hqn];exact trs_same M o p' q' hh)⟩
                        rw [hqn,trs_set M o (by omega) (by omega) (by omega) (by omega) (by omega) (by omega),hdd,hx,hy]
                       first | refine hK1 _ _ (Met.intro (hJ1 _ _ ?_)) | refine Met.intro (hJ1 _ _ ?_)
                       repeat apply Exists.intro
                       exact ⟨⟨_,rfl,HZ,HU2⟩,rfl⟩
                      ·obtain ⟨hd3,g3,g27⟩ := HI3b.out.2.1 hc
                       have htd := HI3b.out.2.2 hc
                       rw [decide_eq_false hc]
                       obtain ⟨ee,hee⟩ : ∃ z,z = xp - x := ⟨_,rfl⟩
                       obtain ⟨ff,hff⟩ : ∃ z,z = yq - y := ⟨_,rfl⟩
                       have t1 := HZ.out.f.cell0 (r := ee) (by omega)
                       have q6 : w6.cell? ⟨bs ee,ff,none⟩ = some (.int .i64 d3) := by
                        have h1 := HZ.out.f.cell (r := ee) (s := ff) (by omega) (by omega)
                        have h2 := HT.out.val ee ff (by omega) (by omega) (by omega)
                        rw [show x + ee = xp by omega,show y + ff = yq by omega,← hd3] at h2
                        rw [h1,h2]
                       have q7 : w6.cell? ⟨os p,q,none⟩ = some (.int .i64 (Ted.TD M p q)) := by
                        have h1 := HZ.out.t.cell (r := p) (s := q) (by omega) (by omega)
                        have h2 := HU.out.val p q (by omega) (by omega)
                        rw [← hq,trs_here,htd] at h2
                        rw [h1,h2]
                       have e2p := HZ.out.rs.r2 p (by omega)
                       have e3q := HZ.out.rs.r3 q (by omega)
                       rw [← hxp] at e2p
                       rw [← hyq] at e3q
                       have g8 := iw (w_sub (a := xp) (b := x) (c := ee) (by omega) (by omega))
                       have g10 := iw (w_sub (a := yq) (b := y) (c := ff) (by omega) (by omega))
                       have b5 : (0 ≤ (ee : Int)) = True := eq_true (by omega)
                       have b6 : ((ee : Int) < (r : Int)) = True := eq_true (by omega)
                       have b7 : (0 ≤ (ff : Int)) = True := eq_true (by omega)
                       have b8 : ((ff : Int) < (s : Int)) = True := eq_true (by omega)
                       have HC5 := Aside0.mk hc
                       obtain ⟨y2,y3,y4,y5,y6⟩ := HZ.out.boxes
                       clear hA hB hi hj hx hy ex ey eh ew en nl n0 hv1 hgg hvn hq hqn hsn hpn hb hxp hyq hdd lx lp ly lq hp hr' hs' hc hd3 htd hee hff y4 y5 y6
                       go_wp2
                       go_still (by kernel_rfl)
                       change Exit.then _ _ _ _ (World.drew w6)
                       replace HZ := Aside0.mk HZ.out.drew
                       clear y2 y3 t1 t5 q6 q7 e2p e3q g3 g27 g8 g10 b1 b2 b3 b4 b5 b6 b7 b8
                       generalize w6.drew = w7 at HZ ⊢
                       have HU2 : Aside0 (TrI A B (trs M o i j p qn) G') := by
                        obtain ⟨hA,hB,hi,hj,hx,hy,ex,ey,eh,ew,en,nl,n0⟩ := HH.out
                        obtain ⟨hv1,hgg,hvn,hq,hqn,hsn,hpn,hb⟩ := HI2.out
                        obtain ⟨hxp,hyq,hdd⟩ := HX.out
                        have hcc := HC5.out
                        rw [hxp,hyq,hx,hy] at hcc
                        have hUu := HU.out
                        rw [← hq] at hUu
                        exact ⟨hUu.ext fun p' q' _ _ => by rw [hqn];exact trs_skip M o hcc p' q'⟩
                       first | refine hK1 _ _ (Met.intro (hJ1 _ _ ?_)) | refine Met.intro (hJ1 _ _ ?_)
                       repeat apply Exists.intro
                       exact ⟨⟨_,rfl,HZ,HU2⟩,rfl⟩
                    case rest =>
                     as_aux_lemma =>
                      clear HU HZ
                      obtain ⟨G2,rfl,HZ,HU⟩ := hcut
                      generalize wc = w7 at HZ ⊢
                      have hb := HI2.out.2.2.2.2.2.2.2
                      have t1 := HZ.out.f.cell0 (r := rr) hb.2.1
                      have t3 := HZ.out.f.cell (r := rr) (s := ss) hb.2.1 hb.2.2.2.1
                      have t4 := HZ.out.f.froz hb.2.1 ss
                      have hl := HZ.out.f.len rr hb.2.1
                      have b1 : (0 ≤ (rr : Int)) = True := eq_true (by omega)
                      have b2 : ((rr : Int) < (r : Int)) = True := eq_true (by omega)
                      have b3 : (0 ≤ (ss : Int)) = True := eq_true (by omega)
                      have b4 : ((ss : Int) < (s : Int)) = True := eq_true (by omega)
                      have g11 : Vi _ _ := vi (w_inc (a := ss) (b := sn) HI2.out.2.2.2.2.2.1.symm (by have := HNL.out;have := HI2.out.2.2.2.2.2.1;have := HI2.out.2.2.2.2.2.2.2;omega))
                      replace HT : Aside0 (TabI M x y r s (fun u' v' => v' = 0 ∨ u' ≤ u ∨ u' = u + 1 ∧ v' ≤ ss) (fun u => if u = rr then (F rr).set ss dd else F u)) := by
                       obtain ⟨hv1,hgg,hvn,hq,hqn,hsn,hpn,hb⟩ := HI2.out
                       have hr' := hr.out
                       have hs' := hs.out
                       have hp := HI.out.2.2.2.1
                       refine ⟨HT.out.put hl hb.2.2.2.1 ?_ (fun u' v' _ _ hh => by omega)⟩
                       rw [HX.out.2.2,show p + 1 = x + rr by omega,show q + 1 = y + ss by omega]
                      replace HZ := Aside0.mk (HZ.out.putf RS.out hb.2.1 ss dd)
                      generalize (F rr).getD ss 0 = z9 at t3
                      clear hb hl
                      go_wp2
                      obtain ⟨hv1,hgg,hvn,hq,hqn,hsn,hpn,hb⟩ := HI2.out
                      have hs' := hs.out
                      go_roundg (m1 - v)
                      case measure => omega
                      case rel => exact ⟨ss,sn,_,_,⟨hsn⟩,by omega,by omega,(by first | rfl | exact g11 | exact (congrArg (Value.int .i64) (i64_w _)).trans g11),HZ,⟨HT.out.mono (fun u' v' _ _ hh => hh)⟩,⟨HU.out.ext fun p' q' _ _ => by rw [show y + ss = qn by omega]⟩⟩
               ·obtain rfl : v = m1 + 1 := by omega
                obtain rfl : s = ss := by have := hs.out;have := HH.out.ew;omega
                have b1 : ((s : Int) < (s : Int)) = False := eq_false (by omega)
                clear hs hv1 hgg hvn
                go_wp2
                clear b1 t0
                obtain ⟨hu1,hgg,hun,hp,hrn⟩ := HI.out
                have hr' := hr.out
                go_roundg (n1 - u)
                case measure => omega
                case rel => exact ⟨rr,rn,_,_,⟨hrn⟩,by omega,by omega,(by first | rfl | exact g9 | exact (congrArg (Value.int .i64) (i64_w _)).trans g9),HZ,⟨HT.out.mono (fun u' v' _ _ hh => by have := HH.out.ew;omega)⟩,⟨HU.out.ext fun p' q' _ _ => by rw [hr',← Nat.add_assoc,← hp,show y + (m1 + 1) = j + 1 by have := HH.out.ey;omega];exact trs_next M o p' q'⟩⟩
            ·obtain rfl : u = n1 + 1 := by omega
             obtain rfl : r = rr := by have := hr.out;have := HH.out.eh;omega
             have b1 : ((r : Int) < (r : Int)) = False := eq_false (by omega)
             clear hr hu1 hgg hun
             go_wp2
             exact bodyPost_end (results_none rfl _ _ _) rfl ⟨rfl,G',HZ.out.t,HU.out.ext (fun p' q' _ _ => by rw [show x + (n1 + 1) = i + 1 by have := HH.out.ex;omega]),HZ.out.kp⟩
end Go.Proofs.Ytngphdmbjenkaaa.X
