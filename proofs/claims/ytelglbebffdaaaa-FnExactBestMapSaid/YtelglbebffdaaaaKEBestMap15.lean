/- Part 15 of the proof of FnExactBestMap: what it needs. -/
import Derived.BigQuiet
import Derived.Test.YtelglbebffdaaaaKEBestMap4
import Derived.Test.YtelglbebffdaaaaKEBestMap5
import Derived.Test.YtelglbebffdaaaaKEBestMap6
import Derived.Test.YtelglbebffdaaaaKEBestMap11
import Derived.Test.YtelglbebffdaaaaKEBestMap14
namespace Go.Proofs.Ytelglbebffdaaaa.X
open Go.RowKit Go.Proofs.YtelglbebffdaaaaW.PrintWords Go.Proofs.YtelglbebffdaaaaW.PrintLast Go.Proofs.YtelglbebffdaaaaW.PrintMore Go.Proofs.Ytelglbebffdaaaa.Q
set_option linter.unusedVariables false
set_option linter.unusedSimpArgs false
theorem row1_of {W : World} {A : Option Addr} {c b n : Nat} {f : Nat → Int} (hn : 0 < n) (hc : n ≤ c) (hb : W.heap.size ≤ b) (h : Kd.C (Kd.int .i64) W A n ((List.range n).map f)) : Row1 W b (.slice A n c) n f:=by
 obtain ⟨ad,rfl,h0⟩:=Kd.at_int h 0 (by omega) (by omega)
 refine ⟨ad,c,rfl,hc,?_,fun p hp => ?_⟩
 ·have:=World.block_lt_of_cell? W _ h0
  rw [add_block] at this
  omega
 ·obtain ⟨ad',e,h1⟩:=Kd.at_int h (p : Int) (by omega) (by omega)
  cases e
  rw [Int.toNat_natCast,rd_map hp] at h1
  exact h1
theorem Row1.below {b : Nat} {W W1 : World} (h : Below W.heap.size W W1) {v : Value} {n : Nat} {f : Nat → Int} (r : Row1 W b v n f) : Row1 W1 b v n f:=by
 obtain ⟨ad,c,e,hc,hb,hp⟩:=r.is
 exact ⟨ad,c,e,hc,hb,fun p hp' => (h.cell (World.block_lt_of_cell? _ _ (hp p hp'))).trans (hp p hp')⟩
theorem Row2.below {b : Nat} {W W1 : World} (h : Below W.heap.size W W1) {v : Value} {n m : Nat} {f : Nat → Nat → Int} (r : Row2 W b v n m f) : Row2 W1 b v n m f:=by
 obtain ⟨ad,c,e,hc,hb,hp⟩:=r.is
 refine ⟨ad,c,e,hc,hb,fun p hp' => ?_⟩
 obtain ⟨u,hu,r1⟩:=hp p hp'
 exact ⟨u,(h.cell (World.block_lt_of_cell? _ _ hu)).trans hu,r1.below h⟩
theorem Mea.below {M : Ted.Ms} {A B : Nat} {b : Nat} {W W1 : World} (h : Below W.heap.size W W1) {v : Array Value} (r : Mea M A B W b v) : Mea M A B W1 b v:=by
 obtain ⟨v0,v1,v2,v3,v4,v5,v6,e,h2,h3,h4,h5,h6⟩:=r.is
 exact ⟨v0,v1,v2,v3,v4,v5,v6,e,h2.below h,h3.below h,h4.below h,h5.below h,h6.below h⟩
theorem row1_R {W : World} {e base : Nat} {ok : Nat → Prop} {v : Value} {b n : Nat} {f : Nat → Int} (hn : 0 < n) (hb : W.heap.size ≤ b) (h : Kd.R (Kd.int .i64) e W base ok v ((List.range n).map f)) : Row1 W b v n f:=by
 obtain ⟨A,c,rfl⟩:=Kd.R_slice h
 obtain ⟨_,h2,h3⟩:=Kd.R_reads' h
 have hl : ((List.range n).map f).length = n:=by simp
 rw [hl] at h2 h3 ⊢
 exact row1_of hn h2 hb h3
def IsSl (v : Value) : Prop:=∃ A n c,v = .slice A n c
structure Nw (w : World) (ad : Addr) (n : Nat) (f : Nat → Int) : Prop where
 c : ∀ x,x < n → w.cell? (ad.add x) = some (.int .i64 (f x))
theorem Nw.below {w w' : World} {ad : Addr} {n : Nat} {f : Nat → Int} (h : Nw w ad n f) (k : Below w.heap.size w w') : Nw w' ad n f:=⟨fun x hx => pw_cell_below k (h.c x hx)⟩
theorem nw_R {W : World} {e base : Nat} {ok : Nat → Prop} {v : Value} {l : List Int} (hn : 0 < l.length) (h : Kd.R (Kd.int .i64) e W base ok v l) : ∃ ad c,v = .slice (some ad) l.length c ∧ Nw W ad l.length (fun x => rd l x):=by
 obtain ⟨A,c,rfl⟩:=Kd.R_slice h
 obtain ⟨_,h2,h3⟩:=Kd.R_reads' h
 obtain ⟨ad,rfl,h0⟩:=Kd.at_int h3 0 (by omega) (by omega)
 refine ⟨ad,c,rfl,⟨fun x hx => ?_⟩⟩
 obtain ⟨ad',e,h1⟩:=Kd.at_int h3 (x : Int) (by omega) (by omega)
 cases e
 rw [Int.toNat_natCast] at h1
 exact h1
theorem nw_len {W : World} {e base : Nat} {ok : Nat → Prop} {v : Value} {l : List Int} {n : Nat} {f : Nat → Int} (hl : l.length = n) (hn : 0 < n) (hf : ∀ x,x < n → rd l (x : Int) = f x) (h : Kd.R (Kd.int .i64) e W base ok v l) : ∃ ad c,v = .slice (some ad) n c ∧ Nw W ad n f:=by
 subst hl
 obtain ⟨ad,c,rfl,h1⟩:=nw_R hn h
 exact ⟨ad,c,rfl,⟨fun x hx => by rw [h1.c x hx,hf x hx]⟩⟩
structure Nx (w : World) (ad : Addr) (n c : Nat) (f : Nat → Int) : Prop where
 nw : Nw w ad n f
 ix : ∃ base,IX w base (.slice (some ad) n c) ((List.range n).map f)
theorem Nx.below {w w' : World} {ad : Addr} {n c : Nat} {f : Nat → Int} (h : Nx w ad n c f) (k : Below w.heap.size w w') : Nx w' ad n c f :=
 ⟨h.nw.below k,h.ix.elim fun b hb => ⟨b,Kd.R_below hb k⟩⟩
theorem nw_call {W : World} {f : Nat} {args : Array Value} {l : List Int} {n : Nat} {g : Nat → Int} (h : Calls Try.prog f args W fun e w' => ∃ v0_ : Value,e = .returned (v0_) ∧ Kd.R (Kd.int .i64) 3 w' W.heap.size (fun _ => True) v0_ l ∧ Below W.heap.size W w') (hl : l = (List.range n).map g) (hn : 0 < n) :
  Calls Try.prog f args W fun e w' => ∃ ad c,e = .returned (.slice (some ad) n c) ∧ Nx w' ad n c g ∧ Below W.heap.size W w':=by
 subst hl
 refine h.mono ?_
 rintro e w' ⟨v,rfl,hv,hb⟩
 obtain ⟨ad,c,rfl,h3⟩:=nw_len (n:=n) (f:=g) (by simp) hn (fun x hx => rd_map hx) hv
 exact ⟨ad,c,rfl,⟨h3,_,hv⟩,hb⟩
theorem okAB_iff {a b : List NodeI} {d i r : List Int} : okAB a b d i r = true ↔ Tr a ∧ Tr b ∧ Co d i r:=by
 unfold okAB
 rw [Bool.and_eq_true,Bool.and_eq_true,trB_iff,trB_iff,costB_iff,and_assoc]
noncomputable def impl_measureOf.f (q : Nat) (a b : List NodeI) (d i r : List Int) : Option Bool :=
 (impl_TreeOk.f q a).bind fun x => if x = true then (impl_TreeOk.f q b).bind fun y => if y = true then (impl_CostOk.f q d i r).bind fun z => if z = true then (impl_PostOrder.f q a).bind fun _ => (impl_PostOrder.f q b).bind fun _ => (impl_LeftLeaf.f q a).bind fun _ => (impl_LeftLeaf.f q b).bind fun _ => some true else some false else some false else some false
theorem impl_measureOf.mono : ∀ a0 a1 a2 a3 a4 k,LeO (impl_measureOf.f k a0 a1 a2 a3 a4) (impl_measureOf.f (k + 1) a0 a1 a2 a3 a4):=by
 intro a0 a1 a2 a3 a4 k
 unfold impl_measureOf.f
 exact LeO.bind (impl_TreeOk.mono _ _) fun _ => LeO.ite (LeO.bind (impl_TreeOk.mono _ _) fun _ => LeO.ite (LeO.bind (impl_CostOk.mono _ _ _ _) fun _ => LeO.ite (LeO.bind (impl_PostOrder.mono _ _) fun _ => LeO.bind (impl_PostOrder.mono _ _) fun _ => LeO.bind (impl_LeftLeaf.mono _ _) fun _ => LeO.bind (impl_LeftLeaf.mono _ _) fun _ => LeO.refl _) (LeO.refl _)) (LeO.refl _)) (LeO.refl _)
theorem implPost_tr {l : List NodeI} (t : Tr l) : Ev (fun k => impl_PostOrder.f k l) (pst l):=by
 have hp:=impl_PostOrder.ev l
 rwa [if_pos (trB_true t)] at hp
theorem implMeasure_ev (a b : List NodeI) (d i r : List Int) : Ev (fun k => impl_measureOf.f k a b d i r) (okAB a b d i r):=by
 unfold impl_measureOf.f okAB
 refine Ev.bind (implTreeOk_ev a) ?_
 cases h1 : trB a with
 | false => exact Ev.ifF (by simp) (Ev.now _)
 | true =>
  refine Ev.ifT rfl (Ev.bind (implTreeOk_ev b) ?_)
  cases h2 : trB b with
  | false => exact Ev.ifF (by simp) (Ev.now _)
  | true =>
   refine Ev.ifT rfl (Ev.bind (implCostOk_ev d i r) ?_)
   cases h3 : costB d i r with
   | false => exact Ev.ifF (by simp) (Ev.now _)
   | true =>
    have ta:=(trB_iff a).1 h1
    have tb:=(trB_iff b).1 h2
    exact Ev.ifT rfl (Ev.bind (implPost_tr ta) (Ev.bind (implPost_tr tb) (Ev.bind (implLeftLeaf_ev ta) (Ev.bind (implLeftLeaf_ev tb) (Ev.now _)))))
theorem mea_told {q : Nat} {a b : List NodeI} {d i r : List Int} {t : Bool} (h : impl_measureOf.f q a b d i r = some t) :
  (okAB a b d i r = false ∧ (impl_TreeOk.f q a = some false ∨ impl_TreeOk.f q a = some true ∧ impl_TreeOk.f q b = some false ∨ impl_TreeOk.f q a = some true ∧ impl_TreeOk.f q b = some true ∧ impl_CostOk.f q d i r = some false)) ∨
  (Tr a ∧ Tr b ∧ Co d i r ∧ impl_TreeOk.f q a = some true ∧ impl_TreeOk.f q b = some true ∧ impl_CostOk.f q d i r = some true ∧ impl_PostOrder.f q a = some (pst a) ∧ impl_PostOrder.f q b = some (pst b) ∧ impl_LeftLeaf.f q a = some (lfL a) ∧ impl_LeftLeaf.f q b = some (lfL b)):=by
 have e:=ev_uniq (Ev.of (impl_measureOf.mono a b d i r) h) (implMeasure_ev a b d i r)
 subst e
 unfold impl_measureOf.f at h
 obtain ⟨x,hx,h⟩:=Option.bind_eq_some_iff.mp h
 cases x with
 | false =>
  rw [if_neg (by simp)] at h
  exact .inl ⟨(Option.some.inj h).symm,.inl hx⟩
 | true =>
  rw [if_pos rfl] at h
  obtain ⟨y,hy,h⟩:=Option.bind_eq_some_iff.mp h
  cases y with
  | false =>
   rw [if_neg (by simp)] at h
   exact .inl ⟨(Option.some.inj h).symm,.inr (.inl ⟨hx,hy⟩)⟩
  | true =>
   rw [if_pos rfl] at h
   obtain ⟨z,hz,h⟩:=Option.bind_eq_some_iff.mp h
   cases z with
   | false =>
    rw [if_neg (by simp)] at h
    exact .inl ⟨(Option.some.inj h).symm,.inr (.inr ⟨hx,hy,hz⟩)⟩
   | true =>
    rw [if_pos rfl] at h
    obtain ⟨x1,h1,h⟩:=Option.bind_eq_some_iff.mp h
    obtain ⟨x2,h2,h⟩:=Option.bind_eq_some_iff.mp h
    obtain ⟨x3,h3,h⟩:=Option.bind_eq_some_iff.mp h
    obtain ⟨x4,h4,h⟩:=Option.bind_eq_some_iff.mp h
    obtain ⟨ta,tb,hc⟩:=okAB_iff.1 (Option.some.inj h).symm
    refine .inr ⟨ta,tb,hc,hx,hy,hz,?_,?_,?_,?_⟩
    ·rw [h1,ev_uniq (Ev.of (impl_PostOrder.mono a) h1) (implPost_tr ta)]
    ·rw [h2,ev_uniq (Ev.of (impl_PostOrder.mono b) h2) (implPost_tr tb)]
    ·rw [h3,ev_uniq (Ev.of (impl_LeftLeaf.mono a) h3) (implLeftLeaf_ev ta)]
    ·rw [h4,ev_uniq (Ev.of (impl_LeftLeaf.mono b) h4) (implLeftLeaf_ev tb)]
abbrev Sl:=Option Addr × Nat × Nat
abbrev sv (u : Sl) : Value:=.slice u.1 u.2.1 u.2.2
abbrev slK : Kd Sl:=Kd.scalar sv (fun _ => rfl)
abbrev OX (w : World) (base : Nat) (v : Value) (l : List Sl) : Prop:=slK.R 23 w base (fun _ => True) v l
theorem OX.grown {w w' : World} {base : Nat} {v u : Value} {l : List Sl} (h : OX w base v l) (hg : w.grownBy w' u.ownBlock) (ha : Ap v u) : OX w' base v l:=by
 have h2 : slK.R 23 w base (fun k => some k ≠ u.ownBlock) v l:=by
  refine Kd.R_of_own (Kd.own_of_R h) (fun k hk => fun e => ha k hk e.symm)
 exact Kd.R_mono (Kd.R_step h2 (fun k ho hlt => hg.block k hlt ho)) (fun _ _ => trivial)
theorem ap_kinds {w : World} {base base' : Nat} {v u : Value} {l : List Int} {m : List Sl} (h : IX w base v l) (k : OX w base' u m) : Ap v u:=by
 intro x hx hy
 obtain ⟨c1,e1⟩:=own_typed (Kd.own_of_R h) x hx
 obtain ⟨c2,e2⟩:=own_typed (Kd.own_of_R k) x hy
 rw [e1] at e2
 injection e2 with e2
 injection e2 with _ e2
 exact absurd e2 (by decide)
theorem ap_base {w : World} {base : Nat} {v u : Value} {l m : List Int} (h : IX w base v l) {w' : World} (k : IX w' w.heap.size u m) : Ap v u:=by
 intro x hx hy
 have h1:=Kd.R_lt h x hx
 have h2:=Kd.R_base k x hy
 omega
theorem own_ne {w : World} {base k t e : Nat} {v : Value} {n : Nat} {xs : List Value} {cs : Array Value} (h : w.ownsRow base e 1 v n xs) (hb : w.heap[k]? = some (.cells cs t (0,0))) (ht : t ≠ e) : some k ≠ v.ownBlock:=by
 intro x
 obtain ⟨cells,hc⟩:=own_typed h k x.symm
 rw [hb] at hc
 injection hc with hc
 injection hc with _ hc
 exact ht (by simpa using hc)
theorem ix_far {w : World} {base g t : Nat} {v : Value} {l : List Int} {cs : Array Value} (h : IX w base v l) (hb : w.heap[g]? = some (.cells cs t (0,0))) (ht : t ≠ 3) (k : Nat) (u : Value) : IX (w.setCell ⟨g,k,none⟩ u) base v l :=
 Kd.R_mono (Kd.R_far (p:=⟨g,k,none⟩) (Kd.R_types h hb (fun q hq => by
  have : q = 3:=by simpa [Kd.int,Kd.scalar] using hq
  rw [this];exact fun e => ht e.symm)) (fun _ hk => hk.2) u) (fun _ _ => trivial)
theorem ox_far {w : World} {base g t : Nat} {v : Value} {l : List Sl} {cs : Array Value} (h : OX w base v l) (hb : w.heap[g]? = some (.cells cs t (0,0))) (ht : t ≠ 23) (k : Nat) (u : Value) : OX (w.setCell ⟨g,k,none⟩ u) base v l :=
 Kd.R_mono (Kd.R_far (p:=⟨g,k,none⟩) (Kd.R_types h hb (fun q hq => by
  have : q = 23:=by simpa [slK,Kd.scalar] using hq
  rw [this];exact fun e => ht e.symm)) (fun _ hk => hk.2) u) (fun _ _ => trivial)
structure Mz (W0 : World) (k8 : Nat) (z0 z1 z2 z3 u4 u5 u6 v4 v5 v6 : Value) (M : Ted.Ms) (B s y x : Nat) (U : Nat → Sl) (w : World) : Prop where
 bel : Below W0.heap.size W0 w
 kb : W0.heap.size ≤ k8
 bk : w.heap[k8]? = some (.cells #[z0,z1,z2,z3,u4,u5,u6] 70 (0,0))
 r4 : IX w W0.heap.size v4 ((List.range y).map M.del)
 r5 : IX w W0.heap.size v5 ((List.range s).map M.ins)
 r6 : OX w W0.heap.size v6 ((List.range x).map U)
 rr : ∀ p,p < x → IX w W0.heap.size (sv (U p)) ((List.range B).map (M.rel p))
 a45 : Ap v4 v5
 a4r : ∀ p,p < x → Ap v4 (sv (U p))
section
variable {W0 w w' W : World} {k8 : Nat} {z0 z1 z2 z3 u4 u5 u6 v4 v5 v6 v : Value} {M : Ted.Ms} {B s y x : Nat} {U : Nat → Sl}
theorem Mz.below (h : Mz W0 k8 z0 z1 z2 z3 u4 u5 u6 v4 v5 v6 M B s y x U w) (k : Below w.heap.size w w') : Mz W0 k8 z0 z1 z2 z3 u4 u5 u6 v4 v5 v6 M B s y x U w' :=
 ⟨below_then h.bel h.bel.size k,h.kb,blk_below h.bk k,Kd.R_below h.r4 k,Kd.R_below h.r5 k,Kd.R_below h.r6 k,fun p hp => Kd.R_below (h.rr p hp) k,h.a45,h.a4r⟩
theorem Mz.ch (h : Mz W0 k8 z0 z1 z2 z3 u4 u5 u6 v4 v5 v6 M B s y x U w) [c : Ch w w'] : Mz W0 k8 z0 z1 z2 z3 u4 u5 u6 v4 v5 v6 M B s y x U w':=h.below c.out
theorem Mz.put4 (h : Mz W0 k8 z0 z1 z2 z3 u4 u5 u6 v4 v5 v6 M B s y x U w) (u : Value) : Mz W0 k8 z0 z1 z2 z3 u u5 u6 v4 v5 v6 M B s y x U (w.setCell ⟨k8,4,none⟩ u) :=
 ⟨h.bel.setCell h.kb _,h.kb,blk_put h.bk 4 u rfl,ix_far h.r4 h.bk (by decide) _ _,ix_far h.r5 h.bk (by decide) _ _,ox_far h.r6 h.bk (by decide) _ _,fun p hp => ix_far (h.rr p hp) h.bk (by decide) _ _,h.a45,h.a4r⟩
theorem Mz.put5 (h : Mz W0 k8 z0 z1 z2 z3 u4 u5 u6 v4 v5 v6 M B s y x U w) (u : Value) : Mz W0 k8 z0 z1 z2 z3 u4 u u6 v4 v5 v6 M B s y x U (w.setCell ⟨k8,5,none⟩ u) :=
 ⟨h.bel.setCell h.kb _,h.kb,blk_put h.bk 5 u rfl,ix_far h.r4 h.bk (by decide) _ _,ix_far h.r5 h.bk (by decide) _ _,ox_far h.r6 h.bk (by decide) _ _,fun p hp => ix_far (h.rr p hp) h.bk (by decide) _ _,h.a45,h.a4r⟩
theorem Mz.put6 (h : Mz W0 k8 z0 z1 z2 z3 u4 u5 u6 v4 v5 v6 M B s y x U w) (u : Value) : Mz W0 k8 z0 z1 z2 z3 u4 u5 u v4 v5 v6 M B s y x U (w.setCell ⟨k8,6,none⟩ u) :=
 ⟨h.bel.setCell h.kb _,h.kb,blk_put h.bk 6 u rfl,ix_far h.r4 h.bk (by decide) _ _,ix_far h.r5 h.bk (by decide) _ _,ox_far h.r6 h.bk (by decide) _ _,fun p hp => ix_far (h.rr p hp) h.bk (by decide) _ _,h.a45,h.a4r⟩
theorem Mz.app5 (h : Mz W0 k8 z0 z1 z2 z3 u4 u5 u6 v4 v5 v6 M B s y 0 U w) [c : Ch w W] (hn : IX w' W0.heap.size v ((List.range (s + 1)).map M.ins)) (hg : W.grownBy w' v5.ownBlock) (hat : v.ownBlock = v5.ownBlock ∨ ∃ b,v.ownBlock = some b ∧ W.heap.size ≤ b) (hb : Below W0.heap.size W w') : Mz W0 k8 z0 z1 z2 z3 u4 u5 u6 v4 v v6 M B (s + 1) y 0 U w' :=
 have k:=h.ch (w':=W)
 ⟨k.bel.trans hb,h.kb,blk_grown k.bk hg (own_ne (Kd.own_of_R k.r5) k.bk (by decide)),k.r4.grown hg k.a45,hn,k.r6.grown hg (ap_kinds k.r5 k.r6).symm,fun p hp => absurd hp (Nat.not_lt_zero _),(ap_new k.r4 k.a45.symm hat).symm,fun p hp => absurd hp (Nat.not_lt_zero _)⟩
theorem Mz.app4 (h : Mz W0 k8 z0 z1 z2 z3 u4 u5 u6 v4 v5 v6 M B s y x U w) [c : Ch w W] (hn : IX w' W0.heap.size v ((List.range (y + 1)).map M.del)) (hg : W.grownBy w' v4.ownBlock) (hat : v.ownBlock = v4.ownBlock ∨ ∃ b,v.ownBlock = some b ∧ W.heap.size ≤ b) (hb : Below W0.heap.size W w') : Mz W0 k8 z0 z1 z2 z3 u4 u5 u6 v v5 v6 M B s (y + 1) x U w' :=
 have k:=h.ch (w':=W)
 ⟨k.bel.trans hb,h.kb,blk_grown k.bk hg (own_ne (Kd.own_of_R k.r4) k.bk (by decide)),hn,k.r5.grown hg k.a45.symm,k.r6.grown hg (ap_kinds k.r4 k.r6).symm,fun p hp => (k.rr p hp).grown hg (k.a4r p hp).symm,ap_new k.r5 k.a45 hat,fun p hp => ap_new (k.rr p hp) (k.a4r p hp) hat⟩
theorem Mz.app6 (h : Mz W0 k8 z0 z1 z2 z3 u4 u5 u6 v4 v5 v6 M B s y x U w) {w10 : World} {u : Sl} (hw : w10.heap.size ≤ w.heap.size) (h4 : IX w10 W0.heap.size v4 ((List.range y).map M.del)) (hu : IX w w10.heap.size (sv u) ((List.range B).map (M.rel x))) [c : Ch w W] (hn : OX w' W0.heap.size v ((List.range x).map U ++ [u])) (hg : W.grownBy w' v6.ownBlock) (hb : Below W0.heap.size W w') (h0 : W0.heap.size ≤ w10.heap.size) :
  Mz W0 k8 z0 z1 z2 z3 u4 u5 u6 v4 v5 v M B s y (x + 1) (fun p => if p = x then u else U p) w':=by
 have k:=h.ch (w':=W)
 have hu' : IX W w10.heap.size (sv u) ((List.range B).map (M.rel x)):=Kd.R_below hu c.out
 have e : (List.range (x + 1)).map (fun p => if p = x then u else U p) = (List.range x).map U ++ [u]:=by
  rw [List.range_succ,List.map_append,List.map_cons,List.map_nil,if_pos rfl]
  congr 1
  refine List.map_congr_left fun p hp => ?_
  rw [if_neg (by have:=List.mem_range.1 hp;omega)]
 refine ⟨k.bel.trans hb,h.kb,blk_grown k.bk hg (own_ne (Kd.own_of_R k.r6) k.bk (by decide)),k.r4.grown hg (ap_kinds k.r4 k.r6),k.r5.grown hg (ap_kinds k.r5 k.r6),by rw [e];exact hn,fun p hp => ?_,h.a45,fun p hp => ?_⟩
 ·by_cases c1 : p = x
  ·subst c1
   rw [if_pos rfl]
   have h3:=hu'.grown hg (ap_kinds hu' k.r6)
   exact Kd.R_lower h3 h0
  ·rw [if_neg c1]
   exact (k.rr p (by omega)).grown hg (ap_kinds (k.rr p (by omega)) k.r6)
 ·by_cases c1 : p = x
  ·rw [if_pos c1]
   exact ap_base h4 hu
  ·rw [if_neg c1]
   exact h.a4r p (by omega)
end
theorem rows_row2 {w : World} {base bk : Nat} {v6 : Value} {f : Nat → Nat → Int} {B x : Nat} {U : Nat → Sl} (h6 : OX w base v6 ((List.range x).map U)) (hrr : ∀ p,p < x → IX w base (sv (U p)) ((List.range B).map (f p))) (hx : 0 < x) (hB : 0 < B) (hbk : w.heap.size ≤ bk) : Row2 w bk v6 x B f:=by
 obtain ⟨A,c,rfl⟩:=Kd.R_slice h6
 obtain ⟨_,h2,h3⟩:=Kd.R_reads' h6
 have hl : ((List.range x).map U).length = x:=by simp
 rw [hl] at h2 h3 ⊢
 have key : ∀ p,p < x → ∃ ad,A = some ad ∧ w.cell? (ad.add p) = some (sv (U p)) ∧ Row1 w bk (sv (U p)) B (f p):=fun p hp => by
  obtain ⟨ad,cs,hA,hlen,hK,hcell⟩:=ReadsRow.get_ h3 (none,0,0) (p : Int) (by omega) (by omega)
  have e1 : ((List.range x).map U).getD (p : Int).toNat (none,0,0) = U p:=by
   rw [Int.toNat_natCast,List.getD_eq_getElem?_getD,List.getElem?_map,List.getElem?_range hp];rfl
  rw [e1] at hK
  have h1:=hcell 0 (sv (U p)) (by rw [hK];rfl)
  refine ⟨ad,hA,?_,row1_R hB hbk (hrr p hp)⟩
  have e2 : (p : Int).toNat * slK.sz + 0 = p:=by
   rw [Int.toNat_natCast]
   show p * 1 + 0 = p
   omega
  rw [e2] at h1
  exact h1
 obtain ⟨ad,hA,hu,_⟩:=key 0 hx
 subst hA
 refine ⟨ad,c,rfl,h2,?_,fun p hp => ?_⟩
 ·have:=World.block_lt_of_cell? w _ hu
  rw [add_block] at this
  omega
 ·obtain ⟨ad',e,h1,h2⟩:=key p hp
  cases e
  exact ⟨_,h1,h2⟩
theorem put7 {w0 w : World} {k t : Nat} {c0 c1 c2 c3 c4 c5 c6 : Value} (h : w.heap[k]? = some (.cells #[c0,c1,c2,c3,c4,c5,c6] t (0,0))) (hb : Below w0.heap.size w0 w) (hk : w0.heap.size ≤ k) (x0 x1 x2 x3 x4 x5 x6 : Value) :
  (((((((w.setCell ⟨k,0,none⟩ x0).setCell ⟨k,1,none⟩ x1).setCell ⟨k,2,none⟩ x2).setCell ⟨k,3,none⟩ x3).setCell ⟨k,4,none⟩ x4).setCell ⟨k,5,none⟩ x5).setCell ⟨k,6,none⟩ x6).heap[k]? = some (.cells #[x0,x1,x2,x3,x4,x5,x6] t (0,0)) ∧ (∀ g,g ≠ k → (((((((w.setCell ⟨k,0,none⟩ x0).setCell ⟨k,1,none⟩ x1).setCell ⟨k,2,none⟩ x2).setCell ⟨k,3,none⟩ x3).setCell ⟨k,4,none⟩ x4).setCell ⟨k,5,none⟩ x5).setCell ⟨k,6,none⟩ x6).heap[g]? = w.heap[g]?) ∧ Below w0.heap.size w0 (((((((w.setCell ⟨k,0,none⟩ x0).setCell ⟨k,1,none⟩ x1).setCell ⟨k,2,none⟩ x2).setCell ⟨k,3,none⟩ x3).setCell ⟨k,4,none⟩ x4).setCell ⟨k,5,none⟩ x5).setCell ⟨k,6,none⟩ x6):=by
 have b0:=blk_put h 0 x0 (cs':=#[x0,c1,c2,c3,c4,c5,c6]) rfl
 have b1:=blk_put b0 1 x1 (cs':=#[x0,x1,c2,c3,c4,c5,c6]) rfl
 have b2:=blk_put b1 2 x2 (cs':=#[x0,x1,x2,c3,c4,c5,c6]) rfl
 have b3:=blk_put b2 3 x3 (cs':=#[x0,x1,x2,x3,c4,c5,c6]) rfl
 have b4:=blk_put b3 4 x4 (cs':=#[x0,x1,x2,x3,x4,c5,c6]) rfl
 have b5:=blk_put b4 5 x5 (cs':=#[x0,x1,x2,x3,x4,x5,c6]) rfl
 have far : ∀ (W : World) (j g : Nat) (x : Value),g ≠ k → (W.setCell ⟨k,j,none⟩ x).heap[g]? = W.heap[g]?:=fun W j g x hg => Below.heap_setCell W ⟨k,j,none⟩ x g hg
 refine ⟨blk_put b5 6 x6 rfl,fun g hg => ?_,below_set (below_set (below_set (below_set (below_set (below_set (below_set hb hk) hk) hk) hk) hk) hk) hk⟩
 rw [far _ _ _ _ hg,far _ _ _ _ hg,far _ _ _ _ hg,far _ _ _ _ hg,far _ _ _ _ hg,far _ _ _ _ hg,far _ _ _ _ hg]
theorem nw_C {w : World} {A : Option Addr} {l : List Int} {n : Nat} (h : Kd.C (Kd.int .i64) w A l.length l) (hl : l.length = n) (hn : 0 < n) : ∃ ad,A = some ad ∧ Nw w ad n (fun x => l.getD x 0):=by
 subst hl
 obtain ⟨ad,rfl,h0⟩:=Kd.at_int h 0 (by omega) (by omega)
 refine ⟨ad,rfl,⟨fun x hx => ?_⟩⟩
 obtain ⟨ad',e,h1⟩:=Kd.at_int h (x : Int) (by omega) (by omega)
 cases e
 rw [Int.toNat_natCast] at h1
 exact h1
theorem lab_C {w : World} {A : Option Addr} {l : List NodeI} (h : Kd.C k53 w A l.length l) (hn : 0 < l.length) : ∃ ad,A = some ad ∧ ∀ x,x < l.length → w.cell? (ad.add (x * 2)) = some (.int .i64 (lab l x)):=by
 obtain ⟨ad,rfl,_⟩:=at_T53 h 0 (by omega) (by omega)
 refine ⟨ad,rfl,fun x hx => ?_⟩
 obtain ⟨ad',e,h2,_⟩:=at_T53 h (x : Int) (by omega) (by omega)
 cases e
 rw [rd_lab,Int.toNat_natCast] at h2
 exact h2
structure Src (w : World) (kb : Nat) (ad0 ad1 ad2 ad3 ad4 aA aB : Addr) (c2 c3 c4 : Nat) (a b : List NodeI) (d i r : List Int) : Prop where
 la : ∀ x,x < a.length → w.cell? (ad0.add (x * 2)) = some (.int .i64 (lab a x))
 lb : ∀ x,x < b.length → w.cell? (ad1.add (x * 2)) = some (.int .i64 (lab b x))
 pd : Nw w ad2 6 (fun x => d.getD x 0)
 pi : Nw w ad3 6 (fun x => i.getD x 0)
 pr : Nw w ad4 36 (fun x => r.getD x 0)
 oA : Nw w aA a.length (fun x => (nodeN a x : Int))
 oB : Nw w aB b.length (fun x => (nodeN b x : Int))
 bx : Bx w kb (.slice (some ad2) d.length c2) (.slice (some ad3) i.length c3) (.slice (some ad4) r.length c4)
theorem Src.below {w w' : World} {kb : Nat} {ad0 ad1 ad2 ad3 ad4 aA aB : Addr} {c2 c3 c4 : Nat} {a b : List NodeI} {d i r : List Int} (h : Src w kb ad0 ad1 ad2 ad3 ad4 aA aB c2 c3 c4 a b d i r) (hb : w.heap[kb]? = some (.cells #[.slice (some ad2) d.length c2,.slice (some ad3) i.length c3,.slice (some ad4) r.length c4] 31 (0,0))) (k : Below w.heap.size w w') : Src w' kb ad0 ad1 ad2 ad3 ad4 aA aB c2 c3 c4 a b d i r :=
 ⟨fun x hx => pw_cell_below k (h.la x hx),fun x hx => pw_cell_below k (h.lb x hx),h.pd.below k,h.pi.below k,h.pr.below k,h.oA.below k,h.oB.below k,bx_of (blk_below hb k)⟩
theorem mz_new (w : World) (z0 z1 z2 z3 : Value) (M : Ted.Ms) (B : Nat) (U : Nat → Sl) : Mz w w.heap.size z0 z1 z2 z3 nl nl nl nl nl nl M B 0 0 0 U (w.alloc (.cells #[z0,z1,z2,z3,nl,nl,nl] 70)) :=
 ⟨below_alloc (Below.refl _ _) _,Nat.le_refl _,blk_new _ _,Kd.R_nil _ _ _ _ _,Kd.R_nil _ _ _ _ _,Kd.R_nil _ _ _ _ _,fun p hp => absurd hp (Nat.not_lt_zero _),fun k hk => by simp [Value.ownBlock] at hk,fun p hp => absurd hp (Nat.not_lt_zero _)⟩
section
variable {ops : Array Oper} {o : Oper} {a : Act} {Q : Exit → Act → World → Prop} {Kc : Act → World → Prop} {W : World} {base : Nat}
theorem iapp_at (s t : Nat) (x : Int) {g : Nat} {v : Value} {xs : List Int} (hr : IX W base v xs) (hb : base ≤ W.heap.size) (hl : xs.length ≤ 1000) (hg : W.heap[g]? = some (.cells #[.int .i64 x] 3 (0,0)))
  (hw : Region.wanted o (yielded ops a.tmps) = true) (ho : o.op = .call { callee:=.builtin .append,args:=#[.tmp s,.tmp t],argTypes:=#[23,23] })
  (hsv : a.eval (.tmp s) = v) (hx : a.eval (.tmp t) = .slice (some ⟨g,0,none⟩) 1 1)
  (k : ∀ v1 w1,IX w1 base v1 (xs ++ [x]) → W.grownBy w1 v.ownBlock → (v1.ownBlock = v.ownBlock ∨ ∃ b,v1.ownBlock = some b ∧ W.heap.size ≤ b) → Below base W w1 → Kc (a.put o.dst v1) w1) :
  if Region.wanted o (yielded ops a.tmps) = true then Oper.wp Try.prog o a W Kc Q else Kc (a.put o.dst undef) W:=by
 have hC : ReadsRow (fun (p : Int) (c : List Value) => c = [.int .i64 p]) 1 W (some ⟨g,0,none⟩) 1 [x]:=by
  refine ⟨rfl,by omega,fun _ => ⟨_,rfl,fun j p hj => ?_⟩⟩
  obtain rfl : j = 0:=by
   have:=(List.getElem?_eq_some_iff.1 hj).1
   simp at this
   exact this
  obtain rfl : x = p:=by simpa using hj
  refine ⟨[.int .i64 x],rfl,rfl,fun i u hu => ?_⟩
  obtain rfl : i = 0:=by
   have:=(List.getElem?_eq_some_iff.1 hu).1
   simp at this
   exact this
  obtain rfl : Value.int .i64 x = u:=by simpa using hu
  rw [add_plain]
  exact (blk_cell hg 0).trans rfl
 refine Kd.R_append_rows_step (Kd.int .i64) base hw (.tmp s) (.tmp t) 23 3 (.int .i64 0) 8 ho Try.underlying23 info3 rfl (by decide) (by omega) v xs [x] (some ⟨g,0,none⟩) 1 1 (fun _ => True) (fun _ => False) hsv hx hr hC (fun p cs h => h) (fun _ h => h.elim) (fun _ _ => trivial) (Below.refl _ W) hb (by omega) ?_
 intro v1 w1 h1 h2 h3 h4
 exact k v1 w1 h1 h3 h4 h2
end
section
variable {ops : Array Oper} {o : Oper} {a : Act} {Q : Exit → Act → World → Prop} {Kc : Act → World → Prop} {W : World} {base : Nat}
theorem slit_at (hw : Region.wanted o (yielded ops a.tmps) = true) {N : Tmp} (_hd : o.dst = some N) {cs : Array Value} {t : TypeId}
  (hrun : (execOp a.eval o).run Try.prog W = .ok (.value (.slice (some ⟨W.heap.size,0,none⟩) 1 1)) (W.alloc (.cells cs t (0,0))))
  (h : ∀ g,g = W.heap.size → ∀ w1,w1.heap[g]? = some (.cells cs t (0,0)) → Below W.heap.size W w1 → Kc (a.put o.dst (.slice (some ⟨g,0,none⟩) 1 1)) w1) : if Region.wanted o (yielded ops a.tmps) = true then Oper.wp Try.prog o a W Kc Q else Kc (a.put o.dst undef) W :=
 event_step hw hrun (h _ rfl _ (blk_new W _) (below_alloc (Below.refl _ _) _))
end
theorem sstore_at {ops : Array Oper} {o : Oper} {a : Act} {Q : Exit → Act → World → Prop} {Kc : Act → World → Prop} {W w1 : World} (hw : Region.wanted o (yielded ops a.tmps) = true) (hrun : (execOp a.eval o).run Try.prog W = .ok .skip w1) (h : Kc (a.put o.dst undef) w1) :
  if Region.wanted o (yielded ops a.tmps) = true then Oper.wp Try.prog o a W Kc Q else Kc (a.put o.dst undef) W:=by
 rw [if_pos hw]
 unfold Oper.wp
 rw [hrun]
 exact h
theorem ix_lit0 (W : World) : IX (W.alloc (.cells #[] 3)) W.heap.size (.slice (some ⟨W.heap.size,0,none⟩) 0 0) []:=by
 refine Kd.R_of_own (enc:=Value.int .i64) (h1:=fun _ => rfl) ?_ (fun _ _ => trivial)
 exact ⟨rfl,.inr ⟨W.heap.size,0,#[],rfl,Nat.le_refl _,blk_new W _,Nat.le_refl _,by unfold maxLen;omega,rfl,rfl⟩⟩
theorem ix_off {w w' : World} {base g t : Nat} {v : Value} {l : List Int} {cs : Array Value} (h : IX w base v l) (hb : w.heap[g]? = some (.cells cs t (0,0))) (ht : t ≠ 3) (hk : ∀ k,k ≠ g → w'.heap[k]? = w.heap[k]?) : IX w' base v l :=
 Kd.R_mono (Kd.R_step (Kd.R_types h hb (fun q hq => by
  have : q = 3:=by simpa [Kd.int,Kd.scalar] using hq
  rw [this];exact fun e => ht e.symm)) (fun k hk' _ => hk k hk'.2)) (fun _ _ => trivial)
theorem ox_off {w w' : World} {base g t : Nat} {v : Value} {l : List Sl} {cs : Array Value} (h : OX w base v l) (hb : w.heap[g]? = some (.cells cs t (0,0))) (ht : t ≠ 23) (hk : ∀ k,k ≠ g → w'.heap[k]? = w.heap[k]?) : OX w' base v l :=
 Kd.R_mono (Kd.R_step (Kd.R_types h hb (fun q hq => by
  have : q = 23:=by simpa [slK,Kd.scalar] using hq
  rw [this];exact fun e => ht e.symm)) (fun k hk' _ => hk k hk'.2)) (fun _ _ => trivial)
section
variable {ops : Array Oper} {rest : List Oper} {o : Oper} {a : Act} {Q : Exit → Act → World → Prop} {w W : World} {base : Nat}
theorem oapp (s t : Tmp) (u : Sl) {v : Value} {xs : List Sl} (hr : OX w base v xs) (hb : base ≤ w.heap.size) (hl : xs.length ≤ 1000) [c : Ch w W]
  (k : ∀ v1 w1,OX w1 base v1 (xs ++ [u]) → W.grownBy w1 v.ownBlock → Below base W w1 → wpList Try.prog ops Q rest (a.put o.dst v1) w1)
  (ho : o.op = .call { callee:=.builtin .append,args:=#[.tmp s,.tmp t],argTypes:=#[68,68] }) (hgd : o.guard = none:=by rfl)
  (hsv : a.eval (.tmp s) = v:=by rfl) (hx : a.eval (.tmp t) = .slice (some ⟨W.heap.size,0,none⟩) 1 1:=by rfl) : wpList Try.prog ops Q (o :: rest) a (W.alloc (.cells #[sv u] 23)):=by
 refine Kd.R_append slK base hgd (.tmp s) (.tmp t) 68 23 (.slice none 0 0) 24 ho Try.underlying68 info23 rfl (by decide) (by omega) v xs u [sv u] (fun _ => True) (fun _ => False) hsv hx rfl (fun _ h => h.elim) (fun _ _ => trivial) (Kd.R_below hr c.out) (Below.refl _ W) (Nat.le_trans hb c.out.size) (by omega) ?_
 intro v1 w1 h1 h2 h3 h4
 exact k v1 w1 h1 h3 h2
end
def meaR.T7 : Bool × List (List Nat × List Nat):=(true,[([],[]),([0],[0]),([],[]),([2],[2]),([],[]),([],[]),([4,5],[4,5]),([6],[6]),([7],[7]),([3,8],[3,8]),([9],[9]),([10],[10]),([1,11],[1,11]),([0,1,2,3,4,5,6,7,8,9,10,11,12],[]),([13,12,12,0,1,2,3,4,5,6,7,8,9,10,11,12],[12,13])])
def meaR.B7 : List Nat:=[0,1,0,4,0,0,48,112,240,508,1020,2044,4095,8191,16383]
theorem meaR.tab7 : rtab .any (opsOf Try.f57 7) = meaR.T7:=by kernel_rfl
theorem meaR.bits7 : waitsOk meaR.T7.2 meaR.B7 = true:=by kernel_rfl
def meaR.T12 : Bool × List (List Nat × List Nat):=(true,[([],[]),([0],[0]),([],[]),([2],[2]),([],[]),([],[]),([4,5],[4,5]),([6],[6]),([7],[7]),([3,8],[3,8]),([9],[9]),([10],[10]),([1,11],[1,11]),([0,1,2,3,4,5,6,7,8,9,10,11,12],[]),([13,12,12,0,1,2,3,4,5,6,7,8,9,10,11,12],[12,13])])
def meaR.B12 : List Nat:=[0,1,0,4,0,0,48,112,240,508,1020,2044,4095,8191,16383]
theorem meaR.tab12 : rtab .any (opsOf Try.f57 12) = meaR.T12:=by kernel_rfl
theorem meaR.bits12 : waitsOk meaR.T12.2 meaR.B12 = true:=by kernel_rfl
def meaR.T17 : Bool × List (List Nat × List Nat):=(true,[([],[]),([],[]),([1],[1]),([],[]),([],[]),([3,4],[3,4]),([5],[5]),([6],[6]),([7],[7]),([],[]),([],[]),([9,10],[9,10]),([11],[11]),([12],[12]),([8,13],[8,13]),([2,14],[2,14]),([15],[15]),([16],[16]),([0,17],[0,17]),([18,18,0,1,2,3,4,5,6,7,8,9,10,11,12,13,14,15,16,17,18],[0,18])])
def meaR.B17 : List Nat:=[0,0,2,0,0,24,56,120,248,0,0,1536,3584,7680,16376,32766,65534,131070,262143,524287]
theorem meaR.tab17 : rtab .any (opsOf Try.f57 17) = meaR.T17:=by kernel_rfl
theorem meaR.bits17 : waitsOk meaR.T17.2 meaR.B17 = true:=by kernel_rfl
set_option maxRecDepth 100000 in
set_option maxHeartbeats 8000000 in
theorem mea_no {q : Nat} {A0 : Option Addr} {c0 : Nat} {a : List NodeI} {A1 : Option Addr} {c1 : Nat} {b : List NodeI} {A2 : Option Addr} {c2 : Nat} {d : List Int} {A3 : Option Addr} {c3 : Nat} {i : List Int} {A4 : Option Addr} {c4 : Nat} {r : List Int} {w : World}
  (hr0 : Kd.C k53 w A0 a.length a) (hc0 : a.length ≤ c0) (hr1 : Kd.C k53 w A1 b.length b) (hc1 : b.length ≤ c1) (hr2 : Kd.C (Kd.int .i64) w A2 d.length d) (hc2 : d.length ≤ c2) (hr3 : Kd.C (Kd.int .i64) w A3 i.length i) (hc3 : i.length ≤ c3) (hr4 : Kd.C (Kd.int .i64) w A4 r.length r) (hc4 : r.length ≤ c4)
  (hcase : impl_TreeOk.f q a = some false ∨ impl_TreeOk.f q a = some true ∧ impl_TreeOk.f q b = some false ∨ impl_TreeOk.f q a = some true ∧ impl_TreeOk.f q b = some true ∧ impl_CostOk.f q d i r = some false) :
  Calls Try.prog 57 #[.slice A0 a.length c0,.slice A1 b.length c1,.agg #[.slice A2 d.length c2,.slice A3 i.length c3,.slice A4 r.length c4]] w fun e w' =>
   e = .returned (.tuple #[.agg #[nl,nl,nl,nl,nl,nl,nl],.bool false]) ∧ Below w.heap.size w w':=by
 have HTa : Aside0 (∀ t,impl_TreeOk.f q a = some t → ∀ W,Below w.heap.size w W → _):=⟨fun t h W hb => impl_TreeOk.calls q A0 c0 a t W (Kd.C_below hr0 hb) hc0 h⟩
 have HTb : Aside0 (∀ t,impl_TreeOk.f q b = some t → ∀ W,Below w.heap.size w W → _):=⟨fun t h W hb => impl_TreeOk.calls q A1 c1 b t W (Kd.C_below hr1 hb) hc1 h⟩
 have HTc : Aside0 (∀ t,impl_CostOk.f q d i r = some t → ∀ W,Below w.heap.size w W → _):=⟨fun t h W hb => impl_CostOk.calls q A2 c2 d A3 c3 i A4 c4 r t W (Kd.C_below hr2 hb) hc2 (Kd.C_below hr3 hb) hc3 (Kd.C_below hr4 hb) hc4 h⟩
 have hu:=Try.underlying31
 have hu2:=Try.underlying70
 clear hr0 hc0 hr1 hc1 hr2 hc2 hr3 hc3 hr4 hc4
 rcases hcase with h1 | ⟨h1,h2⟩ | ⟨h1,h2,h3⟩
 ·have K1:=Aside0.mk (HTa.out _ h1)
  clear h1 HTa HTb HTc
  go_enter Try.func57,Try.ntmps57
  go_upto_region 1 with fail
  have HB:=Aside0.mk (below_alloc (below_alloc (Below.refl w.heap.size w) (.cells #[.slice A2 d.length c2,.slice A3 i.length c3,.slice A4 r.length c4] 31)) (.cells #[nl,nl,nl,nl,nl,nl,nl] 70))
  have hG:=blk_alloc (blk_new w (.cells #[.slice A2 d.length c2,.slice A3 i.length c3,.slice A4 r.length c4] 31)) (.cells #[nl,nl,nl,nl,nl,nl,nl] 70)
  have hZ:=blk_new (w.alloc (.cells #[.slice A2 d.length c2,.slice A3 i.length c3,.slice A4 r.length c4] 31)) (.cells #[nl,nl,nl,nl,nl,nl,nl] 70)
  rw [show (w.alloc (.cells #[.slice A2 d.length c2,.slice A3 i.length c3,.slice A4 r.length c4] 31)).heap.size = w.heap.size + 1 by simp] at hZ
  obtain ⟨kb,hkb⟩ : ∃ kb,kb = w.heap.size:=⟨_,rfl⟩
  obtain ⟨k6,hk6⟩ : ∃ k6,k6 = w.heap.size + 1:=⟨_,rfl⟩
  have H6:=Aside0.mk (show w.heap.size ≤ k6 by omega)
  rw [← hkb] at hG
  rw [← hk6] at hZ
  rw [← hk6,← hkb]
  have HG:=Aside0.mk hG
  have HZ:=Aside0.mk hZ
  clear hkb hk6 hG hZ
  generalize (w.alloc (.cells #[.slice A2 d.length c2,.slice A3 i.length c3,.slice A4 r.length c4] 31)).alloc (.cells #[nl,nl,nl,nl,nl,nl,nl] 70) = wS at HB HG HZ ⊢
  have y0 : wS.cell? ⟨kb,0,none⟩ = some (.slice A2 d.length c2):=(blk_cell HG.out 0).trans rfl
  have y1 : wS.cell? ⟨kb,1,none⟩ = some (.slice A3 i.length c3):=(blk_cell HG.out 1).trans rfl
  have y2 : wS.cell? ⟨kb,2,none⟩ = some (.slice A4 r.length c4):=(blk_cell HG.out 2).trans rfl
  go_upto_region 2 with (first | (go_at_call 82;(with_reducible refine (K1.out _ HB.out).mono ?_);rintro e w1 ⟨rfl,hb⟩;replace HB:=Aside0.mk (below_step HB.out hb);replace HG:=Aside0.mk (blk_below HG.out hb);replace HZ:=Aside0.mk (blk_below HZ.out hb);clear hb y0 y1 y2;have y0 : w1.cell? ⟨kb,0,none⟩ = some (.slice A2 d.length c2):=(blk_cell HG.out 0).trans rfl;have y1 : w1.cell? ⟨kb,1,none⟩ = some (.slice A3 i.length c3):=(blk_cell HG.out 1).trans rfl;have y2 : w1.cell? ⟨kb,2,none⟩ = some (.slice A4 r.length c4):=(blk_cell HG.out 2).trans rfl))
  have q0 : w1.cell? ⟨k6,0,none⟩ = some nl:=(blk_cell HZ.out 0).trans rfl
  have p0 : w1.frozen? ⟨k6,0,none⟩ = false:=blk_frozen HZ.out 0
  have q1 : w1.cell? ⟨k6,1,none⟩ = some nl:=(blk_cell HZ.out 1).trans rfl
  have p1 : w1.frozen? ⟨k6,1,none⟩ = false:=blk_frozen HZ.out 1
  have q2 : w1.cell? ⟨k6,2,none⟩ = some nl:=(blk_cell HZ.out 2).trans rfl
  have p2 : w1.frozen? ⟨k6,2,none⟩ = false:=blk_frozen HZ.out 2
  have q3 : w1.cell? ⟨k6,3,none⟩ = some nl:=(blk_cell HZ.out 3).trans rfl
  have p3 : w1.frozen? ⟨k6,3,none⟩ = false:=blk_frozen HZ.out 3
  have q4 : w1.cell? ⟨k6,4,none⟩ = some nl:=(blk_cell HZ.out 4).trans rfl
  have p4 : w1.frozen? ⟨k6,4,none⟩ = false:=blk_frozen HZ.out 4
  have q5 : w1.cell? ⟨k6,5,none⟩ = some nl:=(blk_cell HZ.out 5).trans rfl
  have p5 : w1.frozen? ⟨k6,5,none⟩ = false:=blk_frozen HZ.out 5
  have q6 : w1.cell? ⟨k6,6,none⟩ = some nl:=(blk_cell HZ.out 6).trans rfl
  have p6 : w1.frozen? ⟨k6,6,none⟩ = false:=blk_frozen HZ.out 6
  go_wp2
  obtain ⟨hz,_,hb⟩:=put7 HZ.out HB.out H6.out nl nl nl nl nl nl nl
  exact bodyPost_ret (results_ct rfl _ _ k6 70 #[nl,nl,nl,nl,nl,nl,nl] (0,0) _ rfl hz hu2 rfl (by kernel_rfl)) rfl ⟨rfl,hb⟩
 ·have K1:=Aside0.mk (HTa.out _ h1)
  have K2:=Aside0.mk (HTb.out _ h2)
  clear h1 h2 HTa HTb HTc
  go_enter Try.func57,Try.ntmps57
  go_upto_region 1 with fail
  have HB:=Aside0.mk (below_alloc (below_alloc (Below.refl w.heap.size w) (.cells #[.slice A2 d.length c2,.slice A3 i.length c3,.slice A4 r.length c4] 31)) (.cells #[nl,nl,nl,nl,nl,nl,nl] 70))
  have hG:=blk_alloc (blk_new w (.cells #[.slice A2 d.length c2,.slice A3 i.length c3,.slice A4 r.length c4] 31)) (.cells #[nl,nl,nl,nl,nl,nl,nl] 70)
  have hZ:=blk_new (w.alloc (.cells #[.slice A2 d.length c2,.slice A3 i.length c3,.slice A4 r.length c4] 31)) (.cells #[nl,nl,nl,nl,nl,nl,nl] 70)
  rw [show (w.alloc (.cells #[.slice A2 d.length c2,.slice A3 i.length c3,.slice A4 r.length c4] 31)).heap.size = w.heap.size + 1 by simp] at hZ
  obtain ⟨kb,hkb⟩ : ∃ kb,kb = w.heap.size:=⟨_,rfl⟩
  obtain ⟨k6,hk6⟩ : ∃ k6,k6 = w.heap.size + 1:=⟨_,rfl⟩
  have H6:=Aside0.mk (show w.heap.size ≤ k6 by omega)
  rw [← hkb] at hG
  rw [← hk6] at hZ
  rw [← hk6,← hkb]
  have HG:=Aside0.mk hG
  have HZ:=Aside0.mk hZ
  clear hkb hk6 hG hZ
  generalize (w.alloc (.cells #[.slice A2 d.length c2,.slice A3 i.length c3,.slice A4 r.length c4] 31)).alloc (.cells #[nl,nl,nl,nl,nl,nl,nl] 70) = wS at HB HG HZ ⊢
  have y0 : wS.cell? ⟨kb,0,none⟩ = some (.slice A2 d.length c2):=(blk_cell HG.out 0).trans rfl
  have y1 : wS.cell? ⟨kb,1,none⟩ = some (.slice A3 i.length c3):=(blk_cell HG.out 1).trans rfl
  have y2 : wS.cell? ⟨kb,2,none⟩ = some (.slice A4 r.length c4):=(blk_cell HG.out 2).trans rfl
  go_upto_region 2 with (first | (go_at_call 82;(with_reducible refine (K1.out _ HB.out).mono ?_);rintro e w1 ⟨rfl,hb⟩;replace HB:=Aside0.mk (below_step HB.out hb);replace HG:=Aside0.mk (blk_below HG.out hb);replace HZ:=Aside0.mk (blk_below HZ.out hb);clear hb y0 y1 y2;have y0 : w1.cell? ⟨kb,0,none⟩ = some (.slice A2 d.length c2):=(blk_cell HG.out 0).trans rfl;have y1 : w1.cell? ⟨kb,1,none⟩ = some (.slice A3 i.length c3):=(blk_cell HG.out 1).trans rfl;have y2 : w1.cell? ⟨kb,2,none⟩ = some (.slice A4 r.length c4):=(blk_cell HG.out 2).trans rfl) | (go_at_call 82;(with_reducible refine (K2.out _ HB.out).mono ?_);rintro e w2 ⟨rfl,hb⟩;replace HB:=Aside0.mk (below_step HB.out hb);replace HG:=Aside0.mk (blk_below HG.out hb);replace HZ:=Aside0.mk (blk_below HZ.out hb);clear hb y0 y1 y2;have y0 : w2.cell? ⟨kb,0,none⟩ = some (.slice A2 d.length c2):=(blk_cell HG.out 0).trans rfl;have y1 : w2.cell? ⟨kb,1,none⟩ = some (.slice A3 i.length c3):=(blk_cell HG.out 1).trans rfl;have y2 : w2.cell? ⟨kb,2,none⟩ = some (.slice A4 r.length c4):=(blk_cell HG.out 2).trans rfl))
  have q0 : w2.cell? ⟨k6,0,none⟩ = some nl:=(blk_cell HZ.out 0).trans rfl
  have p0 : w2.frozen? ⟨k6,0,none⟩ = false:=blk_frozen HZ.out 0
  have q1 : w2.cell? ⟨k6,1,none⟩ = some nl:=(blk_cell HZ.out 1).trans rfl
  have p1 : w2.frozen? ⟨k6,1,none⟩ = false:=blk_frozen HZ.out 1
  have q2 : w2.cell? ⟨k6,2,none⟩ = some nl:=(blk_cell HZ.out 2).trans rfl
  have p2 : w2.frozen? ⟨k6,2,none⟩ = false:=blk_frozen HZ.out 2
  have q3 : w2.cell? ⟨k6,3,none⟩ = some nl:=(blk_cell HZ.out 3).trans rfl
  have p3 : w2.frozen? ⟨k6,3,none⟩ = false:=blk_frozen HZ.out 3
  have q4 : w2.cell? ⟨k6,4,none⟩ = some nl:=(blk_cell HZ.out 4).trans rfl
  have p4 : w2.frozen? ⟨k6,4,none⟩ = false:=blk_frozen HZ.out 4
  have q5 : w2.cell? ⟨k6,5,none⟩ = some nl:=(blk_cell HZ.out 5).trans rfl
  have p5 : w2.frozen? ⟨k6,5,none⟩ = false:=blk_frozen HZ.out 5
  have q6 : w2.cell? ⟨k6,6,none⟩ = some nl:=(blk_cell HZ.out 6).trans rfl
  have p6 : w2.frozen? ⟨k6,6,none⟩ = false:=blk_frozen HZ.out 6
  go_wp2
  obtain ⟨hz,_,hb⟩:=put7 HZ.out HB.out H6.out nl nl nl nl nl nl nl
  exact bodyPost_ret (results_ct rfl _ _ k6 70 #[nl,nl,nl,nl,nl,nl,nl] (0,0) _ rfl hz hu2 rfl (by kernel_rfl)) rfl ⟨rfl,hb⟩
 ·have K1:=Aside0.mk (HTa.out _ h1)
  have K2:=Aside0.mk (HTb.out _ h2)
  have K3:=Aside0.mk (HTc.out _ h3)
  clear h1 h2 h3 HTa HTb HTc
  go_enter Try.func57,Try.ntmps57
  go_upto_region 1 with fail
  have HB:=Aside0.mk (below_alloc (below_alloc (Below.refl w.heap.size w) (.cells #[.slice A2 d.length c2,.slice A3 i.length c3,.slice A4 r.length c4] 31)) (.cells #[nl,nl,nl,nl,nl,nl,nl] 70))
  have hG:=blk_alloc (blk_new w (.cells #[.slice A2 d.length c2,.slice A3 i.length c3,.slice A4 r.length c4] 31)) (.cells #[nl,nl,nl,nl,nl,nl,nl] 70)
  have hZ:=blk_new (w.alloc (.cells #[.slice A2 d.length c2,.slice A3 i.length c3,.slice A4 r.length c4] 31)) (.cells #[nl,nl,nl,nl,nl,nl,nl] 70)
  rw [show (w.alloc (.cells #[.slice A2 d.length c2,.slice A3 i.length c3,.slice A4 r.length c4] 31)).heap.size = w.heap.size + 1 by simp] at hZ
  obtain ⟨kb,hkb⟩ : ∃ kb,kb = w.heap.size:=⟨_,rfl⟩
  obtain ⟨k6,hk6⟩ : ∃ k6,k6 = w.heap.size + 1:=⟨_,rfl⟩
  have H6:=Aside0.mk (show w.heap.size ≤ k6 by omega)
  rw [← hkb] at hG
  rw [← hk6] at hZ
  rw [← hk6,← hkb]
  have HG:=Aside0.mk hG
  have HZ:=Aside0.mk hZ
  clear hkb hk6 hG hZ
  generalize (w.alloc (.cells #[.slice A2 d.length c2,.slice A3 i.length c3,.slice A4 r.length c4] 31)).alloc (.cells #[nl,nl,nl,nl,nl,nl,nl] 70) = wS at HB HG HZ ⊢
  have y0 : wS.cell? ⟨kb,0,none⟩ = some (.slice A2 d.length c2):=(blk_cell HG.out 0).trans rfl
  have y1 : wS.cell? ⟨kb,1,none⟩ = some (.slice A3 i.length c3):=(blk_cell HG.out 1).trans rfl
  have y2 : wS.cell? ⟨kb,2,none⟩ = some (.slice A4 r.length c4):=(blk_cell HG.out 2).trans rfl
  go_upto_region 2 with (first | (go_at_call 82;(with_reducible refine (K1.out _ HB.out).mono ?_);rintro e w1 ⟨rfl,hb⟩;replace HB:=Aside0.mk (below_step HB.out hb);replace HG:=Aside0.mk (blk_below HG.out hb);replace HZ:=Aside0.mk (blk_below HZ.out hb);clear hb y0 y1 y2;have y0 : w1.cell? ⟨kb,0,none⟩ = some (.slice A2 d.length c2):=(blk_cell HG.out 0).trans rfl;have y1 : w1.cell? ⟨kb,1,none⟩ = some (.slice A3 i.length c3):=(blk_cell HG.out 1).trans rfl;have y2 : w1.cell? ⟨kb,2,none⟩ = some (.slice A4 r.length c4):=(blk_cell HG.out 2).trans rfl) | (go_at_call 82;(with_reducible refine (K2.out _ HB.out).mono ?_);rintro e w2 ⟨rfl,hb⟩;replace HB:=Aside0.mk (below_step HB.out hb);replace HG:=Aside0.mk (blk_below HG.out hb);replace HZ:=Aside0.mk (blk_below HZ.out hb);clear hb y0 y1 y2;have y0 : w2.cell? ⟨kb,0,none⟩ = some (.slice A2 d.length c2):=(blk_cell HG.out 0).trans rfl;have y1 : w2.cell? ⟨kb,1,none⟩ = some (.slice A3 i.length c3):=(blk_cell HG.out 1).trans rfl;have y2 : w2.cell? ⟨kb,2,none⟩ = some (.slice A4 r.length c4):=(blk_cell HG.out 2).trans rfl) | (go_at_call 74;(with_reducible refine (K3.out _ HB.out).mono ?_);rintro e w3 ⟨rfl,hb⟩;replace HB:=Aside0.mk (below_step HB.out hb);replace HG:=Aside0.mk (blk_below HG.out hb);replace HZ:=Aside0.mk (blk_below HZ.out hb);clear hb y0 y1 y2;have y0 : w3.cell? ⟨kb,0,none⟩ = some (.slice A2 d.length c2):=(blk_cell HG.out 0).trans rfl;have y1 : w3.cell? ⟨kb,1,none⟩ = some (.slice A3 i.length c3):=(blk_cell HG.out 1).trans rfl;have y2 : w3.cell? ⟨kb,2,none⟩ = some (.slice A4 r.length c4):=(blk_cell HG.out 2).trans rfl))
  have q0 : w3.cell? ⟨k6,0,none⟩ = some nl:=(blk_cell HZ.out 0).trans rfl
  have p0 : w3.frozen? ⟨k6,0,none⟩ = false:=blk_frozen HZ.out 0
  have q1 : w3.cell? ⟨k6,1,none⟩ = some nl:=(blk_cell HZ.out 1).trans rfl
  have p1 : w3.frozen? ⟨k6,1,none⟩ = false:=blk_frozen HZ.out 1
  have q2 : w3.cell? ⟨k6,2,none⟩ = some nl:=(blk_cell HZ.out 2).trans rfl
  have p2 : w3.frozen? ⟨k6,2,none⟩ = false:=blk_frozen HZ.out 2
  have q3 : w3.cell? ⟨k6,3,none⟩ = some nl:=(blk_cell HZ.out 3).trans rfl
  have p3 : w3.frozen? ⟨k6,3,none⟩ = false:=blk_frozen HZ.out 3
  have q4 : w3.cell? ⟨k6,4,none⟩ = some nl:=(blk_cell HZ.out 4).trans rfl
  have p4 : w3.frozen? ⟨k6,4,none⟩ = false:=blk_frozen HZ.out 4
  have q5 : w3.cell? ⟨k6,5,none⟩ = some nl:=(blk_cell HZ.out 5).trans rfl
  have p5 : w3.frozen? ⟨k6,5,none⟩ = false:=blk_frozen HZ.out 5
  have q6 : w3.cell? ⟨k6,6,none⟩ = some nl:=(blk_cell HZ.out 6).trans rfl
  have p6 : w3.frozen? ⟨k6,6,none⟩ = false:=blk_frozen HZ.out 6
  go_wp2
  obtain ⟨hz,_,hb⟩:=put7 HZ.out HB.out H6.out nl nl nl nl nl nl nl
  exact bodyPost_ret (results_ct rfl _ _ k6 70 #[nl,nl,nl,nl,nl,nl,nl] (0,0) _ rfl hz hu2 rfl (by kernel_rfl)) rfl ⟨rfl,hb⟩
set_option maxRecDepth 100000 in
set_option maxHeartbeats 16000000 in
theorem mea_yes {q : Nat} {A0 : Option Addr} {c0 : Nat} {a : List NodeI} {A1 : Option Addr} {c1 : Nat} {b : List NodeI} {A2 : Option Addr} {c2 : Nat} {d : List Int} {A3 : Option Addr} {c3 : Nat} {i : List Int} {A4 : Option Addr} {c4 : Nat} {r : List Int} {w : World}
  (hr0 : Kd.C k53 w A0 a.length a) (hc0 : a.length ≤ c0) (hr1 : Kd.C k53 w A1 b.length b) (hc1 : b.length ≤ c1) (hr2 : Kd.C (Kd.int .i64) w A2 d.length d) (hc2 : d.length ≤ c2) (hr3 : Kd.C (Kd.int .i64) w A3 i.length i) (hc3 : i.length ≤ c3) (hr4 : Kd.C (Kd.int .i64) w A4 r.length r) (hc4 : r.length ≤ c4)
  (ta : Tr a) (tb : Tr b) (hco : Co d i r) (h1 : impl_TreeOk.f q a = some true) (h2 : impl_TreeOk.f q b = some true) (h3 : impl_CostOk.f q d i r = some true) (h4 : impl_PostOrder.f q a = some (pst a)) (h5 : impl_PostOrder.f q b = some (pst b)) (h6 : impl_LeftLeaf.f q a = some (lfL a)) (h7 : impl_LeftLeaf.f q b = some (lfL b)) :
  Calls Try.prog 57 #[.slice A0 a.length c0,.slice A1 b.length c1,.agg #[.slice A2 d.length c2,.slice A3 i.length c3,.slice A4 r.length c4]] w fun e w' =>
   ∃ v0 v1 v2 v3 v4 v5 v6 : Value,e = .returned (.tuple #[.agg #[v0,v1,v2,v3,v4,v5,v6],.bool true]) ∧ Below w.heap.size w w' ∧ (IsSl v0 ∧ IsSl v1 ∧ IsSl v2 ∧ IsSl v3 ∧ IsSl v4 ∧ IsSl v5 ∧ IsSl v6) ∧ (∀ bk,w'.heap.size ≤ bk → Row1 w' bk v0 a.length (fun x => (nodeN a x : Int)) ∧ Row1 w' bk v1 b.length (fun x => (nodeN b x : Int)) ∧ Mea (msOf a b d i r) a.length b.length w' bk #[v0,v1,v2,v3,v4,v5,v6]):=by
 have K1 : Aside0 (∀ W,Below w.heap.size w W → _):=⟨fun W hb => impl_TreeOk.calls q A0 c0 a true W (Kd.C_below hr0 hb) hc0 h1⟩
 have K2 : Aside0 (∀ W,Below w.heap.size w W → _):=⟨fun W hb => impl_TreeOk.calls q A1 c1 b true W (Kd.C_below hr1 hb) hc1 h2⟩
 have K3 : Aside0 (∀ W,Below w.heap.size w W → _):=⟨fun W hb => impl_CostOk.calls q A2 c2 d A3 c3 i A4 c4 r true W (Kd.C_below hr2 hb) hc2 (Kd.C_below hr3 hb) hc3 (Kd.C_below hr4 hb) hc4 h3⟩
 have K4 : Aside0 (∀ W,Below w.heap.size w W → _):=⟨fun W hb => nw_call (impl_PostOrder.calls q A0 c0 a (pst a) W (Kd.C_below hr0 hb) hc0 h4) (pst_eq_map ta) ta.len1⟩
 have K5 : Aside0 (∀ W,Below w.heap.size w W → _):=⟨fun W hb => nw_call (impl_PostOrder.calls q A1 c1 b (pst b) W (Kd.C_below hr1 hb) hc1 h5) (pst_eq_map tb) tb.len1⟩
 have K6 : Aside0 (∀ W,Below w.heap.size w W → _):=⟨fun W hb => nw_call (impl_LeftLeaf.calls q A0 c0 a (lfL a) W (Kd.C_below hr0 hb) hc0 h6) rfl ta.len1⟩
 have K7 : Aside0 (∀ W,Below w.heap.size w W → _):=⟨fun W hb => nw_call (impl_LeftLeaf.calls q A1 c1 b (lfL b) W (Kd.C_below hr1 hb) hc1 h7) rfl tb.len1⟩
 have hu:=Try.underlying31
 have hu2:=Try.underlying70
 have HTA:=Aside0.mk ta
 have HTB:=Aside0.mk tb
 have HCO:=Aside0.mk hco
 have HR:=Aside0.mk (And.intro hr0 (And.intro hr1 (And.intro hr2 (And.intro hr3 hr4))))
 have HLN:=Aside0.mk (show 1 ≤ a.length ∧ a.length ≤ 24 ∧ 1 ≤ b.length ∧ b.length ≤ 24 ∧ d.length = 6 ∧ i.length = 6 ∧ r.length = 36 from ⟨ta.len1,ta.len24,tb.len1,tb.len24,hco.dl,hco.il,hco.rl⟩)
 clear h1 h2 h3 h4 h5 h6 h7 hr0 hc0 hr1 hc1 hr2 hc2 hr3 hc3 hr4 hc4 ta tb hco
 go_enter Try.func57,Try.ntmps57
 go_upto_region 1 with fail
 have HB:=Aside0.mk (below_alloc (below_alloc (Below.refl w.heap.size w) (.cells #[.slice A2 d.length c2,.slice A3 i.length c3,.slice A4 r.length c4] 31)) (.cells #[nl,nl,nl,nl,nl,nl,nl] 70))
 have hG:=blk_alloc (blk_new w (.cells #[.slice A2 d.length c2,.slice A3 i.length c3,.slice A4 r.length c4] 31)) (.cells #[nl,nl,nl,nl,nl,nl,nl] 70)
 have hZ:=blk_new (w.alloc (.cells #[.slice A2 d.length c2,.slice A3 i.length c3,.slice A4 r.length c4] 31)) (.cells #[nl,nl,nl,nl,nl,nl,nl] 70)
 rw [show (w.alloc (.cells #[.slice A2 d.length c2,.slice A3 i.length c3,.slice A4 r.length c4] 31)).heap.size = w.heap.size + 1 by simp] at hZ
 obtain ⟨kb,hkb⟩ : ∃ kb,kb = w.heap.size:=⟨_,rfl⟩
 obtain ⟨k6,hk6⟩ : ∃ k6,k6 = w.heap.size + 1:=⟨_,rfl⟩
 have H6:=Aside0.mk (show w.heap.size ≤ k6 by omega)
 rw [← hkb] at hG
 rw [← hk6] at hZ
 rw [← hk6,← hkb]
 have HG:=Aside0.mk hG
 have HZ:=Aside0.mk hZ
 clear hkb hk6 hG hZ
 generalize (w.alloc (.cells #[.slice A2 d.length c2,.slice A3 i.length c3,.slice A4 r.length c4] 31)).alloc (.cells #[nl,nl,nl,nl,nl,nl,nl] 70) = wS at HB HG HZ ⊢
 have y0 : wS.cell? ⟨kb,0,none⟩ = some (.slice A2 d.length c2):=(blk_cell HG.out 0).trans rfl
 have y1 : wS.cell? ⟨kb,1,none⟩ = some (.slice A3 i.length c3):=(blk_cell HG.out 1).trans rfl
 have y2 : wS.cell? ⟨kb,2,none⟩ = some (.slice A4 r.length c4):=(blk_cell HG.out 2).trans rfl
 go_upto_region 4 with (first | (go_at_call 82;(with_reducible refine (K1.out _ HB.out).mono ?_);rintro e w1 ⟨rfl,hb⟩;replace HB:=Aside0.mk (below_step HB.out hb);replace HG:=Aside0.mk (blk_below HG.out hb);replace HZ:=Aside0.mk (blk_below HZ.out hb);clear hb y0 y1 y2;have y0 : w1.cell? ⟨kb,0,none⟩ = some (.slice A2 d.length c2):=(blk_cell HG.out 0).trans rfl;have y1 : w1.cell? ⟨kb,1,none⟩ = some (.slice A3 i.length c3):=(blk_cell HG.out 1).trans rfl;have y2 : w1.cell? ⟨kb,2,none⟩ = some (.slice A4 r.length c4):=(blk_cell HG.out 2).trans rfl) | (go_at_call 82;(with_reducible refine (K2.out _ HB.out).mono ?_);rintro e w2 ⟨rfl,hb⟩;replace HB:=Aside0.mk (below_step HB.out hb);replace HG:=Aside0.mk (blk_below HG.out hb);replace HZ:=Aside0.mk (blk_below HZ.out hb);clear hb y0 y1 y2;have y0 : w2.cell? ⟨kb,0,none⟩ = some (.slice A2 d.length c2):=(blk_cell HG.out 0).trans rfl;have y1 : w2.cell? ⟨kb,1,none⟩ = some (.slice A3 i.length c3):=(blk_cell HG.out 1).trans rfl;have y2 : w2.cell? ⟨kb,2,none⟩ = some (.slice A4 r.length c4):=(blk_cell HG.out 2).trans rfl) | (go_at_call 74;(with_reducible refine (K3.out _ HB.out).mono ?_);rintro e w3 ⟨rfl,hb⟩;replace HB:=Aside0.mk (below_step HB.out hb);replace HG:=Aside0.mk (blk_below HG.out hb);replace HZ:=Aside0.mk (blk_below HZ.out hb);clear hb y0 y1 y2;have y0 : w3.cell? ⟨kb,0,none⟩ = some (.slice A2 d.length c2):=(blk_cell HG.out 0).trans rfl;have y1 : w3.cell? ⟨kb,1,none⟩ = some (.slice A3 i.length c3):=(blk_cell HG.out 1).trans rfl;have y2 : w3.cell? ⟨kb,2,none⟩ = some (.slice A4 r.length c4):=(blk_cell HG.out 2).trans rfl) | (go_at_call 83;(with_reducible refine (K4.out _ HB.out).mono ?_);rintro e w4 ⟨avA,cvA,rfl,hvA,hb⟩;have HvA:=Aside0.mk hvA;replace HB:=Aside0.mk (below_step HB.out hb);replace HG:=Aside0.mk (blk_below HG.out hb);replace HZ:=Aside0.mk (blk_below HZ.out hb);clear hb hvA) | (go_at_call 83;(with_reducible refine (K5.out _ HB.out).mono ?_);rintro e w5 ⟨avB,cvB,rfl,hvB,hb⟩;have HvB:=Aside0.mk hvB;replace HB:=Aside0.mk (below_step HB.out hb);replace HG:=Aside0.mk (blk_below HG.out hb);replace HZ:=Aside0.mk (blk_below HZ.out hb);replace HvA:=Aside0.mk (HvA.out.below hb);clear hb hvB) | (go_at_call 84;(with_reducible refine (K6.out _ HB.out).mono ?_);rintro e w6 ⟨alA,clA,rfl,hlA,hb⟩;have HlA:=Aside0.mk hlA;replace HB:=Aside0.mk (below_step HB.out hb);replace HG:=Aside0.mk (blk_below HG.out hb);replace HZ:=Aside0.mk (blk_below HZ.out hb);replace HvA:=Aside0.mk (HvA.out.below hb);replace HvB:=Aside0.mk (HvB.out.below hb);clear hb hlA) | (go_at_call 84;(with_reducible refine (K7.out _ HB.out).mono ?_);rintro e w7 ⟨alB,clB,rfl,hlB,hb⟩;have HlB:=Aside0.mk hlB;replace HB:=Aside0.mk (below_step HB.out hb);replace HG:=Aside0.mk (blk_below HG.out hb);replace HZ:=Aside0.mk (blk_below HZ.out hb);replace HvA:=Aside0.mk (HvA.out.below hb);replace HvB:=Aside0.mk (HvB.out.below hb);replace HlA:=Aside0.mk (HlA.out.below hb);clear hb hlB))
 obtain ⟨hr0,hr1,hr2,hr3,hr4⟩:=HR.out
 obtain ⟨l1,l2,l3,l4,l5,l6,l7⟩:=HLN.out
 obtain ⟨ad0,rfl,s0⟩:=lab_C (Kd.C_below hr0 HB.out) l1
 obtain ⟨ad1,rfl,s1⟩:=lab_C (Kd.C_below hr1 HB.out) l3
 obtain ⟨ad2,rfl,s2⟩:=nw_C (Kd.C_below hr2 HB.out) l5 (by omega)
 obtain ⟨ad3,rfl,s3⟩:=nw_C (Kd.C_below hr3 HB.out) l6 (by omega)
 obtain ⟨ad4,rfl,s4⟩:=nw_C (Kd.C_below hr4 HB.out) l7 (by omega)
 have HSr:=Aside0.mk (Src.mk s0 s1 s2 s3 s4 HvA.out.nw HvB.out.nw (bx_of HG.out))
 have HM:=Aside0.mk (mz_new w7 (.slice (some avA) a.length cvA) (.slice (some avB) b.length cvB) (.slice (some alA) a.length clA) (.slice (some alB) b.length clB) (msOf a b d i r) b.length (fun _ => (none,0,0)))
 have HMD:=Aside0.mk (show (∀ x,(msOf a b d i r).del x = d.getD (lab a (nodeN a x)).toNat 0) ∧ (∀ x,(msOf a b d i r).ins x = i.getD (lab b (nodeN b x)).toNat 0) ∧ ∀ x y,(msOf a b d i r).rel x y = r.getD (6 * (lab a (nodeN a x)).toNat + (lab b (nodeN b y)).toNat) 0 from ⟨fun _ => rfl,fun _ => rfl,fun _ _ => rfl⟩)
 obtain ⟨M,hM⟩ : ∃ M,M = msOf a b d i r:=⟨_,rfl⟩
 have HMe:=Aside0.mk hM
 rw [← hM] at HM HMD
 obtain ⟨k8,hk8⟩ : ∃ k8,k8 = w7.heap.size:=⟨_,rfl⟩
 rw [← hk8]
 have HK8:=Aside0.mk hk8
 rw [show Mz w7 w7.heap.size = Mz w7 k8 from by rw [hk8]] at HM
 clear hM hk8 hr0 hr1 hr2 hr3 hr4 l1 l2 l3 l4 l5 l6 l7 s0 s1 s2 s3 s4 y0 y1 y2 K1 K2 K3 K4 K5 K6 K7
 generalize w7.alloc (.cells #[.slice (some avA) a.length cvA,.slice (some avB) b.length cvB,.slice (some alA) a.length clA,.slice (some alB) b.length clB,nl,nl,nl] 70) = w8 at HM ⊢
 have x1 : w8.cell? ⟨k8,1,none⟩ = some (.slice (some avB) b.length cvB):=(blk_cell HM.out.bk 1).trans rfl
 go_wp2
 clear x1
 go_loopg [42] b.length (fun gg v42 wr => ∃ (s : Nat) (u5 : Value),v42 = .int .i64 (s : Int) ∧ s ≤ b.length ∧ b.length - s ≤ gg ∧ Aside0 (Mz w7 k8 (.slice (some avA) a.length cvA) (.slice (some avB) b.length cvB) (.slice (some alA) a.length clA) (.slice (some alB) b.length clB) nl u5 nl nl u5 nl M b.length s 0 0 (fun _ => (none,0,0)) wr))
 case atStart => exact ⟨0,_,rfl,Nat.zero_le _,Nat.le_refl _,HM⟩
 case round =>
  as_aux_lemma =>
   clear HM
   obtain ⟨s,u5,rfl,hs1,hgg,HM⟩:=hrel
   by_cases hs : s < b.length
   ·have hnb:=nodeN_lt HTB.out hs
    have chk:=HTB.out.chk _ hnb
    have k0:=chk.l0
    have k5:=chk.l5
    have src:=HSr.out.below HG.out HM.out.bel
    obtain ⟨nb,en⟩ : ∃ z,z = nodeN b s:=⟨_,rfl⟩
    have zb:=src.oB.c s hs
    have zl:=src.lb _ hnb
    rw [← en] at zb zl hnb k0 k5
    obtain ⟨lx,el⟩ : ∃ z : Nat,lab b nb = (z : Int):=⟨(lab b nb).toNat,by omega⟩
    have zp:=src.pi.c lx (by omega)
    rw [el] at zl
    obtain ⟨pr,ep⟩ : ∃ z,z = i.getD lx 0:=⟨_,rfl⟩
    rw [← ep] at zp
    have HZZ:=Aside0.mk (show w7.cell? (ad1.add (nb * 2)) = some (.int .i64 (lx : Int)) ∧ w7.cell? (ad3.add lx) = some (.int .i64 pr) from ⟨by have h:=HSr.out.lb nb hnb;rwa [el] at h,by rw [ep];exact HSr.out.pi.c lx (by omega)⟩)
    have hil:=HLN.out.2.2.2.2.2.1
    have b1 : ((s : Int) < (b.length : Int)) = True:=eq_true (by omega)
    have b2 : (0 ≤ (s : Int)) = True:=eq_true (by omega)
    have b3 : (0 ≤ (nb : Int)) = True:=eq_true (by omega)
    have b4 : ((nb : Int) < (b.length : Int)) = True:=eq_true (by omega)
    have b5 : (0 ≤ (lx : Int)) = True:=eq_true (by omega)
    have b6 : ((lx : Int) < (i.length : Int)) = True:=eq_true (by omega)
    have HE:=Aside0.mk (show pr = M.ins s by rw [HMD.out.2.1 s,← en,el];exact ep)
    have HQ:=Aside0.mk (And.intro hs1 (And.intro hgg hs))
    clear hs1 hgg hs hnb chk k0 k5 src en el ep hil
    go_upto_region 7 with fail
    clear zb zl zp
    refine start_ (n:=15) (S:=fun w' => w'.cell? ⟨k8,5,none⟩ = some u5 ∧ w'.cell? ⟨kb,1,none⟩ = some (.slice (some ad3) i.length c3) ∧ w'.cell? (ad1.add (nb * 2)) = some (.int .i64 (lx : Int)) ∧ w'.cell? (ad3.add lx) = some (.int .i64 pr)) (ds:=[14]) (ba_ 15 0) (by kernel_rfl) rfl rfl ⟨(blk_cell HM.out.bk 5).trans rfl,(HSr.out.below HG.out HM.out.bel).bx.c1,pw_cell_below HM.out.bel HZZ.out.1,pw_cell_below HM.out.bel HZZ.out.2⟩ (fun hHeld => ?_)
    refine with_tabW meaR.tab7 meaR.bits7 (fun HT_ HW_ => ?_)
    replace HM:=Aside0.mk (HM.out.ch (w':=wr.drew))
    refine pu_ 0 (some 46) (ba_ 15 1) rfl rfl (any_of HT_.out (by kernel_rfl)) ?_
    refine pu_ 2 (some 48) (ba_ 15 5) rfl rfl (any_of HT_.out (by kernel_rfl)) ?_
    refine pu_ 4 (some 50) (ba_ 15 21) rfl rfl (any_of HT_.out (by kernel_rfl)) ?_
    refine pu_ 5 (some 51) (ba_ 15 53) rfl rfl (any_of HT_.out (by kernel_rfl)) ?_
    refine pu_ 6 (some 52) (ba_ 15 117) rfl rfl (any_of HT_.out (by kernel_rfl)) ?_
    refine pu_ 7 (some 53) (ba_ 15 245) rfl rfl (any_of HT_.out (by kernel_rfl)) ?_
    refine ta_ 1 (some 47) (ba_ 15 247) rfl rfl (take_ofW HT_.out HW_.out (by kernel_rfl)) hHeld (by rintro w' ⟨q0,q1,q2,q3⟩;go_simp;with_reducible rfl) ?_
    refine ta_ 3 (some 49) (ba_ 15 255) rfl rfl (take_ofW HT_.out HW_.out (by kernel_rfl)) hHeld (by rintro w' ⟨q0,q1,q2,q3⟩;go_simp;with_reducible rfl) ?_
    refine ta_ 8 (some 54) (ba_ 15 511) rfl rfl (take_ofW HT_.out HW_.out (by kernel_rfl)) hHeld (by rintro w' ⟨q0,q1,q2,q3⟩;go_simp;with_reducible rfl) ?_
    refine pu_ 9 (some 55) (ba_ 15 1023) rfl rfl (any_of HT_.out (by kernel_rfl)) ?_
    refine ta_ 10 (some 56) (ba_ 15 2047) rfl rfl (take_ofW HT_.out HW_.out (by kernel_rfl)) hHeld (by rintro w' ⟨q0,q1,q2,q3⟩;go_simp;with_reducible rfl) ?_
    refine one_ (i:=11) (N:=some 57) (ba_ 15 4095) rfl rfl (one_of HT_.out (by kernel_rfl)) (by decide) (fun K hK => ?_)
    refine slit_at (by rfl) (N:=57) (by rfl) (cs:=#[.int .i64 pr]) (t:=3) (by first | (go_simp;done) | (go_simp;rfl)) ?_
    intro g57 hg w57 hb57 b57
    replace HM:=Aside0.mk (HM.out.below b57)
    have L57:=Aside0.mk hb57
    clear hHeld hg hb57 b57
    refine hK.out _ _ ⟨(blk_cell HM.out.bk 5).trans rfl,(HSr.out.below HG.out HM.out.bel).bx.c1,pw_cell_below HM.out.bel HZZ.out.1,pw_cell_below HM.out.bel HZZ.out.2⟩ (fun hHeld => ?_)
    clear hK K
    refine norm_ (a':=?_) ?_ ?_
    rotate_left
    ·show Act.put _ (some 57) _ = _
     simp only [Act.put,List.setIfInBounds_toArray,List.set_cons_zero,List.set_cons_succ,i64_w,i32_w]
     rfl
    refine one_ (i:=12) (N:=some 58) (ba_ 15 8191) rfl rfl (one_of HT_.out (by kernel_rfl)) (by decide) (fun K hK => ?_)
    refine iapp_at 47 57 pr (g:=g57) HM.out.r5 HM.out.bel.size (by simp;have:=HLN.out;have:=HQ.out;omega) L57.out (by rfl) (by rfl) (by rfl) (by rfl) ?_
    intro v58 w58 h1 hg hat hb
    rw [HE.out,← range_up] at h1
    obtain ⟨A58,c58,e58⟩:=Kd.R_slice h1
    rw [List.length_map,List.length_range] at e58
    subst e58
    replace HM:=Aside0.mk (HM.out.app5 (W:=_) h1 hg hat hb)
    clear hHeld h1 hg hat hb
    refine hK.out _ _ ⟨(blk_cell HM.out.bk 5).trans rfl,(HSr.out.below HG.out HM.out.bel).bx.c1,pw_cell_below HM.out.bel HZZ.out.1,pw_cell_below HM.out.bel HZZ.out.2⟩ (fun hHeld => ?_)
    clear hK K
    refine norm_ (a':=?_) ?_ ?_
    rotate_left
    ·show Act.put _ (some 58) _ = _
     simp only [Act.put,List.setIfInBounds_toArray,List.set_cons_zero,List.set_cons_succ,i64_w,i32_w]
     rfl
    refine pu_ 13 (some 59) (ba_ 15 16383) rfl rfl (any_of HT_.out (by kernel_rfl)) ?_
    refine last_ (i:=14) (N:=none) (ba_ 15 32767) rfl rfl (one_of HT_.out (by kernel_rfl)) (by decide) (fun K hK => ?_)
    have xs : w58.cell? ⟨k8,5,none⟩ = some u5:=(blk_cell HM.out.bk 5).trans rfl
    have fs : w58.frozen? ⟨k8,5,none⟩ = false:=blk_frozen HM.out.bk 5
    refine sstore_at (by rfl) (w1:=w58.setCell ⟨k8,5,none⟩ (.slice A58 (s + 1) c58)) (by first | (go_simp;done) | (go_simp;rfl)) ?_
    replace HM:=Aside0.mk (HM.out.put5 (.slice A58 (s + 1) c58))
    clear xs fs
    refine hK.out _ _ ?_
    clear hK K
    refine norm_ (a':=?_) ?_ ?_
    rotate_left
    ·show Act.put _ (none) _ = _
     simp only [Act.put,List.setIfInBounds_toArray,List.set_cons_zero,List.set_cons_succ,i64_w,i32_w]
     rfl
    refine done_ (done_of HT_.out (by kernel_rfl)) ?_
    clear hHeld
    generalize w58.setCell ⟨k8,5,none⟩ (.slice A58 (s + 1) c58) = w60 at HM ⊢
    go_wp2
    obtain ⟨hs1,hgg,hs⟩:=HQ.out
    have h24:=HLN.out.2.2.2.1
    go_roundg (b.length - (s + 1))
    case measure => omega
    case rel => exact ⟨s + 1,_,(by first | exact congrArg _ (wrap_succ hs (by omega)) | exact congrArg _ ((i64_w _).trans (wrap_succ hs (by omega)))),by omega,Nat.le_refl _,HM⟩
   ·obtain rfl : s = b.length:=by omega
    have b1 : ((b.length : Int) < (b.length : Int)) = False:=eq_false (by omega)
    have x0 : wr.cell? ⟨k8,0,none⟩ = some (.slice (some avA) a.length cvA):=(blk_cell HM.out.bk 0).trans rfl
    clear hs1 hgg hs
    go_wp2
    clear x0 b1
    go_loopg [64] a.length (fun gg v64 wr => ∃ (x : Nat) (u4 u6 : Value) (U : Nat → Sl),v64 = .int .i64 (x : Int) ∧ x ≤ a.length ∧ a.length - x ≤ gg ∧ Aside0 (Mz w7 k8 (.slice (some avA) a.length cvA) (.slice (some avB) b.length cvB) (.slice (some alA) a.length clA) (.slice (some alB) b.length clB) u4 u5 u6 u4 u5 u6 M b.length b.length x x U wr))
    case atStart => exact ⟨0,_,_,_,rfl,Nat.zero_le _,Nat.le_refl _,HM⟩
    case round =>
     as_aux_lemma =>
      clear HM
      obtain ⟨x,u4,u6,U,rfl,hx1,hgg,HM⟩:=hrel
      by_cases hx : x < a.length
      ·have hna:=nodeN_lt HTA.out hx
       have chk:=HTA.out.chk _ hna
       have k0:=chk.l0
       have k5:=chk.l5
       have src:=HSr.out.below HG.out HM.out.bel
       obtain ⟨na,en⟩ : ∃ z,z = nodeN a x:=⟨_,rfl⟩
       have za:=src.oA.c x hx
       rw [← en] at za hna k0 k5
       obtain ⟨lx,el⟩ : ∃ z : Nat,lab a na = (z : Int):=⟨(lab a na).toNat,by omega⟩
       obtain ⟨pr,ep⟩ : ∃ z,z = d.getD lx 0:=⟨_,rfl⟩
       have HZZ:=Aside0.mk (show w7.cell? (ad0.add (na * 2)) = some (.int .i64 (lx : Int)) ∧ w7.cell? (ad2.add lx) = some (.int .i64 pr) from ⟨by have h:=HSr.out.la na hna;rwa [el] at h,by rw [ep];exact HSr.out.pd.c lx (by omega)⟩)
       have hil:=HLN.out.2.2.2.2.1
       have b1 : ((x : Int) < (a.length : Int)) = True:=eq_true (by omega)
       have b2 : (0 ≤ (x : Int)) = True:=eq_true (by omega)
       have b3 : (0 ≤ (na : Int)) = True:=eq_true (by omega)
       have b4 : ((na : Int) < (a.length : Int)) = True:=eq_true (by omega)
       have b5 : (0 ≤ (lx : Int)) = True:=eq_true (by omega)
       have b6 : ((lx : Int) < (d.length : Int)) = True:=eq_true (by omega)
       have HE:=Aside0.mk (show pr = M.del x by rw [HMD.out.1 x,← en,el];exact ep)
       have HQ:=Aside0.mk (And.intro hx1 (And.intro hgg hx))
       have HLX:=Aside0.mk (show lx ≤ 5 ∧ (lab a (nodeN a x)).toNat = lx from ⟨by omega,by rw [← en,el];rfl⟩)
       clear hx1 hgg hx hna chk k0 k5 src en el ep hil
       go_upto_region 12 with fail
       clear za
       refine start_ (n:=15) (S:=fun w' => w'.cell? ⟨k8,4,none⟩ = some u4 ∧ w'.cell? ⟨kb,0,none⟩ = some (.slice (some ad2) d.length c2) ∧ w'.cell? (ad0.add (na * 2)) = some (.int .i64 (lx : Int)) ∧ w'.cell? (ad2.add lx) = some (.int .i64 pr)) (ds:=[14]) (ba_ 15 0) (by kernel_rfl) rfl rfl ⟨(blk_cell HM.out.bk 4).trans rfl,(HSr.out.below HG.out HM.out.bel).bx.c0,pw_cell_below HM.out.bel HZZ.out.1,pw_cell_below HM.out.bel HZZ.out.2⟩ (fun hHeld => ?_)
       refine with_tabW meaR.tab12 meaR.bits12 (fun HT_ HW_ => ?_)
       replace HM:=Aside0.mk (HM.out.ch (w':=wr.drew))
       refine pu_ 0 (some 68) (ba_ 15 1) rfl rfl (any_of HT_.out (by kernel_rfl)) ?_
       refine pu_ 2 (some 70) (ba_ 15 5) rfl rfl (any_of HT_.out (by kernel_rfl)) ?_
       refine pu_ 4 (some 72) (ba_ 15 21) rfl rfl (any_of HT_.out (by kernel_rfl)) ?_
       refine pu_ 5 (some 73) (ba_ 15 53) rfl rfl (any_of HT_.out (by kernel_rfl)) ?_
       refine pu_ 6 (some 74) (ba_ 15 117) rfl rfl (any_of HT_.out (by kernel_rfl)) ?_
       refine pu_ 7 (some 75) (ba_ 15 245) rfl rfl (any_of HT_.out (by kernel_rfl)) ?_
       refine ta_ 1 (some 69) (ba_ 15 247) rfl rfl (take_ofW HT_.out HW_.out (by kernel_rfl)) hHeld (by rintro w' ⟨q0,q1,q2,q3⟩;go_simp;with_reducible rfl) ?_
       refine ta_ 3 (some 71) (ba_ 15 255) rfl rfl (take_ofW HT_.out HW_.out (by kernel_rfl)) hHeld (by rintro w' ⟨q0,q1,q2,q3⟩;go_simp;with_reducible rfl) ?_
       refine ta_ 8 (some 76) (ba_ 15 511) rfl rfl (take_ofW HT_.out HW_.out (by kernel_rfl)) hHeld (by rintro w' ⟨q0,q1,q2,q3⟩;go_simp;with_reducible rfl) ?_
       refine pu_ 9 (some 77) (ba_ 15 1023) rfl rfl (any_of HT_.out (by kernel_rfl)) ?_
       refine ta_ 10 (some 78) (ba_ 15 2047) rfl rfl (take_ofW HT_.out HW_.out (by kernel_rfl)) hHeld (by rintro w' ⟨q0,q1,q2,q3⟩;go_simp;with_reducible rfl) ?_
       refine one_ (i:=11) (N:=some 79) (ba_ 15 4095) rfl rfl (one_of HT_.out (by kernel_rfl)) (by decide) (fun K hK => ?_)
       refine slit_at (by rfl) (N:=79) (by rfl) (cs:=#[.int .i64 pr]) (t:=3) (by first | (go_simp;done) | (go_simp;rfl)) ?_
       intro g79 hg w79 hb79 b79
       replace HM:=Aside0.mk (HM.out.below b79)
       have L79:=Aside0.mk hb79
       clear hHeld hg hb79 b79
       refine hK.out _ _ ⟨(blk_cell HM.out.bk 4).trans rfl,(HSr.out.below HG.out HM.out.bel).bx.c0,pw_cell_below HM.out.bel HZZ.out.1,pw_cell_below HM.out.bel HZZ.out.2⟩ (fun hHeld => ?_)
       clear hK K
       refine norm_ (a':=?_) ?_ ?_
       rotate_left
       ·show Act.put _ (some 79) _ = _
        simp only [Act.put,List.setIfInBounds_toArray,List.set_cons_zero,List.set_cons_succ,i64_w,i32_w]
        rfl
       refine one_ (i:=12) (N:=some 80) (ba_ 15 8191) rfl rfl (one_of HT_.out (by kernel_rfl)) (by decide) (fun K hK => ?_)
       refine iapp_at 69 79 pr (g:=g79) HM.out.r4 HM.out.bel.size (by simp;have:=HLN.out;have:=HQ.out;omega) L79.out (by rfl) (by rfl) (by rfl) (by rfl) ?_
       intro v80 w80 h1 hg hat hb
       rw [HE.out,← range_up] at h1
       obtain ⟨A80,c80,e80⟩:=Kd.R_slice h1
       rw [List.length_map,List.length_range] at e80
       subst e80
       replace HM:=Aside0.mk (HM.out.app4 (W:=_) h1 hg hat hb)
       clear hHeld h1 hg hat hb
       refine hK.out _ _ ⟨(blk_cell HM.out.bk 4).trans rfl,(HSr.out.below HG.out HM.out.bel).bx.c0,pw_cell_below HM.out.bel HZZ.out.1,pw_cell_below HM.out.bel HZZ.out.2⟩ (fun hHeld => ?_)
       clear hK K
       refine norm_ (a':=?_) ?_ ?_
       rotate_left
       ·show Act.put _ (some 80) _ = _
        simp only [Act.put,List.setIfInBounds_toArray,List.set_cons_zero,List.set_cons_succ,i64_w,i32_w]
        rfl
       refine pu_ 13 (some 81) (ba_ 15 16383) rfl rfl (any_of HT_.out (by kernel_rfl)) ?_
       refine last_ (i:=14) (N:=none) (ba_ 15 32767) rfl rfl (one_of HT_.out (by kernel_rfl)) (by decide) (fun K hK => ?_)
       have xs : w80.cell? ⟨k8,4,none⟩ = some u4:=(blk_cell HM.out.bk 4).trans rfl
       have fs : w80.frozen? ⟨k8,4,none⟩ = false:=blk_frozen HM.out.bk 4
       refine sstore_at (by rfl) (w1:=w80.setCell ⟨k8,4,none⟩ (.slice A80 (x + 1) c80)) (by first | (go_simp;done) | (go_simp;rfl)) ?_
       replace HM:=Aside0.mk (HM.out.put4 (.slice A80 (x + 1) c80))
       clear xs fs
       refine hK.out _ _ ?_
       clear hK K
       refine norm_ (a':=?_) ?_ ?_
       rotate_left
       ·show Act.put _ (none) _ = _
        simp only [Act.put,List.setIfInBounds_toArray,List.set_cons_zero,List.set_cons_succ,i64_w,i32_w]
        rfl
       refine done_ (done_of HT_.out (by kernel_rfl)) ?_
       clear hHeld
       generalize w80.setCell ⟨k8,4,none⟩ (.slice A80 (x + 1) c80) = w82 at HM ⊢
       go_upto_region 14 with fail
       have HM0:=HM
       obtain ⟨g13,hg13⟩ : ∃ g,g = w82.heap.size:=⟨_,rfl⟩
       have HI : Aside0 (IX (w82.alloc (.cells #[] 3)) w82.heap.size (.slice (some ⟨g13,0,none⟩) 0 0) ((List.range 0).map (M.rel x))):=⟨by rw [hg13];exact ix_lit0 w82⟩
       have HIb:=Aside0.mk (below_alloc (Below.refl w82.heap.size w82) (.cells #[] 3))
       rw [← hg13]
       clear hg13
       generalize w82.alloc (.cells #[] 3) = w83 at HI HIb ⊢
       replace HM:=Aside0.mk (HM0.out.below HIb.out)
       have x1 : w83.cell? ⟨k8,1,none⟩ = some (.slice (some avB) b.length cvB):=(blk_cell HM.out.bk 1).trans rfl
       go_wp2
       have HZ1:=HZZ
       clear x1 b1 b2 HE HZZ HM L79
       go_loopg [13,86] b.length (fun gg v13 v86 wr => ∃ (s : Nat),v86 = .int .i64 (s : Int) ∧ s ≤ b.length ∧ b.length - s ≤ gg ∧ Aside0 (IX wr w82.heap.size v13 ((List.range s).map (M.rel x))) ∧ Aside0 (Below w82.heap.size w82 wr))
       case atStart => exact ⟨0,rfl,Nat.zero_le _,Nat.le_refl _,HI,HIb⟩
       case round =>
        as_aux_lemma =>
         clear HI HIb
         obtain ⟨s,rfl,hs1,hgg,HI,HIb⟩:=hrel
         have HM:=Aside0.mk (HM0.out.below HIb.out)
         by_cases hs : s < b.length
         ·have hnb:=nodeN_lt HTB.out hs
          have chk:=HTB.out.chk _ hnb
          have k0:=chk.l0
          have k5:=chk.l5
          have src:=HSr.out.below HG.out HM.out.bel
          obtain ⟨nb,en⟩ : ∃ z,z = nodeN b s:=⟨_,rfl⟩
          have zb:=src.oB.c s hs
          rw [← en] at zb hnb k0 k5
          obtain ⟨ly,el⟩ : ∃ z : Nat,lab b nb = (z : Int):=⟨(lab b nb).toNat,by omega⟩
          obtain ⟨lx5,lxe⟩:=HLX.out
          obtain ⟨m6,em6⟩ : ∃ z,z = 6 * lx:=⟨_,rfl⟩
          obtain ⟨ix,eix⟩ : ∃ z,z = m6 + ly:=⟨_,rfl⟩
          obtain ⟨pr,ep⟩ : ∃ z,z = r.getD ix 0:=⟨_,rfl⟩
          have HZZ:=Aside0.mk (show w7.cell? (ad0.add (na * 2)) = some (.int .i64 (lx : Int)) ∧ w7.cell? (ad1.add (nb * 2)) = some (.int .i64 (ly : Int)) ∧ w7.cell? (ad4.add ix) = some (.int .i64 pr) from ⟨HZ1.out.1,by have h:=HSr.out.lb nb hnb;rwa [el] at h,by rw [ep];exact HSr.out.pr.c ix (by omega)⟩)
          have hrl:=HLN.out.2.2.2.2.2.2
          have G1:=Aside0.mk (show wrap64 ((lx : Int) * 6) = (m6 : Int) by rw [wid (by omega) (by omega),em6];omega)
          have G2:=Aside0.mk (show wrap64 ((m6 : Int) + (ly : Int)) = (ix : Int) by rw [wid (by omega) (by omega),eix];omega)
          have b1 : ((s : Int) < (b.length : Int)) = True:=eq_true (by omega)
          have b2 : (0 ≤ (s : Int)) = True:=eq_true (by omega)
          have b7 : (0 ≤ (nb : Int)) = True:=eq_true (by omega)
          have b8 : ((nb : Int) < (b.length : Int)) = True:=eq_true (by omega)
          have b9 : (0 ≤ (ix : Int)) = True:=eq_true (by omega)
          have b10 : ((ix : Int) < (r.length : Int)) = True:=eq_true (by omega)
          have HE:=Aside0.mk (show pr = M.rel x s by rw [HMD.out.2.2 x s,lxe,← en,el,ep,eix,em6];rfl)
          have HQ:=Aside0.mk (And.intro hs1 (And.intro hgg hs))
          clear hs1 hgg hs hnb chk k0 k5 src en el ep hrl lx5 lxe em6 eix
          go_upto_region 17 with fail
          clear zb
          refine start_ (n:=20) (S:=fun w' => w'.cell? ⟨kb,2,none⟩ = some (.slice (some ad4) r.length c4) ∧ w'.cell? (ad0.add (na * 2)) = some (.int .i64 (lx : Int)) ∧ w'.cell? (ad1.add (nb * 2)) = some (.int .i64 (ly : Int)) ∧ w'.cell? (ad4.add ix) = some (.int .i64 pr)) (ds:=[]) (ba_ 20 0) (by kernel_rfl) rfl rfl ⟨(HSr.out.below HG.out HM.out.bel).bx.c2,pw_cell_below HM.out.bel HZZ.out.1,pw_cell_below HM.out.bel HZZ.out.2.1,pw_cell_below HM.out.bel HZZ.out.2.2⟩ (fun hHeld => ?_)
          refine with_tabW meaR.tab17 meaR.bits17 (fun HT_ HW_ => ?_)
          replace HI:=Aside0.mk (Kd.R_below HI.out (below_drew (Below.refl _ _)))
          replace HIb:=Aside0.mk (below_drew HIb.out)
          replace HM:=Aside0.mk (HM0.out.below HIb.out)
          refine pure_ (i:=0) (N:=some 90) (v:=?_) (a':=?_) (ba_ 20 1) rfl rfl (any_of HT_.out (by kernel_rfl)) (fun _ _ _ h => h) (Or.inl ⟨by rfl,?_⟩) ?_ ?_
          rotate_left
          ·intro w'
           go_simp
           with_reducible rfl
          rotate_left
          ·simp only [Act.put,List.setIfInBounds_toArray,List.set_cons_zero,List.set_cons_succ,i64_w,i32_w,G1.out,G2.out]
           rfl
          refine pure_ (i:=1) (N:=some 91) (v:=?_) (a':=?_) (ba_ 20 3) rfl rfl (any_of HT_.out (by kernel_rfl)) (fun _ _ _ h => h) (Or.inl ⟨by rfl,?_⟩) ?_ ?_
          rotate_left
          ·intro w'
           go_simp
           with_reducible rfl
          rotate_left
          ·simp only [Act.put,List.setIfInBounds_toArray,List.set_cons_zero,List.set_cons_succ,i64_w,i32_w,G1.out,G2.out]
           rfl
          refine pure_ (i:=3) (N:=some 93) (v:=?_) (a':=?_) (ba_ 20 11) rfl rfl (any_of HT_.out (by kernel_rfl)) (fun _ _ _ h => h) (Or.inl ⟨by rfl,?_⟩) ?_ ?_
          rotate_left
          ·intro w'
           go_simp
           with_reducible rfl
          rotate_left
          ·simp only [Act.put,List.setIfInBounds_toArray,List.set_cons_zero,List.set_cons_succ,i64_w,i32_w,G1.out,G2.out]
           rfl
          refine pure_ (i:=4) (N:=some 94) (v:=?_) (a':=?_) (ba_ 20 27) rfl rfl (any_of HT_.out (by kernel_rfl)) (fun _ _ _ h => h) (Or.inl ⟨by rfl,?_⟩) ?_ ?_
          rotate_left
          ·intro w'
           go_simp
           with_reducible rfl
          rotate_left
          ·simp only [Act.put,List.setIfInBounds_toArray,List.set_cons_zero,List.set_cons_succ,i64_w,i32_w,G1.out,G2.out]
           rfl
          refine pure_ (i:=5) (N:=some 95) (v:=?_) (a':=?_) (ba_ 20 59) rfl rfl (any_of HT_.out (by kernel_rfl)) (fun _ _ _ h => h) (Or.inl ⟨by rfl,?_⟩) ?_ ?_
          rotate_left
          ·intro w'
           go_simp
           with_reducible rfl
          rotate_left
          ·simp only [Act.put,List.setIfInBounds_toArray,List.set_cons_zero,List.set_cons_succ,i64_w,i32_w,G1.out,G2.out]
           rfl
          refine pure_ (i:=6) (N:=some 96) (v:=?_) (a':=?_) (ba_ 20 123) rfl rfl (any_of HT_.out (by kernel_rfl)) (fun _ _ _ h => h) (Or.inl ⟨by rfl,?_⟩) ?_ ?_
          rotate_left
          ·intro w'
           go_simp
           with_reducible rfl
          rotate_left
          ·simp only [Act.put,List.setIfInBounds_toArray,List.set_cons_zero,List.set_cons_succ,i64_w,i32_w,G1.out,G2.out]
           rfl
          refine pure_ (i:=9) (N:=some 99) (v:=?_) (a':=?_) (ba_ 20 635) rfl rfl (any_of HT_.out (by kernel_rfl)) (fun _ _ _ h => h) (Or.inl ⟨by rfl,?_⟩) ?_ ?_
          rotate_left
          ·intro w'
           go_simp
           with_reducible rfl
          rotate_left
          ·simp only [Act.put,List.setIfInBounds_toArray,List.set_cons_zero,List.set_cons_succ,i64_w,i32_w,G1.out,G2.out]
           rfl
          refine pure_ (i:=10) (N:=some 100) (v:=?_) (a':=?_) (ba_ 20 1659) rfl rfl (any_of HT_.out (by kernel_rfl)) (fun _ _ _ h => h) (Or.inl ⟨by rfl,?_⟩) ?_ ?_
          rotate_left
          ·intro w'
           go_simp
           with_reducible rfl
          rotate_left
          ·simp only [Act.put,List.setIfInBounds_toArray,List.set_cons_zero,List.set_cons_succ,i64_w,i32_w,G1.out,G2.out]
           rfl
          refine pure_ (i:=11) (N:=some 101) (v:=?_) (a':=?_) (ba_ 20 3707) rfl rfl (any_of HT_.out (by kernel_rfl)) (fun _ _ _ h => h) (Or.inl ⟨by rfl,?_⟩) ?_ ?_
          rotate_left
          ·intro w'
           go_simp
           with_reducible rfl
          rotate_left
          ·simp only [Act.put,List.setIfInBounds_toArray,List.set_cons_zero,List.set_cons_succ,i64_w,i32_w,G1.out,G2.out]
           rfl
          refine pure_ (i:=12) (N:=some 102) (v:=?_) (a':=?_) (ba_ 20 7803) rfl rfl (any_of HT_.out (by kernel_rfl)) (fun _ _ _ h => h) (Or.inl ⟨by rfl,?_⟩) ?_ ?_
          rotate_left
          ·intro w'
           go_simp
           with_reducible rfl
          rotate_left
          ·simp only [Act.put,List.setIfInBounds_toArray,List.set_cons_zero,List.set_cons_succ,i64_w,i32_w,G1.out,G2.out]
           rfl
          refine take_ (i:=2) (N:=some 92) (v:=?_) (a':=?_) (ba_ 20 7807) rfl rfl (take_ofW HT_.out HW_.out (by kernel_rfl)) (fun _ _ _ h => h) (Or.inl ⟨by rfl,?_⟩) hHeld ?_ ?_
          rotate_left
          ·rintro w' ⟨q0,q1,q2,q3⟩
           go_simp
           with_reducible rfl
          rotate_left
          ·simp only [Act.put,List.setIfInBounds_toArray,List.set_cons_zero,List.set_cons_succ,i64_w,i32_w,G1.out,G2.out]
           rfl
          refine take_ (i:=7) (N:=some 97) (v:=?_) (a':=?_) (ba_ 20 7935) rfl rfl (take_ofW HT_.out HW_.out (by kernel_rfl)) (fun _ _ _ h => h) (Or.inl ⟨by rfl,?_⟩) hHeld ?_ ?_
          rotate_left
          ·rintro w' ⟨q0,q1,q2,q3⟩
           go_simp
           with_reducible rfl
          rotate_left
          ·simp only [Act.put,List.setIfInBounds_toArray,List.set_cons_zero,List.set_cons_succ,i64_w,i32_w,G1.out,G2.out]
           rfl
          refine pure_ (i:=8) (N:=some 98) (v:=?_) (a':=?_) (ba_ 20 8191) rfl rfl (any_of HT_.out (by kernel_rfl)) (fun _ _ _ h => h) (Or.inl ⟨by rfl,?_⟩) ?_ ?_
          rotate_left
          ·intro w'
           go_simp
           with_reducible rfl
          rotate_left
          ·simp only [Act.put,List.setIfInBounds_toArray,List.set_cons_zero,List.set_cons_succ,i64_w,i32_w,G1.out,G2.out]
           rfl
          refine take_ (i:=13) (N:=some 103) (v:=?_) (a':=?_) (ba_ 20 16383) rfl rfl (take_ofW HT_.out HW_.out (by kernel_rfl)) (fun _ _ _ h => h) (Or.inl ⟨by rfl,?_⟩) hHeld ?_ ?_
          rotate_left
          ·rintro w' ⟨q0,q1,q2,q3⟩
           go_simp
           with_reducible rfl
          rotate_left
          ·simp only [Act.put,List.setIfInBounds_toArray,List.set_cons_zero,List.set_cons_succ,i64_w,i32_w,G1.out,G2.out]
           rfl
          refine pure_ (i:=14) (N:=some 104) (v:=?_) (a':=?_) (ba_ 20 32767) rfl rfl (any_of HT_.out (by kernel_rfl)) (fun _ _ _ h => h) (Or.inl ⟨by rfl,?_⟩) ?_ ?_
          rotate_left
          ·intro w'
           go_simp
           with_reducible rfl
          rotate_left
          ·simp only [Act.put,List.setIfInBounds_toArray,List.set_cons_zero,List.set_cons_succ,i64_w,i32_w,G1.out,G2.out]
           rfl
          refine pure_ (i:=15) (N:=some 105) (v:=?_) (a':=?_) (ba_ 20 65535) rfl rfl (any_of HT_.out (by kernel_rfl)) (fun _ _ _ h => h) (Or.inl ⟨by rfl,?_⟩) ?_ ?_
          rotate_left
          ·intro w'
           go_simp
           with_reducible rfl
          rotate_left
          ·simp only [Act.put,List.setIfInBounds_toArray,List.set_cons_zero,List.set_cons_succ,i64_w,i32_w,G1.out,G2.out]
           rfl
          refine take_ (i:=16) (N:=some 106) (v:=?_) (a':=?_) (ba_ 20 131071) rfl rfl (take_ofW HT_.out HW_.out (by kernel_rfl)) (fun _ _ _ h => h) (Or.inl ⟨by rfl,?_⟩) hHeld ?_ ?_
          rotate_left
          ·rintro w' ⟨q0,q1,q2,q3⟩
           go_simp
           with_reducible rfl
          rotate_left
          ·simp only [Act.put,List.setIfInBounds_toArray,List.set_cons_zero,List.set_cons_succ,i64_w,i32_w,G1.out,G2.out]
           rfl
          refine one_ (i:=17) (N:=some 107) (ba_ 20 262143) rfl rfl (one_of HT_.out (by kernel_rfl)) (by decide) (fun K hK => ?_)
          refine slit_at (by rfl) (N:=107) (by rfl) (cs:=#[.int .i64 pr]) (t:=3) (by first | (go_simp;done) | (go_simp;rfl)) ?_
          intro g107 hg w107 hb107 b107
          replace HM:=Aside0.mk (HM.out.below b107)
          replace HI:=Aside0.mk (Kd.R_below HI.out b107)
          replace HIb:=Aside0.mk (below_step HIb.out b107)
          have L107:=Aside0.mk hb107
          clear hHeld hg hb107 b107
          refine hK.out _ _ ⟨(HSr.out.below HG.out HM.out.bel).bx.c2,pw_cell_below HM.out.bel HZZ.out.1,pw_cell_below HM.out.bel HZZ.out.2.1,pw_cell_below HM.out.bel HZZ.out.2.2⟩ (fun hHeld => ?_)
          clear hK K
          refine norm_ (a':=?_) ?_ ?_
          rotate_left
          ·show Act.put _ (some 107) _ = _
           simp only [Act.put,List.setIfInBounds_toArray,List.set_cons_zero,List.set_cons_succ,i64_w,i32_w,G1.out,G2.out]
           rfl
          refine one_ (i:=18) (N:=some 108) (ba_ 20 524287) rfl rfl (one_of HT_.out (by kernel_rfl)) (by decide) (fun K hK => ?_)
          refine iapp_at 90 107 pr (g:=g107) HI.out HIb.out.size (by simp;have:=HLN.out;have:=HQ.out;omega) L107.out (by rfl) (by rfl) (by rfl) (by rfl) ?_
          intro v108 w108 h1 hg hat hb
          rw [HE.out,← range_up] at h1
          obtain ⟨A108,c108,e108⟩:=Kd.R_slice h1
          rw [List.length_map,List.length_range] at e108
          subst e108
          replace HI:=Aside0.mk h1
          replace HIb:=Aside0.mk (HIb.out.trans hb)
          replace HM:=Aside0.mk (HM0.out.below HIb.out)
          clear hHeld h1 hg hat hb
          refine hK.out _ _ ⟨(HSr.out.below HG.out HM.out.bel).bx.c2,pw_cell_below HM.out.bel HZZ.out.1,pw_cell_below HM.out.bel HZZ.out.2.1,pw_cell_below HM.out.bel HZZ.out.2.2⟩ (fun hHeld => ?_)
          clear hK K
          refine norm_ (a':=?_) ?_ ?_
          rotate_left
          ·show Act.put _ (some 108) _ = _
           simp only [Act.put,List.setIfInBounds_toArray,List.set_cons_zero,List.set_cons_succ,i64_w,i32_w,G1.out,G2.out]
           rfl
          refine pure_ (i:=19) (N:=some 13) (v:=?_) (a':=?_) (ba_ 20 1048575) rfl rfl (any_of HT_.out (by kernel_rfl)) (fun _ _ _ h => h) (Or.inl ⟨by rfl,?_⟩) ?_ ?_
          rotate_left
          ·intro w'
           go_simp
           with_reducible rfl
          rotate_left
          ·simp only [Act.put,List.setIfInBounds_toArray,List.set_cons_zero,List.set_cons_succ,i64_w,i32_w,G1.out,G2.out]
           rfl
          refine done_ (done_of HT_.out (by kernel_rfl)) ?_
          clear hHeld
          go_wp2
          obtain ⟨hs1,hgg,hs⟩:=HQ.out
          have h24:=HLN.out.2.2.2.1
          go_roundg (b.length - (s + 1))
          case measure => omega
          case rel => exact ⟨s + 1,(by first | exact congrArg _ (wrap_succ hs (by omega)) | exact congrArg _ ((i64_w _).trans (wrap_succ hs (by omega)))),by omega,Nat.le_refl _,HI,HIb⟩
         ·obtain rfl : s = b.length:=by omega
          have b1 : ((b.length : Int) < (b.length : Int)) = False:=eq_false (by omega)
          have x6 : wr.cell? ⟨k8,6,none⟩ = some u6:=(blk_cell HM.out.bk 6).trans rfl
          clear hs1 hgg hs
          obtain ⟨A13,c13,e13⟩:=Kd.R_slice HI.out
          rw [List.length_map,List.length_range] at e13
          subst e13
          go_wp2_with (at_builtin;refine oapp 111 113 (A13,b.length,c13) HM.out.r6 HM.out.bel.size (by simp;have:=HLN.out;have:=HQ.out;omega) ?_ (ho:=rfl);intro v114 w114 h1 hg hb;clear x6;obtain ⟨A114,c114,e114⟩:=Kd.R_slice h1;rw [List.length_append,List.length_map,List.length_range,List.length_singleton] at e114;subst e114;replace HM:=Aside0.mk (HM.out.app6 (w10:=w82) HIb.out.size HM0.out.r4 HI.out h1 hg hb HM0.out.bel.size);clear h1 hg hb;have x6 : w114.cell? ⟨k8,6,none⟩ = some u6:=(blk_cell HM.out.bk 6).trans rfl;have f6 : w114.frozen? ⟨k8,6,none⟩ = false:=blk_frozen HM.out.bk 6)
          replace HM:=Aside0.mk (HM.out.put6 (.slice A114 (x + 1) c114))
          clear x6 f6 b1
          generalize w114.setCell ⟨k8,6,none⟩ (.slice A114 (x + 1) c114) = w116 at HM ⊢
          obtain ⟨hx1,hgg,hx⟩:=HQ.out
          have h24:=HLN.out.2.1
          go_roundg (a.length - (x + 1))
          case measure => omega
          case rel => exact ⟨x + 1,_,_,_,(by first | exact congrArg _ (wrap_succ hx (by omega)) | exact congrArg _ ((i64_w _).trans (wrap_succ hx (by omega)))),by omega,Nat.le_refl _,HM⟩
      ·obtain rfl : x = a.length:=by omega
       have b1 : ((a.length : Int) < (a.length : Int)) = False:=eq_false (by omega)
       clear hx1 hgg hx
       obtain ⟨l1,_,l3,_⟩:=HLN.out
       have hz6:=blk_below HZ.out HM.out.bel
       obtain ⟨A4',c4',e4⟩:=Kd.R_slice HM.out.r4
       obtain ⟨A5',c5',e5⟩:=Kd.R_slice HM.out.r5
       obtain ⟨A6',c6',e6⟩:=Kd.R_slice HM.out.r6
       rw [List.length_map,List.length_range] at e4 e5 e6
       subst e4 e5 e6
       have HBE:=Aside0.mk (below_then HB.out HB.out.size HM.out.bel)
       have hput:=put7 hz6 HBE.out H6.out (.slice (some avA) a.length cvA) (.slice (some avB) b.length cvB) (.slice (some alA) a.length clA) (.slice (some alB) b.length clB) (.slice A4' a.length c4') (.slice A5' b.length c5') (.slice A6' a.length c6')
       have HPUT:=Aside0.mk hput
       have s0 : wr.cell? ⟨k8,0,none⟩ = some (.slice (some avA) a.length cvA):=(blk_cell HM.out.bk 0).trans rfl
       have q0 : wr.cell? ⟨k6,0,none⟩ = some nl:=(blk_cell hz6 0).trans rfl
       have p0 : wr.frozen? ⟨k6,0,none⟩ = false:=blk_frozen hz6 0
       have s1 : wr.cell? ⟨k8,1,none⟩ = some (.slice (some avB) b.length cvB):=(blk_cell HM.out.bk 1).trans rfl
       have q1 : wr.cell? ⟨k6,1,none⟩ = some nl:=(blk_cell hz6 1).trans rfl
       have p1 : wr.frozen? ⟨k6,1,none⟩ = false:=blk_frozen hz6 1
       have s2 : wr.cell? ⟨k8,2,none⟩ = some (.slice (some alA) a.length clA):=(blk_cell HM.out.bk 2).trans rfl
       have q2 : wr.cell? ⟨k6,2,none⟩ = some nl:=(blk_cell hz6 2).trans rfl
       have p2 : wr.frozen? ⟨k6,2,none⟩ = false:=blk_frozen hz6 2
       have s3 : wr.cell? ⟨k8,3,none⟩ = some (.slice (some alB) b.length clB):=(blk_cell HM.out.bk 3).trans rfl
       have q3 : wr.cell? ⟨k6,3,none⟩ = some nl:=(blk_cell hz6 3).trans rfl
       have p3 : wr.frozen? ⟨k6,3,none⟩ = false:=blk_frozen hz6 3
       have s4 : wr.cell? ⟨k8,4,none⟩ = some (.slice A4' a.length c4'):=(blk_cell HM.out.bk 4).trans rfl
       have q4 : wr.cell? ⟨k6,4,none⟩ = some nl:=(blk_cell hz6 4).trans rfl
       have p4 : wr.frozen? ⟨k6,4,none⟩ = false:=blk_frozen hz6 4
       have s5 : wr.cell? ⟨k8,5,none⟩ = some (.slice A5' b.length c5'):=(blk_cell HM.out.bk 5).trans rfl
       have q5 : wr.cell? ⟨k6,5,none⟩ = some nl:=(blk_cell hz6 5).trans rfl
       have p5 : wr.frozen? ⟨k6,5,none⟩ = false:=blk_frozen hz6 5
       have s6 : wr.cell? ⟨k8,6,none⟩ = some (.slice A6' a.length c6'):=(blk_cell HM.out.bk 6).trans rfl
       have q6 : wr.cell? ⟨k6,6,none⟩ = some nl:=(blk_cell hz6 6).trans rfl
       have p6 : wr.frozen? ⟨k6,6,none⟩ = false:=blk_frozen hz6 6
       clear hput
       go_wp2
       obtain ⟨hz,hfar,hb⟩:=HPUT.out
       have hx:=HvA.out.below HM.out.bel
       have hy:=HvB.out.below HM.out.bel
       have hX:=HlA.out.below HM.out.bel
       have hY:=HlB.out.below HM.out.bel
       obtain ⟨_,ix0⟩:=hx.ix
       obtain ⟨_,ix1⟩:=hy.ix
       obtain ⟨_,ix2⟩:=hX.ix
       obtain ⟨_,ix3⟩:=hY.ix
       have j0:=ix_off ix0 hz6 (by decide) hfar
       have j1:=ix_off ix1 hz6 (by decide) hfar
       have j2:=ix_off ix2 hz6 (by decide) hfar
       have j3:=ix_off ix3 hz6 (by decide) hfar
       have j4:=ix_off HM.out.r4 hz6 (by decide) hfar
       have j5:=ix_off HM.out.r5 hz6 (by decide) hfar
       have j6:=ox_off HM.out.r6 hz6 (by decide) hfar
       have jr : ∀ p,p < a.length → _:=fun p hp => ix_off (HM.out.rr p hp) hz6 (by decide) hfar
       refine bodyPost_ret (results_ct rfl _ _ k6 70 #[.slice (some avA) a.length cvA,.slice (some avB) b.length cvB,.slice (some alA) a.length clA,.slice (some alB) b.length clB,.slice A4' a.length c4',.slice A5' b.length c5',.slice A6' a.length c6'] (0,0) _ rfl hz hu2 rfl (by kernel_rfl)) rfl ⟨_,_,_,_,_,_,_,rfl,hb,⟨⟨_,_,_,rfl⟩,⟨_,_,_,rfl⟩,⟨_,_,_,rfl⟩,⟨_,_,_,rfl⟩,⟨_,_,_,rfl⟩,⟨_,_,_,rfl⟩,⟨_,_,_,rfl⟩⟩,fun bk hbk => ?_⟩
       rw [← HMe.out]
       have m0 : M.la = lfN a ∧ M.lb = lfN b:=by rw [HMe.out];exact ⟨rfl,rfl⟩
       refine ⟨row1_R l1 hbk j0,row1_R l3 hbk j1,⟨_,_,_,_,_,_,_,rfl,?_,?_,row1_R l1 hbk j4,row1_R l3 hbk j5,rows_row2 j6 jr l1 l3 hbk⟩⟩
       ·rw [m0.1];exact row1_R l1 hbk j2
       ·rw [m0.2];exact row1_R l3 hbk j3
end Go.Proofs.Ytelglbebffdaaaa.X
namespace Go.Proofs.Ytelglbebffdaaaa.Q
open Go.RowKit Go.Proofs.YtelglbebffdaaaaW.PrintWords Go.Proofs.YtelglbebffdaaaaW.PrintLast Go.Proofs.YtelglbebffdaaaaW.PrintMore Go.Proofs.Ytelglbebffdaaaa.X Go.Proofs.Ytelglbebffdaaaa.Rd
set_option linter.unusedVariables false
set_option linter.unusedSimpArgs false
theorem tree_ord {l : List NodeI} (t : Tr l) : Ted.Ord (lfN l) (nodeN l) l.length:=by
  have key : ∀ x y,y < l.length → x < y → nodeN l x < l.length ∧ nodeN l y < l.length ∧ rk l (nodeN l x) = x ∧ rk l (nodeN l y) = y:=fun x y hy hxy => ⟨nodeN_lt t (by omega),nodeN_lt t hy,rk_nodeN t (by omega),rk_nodeN t hy⟩
  refine ⟨fun x y hy hx hxy => ?_,fun x y hy hx hxy => ?_⟩
  · obtain ⟨h1,h2,h3,h4⟩:=key x y hy hxy
    have u:=under_rk t h2 h1
    rw [h3,h4] at u
    rcases Nat.lt_trichotomy (nodeN l x) (nodeN l y) with c | c | c
    · exact c
    · rw [c,h4] at h3;omega
    · by_cases e : nodeN l x < endN l (nodeN l y)
      · have:=u.2 ⟨by omega,e⟩;omega
      · have:=rk_ahead t h1 h2 (by omega);omega
  · obtain ⟨h1,h2,h3,h4⟩:=key x y hy hxy
    have u:=under_rk t h2 h1
    rw [h3,h4] at u
    have v:=u.1 ⟨hx,by omega⟩
    by_cases c : nodeN l x = nodeN l y
    · rw [c,h4] at h3;omega
    · omega
theorem rise_len {α : Type} (f : α → Nat) (n : Nat) : ∀ (L : List α) (lo : Nat),L.Pairwise (fun p q => f p < f q) → (∀ p ∈ L,lo ≤ f p ∧ f p < n) → L.length ≤ n - lo:=by
  intro L
  induction L with
  | nil => intro lo _ _;exact Nat.zero_le _
  | cons x t ih =>
    intro lo h1 h2
    obtain ⟨a1,a2⟩:=List.pairwise_cons.1 h1
    have hx:=h2 x List.mem_cons_self
    have:=ih (f x + 1) a2 fun p hp => ⟨a1 p hp,(h2 p (List.mem_cons_of_mem _ hp)).2⟩
    rw [List.length_cons]
    omega
noncomputable def bmL (a b : List NodeI) (d i r : List Int) : List PairI:=(Ted.wayM (msOf a b d i r) 0 a.length 0 b.length).map fun p => ⟨(nodeN a p.1 : Int),(nodeN b p.2 : Int)⟩
noncomputable def bmB (a b : List NodeI) (d i r : List Int) : List PairI:=if okAB a b d i r = true then bmL a b d i r else []
section
variable {a b : List NodeI} (ta : Tr a) (tb : Tr b) (d i r : List Int)
include ta tb
theorem way_in : (Ted.wayM (msOf a b d i r) 0 a.length 0 b.length).Pairwise (fun p q => nodeN a p.1 < nodeN a q.1) ∧ ∀ p ∈ Ted.wayM (msOf a b d i r) 0 a.length 0 b.length,p.1 < a.length ∧ p.2 < b.length:=by
  obtain ⟨h1,h2⟩:=Ted.wayM_asc (M:=msOf a b d i r) (B:=b.length) (lfN_lam ta) (tree_ord ta) (i:=0) (j:=a.length) (k:=0) (m:=b.length) ta.len1 tb.len1 (Nat.le_refl _)
  exact ⟨h1,fun p hp => by have:=h2 p hp;omega⟩
theorem best_sort {L : List (Nat × Nat)} (hL : L.Perm (Ted.wayM (msOf a b d i r) 0 a.length 0 b.length)) : sortP a b L = bmL a b d i r:=by
  obtain ⟨h1,h2⟩:=way_in ta tb d i r
  have hA : ∀ p ∈ L,p.1 < a.length:=fun p hp => (h2 p (hL.mem_iff.1 hp)).1
  refine rising_eq (sortP_pw ta hA ?_) ?_ fun x => ?_
  · refine (hL.pairwise_iff (fun {x y} h e => h e.symm)).2 (h1.imp fun {p q} h e => ?_)
    rw [e] at h
    exact Nat.lt_irrefl _ h
  · unfold bmL
    rw [List.pairwise_map]
    exact h1.imp fun {p q} h => by show (nodeN a p.1 : Int) < (nodeN a q.1 : Int);omega
  · rw [sortP_mem ta hA]
    unfold bmL
    rw [List.mem_map]
    exact ⟨fun ⟨p,hp,e⟩ => ⟨p,hL.mem_iff.1 hp,e.symm⟩,fun ⟨p,hp,e⟩ => ⟨p,hL.mem_iff.2 hp,e.symm⟩⟩
theorem best_spec : sortP a b (Ted.wayN (msOf a b d i r) 0 a.length 0 b.length) = bmL a b d i r:=best_sort ta tb d i r (Ted.wayN_perm _ _ _ _ _)
theorem best_len : (bmL a b d i r).length ≤ 24:=by
  obtain ⟨h1,h2⟩:=way_in ta tb d i r
  have h3:=rise_len (fun p : Nat × Nat => nodeN a p.1) a.length _ 0 h1 (fun p hp => ⟨Nat.zero_le _,nodeN_lt ta (h2 p hp).1⟩)
  have:=ta.len24
  unfold bmL
  rw [List.length_map]
  omega
end
end Go.Proofs.Ytelglbebffdaaaa.Q
namespace Go.Proofs.Ytelglbebffdaaaa.Q
open Go.RowKit Go.Proofs.YtelglbebffdaaaaW.PrintWords Go.Proofs.YtelglbebffdaaaaW.PrintLast Go.Proofs.YtelglbebffdaaaaW.PrintMore Go.Proofs.Ytelglbebffdaaaa.X Go.Proofs.Ytelglbebffdaaaa.Rd Go.Proofs.Ytelglbebffdaaaa
set_option linter.unusedVariables false
set_option linter.unusedSimpArgs false
structure Fit (a b : List NodeI) (d i r : List Int) : Prop where
  a : a.length ≤ 9223372036854775807
  b : b.length ≤ 9223372036854775807
  d : d.length ≤ 9223372036854775807
  i : i.length ≤ 9223372036854775807
  r : r.length ≤ 9223372036854775807
instance (a b : List NodeI) (d i r : List Int) : Decidable (Fit a b d i r):=decidable_of_iff (a.length ≤ 9223372036854775807 ∧ b.length ≤ 9223372036854775807 ∧ d.length ≤ 9223372036854775807 ∧ i.length ≤ 9223372036854775807 ∧ r.length ≤ 9223372036854775807) ⟨fun ⟨h1,h2,h3,h4,h5⟩ => ⟨h1,h2,h3,h4,h5⟩,fun h => ⟨h.a,h.b,h.d,h.i,h.r⟩⟩
theorem specThree_ev {a b : List NodeI} {d i r : List Int} (h : Fit a b d i r) : Ev (fun k => spec_l8Three.f k a b d i r) (okAB a b d i r):=by
  unfold spec_l8Three.f okAB
  refine Ev.bind (specTreeOk_ev a h.a) ?_
  cases ha : trB a with
  | false => exact Ev.ifF (by simp) (Ev.now _)
  | true =>
    refine Ev.ifT rfl (Ev.bind (specTreeOk_ev b h.b) ?_)
    cases hb : trB b with
    | false => exact Ev.ifF (by simp) (Ev.now _)
    | true => exact Ev.ifT rfl (Ev.bind (specCostOk_ev d i r h.d h.i h.r) (Ev.now _))
end Go.Proofs.Ytelglbebffdaaaa.Q
