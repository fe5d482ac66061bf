/- Part 3 of the proof of FnBothWays: what it needs. -/
import Derived.Test.YtngphdmbjenkaaaProg
import Derived.Below
import Derived.Deep.Draws
import Derived.Deep.AppendLies
import Derived.Maps.AppendAt
import Derived.OwnWalk
import Derived.Laws.BytesArg
import Derived.Laws.MakeOwn
import Derived.Laws.OwnMore
import Derived.Deep.OwnRows
import Derived.Tactics
import Derived.Lib.ConvBytes
import Derived.Laws.Slices
import Derived.WalkKit
import Derived.KernelRfl
import Derived.RowKit3
import Derived.Deep.LoopGhost
import Derived.Deep.QuietTactic
import Derived.BigQuiet
import Derived.WideLaws
import Derived.Deep.DeepCutAuto
import Derived.Deep.CutBlock
import Derived.Deep.RegionHeld3
import Derived.Laws.Rows
import Derived.Lib.AppendStr
import Derived.ArgAppend
import Derived.Laws.IdiomCopy
import Derived.OrdersHeld
import Derived.Laws.BitsLemmas
import Derived.RowKit
import Derived.Laws.StructEq
import Derived.SizedLaws
import Derived.ChangeSlices
import Derived.Test.YtngphdmbjenkaaaKLBothWays0
import Derived.Test.YtngphdmbjenkaaaKLBothWays1
import Derived.Test.YtngphdmbjenkaaaKLBothWays2
namespace Go.Proofs.Ytngphdmbjenkaaa.X
open Go.RowKit Go.Proofs.YtngphdmbjenkaaaW.PrintWords Go.Proofs.YtngphdmbjenkaaaW.PrintLast Go.Proofs.YtngphdmbjenkaaaW.PrintMore
attribute [local go_sem] max2_int min2_int max_two min_two max_three min_three max_four min_four   -- for this text's walks alone
set_option linter.unusedVariables false
set_option linter.unusedSimpArgs false
def errW : Option Int → Value
  | none => .nilIface
  | some c => .iface 0 (.int .i64 c)
theorem errW_none : errW none = .nilIface := rfl
theorem errW_some (c : Int) : errW (some c) = .iface 0 (.int .i64 c) := rfl
theorem info3 : (Try.prog.info? 3).map (fun i => (i.zero,i.size,i.bytes)) = some (some (.int .i64 0),1,8) := by kernel_rfl
theorem info25 : (Try.prog.info? 25).map (fun i => (i.zero,i.size,i.bytes)) = some (some (.slice none 0 0),1,24) := by kernel_rfl
theorem info77 : (Try.prog.info? 77).map (fun i => (i.zero,i.size,i.bytes)) = some (some (.agg #[(.int .i64 0),(.int .i64 0)]),2,16) := by kernel_rfl
structure S77 where
  f0 : Int
  f1 : Int
def z77 : S77 := ⟨(0 : Int),(0 : Int)⟩
def k77 : Kd S77 := Kd.iso (Kd.pair (Kd.int .i64) (Kd.int .i64)) (fun x : S77 => (x.f0,x.f1))
theorem k77_open {w : World} {x : S77} {cs : List Value} (h : k77.K w x cs) : cs = [.int .i64 x.f0,.int .i64 x.f1] := by
  obtain ⟨_,_,rfl,rfl,rfl⟩ := h
  exact rfl
theorem k77_openM {w : World} {base : Nat} {ok : Nat → Prop} {x : S77} {cs : List Value} (h : k77.M w base ok x cs) : cs = [.int .i64 x.f0,.int .i64 x.f1] := by
  obtain ⟨_,_,rfl,rfl,rfl⟩ := h
  exact rfl
theorem k77_mkM (w : World) (base : Nat) (ok : Nat → Prop) (x : S77)  : k77.M w base ok x [.int .i64 x.f0,.int .i64 x.f1] := ⟨[.int .i64 x.f0],[.int .i64 x.f1],rfl,rfl,rfl⟩
def rd_T77 (xs : List S77) (i : Int) : S77 := xs.getD i.toNat z77
theorem at_T77 {w : World} {A : Option Addr} {n : Nat} {xs : List S77} (h : Kd.C k77 w A n xs) (i : Int) (h0 : 0 ≤ i) (h1 : i < n) : ∃ ad ,A = some ad ∧ w.cell? (ad.add (i.toNat * 2)) = some (.int .i64 (rd_T77 xs i).f0) ∧ w.cell? ⟨(ad.add (i.toNat * 2)).block,(ad.add (i.toNat * 2)).off + 1,none⟩ = some (.int .i64 (rd_T77 xs i).f1) := by
  obtain ⟨ad,c,e,_,hK,hc0⟩ := Kd.C_get h z77 i h0 h1
  have hc : ∀ j u,c[j]? = some u → w.cell? (ad.add (i.toNat * 2 + j)) = some u := hc0
  obtain rfl := k77_open hK
  exact ⟨ad,e,hc 0 _ rfl,by rw [← add_field _ _ 1 (by omega)];exact hc 1 _ rfl⟩
structure S27 where
  f0 : (List Int)
  f1 : (List Int)
  f2 : (List Int)
def k27 : Kd S27 := Kd.iso (Kd.pair (Kd.slice 3 (Kd.int .i64)) (Kd.pair (Kd.slice 3 (Kd.int .i64)) (Kd.slice 3 (Kd.int .i64)))) (fun x : S27 => (x.f0,x.f1,x.f2))
structure S120 where
  f0 : Int
  f1 : (List Int)
  f2 : Int
  f3 : Int
  f4 : Int
def z120 : S120 := ⟨(0 : Int),([] : List Int),(0 : Int),(0 : Int),(0 : Int)⟩
open Go.Proofs.YtngphdmbjenkaaaW.PrintWords Go.Proofs.YtngphdmbjenkaaaW.PrintLast Go.Proofs.YtngphdmbjenkaaaW.PrintMore
def ba_ (n m : Nat) : Array Bool := ((List.range n).map fun i => m.testBit i).toArray
section
variable {P : Program} {md : Region.Mode} {ops : Array Oper} {Q : Exit → Act → World → Prop} {S : World → Prop} {ds : List Nat}
theorem pu_ (i : Nat) (N : Option Tmp) (l' : Array Bool) {oi : Oper} {v : Value} {fuel : Nat} {l : Array Bool} {a : Act} {w : World} {a' : Act} (hi : ops[i]? = some oi) (hN : oi.dst = N) (hc : anyB md ops l l' i = true)
    (h : wpAnyLast P md ops Q S ds fuel l' a' w) (hQ : ∀ c a w,Q (.panic c) (a.put oi.dst v) w → Q (.panic c) a w := by exact fun _ _ _ h => h) (hw : Region.wanted oi (yielded ops a.tmps) = true := by rfl) (hy : ∀ w,(execOp a.eval oi).run P w = .ok (.value v) w := by intro w';go_simp;with_reducible rfl)
    (ha : a.put N v = a' := by simp only [Act.put,List.setIfInBounds_toArray,List.set_cons_zero,List.set_cons_succ,i64_w,i32_w];rfl) : wpAnyLast P md ops Q S ds (fuel + 1) l a w := pure_ l' hi hN hc hQ (.inl ⟨hw,hy⟩) ha h
theorem pn_ (i : Nat) (N : Option Tmp) (l' : Array Bool) {oi : Oper} {fuel : Nat} {l : Array Bool} {a : Act} {w : World} {a' : Act} (hi : ops[i]? = some oi) (hN : oi.dst = N) (hc : anyB md ops l l' i = true)
    (h : wpAnyLast P md ops Q S ds fuel l' a' w) (hQ : ∀ c a w,Q (.panic c) (a.put oi.dst undef) w → Q (.panic c) a w := by exact fun _ _ _ h => h) (hw : Region.wanted oi (yielded ops a.tmps) = false := by rfl)
    (ha : a.put N undef = a' := by simp only [Act.put,List.setIfInBounds_toArray,List.set_cons_zero,List.set_cons_succ,i64_w,i32_w];rfl) : wpAnyLast P md ops Q S ds (fuel + 1) l a w := pure_ l' hi hN hc hQ (.inr ⟨hw,rfl⟩) ha h
theorem ta_ (i : Nat) (N : Option Tmp) (l' : Array Bool) {oi : Oper} {v : Value} {fuel : Nat} {l : Array Bool} {a : Act} {w : World} {a' : Act} (hi : ops[i]? = some oi) (hN : oi.dst = N) (hc : takeB md ops ds l l' i = true) (hS : S w)
    (hy : ∀ w,S w → (execOp a.eval oi).run P w = .ok (.value v) w) (h : wpAnyLast P md ops Q S ds fuel l' a' w) (hQ : ∀ c a w,Q (.panic c) (a.put oi.dst v) w → Q (.panic c) a w := by exact fun _ _ _ h => h) (hw : Region.wanted oi (yielded ops a.tmps) = true := by rfl)
    (ha : a.put N v = a' := by simp only [Act.put,List.setIfInBounds_toArray,List.set_cons_zero,List.set_cons_succ,i64_w,i32_w];rfl) : wpAnyLast P md ops Q S ds (fuel + 1) l a w := take_ l' hi hN hc hQ (.inl ⟨hw,hy⟩) hS ha h
end
end Go.Proofs.Ytngphdmbjenkaaa.X
namespace Go.Proofs.Ytngphdmbjenkaaa.X
open Go.RowKit Go.Proofs.YtngphdmbjenkaaaW.PrintWords Go.Proofs.YtngphdmbjenkaaaW.PrintLast Go.Proofs.YtngphdmbjenkaaaW.PrintMore
set_option linter.unusedVariables false
set_option linter.unusedSimpArgs false
class Ch (w W : World) : Prop where
 out : Below w.heap.size w W
instance Ch.refl (w : World) : Ch w w := ⟨Below.refl _ _⟩
instance Ch.alloc (w W : World) (o : Obj) [h : Ch w W] : Ch w (W.alloc o) := ⟨below_alloc h.out o⟩
instance Ch.drewN (w W : World) (n : Nat) [h : Ch w W] : Ch w (W.drewN n) := ⟨pw_below_drewN h.out n⟩
instance Ch.drew (w W : World) [h : Ch w W] : Ch w W.drew := ⟨below_drew1 h.out⟩
theorem bl_ {w0 w W : World} (h : Aside0 (Below w0.heap.size w0 w)) [c : Ch w W] : Aside0 (Below w0.heap.size w0 W) := ⟨below_step h.out c.out⟩
theorem bs_ {w0 w W : World} (h : Aside0 (Below w0.heap.size w0 w)) [c : Ch w W] : w0.heap.size ≤ W.heap.size := (below_step h.out c.out).size
theorem tB_ {w0 w W w2 : World} (h : Aside0 (Below w0.heap.size w0 w)) [c : Ch w W] (hb : Below W.heap.size W w2) : Aside0 (Below w0.heap.size w0 w2) := ⟨below_step (below_step h.out c.out) hb⟩
theorem rx_ {α : Type} {d : Kd α} {e base : Nat} {ok : Nat → Prop} {v : Value} {xs : List α} {w W : World} (h : Kd.R d e w base ok v xs) [c : Ch w W] : Kd.R d e W base ok v xs := Kd.R_below h c.out
theorem tR_ {α : Type} {d : Kd α} {e base : Nat} {ok : Nat → Prop} {v : Value} {xs : List α} {w W w2 : World} (h : Aside0 (Kd.R d e w base ok v xs)) [c : Ch w W] (hb : Below W.heap.size W w2) : Aside0 (Kd.R d e w2 base ok v xs) := ⟨Kd.R_below (Kd.R_below h.out c.out) hb⟩
theorem kx_ {w W : World} {g : Nat} {o : Obj} (h : w.heap[g]? = some o) [c : Ch w W] : W.heap[g]? = some o := blk_below h c.out
theorem tK_ {w W w2 : World} {g : Nat} {o : Obj} (h : Aside0 (w.heap[g]? = some o)) [c : Ch w W] (hb : Below W.heap.size W w2) : Aside0 (w2.heap[g]? = some o) := ⟨blk_below (blk_below h.out c.out) hb⟩
theorem cx_ {α : Type} {d : Kd α} {A : Option Addr} {n : Nat} {xs : List α} {w0 w W : World} (h : Aside0 (Kd.C d w0 A n xs)) (hB : Aside0 (Below w0.heap.size w0 w)) [c : Ch w W] : Kd.C d W A n xs := Kd.C_below (Kd.C_below h.out hB.out) c.out
theorem cc_ {α : Type} {d : Kd α} {A : Option Addr} {n : Nat} {xs : List α} {w W : World} (h : Kd.C d w A n xs) [c : Ch w W] : Kd.C d W A n xs := Kd.C_below h c.out
theorem ce_ {w W : World} (h : Aside0 (Below w.heap.size w W)) {a : Addr} {v : Value} (hc : w.cell? a = some v) : W.cell? a = some v := pw_cell_below h.out hc
theorem od_ {p : Prop} [Decidable p] (h : decide p = true := by first | (with_reducible assumption) | assumption) : p := of_decide_eq_true h
theorem ea_ {α : Type} {a b : α} (h : a = b := by first | rfl | (simp [errW_none,errW_some] <;> rfl) | (simp [*,errW_none,errW_some] <;> rfl)) : a = b := h
theorem eb_ {α : Type} {a b : α} (h : a = b := by first | rfl | (simp;done) | (simp [*];done)) : a = b := h
section
variable {w : World} {g : Nat} {t : TypeId} {v0 v1 v2 v3 v4 v5 v6 : Value}
theorem bk2_ (h : Aside0 (w.heap[g]? = some (.cells #[v0,v1] t (0,0)))) : w.cell? ⟨g,0,none⟩ = some v0 ∧ w.cell? ⟨g,1,none⟩ = some v1 ∧ w.frozen? ⟨g,0,none⟩ = false ∧ w.frozen? ⟨g,1,none⟩ = false :=
 ⟨blk_cell h.out 0,blk_cell h.out 1,blk_frozen h.out 0,blk_frozen h.out 1⟩
theorem bk3_ (h : Aside0 (w.heap[g]? = some (.cells #[v0,v1,v2] t (0,0)))) : w.cell? ⟨g,0,none⟩ = some v0 ∧ w.cell? ⟨g,1,none⟩ = some v1 ∧ w.cell? ⟨g,2,none⟩ = some v2 ∧ w.frozen? ⟨g,0,none⟩ = false ∧ w.frozen? ⟨g,1,none⟩ = false ∧ w.frozen? ⟨g,2,none⟩ = false :=
 ⟨blk_cell h.out 0,blk_cell h.out 1,blk_cell h.out 2,blk_frozen h.out 0,blk_frozen h.out 1,blk_frozen h.out 2⟩
end
section
variable {P : Program} {ops : Array Oper} {rest : List Oper} {o : Oper} {a : Act} {Q : Exit → Act → World → Prop}
theorem bx_ {W : World} (N : Tmp) (cs : Array Value) (t : TypeId)
  (h : ∀ g,g = W.heap.size → ∀ w1,w1.heap[g]? = some (.cells cs t (0,0)) → Below W.heap.size W w1 → wpList P ops Q rest (a.put o.dst (.pointer (some ⟨g,0,none⟩))) w1)
  (hgd : o.guard = none := by rfl) (hd : o.dst = some N := by rfl)
  (hrun : (execOp a.eval o).run P W = .ok (.value (.pointer (some ⟨W.heap.size,0,none⟩))) (W.alloc (.cells cs t (0,0))) := by first | (go_simp;done) | (go_simp;rfl)) : wpList P ops Q (o :: rest) a W :=
 box_event hgd hd hrun h
theorem gL_ {w : World} (N : Option Tmp) {f : FuncId} {fn : Func} {as_ : Array Operand} {ts : Array TypeId} (hf : P.funcs[f]? = some fn) (args : Array Value)
  (h : Calls P f args w fun e w' => ∃ v,e = .returned v ∧ wpList P ops Q rest (a.put N v) w')
  (hd : o.dst = N := by rfl) (hg : o.guard = none := by rfl) (hop : o.op = .call { callee := .value (.func f),args := as_,argTypes := ts } := by rfl)
  (hargs : as_.map a.eval = args := by (try simp only [List.map_toArray,List.map_cons,List.map_nil]);first | done | rfl | (simp only [List.length_drop,List.length_take];rfl))
  (hname : (fn.name == "runtime.NumGoroutine") = false := by kernel_rfl) (hb : fn.body.isSome = true := by rfl) : wpList P ops Q (o :: rest) a w :=
 goesL_ N hd hg hf hname hb args hop hargs h
end
end Go.Proofs.Ytngphdmbjenkaaa.X
namespace Go.Proofs.Ytngphdmbjenkaaa.X
open Go.RowKit Go.Proofs.YtngphdmbjenkaaaW.PrintWords Go.Proofs.YtngphdmbjenkaaaW.PrintLast Go.Proofs.YtngphdmbjenkaaaW.PrintMore
attribute [local go_sem] max2_int min2_int max_two min_two max_three min_three max_four min_four   -- for this text's walks alone
set_option linter.unusedVariables false
set_option linter.unusedSimpArgs false
def IsS130 (w0 W : World) (g : Nat) (f0 : List Int) (f1 : Int) (f2 : Int) : Prop := ∃ A0 c0,W.heap[g]? = some (.cells #[.slice A0 f0.length c0,.int .i64 f1,.int .i64 f2] 130 (0,0)) ∧ w0.heap.size ≤ g ∧ Kd.C (Kd.int .u8) w0 A0 f0.length f0
theorem IsS130.grown {w0 W : World} {g : Nat} {f0 : List Int} {f1 : Int} {f2 : Int} {W1 : World} {row : Option Nat} (h : IsS130 w0 W g f0 f1 f2) (hw : W.grownBy W1 row) (hne : some g ≠ row) : IsS130 w0 W1 g f0 f1 f2 := by
 obtain ⟨A0,c0,hb,hg,hr0⟩ := h
 exact ⟨A0,c0,blk_grown hb hw hne,hg,hr0⟩
theorem IsS130.kept {w0 W : World} {g : Nat} {f0 : List Int} {f1 : Int} {f2 : Int} {W1 : World} {S : Nat → Prop} (h : IsS130 w0 W g f0 f1 f2) (hk : Kept W W1 S) (hne : ¬ S g) : IsS130 w0 W1 g f0 f1 f2 := by
 obtain ⟨A0,c0,hb,hg,hr0⟩ := h
 exact ⟨A0,c0,blk_kept hb hk hne,hg,hr0⟩
theorem IsS130.below {w0 W : World} {g : Nat} {f0 : List Int} {f1 : Int} {f2 : Int} {W1 : World} (h : IsS130 w0 W g f0 f1 f2) (hw : Below W.heap.size W W1) : IsS130 w0 W1 g f0 f1 f2 := h.grown (grown_of_below hw none) (by simp)
theorem IsS130.alloc {w0 W : World} {g : Nat} {f0 : List Int} {f1 : Int} {f2 : Int} (h : IsS130 w0 W g f0 f1 f2) (o : Obj) : IsS130 w0 (W.alloc o) g f0 f1 f2 := h.below (below_alloc (Below.refl _ _) o)
theorem IsS130.drewN {w0 W : World} {g : Nat} {f0 : List Int} {f1 : Int} {f2 : Int} (h : IsS130 w0 W g f0 f1 f2) (m : Nat) : IsS130 w0 (W.drewN m) g f0 f1 f2 := h
theorem IsS130.drew {w0 W : World} {g : Nat} {f0 : List Int} {f1 : Int} {f2 : Int} (h : IsS130 w0 W g f0 f1 f2) : IsS130 w0 W.drew g f0 f1 f2 := h
theorem IsS130.at_ {w0 W : World} {g : Nat} {f0 : List Int} {f1 : Int} {f2 : Int} {w' : World} {m : Nat} (hq : W.drewN m = w') (h : IsS130 w0 W g f0 f1 f2) : IsS130 w0 w' g f0 f1 f2 := by subst hq;exact IsS130.drewN h m
theorem IsS130.apart {w0 W : World} {g : Nat} {f0 : List Int} {f1 : Int} {f2 : Int} {α : Type} {d : Kd α} {e : Nat} {base : Nat} {ok : Nat → Prop} {v : Value} {xs : List α} (h : IsS130 w0 W g f0 f1 f2) (ho : d.R e W base ok v xs) (ht : ∀ q,q ∈ e :: d.E → q ≠ 130) : d.R e W base (fun k => ok k ∧ k ≠ g) v xs := by
 obtain ⟨A0,c0,hb,hg,hr0⟩ := h
 exact Kd.R_types ho hb ht
theorem IsS130.own_ne {w0 W : World} {g : Nat} {f0 : List Int} {f1 : Int} {f2 : Int} {α : Type} {d : Kd α} {e : Nat} {base : Nat} {ok : Nat → Prop} {v : Value} {xs : List α} (h : IsS130 w0 W g f0 f1 f2) (ho : d.R e W base ok v xs) (ht : e ≠ 130) : some g ≠ v.ownBlock := by
 obtain ⟨A0,c0,hb,hg,hr0⟩ := h
 exact Kd.R_ne ho hb ht
theorem IsS130.apartQ {w0 W : World} {g : Nat} {f0 : List Int} {f1 : Int} {f2 : Int} {α : Type} {d : Kd α} {e : Nat} {base : Nat} {ok : Nat → Prop} {v : Value} {xs : List α} (h : IsS130 w0 W g f0 f1 f2) (ho : d.Q e W base ok v xs) (ht : ∀ q,q ∈ e :: d.E → q ≠ 130) : d.Q e W base (fun k => ok k ∧ k ≠ g) v xs := by
 obtain ⟨A0,c0,hb,hg,hr0⟩ := h
 exact Kd.Q_types ho hb ht
theorem IsS130.lt {w0 W : World} {g : Nat} {f0 : List Int} {f1 : Int} {f2 : Int} (h : IsS130 w0 W g f0 f1 f2) : g < W.heap.size := by
 obtain ⟨A0,c0,hb,hg,hr0⟩ := h
 exact blk_lt hb
theorem IsS130.ge {w0 W : World} {g : Nat} {f0 : List Int} {f1 : Int} {f2 : Int} (h : IsS130 w0 W g f0 f1 f2) : w0.heap.size ≤ g := by
 obtain ⟨A0,c0,hb,hg,hr0⟩ := h
 exact hg
theorem IsS130.far {w0 W : World} {g : Nat} {f0 : List Int} {f1 : Int} {f2 : Int} {p : Addr} (h : IsS130 w0 W g f0 f1 f2) (hne : g ≠ p.block) (u : Value) : IsS130 w0 (W.setCell p u) g f0 f1 f2 := by
 obtain ⟨A0,c0,hb,hg,hr0⟩ := h
 exact ⟨A0,c0,blk_far hb hne u,hg,hr0⟩
theorem cellS130_0 {W : World} {g : Nat} {A0 : Option Addr} {c0 : Nat} {f0 : List Int} {f1 : Int} {f2 : Int} (h : W.heap[g]? = some (.cells #[.slice A0 f0.length c0,.int .i64 f1,.int .i64 f2] 130 (0,0))) : W.cell? ⟨g,0,none⟩ = some (.slice A0 f0.length c0) := (blk_cell h 0).trans rfl
theorem cellS130_1 {W : World} {g : Nat} {A0 : Option Addr} {c0 : Nat} {f0 : List Int} {f1 : Int} {f2 : Int} (h : W.heap[g]? = some (.cells #[.slice A0 f0.length c0,.int .i64 f1,.int .i64 f2] 130 (0,0))) : W.cell? ⟨g,1,none⟩ = some (.int .i64 f1) := (blk_cell h 1).trans rfl
theorem IsS130.set_1 {w0 W : World} {g : Nat} {f0 : List Int} {f1 : Int} {f2 : Int} (h : IsS130 w0 W g f0 f1 f2) (x : Int) : IsS130 w0 (W.setCell ⟨g,1,none⟩ (.int .i64 x)) g f0 x f2 := by
 obtain ⟨A0,c0,hb,hg,hr0⟩ := h
 exact ⟨A0,c0,by simpa using blk_set hb 1 (.int .i64 x),hg,hr0⟩
theorem cellS130_2 {W : World} {g : Nat} {A0 : Option Addr} {c0 : Nat} {f0 : List Int} {f1 : Int} {f2 : Int} (h : W.heap[g]? = some (.cells #[.slice A0 f0.length c0,.int .i64 f1,.int .i64 f2] 130 (0,0))) : W.cell? ⟨g,2,none⟩ = some (.int .i64 f2) := (blk_cell h 2).trans rfl
theorem IsS130.set_2 {w0 W : World} {g : Nat} {f0 : List Int} {f1 : Int} {f2 : Int} (h : IsS130 w0 W g f0 f1 f2) (x : Int) : IsS130 w0 (W.setCell ⟨g,2,none⟩ (.int .i64 x)) g f0 f1 x := by
 obtain ⟨A0,c0,hb,hg,hr0⟩ := h
 exact ⟨A0,c0,by simpa using blk_set hb 2 (.int .i64 x),hg,hr0⟩
theorem IsS130.new (w0 W : World) (A0 : Option Addr) (c0 : Nat) (f0 : List Int) (f1 : Int) (f2 : Int) (hB : Below w0.heap.size w0 W) (hr0 : Kd.C (Kd.int .u8) w0 A0 f0.length f0) : IsS130 w0 (W.alloc (.cells #[.slice A0 f0.length c0,.int .i64 f1,.int .i64 f2] 130)) W.heap.size f0 f1 f2 := ⟨A0,c0,by simpa using heap_alloc_new W _,hB.size,hr0⟩
def spec_l1Byte.f (s0_0 : List Int) (s0_1 : Int) (s0_2 : Int) : Option (Int × Int × Int) := if s0_1 < (s0_0.length : Int) then (if 0 ≤ s0_1 then (some (Go.bits .and .i64 (wrap64 ((Go.bits .and .i64 (Go.bits .xor .i64 ((wrap64 ((wrap64 (s0_2 * 6364136223846793005)) + 1442695040888963407)) / 8589934592) ((wrap64 ((wrap64 (s0_2 * 6364136223846793005)) + 1442695040888963407)) / 35184372088832)) 255) + (wrap64 (rd s0_0 s0_1)))) 255,wrap64 (s0_1 + 1),wrap64 ((wrap64 (s0_2 * 6364136223846793005)) + 1442695040888963407))) else (none)) else (some (Go.bits .and .i64 (Go.bits .xor .i64 ((wrap64 ((wrap64 (s0_2 * 6364136223846793005)) + 1442695040888963407)) / 8589934592) ((wrap64 ((wrap64 (s0_2 * 6364136223846793005)) + 1442695040888963407)) / 35184372088832)) 255,s0_1,wrap64 ((wrap64 (s0_2 * 6364136223846793005)) + 1442695040888963407)))
set_option maxHeartbeats 8000000 in
set_option maxRecDepth 100000 in
theorem spec_l1Byte.calls (g : Nat) (s0_0 : List Int) (s0_1 : Int) (s0_2 : Int) (r1 : Int) (r2 : Int) (r3 : Int) (w0 w : World) (hI : IsS130 w0 w g s0_0 s0_1 s0_2) (hB : Below w0.heap.size w0 w) (h : spec_l1Byte.f s0_0 s0_1 s0_2 = some (r1,r2,r3)) :
  Calls Try.prog 145 #[.pointer (some ⟨g,0,none⟩)] w fun e w' => e = .returned (.int .i64 r1) ∧ IsS130 w0 w' g s0_0 r2 r3 ∧ Below w0.heap.size w0 w' ∧ KeepBut w w' g none := by
 have HI0 := Aside0.mk hI
 have HK := Aside0.mk (KeepBut.refl w g none)
 have HL := Aside0.mk hB.size
 clear hI
 have HW0 := Aside0.mk hB.size
 have HB := Aside0.mk hB
 clear hB
 have H : (if s0_1 < (s0_0.length : Int) then (if 0 ≤ s0_1 then (some (Go.bits .and .i64 (wrap64 ((Go.bits .and .i64 (Go.bits .xor .i64 ((wrap64 ((wrap64 (s0_2 * 6364136223846793005)) + 1442695040888963407)) / 8589934592) ((wrap64 ((wrap64 (s0_2 * 6364136223846793005)) + 1442695040888963407)) / 35184372088832)) 255) + (wrap64 (rd s0_0 s0_1)))) 255,wrap64 (s0_1 + 1),wrap64 ((wrap64 (s0_2 * 6364136223846793005)) + 1442695040888963407))) else (none)) else (some (Go.bits .and .i64 (Go.bits .xor .i64 ((wrap64 ((wrap64 (s0_2 * 6364136223846793005)) + 1442695040888963407)) / 8589934592) ((wrap64 ((wrap64 (s0_2 * 6364136223846793005)) + 1442695040888963407)) / 35184372088832)) 255,s0_1,wrap64 ((wrap64 (s0_2 * 6364136223846793005)) + 1442695040888963407)))) = some (r1,r2,r3) := h
 clear h
 by_cases c2 : s0_1 < (s0_0.length : Int)
 ·rw [if_pos c2] at H
  have c2b0 : decide (s0_1 < (s0_0.length : Int)) = true := decide_eq_true c2
  clear c2
  by_cases c3 : 0 ≤ s0_1
  ·rw [if_pos c3] at H
   have c3b0 : decide (0 ≤ s0_1) = true := decide_eq_true c3
   clear c3
   simp only [Option.some.injEq,Prod.mk.injEq] at H
   obtain ⟨rfl,rfl,rfl⟩ := H
   obtain ⟨ASz4_0,cSz4_0,HGz4,hgz4,HSz4_0⟩ := HI0.out
   have hcz4_0 := cellS130_0 HGz4
   have hcz4_1 := cellS130_1 HGz4
   have hcz4_2 := cellS130_2 HGz4
   have hfz4_1 := blk_frozen HGz4 1
   have hfz4_2 := blk_frozen HGz4 2
   clear HGz4 hgz4
   have p101 : 0 ≤ (s0_1 : Int) := od_
   have q101 : s0_1 < (s0_0.length : Int) := od_
   obtain ⟨ad101,e101,hx101_0⟩ := Kd.at_int HSz4_0 s0_1 p101 q101
   cases e101
   have hn101_0 : ad101.block ≠ g := Nat.ne_of_lt (Nat.lt_of_lt_of_le (by have := World.block_lt_of_cell? _ _ hx101_0;first | rwa [add_block] at this | exact this) (IsS130.ge HI0.out))
   replace hx101_0 := pw_cell_below HB.out hx101_0
   replace hx101_0 := (cell_far (p := ⟨g,2,none⟩) (by first | (rw [add_block];exact hn101_0) | (show (Addr.add _ _).block ≠ _;rw [add_block];exact hn101_0) | exact hn101_0) (.int .i64 (wrap64 ((wrap64 (s0_2 * 6364136223846793005)) + 1442695040888963407)))).trans hx101_0
   (try have hy101_0 := fun (n_ : Nat) => (show (((w.drewN n_).setCell ⟨g,2,none⟩ (.int .i64 (wrap64 ((wrap64 (s0_2 * 6364136223846793005)) + 1442695040888963407))))).cell? _ = some _ from hx101_0))
   clear hn101_0
   replace p101 := eq_true p101
   replace q101 := eq_true q101
   go_enter Try.func145,Try.ntmps145
   go_wp2
   repeat (go_quiet (fail);try go_wp2)
   go_ret
   exact ⟨ea_,by repeat (first | (with_reducible first | exact HI0.out | apply IsS130.alloc | apply IsS130.drewN | apply IsS130.drew | apply IsS130.set_1 | apply IsS130.set_2) | exact HI0.out),by repeat (first | (with_reducible first | exact HB.out | apply below_alloc | apply pw_below_drewN | apply below_drew1 | refine below_set ?_ (IsS130.ge HI0.out)) | exact HB.out),by repeat (first | (with_reducible first | exact HK.out | apply KeepBut.set_ | apply keep_drewN | apply keep_drew | apply keep_alloc) | exact HK.out)⟩
  ·rw [if_neg c3] at H
   exact absurd H (by simp)
 ·rw [if_neg c2] at H
  have c2b0 : decide (s0_1 < (s0_0.length : Int)) = false := decide_eq_false c2
  clear c2
  simp only [Option.some.injEq,Prod.mk.injEq] at H
  obtain ⟨rfl,rfl,rfl⟩ := H
  obtain ⟨ASz5_0,cSz5_0,HGz5,hgz5,HSz5_0⟩ := HI0.out
  have hcz5_0 := cellS130_0 HGz5
  have hcz5_1 := cellS130_1 HGz5
  have hcz5_2 := cellS130_2 HGz5
  have hfz5_1 := blk_frozen HGz5 1
  have hfz5_2 := blk_frozen HGz5 2
  clear HGz5 hgz5
  go_enter Try.func145,Try.ntmps145
  go_wp2
  repeat (go_quiet (fail);try go_wp2)
  go_ret
  exact ⟨ea_,by repeat (first | (with_reducible first | exact HI0.out | apply IsS130.alloc | apply IsS130.drewN | apply IsS130.drew | apply IsS130.set_1 | apply IsS130.set_2) | exact HI0.out),by repeat (first | (with_reducible first | exact HB.out | apply below_alloc | apply pw_below_drewN | apply below_drew1 | refine below_set ?_ (IsS130.ge HI0.out)) | exact HB.out),by repeat (first | (with_reducible first | exact HK.out | apply KeepBut.set_ | apply keep_drewN | apply keep_drew | apply keep_alloc) | exact HK.out)⟩
end Go.Proofs.Ytngphdmbjenkaaa.X
namespace Go.Proofs.Ytngphdmbjenkaaa.X
open Go.RowKit Go.Proofs.YtngphdmbjenkaaaW.PrintWords Go.Proofs.YtngphdmbjenkaaaW.PrintLast Go.Proofs.YtngphdmbjenkaaaW.PrintMore
attribute [local go_sem] max2_int min2_int max_two min_two max_three min_three max_four min_four   -- for this text's walks alone
set_option linter.unusedVariables false
set_option linter.unusedSimpArgs false
def spec_l1New.l0 : Nat → List Int → Int → Int → Option (List Int × Int × Int)
 | 0,_,_,_ => none
 | k + 1,x0,x3,x4 => if x4 < (x0.length : Int) then (if x4 < 4000 then (if 0 ≤ x4 then (spec_l1New.l0 k x0 (Go.bits .and .i64 (wrap64 ((wrap64 ((wrap64 (x3 * 131)) + (wrap64 (rd x0 x4)))) + 7)) 1073741823) (wrap64 (x4 + 1))) else (none)) else (some (x0,0,x3))) else (some (x0,0,x3))
def spec_l1New.f (k : Nat) (l0 : List Int) : Option (List Int × Int × Int) := spec_l1New.l0 k l0 (wrap64 (10101 + (l0.length : Int))) 0
set_option maxHeartbeats 8000000 in
set_option maxRecDepth 100000 in
theorem spec_l1New.calls (k : Nat) (A0 : Option Addr) (c0 : Nat) (l0 : List Int) (r1 : List Int) (r2 : Int) (r3 : Int) (w0 w : World) (hB : Below w0.heap.size w0 w) (hr0 : Kd.C (Kd.int .u8) w0 A0 l0.length l0) (hc0 : l0.length ≤ c0) (h : spec_l1New.f k l0 = some (r1,r2,r3)) :
  Calls Try.prog 58 #[.slice A0 l0.length c0] w fun e w' => ∃ g_ : Nat,e = .returned (.pointer (some ⟨g_,0,none⟩)) ∧ IsS130 w0 w' g_ r1 r2 r3 ∧ Below w0.heap.size w0 w' ∧ Below w.heap.size w w' := by
 have hu130 := Try.underlying130
 have HR0 := Aside0.mk hr0
 have HC0 := Aside0.mk hc0
 clear hr0 hc0
 have HBW := Aside0.mk (Below.refl w.heap.size w)
 have HW0 := Aside0.mk hB.size
 have HB := Aside0.mk hB
 clear hB
 have H : (spec_l1New.l0 k l0 (wrap64 (10101 + (l0.length : Int))) 0) = some (r1,r2,r3) := h
 clear h
 have H' := Aside0.mk H
 clear H
 go_enter Try.func58,Try.ntmps58
 go_wp2
 go_loopg [3,4] k (fun kq v3 v4 w' => ∃ (x3_1 : Int) (x4_1 : Int),v3 = .int .i64 x3_1 ∧ v4 = .int .i64 x4_1 ∧ Aside0 (spec_l1New.l0 kq l0 x3_1 x4_1 = some (r1,r2,r3)) ∧ Aside0 (kq ≤ k) ∧ Aside0 (Below w0.heap.size w0 w') ∧ Aside0 (Below w.heap.size w w'))
 case atStart => exact ⟨(wrap64 (10101 + (l0.length : Int))),(0),eb_,eb_,H',⟨Nat.le_refl _⟩,bl_ HB,bl_ HBW⟩
 case round =>
  clear H'
  obtain ⟨x3_1,x4_1,rfl,rfl,HA,HK1,HB,HBW⟩ := hrel
  cases gk with
  | zero => exact absurd HA.out (by simp [spec_l1New.l0])
  | succ k1 =>
   have H := HA.out
   clear HA
   simp only [spec_l1New.l0] at H
   by_cases c2 : x4_1 < (l0.length : Int)
   ·rw [if_pos c2] at H
    have c2b0 : decide (x4_1 < (l0.length : Int)) = true := decide_eq_true c2
    clear c2
    by_cases c3 : x4_1 < 4000
    ·rw [if_pos c3] at H
     have c3b0 : decide (x4_1 < 4000) = true := decide_eq_true c3
     clear c3
     by_cases c4 : 0 ≤ x4_1
     ·rw [if_pos c4] at H
      have c4b0 : decide (0 ≤ x4_1) = true := decide_eq_true c4
      clear c4
      have H' := Aside0.mk H
      clear H
      have p406 : 0 ≤ (x4_1 : Int) := od_
      have q406 : x4_1 < (l0.length : Int) := od_
      obtain ⟨ad406,e406,hx406_0⟩ := Kd.at_int HR0.out x4_1 p406 q406
      cases e406
      replace hx406_0 := pw_cell_below HB.out hx406_0
      replace p406 := eq_true p406
      replace q406 := eq_true q406
      go_wp2
      go_roundg k1
      case measure => have := HK1.out;omega
      case rel => exact ⟨(Go.bits .and .i64 (wrap64 ((wrap64 ((wrap64 (x3_1 * 131)) + (wrap64 (rd l0 x4_1)))) + 7)) 1073741823),(wrap64 (x4_1 + 1)),eb_,eb_,H',⟨by have := HK1.out;omega⟩,bl_ HB,bl_ HBW⟩
     ·rw [if_neg c4] at H
      exact absurd H (by simp)
    ·rw [if_neg c3] at H
     have c3b0 : decide (x4_1 < 4000) = false := decide_eq_false c3
     clear c3
     simp only [Option.some.injEq,Prod.mk.injEq] at H
     obtain ⟨rfl,rfl,rfl⟩ := H
     go_wp2_with (first | ((with_reducible refine gate_dst (N := 31) rfl ?_);refine bx_ 31 #[.slice A0 l0.length c0,.int .i64 0,.int .i64 x3_1] 130 ?_;intro gb407 hg w5 hbox hb;replace HB := tB_ HB hb;have BK407 := Aside0.mk (hbox);have GW407 := Aside0.mk ((by rw [hg];exact (bs_ HBW) : w.heap.size ≤ gb407));have GE407 := Aside0.mk ((Nat.le_trans HW0.out (by rw [hg];exact (bs_ HBW) : w.heap.size ≤ gb407) : w0.heap.size ≤ gb407));replace HBW := Aside0.mk (below_step HBW.out hb);clear hb hbox hg))
     go_ret
     exact ⟨_,rfl,(show IsS130 w0 _ gb407 l0 0 x3_1 from ⟨_,_,kx_ BK407.out,GE407.out,HR0.out⟩),(bl_ HB).out,(bl_ HBW).out⟩
   ·rw [if_neg c2] at H
    have c2b0 : decide (x4_1 < (l0.length : Int)) = false := decide_eq_false c2
    clear c2
    simp only [Option.some.injEq,Prod.mk.injEq] at H
    obtain ⟨rfl,rfl,rfl⟩ := H
    go_wp2_with (first | ((with_reducible refine gate_dst (N := 31) rfl ?_);refine bx_ 31 #[.slice A0 l0.length c0,.int .i64 0,.int .i64 x3_1] 130 ?_;intro gb408 hg w6 hbox hb;replace HB := tB_ HB hb;have BK408 := Aside0.mk (hbox);have GW408 := Aside0.mk ((by rw [hg];exact (bs_ HBW) : w.heap.size ≤ gb408));have GE408 := Aside0.mk ((Nat.le_trans HW0.out (by rw [hg];exact (bs_ HBW) : w.heap.size ≤ gb408) : w0.heap.size ≤ gb408));replace HBW := Aside0.mk (below_step HBW.out hb);clear hb hbox hg))
    go_ret
    exact ⟨_,rfl,(show IsS130 w0 _ gb408 l0 0 x3_1 from ⟨_,_,kx_ BK408.out,GE408.out,HR0.out⟩),(bl_ HB).out,(bl_ HBW).out⟩
end Go.Proofs.Ytngphdmbjenkaaa.X
namespace Go.Proofs.Ytngphdmbjenkaaa.X
open Go.RowKit Go.Proofs.YtngphdmbjenkaaaW.PrintWords Go.Proofs.YtngphdmbjenkaaaW.PrintLast Go.Proofs.YtngphdmbjenkaaaW.PrintMore
attribute [local go_sem] max2_int min2_int max_two min_two max_three min_three max_four min_four   -- for this text's walks alone
set_option linter.unusedVariables false
set_option linter.unusedSimpArgs false
def spec_l1Below.f (s0_0 : List Int) (s0_1 : Int) (s0_2 : Int) (a1 : Int) : Option (Int × Int × Int) := if a1 ≤ 0 then (some (0,s0_1,s0_2)) else (if a1 ≤ 256 then ((spec_l1Byte.f s0_0 s0_1 s0_2).bind fun bt102 => (if a1 = 0 then (none) else (some (Int.tmod bt102.1 a1,bt102.2.1,bt102.2.2)))) else ((spec_l1Byte.f s0_0 s0_1 s0_2).bind fun bt105 => ((spec_l1Byte.f s0_0 bt105.2.1 bt105.2.2).bind fun bt108 => ((spec_l1Byte.f s0_0 bt108.2.1 bt108.2.2).bind fun bt111 => ((spec_l1Byte.f s0_0 bt111.2.1 bt111.2.2).bind fun bt114 => (if a1 = 0 then (none) else (some (Int.tmod (wrap64 ((wrap64 ((wrap64 ((wrap64 (bt105.1 * 16777216)) + (wrap64 (bt108.1 * 65536)))) + (wrap64 (bt111.1 * 256)))) + bt114.1)) a1,bt114.2.1,bt114.2.2))))))))
set_option maxHeartbeats 8000000 in
set_option maxRecDepth 100000 in
theorem spec_l1Below.calls (g : Nat) (s0_0 : List Int) (s0_1 : Int) (s0_2 : Int) (a1 : Int) (r1 : Int) (r2 : Int) (r3 : Int) (w0 w : World) (hI : IsS130 w0 w g s0_0 s0_1 s0_2) (hB : Below w0.heap.size w0 w) (h : spec_l1Below.f s0_0 s0_1 s0_2 a1 = some (r1,r2,r3)) :
  Calls Try.prog 113 #[.pointer (some ⟨g,0,none⟩),.int .i64 a1] w fun e w' => e = .returned (.int .i64 r1) ∧ IsS130 w0 w' g s0_0 r2 r3 ∧ Below w0.heap.size w0 w' ∧ KeepBut w w' g none := by
 have HI0 := Aside0.mk hI
 have HK := Aside0.mk (KeepBut.refl w g none)
 have HL := Aside0.mk hB.size
 clear hI
 have HW0 := Aside0.mk hB.size
 have HB := Aside0.mk hB
 clear hB
 have H : (if a1 ≤ 0 then (some (0,s0_1,s0_2)) else (if a1 ≤ 256 then ((spec_l1Byte.f s0_0 s0_1 s0_2).bind fun bt102 => (if a1 = 0 then (none) else (some (Int.tmod bt102.1 a1,bt102.2.1,bt102.2.2)))) else ((spec_l1Byte.f s0_0 s0_1 s0_2).bind fun bt105 => ((spec_l1Byte.f s0_0 bt105.2.1 bt105.2.2).bind fun bt108 => ((spec_l1Byte.f s0_0 bt108.2.1 bt108.2.2).bind fun bt111 => ((spec_l1Byte.f s0_0 bt111.2.1 bt111.2.2).bind fun bt114 => (if a1 = 0 then (none) else (some (Int.tmod (wrap64 ((wrap64 ((wrap64 ((wrap64 (bt105.1 * 16777216)) + (wrap64 (bt108.1 * 65536)))) + (wrap64 (bt111.1 * 256)))) + bt114.1)) a1,bt114.2.1,bt114.2.2))))))))) = some (r1,r2,r3) := h
 clear h
 by_cases c3 : a1 ≤ 0
 ·rw [if_pos c3] at H
  have c3b0 : decide (a1 ≤ 0) = true := decide_eq_true c3
  clear c3
  simp only [Option.some.injEq,Prod.mk.injEq] at H
  obtain ⟨rfl,rfl,rfl⟩ := H
  go_enter Try.func113,Try.ntmps113
  go_wp2
  go_ret
  exact ⟨ea_,by repeat (first | (with_reducible first | exact HI0.out | apply IsS130.alloc | apply IsS130.drewN | apply IsS130.drew | apply IsS130.set_1 | apply IsS130.set_2) | exact HI0.out),by repeat (first | (with_reducible first | exact HB.out | apply below_alloc | apply pw_below_drewN | apply below_drew1 | refine below_set ?_ (IsS130.ge HI0.out)) | exact HB.out),by repeat (first | (with_reducible first | exact HK.out | apply KeepBut.set_ | apply keep_drewN | apply keep_drew | apply keep_alloc) | exact HK.out)⟩
 ·rw [if_neg c3] at H
  have c3b0 : decide (a1 ≤ 0) = false := decide_eq_false c3
  clear c3
  by_cases c4 : a1 ≤ 256
  ·rw [if_pos c4] at H
   have c4b0 : decide (a1 ≤ 256) = true := decide_eq_true c4
   clear c4
   replace H := Option.bind_eq_some_iff.mp H
   obtain ⟨⟨t102,t103,t104⟩,A50,H⟩ := H
   replace H : (if a1 = 0 then (none) else (some (Int.tmod t102 a1,t103,t104))) = some (r1,r2,r3) := H
   have A5 := Aside0.mk A50
   clear A50
   by_cases c6 : a1 = 0
   ·rw [if_pos c6] at H
    exact absurd H (by simp)
   ·rw [if_neg c6] at H
    have c6b0 : (a1 == 0) = false := beq_eq_false_iff_ne.mpr c6
    have c6b1 : (a1 != 0) = true := bne_iff_ne.mpr c6
    simp only [Option.some.injEq,Prod.mk.injEq] at H
    obtain ⟨rfl,rfl,rfl⟩ := H
    go_enter Try.func113,Try.ntmps113
    go_wp2_with (first | ((with_reducible refine gate_callee (f := 145) rfl ?_);refine gL_ (some 14) Try.func145 #[.pointer (some ⟨g,0,none⟩)] ?_;(with_reducible refine (spec_l1Byte.calls g s0_0 s0_1 s0_2 t102 t103 t104 w0 _ ?side1 ?side2 A5.out).mono ?_);(case side1 => repeat (first | (with_reducible first | exact HI0.out | apply IsS130.alloc | apply IsS130.drewN | apply IsS130.drew | apply IsS130.set_1 | apply IsS130.set_2) | exact HI0.out));(case side2 => repeat (first | (with_reducible first | exact HB.out | apply below_alloc | apply pw_below_drewN | apply below_drew1 | refine below_set ?_ (IsS130.ge HI0.out)) | exact HB.out));rintro e w7 ⟨rfl,hi,hb,hk⟩;refine ⟨_,rfl,?_⟩;replace HK := Aside0.mk (KeepBut.trans (by repeat (first | (with_reducible first | exact HK.out | apply KeepBut.set_ | apply keep_drewN | apply keep_drew | apply keep_alloc) | exact HK.out)) hk (.inl rfl));replace HB := Aside0.mk (hb);replace HI0 := Aside0.mk (hi);(try clear hb);(try clear hk);(try clear hi)))
    go_ret
    exact ⟨ea_,by repeat (first | (with_reducible first | exact HI0.out | apply IsS130.alloc | apply IsS130.drewN | apply IsS130.drew | apply IsS130.set_1 | apply IsS130.set_2) | exact HI0.out),by repeat (first | (with_reducible first | exact HB.out | apply below_alloc | apply pw_below_drewN | apply below_drew1 | refine below_set ?_ (IsS130.ge HI0.out)) | exact HB.out),by repeat (first | (with_reducible first | exact HK.out | apply KeepBut.set_ | apply keep_drewN | apply keep_drew | apply keep_alloc) | exact HK.out)⟩
  ·rw [if_neg c4] at H
   have c4b0 : decide (a1 ≤ 256) = false := decide_eq_false c4
   clear c4
   replace H := Option.bind_eq_some_iff.mp H
   obtain ⟨⟨t105,t106,t107⟩,A80,H⟩ := H
   try dsimp only at H
   have A8 := Aside0.mk A80
   clear A80
   replace H := Option.bind_eq_some_iff.mp H
   obtain ⟨⟨t108,t109,t110⟩,A90,H⟩ := H
   try dsimp only at H
   have A9 := Aside0.mk A90
   clear A90
   replace H := Option.bind_eq_some_iff.mp H
   obtain ⟨⟨t111,t112,t113⟩,A100,H⟩ := H
   try dsimp only at H
   have A10 := Aside0.mk A100
   clear A100
   replace H := Option.bind_eq_some_iff.mp H
   obtain ⟨⟨t114,t115,t116⟩,A110,H⟩ := H
   try dsimp only at H
   have A11 := Aside0.mk A110
   clear A110
   by_cases c12 : a1 = 0
   ·rw [if_pos c12] at H
    exact absurd H (by simp)
   ·rw [if_neg c12] at H
    have c12b0 : (a1 == 0) = false := beq_eq_false_iff_ne.mpr c12
    have c12b1 : (a1 != 0) = true := bne_iff_ne.mpr c12
    simp only [Option.some.injEq,Prod.mk.injEq] at H
    obtain ⟨rfl,rfl,rfl⟩ := H
    go_enter Try.func113,Try.ntmps113
    go_wp2_with (first | ((with_reducible refine gate_callee (f := 145) rfl ?_);refine gL_ (some 18) Try.func145 #[.pointer (some ⟨g,0,none⟩)] ?_;(with_reducible refine (spec_l1Byte.calls g s0_0 s0_1 s0_2 t105 t106 t107 w0 _ ?side1 ?side2 A8.out).mono ?_);(case side1 => repeat (first | (with_reducible first | exact HI0.out | apply IsS130.alloc | apply IsS130.drewN | apply IsS130.drew | apply IsS130.set_1 | apply IsS130.set_2) | exact HI0.out));(case side2 => repeat (first | (with_reducible first | exact HB.out | apply below_alloc | apply pw_below_drewN | apply below_drew1 | refine below_set ?_ (IsS130.ge HI0.out)) | exact HB.out));rintro e w13 ⟨rfl,hi,hb,hk⟩;refine ⟨_,rfl,?_⟩;replace HK := Aside0.mk (KeepBut.trans (by repeat (first | (with_reducible first | exact HK.out | apply KeepBut.set_ | apply keep_drewN | apply keep_drew | apply keep_alloc) | exact HK.out)) hk (.inl rfl));replace HB := Aside0.mk (hb);replace HI0 := Aside0.mk (hi);(try clear hb);(try clear hk);(try clear hi)) | ((with_reducible refine gate_callee (f := 145) rfl ?_);refine gL_ (some 20) Try.func145 #[.pointer (some ⟨g,0,none⟩)] ?_;(with_reducible refine (spec_l1Byte.calls g s0_0 t106 t107 t108 t109 t110 w0 _ ?side1 ?side2 A9.out).mono ?_);(case side1 => repeat (first | (with_reducible first | exact HI0.out | apply IsS130.alloc | apply IsS130.drewN | apply IsS130.drew | apply IsS130.set_1 | apply IsS130.set_2) | exact HI0.out));(case side2 => repeat (first | (with_reducible first | exact HB.out | apply below_alloc | apply pw_below_drewN | apply below_drew1 | refine below_set ?_ (IsS130.ge HI0.out)) | exact HB.out));rintro e w14 ⟨rfl,hi,hb,hk⟩;refine ⟨_,rfl,?_⟩;replace HK := Aside0.mk (KeepBut.trans (by repeat (first | (with_reducible first | exact HK.out | apply KeepBut.set_ | apply keep_drewN | apply keep_drew | apply keep_alloc) | exact HK.out)) hk (.inl rfl));replace HB := Aside0.mk (hb);replace HI0 := Aside0.mk (hi);(try clear hb);(try clear hk);(try clear hi)) | ((with_reducible refine gate_callee (f := 145) rfl ?_);refine gL_ (some 22) Try.func145 #[.pointer (some ⟨g,0,none⟩)] ?_;(with_reducible refine (spec_l1Byte.calls g s0_0 t109 t110 t111 t112 t113 w0 _ ?side1 ?side2 A10.out).mono ?_);(case side1 => repeat (first | (with_reducible first | exact HI0.out | apply IsS130.alloc | apply IsS130.drewN | apply IsS130.drew | apply IsS130.set_1 | apply IsS130.set_2) | exact HI0.out));(case side2 => repeat (first | (with_reducible first | exact HB.out | apply below_alloc | apply pw_below_drewN | apply below_drew1 | refine below_set ?_ (IsS130.ge HI0.out)) | exact HB.out));rintro e w15 ⟨rfl,hi,hb,hk⟩;refine ⟨_,rfl,?_⟩;replace HK := Aside0.mk (KeepBut.trans (by repeat (first | (with_reducible first | exact HK.out | apply KeepBut.set_ | apply keep_drewN | apply keep_drew | apply keep_alloc) | exact HK.out)) hk (.inl rfl));replace HB := Aside0.mk (hb);replace HI0 := Aside0.mk (hi);(try clear hb);(try clear hk);(try clear hi)) | ((with_reducible refine gate_callee (f := 145) rfl ?_);refine gL_ (some 24) Try.func145 #[.pointer (some ⟨g,0,none⟩)] ?_;(with_reducible refine (spec_l1Byte.calls g s0_0 t112 t113 t114 t115 t116 w0 _ ?side1 ?side2 A11.out).mono ?_);(case side1 => repeat (first | (with_reducible first | exact HI0.out | apply IsS130.alloc | apply IsS130.drewN | apply IsS130.drew | apply IsS130.set_1 | apply IsS130.set_2) | exact HI0.out));(case side2 => repeat (first | (with_reducible first | exact HB.out | apply below_alloc | apply pw_below_drewN | apply below_drew1 | refine below_set ?_ (IsS130.ge HI0.out)) | exact HB.out));rintro e w16 ⟨rfl,hi,hb,hk⟩;refine ⟨_,rfl,?_⟩;replace HK := Aside0.mk (KeepBut.trans (by repeat (first | (with_reducible first | exact HK.out | apply KeepBut.set_ | apply keep_drewN | apply keep_drew | apply keep_alloc) | exact HK.out)) hk (.inl rfl));replace HB := Aside0.mk (hb);replace HI0 := Aside0.mk (hi);(try clear hb);(try clear hk);(try clear hi)))
    go_ret
    exact ⟨ea_,by repeat (first | (with_reducible first | exact HI0.out | apply IsS130.alloc | apply IsS130.drewN | apply IsS130.drew | apply IsS130.set_1 | apply IsS130.set_2) | exact HI0.out),by repeat (first | (with_reducible first | exact HB.out | apply below_alloc | apply pw_below_drewN | apply below_drew1 | refine below_set ?_ (IsS130.ge HI0.out)) | exact HB.out),by repeat (first | (with_reducible first | exact HK.out | apply KeepBut.set_ | apply keep_drewN | apply keep_drew | apply keep_alloc) | exact HK.out)⟩
end Go.Proofs.Ytngphdmbjenkaaa.X
namespace Go.Proofs.Ytngphdmbjenkaaa.X
open Go.RowKit Go.Proofs.YtngphdmbjenkaaaW.PrintWords Go.Proofs.YtngphdmbjenkaaaW.PrintLast Go.Proofs.YtngphdmbjenkaaaW.PrintMore
attribute [local go_sem] max2_int min2_int max_two min_two max_three min_three max_four min_four   -- for this text's walks alone
set_option linter.unusedVariables false
set_option linter.unusedSimpArgs false
def spec_l1Once.f (s0_0 : List Int) (s0_1 : Int) (s0_2 : Int) (a1 : Int) : Option (Bool × Int × Int) := (spec_l1Below.f s0_0 s0_1 s0_2 a1).bind fun bt117 => (some ((bt117.1 == 0),bt117.2.1,bt117.2.2))
set_option maxHeartbeats 8000000 in
set_option maxRecDepth 100000 in
theorem spec_l1Once.calls (g : Nat) (s0_0 : List Int) (s0_1 : Int) (s0_2 : Int) (a1 : Int) (r1 : Bool) (r2 : Int) (r3 : Int) (w0 w : World) (hI : IsS130 w0 w g s0_0 s0_1 s0_2) (hB : Below w0.heap.size w0 w) (h : spec_l1Once.f s0_0 s0_1 s0_2 a1 = some (r1,r2,r3)) :
  Calls Try.prog 110 #[.pointer (some ⟨g,0,none⟩),.int .i64 a1] w fun e w' => e = .returned (.bool r1) ∧ IsS130 w0 w' g s0_0 r2 r3 ∧ Below w0.heap.size w0 w' ∧ KeepBut w w' g none := by
 have HI0 := Aside0.mk hI
 have HK := Aside0.mk (KeepBut.refl w g none)
 have HL := Aside0.mk hB.size
 clear hI
 have HW0 := Aside0.mk hB.size
 have HB := Aside0.mk hB
 clear hB
 have H : ((spec_l1Below.f s0_0 s0_1 s0_2 a1).bind fun bt117 => (some ((bt117.1 == 0),bt117.2.1,bt117.2.2))) = some (r1,r2,r3) := h
 clear h
 replace H := Option.bind_eq_some_iff.mp H
 obtain ⟨⟨t117,t118,t119⟩,A30,H⟩ := H
 replace H : (some ((t117 == 0),t118,t119)) = some (r1,r2,r3) := H
 have A3 := Aside0.mk A30
 clear A30
 simp only [Option.some.injEq,Prod.mk.injEq] at H
 obtain ⟨rfl,rfl,rfl⟩ := H
 go_enter Try.func110,Try.ntmps110
 go_wp2_with (first | ((with_reducible refine gate_callee (f := 113) rfl ?_);refine gL_ (some 7) Try.func113 #[.pointer (some ⟨g,0,none⟩),.int .i64 a1] ?_;(with_reducible refine (spec_l1Below.calls g s0_0 s0_1 s0_2 a1 t117 t118 t119 w0 _ ?side1 ?side2 A3.out).mono ?_);(case side1 => repeat (first | (with_reducible first | exact HI0.out | apply IsS130.alloc | apply IsS130.drewN | apply IsS130.drew | apply IsS130.set_1 | apply IsS130.set_2) | exact HI0.out));(case side2 => repeat (first | (with_reducible first | exact HB.out | apply below_alloc | apply pw_below_drewN | apply below_drew1 | refine below_set ?_ (IsS130.ge HI0.out)) | exact HB.out));rintro e w4 ⟨rfl,hi,hb,hk⟩;refine ⟨_,rfl,?_⟩;replace HK := Aside0.mk (KeepBut.trans (by repeat (first | (with_reducible first | exact HK.out | apply KeepBut.set_ | apply keep_drewN | apply keep_drew | apply keep_alloc) | exact HK.out)) hk (.inl rfl));replace HB := Aside0.mk (hb);replace HI0 := Aside0.mk (hi);(try clear hb);(try clear hk);(try clear hi)))
 go_ret
 exact ⟨ea_,by repeat (first | (with_reducible first | exact HI0.out | apply IsS130.alloc | apply IsS130.drewN | apply IsS130.drew | apply IsS130.set_1 | apply IsS130.set_2) | exact HI0.out),by repeat (first | (with_reducible first | exact HB.out | apply below_alloc | apply pw_below_drewN | apply below_drew1 | refine below_set ?_ (IsS130.ge HI0.out)) | exact HB.out),by repeat (first | (with_reducible first | exact HK.out | apply KeepBut.set_ | apply keep_drewN | apply keep_drew | apply keep_alloc) | exact HK.out)⟩
end Go.Proofs.Ytngphdmbjenkaaa.X
namespace Go.Proofs.Ytngphdmbjenkaaa.X
open Go.RowKit Go.Proofs.YtngphdmbjenkaaaW.PrintWords Go.Proofs.YtngphdmbjenkaaaW.PrintLast Go.Proofs.YtngphdmbjenkaaaW.PrintMore
attribute [local go_sem] max2_int min2_int max_two min_two max_three min_three max_four min_four   -- for this text's walks alone
set_option linter.unusedVariables false
set_option linter.unusedSimpArgs false
def spec_l1PickInt.f (s0_0 : List Int) (s0_1 : Int) (s0_2 : Int) (l1 : List Int) : Option (Int × Int × Int) := (spec_l1Below.f s0_0 s0_1 s0_2 (l1.length : Int)).bind fun bt163 => (if 0 ≤ bt163.1 then (if bt163.1 < (l1.length : Int) then (some (rd l1 bt163.1,bt163.2.1,bt163.2.2)) else (none)) else (none))
set_option maxHeartbeats 8000000 in
set_option maxRecDepth 100000 in
theorem spec_l1PickInt.calls (g : Nat) (s0_0 : List Int) (s0_1 : Int) (s0_2 : Int) (A1 : Option Addr) (c1 : Nat) (l1 : List Int) (r1 : Int) (r2 : Int) (r3 : Int) (w0 w : World) (hI : IsS130 w0 w g s0_0 s0_1 s0_2) (hB : Below w0.heap.size w0 w) (hr1 : Kd.C (Kd.int .i64) w A1 l1.length l1) (hc1 : l1.length ≤ c1) (hf1 : ∀ ad,A1 = some ad → 0 < l1.length → ad.block ≠ g) (h : spec_l1PickInt.f s0_0 s0_1 s0_2 l1 = some (r1,r2,r3)) :
  Calls Try.prog 132 #[.pointer (some ⟨g,0,none⟩),.slice A1 l1.length c1] w fun e w' => e = .returned (.int .i64 r1) ∧ IsS130 w0 w' g s0_0 r2 r3 ∧ Below w0.heap.size w0 w' ∧ KeepBut w w' g none := by
 have HR1 := Aside0.mk hr1
 have HC1 := Aside0.mk hc1
 clear hr1 hc1
 have HI0 := Aside0.mk hI
 have HK := Aside0.mk (KeepBut.refl w g none)
 have HL := Aside0.mk hB.size
 clear hI
 have HW0 := Aside0.mk hB.size
 have HB := Aside0.mk hB
 clear hB
 have H : ((spec_l1Below.f s0_0 s0_1 s0_2 (l1.length : Int)).bind fun bt163 => (if 0 ≤ bt163.1 then (if bt163.1 < (l1.length : Int) then (some (rd l1 bt163.1,bt163.2.1,bt163.2.2)) else (none)) else (none))) = some (r1,r2,r3) := h
 clear h
 replace H := Option.bind_eq_some_iff.mp H
 obtain ⟨⟨t163,t164,t165⟩,A30,H⟩ := H
 try dsimp only at H
 have A3 := Aside0.mk A30
 clear A30
 by_cases c4 : 0 ≤ t163
 ·rw [if_pos c4] at H
  have c4b0 : decide (0 ≤ t163) = true := decide_eq_true c4
  clear c4
  by_cases c5 : t163 < (l1.length : Int)
  ·rw [if_pos c5] at H
   have c5b0 : decide (t163 < (l1.length : Int)) = true := decide_eq_true c5
   clear c5
   simp only [Option.some.injEq,Prod.mk.injEq] at H
   obtain ⟨rfl,rfl,rfl⟩ := H
   go_enter Try.func132,Try.ntmps132
   go_wp2_with (first | ((with_reducible refine gate_callee (f := 113) rfl ?_);refine gL_ (some 9) Try.func113 #[.pointer (some ⟨g,0,none⟩),.int .i64 (l1.length : Int)] ?_;(with_reducible refine (spec_l1Below.calls g s0_0 s0_1 s0_2 (l1.length : Int) t163 t164 t165 w0 _ ?side1 ?side2 A3.out).mono ?_);(case side1 => repeat (first | (with_reducible first | exact HI0.out | apply IsS130.alloc | apply IsS130.drewN | apply IsS130.drew | apply IsS130.set_1 | apply IsS130.set_2) | exact HI0.out));(case side2 => repeat (first | (with_reducible first | exact HB.out | apply below_alloc | apply pw_below_drewN | apply below_drew1 | refine below_set ?_ (IsS130.ge HI0.out)) | exact HB.out));rintro e w6 ⟨rfl,hi,hb,hk⟩;refine ⟨_,rfl,?_⟩;replace HK := Aside0.mk (KeepBut.trans (by repeat (first | (with_reducible first | exact HK.out | apply KeepBut.set_ | apply keep_drewN | apply keep_drew | apply keep_alloc) | exact HK.out)) hk (.inl rfl));replace HB := Aside0.mk (hb);replace HI0 := Aside0.mk (hi);(try clear hb);(try clear hk);(try clear hi);have p166 : 0 ≤ (t163 : Int) := od_;have q166 : t163 < (l1.length : Int) := od_;obtain ⟨ad166,e166,hx166_0⟩ := Kd.at_int HR1.out t163 p166 q166;cases e166;replace hx166_0 := keep_cell HK.out hx166_0 (by first | (rw [add_block];exact hf1 _ rfl (by omega)) | exact hf1 _ rfl (by omega) | exact hf1 ad166 rfl (by omega));replace p166 := eq_true p166;replace q166 := eq_true q166))
   go_ret
   exact ⟨ea_,by repeat (first | (with_reducible first | exact HI0.out | apply IsS130.alloc | apply IsS130.drewN | apply IsS130.drew | apply IsS130.set_1 | apply IsS130.set_2) | exact HI0.out),by repeat (first | (with_reducible first | exact HB.out | apply below_alloc | apply pw_below_drewN | apply below_drew1 | refine below_set ?_ (IsS130.ge HI0.out)) | exact HB.out),by repeat (first | (with_reducible first | exact HK.out | apply KeepBut.set_ | apply keep_drewN | apply keep_drew | apply keep_alloc) | exact HK.out)⟩
  ·rw [if_neg c5] at H
   exact absurd H (by simp)
 ·rw [if_neg c4] at H
  exact absurd H (by simp)
end Go.Proofs.Ytngphdmbjenkaaa.X
namespace Go.Proofs.Ytngphdmbjenkaaa.X
open Go.RowKit Go.Proofs.YtngphdmbjenkaaaW.PrintWords Go.Proofs.YtngphdmbjenkaaaW.PrintLast Go.Proofs.YtngphdmbjenkaaaW.PrintMore
attribute [local go_sem] max2_int min2_int max_two min_two max_three min_three max_four min_four   -- for this text's walks alone
set_option linter.unusedVariables false
set_option linter.unusedSimpArgs false
def spec_l2Label.f (s0_0 : List Int) (s0_1 : Int) (s0_2 : Int) : Option (Int × Int × Int) := (spec_l1Below.f s0_0 s0_1 s0_2 4).bind fun bt120 => (some (bt120.1,bt120.2.1,bt120.2.2))
set_option maxHeartbeats 8000000 in
set_option maxRecDepth 100000 in
theorem spec_l2Label.calls (g : Nat) (s0_0 : List Int) (s0_1 : Int) (s0_2 : Int) (r1 : Int) (r2 : Int) (r3 : Int) (w0 w : World) (hI : IsS130 w0 w g s0_0 s0_1 s0_2) (hB : Below w0.heap.size w0 w) (h : spec_l2Label.f s0_0 s0_1 s0_2 = some (r1,r2,r3)) :
  Calls Try.prog 134 #[.pointer (some ⟨g,0,none⟩)] w fun e w' => e = .returned (.int .i64 r1) ∧ IsS130 w0 w' g s0_0 r2 r3 ∧ Below w0.heap.size w0 w' ∧ KeepBut w w' g none := by
 have HI0 := Aside0.mk hI
 have HK := Aside0.mk (KeepBut.refl w g none)
 have HL := Aside0.mk hB.size
 clear hI
 have HW0 := Aside0.mk hB.size
 have HB := Aside0.mk hB
 clear hB
 have H : ((spec_l1Below.f s0_0 s0_1 s0_2 4).bind fun bt120 => (some (bt120.1,bt120.2.1,bt120.2.2))) = some (r1,r2,r3) := h
 clear h
 replace H := Option.bind_eq_some_iff.mp H
 obtain ⟨⟨t120,t121,t122⟩,A20,H⟩ := H
 replace H : (some (t120,t121,t122)) = some (r1,r2,r3) := H
 have A2 := Aside0.mk A20
 clear A20
 simp only [Option.some.injEq,Prod.mk.injEq] at H
 obtain ⟨rfl,rfl,rfl⟩ := H
 go_enter Try.func134,Try.ntmps134
 go_wp2_with (first | ((with_reducible refine gate_callee (f := 113) rfl ?_);refine gL_ (some 4) Try.func113 #[.pointer (some ⟨g,0,none⟩),.int .i64 4] ?_;(with_reducible refine (spec_l1Below.calls g s0_0 s0_1 s0_2 4 t120 t121 t122 w0 _ ?side1 ?side2 A2.out).mono ?_);(case side1 => repeat (first | (with_reducible first | exact HI0.out | apply IsS130.alloc | apply IsS130.drewN | apply IsS130.drew | apply IsS130.set_1 | apply IsS130.set_2) | exact HI0.out));(case side2 => repeat (first | (with_reducible first | exact HB.out | apply below_alloc | apply pw_below_drewN | apply below_drew1 | refine below_set ?_ (IsS130.ge HI0.out)) | exact HB.out));rintro e w3 ⟨rfl,hi,hb,hk⟩;refine ⟨_,rfl,?_⟩;replace HK := Aside0.mk (KeepBut.trans (by repeat (first | (with_reducible first | exact HK.out | apply KeepBut.set_ | apply keep_drewN | apply keep_drew | apply keep_alloc) | exact HK.out)) hk (.inl rfl));replace HB := Aside0.mk (hb);replace HI0 := Aside0.mk (hi);(try clear hb);(try clear hk);(try clear hi)))
 go_ret
 exact ⟨ea_,by repeat (first | (with_reducible first | exact HI0.out | apply IsS130.alloc | apply IsS130.drewN | apply IsS130.drew | apply IsS130.set_1 | apply IsS130.set_2) | exact HI0.out),by repeat (first | (with_reducible first | exact HB.out | apply below_alloc | apply pw_below_drewN | apply below_drew1 | refine below_set ?_ (IsS130.ge HI0.out)) | exact HB.out),by repeat (first | (with_reducible first | exact HK.out | apply KeepBut.set_ | apply keep_drewN | apply keep_drew | apply keep_alloc) | exact HK.out)⟩
end Go.Proofs.Ytngphdmbjenkaaa.X
namespace Go.Proofs.Ytngphdmbjenkaaa.X
open Go.RowKit Go.Proofs.YtngphdmbjenkaaaW.PrintWords Go.Proofs.YtngphdmbjenkaaaW.PrintLast Go.Proofs.YtngphdmbjenkaaaW.PrintMore
attribute [local go_sem] max2_int min2_int max_two min_two max_three min_three max_four min_four   -- for this text's walks alone
set_option linter.unusedVariables false
set_option linter.unusedSimpArgs false
def spec_l2Any.f (s0_0 : List Int) (s0_1 : Int) (s0_2 : Int) : Option (Int × Int × Int) := (spec_l1PickInt.f s0_0 s0_1 s0_2 (([0,1,2,3,5,6,(-1)] : List Int))).bind fun bt170 => (some (bt170.1,bt170.2.1,bt170.2.2))
set_option maxHeartbeats 8000000 in
set_option maxRecDepth 100000 in
theorem spec_l2Any.calls (g : Nat) (s0_0 : List Int) (s0_1 : Int) (s0_2 : Int) (r1 : Int) (r2 : Int) (r3 : Int) (w0 w : World) (hI : IsS130 w0 w g s0_0 s0_1 s0_2) (hB : Below w0.heap.size w0 w) (h : spec_l2Any.f s0_0 s0_1 s0_2 = some (r1,r2,r3)) :
  Calls Try.prog 131 #[.pointer (some ⟨g,0,none⟩)] w fun e w' => e = .returned (.int .i64 r1) ∧ IsS130 w0 w' g s0_0 r2 r3 ∧ Below w0.heap.size w0 w' ∧ KeepBut w w' g none := by
 have HI0 := Aside0.mk hI
 have HK := Aside0.mk (KeepBut.refl w g none)
 have HL := Aside0.mk hB.size
 clear hI
 have HW0 := Aside0.mk hB.size
 have HB := Aside0.mk hB
 clear hB
 have H : ((spec_l1PickInt.f s0_0 s0_1 s0_2 (([0,1,2,3,5,6,(-1)] : List Int))).bind fun bt170 => (some (bt170.1,bt170.2.1,bt170.2.2))) = some (r1,r2,r3) := h
 clear h
 obtain ⟨y167,hy167⟩ : ∃ y_ : List Int,y_ = (([0,1,2,3,5,6,(-1)] : List Int)) := ⟨_,rfl⟩
 replace H : ((spec_l1PickInt.f s0_0 s0_1 s0_2 y167).bind fun bt170 => (some (bt170.1,bt170.2.1,bt170.2.2))) = some (r1,r2,r3) := by first | (rw [hy167];with_reducible exact H) | (have H2_ := (Option.bind_some _ _).symm.trans H;rw [hy167];with_reducible exact H2_) | (have H2_ := (Option.bind_some _ _).symm.trans H;with_reducible exact H2_) | with_reducible exact H | (rw [hy167];exact H) | exact H
 have Ny167 := Aside0.mk hy167
 clear hy167
 replace H := Option.bind_eq_some_iff.mp H
 obtain ⟨⟨t170,t171,t172⟩,A20,H⟩ := H
 replace H : (some (t170,t171,t172)) = some (r1,r2,r3) := H
 have A2 := Aside0.mk A20
 clear A20
 simp only [Option.some.injEq,Prod.mk.injEq] at H
 obtain ⟨rfl,rfl,rfl⟩ := H
 go_enter Try.func131,Try.ntmps131
 go_wp2_with (first | ((with_reducible refine gate_dst (N := 4) rfl ?_);refine Kd.R_lit (Kd.int .i64) _ 3 ?hg (N := 4) ?hd (xs := ([0,1,2,3,5,6,(-1)] : List Int)) (inner := [.int .i64 0,.int .i64 1,.int .i64 2,.int .i64 3,.int .i64 5,.int .i64 6,.int .i64 (-1)]) (ok := fun _ => True) (okp := fun _ => True) ?hr ?hp (fun _ hk => hk) trivial (Below.refl _ _) (Nat.le_refl _) (by simp) ?_;(case hd => rfl);(case hg => rfl);(case hr => first | (go_simp;done) | (go_simp;rfl));(case hp => exact (Reps.one (show Kd.M (Kd.int .i64) _ _ _ 0 [.int .i64 0] from rfl) (Reps.one (show Kd.M (Kd.int .i64) _ _ _ 1 [.int .i64 1] from rfl) (Reps.one (show Kd.M (Kd.int .i64) _ _ _ 2 [.int .i64 2] from rfl) (Reps.one (show Kd.M (Kd.int .i64) _ _ _ 3 [.int .i64 3] from rfl) (Reps.one (show Kd.M (Kd.int .i64) _ _ _ 5 [.int .i64 5] from rfl) (Reps.one (show Kd.M (Kd.int .i64) _ _ _ 6 [.int .i64 6] from rfl) (Reps.one (show Kd.M (Kd.int .i64) _ _ _ (-1) [.int .i64 (-1)] from rfl) (Reps.none _ _)))))))));intro v168 w3 ho4 hb hg_ hnew_;clear hg_ hnew_;(first | rw [← Ny167.out] at ho4 | (simp only [Int.reduceToNat] at ho4;rw [← Ny167.out] at ho4));have HO169 := Aside0.mk (Kd.R_lower ho4 (keep_size (w := w) (g := g) (row := none) (by repeat (first | (with_reducible first | exact HK.out | apply KeepBut.set_ | apply keep_drewN | apply keep_drew | apply keep_alloc) | exact HK.out))));replace HK := Aside0.mk (KeepBut.trans (by repeat (first | (with_reducible first | exact HK.out | apply KeepBut.set_ | apply keep_drewN | apply keep_drew | apply keep_alloc) | exact HK.out)) (KeepBut.of_below hb g none) (.inl rfl));replace HB := Aside0.mk (below_step (by repeat (first | (with_reducible first | exact HB.out | apply below_alloc | apply pw_below_drewN | apply below_drew1 | refine below_set ?_ (IsS130.ge HI0.out)) | exact HB.out)) hb);replace HI0 := Aside0.mk (IsS130.below (by repeat (first | (with_reducible first | exact HI0.out | apply IsS130.alloc | apply IsS130.drewN | apply IsS130.drew | apply IsS130.set_1 | apply IsS130.set_2) | exact HI0.out)) hb);clear hb ho4;obtain ⟨Ao5,co5,eo5⟩ := Kd.R_slice HO169.out;subst eo5) | ((with_reducible refine gate_callee (f := 132) rfl ?_);refine gL_ (some 5) Try.func132 #[.pointer (some ⟨g,0,none⟩),.slice Ao5 y167.length co5] ?_;(with_reducible refine (spec_l1PickInt.calls g s0_0 s0_1 s0_2 _ _ y167 t170 t171 t172 w0 _ ?side1 ?side2 ?side3 ?side4 ?side5 A2.out).mono ?_);(case side1 => repeat (first | (with_reducible first | exact HI0.out | apply IsS130.alloc | apply IsS130.drewN | apply IsS130.drew | apply IsS130.set_1 | apply IsS130.set_2) | exact HI0.out));(case side2 => repeat (first | (with_reducible first | exact HB.out | apply below_alloc | apply pw_below_drewN | apply below_drew1 | refine below_set ?_ (IsS130.ge HI0.out)) | exact HB.out));(case side3 => exact cc_ (Kd.R_reads' HO169.out).2.2);(case side4 => exact (Kd.R_reads' HO169.out).2.1);(case side5 => exact far_slice (IsS130.own_ne HI0.out HO169.out (by decide)));rintro e w6 ⟨rfl,hi,hb,hk⟩;refine ⟨_,rfl,?_⟩;replace HO169 := Aside0.mk (Kd.R_mono (Kd.R_keep (IsS130.apart (show IsS130 w0 _ g s0_0 s0_1 s0_2 from by repeat (first | (with_reducible first | exact HI0.out | apply IsS130.alloc | apply IsS130.drewN | apply IsS130.drew | apply IsS130.set_1 | apply IsS130.set_2) | exact HI0.out)) (rx_ HO169.out) (by decide)) hk (fun _ h => h.2)) (fun _ h => h.1));replace HK := Aside0.mk (KeepBut.trans (by repeat (first | (with_reducible first | exact HK.out | apply KeepBut.set_ | apply keep_drewN | apply keep_drew | apply keep_alloc) | exact HK.out)) hk (.inl rfl));replace HB := Aside0.mk (hb);replace HI0 := Aside0.mk (hi);(try clear hb);(try clear hk);(try clear hi)))
 go_ret
 exact ⟨ea_,by repeat (first | (with_reducible first | exact HI0.out | apply IsS130.alloc | apply IsS130.drewN | apply IsS130.drew | apply IsS130.set_1 | apply IsS130.set_2) | exact HI0.out),by repeat (first | (with_reducible first | exact HB.out | apply below_alloc | apply pw_below_drewN | apply below_drew1 | refine below_set ?_ (IsS130.ge HI0.out)) | exact HB.out),by repeat (first | (with_reducible first | exact HK.out | apply KeepBut.set_ | apply keep_drewN | apply keep_drew | apply keep_alloc) | exact HK.out)⟩
end Go.Proofs.Ytngphdmbjenkaaa.X
namespace Go.Proofs.Ytngphdmbjenkaaa.X
open Go.RowKit Go.Proofs.YtngphdmbjenkaaaW.PrintWords Go.Proofs.YtngphdmbjenkaaaW.PrintLast Go.Proofs.YtngphdmbjenkaaaW.PrintMore
attribute [local go_sem] max2_int min2_int max_two min_two max_three min_three max_four min_four   -- for this text's walks alone
set_option linter.unusedVariables false
set_option linter.unusedSimpArgs false
def spec_l1In.f (a0 : Int) (a1 : Int) (a2 : Int) : Option (Bool) := if a0 ≥ a1 then (some (decide (a0 ≤ a2))) else (some false)
set_option maxHeartbeats 8000000 in
set_option maxRecDepth 100000 in
theorem spec_l1In.calls (a0 : Int) (a1 : Int) (a2 : Int) (r : Bool) (w : World) (h : spec_l1In.f a0 a1 a2 = some r) :
  Calls Try.prog 62 #[.int .i64 a0,.int .i64 a1,.int .i64 a2] w fun e w' => e = .returned (.bool r) ∧ Drawn0 w w' := by
 have H : (if a0 ≥ a1 then (some (decide (a0 ≤ a2))) else (some false)) = some r := h
 clear h
 by_cases c4 : a0 ≥ a1
 ·rw [if_pos c4] at H
  have c4b0 : decide (a1 ≤ a0) = true := decide_eq_true c4
  clear c4
  obtain rfl := Option.some.inj H
  go_enter Try.func62,Try.ntmps62
  go_wp2
  go_ret
  exact ⟨by first | rfl | (simp;done) | (simp [*];done),by repeat (first | exact Drawn0.refl _ | apply Drawn0.step)⟩
 ·rw [if_neg c4] at H
  have c4b0 : decide (a1 ≤ a0) = false := decide_eq_false c4
  clear c4
  obtain rfl := Option.some.inj H
  go_enter Try.func62,Try.ntmps62
  go_wp2
  go_ret
  exact ⟨by first | rfl | (simp;done) | (simp [*];done),by repeat (first | exact Drawn0.refl _ | apply Drawn0.step)⟩
end Go.Proofs.Ytngphdmbjenkaaa.X
namespace Go.Proofs.Ytngphdmbjenkaaa.X
open Go.RowKit Go.Proofs.YtngphdmbjenkaaaW.PrintWords Go.Proofs.YtngphdmbjenkaaaW.PrintLast Go.Proofs.YtngphdmbjenkaaaW.PrintMore
attribute [local go_sem] max2_int min2_int max_two min_two max_three min_three max_four min_four   -- for this text's walks alone
set_option linter.unusedVariables false
set_option linter.unusedSimpArgs false
def spec_LabelOk.f (a0 : Int) : Option (Bool) := (spec_l1In.f a0 0 5).bind fun t214 => (some t214)
set_option maxHeartbeats 8000000 in
set_option maxRecDepth 100000 in
theorem spec_LabelOk.calls (a0 : Int) (r : Bool) (w : World) (h : spec_LabelOk.f a0 = some r) :
  Calls Try.prog 61 #[.int .i64 a0] w fun e w' => e = .returned (.bool r) ∧ Drawn0 w w' := by
 have H : ((spec_l1In.f a0 0 5).bind fun t214 => (some t214)) = some r := h
 clear h
 replace H := Option.bind_eq_some_iff.mp H
 obtain ⟨t214,A20,H⟩ := H
 replace H : (some t214) = some r := H
 have A2 := Aside0.mk A20
 clear A20
 obtain rfl := Option.some.inj H
 go_enter Try.func61,Try.ntmps61
 go_wp2_with (first | ((with_reducible refine gate_callee (f := 62) rfl ?_);refine gL_ (some 4) Try.func62 #[.int .i64 a0,.int .i64 0,.int .i64 5] ?_;(with_reducible refine (spec_l1In.calls a0 0 5 t214 _ A2.out).mono ?_);rintro e w' ⟨rfl,⟨nd,rfl⟩⟩;refine ⟨_,rfl,?_⟩))
 go_ret
 exact ⟨by first | rfl | (simp;done) | (simp [*];done),by repeat (first | exact Drawn0.refl _ | apply Drawn0.step)⟩
end Go.Proofs.Ytngphdmbjenkaaa.X
namespace Go.Proofs.Ytngphdmbjenkaaa.X
open Go.RowKit Go.Proofs.YtngphdmbjenkaaaW.PrintWords Go.Proofs.YtngphdmbjenkaaaW.PrintLast Go.Proofs.YtngphdmbjenkaaaW.PrintMore
attribute [local go_sem] max2_int min2_int max_two min_two max_three min_three max_four min_four   -- for this text's walks alone
set_option linter.unusedVariables false
set_option linter.unusedSimpArgs false
def spec_TreeOk.l0 : Nat → List (S77) → Int → Option (Bool)
 | 0,_,_ => none
 | k + 1,x0,x3 => if x3 < (x0.length : Int) then (if 0 ≤ x3 then ((spec_LabelOk.f ((rd_T77 x0 x3).f0)).bind fun t217 => (if t217 = true then ((spec_l1In.f ((rd_T77 x0 x3).f1) 0 12).bind fun t219 => (if t219 = true then (if ((((rd_T77 x0 x3).f1) == 0) != (x3 == 0)) = true then (some false) else (if x3 > 0 then (if 0 ≤ (wrap64 (x3 - 1)) then (if (wrap64 (x3 - 1)) < (x0.length : Int) then (if ((rd_T77 x0 x3).f1) > (wrap64 (((rd_T77 x0 (wrap64 (x3 - 1))).f1) + 1)) then (some false) else (spec_TreeOk.l0 k x0 (wrap64 (x3 + 1)))) else (none)) else (none)) else (spec_TreeOk.l0 k x0 (wrap64 (x3 + 1))))) else (some false))) else (some false))) else (none)) else ((spec_l1In.f (x0.length : Int) 1 24).bind fun t215 => (some t215))
def spec_TreeOk.f (k : Nat) (l0 : List (S77)) : Option (Bool) := spec_TreeOk.l0 k l0 0
theorem spec_TreeOk.mono_l : ∀ k,(∀ y0 y1,LeO (spec_TreeOk.l0 k y0 y1) (spec_TreeOk.l0 (k + 1) y0 y1))
 | 0 => fun _ _ r h => by simp [spec_TreeOk.l0] at h
 | k + 1 => by
  have ih0 := spec_TreeOk.mono_l k
  ·intro y0 y1
   unfold spec_TreeOk.l0
   repeat' first
   | (with_reducible exact ih0 _ _)
   | (with_reducible exact LeO.refl _)
   | (with_reducible exact LeO.none _)
   | (with_reducible refine LeO.ite ?_ ?_)
   | (with_reducible refine LeO.bind ?_ (fun _ => ?_))
   | exact ih0 _ _
   | exact LeO.none _
   | refine LeO.ite ?_ ?_
   | refine LeO.bind ?_ (fun _ => ?_)
theorem spec_TreeOk.mono : ∀ a0 k,LeO (spec_TreeOk.f k a0) (spec_TreeOk.f (k + 1) a0) := by
 intro a0 k
 have ih0 := spec_TreeOk.mono_l k
 unfold spec_TreeOk.f
 repeat' first
   | (with_reducible exact ih0 _ _)
   | (with_reducible exact LeO.refl _)
   | (with_reducible exact LeO.none _)
   | (with_reducible refine LeO.ite ?_ ?_)
   | (with_reducible refine LeO.bind ?_ (fun _ => ?_))
   | exact ih0 _ _
   | exact LeO.none _
   | refine LeO.ite ?_ ?_
   | refine LeO.bind ?_ (fun _ => ?_)
def spec_TreeOk.T4 : Bool × List (List Nat × List Nat) := (true,[([],[]),([],[]),([0,1],[0,1]),([2],[2]),([3],[3]),([4],[4]),([5],[5]),([6,5],[6]),([7],[7]),([7],[7]),([8,9,7],[7,8,9]),([10,7],[7,10]),([11,7],[7,11]),([12,7,7],[7,12]),([13,7],[7,13]),([7,14],[7,14]),([15,13],[15]),([16],[16]),([16],[16]),([17,18,16],[16,17,18]),([19,16],[16,19]),([20,16],[16,20]),([21,16],[16,21]),([16],[16]),([23,16],[16,23]),([22,24,16],[16,22,24]),([16,25],[16,25]),([26,16],[26]),([27],[27]),([28,27],[27,28]),([29,27,27],[27,29]),([30],[30]),([30],[30]),([31,32,30],[30,31,32]),([33,30],[30,33]),([34,30],[30,34]),([30],[30]),([30],[30]),([37,30],[30,37]),([36,38,30],[30,36,38]),([39,30],[30,39]),([40,30],[30,40]),([41,30],[30,41]),([35,42,30],[30,35,42]),([30,43,27],[27,30,43]),([27,44],[27,44])])
def spec_TreeOk.B4 : List Nat := [0,0,3,7,15,31,63,127,255,255,1023,2047,4095,8191,16383,32767,65535,131071,131071,524287,1048575,2097151,4194303,131071,8519679,33554431,67108863,134217727,268435455,536870911,1073741823,2147483647,2147483647,8589934591,17179869183,34359738367,2147483647,2147483647,139586437119,483183820799,1032939634687,2132451262463,4331474518015,8796093022207,17592186044415,35184372088831]
theorem spec_TreeOk.tab4 : rtab .any (opsOf Try.f16 4) = spec_TreeOk.T4 := by kernel_rfl
theorem spec_TreeOk.bits4 : waitsOk spec_TreeOk.T4.2 spec_TreeOk.B4 = true := by kernel_rfl
set_option maxHeartbeats 8000000 in
set_option maxRecDepth 100000 in
theorem spec_TreeOk.calls (k : Nat) (A0 : Option Addr) (c0 : Nat) (l0 : List (S77)) (r : Bool) (w : World) (hr0 : Kd.C k77 w A0 l0.length l0) (hc0 : l0.length ≤ c0) (h : spec_TreeOk.f k l0 = some r) :
  Calls Try.prog 16 #[.slice A0 l0.length c0] w fun e w' => e = .returned (.bool r) ∧ Below w.heap.size w w' := by
 have HR0 := Aside0.mk hr0
 have HC0 := Aside0.mk hc0
 clear hr0 hc0
 have HB := Aside0.mk (Below.refl w.heap.size w)
 have H : (spec_TreeOk.l0 k l0 0) = some r := h
 clear h
 have H' := Aside0.mk H
 clear H
 go_enter Try.func16,Try.ntmps16
 go_wp2
 go_loopg [3] k (fun kq v3 w' => ∃ (x3_1 : Int),v3 = .int .i64 x3_1 ∧ Aside0 (spec_TreeOk.l0 kq l0 x3_1 = some r) ∧ Aside0 (kq ≤ k) ∧ Aside0 (Below w.heap.size w w'))
 case atStart => exact ⟨(0),eb_,H',⟨Nat.le_refl _⟩,bl_ HB⟩
 case round =>
  clear H'
  try clear c1
  obtain ⟨x3_1,rfl,HA,HK1,HB⟩ := hrel
  cases gk with
  | zero => exact absurd HA.out (by simp [spec_TreeOk.l0])
  | succ k1 =>
   have H := HA.out
   clear HA
   simp only [spec_TreeOk.l0] at H
   by_cases c2 : x3_1 < (l0.length : Int)
   ·rw [if_pos c2] at H
    have c2b0 : decide (x3_1 < (l0.length : Int)) = true := decide_eq_true c2
    clear c2
    by_cases c3 : 0 ≤ x3_1
    ·rw [if_pos c3] at H
     have c3b0 : decide (0 ≤ x3_1) = true := decide_eq_true c3
     clear c3
     replace H := Option.bind_eq_some_iff.mp H
     obtain ⟨t217,A40,H⟩ := H
     try dsimp only at H
     have A4 := Aside0.mk A40
     clear A40
     by_cases c5 : t217 = true
     ·subst c5
      have H1 : ((spec_l1In.f ((rd_T77 l0 x3_1).f1) 0 12).bind fun t219 => (if t219 = true then (if ((((rd_T77 l0 x3_1).f1) == 0) != (x3_1 == 0)) = true then (some false) else (if x3_1 > 0 then (if 0 ≤ (wrap64 (x3_1 - 1)) then (if (wrap64 (x3_1 - 1)) < (l0.length : Int) then (if ((rd_T77 l0 x3_1).f1) > (wrap64 (((rd_T77 l0 (wrap64 (x3_1 - 1))).f1) + 1)) then (some false) else (spec_TreeOk.l0 k1 l0 (wrap64 (x3_1 + 1)))) else (none)) else (none)) else (spec_TreeOk.l0 k1 l0 (wrap64 (x3_1 + 1))))) else (some false))) = some r := by rw [if_pos rfl] at H;exact H
      clear H
      have H := H1
      clear H1
      replace H := Option.bind_eq_some_iff.mp H
      obtain ⟨t219,A60,H⟩ := H
      try dsimp only at H
      have A6 := Aside0.mk A60
      clear A60
      by_cases c7 : t219 = true
      ·subst c7
       have H1 : (if ((((rd_T77 l0 x3_1).f1) == 0) != (x3_1 == 0)) = true then (some false) else (if x3_1 > 0 then (if 0 ≤ (wrap64 (x3_1 - 1)) then (if (wrap64 (x3_1 - 1)) < (l0.length : Int) then (if ((rd_T77 l0 x3_1).f1) > (wrap64 (((rd_T77 l0 (wrap64 (x3_1 - 1))).f1) + 1)) then (some false) else (spec_TreeOk.l0 k1 l0 (wrap64 (x3_1 + 1)))) else (none)) else (none)) else (spec_TreeOk.l0 k1 l0 (wrap64 (x3_1 + 1))))) = some r := by rw [if_pos rfl] at H;exact H
       clear H
       have H := H1
       clear H1
       by_cases c8 : ((((rd_T77 l0 x3_1).f1) == 0) != (x3_1 == 0)) = true
       ·rw [if_pos c8] at H
        have c8b0 : ((((rd_T77 l0 x3_1).f1) == 0) != (x3_1 == 0)) = true := c8
        (try (have c8b1 : decide ((((rd_T77 l0 x3_1).f1) == 0) = (x3_1 == 0)) = false := by simpa using c8))
        (try (have c8b2 : ((((rd_T77 l0 x3_1).f1) == 0) == (x3_1 == 0)) = false := by simpa using c8))
        (try (have c8b3 : ¬ ((((rd_T77 l0 x3_1).f1) == 0) = (x3_1 == 0)) := by simpa using c8))
        clear c8
        obtain rfl := Option.some.inj H
        try go_wp2
        have n0_ := Aside0.mk (below_drew1 HB.out)
        clear HB
        have HB := n0_
        clear n0_
        have p216 : 0 ≤ (x3_1 : Int) := od_
        have q216 : x3_1 < (l0.length : Int) := od_
        obtain ⟨ad216,e216,hx216_0,hx216_1⟩ := at_T77 HR0.out x3_1 p216 q216
        have hw216_1 := hx216_1
        have hw216_0 := hx216_0
        cases e216
        replace hx216_0 := ce_ HB hx216_0
        replace hx216_1 := ce_ HB hx216_1
        replace p216 := eq_true p216
        replace q216 := eq_true q216
        have p218 : 0 ≤ (x3_1 : Int) := od_
        have q218 : x3_1 < (l0.length : Int) := od_
        obtain ⟨ad218,e218,hx218_0,hx218_1⟩ := at_T77 HR0.out x3_1 p218 q218
        have hw218_1 := hx218_1
        have hw218_0 := hx218_0
        obtain rfl : ad216 = ad218 := (by injection e218)
        replace hx218_0 := ce_ HB hx218_0
        replace hx218_1 := ce_ HB hx218_1
        replace p218 := eq_true p218
        replace q218 := eq_true q218
        have p220 : 0 ≤ (x3_1 : Int) := od_
        have q220 : x3_1 < (l0.length : Int) := od_
        obtain ⟨ad220,e220,hx220_0,hx220_1⟩ := at_T77 HR0.out x3_1 p220 q220
        have hw220_1 := hx220_1
        have hw220_0 := hx220_0
        obtain rfl : ad216 = ad220 := (by injection e220)
        replace hx220_0 := ce_ HB hx220_0
        replace hx220_1 := ce_ HB hx220_1
        replace p220 := eq_true p220
        replace q220 := eq_true q220
        refine start_ (n := 46) (S := fun w' => w'.cell? (ad216.add ((x3_1).toNat * 2)) = some (.int .i64 ((rd_T77 l0 x3_1).f0)) ∧ w'.cell? ⟨(ad216.add ((x3_1).toNat * 2)).block,(ad216.add ((x3_1).toNat * 2)).off + 1,none⟩ = some (.int .i64 ((rd_T77 l0 x3_1).f1)) ∧ w'.cell? (ad216.add ((x3_1).toNat * 2)) = some (.int .i64 ((rd_T77 l0 x3_1).f0)) ∧ w'.cell? ⟨(ad216.add ((x3_1).toNat * 2)).block,(ad216.add ((x3_1).toNat * 2)).off + 1,none⟩ = some (.int .i64 ((rd_T77 l0 x3_1).f1)) ∧ w'.cell? (ad216.add ((x3_1).toNat * 2)) = some (.int .i64 ((rd_T77 l0 x3_1).f0)) ∧ w'.cell? ⟨(ad216.add ((x3_1).toNat * 2)).block,(ad216.add ((x3_1).toNat * 2)).off + 1,none⟩ = some (.int .i64 ((rd_T77 l0 x3_1).f1))) (ds := []) (ba_ 46 0) (by kernel_rfl) rfl rfl ⟨(ce_ HB hw216_0),(ce_ HB hw216_1),(ce_ HB hw218_0),(ce_ HB hw218_1),(ce_ HB hw220_0),(ce_ HB hw220_1)⟩ (fun hHeld => ?_);refine with_tabW spec_TreeOk.tab4 spec_TreeOk.bits4 (fun HT_ HW_ => ?_)
        generalize wr.drew = w9 at HB hx216_0 hx216_1 hx218_0 hx218_1 hx220_0 hx220_1 hHeld ⊢
        refine pu_ 0 (some 10) (ba_ 46 1) rfl rfl (any_of HT_.out (by kernel_rfl)) ?_
        refine pu_ 1 (some 11) (ba_ 46 3) rfl rfl (any_of HT_.out (by kernel_rfl)) ?_
        refine pu_ 2 (some 12) (ba_ 46 7) rfl rfl (any_of HT_.out (by kernel_rfl)) ?_
        refine pu_ 3 (some 13) (ba_ 46 15) rfl rfl (any_of HT_.out (by kernel_rfl)) ?_
        refine ta_ 4 (some 14) (ba_ 46 31) rfl rfl (take_ofW HT_.out HW_.out (by kernel_rfl)) hHeld (by rintro w' ⟨s0,s1,s2,s3,s4,s5⟩;go_simp;with_reducible rfl) ?_
        refine one_ (i := 5) (N := some 15) (ba_ 46 63) rfl rfl (one_of HT_.out (by kernel_rfl)) (by decide) (fun K hK => ?_)
        refine goes_ Try.func61 (by kernel_rfl) rfl #[.int .i64 ((rd_T77 l0 x3_1).f0)] (by rfl) rfl rfl (by (try simp only [List.map_toArray,List.map_cons,List.map_nil]);first | done | rfl | (simp only [List.length_drop,List.length_take];rfl)) ?_
        with_reducible refine (spec_LabelOk.calls ((rd_T77 l0 x3_1).f0) true _ A4.out).mono ?_
        rintro e w' ⟨rfl,⟨nd,rfl⟩⟩
        refine ⟨_,rfl,?_⟩
        refine hK.out _ _ ⟨(ce_ HB hw216_0),(ce_ HB hw216_1),(ce_ HB hw218_0),(ce_ HB hw218_1),(ce_ HB hw220_0),(ce_ HB hw220_1)⟩ (fun hHeld => ?_)
        clear hK K
        refine norm_ (a' := ?_) ?_ ?_
        rotate_left
        ·show Act.put _ (some 15) _ = _
         simp only [Act.put,List.setIfInBounds_toArray,List.set_cons_zero,List.set_cons_succ,i64_w,i32_w]
         rfl
        refine pu_ 6 (some 16) (ba_ 46 127) rfl rfl (any_of HT_.out (by kernel_rfl)) ?_
        refine pu_ 7 (some 17) (ba_ 46 255) rfl rfl (any_of HT_.out (by kernel_rfl)) ?_
        refine pu_ 8 (some 18) (ba_ 46 511) rfl rfl (any_of HT_.out (by kernel_rfl)) ?_
        refine pu_ 9 (some 19) (ba_ 46 1023) rfl rfl (any_of HT_.out (by kernel_rfl)) ?_
        refine pu_ 10 (some 20) (ba_ 46 2047) rfl rfl (any_of HT_.out (by kernel_rfl)) ?_
        refine pu_ 11 (some 21) (ba_ 46 4095) rfl rfl (any_of HT_.out (by kernel_rfl)) ?_
        refine ta_ 12 (some 22) (ba_ 46 8191) rfl rfl (take_ofW HT_.out HW_.out (by kernel_rfl)) hHeld (by rintro w' ⟨s0,s1,s2,s3,s4,s5⟩;go_simp;with_reducible rfl) ?_
        refine one_ (i := 13) (N := some 23) (ba_ 46 16383) rfl rfl (one_of HT_.out (by kernel_rfl)) (by decide) (fun K hK => ?_)
        refine goes_ Try.func62 (by kernel_rfl) rfl #[.int .i64 ((rd_T77 l0 x3_1).f1),.int .i64 0,.int .i64 12] (by rfl) rfl rfl (by (try simp only [List.map_toArray,List.map_cons,List.map_nil]);first | done | rfl | (simp only [List.length_drop,List.length_take];rfl)) ?_
        with_reducible refine (spec_l1In.calls ((rd_T77 l0 x3_1).f1) 0 12 true _ A6.out).mono ?_
        rintro e w' ⟨rfl,⟨nd,rfl⟩⟩
        refine ⟨_,rfl,?_⟩
        refine hK.out _ _ ⟨(ce_ HB hw216_0),(ce_ HB hw216_1),(ce_ HB hw218_0),(ce_ HB hw218_1),(ce_ HB hw220_0),(ce_ HB hw220_1)⟩ (fun hHeld => ?_)
        clear hK K
        refine norm_ (a' := ?_) ?_ ?_
        rotate_left
        ·show Act.put _ (some 23) _ = _
         simp only [Act.put,List.setIfInBounds_toArray,List.set_cons_zero,List.set_cons_succ,i64_w,i32_w]
         rfl
        refine pu_ 14 (some 24) (ba_ 46 32767) rfl rfl (any_of HT_.out (by kernel_rfl)) ?_
        refine pu_ 15 (some 25) (ba_ 46 65535) rfl rfl (any_of HT_.out (by kernel_rfl)) ?_
        refine pu_ 16 (some 26) (ba_ 46 131071) rfl rfl (any_of HT_.out (by kernel_rfl)) ?_
        refine pu_ 17 (some 27) (ba_ 46 262143) rfl rfl (any_of HT_.out (by kernel_rfl)) ?_
        refine pu_ 18 (some 28) (ba_ 46 524287) rfl rfl (any_of HT_.out (by kernel_rfl)) ?_
        refine pu_ 19 (some 29) (ba_ 46 1048575) rfl rfl (any_of HT_.out (by kernel_rfl)) ?_
        refine pu_ 20 (some 30) (ba_ 46 2097151) rfl rfl (any_of HT_.out (by kernel_rfl)) ?_
        refine pu_ 23 (some 33) (ba_ 46 10485759) rfl rfl (any_of HT_.out (by kernel_rfl)) ?_
        refine pu_ 24 (some 34) (ba_ 46 27262975) rfl rfl (any_of HT_.out (by kernel_rfl)) ?_
        refine ta_ 21 (some 31) (ba_ 46 29360127) rfl rfl (take_ofW HT_.out HW_.out (by kernel_rfl)) hHeld (by rintro w' ⟨s0,s1,s2,s3,s4,s5⟩;go_simp;with_reducible rfl) ?_
        refine pu_ 22 (some 32) (ba_ 46 33554431) rfl rfl (any_of HT_.out (by kernel_rfl)) ?_
        refine pu_ 25 (some 35) (ba_ 46 67108863) rfl rfl (any_of HT_.out (by kernel_rfl)) ?_
        refine pu_ 26 (some 36) (ba_ 46 134217727) rfl rfl (any_of HT_.out (by kernel_rfl)) ?_
        refine pu_ 27 (some 37) (ba_ 46 268435455) rfl rfl (any_of HT_.out (by kernel_rfl)) ?_
        refine pn_ 28 (some 38) (ba_ 46 536870911) rfl rfl (any_of HT_.out (by kernel_rfl)) ?_
        refine pn_ 29 (some 39) (ba_ 46 1073741823) rfl rfl (any_of HT_.out (by kernel_rfl)) ?_
        refine pn_ 30 (some 40) (ba_ 46 2147483647) rfl rfl (any_of HT_.out (by kernel_rfl)) ?_
        refine pn_ 31 (some 41) (ba_ 46 4294967295) rfl rfl (any_of HT_.out (by kernel_rfl)) ?_
        refine pn_ 32 (some 42) (ba_ 46 8589934591) rfl rfl (any_of HT_.out (by kernel_rfl)) ?_
        refine pn_ 33 (some 43) (ba_ 46 17179869183) rfl rfl (any_of HT_.out (by kernel_rfl)) ?_
        refine pn_ 34 (some 44) (ba_ 46 34359738367) rfl rfl (any_of HT_.out (by kernel_rfl)) ?_
        refine pn_ 35 (some 45) (ba_ 46 68719476735) rfl rfl (any_of HT_.out (by kernel_rfl)) ?_
        refine pn_ 36 (some 46) (ba_ 46 137438953471) rfl rfl (any_of HT_.out (by kernel_rfl)) ?_
        refine pn_ 37 (some 47) (ba_ 46 274877906943) rfl rfl (any_of HT_.out (by kernel_rfl)) ?_
        refine pn_ 38 (some 48) (ba_ 46 549755813887) rfl rfl (any_of HT_.out (by kernel_rfl)) ?_
        refine pn_ 39 (some 49) (ba_ 46 1099511627775) rfl rfl (any_of HT_.out (by kernel_rfl)) ?_
        refine pn_ 40 (some 50) (ba_ 46 2199023255551) rfl rfl (any_of HT_.out (by kernel_rfl)) ?_
        refine pn_ 41 (some 51) (ba_ 46 4398046511103) rfl rfl (any_of HT_.out (by kernel_rfl)) ?_
        refine pn_ 42 (some 52) (ba_ 46 8796093022207) rfl rfl (any_of HT_.out (by kernel_rfl)) ?_
        refine pn_ 43 (some 53) (ba_ 46 17592186044415) rfl rfl (any_of HT_.out (by kernel_rfl)) ?_
        refine pn_ 44 (some 54) (ba_ 46 35184372088831) rfl rfl (any_of HT_.out (by kernel_rfl)) ?_
        refine pu_ 45 (some 55) (ba_ 46 70368744177663) rfl rfl (any_of HT_.out (by kernel_rfl)) ?_
        refine done_ (done_of HT_.out (by kernel_rfl)) ?_
        try go_wp2
        go_ret
        exact ⟨ea_,(bl_ HB).out⟩
       ·rw [if_neg c8] at H
        have c8b0 : ((((rd_T77 l0 x3_1).f1) == 0) != (x3_1 == 0)) = false := by simpa using c8
        (try (have c8b1 : decide ((((rd_T77 l0 x3_1).f1) == 0) = (x3_1 == 0)) = true := by simpa using c8))
        (try (have c8b2 : ((((rd_T77 l0 x3_1).f1) == 0) == (x3_1 == 0)) = true := by simpa using c8))
        clear c8
        by_cases c10 : x3_1 > 0
        ·rw [if_pos c10] at H
         have c10b0 : decide (0 < x3_1) = true := decide_eq_true c10
         clear c10
         obtain ⟨ji11,hji11⟩ : ∃ j_ : Int,(wrap64 (x3_1 - 1)) = j_ := ⟨_,rfl⟩
         replace H : (if 0 ≤ (ji11) then (if (ji11) < (l0.length : Int) then (if ((rd_T77 l0 x3_1).f1) > (wrap64 (((rd_T77 l0 (ji11)).f1) + 1)) then (some false) else (spec_TreeOk.l0 k1 l0 (wrap64 (x3_1 + 1)))) else (none)) else (none)) = some r := by first | (rw [hji11] at H;exact H) | (simp only [hji11] at H ⊢;exact H)
         (try rw [hji11] at A4)
         (try rw [hji11] at A6)
         have hji11w : (IntKind.i64.wrap (x3_1 - 1)) = ji11 := (i64_w _).trans hji11
         by_cases c12 : 0 ≤ (ji11)
         ·rw [if_pos c12] at H
          have c12b0 : decide (0 ≤ (ji11)) = true := decide_eq_true c12
          clear c12
          by_cases c13 : (ji11) < (l0.length : Int)
          ·rw [if_pos c13] at H
           have c13b0 : decide ((ji11) < (l0.length : Int)) = true := decide_eq_true c13
           clear c13
           by_cases c14 : ((rd_T77 l0 x3_1).f1) > (wrap64 (((rd_T77 l0 (ji11)).f1) + 1))
           ·rw [if_pos c14] at H
            have c14b0 : decide ((wrap64 (((rd_T77 l0 (ji11)).f1) + 1)) < ((rd_T77 l0 x3_1).f1)) = true := decide_eq_true c14
            clear c14
            obtain rfl := Option.some.inj H
            try go_wp2
            have n0_ := Aside0.mk (below_drew1 HB.out)
            clear HB
            have HB := n0_
            clear n0_
            have p216 : 0 ≤ (x3_1 : Int) := od_
            have q216 : x3_1 < (l0.length : Int) := od_
            obtain ⟨ad216,e216,hx216_0,hx216_1⟩ := at_T77 HR0.out x3_1 p216 q216
            have hw216_1 := hx216_1
            have hw216_0 := hx216_0
            cases e216
            replace hx216_0 := ce_ HB hx216_0
            replace hx216_1 := ce_ HB hx216_1
            replace p216 := eq_true p216
            replace q216 := eq_true q216
            have p218 : 0 ≤ (x3_1 : Int) := od_
            have q218 : x3_1 < (l0.length : Int) := od_
            obtain ⟨ad218,e218,hx218_0,hx218_1⟩ := at_T77 HR0.out x3_1 p218 q218
            have hw218_1 := hx218_1
            have hw218_0 := hx218_0
            obtain rfl : ad216 = ad218 := (by injection e218)
            replace hx218_0 := ce_ HB hx218_0
            replace hx218_1 := ce_ HB hx218_1
            replace p218 := eq_true p218
            replace q218 := eq_true q218
            have p220 : 0 ≤ (x3_1 : Int) := od_
            have q220 : x3_1 < (l0.length : Int) := od_
            obtain ⟨ad220,e220,hx220_0,hx220_1⟩ := at_T77 HR0.out x3_1 p220 q220
            have hw220_1 := hx220_1
            have hw220_0 := hx220_0
            obtain rfl : ad216 = ad220 := (by injection e220)
            replace hx220_0 := ce_ HB hx220_0
            replace hx220_1 := ce_ HB hx220_1
            replace p220 := eq_true p220
            replace q220 := eq_true q220
            have p221 : 0 ≤ (x3_1 : Int) := od_
            have q221 : x3_1 < (l0.length : Int) := od_
            obtain ⟨ad221,e221,hx221_0,hx221_1⟩ := at_T77 HR0.out x3_1 p221 q221
            have hw221_1 := hx221_1
            have hw221_0 := hx221_0
            obtain rfl : ad216 = ad221 := (by injection e221)
            replace hx221_0 := ce_ HB hx221_0
            replace hx221_1 := ce_ HB hx221_1
            replace p221 := eq_true p221
            replace q221 := eq_true q221
            have p222 : 0 ≤ ((ji11) : Int) := od_
            have q222 : (ji11) < (l0.length : Int) := od_
            obtain ⟨ad222,e222,hx222_0,hx222_1⟩ := at_T77 HR0.out (ji11) p222 q222
            have hw222_1 := hx222_1
            have hw222_0 := hx222_0
            obtain rfl : ad216 = ad222 := (by injection e222)
            replace hx222_0 := ce_ HB hx222_0
            replace hx222_1 := ce_ HB hx222_1
            replace p222 := eq_true p222
            replace q222 := eq_true q222
            refine start_ (n := 46) (S := fun w' => w'.cell? (ad216.add ((x3_1).toNat * 2)) = some (.int .i64 ((rd_T77 l0 x3_1).f0)) ∧ w'.cell? ⟨(ad216.add ((x3_1).toNat * 2)).block,(ad216.add ((x3_1).toNat * 2)).off + 1,none⟩ = some (.int .i64 ((rd_T77 l0 x3_1).f1)) ∧ w'.cell? (ad216.add ((x3_1).toNat * 2)) = some (.int .i64 ((rd_T77 l0 x3_1).f0)) ∧ w'.cell? ⟨(ad216.add ((x3_1).toNat * 2)).block,(ad216.add ((x3_1).toNat * 2)).off + 1,none⟩ = some (.int .i64 ((rd_T77 l0 x3_1).f1)) ∧ w'.cell? (ad216.add ((x3_1).toNat * 2)) = some (.int .i64 ((rd_T77 l0 x3_1).f0)) ∧ w'.cell? ⟨(ad216.add ((x3_1).toNat * 2)).block,(ad216.add ((x3_1).toNat * 2)).off + 1,none⟩ = some (.int .i64 ((rd_T77 l0 x3_1).f1)) ∧ w'.cell? (ad216.add ((x3_1).toNat * 2)) = some (.int .i64 ((rd_T77 l0 x3_1).f0)) ∧ w'.cell? ⟨(ad216.add ((x3_1).toNat * 2)).block,(ad216.add ((x3_1).toNat * 2)).off + 1,none⟩ = some (.int .i64 ((rd_T77 l0 x3_1).f1)) ∧ w'.cell? (ad216.add (((ji11)).toNat * 2)) = some (.int .i64 ((rd_T77 l0 (ji11)).f0)) ∧ w'.cell? ⟨(ad216.add (((ji11)).toNat * 2)).block,(ad216.add (((ji11)).toNat * 2)).off + 1,none⟩ = some (.int .i64 ((rd_T77 l0 (ji11)).f1))) (ds := []) (ba_ 46 0) (by kernel_rfl) rfl rfl ⟨(ce_ HB hw216_0),(ce_ HB hw216_1),(ce_ HB hw218_0),(ce_ HB hw218_1),(ce_ HB hw220_0),(ce_ HB hw220_1),(ce_ HB hw221_0),(ce_ HB hw221_1),(ce_ HB hw222_0),(ce_ HB hw222_1)⟩ (fun hHeld => ?_);refine with_tabW spec_TreeOk.tab4 spec_TreeOk.bits4 (fun HT_ HW_ => ?_)
            generalize wr.drew = w15 at HB hx216_0 hx216_1 hx218_0 hx218_1 hx220_0 hx220_1 hx221_0 hx221_1 hx222_0 hx222_1 hHeld ⊢
            refine pu_ 0 (some 10) (ba_ 46 1) rfl rfl (any_of HT_.out (by kernel_rfl)) ?_
            refine pu_ 1 (some 11) (ba_ 46 3) rfl rfl (any_of HT_.out (by kernel_rfl)) ?_
            refine pu_ 2 (some 12) (ba_ 46 7) rfl rfl (any_of HT_.out (by kernel_rfl)) ?_
            refine pu_ 3 (some 13) (ba_ 46 15) rfl rfl (any_of HT_.out (by kernel_rfl)) ?_
            refine ta_ 4 (some 14) (ba_ 46 31) rfl rfl (take_ofW HT_.out HW_.out (by kernel_rfl)) hHeld (by rintro w' ⟨s0,s1,s2,s3,s4,s5,s6,s7,s8,s9⟩;go_simp;with_reducible rfl) ?_
            refine one_ (i := 5) (N := some 15) (ba_ 46 63) rfl rfl (one_of HT_.out (by kernel_rfl)) (by decide) (fun K hK => ?_)
            refine goes_ Try.func61 (by kernel_rfl) rfl #[.int .i64 ((rd_T77 l0 x3_1).f0)] (by rfl) rfl rfl (by (try simp only [List.map_toArray,List.map_cons,List.map_nil]);first | done | rfl | (simp only [List.length_drop,List.length_take];rfl)) ?_
            with_reducible refine (spec_LabelOk.calls ((rd_T77 l0 x3_1).f0) true _ A4.out).mono ?_
            rintro e w' ⟨rfl,⟨nd,rfl⟩⟩
            refine ⟨_,rfl,?_⟩
            refine hK.out _ _ ⟨(ce_ HB hw216_0),(ce_ HB hw216_1),(ce_ HB hw218_0),(ce_ HB hw218_1),(ce_ HB hw220_0),(ce_ HB hw220_1),(ce_ HB hw221_0),(ce_ HB hw221_1),(ce_ HB hw222_0),(ce_ HB hw222_1)⟩ (fun hHeld => ?_)
            clear hK K
            refine norm_ (a' := ?_) ?_ ?_
            rotate_left
            ·show Act.put _ (some 15) _ = _
             simp only [Act.put,List.setIfInBounds_toArray,List.set_cons_zero,List.set_cons_succ,i64_w,i32_w]
             rfl
            refine pu_ 6 (some 16) (ba_ 46 127) rfl rfl (any_of HT_.out (by kernel_rfl)) ?_
            refine pu_ 7 (some 17) (ba_ 46 255) rfl rfl (any_of HT_.out (by kernel_rfl)) ?_
            refine pu_ 8 (some 18) (ba_ 46 511) rfl rfl (any_of HT_.out (by kernel_rfl)) ?_
            refine pu_ 9 (some 19) (ba_ 46 1023) rfl rfl (any_of HT_.out (by kernel_rfl)) ?_
            refine pu_ 10 (some 20) (ba_ 46 2047) rfl rfl (any_of HT_.out (by kernel_rfl)) ?_
            refine pu_ 11 (some 21) (ba_ 46 4095) rfl rfl (any_of HT_.out (by kernel_rfl)) ?_
            refine ta_ 12 (some 22) (ba_ 46 8191) rfl rfl (take_ofW HT_.out HW_.out (by kernel_rfl)) hHeld (by rintro w' ⟨s0,s1,s2,s3,s4,s5,s6,s7,s8,s9⟩;go_simp;with_reducible rfl) ?_
            refine one_ (i := 13) (N := some 23) (ba_ 46 16383) rfl rfl (one_of HT_.out (by kernel_rfl)) (by decide) (fun K hK => ?_)
            refine goes_ Try.func62 (by kernel_rfl) rfl #[.int .i64 ((rd_T77 l0 x3_1).f1),.int .i64 0,.int .i64 12] (by rfl) rfl rfl (by (try simp only [List.map_toArray,List.map_cons,List.map_nil]);first | done | rfl | (simp only [List.length_drop,List.length_take];rfl)) ?_
            with_reducible refine (spec_l1In.calls ((rd_T77 l0 x3_1).f1) 0 12 true _ A6.out).mono ?_
            rintro e w' ⟨rfl,⟨nd,rfl⟩⟩
            refine ⟨_,rfl,?_⟩
            refine hK.out _ _ ⟨(ce_ HB hw216_0),(ce_ HB hw216_1),(ce_ HB hw218_0),(ce_ HB hw218_1),(ce_ HB hw220_0),(ce_ HB hw220_1),(ce_ HB hw221_0),(ce_ HB hw221_1),(ce_ HB hw222_0),(ce_ HB hw222_1)⟩ (fun hHeld => ?_)
            clear hK K
            refine norm_ (a' := ?_) ?_ ?_
            rotate_left
            ·show Act.put _ (some 23) _ = _
             simp only [Act.put,List.setIfInBounds_toArray,List.set_cons_zero,List.set_cons_succ,i64_w,i32_w]
             rfl
            refine pu_ 14 (some 24) (ba_ 46 32767) rfl rfl (any_of HT_.out (by kernel_rfl)) ?_
            refine pu_ 15 (some 25) (ba_ 46 65535) rfl rfl (any_of HT_.out (by kernel_rfl)) ?_
            refine pu_ 16 (some 26) (ba_ 46 131071) rfl rfl (any_of HT_.out (by kernel_rfl)) ?_
            refine pu_ 17 (some 27) (ba_ 46 262143) rfl rfl (any_of HT_.out (by kernel_rfl)) ?_
            refine pu_ 18 (some 28) (ba_ 46 524287) rfl rfl (any_of HT_.out (by kernel_rfl)) ?_
            refine pu_ 19 (some 29) (ba_ 46 1048575) rfl rfl (any_of HT_.out (by kernel_rfl)) ?_
            refine pu_ 20 (some 30) (ba_ 46 2097151) rfl rfl (any_of HT_.out (by kernel_rfl)) ?_
            refine pu_ 23 (some 33) (ba_ 46 10485759) rfl rfl (any_of HT_.out (by kernel_rfl)) ?_
            refine pu_ 24 (some 34) (ba_ 46 27262975) rfl rfl (any_of HT_.out (by kernel_rfl)) ?_
            refine ta_ 21 (some 31) (ba_ 46 29360127) rfl rfl (take_ofW HT_.out HW_.out (by kernel_rfl)) hHeld (by rintro w' ⟨s0,s1,s2,s3,s4,s5,s6,s7,s8,s9⟩;go_simp;with_reducible rfl) ?_
            refine pu_ 22 (some 32) (ba_ 46 33554431) rfl rfl (any_of HT_.out (by kernel_rfl)) ?_
            refine pu_ 25 (some 35) (ba_ 46 67108863) rfl rfl (any_of HT_.out (by kernel_rfl)) ?_
            refine pu_ 26 (some 36) (ba_ 46 134217727) rfl rfl (any_of HT_.out (by kernel_rfl)) ?_
            refine pu_ 27 (some 37) (ba_ 46 268435455) rfl rfl (any_of HT_.out (by kernel_rfl)) ?_
            refine pu_ 28 (some 38) (ba_ 46 536870911) rfl rfl (any_of HT_.out (by kernel_rfl)) ?_
            refine pu_ 29 (some 39) (ba_ 46 1073741823) rfl rfl (any_of HT_.out (by kernel_rfl)) ?_
            refine pu_ 30 (some 40) (ba_ 46 2147483647) rfl rfl (any_of HT_.out (by kernel_rfl)) ?_
            refine pu_ 31 (some 41) (ba_ 46 4294967295) rfl rfl (any_of HT_.out (by kernel_rfl)) ?_
            refine pu_ 32 (some 42) (ba_ 46 8589934591) rfl rfl (any_of HT_.out (by kernel_rfl)) ?_
            refine pu_ 33 (some 43) (ba_ 46 17179869183) rfl rfl (any_of HT_.out (by kernel_rfl)) ?_
            refine pu_ 34 (some 44) (ba_ 46 34359738367) rfl rfl (any_of HT_.out (by kernel_rfl)) ?_
            refine pu_ 36 (some 46) (ba_ 46 103079215103) rfl rfl (any_of HT_.out (by kernel_rfl)) ?_
            refine pu_ 37 (some 47) (ba_ 46 240518168575) rfl rfl (any_of HT_.out (by kernel_rfl)) ?_
            refine pu_ 38 (some 48) (ba_ 46 515396075519) rfl rfl (any_of HT_.out (by kernel_rfl)) ?_
            refine pu_ 39 (some 49) (ba_ 46 1065151889407) rfl rfl (any_of HT_.out (by kernel_rfl)) ?_
            refine pu_ 40 (some 50) (ba_ 46 2164663517183) rfl rfl (any_of HT_.out (by kernel_rfl)) ?_
            refine ta_ 35 (some 45) (ba_ 46 2199023255551) rfl rfl (take_ofW HT_.out HW_.out (by kernel_rfl)) hHeld (by rintro w' ⟨s0,s1,s2,s3,s4,s5,s6,s7,s8,s9⟩;go_simp;with_reducible rfl) ?_
            refine ta_ 41 (some 51) (ba_ 46 4398046511103) rfl rfl (take_ofW HT_.out HW_.out (by kernel_rfl)) hHeld (by rintro w' ⟨s0,s1,s2,s3,s4,s5,s6,s7,s8,s9⟩;go_simp;with_reducible rfl) ?_
            refine pu_ 42 (some 52) (ba_ 46 8796093022207) rfl rfl (any_of HT_.out (by kernel_rfl)) ?_
            refine pu_ 43 (some 53) (ba_ 46 17592186044415) rfl rfl (any_of HT_.out (by kernel_rfl)) ?_
            refine pu_ 44 (some 54) (ba_ 46 35184372088831) rfl rfl (any_of HT_.out (by kernel_rfl)) ?_
            refine pu_ 45 (some 55) (ba_ 46 70368744177663) rfl rfl (any_of HT_.out (by kernel_rfl)) ?_
            refine done_ (done_of HT_.out (by kernel_rfl)) ?_
            try go_wp2
            go_ret
            exact ⟨by first | rfl | (simp [errW_none,errW_some] <;> rfl) | (simp only [← hji11];first | rfl | (simp [errW_none,errW_some] <;> rfl)) | (simp [*,errW_none,errW_some] <;> rfl),(bl_ HB).out⟩
           ·rw [if_neg c14] at H
            have c14b0 : decide ((wrap64 (((rd_T77 l0 (ji11)).f1) + 1)) < ((rd_T77 l0 x3_1).f1)) = false := decide_eq_false c14
            clear c14
            have H' := Aside0.mk H
            clear H
            try go_wp2
            have n0_ := Aside0.mk (below_drew1 HB.out)
            clear HB
            have HB := n0_
            clear n0_
            have p216 : 0 ≤ (x3_1 : Int) := od_
            have q216 : x3_1 < (l0.length : Int) := od_
            obtain ⟨ad216,e216,hx216_0,hx216_1⟩ := at_T77 HR0.out x3_1 p216 q216
            have hw216_1 := hx216_1
            have hw216_0 := hx216_0
            cases e216
            replace hx216_0 := ce_ HB hx216_0
            replace hx216_1 := ce_ HB hx216_1
            replace p216 := eq_true p216
            replace q216 := eq_true q216
            have p218 : 0 ≤ (x3_1 : Int) := od_
            have q218 : x3_1 < (l0.length : Int) := od_
            obtain ⟨ad218,e218,hx218_0,hx218_1⟩ := at_T77 HR0.out x3_1 p218 q218
            have hw218_1 := hx218_1
            have hw218_0 := hx218_0
            obtain rfl : ad216 = ad218 := (by injection e218)
            replace hx218_0 := ce_ HB hx218_0
            replace hx218_1 := ce_ HB hx218_1
            replace p218 := eq_true p218
            replace q218 := eq_true q218
            have p220 : 0 ≤ (x3_1 : Int) := od_
            have q220 : x3_1 < (l0.length : Int) := od_
            obtain ⟨ad220,e220,hx220_0,hx220_1⟩ := at_T77 HR0.out x3_1 p220 q220
            have hw220_1 := hx220_1
            have hw220_0 := hx220_0
            obtain rfl : ad216 = ad220 := (by injection e220)
            replace hx220_0 := ce_ HB hx220_0
            replace hx220_1 := ce_ HB hx220_1
            replace p220 := eq_true p220
            replace q220 := eq_true q220
            have p221 : 0 ≤ (x3_1 : Int) := od_
            have q221 : x3_1 < (l0.length : Int) := od_
            obtain ⟨ad221,e221,hx221_0,hx221_1⟩ := at_T77 HR0.out x3_1 p221 q221
            have hw221_1 := hx221_1
            have hw221_0 := hx221_0
            obtain rfl : ad216 = ad221 := (by injection e221)
            replace hx221_0 := ce_ HB hx221_0
            replace hx221_1 := ce_ HB hx221_1
            replace p221 := eq_true p221
            replace q221 := eq_true q221
            have p222 : 0 ≤ ((ji11) : Int) := od_
            have q222 : (ji11) < (l0.length : Int) := od_
            obtain ⟨ad222,e222,hx222_0,hx222_1⟩ := at_T77 HR0.out (ji11) p222 q222
            have hw222_1 := hx222_1
            have hw222_0 := hx222_0
            obtain rfl : ad216 = ad222 := (by injection e222)
            replace hx222_0 := ce_ HB hx222_0
            replace hx222_1 := ce_ HB hx222_1
            replace p222 := eq_true p222
            replace q222 := eq_true q222
            refine start_ (n := 46) (S := fun w' => w'.cell? (ad216.add ((x3_1).toNat * 2)) = some (.int .i64 ((rd_T77 l0 x3_1).f0)) ∧ w'.cell? ⟨(ad216.add ((x3_1).toNat * 2)).block,(ad216.add ((x3_1).toNat * 2)).off + 1,none⟩ = some (.int .i64 ((rd_T77 l0 x3_1).f1)) ∧ w'.cell? (ad216.add ((x3_1).toNat * 2)) = some (.int .i64 ((rd_T77 l0 x3_1).f0)) ∧ w'.cell? ⟨(ad216.add ((x3_1).toNat * 2)).block,(ad216.add ((x3_1).toNat * 2)).off + 1,none⟩ = some (.int .i64 ((rd_T77 l0 x3_1).f1)) ∧ w'.cell? (ad216.add ((x3_1).toNat * 2)) = some (.int .i64 ((rd_T77 l0 x3_1).f0)) ∧ w'.cell? ⟨(ad216.add ((x3_1).toNat * 2)).block,(ad216.add ((x3_1).toNat * 2)).off + 1,none⟩ = some (.int .i64 ((rd_T77 l0 x3_1).f1)) ∧ w'.cell? (ad216.add ((x3_1).toNat * 2)) = some (.int .i64 ((rd_T77 l0 x3_1).f0)) ∧ w'.cell? ⟨(ad216.add ((x3_1).toNat * 2)).block,(ad216.add ((x3_1).toNat * 2)).off + 1,none⟩ = some (.int .i64 ((rd_T77 l0 x3_1).f1)) ∧ w'.cell? (ad216.add (((ji11)).toNat * 2)) = some (.int .i64 ((rd_T77 l0 (ji11)).f0)) ∧ w'.cell? ⟨(ad216.add (((ji11)).toNat * 2)).block,(ad216.add (((ji11)).toNat * 2)).off + 1,none⟩ = some (.int .i64 ((rd_T77 l0 (ji11)).f1))) (ds := []) (ba_ 46 0) (by kernel_rfl) rfl rfl ⟨(ce_ HB hw216_0),(ce_ HB hw216_1),(ce_ HB hw218_0),(ce_ HB hw218_1),(ce_ HB hw220_0),(ce_ HB hw220_1),(ce_ HB hw221_0),(ce_ HB hw221_1),(ce_ HB hw222_0),(ce_ HB hw222_1)⟩ (fun hHeld => ?_);refine with_tabW spec_TreeOk.tab4 spec_TreeOk.bits4 (fun HT_ HW_ => ?_)
            generalize wr.drew = w16 at HB hx216_0 hx216_1 hx218_0 hx218_1 hx220_0 hx220_1 hx221_0 hx221_1 hx222_0 hx222_1 hHeld ⊢
            refine pu_ 0 (some 10) (ba_ 46 1) rfl rfl (any_of HT_.out (by kernel_rfl)) ?_
            refine pu_ 1 (some 11) (ba_ 46 3) rfl rfl (any_of HT_.out (by kernel_rfl)) ?_
            refine pu_ 2 (some 12) (ba_ 46 7) rfl rfl (any_of HT_.out (by kernel_rfl)) ?_
            refine pu_ 3 (some 13) (ba_ 46 15) rfl rfl (any_of HT_.out (by kernel_rfl)) ?_
            refine ta_ 4 (some 14) (ba_ 46 31) rfl rfl (take_ofW HT_.out HW_.out (by kernel_rfl)) hHeld (by rintro w' ⟨s0,s1,s2,s3,s4,s5,s6,s7,s8,s9⟩;go_simp;with_reducible rfl) ?_
            refine one_ (i := 5) (N := some 15) (ba_ 46 63) rfl rfl (one_of HT_.out (by kernel_rfl)) (by decide) (fun K hK => ?_)
            refine goes_ Try.func61 (by kernel_rfl) rfl #[.int .i64 ((rd_T77 l0 x3_1).f0)] (by rfl) rfl rfl (by (try simp only [List.map_toArray,List.map_cons,List.map_nil]);first | done | rfl | (simp only [List.length_drop,List.length_take];rfl)) ?_
            with_reducible refine (spec_LabelOk.calls ((rd_T77 l0 x3_1).f0) true _ A4.out).mono ?_
            rintro e w' ⟨rfl,⟨nd,rfl⟩⟩
            refine ⟨_,rfl,?_⟩
            refine hK.out _ _ ⟨(ce_ HB hw216_0),(ce_ HB hw216_1),(ce_ HB hw218_0),(ce_ HB hw218_1),(ce_ HB hw220_0),(ce_ HB hw220_1),(ce_ HB hw221_0),(ce_ HB hw221_1),(ce_ HB hw222_0),(ce_ HB hw222_1)⟩ (fun hHeld => ?_)
            clear hK K
            refine norm_ (a' := ?_) ?_ ?_
            rotate_left
            ·show Act.put _ (some 15) _ = _
             simp only [Act.put,List.setIfInBounds_toArray,List.set_cons_zero,List.set_cons_succ,i64_w,i32_w]
             rfl
            refine pu_ 6 (some 16) (ba_ 46 127) rfl rfl (any_of HT_.out (by kernel_rfl)) ?_
            refine pu_ 7 (some 17) (ba_ 46 255) rfl rfl (any_of HT_.out (by kernel_rfl)) ?_
            refine pu_ 8 (some 18) (ba_ 46 511) rfl rfl (any_of HT_.out (by kernel_rfl)) ?_
            refine pu_ 9 (some 19) (ba_ 46 1023) rfl rfl (any_of HT_.out (by kernel_rfl)) ?_
            refine pu_ 10 (some 20) (ba_ 46 2047) rfl rfl (any_of HT_.out (by kernel_rfl)) ?_
            refine pu_ 11 (some 21) (ba_ 46 4095) rfl rfl (any_of HT_.out (by kernel_rfl)) ?_
            refine ta_ 12 (some 22) (ba_ 46 8191) rfl rfl (take_ofW HT_.out HW_.out (by kernel_rfl)) hHeld (by rintro w' ⟨s0,s1,s2,s3,s4,s5,s6,s7,s8,s9⟩;go_simp;with_reducible rfl) ?_
            refine one_ (i := 13) (N := some 23) (ba_ 46 16383) rfl rfl (one_of HT_.out (by kernel_rfl)) (by decide) (fun K hK => ?_)
            refine goes_ Try.func62 (by kernel_rfl) rfl #[.int .i64 ((rd_T77 l0 x3_1).f1),.int .i64 0,.int .i64 12] (by rfl) rfl rfl (by (try simp only [List.map_toArray,List.map_cons,List.map_nil]);first | done | rfl | (simp only [List.length_drop,List.length_take];rfl)) ?_
            with_reducible refine (spec_l1In.calls ((rd_T77 l0 x3_1).f1) 0 12 true _ A6.out).mono ?_
            rintro e w' ⟨rfl,⟨nd,rfl⟩⟩
            refine ⟨_,rfl,?_⟩
            refine hK.out _ _ ⟨(ce_ HB hw216_0),(ce_ HB hw216_1),(ce_ HB hw218_0),(ce_ HB hw218_1),(ce_ HB hw220_0),(ce_ HB hw220_1),(ce_ HB hw221_0),(ce_ HB hw221_1),(ce_ HB hw222_0),(ce_ HB hw222_1)⟩ (fun hHeld => ?_)
            clear hK K
            refine norm_ (a' := ?_) ?_ ?_
            rotate_left
            ·show Act.put _ (some 23) _ = _
             simp only [Act.put,List.setIfInBounds_toArray,List.set_cons_zero,List.set_cons_succ,i64_w,i32_w]
             rfl
            refine pu_ 14 (some 24) (ba_ 46 32767) rfl rfl (any_of HT_.out (by kernel_rfl)) ?_
            refine pu_ 15 (some 25) (ba_ 46 65535) rfl rfl (any_of HT_.out (by kernel_rfl)) ?_
            refine pu_ 16 (some 26) (ba_ 46 131071) rfl rfl (any_of HT_.out (by kernel_rfl)) ?_
            refine pu_ 17 (some 27) (ba_ 46 262143) rfl rfl (any_of HT_.out (by kernel_rfl)) ?_
            refine pu_ 18 (some 28) (ba_ 46 524287) rfl rfl (any_of HT_.out (by kernel_rfl)) ?_
            refine pu_ 19 (some 29) (ba_ 46 1048575) rfl rfl (any_of HT_.out (by kernel_rfl)) ?_
            refine pu_ 20 (some 30) (ba_ 46 2097151) rfl rfl (any_of HT_.out (by kernel_rfl)) ?_
            refine pu_ 23 (some 33) (ba_ 46 10485759) rfl rfl (any_of HT_.out (by kernel_rfl)) ?_
            refine pu_ 24 (some 34) (ba_ 46 27262975) rfl rfl (any_of HT_.out (by kernel_rfl)) ?_
            refine ta_ 21 (some 31) (ba_ 46 29360127) rfl rfl (take_ofW HT_.out HW_.out (by kernel_rfl)) hHeld (by rintro w' ⟨s0,s1,s2,s3,s4,s5,s6,s7,s8,s9⟩;go_simp;with_reducible rfl) ?_
            refine pu_ 22 (some 32) (ba_ 46 33554431) rfl rfl (any_of HT_.out (by kernel_rfl)) ?_
            refine pu_ 25 (some 35) (ba_ 46 67108863) rfl rfl (any_of HT_.out (by kernel_rfl)) ?_
            refine pu_ 26 (some 36) (ba_ 46 134217727) rfl rfl (any_of HT_.out (by kernel_rfl)) ?_
            refine pu_ 27 (some 37) (ba_ 46 268435455) rfl rfl (any_of HT_.out (by kernel_rfl)) ?_
            refine pu_ 28 (some 38) (ba_ 46 536870911) rfl rfl (any_of HT_.out (by kernel_rfl)) ?_
            refine pu_ 29 (some 39) (ba_ 46 1073741823) rfl rfl (any_of HT_.out (by kernel_rfl)) ?_
            refine pu_ 30 (some 40) (ba_ 46 2147483647) rfl rfl (any_of HT_.out (by kernel_rfl)) ?_
            refine pu_ 31 (some 41) (ba_ 46 4294967295) rfl rfl (any_of HT_.out (by kernel_rfl)) ?_
            refine pu_ 32 (some 42) (ba_ 46 8589934591) rfl rfl (any_of HT_.out (by kernel_rfl)) ?_
            refine pu_ 33 (some 43) (ba_ 46 17179869183) rfl rfl (any_of HT_.out (by kernel_rfl)) ?_
            refine pu_ 34 (some 44) (ba_ 46 34359738367) rfl rfl (any_of HT_.out (by kernel_rfl)) ?_
            refine pu_ 36 (some 46) (ba_ 46 103079215103) rfl rfl (any_of HT_.out (by kernel_rfl)) ?_
            refine pu_ 37 (some 47) (ba_ 46 240518168575) rfl rfl (any_of HT_.out (by kernel_rfl)) ?_
            refine pu_ 38 (some 48) (ba_ 46 515396075519) rfl rfl (any_of HT_.out (by kernel_rfl)) ?_
            refine pu_ 39 (some 49) (ba_ 46 1065151889407) rfl rfl (any_of HT_.out (by kernel_rfl)) ?_
            refine pu_ 40 (some 50) (ba_ 46 2164663517183) rfl rfl (any_of HT_.out (by kernel_rfl)) ?_
            refine ta_ 35 (some 45) (ba_ 46 2199023255551) rfl rfl (take_ofW HT_.out HW_.out (by kernel_rfl)) hHeld (by rintro w' ⟨s0,s1,s2,s3,s4,s5,s6,s7,s8,s9⟩;go_simp;with_reducible rfl) ?_
            refine ta_ 41 (some 51) (ba_ 46 4398046511103) rfl rfl (take_ofW HT_.out HW_.out (by kernel_rfl)) hHeld (by rintro w' ⟨s0,s1,s2,s3,s4,s5,s6,s7,s8,s9⟩;go_simp;with_reducible rfl) ?_
            refine pu_ 42 (some 52) (ba_ 46 8796093022207) rfl rfl (any_of HT_.out (by kernel_rfl)) ?_
            refine pu_ 43 (some 53) (ba_ 46 17592186044415) rfl rfl (any_of HT_.out (by kernel_rfl)) ?_
            refine pu_ 44 (some 54) (ba_ 46 35184372088831) rfl rfl (any_of HT_.out (by kernel_rfl)) ?_
            refine pu_ 45 (some 55) (ba_ 46 70368744177663) rfl rfl (any_of HT_.out (by kernel_rfl)) ?_
            refine done_ (done_of HT_.out (by kernel_rfl)) ?_
            try go_wp2
            go_roundg k1
            case measure => have := HK1.out;omega
            case rel => exact ⟨(wrap64 (x3_1 + 1)),eb_,H',⟨by have := HK1.out;omega⟩,bl_ HB⟩
          ·rw [if_neg c13] at H
           exact absurd H (by simp)
         ·rw [if_neg c12] at H
          exact absurd H (by simp)
        ·rw [if_neg c10] at H
         have c10b0 : decide (0 < x3_1) = false := decide_eq_false c10
         clear c10
         have H' := Aside0.mk H
         clear H
         try go_wp2
         have n0_ := Aside0.mk (below_drew1 HB.out)
         clear HB
         have HB := n0_
         clear n0_
         have p216 : 0 ≤ (x3_1 : Int) := od_
         have q216 : x3_1 < (l0.length : Int) := od_
         obtain ⟨ad216,e216,hx216_0,hx216_1⟩ := at_T77 HR0.out x3_1 p216 q216
         have hw216_1 := hx216_1
         have hw216_0 := hx216_0
         cases e216
         replace hx216_0 := ce_ HB hx216_0
         replace hx216_1 := ce_ HB hx216_1
         replace p216 := eq_true p216
         replace q216 := eq_true q216
         have p218 : 0 ≤ (x3_1 : Int) := od_
         have q218 : x3_1 < (l0.length : Int) := od_
         obtain ⟨ad218,e218,hx218_0,hx218_1⟩ := at_T77 HR0.out x3_1 p218 q218
         have hw218_1 := hx218_1
         have hw218_0 := hx218_0
         obtain rfl : ad216 = ad218 := (by injection e218)
         replace hx218_0 := ce_ HB hx218_0
         replace hx218_1 := ce_ HB hx218_1
         replace p218 := eq_true p218
         replace q218 := eq_true q218
         have p220 : 0 ≤ (x3_1 : Int) := od_
         have q220 : x3_1 < (l0.length : Int) := od_
         obtain ⟨ad220,e220,hx220_0,hx220_1⟩ := at_T77 HR0.out x3_1 p220 q220
         have hw220_1 := hx220_1
         have hw220_0 := hx220_0
         obtain rfl : ad216 = ad220 := (by injection e220)
         replace hx220_0 := ce_ HB hx220_0
         replace hx220_1 := ce_ HB hx220_1
         replace p220 := eq_true p220
         replace q220 := eq_true q220
         refine start_ (n := 46) (S := fun w' => w'.cell? (ad216.add ((x3_1).toNat * 2)) = some (.int .i64 ((rd_T77 l0 x3_1).f0)) ∧ w'.cell? ⟨(ad216.add ((x3_1).toNat * 2)).block,(ad216.add ((x3_1).toNat * 2)).off + 1,none⟩ = some (.int .i64 ((rd_T77 l0 x3_1).f1)) ∧ w'.cell? (ad216.add ((x3_1).toNat * 2)) = some (.int .i64 ((rd_T77 l0 x3_1).f0)) ∧ w'.cell? ⟨(ad216.add ((x3_1).toNat * 2)).block,(ad216.add ((x3_1).toNat * 2)).off + 1,none⟩ = some (.int .i64 ((rd_T77 l0 x3_1).f1)) ∧ w'.cell? (ad216.add ((x3_1).toNat * 2)) = some (.int .i64 ((rd_T77 l0 x3_1).f0)) ∧ w'.cell? ⟨(ad216.add ((x3_1).toNat * 2)).block,(ad216.add ((x3_1).toNat * 2)).off + 1,none⟩ = some (.int .i64 ((rd_T77 l0 x3_1).f1))) (ds := []) (ba_ 46 0) (by kernel_rfl) rfl rfl ⟨(ce_ HB hw216_0),(ce_ HB hw216_1),(ce_ HB hw218_0),(ce_ HB hw218_1),(ce_ HB hw220_0),(ce_ HB hw220_1)⟩ (fun hHeld => ?_);refine with_tabW spec_TreeOk.tab4 spec_TreeOk.bits4 (fun HT_ HW_ => ?_)
         generalize wr.drew = w17 at HB hx216_0 hx216_1 hx218_0 hx218_1 hx220_0 hx220_1 hHeld ⊢
         refine pu_ 0 (some 10) (ba_ 46 1) rfl rfl (any_of HT_.out (by kernel_rfl)) ?_
         refine pu_ 1 (some 11) (ba_ 46 3) rfl rfl (any_of HT_.out (by kernel_rfl)) ?_
         refine pu_ 2 (some 12) (ba_ 46 7) rfl rfl (any_of HT_.out (by kernel_rfl)) ?_
         refine pu_ 3 (some 13) (ba_ 46 15) rfl rfl (any_of HT_.out (by kernel_rfl)) ?_
         refine ta_ 4 (some 14) (ba_ 46 31) rfl rfl (take_ofW HT_.out HW_.out (by kernel_rfl)) hHeld (by rintro w' ⟨s0,s1,s2,s3,s4,s5⟩;go_simp;with_reducible rfl) ?_
         refine one_ (i := 5) (N := some 15) (ba_ 46 63) rfl rfl (one_of HT_.out (by kernel_rfl)) (by decide) (fun K hK => ?_)
         refine goes_ Try.func61 (by kernel_rfl) rfl #[.int .i64 ((rd_T77 l0 x3_1).f0)] (by rfl) rfl rfl (by (try simp only [List.map_toArray,List.map_cons,List.map_nil]);first | done | rfl | (simp only [List.length_drop,List.length_take];rfl)) ?_
         with_reducible refine (spec_LabelOk.calls ((rd_T77 l0 x3_1).f0) true _ A4.out).mono ?_
         rintro e w' ⟨rfl,⟨nd,rfl⟩⟩
         refine ⟨_,rfl,?_⟩
         refine hK.out _ _ ⟨(ce_ HB hw216_0),(ce_ HB hw216_1),(ce_ HB hw218_0),(ce_ HB hw218_1),(ce_ HB hw220_0),(ce_ HB hw220_1)⟩ (fun hHeld => ?_)
         clear hK K
         refine norm_ (a' := ?_) ?_ ?_
         rotate_left
         ·show Act.put _ (some 15) _ = _
          simp only [Act.put,List.setIfInBounds_toArray,List.set_cons_zero,List.set_cons_succ,i64_w,i32_w]
          rfl
         refine pu_ 6 (some 16) (ba_ 46 127) rfl rfl (any_of HT_.out (by kernel_rfl)) ?_
         refine pu_ 7 (some 17) (ba_ 46 255) rfl rfl (any_of HT_.out (by kernel_rfl)) ?_
         refine pu_ 8 (some 18) (ba_ 46 511) rfl rfl (any_of HT_.out (by kernel_rfl)) ?_
         refine pu_ 9 (some 19) (ba_ 46 1023) rfl rfl (any_of HT_.out (by kernel_rfl)) ?_
         refine pu_ 10 (some 20) (ba_ 46 2047) rfl rfl (any_of HT_.out (by kernel_rfl)) ?_
         refine pu_ 11 (some 21) (ba_ 46 4095) rfl rfl (any_of HT_.out (by kernel_rfl)) ?_
         refine ta_ 12 (some 22) (ba_ 46 8191) rfl rfl (take_ofW HT_.out HW_.out (by kernel_rfl)) hHeld (by rintro w' ⟨s0,s1,s2,s3,s4,s5⟩;go_simp;with_reducible rfl) ?_
         refine one_ (i := 13) (N := some 23) (ba_ 46 16383) rfl rfl (one_of HT_.out (by kernel_rfl)) (by decide) (fun K hK => ?_)
         refine goes_ Try.func62 (by kernel_rfl) rfl #[.int .i64 ((rd_T77 l0 x3_1).f1),.int .i64 0,.int .i64 12] (by rfl) rfl rfl (by (try simp only [List.map_toArray,List.map_cons,List.map_nil]);first | done | rfl | (simp only [List.length_drop,List.length_take];rfl)) ?_
         with_reducible refine (spec_l1In.calls ((rd_T77 l0 x3_1).f1) 0 12 true _ A6.out).mono ?_
         rintro e w' ⟨rfl,⟨nd,rfl⟩⟩
         refine ⟨_,rfl,?_⟩
         refine hK.out _ _ ⟨(ce_ HB hw216_0),(ce_ HB hw216_1),(ce_ HB hw218_0),(ce_ HB hw218_1),(ce_ HB hw220_0),(ce_ HB hw220_1)⟩ (fun hHeld => ?_)
         clear hK K
         refine norm_ (a' := ?_) ?_ ?_
         rotate_left
         ·show Act.put _ (some 23) _ = _
          simp only [Act.put,List.setIfInBounds_toArray,List.set_cons_zero,List.set_cons_succ,i64_w,i32_w]
          rfl
         refine pu_ 14 (some 24) (ba_ 46 32767) rfl rfl (any_of HT_.out (by kernel_rfl)) ?_
         refine pu_ 15 (some 25) (ba_ 46 65535) rfl rfl (any_of HT_.out (by kernel_rfl)) ?_
         refine pu_ 16 (some 26) (ba_ 46 131071) rfl rfl (any_of HT_.out (by kernel_rfl)) ?_
         refine pu_ 17 (some 27) (ba_ 46 262143) rfl rfl (any_of HT_.out (by kernel_rfl)) ?_
         refine pu_ 18 (some 28) (ba_ 46 524287) rfl rfl (any_of HT_.out (by kernel_rfl)) ?_
         refine pu_ 19 (some 29) (ba_ 46 1048575) rfl rfl (any_of HT_.out (by kernel_rfl)) ?_
         refine pu_ 20 (some 30) (ba_ 46 2097151) rfl rfl (any_of HT_.out (by kernel_rfl)) ?_
         refine pu_ 23 (some 33) (ba_ 46 10485759) rfl rfl (any_of HT_.out (by kernel_rfl)) ?_
         refine pu_ 24 (some 34) (ba_ 46 27262975) rfl rfl (any_of HT_.out (by kernel_rfl)) ?_
         refine ta_ 21 (some 31) (ba_ 46 29360127) rfl rfl (take_ofW HT_.out HW_.out (by kernel_rfl)) hHeld (by rintro w' ⟨s0,s1,s2,s3,s4,s5⟩;go_simp;with_reducible rfl) ?_
         refine pu_ 22 (some 32) (ba_ 46 33554431) rfl rfl (any_of HT_.out (by kernel_rfl)) ?_
         refine pu_ 25 (some 35) (ba_ 46 67108863) rfl rfl (any_of HT_.out (by kernel_rfl)) ?_
         refine pu_ 26 (some 36) (ba_ 46 134217727) rfl rfl (any_of HT_.out (by kernel_rfl)) ?_
         refine pu_ 27 (some 37) (ba_ 46 268435455) rfl rfl (any_of HT_.out (by kernel_rfl)) ?_
         refine pu_ 28 (some 38) (ba_ 46 536870911) rfl rfl (any_of HT_.out (by kernel_rfl)) ?_
         refine pu_ 29 (some 39) (ba_ 46 1073741823) rfl rfl (any_of HT_.out (by kernel_rfl)) ?_
         refine pu_ 30 (some 40) (ba_ 46 2147483647) rfl rfl (any_of HT_.out (by kernel_rfl)) ?_
         refine pn_ 31 (some 41) (ba_ 46 4294967295) rfl rfl (any_of HT_.out (by kernel_rfl)) ?_
         refine pn_ 32 (some 42) (ba_ 46 8589934591) rfl rfl (any_of HT_.out (by kernel_rfl)) ?_
         refine pn_ 33 (some 43) (ba_ 46 17179869183) rfl rfl (any_of HT_.out (by kernel_rfl)) ?_
         refine pn_ 34 (some 44) (ba_ 46 34359738367) rfl rfl (any_of HT_.out (by kernel_rfl)) ?_
         refine pn_ 35 (some 45) (ba_ 46 68719476735) rfl rfl (any_of HT_.out (by kernel_rfl)) ?_
         refine pn_ 36 (some 46) (ba_ 46 137438953471) rfl rfl (any_of HT_.out (by kernel_rfl)) ?_
         refine pn_ 37 (some 47) (ba_ 46 274877906943) rfl rfl (any_of HT_.out (by kernel_rfl)) ?_
         refine pn_ 38 (some 48) (ba_ 46 549755813887) rfl rfl (any_of HT_.out (by kernel_rfl)) ?_
         refine pn_ 39 (some 49) (ba_ 46 1099511627775) rfl rfl (any_of HT_.out (by kernel_rfl)) ?_
         refine pn_ 40 (some 50) (ba_ 46 2199023255551) rfl rfl (any_of HT_.out (by kernel_rfl)) ?_
         refine pn_ 41 (some 51) (ba_ 46 4398046511103) rfl rfl (any_of HT_.out (by kernel_rfl)) ?_
         refine pn_ 42 (some 52) (ba_ 46 8796093022207) rfl rfl (any_of HT_.out (by kernel_rfl)) ?_
         refine pn_ 43 (some 53) (ba_ 46 17592186044415) rfl rfl (any_of HT_.out (by kernel_rfl)) ?_
         refine pu_ 44 (some 54) (ba_ 46 35184372088831) rfl rfl (any_of HT_.out (by kernel_rfl)) ?_
         refine pu_ 45 (some 55) (ba_ 46 70368744177663) rfl rfl (any_of HT_.out (by kernel_rfl)) ?_
         refine done_ (done_of HT_.out (by kernel_rfl)) ?_
         try go_wp2
         go_roundg k1
         case measure => have := HK1.out;omega
         case rel => exact ⟨(wrap64 (x3_1 + 1)),eb_,H',⟨by have := HK1.out;omega⟩,bl_ HB⟩
      ·replace c7 := Bool.eq_false_iff.mpr c7
       subst c7
       have H1 : (some false) = some r := by rw [if_neg (show ¬ (false = true) by decide)] at H;exact H
       clear H
       have H := H1
       clear H1
       obtain rfl := Option.some.inj H
       try go_wp2
       have n0_ := Aside0.mk (below_drew1 HB.out)
       clear HB
       have HB := n0_
       clear n0_
       have p216 : 0 ≤ (x3_1 : Int) := od_
       have q216 : x3_1 < (l0.length : Int) := od_
       obtain ⟨ad216,e216,hx216_0,hx216_1⟩ := at_T77 HR0.out x3_1 p216 q216
       have hw216_1 := hx216_1
       have hw216_0 := hx216_0
       cases e216
       replace hx216_0 := ce_ HB hx216_0
       replace hx216_1 := ce_ HB hx216_1
       replace p216 := eq_true p216
       replace q216 := eq_true q216
       have p218 : 0 ≤ (x3_1 : Int) := od_
       have q218 : x3_1 < (l0.length : Int) := od_
       obtain ⟨ad218,e218,hx218_0,hx218_1⟩ := at_T77 HR0.out x3_1 p218 q218
       have hw218_1 := hx218_1
       have hw218_0 := hx218_0
       obtain rfl : ad216 = ad218 := (by injection e218)
       replace hx218_0 := ce_ HB hx218_0
       replace hx218_1 := ce_ HB hx218_1
       replace p218 := eq_true p218
       replace q218 := eq_true q218
       refine start_ (n := 46) (S := fun w' => w'.cell? (ad216.add ((x3_1).toNat * 2)) = some (.int .i64 ((rd_T77 l0 x3_1).f0)) ∧ w'.cell? ⟨(ad216.add ((x3_1).toNat * 2)).block,(ad216.add ((x3_1).toNat * 2)).off + 1,none⟩ = some (.int .i64 ((rd_T77 l0 x3_1).f1)) ∧ w'.cell? (ad216.add ((x3_1).toNat * 2)) = some (.int .i64 ((rd_T77 l0 x3_1).f0)) ∧ w'.cell? ⟨(ad216.add ((x3_1).toNat * 2)).block,(ad216.add ((x3_1).toNat * 2)).off + 1,none⟩ = some (.int .i64 ((rd_T77 l0 x3_1).f1))) (ds := []) (ba_ 46 0) (by kernel_rfl) rfl rfl ⟨(ce_ HB hw216_0),(ce_ HB hw216_1),(ce_ HB hw218_0),(ce_ HB hw218_1)⟩ (fun hHeld => ?_);refine with_tabW spec_TreeOk.tab4 spec_TreeOk.bits4 (fun HT_ HW_ => ?_)
       generalize wr.drew = w18 at HB hx216_0 hx216_1 hx218_0 hx218_1 hHeld ⊢
       refine pu_ 0 (some 10) (ba_ 46 1) rfl rfl (any_of HT_.out (by kernel_rfl)) ?_
       refine pu_ 1 (some 11) (ba_ 46 3) rfl rfl (any_of HT_.out (by kernel_rfl)) ?_
       refine pu_ 2 (some 12) (ba_ 46 7) rfl rfl (any_of HT_.out (by kernel_rfl)) ?_
       refine pu_ 3 (some 13) (ba_ 46 15) rfl rfl (any_of HT_.out (by kernel_rfl)) ?_
       refine ta_ 4 (some 14) (ba_ 46 31) rfl rfl (take_ofW HT_.out HW_.out (by kernel_rfl)) hHeld (by rintro w' ⟨s0,s1,s2,s3⟩;go_simp;with_reducible rfl) ?_
       refine one_ (i := 5) (N := some 15) (ba_ 46 63) rfl rfl (one_of HT_.out (by kernel_rfl)) (by decide) (fun K hK => ?_)
       refine goes_ Try.func61 (by kernel_rfl) rfl #[.int .i64 ((rd_T77 l0 x3_1).f0)] (by rfl) rfl rfl (by (try simp only [List.map_toArray,List.map_cons,List.map_nil]);first | done | rfl | (simp only [List.length_drop,List.length_take];rfl)) ?_
       with_reducible refine (spec_LabelOk.calls ((rd_T77 l0 x3_1).f0) true _ A4.out).mono ?_
       rintro e w' ⟨rfl,⟨nd,rfl⟩⟩
       refine ⟨_,rfl,?_⟩
       refine hK.out _ _ ⟨(ce_ HB hw216_0),(ce_ HB hw216_1),(ce_ HB hw218_0),(ce_ HB hw218_1)⟩ (fun hHeld => ?_)
       clear hK K
       refine norm_ (a' := ?_) ?_ ?_
       rotate_left
       ·show Act.put _ (some 15) _ = _
        simp only [Act.put,List.setIfInBounds_toArray,List.set_cons_zero,List.set_cons_succ,i64_w,i32_w]
        rfl
       refine pu_ 6 (some 16) (ba_ 46 127) rfl rfl (any_of HT_.out (by kernel_rfl)) ?_
       refine pu_ 7 (some 17) (ba_ 46 255) rfl rfl (any_of HT_.out (by kernel_rfl)) ?_
       refine pu_ 8 (some 18) (ba_ 46 511) rfl rfl (any_of HT_.out (by kernel_rfl)) ?_
       refine pu_ 9 (some 19) (ba_ 46 1023) rfl rfl (any_of HT_.out (by kernel_rfl)) ?_
       refine pu_ 10 (some 20) (ba_ 46 2047) rfl rfl (any_of HT_.out (by kernel_rfl)) ?_
       refine pu_ 11 (some 21) (ba_ 46 4095) rfl rfl (any_of HT_.out (by kernel_rfl)) ?_
       refine ta_ 12 (some 22) (ba_ 46 8191) rfl rfl (take_ofW HT_.out HW_.out (by kernel_rfl)) hHeld (by rintro w' ⟨s0,s1,s2,s3⟩;go_simp;with_reducible rfl) ?_
       refine one_ (i := 13) (N := some 23) (ba_ 46 16383) rfl rfl (one_of HT_.out (by kernel_rfl)) (by decide) (fun K hK => ?_)
       refine goes_ Try.func62 (by kernel_rfl) rfl #[.int .i64 ((rd_T77 l0 x3_1).f1),.int .i64 0,.int .i64 12] (by rfl) rfl rfl (by (try simp only [List.map_toArray,List.map_cons,List.map_nil]);first | done | rfl | (simp only [List.length_drop,List.length_take];rfl)) ?_
       with_reducible refine (spec_l1In.calls ((rd_T77 l0 x3_1).f1) 0 12 false _ A6.out).mono ?_
       rintro e w' ⟨rfl,⟨nd,rfl⟩⟩
       refine ⟨_,rfl,?_⟩
       refine hK.out _ _ ⟨(ce_ HB hw216_0),(ce_ HB hw216_1),(ce_ HB hw218_0),(ce_ HB hw218_1)⟩ (fun hHeld => ?_)
       clear hK K
       refine norm_ (a' := ?_) ?_ ?_
       rotate_left
       ·show Act.put _ (some 23) _ = _
        simp only [Act.put,List.setIfInBounds_toArray,List.set_cons_zero,List.set_cons_succ,i64_w,i32_w]
        rfl
       refine pu_ 14 (some 24) (ba_ 46 32767) rfl rfl (any_of HT_.out (by kernel_rfl)) ?_
       refine pu_ 15 (some 25) (ba_ 46 65535) rfl rfl (any_of HT_.out (by kernel_rfl)) ?_
       refine pu_ 16 (some 26) (ba_ 46 131071) rfl rfl (any_of HT_.out (by kernel_rfl)) ?_
       refine pn_ 17 (some 27) (ba_ 46 262143) rfl rfl (any_of HT_.out (by kernel_rfl)) ?_
       refine pn_ 18 (some 28) (ba_ 46 524287) rfl rfl (any_of HT_.out (by kernel_rfl)) ?_
       refine pn_ 19 (some 29) (ba_ 46 1048575) rfl rfl (any_of HT_.out (by kernel_rfl)) ?_
       refine pn_ 20 (some 30) (ba_ 46 2097151) rfl rfl (any_of HT_.out (by kernel_rfl)) ?_
       refine pn_ 21 (some 31) (ba_ 46 4194303) rfl rfl (any_of HT_.out (by kernel_rfl)) ?_
       refine pn_ 22 (some 32) (ba_ 46 8388607) rfl rfl (any_of HT_.out (by kernel_rfl)) ?_
       refine pn_ 23 (some 33) (ba_ 46 16777215) rfl rfl (any_of HT_.out (by kernel_rfl)) ?_
       refine pn_ 24 (some 34) (ba_ 46 33554431) rfl rfl (any_of HT_.out (by kernel_rfl)) ?_
       refine pn_ 25 (some 35) (ba_ 46 67108863) rfl rfl (any_of HT_.out (by kernel_rfl)) ?_
       refine pu_ 26 (some 36) (ba_ 46 134217727) rfl rfl (any_of HT_.out (by kernel_rfl)) ?_
       refine pu_ 27 (some 37) (ba_ 46 268435455) rfl rfl (any_of HT_.out (by kernel_rfl)) ?_
       refine pn_ 28 (some 38) (ba_ 46 536870911) rfl rfl (any_of HT_.out (by kernel_rfl)) ?_
       refine pn_ 29 (some 39) (ba_ 46 1073741823) rfl rfl (any_of HT_.out (by kernel_rfl)) ?_
       refine pn_ 30 (some 40) (ba_ 46 2147483647) rfl rfl (any_of HT_.out (by kernel_rfl)) ?_
       refine pn_ 31 (some 41) (ba_ 46 4294967295) rfl rfl (any_of HT_.out (by kernel_rfl)) ?_
       refine pn_ 32 (some 42) (ba_ 46 8589934591) rfl rfl (any_of HT_.out (by kernel_rfl)) ?_
       refine pn_ 33 (some 43) (ba_ 46 17179869183) rfl rfl (any_of HT_.out (by kernel_rfl)) ?_
       refine pn_ 34 (some 44) (ba_ 46 34359738367) rfl rfl (any_of HT_.out (by kernel_rfl)) ?_
       refine pn_ 35 (some 45) (ba_ 46 68719476735) rfl rfl (any_of HT_.out (by kernel_rfl)) ?_
       refine pn_ 36 (some 46) (ba_ 46 137438953471) rfl rfl (any_of HT_.out (by kernel_rfl)) ?_
       refine pn_ 37 (some 47) (ba_ 46 274877906943) rfl rfl (any_of HT_.out (by kernel_rfl)) ?_
       refine pn_ 38 (some 48) (ba_ 46 549755813887) rfl rfl (any_of HT_.out (by kernel_rfl)) ?_
       refine pn_ 39 (some 49) (ba_ 46 1099511627775) rfl rfl (any_of HT_.out (by kernel_rfl)) ?_
       refine pn_ 40 (some 50) (ba_ 46 2199023255551) rfl rfl (any_of HT_.out (by kernel_rfl)) ?_
       refine pn_ 41 (some 51) (ba_ 46 4398046511103) rfl rfl (any_of HT_.out (by kernel_rfl)) ?_
       refine pn_ 42 (some 52) (ba_ 46 8796093022207) rfl rfl (any_of HT_.out (by kernel_rfl)) ?_
       refine pn_ 43 (some 53) (ba_ 46 17592186044415) rfl rfl (any_of HT_.out (by kernel_rfl)) ?_
       refine pn_ 44 (some 54) (ba_ 46 35184372088831) rfl rfl (any_of HT_.out (by kernel_rfl)) ?_
       refine pu_ 45 (some 55) (ba_ 46 70368744177663) rfl rfl (any_of HT_.out (by kernel_rfl)) ?_
       refine done_ (done_of HT_.out (by kernel_rfl)) ?_
       try go_wp2
       go_ret
       exact ⟨ea_,(bl_ HB).out⟩
     ·replace c5 := Bool.eq_false_iff.mpr c5
      subst c5
      have H1 : (some false) = some r := by rw [if_neg (show ¬ (false = true) by decide)] at H;exact H
      clear H
      have H := H1
      clear H1
      obtain rfl := Option.some.inj H
      try go_wp2
      have n0_ := Aside0.mk (below_drew1 HB.out)
      clear HB
      have HB := n0_
      clear n0_
      have p216 : 0 ≤ (x3_1 : Int) := od_
      have q216 : x3_1 < (l0.length : Int) := od_
      obtain ⟨ad216,e216,hx216_0,hx216_1⟩ := at_T77 HR0.out x3_1 p216 q216
      have hw216_1 := hx216_1
      have hw216_0 := hx216_0
      cases e216
      replace hx216_0 := ce_ HB hx216_0
      replace hx216_1 := ce_ HB hx216_1
      replace p216 := eq_true p216
      replace q216 := eq_true q216
      refine start_ (n := 46) (S := fun w' => w'.cell? (ad216.add ((x3_1).toNat * 2)) = some (.int .i64 ((rd_T77 l0 x3_1).f0)) ∧ w'.cell? ⟨(ad216.add ((x3_1).toNat * 2)).block,(ad216.add ((x3_1).toNat * 2)).off + 1,none⟩ = some (.int .i64 ((rd_T77 l0 x3_1).f1))) (ds := []) (ba_ 46 0) (by kernel_rfl) rfl rfl ⟨(ce_ HB hw216_0),(ce_ HB hw216_1)⟩ (fun hHeld => ?_);refine with_tabW spec_TreeOk.tab4 spec_TreeOk.bits4 (fun HT_ HW_ => ?_)
      generalize wr.drew = w19 at HB hx216_0 hx216_1 hHeld ⊢
      refine pu_ 0 (some 10) (ba_ 46 1) rfl rfl (any_of HT_.out (by kernel_rfl)) ?_
      refine pu_ 1 (some 11) (ba_ 46 3) rfl rfl (any_of HT_.out (by kernel_rfl)) ?_
      refine pu_ 2 (some 12) (ba_ 46 7) rfl rfl (any_of HT_.out (by kernel_rfl)) ?_
      refine pu_ 3 (some 13) (ba_ 46 15) rfl rfl (any_of HT_.out (by kernel_rfl)) ?_
      refine ta_ 4 (some 14) (ba_ 46 31) rfl rfl (take_ofW HT_.out HW_.out (by kernel_rfl)) hHeld (by rintro w' ⟨s0,s1⟩;go_simp;with_reducible rfl) ?_
      refine one_ (i := 5) (N := some 15) (ba_ 46 63) rfl rfl (one_of HT_.out (by kernel_rfl)) (by decide) (fun K hK => ?_)
      refine goes_ Try.func61 (by kernel_rfl) rfl #[.int .i64 ((rd_T77 l0 x3_1).f0)] (by rfl) rfl rfl (by (try simp only [List.map_toArray,List.map_cons,List.map_nil]);first | done | rfl | (simp only [List.length_drop,List.length_take];rfl)) ?_
      with_reducible refine (spec_LabelOk.calls ((rd_T77 l0 x3_1).f0) false _ A4.out).mono ?_
      rintro e w' ⟨rfl,⟨nd,rfl⟩⟩
      refine ⟨_,rfl,?_⟩
      refine hK.out _ _ ⟨(ce_ HB hw216_0),(ce_ HB hw216_1)⟩ (fun hHeld => ?_)
      clear hK K
      refine norm_ (a' := ?_) ?_ ?_
      rotate_left
      ·show Act.put _ (some 15) _ = _
       simp only [Act.put,List.setIfInBounds_toArray,List.set_cons_zero,List.set_cons_succ,i64_w,i32_w]
       rfl
      refine pu_ 6 (some 16) (ba_ 46 127) rfl rfl (any_of HT_.out (by kernel_rfl)) ?_
      refine pu_ 7 (some 17) (ba_ 46 255) rfl rfl (any_of HT_.out (by kernel_rfl)) ?_
      refine pn_ 8 (some 18) (ba_ 46 511) rfl rfl (any_of HT_.out (by kernel_rfl)) ?_
      refine pn_ 9 (some 19) (ba_ 46 1023) rfl rfl (any_of HT_.out (by kernel_rfl)) ?_
      refine pn_ 10 (some 20) (ba_ 46 2047) rfl rfl (any_of HT_.out (by kernel_rfl)) ?_
      refine pn_ 11 (some 21) (ba_ 46 4095) rfl rfl (any_of HT_.out (by kernel_rfl)) ?_
      refine pn_ 12 (some 22) (ba_ 46 8191) rfl rfl (any_of HT_.out (by kernel_rfl)) ?_
      refine pn_ 13 (some 23) (ba_ 46 16383) rfl rfl (any_of HT_.out (by kernel_rfl)) ?_
      refine pn_ 14 (some 24) (ba_ 46 32767) rfl rfl (any_of HT_.out (by kernel_rfl)) ?_
      refine pu_ 15 (some 25) (ba_ 46 65535) rfl rfl (any_of HT_.out (by kernel_rfl)) ?_
      refine pu_ 16 (some 26) (ba_ 46 131071) rfl rfl (any_of HT_.out (by kernel_rfl)) ?_
      refine pn_ 17 (some 27) (ba_ 46 262143) rfl rfl (any_of HT_.out (by kernel_rfl)) ?_
      refine pn_ 18 (some 28) (ba_ 46 524287) rfl rfl (any_of HT_.out (by kernel_rfl)) ?_
      refine pn_ 19 (some 29) (ba_ 46 1048575) rfl rfl (any_of HT_.out (by kernel_rfl)) ?_
      refine pn_ 20 (some 30) (ba_ 46 2097151) rfl rfl (any_of HT_.out (by kernel_rfl)) ?_
      refine pn_ 21 (some 31) (ba_ 46 4194303) rfl rfl (any_of HT_.out (by kernel_rfl)) ?_
      refine pn_ 22 (some 32) (ba_ 46 8388607) rfl rfl (any_of HT_.out (by kernel_rfl)) ?_
      refine pn_ 23 (some 33) (ba_ 46 16777215) rfl rfl (any_of HT_.out (by kernel_rfl)) ?_
      refine pn_ 24 (some 34) (ba_ 46 33554431) rfl rfl (any_of HT_.out (by kernel_rfl)) ?_
      refine pn_ 25 (some 35) (ba_ 46 67108863) rfl rfl (any_of HT_.out (by kernel_rfl)) ?_
      refine pu_ 26 (some 36) (ba_ 46 134217727) rfl rfl (any_of HT_.out (by kernel_rfl)) ?_
      refine pu_ 27 (some 37) (ba_ 46 268435455) rfl rfl (any_of HT_.out (by kernel_rfl)) ?_
      refine pn_ 28 (some 38) (ba_ 46 536870911) rfl rfl (any_of HT_.out (by kernel_rfl)) ?_
      refine pn_ 29 (some 39) (ba_ 46 1073741823) rfl rfl (any_of HT_.out (by kernel_rfl)) ?_
      refine pn_ 30 (some 40) (ba_ 46 2147483647) rfl rfl (any_of HT_.out (by kernel_rfl)) ?_
      refine pn_ 31 (some 41) (ba_ 46 4294967295) rfl rfl (any_of HT_.out (by kernel_rfl)) ?_
      refine pn_ 32 (some 42) (ba_ 46 8589934591) rfl rfl (any_of HT_.out (by kernel_rfl)) ?_
      refine pn_ 33 (some 43) (ba_ 46 17179869183) rfl rfl (any_of HT_.out (by kernel_rfl)) ?_
      refine pn_ 34 (some 44) (ba_ 46 34359738367) rfl rfl (any_of HT_.out (by kernel_rfl)) ?_
      refine pn_ 35 (some 45) (ba_ 46 68719476735) rfl rfl (any_of HT_.out (by kernel_rfl)) ?_
      refine pn_ 36 (some 46) (ba_ 46 137438953471) rfl rfl (any_of HT_.out (by kernel_rfl)) ?_
      refine pn_ 37 (some 47) (ba_ 46 274877906943) rfl rfl (any_of HT_.out (by kernel_rfl)) ?_
      refine pn_ 38 (some 48) (ba_ 46 549755813887) rfl rfl (any_of HT_.out (by kernel_rfl)) ?_
      refine pn_ 39 (some 49) (ba_ 46 1099511627775) rfl rfl (any_of HT_.out (by kernel_rfl)) ?_
      refine pn_ 40 (some 50) (ba_ 46 2199023255551) rfl rfl (any_of HT_.out (by kernel_rfl)) ?_
      refine pn_ 41 (some 51) (ba_ 46 4398046511103) rfl rfl (any_of HT_.out (by kernel_rfl)) ?_
      refine pn_ 42 (some 52) (ba_ 46 8796093022207) rfl rfl (any_of HT_.out (by kernel_rfl)) ?_
      refine pn_ 43 (some 53) (ba_ 46 17592186044415) rfl rfl (any_of HT_.out (by kernel_rfl)) ?_
      refine pn_ 44 (some 54) (ba_ 46 35184372088831) rfl rfl (any_of HT_.out (by kernel_rfl)) ?_
      refine pu_ 45 (some 55) (ba_ 46 70368744177663) rfl rfl (any_of HT_.out (by kernel_rfl)) ?_
      refine done_ (done_of HT_.out (by kernel_rfl)) ?_
      try go_wp2
      go_ret
      exact ⟨ea_,(bl_ HB).out⟩
    ·rw [if_neg c3] at H
     exact absurd H (by simp)
   ·rw [if_neg c2] at H
    have c2b0 : decide (x3_1 < (l0.length : Int)) = false := decide_eq_false c2
    clear c2
    replace H := Option.bind_eq_some_iff.mp H
    obtain ⟨t215,A200,H⟩ := H
    replace H : (some t215) = some r := H
    have A20 := Aside0.mk A200
    clear A200
    obtain rfl := Option.some.inj H
    go_wp2_with (first | ((with_reducible refine gate_callee (f := 62) rfl ?_);refine gL_ (some 58) Try.func62 #[.int .i64 (l0.length : Int),.int .i64 1,.int .i64 24] ?_;(with_reducible refine (spec_l1In.calls (l0.length : Int) 1 24 t215 _ A20.out).mono ?_);rintro e w' ⟨rfl,⟨nd,rfl⟩⟩;refine ⟨_,rfl,?_⟩))
    go_ret
    exact ⟨ea_,(bl_ HB).out⟩
end Go.Proofs.Ytngphdmbjenkaaa.X
namespace Go.Proofs.Ytngphdmbjenkaaa.X
open Go.RowKit Go.Proofs.YtngphdmbjenkaaaW.PrintWords Go.Proofs.YtngphdmbjenkaaaW.PrintLast Go.Proofs.YtngphdmbjenkaaaW.PrintMore
attribute [local go_sem] max2_int min2_int max_two min_two max_three min_three max_four min_four   -- for this text's walks alone
set_option linter.unusedVariables false
set_option linter.unusedSimpArgs false
def impl_within.f (a0 : Int) (a1 : Int) (a2 : Int) : Option (Bool) := if a1 ≤ a0 then (some (decide (a0 ≤ a2))) else (some false)
set_option maxHeartbeats 8000000 in
set_option maxRecDepth 100000 in
theorem impl_within.calls (a0 : Int) (a1 : Int) (a2 : Int) (r : Bool) (w : World) (h : impl_within.f a0 a1 a2 = some r) :
  Calls Try.prog 93 #[.int .i64 a0,.int .i64 a1,.int .i64 a2] w fun e w' => e = .returned (.bool r) ∧ Drawn0 w w' := by
 have H : (if a1 ≤ a0 then (some (decide (a0 ≤ a2))) else (some false)) = some r := h
 clear h
 by_cases c4 : a1 ≤ a0
 ·rw [if_pos c4] at H
  have c4b0 : decide (a1 ≤ a0) = true := decide_eq_true c4
  clear c4
  obtain rfl := Option.some.inj H
  go_enter Try.func93,Try.ntmps93
  go_wp2
  go_ret
  exact ⟨by first | rfl | (simp;done) | (simp [*];done),by repeat (first | exact Drawn0.refl _ | apply Drawn0.step)⟩
 ·rw [if_neg c4] at H
  have c4b0 : decide (a1 ≤ a0) = false := decide_eq_false c4
  clear c4
  obtain rfl := Option.some.inj H
  go_enter Try.func93,Try.ntmps93
  go_wp2
  go_ret
  exact ⟨by first | rfl | (simp;done) | (simp [*];done),by repeat (first | exact Drawn0.refl _ | apply Drawn0.step)⟩
end Go.Proofs.Ytngphdmbjenkaaa.X
namespace Go.Proofs.Ytngphdmbjenkaaa.X
open Go.RowKit Go.Proofs.YtngphdmbjenkaaaW.PrintWords Go.Proofs.YtngphdmbjenkaaaW.PrintLast Go.Proofs.YtngphdmbjenkaaaW.PrintMore
attribute [local go_sem] max2_int min2_int max_two min_two max_three min_three max_four min_four   -- for this text's walks alone
set_option linter.unusedVariables false
set_option linter.unusedSimpArgs false
def impl_LabelOk.f (a0 : Int) : Option (Bool) := (impl_within.f a0 0 5).bind fun t432 => (some t432)
set_option maxHeartbeats 8000000 in
set_option maxRecDepth 100000 in
theorem impl_LabelOk.calls (a0 : Int) (r : Bool) (w : World) (h : impl_LabelOk.f a0 = some r) :
  Calls Try.prog 115 #[.int .i64 a0] w fun e w' => e = .returned (.bool r) ∧ Drawn0 w w' := by
 have H : ((impl_within.f a0 0 5).bind fun t432 => (some t432)) = some r := h
 clear h
 replace H := Option.bind_eq_some_iff.mp H
 obtain ⟨t432,A20,H⟩ := H
 replace H : (some t432) = some r := H
 have A2 := Aside0.mk A20
 clear A20
 obtain rfl := Option.some.inj H
 go_enter Try.func115,Try.ntmps115
 go_wp2_with (first | ((with_reducible refine gate_callee (f := 93) rfl ?_);refine gL_ (some 4) Try.func93 #[.int .i64 a0,.int .i64 0,.int .i64 5] ?_;(with_reducible refine (impl_within.calls a0 0 5 t432 _ A2.out).mono ?_);rintro e w' ⟨rfl,⟨nd,rfl⟩⟩;refine ⟨_,rfl,?_⟩))
 go_ret
 exact ⟨by first | rfl | (simp;done) | (simp [*];done),by repeat (first | exact Drawn0.refl _ | apply Drawn0.step)⟩
end Go.Proofs.Ytngphdmbjenkaaa.X
namespace Go.Proofs.Ytngphdmbjenkaaa.X
open Go.RowKit Go.Proofs.YtngphdmbjenkaaaW.PrintWords Go.Proofs.YtngphdmbjenkaaaW.PrintLast Go.Proofs.YtngphdmbjenkaaaW.PrintMore
attribute [local go_sem] max2_int min2_int max_two min_two max_three min_three max_four min_four   -- for this text's walks alone
set_option linter.unusedVariables false
set_option linter.unusedSimpArgs false
def impl_depthOk.f (l0 : List (S77)) (a1 : Int) : Option (Bool) := if a1 = 0 then (if 0 < (l0.length : Int) then (some (((rd_T77 l0 0).f1) == 0)) else (none)) else (if 0 ≤ a1 then (if a1 < (l0.length : Int) then (if 0 ≤ (wrap64 (a1 - 1)) then (if (wrap64 (a1 - 1)) < (l0.length : Int) then ((impl_within.f ((rd_T77 l0 a1).f1) 1 (wrap64 (((rd_T77 l0 (wrap64 (a1 - 1))).f1) + 1))).bind fun t436 => (some t436)) else (none)) else (none)) else (none)) else (none))
set_option maxHeartbeats 8000000 in
set_option maxRecDepth 100000 in
theorem impl_depthOk.calls (A0 : Option Addr) (c0 : Nat) (l0 : List (S77)) (a1 : Int) (r : Bool) (w : World) (hr0 : Kd.C k77 w A0 l0.length l0) (hc0 : l0.length ≤ c0) (h : impl_depthOk.f l0 a1 = some r) :
  Calls Try.prog 116 #[.slice A0 l0.length c0,.int .i64 a1] w fun e w' => e = .returned (.bool r) ∧ Drawn0 w w' := by
 have HR0 := Aside0.mk hr0
 have HC0 := Aside0.mk hc0
 clear hr0 hc0
 have H : (if a1 = 0 then (if 0 < (l0.length : Int) then (some (((rd_T77 l0 0).f1) == 0)) else (none)) else (if 0 ≤ a1 then (if a1 < (l0.length : Int) then (if 0 ≤ (wrap64 (a1 - 1)) then (if (wrap64 (a1 - 1)) < (l0.length : Int) then ((impl_within.f ((rd_T77 l0 a1).f1) 1 (wrap64 (((rd_T77 l0 (wrap64 (a1 - 1))).f1) + 1))).bind fun t436 => (some t436)) else (none)) else (none)) else (none)) else (none))) = some r := h
 clear h
 by_cases c3 : a1 = 0
 ·rw [if_pos c3] at H
  have c3b0 : (a1 == 0) = true := beq_iff_eq.mpr c3
  have c3b1 : (a1 != 0) = false := bne_eq_false_iff_eq.mpr c3
  clear c3
  by_cases c4 : 0 < (l0.length : Int)
  ·rw [if_pos c4] at H
   have c4b0 : decide (0 < (l0.length : Int)) = true := decide_eq_true c4
   have c4b1 : decide (0 < l0.length) = true := decide_eq_true (by omega)
   clear c4
   obtain rfl := Option.some.inj H
   have p433 : 0 ≤ (0 : Int) := (by omega)
   have q433 : 0 < (l0.length : Int) := od_
   obtain ⟨ad433,e433,hx433_0,hx433_1⟩ := at_T77 HR0.out 0 p433 q433
   cases e433
   have qi433 : (0 < l0.length) = True := eq_true (by omega)
   (try rw [show ((0 : Int)).toNat = 0 from rfl] at hx433_0)
   (try rw [show 0 * 2 = 0 from rfl] at hx433_0)
   (try rw [Addr.add_zero'] at hx433_0)
   (try rw [show ((0 : Int)).toNat = 0 from rfl] at hx433_1)
   (try rw [show 0 * 2 = 0 from rfl] at hx433_1)
   (try rw [Addr.add_zero'] at hx433_1)
   replace p433 := eq_true p433
   replace q433 := eq_true q433
   go_enter Try.func116,Try.ntmps116
   go_wp2
   repeat (go_quiet (fail);try go_wp2)
   go_ret
   exact ⟨by first | rfl | (simp;done) | (simp [*];done),by repeat (first | exact Drawn0.refl _ | apply Drawn0.step)⟩
  ·rw [if_neg c4] at H
   exact absurd H (by simp)
 ·rw [if_neg c3] at H
  have c3b0 : (a1 == 0) = false := beq_eq_false_iff_ne.mpr c3
  have c3b1 : (a1 != 0) = true := bne_iff_ne.mpr c3
  by_cases c5 : 0 ≤ a1
  ·rw [if_pos c5] at H
   have c5b0 : decide (0 ≤ a1) = true := decide_eq_true c5
   clear c5
   by_cases c6 : a1 < (l0.length : Int)
   ·rw [if_pos c6] at H
    have c6b0 : decide (a1 < (l0.length : Int)) = true := decide_eq_true c6
    clear c6
    obtain ⟨ji7,hji7⟩ : ∃ j_ : Int,(wrap64 (a1 - 1)) = j_ := ⟨_,rfl⟩
    replace H : (if 0 ≤ (ji7) then (if (ji7) < (l0.length : Int) then ((impl_within.f ((rd_T77 l0 a1).f1) 1 (wrap64 (((rd_T77 l0 (ji7)).f1) + 1))).bind fun t436 => (some t436)) else (none)) else (none)) = some r := by first | (rw [hji7] at H;exact H) | (simp only [hji7] at H ⊢;exact H)
    have hji7w : (IntKind.i64.wrap (a1 - 1)) = ji7 := (i64_w _).trans hji7
    by_cases c8 : 0 ≤ (ji7)
    ·rw [if_pos c8] at H
     have c8b0 : decide (0 ≤ (ji7)) = true := decide_eq_true c8
     clear c8
     by_cases c9 : (ji7) < (l0.length : Int)
     ·rw [if_pos c9] at H
      have c9b0 : decide ((ji7) < (l0.length : Int)) = true := decide_eq_true c9
      clear c9
      replace H := Option.bind_eq_some_iff.mp H
      obtain ⟨t436,A100,H⟩ := H
      replace H : (some t436) = some r := H
      have A10 := Aside0.mk A100
      clear A100
      obtain rfl := Option.some.inj H
      have p434 : 0 ≤ (a1 : Int) := od_
      have q434 : a1 < (l0.length : Int) := od_
      obtain ⟨ad434,e434,hx434_0,hx434_1⟩ := at_T77 HR0.out a1 p434 q434
      cases e434
      replace p434 := eq_true p434
      replace q434 := eq_true q434
      have p435 : 0 ≤ ((ji7) : Int) := od_
      have q435 : (ji7) < (l0.length : Int) := od_
      obtain ⟨ad435,e435,hx435_0,hx435_1⟩ := at_T77 HR0.out (ji7) p435 q435
      obtain rfl : ad434 = ad435 := (by injection e435)
      replace p435 := eq_true p435
      replace q435 := eq_true q435
      go_enter Try.func116,Try.ntmps116
      go_wp2_with (first | (go_at_call 93;(with_reducible refine (impl_within.calls ((rd_T77 l0 a1).f1) 1 (wrap64 (((rd_T77 l0 (ji7)).f1) + 1)) t436 _ A10.out).mono ?_);rintro e w' ⟨rfl,⟨nd,rfl⟩⟩;(try first | exact ⟨rfl,_,World.drewN_drewN _ _ _⟩ | exact ⟨rfl,_,Eq.trans (World.drewN_drewN _ _ _) (congrArg (World.drewN _) (Nat.add_assoc _ _ _))⟩)))
      repeat (go_quiet (first | (go_at_call 93;(with_reducible refine (impl_within.calls ((rd_T77 l0 a1).f1) 1 (wrap64 (((rd_T77 l0 (ji7)).f1) + 1)) t436 _ A10.out).mono ?_);rintro e w' ⟨rfl,⟨nd,rfl⟩⟩;(try first | exact ⟨rfl,_,World.drewN_drewN _ _ _⟩ | exact ⟨rfl,_,Eq.trans (World.drewN_drewN _ _ _) (congrArg (World.drewN _) (Nat.add_assoc _ _ _))⟩)));try go_wp2_with (first | (go_at_call 93;(with_reducible refine (impl_within.calls ((rd_T77 l0 a1).f1) 1 (wrap64 (((rd_T77 l0 (ji7)).f1) + 1)) t436 _ A10.out).mono ?_);rintro e w' ⟨rfl,⟨nd,rfl⟩⟩;(try first | exact ⟨rfl,_,World.drewN_drewN _ _ _⟩ | exact ⟨rfl,_,Eq.trans (World.drewN_drewN _ _ _) (congrArg (World.drewN _) (Nat.add_assoc _ _ _))⟩))))
      go_ret
      exact ⟨by first | rfl | (simp;done) | (simp only [← hji7] <;> (first | rfl | simp)) | (simp [*];done),by repeat (first | exact Drawn0.refl _ | apply Drawn0.step)⟩
     ·rw [if_neg c9] at H
      exact absurd H (by simp)
    ·rw [if_neg c8] at H
     exact absurd H (by simp)
   ·rw [if_neg c6] at H
    exact absurd H (by simp)
  ·rw [if_neg c5] at H
   exact absurd H (by simp)
end Go.Proofs.Ytngphdmbjenkaaa.X
namespace Go.Proofs.Ytngphdmbjenkaaa.X
open Go.RowKit Go.Proofs.YtngphdmbjenkaaaW.PrintWords Go.Proofs.YtngphdmbjenkaaaW.PrintLast Go.Proofs.YtngphdmbjenkaaaW.PrintMore
attribute [local go_sem] max2_int min2_int max_two min_two max_three min_three max_four min_four   -- for this text's walks alone
set_option linter.unusedVariables false
set_option linter.unusedSimpArgs false
def impl_TreeOk.l0 : Nat → List (S77) → List (S77) → Int → Int → Option (Bool)
 | 0,_,_,_,_ => none
 | k + 1,x0,x9,x10,x11 => if x11 < x10 then (if 0 ≤ x11 then (if x11 < (x9.length : Int) then ((impl_LabelOk.f ((rd_T77 x9 x11).f0)).bind fun t440 => (if t440 = true then ((impl_within.f ((rd_T77 x9 x11).f1) 0 12).bind fun t441 => (if t441 = true then ((impl_depthOk.f x0 x11).bind fun t442 => (if t442 = true then (impl_TreeOk.l0 k x0 x9 x10 (wrap64 (x11 + 1))) else (some false))) else (some false))) else (some false))) else (none)) else (none)) else (some true)
def impl_TreeOk.f (k : Nat) (l0 : List (S77)) : Option (Bool) := (impl_within.f (l0.length : Int) 1 24).bind fun t437 => (if t437 = true then (impl_TreeOk.l0 k l0 l0 (l0.length : Int) 0) else (some false))
theorem impl_TreeOk.mono_l : ∀ k,(∀ y0 y1 y2 y3,LeO (impl_TreeOk.l0 k y0 y1 y2 y3) (impl_TreeOk.l0 (k + 1) y0 y1 y2 y3))
 | 0 => fun _ _ _ _ r h => by simp [impl_TreeOk.l0] at h
 | k + 1 => by
  have ih0 := impl_TreeOk.mono_l k
  ·intro y0 y1 y2 y3
   unfold impl_TreeOk.l0
   repeat' first
   | (with_reducible exact ih0 _ _ _ _)
   | (with_reducible exact LeO.refl _)
   | (with_reducible exact LeO.none _)
   | (with_reducible refine LeO.ite ?_ ?_)
   | (with_reducible refine LeO.bind ?_ (fun _ => ?_))
   | exact ih0 _ _ _ _
   | exact LeO.none _
   | refine LeO.ite ?_ ?_
   | refine LeO.bind ?_ (fun _ => ?_)
theorem impl_TreeOk.mono : ∀ a0 k,LeO (impl_TreeOk.f k a0) (impl_TreeOk.f (k + 1) a0) := by
 intro a0 k
 have ih0 := impl_TreeOk.mono_l k
 unfold impl_TreeOk.f
 repeat' first
   | (with_reducible exact ih0 _ _ _ _)
   | (with_reducible exact LeO.refl _)
   | (with_reducible exact LeO.none _)
   | (with_reducible refine LeO.ite ?_ ?_)
   | (with_reducible refine LeO.bind ?_ (fun _ => ?_))
   | exact ih0 _ _ _ _
   | exact LeO.none _
   | refine LeO.ite ?_ ?_
   | refine LeO.bind ?_ (fun _ => ?_)
set_option maxHeartbeats 8000000 in
set_option maxRecDepth 100000 in
theorem impl_TreeOk.calls (k : Nat) (A0 : Option Addr) (c0 : Nat) (l0 : List (S77)) (r : Bool) (w : World) (hr0 : Kd.C k77 w A0 l0.length l0) (hc0 : l0.length ≤ c0) (h : impl_TreeOk.f k l0 = some r) :
  Calls Try.prog 59 #[.slice A0 l0.length c0] w fun e w' => e = .returned (.bool r) ∧ Below w.heap.size w w' := by
 have hu77 := Try.underlying77
 have HR0 := Aside0.mk hr0
 have HC0 := Aside0.mk hc0
 clear hr0 hc0
 have HB := Aside0.mk (Below.refl w.heap.size w)
 have H : ((impl_within.f (l0.length : Int) 1 24).bind fun t437 => (if t437 = true then (impl_TreeOk.l0 k l0 l0 (l0.length : Int) 0) else (some false))) = some r := h
 clear h
 replace H := Option.bind_eq_some_iff.mp H
 obtain ⟨t437,A20,H⟩ := H
 replace H : (if t437 = true then (impl_TreeOk.l0 k l0 l0 (l0.length : Int) 0) else (some false)) = some r := H
 have A2 := Aside0.mk A20
 clear A20
 by_cases c3 : t437 = true
 ·subst c3
  have H1 : (impl_TreeOk.l0 k l0 l0 (l0.length : Int) 0) = some r := by rw [if_pos rfl] at H;exact H
  clear H
  have H := H1
  clear H1
  have H' := Aside0.mk H
  clear H
  go_enter Try.func59,Try.ntmps59
  go_wp2_with (first | ((with_reducible refine gate_callee (f := 93) rfl ?_);refine gL_ (some 7) Try.func93 #[.int .i64 (l0.length : Int),.int .i64 1,.int .i64 24] ?_;(with_reducible refine (impl_within.calls (l0.length : Int) 1 24 true _ A2.out).mono ?_);rintro e w' ⟨rfl,⟨nd,rfl⟩⟩;refine ⟨_,rfl,?_⟩))
  go_loopg [11] k (fun kq v11 w' => ∃ (x11_1 : Int),v11 = .int .i64 x11_1 ∧ Aside0 (impl_TreeOk.l0 kq l0 l0 (l0.length : Int) x11_1 = some r) ∧ Aside0 (kq ≤ k) ∧ Aside0 (Below w.heap.size w w'))
  case atStart => exact ⟨(0),eb_,H',⟨Nat.le_refl _⟩,bl_ HB⟩
  case round =>
   clear H'
   try clear p2
   try clear c3
   obtain ⟨x11_1,rfl,HA,HK1,HB⟩ := hrel
   cases gk with
   | zero => exact absurd HA.out (by simp [impl_TreeOk.l0])
   | succ k1 =>
    have H := HA.out
    clear HA
    simp only [impl_TreeOk.l0] at H
    by_cases c4 : x11_1 < (l0.length : Int)
    ·rw [if_pos c4] at H
     have c4b0 : decide (x11_1 < (l0.length : Int)) = true := decide_eq_true c4
     clear c4
     by_cases c5 : 0 ≤ x11_1
     ·rw [if_pos c5] at H
      have c5b0 : decide (0 ≤ x11_1) = true := decide_eq_true c5
      clear c5
      by_cases c6 : x11_1 < (l0.length : Int)
      ·rw [if_pos c6] at H
       have c6b0 : decide (x11_1 < (l0.length : Int)) = true := decide_eq_true c6
       clear c6
       replace H := Option.bind_eq_some_iff.mp H
       obtain ⟨t440,A70,H⟩ := H
       try dsimp only at H
       have A7 := Aside0.mk A70
       clear A70
       by_cases c8 : t440 = true
       ·subst c8
        have H1 : ((impl_within.f ((rd_T77 l0 x11_1).f1) 0 12).bind fun t441 => (if t441 = true then ((impl_depthOk.f l0 x11_1).bind fun t442 => (if t442 = true then (impl_TreeOk.l0 k1 l0 l0 (l0.length : Int) (wrap64 (x11_1 + 1))) else (some false))) else (some false))) = some r := by rw [if_pos rfl] at H;exact H
        clear H
        have H := H1
        clear H1
        replace H := Option.bind_eq_some_iff.mp H
        obtain ⟨t441,A90,H⟩ := H
        try dsimp only at H
        have A9 := Aside0.mk A90
        clear A90
        by_cases c10 : t441 = true
        ·subst c10
         have H1 : ((impl_depthOk.f l0 x11_1).bind fun t442 => (if t442 = true then (impl_TreeOk.l0 k1 l0 l0 (l0.length : Int) (wrap64 (x11_1 + 1))) else (some false))) = some r := by rw [if_pos rfl] at H;exact H
         clear H
         have H := H1
         clear H1
         replace H := Option.bind_eq_some_iff.mp H
         obtain ⟨t442,A110,H⟩ := H
         try dsimp only at H
         have A11 := Aside0.mk A110
         clear A110
         by_cases c12 : t442 = true
         ·subst c12
          have H1 : (impl_TreeOk.l0 k1 l0 l0 (l0.length : Int) (wrap64 (x11_1 + 1))) = some r := by rw [if_pos rfl] at H;exact H
          clear H
          have H := H1
          clear H1
          have H' := Aside0.mk H
          clear H
          have p438 : 0 ≤ (x11_1 : Int) := od_
          have q438 : x11_1 < (l0.length : Int) := od_
          obtain ⟨ad438,e438,hx438_0,hx438_1⟩ := at_T77 HR0.out x11_1 p438 q438
          cases e438
          replace hx438_0 := (HB.out.cell (World.block_lt_of_cell? w _ hx438_0)).trans hx438_0
          replace hx438_1 := (HB.out.cell (World.block_lt_of_cell? w _ hx438_1)).trans hx438_1
          replace p438 := eq_true p438
          replace q438 := eq_true q438
          go_wp2_with (first | ((with_reducible refine gate_dst (N := 4) rfl ?_);refine box_event ?hg (N := 4) ?hd (cs := #[.int .i64 0,.int .i64 0]) (t := 77) ?hr ?_;(case hd => rfl);(case hg => rfl);(case hr => first | (go_simp;done) | (go_simp;rfl));intro gb439 hg w13 hbox hb;have n0_ := Aside0.mk (below_step (by repeat (first | (with_reducible first | exact HB.out | apply below_alloc | apply pw_below_drewN | apply below_drew1) | exact HB.out)) hb);have n1_ := Aside0.mk (hbox);have n2_ := Aside0.mk ((by rw [hg];exact (below_size (by repeat (first | (with_reducible first | exact HB.out | apply below_alloc | apply pw_below_drewN | apply below_drew1) | exact HB.out))) : w.heap.size ≤ gb439));have n3_ := Aside0.mk ((by rw [hg];exact (below_size (by repeat (first | (with_reducible first | exact HB.out | apply below_alloc | apply pw_below_drewN | apply below_drew1) | exact HB.out))) : w.heap.size ≤ gb439));clear HB;have HB := n0_;have BK439 := n1_;have GW439 := n2_;have GE439 := n3_;clear n0_ n1_ n2_ n3_;clear hb hbox hg;have hcz14_0 : w13.cell? ⟨gb439,0,none⟩ = some (.int .i64 0) := (blk_cell BK439.out 0).trans rfl;have hcz14_1 : w13.cell? ⟨gb439,1,none⟩ = some (.int .i64 0) := (blk_cell BK439.out 1).trans rfl;have hfz14_0 := blk_frozen BK439.out 0;have hfz14_1 := blk_frozen BK439.out 1) | ((with_reducible refine gate_callee (f := 115) rfl ?_);refine goesL_ (some 18) rfl rfl Try.func115 (by kernel_rfl) rfl #[.int .i64 ((rd_T77 l0 x11_1).f0)] rfl (by (try simp only [List.map_toArray,List.map_cons,List.map_nil]);first | done | rfl | (simp only [List.length_drop,List.length_take];rfl)) ?_;(with_reducible refine (impl_LabelOk.calls ((rd_T77 l0 x11_1).f0) true _ A7.out).mono ?_);rintro e w' ⟨rfl,⟨nd,rfl⟩⟩;refine ⟨_,rfl,?_⟩) | (go_at_call 93;(with_reducible refine (impl_within.calls ((rd_T77 l0 x11_1).f1) 0 12 true _ A9.out).mono ?_);rintro e w' ⟨rfl,⟨nd,rfl⟩⟩) | (go_at_call 116;(with_reducible refine (impl_depthOk.calls _ _ l0 x11_1 true _ ?side1 ?side2 A11.out).mono ?_);(case side1 => exact Kd.C_below HR0.out (by repeat (first | (with_reducible first | exact HB.out | apply below_alloc | apply pw_below_drewN | apply below_drew1 | refine below_set ?_ GE439.out) | exact HB.out)));(case side2 => exact HC0.out);rintro e w' ⟨rfl,⟨nd,rfl⟩⟩))
          go_roundg k1
          case measure => have := HK1.out;omega
          case rel => exact ⟨(wrap64 (x11_1 + 1)),(by first | rfl | (simp;done) | (simp [*];done)),H',⟨by have := HK1.out;omega⟩,⟨by repeat (first | (with_reducible first | exact HB.out | apply below_alloc | apply pw_below_drewN | apply below_drew1 | refine below_set ?_ GE439.out) | exact HB.out)⟩⟩
         ·replace c12 := Bool.eq_false_iff.mpr c12
          subst c12
          have H1 : (some false) = some r := by rw [if_neg (show ¬ (false = true) by decide)] at H;exact H
          clear H
          have H := H1
          clear H1
          obtain rfl := Option.some.inj H
          have p438 : 0 ≤ (x11_1 : Int) := od_
          have q438 : x11_1 < (l0.length : Int) := od_
          obtain ⟨ad438,e438,hx438_0,hx438_1⟩ := at_T77 HR0.out x11_1 p438 q438
          cases e438
          replace hx438_0 := (HB.out.cell (World.block_lt_of_cell? w _ hx438_0)).trans hx438_0
          replace hx438_1 := (HB.out.cell (World.block_lt_of_cell? w _ hx438_1)).trans hx438_1
          replace p438 := eq_true p438
          replace q438 := eq_true q438
          go_wp2_with (first | ((with_reducible refine gate_dst (N := 4) rfl ?_);refine box_event ?hg (N := 4) ?hd (cs := #[.int .i64 0,.int .i64 0]) (t := 77) ?hr ?_;(case hd => rfl);(case hg => rfl);(case hr => first | (go_simp;done) | (go_simp;rfl));intro gb439 hg w15 hbox hb;have n0_ := Aside0.mk (below_step (by repeat (first | (with_reducible first | exact HB.out | apply below_alloc | apply pw_below_drewN | apply below_drew1) | exact HB.out)) hb);have n1_ := Aside0.mk (hbox);have n2_ := Aside0.mk ((by rw [hg];exact (below_size (by repeat (first | (with_reducible first | exact HB.out | apply below_alloc | apply pw_below_drewN | apply below_drew1) | exact HB.out))) : w.heap.size ≤ gb439));have n3_ := Aside0.mk ((by rw [hg];exact (below_size (by repeat (first | (with_reducible first | exact HB.out | apply below_alloc | apply pw_below_drewN | apply below_drew1) | exact HB.out))) : w.heap.size ≤ gb439));clear HB;have HB := n0_;have BK439 := n1_;have GW439 := n2_;have GE439 := n3_;clear n0_ n1_ n2_ n3_;clear hb hbox hg;have hcz16_0 : w15.cell? ⟨gb439,0,none⟩ = some (.int .i64 0) := (blk_cell BK439.out 0).trans rfl;have hcz16_1 : w15.cell? ⟨gb439,1,none⟩ = some (.int .i64 0) := (blk_cell BK439.out 1).trans rfl;have hfz16_0 := blk_frozen BK439.out 0;have hfz16_1 := blk_frozen BK439.out 1) | ((with_reducible refine gate_callee (f := 115) rfl ?_);refine goesL_ (some 18) rfl rfl Try.func115 (by kernel_rfl) rfl #[.int .i64 ((rd_T77 l0 x11_1).f0)] rfl (by (try simp only [List.map_toArray,List.map_cons,List.map_nil]);first | done | rfl | (simp only [List.length_drop,List.length_take];rfl)) ?_;(with_reducible refine (impl_LabelOk.calls ((rd_T77 l0 x11_1).f0) true _ A7.out).mono ?_);rintro e w' ⟨rfl,⟨nd,rfl⟩⟩;refine ⟨_,rfl,?_⟩) | (go_at_call 93;(with_reducible refine (impl_within.calls ((rd_T77 l0 x11_1).f1) 0 12 true _ A9.out).mono ?_);rintro e w' ⟨rfl,⟨nd,rfl⟩⟩) | (go_at_call 116;(with_reducible refine (impl_depthOk.calls _ _ l0 x11_1 false _ ?side1 ?side2 A11.out).mono ?_);(case side1 => exact Kd.C_below HR0.out (by repeat (first | (with_reducible first | exact HB.out | apply below_alloc | apply pw_below_drewN | apply below_drew1 | refine below_set ?_ GE439.out) | exact HB.out)));(case side2 => exact HC0.out);rintro e w' ⟨rfl,⟨nd,rfl⟩⟩))
          go_ret
          exact ⟨by first | rfl | (simp [errW_none,errW_some] <;> rfl) | (simp [*,errW_none,errW_some] <;> rfl),by repeat (first | (with_reducible first | exact HB.out | apply below_alloc | apply pw_below_drewN | apply below_drew1 | refine below_set ?_ GE439.out) | exact HB.out)⟩
        ·replace c10 := Bool.eq_false_iff.mpr c10
         subst c10
         have H1 : (some false) = some r := by rw [if_neg (show ¬ (false = true) by decide)] at H;exact H
         clear H
         have H := H1
         clear H1
         obtain rfl := Option.some.inj H
         have p438 : 0 ≤ (x11_1 : Int) := od_
         have q438 : x11_1 < (l0.length : Int) := od_
         obtain ⟨ad438,e438,hx438_0,hx438_1⟩ := at_T77 HR0.out x11_1 p438 q438
         cases e438
         replace hx438_0 := ce_ HB hx438_0
         replace hx438_1 := ce_ HB hx438_1
         replace p438 := eq_true p438
         replace q438 := eq_true q438
         go_wp2_with (first | ((with_reducible refine gate_dst (N := 4) rfl ?_);refine bx_ 4 #[.int .i64 0,.int .i64 0] 77 ?_;intro gb439 hg w17 hbox hb;have BK439 := Aside0.mk (hbox);have GW439 := Aside0.mk ((by rw [hg];exact (bs_ HB) : w.heap.size ≤ gb439));have GE439 := Aside0.mk ((by rw [hg];exact (bs_ HB) : w.heap.size ≤ gb439));replace HB := tB_ HB hb;clear hb hbox hg;obtain ⟨hcz18_0,hcz18_1,hfz18_0,hfz18_1⟩ := bk2_ BK439) | ((with_reducible refine gate_callee (f := 115) rfl ?_);refine gL_ (some 18) Try.func115 #[.int .i64 ((rd_T77 l0 x11_1).f0)] ?_;(with_reducible refine (impl_LabelOk.calls ((rd_T77 l0 x11_1).f0) true _ A7.out).mono ?_);rintro e w' ⟨rfl,⟨nd,rfl⟩⟩;refine ⟨_,rfl,?_⟩) | (go_at_call 93;(with_reducible refine (impl_within.calls ((rd_T77 l0 x11_1).f1) 0 12 false _ A9.out).mono ?_);rintro e w' ⟨rfl,⟨nd,rfl⟩⟩))
         go_ret
         exact ⟨by first | rfl | (simp [errW_none,errW_some] <;> rfl) | (simp [*,errW_none,errW_some] <;> rfl),by repeat (first | (with_reducible first | exact HB.out | apply below_alloc | apply pw_below_drewN | apply below_drew1 | refine below_set ?_ GE439.out) | exact HB.out)⟩
       ·replace c8 := Bool.eq_false_iff.mpr c8
        subst c8
        have H1 : (some false) = some r := by rw [if_neg (show ¬ (false = true) by decide)] at H;exact H
        clear H
        have H := H1
        clear H1
        obtain rfl := Option.some.inj H
        have p438 : 0 ≤ (x11_1 : Int) := od_
        have q438 : x11_1 < (l0.length : Int) := od_
        obtain ⟨ad438,e438,hx438_0,hx438_1⟩ := at_T77 HR0.out x11_1 p438 q438
        cases e438
        replace hx438_0 := ce_ HB hx438_0
        replace hx438_1 := ce_ HB hx438_1
        replace p438 := eq_true p438
        replace q438 := eq_true q438
        go_wp2_with (first | ((with_reducible refine gate_dst (N := 4) rfl ?_);refine bx_ 4 #[.int .i64 0,.int .i64 0] 77 ?_;intro gb439 hg w19 hbox hb;have BK439 := Aside0.mk (hbox);have GW439 := Aside0.mk ((by rw [hg];exact (bs_ HB) : w.heap.size ≤ gb439));have GE439 := Aside0.mk ((by rw [hg];exact (bs_ HB) : w.heap.size ≤ gb439));replace HB := tB_ HB hb;clear hb hbox hg;obtain ⟨hcz20_0,hcz20_1,hfz20_0,hfz20_1⟩ := bk2_ BK439) | ((with_reducible refine gate_callee (f := 115) rfl ?_);refine gL_ (some 18) Try.func115 #[.int .i64 ((rd_T77 l0 x11_1).f0)] ?_;(with_reducible refine (impl_LabelOk.calls ((rd_T77 l0 x11_1).f0) false _ A7.out).mono ?_);rintro e w' ⟨rfl,⟨nd,rfl⟩⟩;refine ⟨_,rfl,?_⟩))
        go_ret
        exact ⟨by first | rfl | (simp [errW_none,errW_some] <;> rfl) | (simp [*,errW_none,errW_some] <;> rfl),by repeat (first | (with_reducible first | exact HB.out | apply below_alloc | apply pw_below_drewN | apply below_drew1 | refine below_set ?_ GE439.out) | exact HB.out)⟩
      ·rw [if_neg c6] at H
       exact absurd H (by simp)
     ·rw [if_neg c5] at H
      exact absurd H (by simp)
    ·rw [if_neg c4] at H
     have c4b0 : decide (x11_1 < (l0.length : Int)) = false := decide_eq_false c4
     clear c4
     obtain rfl := Option.some.inj H
     go_wp2
     go_ret
     exact ⟨ea_,(bl_ HB).out⟩
 ·replace c3 := Bool.eq_false_iff.mpr c3
  subst c3
  have H1 : (some false) = some r := by rw [if_neg (show ¬ (false = true) by decide)] at H;exact H
  clear H
  have H := H1
  clear H1
  obtain rfl := Option.some.inj H
  go_enter Try.func59,Try.ntmps59
  go_wp2_with (first | ((with_reducible refine gate_callee (f := 93) rfl ?_);refine gL_ (some 7) Try.func93 #[.int .i64 (l0.length : Int),.int .i64 1,.int .i64 24] ?_;(with_reducible refine (impl_within.calls (l0.length : Int) 1 24 false _ A2.out).mono ?_);rintro e w' ⟨rfl,⟨nd,rfl⟩⟩;refine ⟨_,rfl,?_⟩))
  go_ret
  exact ⟨ea_,(bl_ HB).out⟩
end Go.Proofs.Ytngphdmbjenkaaa.X
namespace Go.Proofs.Ytngphdmbjenkaaa.X
open Go.RowKit Go.Proofs.YtngphdmbjenkaaaW.PrintWords Go.Proofs.YtngphdmbjenkaaaW.PrintLast Go.Proofs.YtngphdmbjenkaaaW.PrintMore
attribute [local go_sem] max2_int min2_int max_two min_two max_three min_three max_four min_four   -- for this text's walks alone
set_option linter.unusedVariables false
set_option linter.unusedSimpArgs false
def impl_endOf.l0 : Nat → List (S77) → Int → Int → Option (Int)
 | 0,_,_,_ => none
 | k + 1,x0,x1,x5 => if x5 < (x0.length : Int) then (if 0 ≤ x5 then (if 0 ≤ x1 then (if x1 < (x0.length : Int) then (if ((rd_T77 x0 x5).f1) > ((rd_T77 x0 x1).f1) then (impl_endOf.l0 k x0 x1 (wrap64 (x5 + 1))) else (some x5)) else (none)) else (none)) else (none)) else (some x5)
def impl_endOf.f (k : Nat) (l0 : List (S77)) (a1 : Int) : Option (Int) := impl_endOf.l0 k l0 a1 (wrap64 (a1 + 1))
theorem impl_endOf.mono_l : ∀ k,(∀ y0 y1 y2,LeO (impl_endOf.l0 k y0 y1 y2) (impl_endOf.l0 (k + 1) y0 y1 y2))
 | 0 => fun _ _ _ r h => by simp [impl_endOf.l0] at h
 | k + 1 => by
  have ih0 := impl_endOf.mono_l k
  ·intro y0 y1 y2
   unfold impl_endOf.l0
   repeat' first
   | (with_reducible exact ih0 _ _ _)
   | (with_reducible exact LeO.refl _)
   | (with_reducible exact LeO.none _)
   | (with_reducible refine LeO.ite ?_ ?_)
   | (with_reducible refine LeO.bind ?_ (fun _ => ?_))
   | exact ih0 _ _ _
   | exact LeO.none _
   | refine LeO.ite ?_ ?_
   | refine LeO.bind ?_ (fun _ => ?_)
theorem impl_endOf.mono : ∀ a0 a1 k,LeO (impl_endOf.f k a0 a1) (impl_endOf.f (k + 1) a0 a1) := by
 intro a0 a1 k
 have ih0 := impl_endOf.mono_l k
 unfold impl_endOf.f
 repeat' first
   | (with_reducible exact ih0 _ _ _)
   | (with_reducible exact LeO.refl _)
   | (with_reducible exact LeO.none _)
   | (with_reducible refine LeO.ite ?_ ?_)
   | (with_reducible refine LeO.bind ?_ (fun _ => ?_))
   | exact ih0 _ _ _
   | exact LeO.none _
   | refine LeO.ite ?_ ?_
   | refine LeO.bind ?_ (fun _ => ?_)
set_option maxHeartbeats 8000000 in
set_option maxRecDepth 100000 in
theorem impl_endOf.calls (k : Nat) (A0 : Option Addr) (c0 : Nat) (l0 : List (S77)) (a1 : Int) (r : Int) (w : World) (hr0 : Kd.C k77 w A0 l0.length l0) (hc0 : l0.length ≤ c0) (h : impl_endOf.f k l0 a1 = some r) :
  Calls Try.prog 85 #[.slice A0 l0.length c0,.int .i64 a1] w fun e w' => e = .returned (.int .i64 r) ∧ Drawn0 w w' := by
 have HR0 := Aside0.mk hr0
 have HC0 := Aside0.mk hc0
 clear hr0 hc0
 have H : (impl_endOf.l0 k l0 a1 (wrap64 (a1 + 1))) = some r := h
 clear h
 have H' := Aside0.mk H
 clear H
 go_enter Try.func85,Try.ntmps85
 go_wp2
 repeat (go_quiet (fail);try go_wp2)
 go_loopg [5] k (fun kq v5 w' => ∃ (x5_1 : Int),v5 = .int .i64 x5_1 ∧ Aside0 (impl_endOf.l0 kq l0 a1 x5_1 = some r) ∧ Aside0 (kq ≤ k) ∧ Drawn0 w w')
 case atStart => exact ⟨(wrap64 (a1 + 1)),eb_,H',⟨Nat.le_refl _⟩,by repeat (first | exact Drawn0.refl _ | apply Drawn0.step)⟩
 case round =>
  clear H'
  try clear p2
  obtain ⟨x5_1,rfl,HA,HK1,⟨m1,rfl⟩⟩ := hrel
  cases gk with
  | zero => exact absurd HA.out (by simp [impl_endOf.l0])
  | succ k1 =>
   have H := HA.out
   clear HA
   simp only [impl_endOf.l0] at H
   by_cases c3 : x5_1 < (l0.length : Int)
   ·rw [if_pos c3] at H
    have c3b0 : decide (x5_1 < (l0.length : Int)) = true := decide_eq_true c3
    clear c3
    by_cases c4 : 0 ≤ x5_1
    ·rw [if_pos c4] at H
     have c4b0 : decide (0 ≤ x5_1) = true := decide_eq_true c4
     clear c4
     by_cases c5 : 0 ≤ a1
     ·rw [if_pos c5] at H
      have c5b0 : decide (0 ≤ a1) = true := decide_eq_true c5
      clear c5
      by_cases c6 : a1 < (l0.length : Int)
      ·rw [if_pos c6] at H
       have c6b0 : decide (a1 < (l0.length : Int)) = true := decide_eq_true c6
       clear c6
       by_cases c7 : ((rd_T77 l0 x5_1).f1) > ((rd_T77 l0 a1).f1)
       ·rw [if_pos c7] at H
        have c7b0 : decide (((rd_T77 l0 a1).f1) < ((rd_T77 l0 x5_1).f1)) = true := decide_eq_true c7
        clear c7
        have H' := Aside0.mk H
        clear H
        have p443 : 0 ≤ (x5_1 : Int) := od_
        have q443 : x5_1 < (l0.length : Int) := od_
        obtain ⟨ad443,e443,hx443_0,hx443_1⟩ := at_T77 HR0.out x5_1 p443 q443
        cases e443
        replace p443 := eq_true p443
        replace q443 := eq_true q443
        have p444 : 0 ≤ (a1 : Int) := od_
        have q444 : a1 < (l0.length : Int) := od_
        obtain ⟨ad444,e444,hx444_0,hx444_1⟩ := at_T77 HR0.out a1 p444 q444
        obtain rfl : ad443 = ad444 := (by injection e444)
        replace p444 := eq_true p444
        replace q444 := eq_true q444
        go_wp2
        repeat (go_quiet (fail);try go_wp2)
        go_roundg k1
        case measure => have := HK1.out;omega
        case rel => exact ⟨(wrap64 (x5_1 + 1)),eb_,H',⟨by have := HK1.out;omega⟩,by repeat (first | exact Drawn0.refl _ | apply Drawn0.step)⟩
       ·rw [if_neg c7] at H
        have c7b0 : decide (((rd_T77 l0 a1).f1) < ((rd_T77 l0 x5_1).f1)) = false := decide_eq_false c7
        clear c7
        obtain rfl := Option.some.inj H
        have p443 : 0 ≤ (x5_1 : Int) := od_
        have q443 : x5_1 < (l0.length : Int) := od_
        obtain ⟨ad443,e443,hx443_0,hx443_1⟩ := at_T77 HR0.out x5_1 p443 q443
        cases e443
        replace p443 := eq_true p443
        replace q443 := eq_true q443
        have p444 : 0 ≤ (a1 : Int) := od_
        have q444 : a1 < (l0.length : Int) := od_
        obtain ⟨ad444,e444,hx444_0,hx444_1⟩ := at_T77 HR0.out a1 p444 q444
        obtain rfl : ad443 = ad444 := (by injection e444)
        replace p444 := eq_true p444
        replace q444 := eq_true q444
        go_wp2
        repeat (go_quiet (fail);try go_wp2)
        go_ret
        exact ⟨by first | rfl | (simp;done) | (simp [*];done),by repeat (first | exact Drawn0.refl _ | apply Drawn0.step)⟩
      ·rw [if_neg c6] at H
       exact absurd H (by simp)
     ·rw [if_neg c5] at H
      exact absurd H (by simp)
    ·rw [if_neg c4] at H
     exact absurd H (by simp)
   ·rw [if_neg c3] at H
    have c3b0 : decide (x5_1 < (l0.length : Int)) = false := decide_eq_false c3
    clear c3
    obtain rfl := Option.some.inj H
    go_wp2
    repeat (go_quiet (fail);try go_wp2)
    go_ret
    exact ⟨by first | rfl | (simp;done) | (simp [*];done),by repeat (first | exact Drawn0.refl _ | apply Drawn0.step)⟩
end Go.Proofs.Ytngphdmbjenkaaa.X
namespace Go.Proofs.Ytngphdmbjenkaaa.X
open Go.RowKit Go.Proofs.YtngphdmbjenkaaaW.PrintWords Go.Proofs.YtngphdmbjenkaaaW.PrintLast Go.Proofs.YtngphdmbjenkaaaW.PrintMore
attribute [local go_sem] max2_int min2_int max_two min_two max_three min_three max_four min_four   -- for this text's walks alone
set_option linter.unusedVariables false
set_option linter.unusedSimpArgs false
def spec_l3At.f (k : Nat) (l0 : List (S77)) (a1 : Int) : Option (Bool) := (spec_TreeOk.f k l0).bind fun t601 => (if t601 = true then ((spec_l1In.f a1 0 (wrap64 ((l0.length : Int) - 1))).bind fun t602 => (some t602)) else (some false))
theorem spec_l3At.mono : ∀ a0 a1 k,LeO (spec_l3At.f k a0 a1) (spec_l3At.f (k + 1) a0 a1) := by
 intro a0 a1 k
 unfold spec_l3At.f
 repeat' first
   | (with_reducible exact spec_TreeOk.mono _ _)
   | (with_reducible exact LeO.refl _)
   | (with_reducible exact LeO.none _)
   | (with_reducible refine LeO.ite ?_ ?_)
   | (with_reducible refine LeO.bind ?_ (fun _ => ?_))
   | exact spec_TreeOk.mono _ _
   | exact LeO.none _
   | refine LeO.ite ?_ ?_
   | refine LeO.bind ?_ (fun _ => ?_)
set_option maxHeartbeats 8000000 in
set_option maxRecDepth 100000 in
theorem spec_l3At.calls (k : Nat) (A0 : Option Addr) (c0 : Nat) (l0 : List (S77)) (a1 : Int) (r : Bool) (w : World) (hr0 : Kd.C k77 w A0 l0.length l0) (hc0 : l0.length ≤ c0) (h : spec_l3At.f k l0 a1 = some r) :
  Calls Try.prog 70 #[.slice A0 l0.length c0,.int .i64 a1] w fun e w' => e = .returned (.bool r) ∧ Below w.heap.size w w' := by
 have HR0 := Aside0.mk hr0
 have HC0 := Aside0.mk hc0
 clear hr0 hc0
 have HB := Aside0.mk (Below.refl w.heap.size w)
 have H : ((spec_TreeOk.f k l0).bind fun t601 => (if t601 = true then ((spec_l1In.f a1 0 (wrap64 ((l0.length : Int) - 1))).bind fun t602 => (some t602)) else (some false))) = some r := h
 clear h
 replace H := Option.bind_eq_some_iff.mp H
 obtain ⟨t601,A30,H⟩ := H
 try dsimp only at H
 have A3 := Aside0.mk A30
 clear A30
 by_cases c4 : t601 = true
 ·subst c4
  have H1 : ((spec_l1In.f a1 0 (wrap64 ((l0.length : Int) - 1))).bind fun t602 => (some t602)) = some r := by rw [if_pos rfl] at H;exact H
  clear H
  have H := H1
  clear H1
  replace H := Option.bind_eq_some_iff.mp H
  obtain ⟨t602,A50,H⟩ := H
  replace H : (some t602) = some r := H
  have A5 := Aside0.mk A50
  clear A50
  obtain rfl := Option.some.inj H
  go_enter Try.func70,Try.ntmps70
  go_wp2_with (first | ((with_reducible refine gate_callee (f := 16) rfl ?_);refine gL_ (some 6) Try.func16 #[.slice A0 l0.length c0] ?_;(with_reducible refine (spec_TreeOk.calls k _ _ l0 true _ (cc_ HR0.out) HC0.out A3.out).mono ?_);rintro e w6 ⟨rfl,hb⟩;refine ⟨_,rfl,?_⟩;replace HB := tB_ HB hb;(try clear hb)) | (go_at_call 62;(with_reducible refine (spec_l1In.calls a1 0 (wrap64 ((l0.length : Int) - 1)) t602 _ A5.out).mono ?_);rintro e w' ⟨rfl,⟨nd,rfl⟩⟩))
  go_ret
  exact ⟨ea_,(bl_ HB).out⟩
 ·replace c4 := Bool.eq_false_iff.mpr c4
  subst c4
  have H1 : (some false) = some r := by rw [if_neg (show ¬ (false = true) by decide)] at H;exact H
  clear H
  have H := H1
  clear H1
  obtain rfl := Option.some.inj H
  go_enter Try.func70,Try.ntmps70
  go_wp2_with (first | ((with_reducible refine gate_callee (f := 16) rfl ?_);refine gL_ (some 6) Try.func16 #[.slice A0 l0.length c0] ?_;(with_reducible refine (spec_TreeOk.calls k _ _ l0 false _ (cc_ HR0.out) HC0.out A3.out).mono ?_);rintro e w7 ⟨rfl,hb⟩;refine ⟨_,rfl,?_⟩;replace HB := tB_ HB hb;(try clear hb)))
  go_ret
  exact ⟨ea_,(bl_ HB).out⟩
end Go.Proofs.Ytngphdmbjenkaaa.X
namespace Go.Proofs.Ytngphdmbjenkaaa.X
open Go.RowKit Go.Proofs.YtngphdmbjenkaaaW.PrintWords Go.Proofs.YtngphdmbjenkaaaW.PrintLast Go.Proofs.YtngphdmbjenkaaaW.PrintMore
attribute [local go_sem] max2_int min2_int max_two min_two max_three min_three max_four min_four   -- for this text's walks alone
set_option linter.unusedVariables false
set_option linter.unusedSimpArgs false
def spec_EndOf.l0 : Nat → List (S77) → Int → Int → Option (Int)
 | 0,_,_,_ => none
 | k + 1,x0,x1,x5 => if x5 < (x0.length : Int) then (if 0 ≤ x5 then (if 0 ≤ x1 then (if x1 < (x0.length : Int) then (if ((rd_T77 x0 x5).f1) > ((rd_T77 x0 x1).f1) then (spec_EndOf.l0 k x0 x1 (wrap64 (x5 + 1))) else (some x5)) else (none)) else (none)) else (none)) else (some x5)
def spec_EndOf.f (k : Nat) (l0 : List (S77)) (a1 : Int) : Option (Int) := (spec_l3At.f k l0 a1).bind fun t603 => (if t603 = true then (spec_EndOf.l0 k l0 a1 (wrap64 (a1 + 1))) else (some (-1)))
theorem spec_EndOf.mono_l : ∀ k,(∀ y0 y1 y2,LeO (spec_EndOf.l0 k y0 y1 y2) (spec_EndOf.l0 (k + 1) y0 y1 y2))
 | 0 => fun _ _ _ r h => by simp [spec_EndOf.l0] at h
 | k + 1 => by
  have ih0 := spec_EndOf.mono_l k
  ·intro y0 y1 y2
   unfold spec_EndOf.l0
   repeat' first
   | (with_reducible exact ih0 _ _ _)
   | (with_reducible exact spec_l3At.mono _ _ _)
   | (with_reducible exact LeO.refl _)
   | (with_reducible exact LeO.none _)
   | (with_reducible refine LeO.ite ?_ ?_)
   | (with_reducible refine LeO.bind ?_ (fun _ => ?_))
   | exact ih0 _ _ _
   | exact spec_l3At.mono _ _ _
   | exact LeO.none _
   | refine LeO.ite ?_ ?_
   | refine LeO.bind ?_ (fun _ => ?_)
theorem spec_EndOf.mono : ∀ a0 a1 k,LeO (spec_EndOf.f k a0 a1) (spec_EndOf.f (k + 1) a0 a1) := by
 intro a0 a1 k
 have ih0 := spec_EndOf.mono_l k
 unfold spec_EndOf.f
 repeat' first
   | (with_reducible exact ih0 _ _ _)
   | (with_reducible exact spec_l3At.mono _ _ _)
   | (with_reducible exact LeO.refl _)
   | (with_reducible exact LeO.none _)
   | (with_reducible refine LeO.ite ?_ ?_)
   | (with_reducible refine LeO.bind ?_ (fun _ => ?_))
   | exact ih0 _ _ _
   | exact spec_l3At.mono _ _ _
   | exact LeO.none _
   | refine LeO.ite ?_ ?_
   | refine LeO.bind ?_ (fun _ => ?_)
set_option maxHeartbeats 8000000 in
set_option maxRecDepth 100000 in
theorem spec_EndOf.calls (k : Nat) (A0 : Option Addr) (c0 : Nat) (l0 : List (S77)) (a1 : Int) (r : Int) (w : World) (hr0 : Kd.C k77 w A0 l0.length l0) (hc0 : l0.length ≤ c0) (h : spec_EndOf.f k l0 a1 = some r) :
  Calls Try.prog 91 #[.slice A0 l0.length c0,.int .i64 a1] w fun e w' => e = .returned (.int .i64 r) ∧ Below w.heap.size w w' := by
 have HR0 := Aside0.mk hr0
 have HC0 := Aside0.mk hc0
 clear hr0 hc0
 have HB := Aside0.mk (Below.refl w.heap.size w)
 have H : ((spec_l3At.f k l0 a1).bind fun t603 => (if t603 = true then (spec_EndOf.l0 k l0 a1 (wrap64 (a1 + 1))) else (some (-1)))) = some r := h
 clear h
 replace H := Option.bind_eq_some_iff.mp H
 obtain ⟨t603,A30,H⟩ := H
 replace H : (if t603 = true then (spec_EndOf.l0 k l0 a1 (wrap64 (a1 + 1))) else (some (-1))) = some r := H
 have A3 := Aside0.mk A30
 clear A30
 by_cases c4 : t603 = true
 ·subst c4
  have H1 : (spec_EndOf.l0 k l0 a1 (wrap64 (a1 + 1))) = some r := by rw [if_pos rfl] at H;exact H
  clear H
  have H := H1
  clear H1
  have H' := Aside0.mk H
  clear H
  go_enter Try.func91,Try.ntmps91
  go_wp2_with (first | (go_at_call 70;(with_reducible refine (spec_l3At.calls k _ _ l0 a1 true _ (cc_ HR0.out) HC0.out A3.out).mono ?_);rintro e w5 ⟨rfl,hb⟩;replace HB := tB_ HB hb;(try clear hb)))
  repeat (go_quiet (first | (go_at_call 70;(with_reducible refine (spec_l3At.calls k _ _ l0 a1 true _ (cc_ HR0.out) HC0.out A3.out).mono ?_);rintro e w5 ⟨rfl,hb⟩;replace HB := tB_ HB hb;(try clear hb)));try go_wp2_with (first | (go_at_call 70;(with_reducible refine (spec_l3At.calls k _ _ l0 a1 true _ (cc_ HR0.out) HC0.out A3.out).mono ?_);rintro e w5 ⟨rfl,hb⟩;replace HB := tB_ HB hb;(try clear hb))))
  go_loopg [5] k (fun kq v5 w' => ∃ (x5_1 : Int),v5 = .int .i64 x5_1 ∧ Aside0 (spec_EndOf.l0 kq l0 a1 x5_1 = some r) ∧ Aside0 (kq ≤ k) ∧ Aside0 (Below w.heap.size w w'))
  case atStart => exact ⟨(wrap64 (a1 + 1)),eb_,H',⟨Nat.le_refl _⟩,bl_ HB⟩
  case round =>
   clear H'
   try clear p2
   try clear c4
   obtain ⟨x5_1,rfl,HA,HK1,HB⟩ := hrel
   cases gk with
   | zero => exact absurd HA.out (by simp [spec_EndOf.l0])
   | succ k1 =>
    have H := HA.out
    clear HA
    simp only [spec_EndOf.l0] at H
    by_cases c6 : x5_1 < (l0.length : Int)
    ·rw [if_pos c6] at H
     have c6b0 : decide (x5_1 < (l0.length : Int)) = true := decide_eq_true c6
     clear c6
     by_cases c7 : 0 ≤ x5_1
     ·rw [if_pos c7] at H
      have c7b0 : decide (0 ≤ x5_1) = true := decide_eq_true c7
      clear c7
      by_cases c8 : 0 ≤ a1
      ·rw [if_pos c8] at H
       have c8b0 : decide (0 ≤ a1) = true := decide_eq_true c8
       clear c8
       by_cases c9 : a1 < (l0.length : Int)
       ·rw [if_pos c9] at H
        have c9b0 : decide (a1 < (l0.length : Int)) = true := decide_eq_true c9
        clear c9
        by_cases c10 : ((rd_T77 l0 x5_1).f1) > ((rd_T77 l0 a1).f1)
        ·rw [if_pos c10] at H
         have c10b0 : decide (((rd_T77 l0 a1).f1) < ((rd_T77 l0 x5_1).f1)) = true := decide_eq_true c10
         clear c10
         have H' := Aside0.mk H
         clear H
         have p604 : 0 ≤ (x5_1 : Int) := od_
         have q604 : x5_1 < (l0.length : Int) := od_
         obtain ⟨ad604,e604,hx604_0,hx604_1⟩ := at_T77 HR0.out x5_1 p604 q604
         cases e604
         replace hx604_0 := ce_ HB hx604_0
         replace hx604_1 := ce_ HB hx604_1
         replace p604 := eq_true p604
         replace q604 := eq_true q604
         have p605 : 0 ≤ (a1 : Int) := od_
         have q605 : a1 < (l0.length : Int) := od_
         obtain ⟨ad605,e605,hx605_0,hx605_1⟩ := at_T77 HR0.out a1 p605 q605
         obtain rfl : ad604 = ad605 := (by injection e605)
         replace hx605_0 := ce_ HB hx605_0
         replace hx605_1 := ce_ HB hx605_1
         replace p605 := eq_true p605
         replace q605 := eq_true q605
         go_wp2
         repeat (go_quiet (fail);try go_wp2)
         go_roundg k1
         case measure => have := HK1.out;omega
         case rel => exact ⟨(wrap64 (x5_1 + 1)),eb_,H',⟨by have := HK1.out;omega⟩,bl_ HB⟩
        ·rw [if_neg c10] at H
         have c10b0 : decide (((rd_T77 l0 a1).f1) < ((rd_T77 l0 x5_1).f1)) = false := decide_eq_false c10
         clear c10
         obtain rfl := Option.some.inj H
         have p604 : 0 ≤ (x5_1 : Int) := od_
         have q604 : x5_1 < (l0.length : Int) := od_
         obtain ⟨ad604,e604,hx604_0,hx604_1⟩ := at_T77 HR0.out x5_1 p604 q604
         cases e604
         replace hx604_0 := ce_ HB hx604_0
         replace hx604_1 := ce_ HB hx604_1
         replace p604 := eq_true p604
         replace q604 := eq_true q604
         have p605 : 0 ≤ (a1 : Int) := od_
         have q605 : a1 < (l0.length : Int) := od_
         obtain ⟨ad605,e605,hx605_0,hx605_1⟩ := at_T77 HR0.out a1 p605 q605
         obtain rfl : ad604 = ad605 := (by injection e605)
         replace hx605_0 := ce_ HB hx605_0
         replace hx605_1 := ce_ HB hx605_1
         replace p605 := eq_true p605
         replace q605 := eq_true q605
         go_wp2
         repeat (go_quiet (fail);try go_wp2)
         go_ret
         exact ⟨ea_,(bl_ HB).out⟩
       ·rw [if_neg c9] at H
        exact absurd H (by simp)
      ·rw [if_neg c8] at H
       exact absurd H (by simp)
     ·rw [if_neg c7] at H
      exact absurd H (by simp)
    ·rw [if_neg c6] at H
     have c6b0 : decide (x5_1 < (l0.length : Int)) = false := decide_eq_false c6
     clear c6
     obtain rfl := Option.some.inj H
     go_wp2
     repeat (go_quiet (fail);try go_wp2)
     go_ret
     exact ⟨ea_,(bl_ HB).out⟩
 ·replace c4 := Bool.eq_false_iff.mpr c4
  subst c4
  have H1 : (some (-1)) = some r := by rw [if_neg (show ¬ (false = true) by decide)] at H;exact H
  clear H
  have H := H1
  clear H1
  obtain rfl := Option.some.inj H
  go_enter Try.func91,Try.ntmps91
  go_wp2_with (first | (go_at_call 70;(with_reducible refine (spec_l3At.calls k _ _ l0 a1 false _ (cc_ HR0.out) HC0.out A3.out).mono ?_);rintro e w11 ⟨rfl,hb⟩;replace HB := tB_ HB hb;(try clear hb)))
  repeat (go_quiet (first | (go_at_call 70;(with_reducible refine (spec_l3At.calls k _ _ l0 a1 false _ (cc_ HR0.out) HC0.out A3.out).mono ?_);rintro e w11 ⟨rfl,hb⟩;replace HB := tB_ HB hb;(try clear hb)));try go_wp2_with (first | (go_at_call 70;(with_reducible refine (spec_l3At.calls k _ _ l0 a1 false _ (cc_ HR0.out) HC0.out A3.out).mono ?_);rintro e w11 ⟨rfl,hb⟩;replace HB := tB_ HB hb;(try clear hb))))
  go_ret
  exact ⟨ea_,(bl_ HB).out⟩
end Go.Proofs.Ytngphdmbjenkaaa.X
namespace Go.Proofs.Ytngphdmbjenkaaa.X
open Go.RowKit Go.Proofs.YtngphdmbjenkaaaW.PrintWords Go.Proofs.YtngphdmbjenkaaaW.PrintLast Go.Proofs.YtngphdmbjenkaaaW.PrintMore
attribute [local go_sem] max2_int min2_int max_two min_two max_three min_three max_four min_four   -- for this text's walks alone
set_option linter.unusedVariables false
set_option linter.unusedSimpArgs false
def spec_l3Copy.f (l0 : List (S77)) : Option ((List (S77))) := (some (([] : List (S77)) : List (S77))).bind fun y223 => (if y223.length + l0.length < 8796093022208 then (some (y223 ++ l0)) else (none))
set_option maxHeartbeats 8000000 in
set_option maxRecDepth 100000 in
theorem spec_l3Copy.calls (A0 : Option Addr) (c0 : Nat) (l0 : List (S77)) (r : List (S77)) (w : World) (hr0 : Kd.C k77 w A0 l0.length l0) (hc0 : l0.length ≤ c0) (h : spec_l3Copy.f l0 = some r) :
  Calls Try.prog 89 #[.slice A0 l0.length c0] w fun e w' => ∃ v0_ : Value,e = .returned (v0_) ∧ Kd.R k77 77 w' w.heap.size (fun _ => True) v0_ r ∧ Below w.heap.size w w' := by
 have HR0 := Aside0.mk hr0
 have HC0 := Aside0.mk hc0
 clear hr0 hc0
 have HB := Aside0.mk (Below.refl w.heap.size w)
 have H : ((some (([] : List (S77)) : List (S77))).bind fun y223 => (if y223.length + l0.length < 8796093022208 then (some (y223 ++ l0)) else (none))) = some r := h
 clear h
 obtain ⟨y223,hy223⟩ : ∃ y_ : List (S77),y_ = (([] : List (S77))) := ⟨_,rfl⟩
 replace H : (if y223.length + l0.length < 8796093022208 then (some (y223 ++ l0)) else (none)) = some r := by first | (rw [hy223];with_reducible exact H) | (have H2_ := (Option.bind_some _ _).symm.trans H;rw [hy223];with_reducible exact H2_) | (have H2_ := (Option.bind_some _ _).symm.trans H;with_reducible exact H2_) | with_reducible exact H | (rw [hy223];exact H) | exact H
 have Ny223 := Aside0.mk hy223
 clear hy223
 by_cases c2 : y223.length + l0.length < 8796093022208
 ·rw [if_pos c2] at H
  have LMc2 := Aside0.mk c2
  clear c2
  obtain ⟨y226,hy226⟩ : ∃ y_ : List (S77),y_ = (y223 ++ l0) := ⟨_,rfl⟩
  replace H : (some y226) = some r := by first | (rw [hy226];with_reducible exact H) | (have H2_ := (Option.bind_some _ _).symm.trans H;rw [hy226];with_reducible exact H2_) | (have H2_ := (Option.bind_some _ _).symm.trans H;with_reducible exact H2_) | with_reducible exact H | (rw [hy226];exact H) | exact H
  have Ny226 := Aside0.mk hy226
  clear hy226
  obtain rfl := Option.some.inj H
  go_enter Try.func89,Try.ntmps89
  go_wp2_with (first | ((with_reducible refine gate_dst (N := 3) rfl ?_);refine Kd.R_lit k77 _ 77 ?hg (N := 3) ?hd (xs := ([] : List (S77))) (inner := []) (ok := fun _ => True) (okp := fun _ => True) ?hr ?hp (fun _ hk => hk) trivial (Below.refl _ _) (Nat.le_refl _) (by simp) ?_;(case hd => rfl);(case hg => rfl);(case hr => first | (go_simp;done) | (go_simp;rfl));(case hp => exact (Reps.none _ _));intro v224 w3 ho4 hb hg_ hnew_;clear hg_ hnew_;(first | rw [← Ny223.out] at ho4 | (simp only [Int.reduceToNat] at ho4;rw [← Ny223.out] at ho4));have HO225 := Aside0.mk (Kd.R_lower ho4 (bs_ HB));replace HB := tB_ HB hb;clear hb ho4) | ((with_reducible refine gate_builtin (b := .append) (xs := #[.tmp 3,.tmp 4]) rfl ?_);at_builtin;refine Kd.R_append_rows k77 (w0 := w) w.heap.size rfl (.tmp 3) (.tmp 4) 24 77 (.agg #[(.int .i64 0),(.int .i64 0)]) 16 rfl Try.underlying24 info77 rfl (by decide) (by omega) v224 y223 l0 _ _ _ (fun _ => True) (fun _ => False) rfl rfl ?aO ?aR (fun _ _ h => h) (fun _ h => h.elim) ?aF ?aB ?aS ?aL ?_;(case aR => exact cx_ HR0 HB);(case aB => exact ((bl_ HB).out));(case aF => exact (fun _ _ => trivial));(case aO => exact (rx_ HO225.out));(case aS => exact (bs_ HB));(case aL => have := LMc2.out;omega);intro v227 w5 ho hb hg hat;rw [← Ny226.out] at ho;replace HB := Aside0.mk (hb);have HO228 := Aside0.mk (ho);clear HO225;clear ho hb hg hat))
  go_ret
  exact ⟨_,ea_,rx_ HO228.out,(bl_ HB).out⟩
 ·rw [if_neg c2] at H
  exact absurd H (by simp)
end Go.Proofs.Ytngphdmbjenkaaa.X
namespace Go.Proofs.Ytngphdmbjenkaaa.X
open Go.RowKit Go.Proofs.YtngphdmbjenkaaaW.PrintWords Go.Proofs.YtngphdmbjenkaaaW.PrintLast Go.Proofs.YtngphdmbjenkaaaW.PrintMore
attribute [local go_sem] max2_int min2_int max_two min_two max_three min_three max_four min_four   -- for this text's walks alone
set_option linter.unusedVariables false
set_option linter.unusedSimpArgs false
def laws_big.f (l0 : List Int) : Option (Bool) := some (decide ((l0.length : Int) > 1048576))
set_option maxHeartbeats 8000000 in
set_option maxRecDepth 100000 in
theorem laws_big.calls (A0 : Option Addr) (c0 : Nat) (l0 : List Int) (r : Bool) (w : World) (hr0 : Kd.C (Kd.int .u8) w A0 l0.length l0) (hc0 : l0.length ≤ c0) (h : laws_big.f l0 = some r) :
  Calls Try.prog 12 #[.slice A0 l0.length c0] w fun e w' => e = .returned (.bool r) ∧ Drawn0 w w' := by
 have HR0 := Aside0.mk hr0
 have HC0 := Aside0.mk hc0
 clear hr0 hc0
 have H : (some (decide ((l0.length : Int) > 1048576))) = some r := h
 clear h
 obtain rfl := Option.some.inj H
 go_enter Try.func12,Try.ntmps12
 go_wp2
 go_ret
 exact ⟨by first | rfl | (simp;done) | (simp [*];done),by repeat (first | exact Drawn0.refl _ | apply Drawn0.step)⟩
end Go.Proofs.Ytngphdmbjenkaaa.X
namespace Go.Proofs.Ytngphdmbjenkaaa.X
open Go.RowKit Go.Proofs.YtngphdmbjenkaaaW.PrintWords Go.Proofs.YtngphdmbjenkaaaW.PrintLast Go.Proofs.YtngphdmbjenkaaaW.PrintMore
set_option linter.unusedVariables false
set_option linter.unusedSimpArgs false
def PredB {α : Type} (P : Program) (g : Nat) (lb : Array Value) (enc : α → Value) (p : α → Bool) (w : World) : Prop :=
 ∀ (W : World),Below w.heap.size w W → ∀ x,Calls P g (#[enc x] ++ lb) W fun e w' => e = .returned (.bool (p x)) ∧ Below W.heap.size W w'
set_option maxHeartbeats 2000000 in
theorem indexFunc_int (g : Nat) (lb : Array Value) (p : Int → Bool) (eg : ∀ args w,(callFunc g args).run Try.prog w = .ok (.enter g args) w)
  (A0 : Option Addr) (c0 : Nat) (l0 : List Int) (w : World) (hp : PredB Try.prog g lb (Value.int .i64) p w) (hr0 : Kd.C (Kd.int .i64) w A0 l0.length l0) (hc0 : l0.length ≤ c0) :
  Calls Try.prog 160 #[.slice A0 l0.length c0,.func (.func g) #[] lb] w fun e w' => ∃ n : Int,e = .returned (.int .i64 n) ∧ Aside0 (decide (0 ≤ n) = l0.any p) ∧ Below w.heap.size w w' := by
 have HR0 := Aside0.mk hr0
 have HP := Aside0.mk hp
 have hm := hr0.2.1
 clear hr0 hc0 hp
 go_enter Try.func160,Try.ntmps160
 go_wp2
 go_loopg [5,8] l0.length (fun gg _ s8 wr => ∃ kk : Nat,kk ≤ l0.length ∧ l0.length - kk ≤ gg ∧ s8 = .int .i64 kk ∧ Aside0 ((l0.take kk).any p = false) ∧ Aside0 (Below w.heap.size w wr))
 case atStart => exact ⟨0,Nat.zero_le _,by omega,rfl,⟨by simp⟩,⟨Below.refl _ _⟩⟩
 case round =>
  obtain ⟨kk,hkk,hg,rfl,AN,HB⟩ := hrel
  by_cases hlt : kk < l0.length
  ·have hcl := HP.out wr HB.out (rd l0 kk)
   have HC := Aside0.mk hcl
   clear hcl
   obtain ⟨ad,e,hx⟩ := Kd.at_int (Kd.C_below HR0.out HB.out) kk (by omega) (by omega)
   cases e
   have hany : (l0.take (kk + 1)).any p = ((l0.take kk).any p || p (rd l0 kk)) := by
    rw [List.take_succ_eq_append_getElem hlt,List.any_append]
    simp [rd,List.getD_eq_getElem?_getD,List.getElem?_eq_getElem hlt]
   have HN := Aside0.mk hany
   clear hany
   have hltz : (kk : Int) < (l0.length : Int) := by omega
   rw [Int.toNat_natCast] at hx
   cases hq : p (rd l0 kk) with
   | true =>
    have HQ := Aside0.mk hq
    clear hq
    go_wp2_with fail
    refine HC.out.mono ?_
    rintro e w' ⟨rfl,hb⟩
    have HBB := Aside0.mk (HB.out.trans (hb.mono (below_size HB.out)))
    clear hb
    rw [HQ.out]
    go_wp2
    go_ret
    refine ⟨_,rfl,⟨?_⟩,HBB.out⟩
    have h1 := HN.out
    rw [HQ.out,Bool.or_true] at h1
    rw [← List.take_append_drop (kk + 1) l0,List.any_append,h1]
    simp
   | false =>
    have HQ := Aside0.mk hq
    clear hq
    go_wp2_with fail
    refine HC.out.mono ?_
    rintro e w' ⟨rfl,hb⟩
    have HBB := Aside0.mk (HB.out.trans (hb.mono (below_size HB.out)))
    clear hb
    rw [HQ.out]
    go_wp2
    go_roundg (l0.length - (kk + 1))
    case measure => omega
    case rel => exact ⟨kk + 1,by omega,by omega,by go_num,⟨by rw [HN.out,AN.out,HQ.out];rfl⟩,HBB⟩
  ·have hltz : ¬ (kk : Int) < (l0.length : Int) := by omega
   have e : kk = l0.length := by omega
   have AN2 : Aside0 (l0.any p = false) := ⟨by have := AN.out;rw [e,List.take_length] at this;exact this⟩
   clear AN e
   go_wp2
   go_ret
   exact ⟨-1,rfl,⟨by rw [AN2.out];decide⟩,HB.out⟩
set_option maxHeartbeats 2000000 in
theorem containsFunc_int (g : Nat) (lb : Array Value) (p : Int → Bool) (eg : ∀ args w,(callFunc g args).run Try.prog w = .ok (.enter g args) w)
  (A0 : Option Addr) (c0 : Nat) (l0 : List Int) (w : World) (hp : PredB Try.prog g lb (Value.int .i64) p w) (hr0 : Kd.C (Kd.int .i64) w A0 l0.length l0) (hc0 : l0.length ≤ c0) :
  Calls Try.prog 146 #[.slice A0 l0.length c0,.func (.func g) #[] lb] w fun e w' => e = .returned (.bool (l0.any p)) ∧ Below w.heap.size w w' := by
 have HX := Aside0.mk (indexFunc_int g lb p eg A0 c0 l0 w hp hr0 hc0)
 clear hr0 hc0 hp
 go_enter Try.func146,Try.ntmps146
 go_wp2_with (go_at_call 160;refine HX.out.mono ?_;rintro e w' ⟨n,rfl,hn,HB⟩)
 go_ret
 exact ⟨by rw [← hn.out];rfl,HB⟩
end Go.Proofs.Ytngphdmbjenkaaa.X
namespace Go.Proofs.Ytngphdmbjenkaaa.X
open Go.RowKit Go.Proofs.YtngphdmbjenkaaaW.PrintWords Go.Proofs.YtngphdmbjenkaaaW.PrintLast Go.Proofs.YtngphdmbjenkaaaW.PrintMore
set_option linter.unusedVariables false
set_option linter.unusedSimpArgs false
def outP (hi : Int) (x : Int) : Bool := !(decide (0 ≤ x ∧ x ≤ hi))
theorem within_out (x hi : Int) : impl_within.f x 0 hi = some (!outP hi x) := by
 unfold impl_within.f outP
 by_cases h : 0 ≤ x
 ·rw [if_pos h];simp [h]
 ·rw [if_neg h];simp [h]
end Go.Proofs.Ytngphdmbjenkaaa.X
namespace Go.Proofs.Ytngphdmbjenkaaa.X
open Go.RowKit Go.Proofs.YtngphdmbjenkaaaW.PrintWords Go.Proofs.YtngphdmbjenkaaaW.PrintLast Go.Proofs.YtngphdmbjenkaaaW.PrintMore
set_option linter.unusedVariables false
set_option linter.unusedSimpArgs false
theorem pricesLit (x : Int) (W : World) : Calls Try.prog 147 #[.int .i64 x] W fun e w' => e = .returned (.bool (outP 1000 x)) ∧ Below W.heap.size W w' := by
 have H := Aside0.mk (impl_within.calls x 0 1000 _ W (within_out x 1000))
 generalize hb : outP 1000 x = b at H
 clear hb
 go_enter Try.func147,Try.ntmps147
 go_wp2_with (go_at_call 93;refine H.out.mono ?_;rintro e w' ⟨rfl,⟨n,rfl⟩⟩)
 go_ret
 exact ⟨by simp,pw_below_drewN (Below.refl _ _) _⟩
def impl_pricesOk.f (l0 : List Int) (a1 : Int) : Option Bool := some (decide ((l0.length : Int) = a1) && !(l0.any (outP 1000)))
set_option maxHeartbeats 2000000 in
theorem impl_pricesOk.calls (A0 : Option Addr) (c0 : Nat) (l0 : List Int) (a1 : Int) (r : Bool) (w : World) (hr0 : Kd.C (Kd.int .i64) w A0 l0.length l0) (hc0 : l0.length ≤ c0) (h : impl_pricesOk.f l0 a1 = some r) :
  Calls Try.prog 119 #[.slice A0 l0.length c0,.int .i64 a1] w fun e w' => e = .returned (.bool r) ∧ Below w.heap.size w w' := by
 obtain rfl := Option.some.inj h
 clear h
 have HX := Aside0.mk (containsFunc_int 147 #[] (outP 1000) (fun args w => enters_ Try.func147 (by kernel_rfl) rfl args w) A0 c0 l0 w (fun W _ x => pricesLit x W) hr0 hc0)
 clear hr0 hc0
 by_cases c : (l0.length : Int) = a1
 ·have c1 : ((l0.length : Int) == a1) = true := by simpa using c
  have C := Aside0.mk c
  clear c
  go_enter Try.func119,Try.ntmps119
  go_wp2_with (go_at_call 146;refine HX.out.mono ?_;rintro e w' ⟨rfl,HB⟩)
  go_ret
  exact ⟨by simp [C.out],HB⟩
 ·have c1 : ((l0.length : Int) == a1) = false := by simpa using c
  have C := Aside0.mk c
  clear c
  go_enter Try.func119,Try.ntmps119
  go_wp2
  go_ret
  exact ⟨by simp [C.out],Below.refl _ _⟩
end Go.Proofs.Ytngphdmbjenkaaa.X
namespace Go.Proofs.Ytngphdmbjenkaaa.X
open Go.RowKit Go.Proofs.YtngphdmbjenkaaaW.PrintWords Go.Proofs.YtngphdmbjenkaaaW.PrintLast Go.Proofs.YtngphdmbjenkaaaW.PrintMore
attribute [local go_sem] max2_int min2_int max_two min_two max_three min_three max_four min_four   -- for this text's walks alone
set_option linter.unusedVariables false
set_option linter.unusedSimpArgs false
def spec_l7In.l0 : Nat → List Int → Int → Int → Option (Bool)
 | 0,_,_,_ => none
 | k + 1,x0,x1,x5 => if x5 < (x0.length : Int) then (if 0 ≤ x5 then ((spec_l1In.f (rd x0 x5) 0 1000).bind fun t522 => (if t522 = true then (spec_l7In.l0 k x0 x1 (wrap64 (x5 + 1))) else (some false))) else (none)) else (some ((x0.length : Int) == x1))
def spec_l7In.f (k : Nat) (l0 : List Int) (a1 : Int) : Option (Bool) := spec_l7In.l0 k l0 a1 0
theorem spec_l7In.mono_l : ∀ k,(∀ y0 y1 y2,LeO (spec_l7In.l0 k y0 y1 y2) (spec_l7In.l0 (k + 1) y0 y1 y2))
 | 0 => fun _ _ _ r h => by simp [spec_l7In.l0] at h
 | k + 1 => by
  have ih0 := spec_l7In.mono_l k
  ·intro y0 y1 y2
   unfold spec_l7In.l0
   repeat' first
   | (with_reducible exact ih0 _ _ _)
   | (with_reducible exact LeO.refl _)
   | (with_reducible exact LeO.none _)
   | (with_reducible refine LeO.ite ?_ ?_)
   | (with_reducible refine LeO.bind ?_ (fun _ => ?_))
   | exact ih0 _ _ _
   | exact LeO.none _
   | refine LeO.ite ?_ ?_
   | refine LeO.bind ?_ (fun _ => ?_)
theorem spec_l7In.mono : ∀ a0 a1 k,LeO (spec_l7In.f k a0 a1) (spec_l7In.f (k + 1) a0 a1) := by
 intro a0 a1 k
 have ih0 := spec_l7In.mono_l k
 unfold spec_l7In.f
 repeat' first
   | (with_reducible exact ih0 _ _ _)
   | (with_reducible exact LeO.refl _)
   | (with_reducible exact LeO.none _)
   | (with_reducible refine LeO.ite ?_ ?_)
   | (with_reducible refine LeO.bind ?_ (fun _ => ?_))
   | exact ih0 _ _ _
   | exact LeO.none _
   | refine LeO.ite ?_ ?_
   | refine LeO.bind ?_ (fun _ => ?_)
set_option maxHeartbeats 8000000 in
set_option maxRecDepth 100000 in
theorem spec_l7In.calls (k : Nat) (A0 : Option Addr) (c0 : Nat) (l0 : List Int) (a1 : Int) (r : Bool) (w : World) (hr0 : Kd.C (Kd.int .i64) w A0 l0.length l0) (hc0 : l0.length ≤ c0) (h : spec_l7In.f k l0 a1 = some r) :
  Calls Try.prog 63 #[.slice A0 l0.length c0,.int .i64 a1] w fun e w' => e = .returned (.bool r) ∧ Drawn0 w w' := by
 have HR0 := Aside0.mk hr0
 have HC0 := Aside0.mk hc0
 clear hr0 hc0
 have H : (spec_l7In.l0 k l0 a1 0) = some r := h
 clear h
 have H' := Aside0.mk H
 clear H
 go_enter Try.func63,Try.ntmps63
 go_wp2
 go_loopg [5] k (fun kq v5 w' => ∃ (x5_1 : Int),v5 = .int .i64 x5_1 ∧ Aside0 (spec_l7In.l0 kq l0 a1 x5_1 = some r) ∧ Aside0 (kq ≤ k) ∧ Drawn0 w w')
 case atStart => exact ⟨(0),eb_,H',⟨Nat.le_refl _⟩,by repeat (first | exact Drawn0.refl _ | apply Drawn0.step)⟩
 case round =>
  clear H'
  try clear p2
  obtain ⟨x5_1,rfl,HA,HK1,⟨m1,rfl⟩⟩ := hrel
  cases gk with
  | zero => exact absurd HA.out (by simp [spec_l7In.l0])
  | succ k1 =>
   have H := HA.out
   clear HA
   simp only [spec_l7In.l0] at H
   by_cases c3 : x5_1 < (l0.length : Int)
   ·rw [if_pos c3] at H
    have c3b0 : decide (x5_1 < (l0.length : Int)) = true := decide_eq_true c3
    clear c3
    by_cases c4 : 0 ≤ x5_1
    ·rw [if_pos c4] at H
     have c4b0 : decide (0 ≤ x5_1) = true := decide_eq_true c4
     clear c4
     replace H := Option.bind_eq_some_iff.mp H
     obtain ⟨t522,A50,H⟩ := H
     replace H : (if t522 = true then (spec_l7In.l0 k1 l0 a1 (wrap64 (x5_1 + 1))) else (some false)) = some r := H
     have A5 := Aside0.mk A50
     clear A50
     by_cases c6 : t522 = true
     ·subst c6
      have H1 : (spec_l7In.l0 k1 l0 a1 (wrap64 (x5_1 + 1))) = some r := by rw [if_pos rfl] at H;exact H
      clear H
      have H := H1
      clear H1
      have H' := Aside0.mk H
      clear H
      have p521 : 0 ≤ (x5_1 : Int) := od_
      have q521 : x5_1 < (l0.length : Int) := od_
      obtain ⟨ad521,e521,hx521_0⟩ := Kd.at_int HR0.out x5_1 p521 q521
      cases e521
      replace p521 := eq_true p521
      replace q521 := eq_true q521
      go_wp2_with (first | ((with_reducible refine gate_callee (f := 62) rfl ?_);refine gL_ (some 16) Try.func62 #[.int .i64 (rd l0 x5_1),.int .i64 0,.int .i64 1000] ?_;(with_reducible refine (spec_l1In.calls (rd l0 x5_1) 0 1000 true _ A5.out).mono ?_);rintro e w' ⟨rfl,⟨nd,rfl⟩⟩;refine ⟨_,rfl,?_⟩))
      go_roundg k1
      case measure => have := HK1.out;omega
      case rel => exact ⟨(wrap64 (x5_1 + 1)),eb_,H',⟨by have := HK1.out;omega⟩,by repeat (first | exact Drawn0.refl _ | apply Drawn0.step)⟩
     ·replace c6 := Bool.eq_false_iff.mpr c6
      subst c6
      have H1 : (some false) = some r := by rw [if_neg (show ¬ (false = true) by decide)] at H;exact H
      clear H
      have H := H1
      clear H1
      obtain rfl := Option.some.inj H
      have p521 : 0 ≤ (x5_1 : Int) := od_
      have q521 : x5_1 < (l0.length : Int) := od_
      obtain ⟨ad521,e521,hx521_0⟩ := Kd.at_int HR0.out x5_1 p521 q521
      cases e521
      replace p521 := eq_true p521
      replace q521 := eq_true q521
      go_wp2_with (first | ((with_reducible refine gate_callee (f := 62) rfl ?_);refine gL_ (some 16) Try.func62 #[.int .i64 (rd l0 x5_1),.int .i64 0,.int .i64 1000] ?_;(with_reducible refine (spec_l1In.calls (rd l0 x5_1) 0 1000 false _ A5.out).mono ?_);rintro e w' ⟨rfl,⟨nd,rfl⟩⟩;refine ⟨_,rfl,?_⟩))
      go_ret
      exact ⟨by first | rfl | (simp;done) | (simp [*];done),by repeat (first | exact Drawn0.refl _ | apply Drawn0.step)⟩
    ·rw [if_neg c4] at H
     exact absurd H (by simp)
   ·rw [if_neg c3] at H
    have c3b0 : decide (x5_1 < (l0.length : Int)) = false := decide_eq_false c3
    clear c3
    obtain rfl := Option.some.inj H
    go_wp2
    go_ret
    exact ⟨by first | rfl | (simp;done) | (simp [*];done),by repeat (first | exact Drawn0.refl _ | apply Drawn0.step)⟩
end Go.Proofs.Ytngphdmbjenkaaa.X
namespace Go.Proofs.Ytngphdmbjenkaaa.X
open Go.RowKit Go.Proofs.YtngphdmbjenkaaaW.PrintWords Go.Proofs.YtngphdmbjenkaaaW.PrintLast Go.Proofs.YtngphdmbjenkaaaW.PrintMore
attribute [local go_sem] max2_int min2_int max_two min_two max_three min_three max_four min_four   -- for this text's walks alone
set_option linter.unusedVariables false
set_option linter.unusedSimpArgs false
mutual
def spec_CostOk.j0 : Nat → Bool → List Int → List Int → List Int → Option (Bool)
 | 0,_,_,_,_ => none
 | k + 1,x19,x524000,x524001,x524002 => if x19 = true then (some false) else (spec_CostOk.l0 k 0 x524000 x524001 x524002)
def spec_CostOk.l0 : Nat → Int → List Int → List Int → List Int → Option (Bool)
 | 0,_,_,_,_ => none
 | k + 1,x3,x524000,x524001,x524002 => if x3 < 6 then (if 0 ≤ (wrap64 ((wrap64 (x3 * 6)) + x3)) then (if (wrap64 ((wrap64 (x3 * 6)) + x3)) < (x524002.length : Int) then (if (rd x524002 (wrap64 ((wrap64 (x3 * 6)) + x3))) = 0 then (spec_CostOk.l0 k (wrap64 (x3 + 1)) x524000 x524001 x524002) else (some false)) else (none)) else (none)) else (some true)
end
def spec_CostOk.f (k : Nat) (l0_0 : List Int) (l0_1 : List Int) (l0_2 : List Int) : Option (Bool) := (spec_l7In.f k l0_0 6).bind fun t524 => (if t524 = true then ((spec_l7In.f k l0_1 6).bind fun t525 => (if t525 = true then ((spec_l7In.f k l0_2 36).bind fun t526 => (spec_CostOk.j0 k (!t526) l0_0 l0_1 l0_2)) else (spec_CostOk.j0 k true l0_0 l0_1 l0_2))) else (spec_CostOk.j0 k true l0_0 l0_1 l0_2))
theorem spec_CostOk.mono_l : ∀ k,(∀ y0 y1 y2 y3,LeO (spec_CostOk.j0 k y0 y1 y2 y3) (spec_CostOk.j0 (k + 1) y0 y1 y2 y3)) ∧ (∀ y0 y1 y2 y3,LeO (spec_CostOk.l0 k y0 y1 y2 y3) (spec_CostOk.l0 (k + 1) y0 y1 y2 y3))
 | 0 => ⟨fun _ _ _ _ r h => by simp [spec_CostOk.j0] at h,fun _ _ _ _ r h => by simp [spec_CostOk.l0] at h⟩
 | k + 1 => by
  obtain ⟨ih0,ih1⟩ := spec_CostOk.mono_l k
  refine ⟨?_,?_⟩
  ·intro y0 y1 y2 y3
   unfold spec_CostOk.j0
   repeat' first
   | (with_reducible exact ih0 _ _ _ _)
   | (with_reducible exact ih1 _ _ _ _)
   | (with_reducible exact spec_l7In.mono _ _ _)
   | (with_reducible exact LeO.refl _)
   | (with_reducible exact LeO.none _)
   | (with_reducible refine LeO.ite ?_ ?_)
   | (with_reducible refine LeO.bind ?_ (fun _ => ?_))
   | exact ih0 _ _ _ _
   | exact ih1 _ _ _ _
   | exact spec_l7In.mono _ _ _
   | exact LeO.none _
   | refine LeO.ite ?_ ?_
   | refine LeO.bind ?_ (fun _ => ?_)
  ·intro y0 y1 y2 y3
   unfold spec_CostOk.l0
   repeat' first
   | (with_reducible exact ih0 _ _ _ _)
   | (with_reducible exact ih1 _ _ _ _)
   | (with_reducible exact spec_l7In.mono _ _ _)
   | (with_reducible exact LeO.refl _)
   | (with_reducible exact LeO.none _)
   | (with_reducible refine LeO.ite ?_ ?_)
   | (with_reducible refine LeO.bind ?_ (fun _ => ?_))
   | exact ih0 _ _ _ _
   | exact ih1 _ _ _ _
   | exact spec_l7In.mono _ _ _
   | exact LeO.none _
   | refine LeO.ite ?_ ?_
   | refine LeO.bind ?_ (fun _ => ?_)
theorem spec_CostOk.mono : ∀ a0 a1 a2 k,LeO (spec_CostOk.f k a0 a1 a2) (spec_CostOk.f (k + 1) a0 a1 a2) := by
 intro a0 a1 a2 k
 obtain ⟨ih0,ih1⟩ := spec_CostOk.mono_l k
 unfold spec_CostOk.f
 repeat' first
   | (with_reducible exact ih0 _ _ _ _)
   | (with_reducible exact ih1 _ _ _ _)
   | (with_reducible exact spec_l7In.mono _ _ _)
   | (with_reducible exact LeO.refl _)
   | (with_reducible exact LeO.none _)
   | (with_reducible refine LeO.ite ?_ ?_)
   | (with_reducible refine LeO.bind ?_ (fun _ => ?_))
   | exact ih0 _ _ _ _
   | exact ih1 _ _ _ _
   | exact spec_l7In.mono _ _ _
   | exact LeO.none _
   | refine LeO.ite ?_ ?_
   | refine LeO.bind ?_ (fun _ => ?_)
set_option maxHeartbeats 8000000 in
set_option maxRecDepth 100000 in
theorem spec_CostOk.calls (k : Nat) (A0_0 : Option Addr) (c0_0 : Nat) (l0_0 : List Int) (A0_1 : Option Addr) (c0_1 : Nat) (l0_1 : List Int) (A0_2 : Option Addr) (c0_2 : Nat) (l0_2 : List Int) (r : Bool) (w : World) (hr0_0 : Kd.C (Kd.int .i64) w A0_0 l0_0.length l0_0) (hc0_0 : l0_0.length ≤ c0_0) (hr0_1 : Kd.C (Kd.int .i64) w A0_1 l0_1.length l0_1) (hc0_1 : l0_1.length ≤ c0_1) (hr0_2 : Kd.C (Kd.int .i64) w A0_2 l0_2.length l0_2) (hc0_2 : l0_2.length ≤ c0_2) (h : spec_CostOk.f k l0_0 l0_1 l0_2 = some r) :
  Calls Try.prog 17 #[.agg #[.slice A0_0 l0_0.length c0_0,.slice A0_1 l0_1.length c0_1,.slice A0_2 l0_2.length c0_2]] w fun e w' => e = .returned (.bool r) ∧ Below w.heap.size w w' := by
 have hu27 := Try.underlying27
 have HR0_0 := Aside0.mk hr0_0
 have HC0_0 := Aside0.mk hc0_0
 clear hr0_0 hc0_0
 have HR0_1 := Aside0.mk hr0_1
 have HC0_1 := Aside0.mk hc0_1
 clear hr0_1 hc0_1
 have HR0_2 := Aside0.mk hr0_2
 have HC0_2 := Aside0.mk hc0_2
 clear hr0_2 hc0_2
 have HB := Aside0.mk (Below.refl w.heap.size w)
 have H : ((spec_l7In.f k l0_0 6).bind fun t524 => (if t524 = true then ((spec_l7In.f k l0_1 6).bind fun t525 => (if t525 = true then ((spec_l7In.f k l0_2 36).bind fun t526 => (spec_CostOk.j0 k (!t526) l0_0 l0_1 l0_2)) else (spec_CostOk.j0 k true l0_0 l0_1 l0_2))) else (spec_CostOk.j0 k true l0_0 l0_1 l0_2))) = some r := h
 clear h
 have HC2 := Aside0.mk H
 clear H
 go_enter Try.func17,Try.ntmps17
 go_upto_region 1 with (first | ((with_reducible refine gate_dst (N := 1) rfl ?_);refine bx_ 1 #[.slice A0_0 l0_0.length c0_0,.slice A0_1 l0_1.length c0_1,.slice A0_2 l0_2.length c0_2] 27 ?_;intro gb523 hg w3 hbox hb;have BK523 := Aside0.mk (hbox);have GW523 := Aside0.mk ((by rw [hg];exact (bs_ HB) : w.heap.size ≤ gb523));have GE523 := Aside0.mk ((by rw [hg];exact (bs_ HB) : w.heap.size ≤ gb523));replace HB := tB_ HB hb;clear hb hbox hg))
 (try simp only [Act.put,List.setIfInBounds_toArray,List.set_cons_zero,List.set_cons_succ])
 go_cut [19] (fun v19 wc => ∃ (kq : Nat) (x19_1 : Bool),v19 = .bool x19_1 ∧ Aside0 (spec_CostOk.j0 kq x19_1 l0_0 l0_1 l0_2 = some r) ∧ Aside0 (kq ≤ k) ∧ Aside0 (wc.heap[gb523]? = some (.cells #[(.slice A0_0 l0_0.length c0_0),(.slice A0_1 l0_1.length c0_1),(.slice A0_2 l0_2.length c0_2)] 27 (0,0))) ∧ Aside0 (Below w.heap.size w wc))
 case first =>
  have H := HC2.out
  clear HC2
  replace H := Option.bind_eq_some_iff.mp H
  obtain ⟨t524,A40,H⟩ := H
  replace H : (if t524 = true then ((spec_l7In.f k l0_1 6).bind fun t525 => (if t525 = true then ((spec_l7In.f k l0_2 36).bind fun t526 => (spec_CostOk.j0 k (!t526) l0_0 l0_1 l0_2)) else (spec_CostOk.j0 k true l0_0 l0_1 l0_2))) else (spec_CostOk.j0 k true l0_0 l0_1 l0_2)) = some r := H
  have A4 := Aside0.mk A40
  clear A40
  by_cases c5 : t524 = true
  ·subst c5
   have H1 : ((spec_l7In.f k l0_1 6).bind fun t525 => (if t525 = true then ((spec_l7In.f k l0_2 36).bind fun t526 => (spec_CostOk.j0 k (!t526) l0_0 l0_1 l0_2)) else (spec_CostOk.j0 k true l0_0 l0_1 l0_2))) = some r := by rw [if_pos rfl] at H;exact H
   clear H
   have H := H1
   clear H1
   replace H := Option.bind_eq_some_iff.mp H
   obtain ⟨t525,A60,H⟩ := H
   replace H : (if t525 = true then ((spec_l7In.f k l0_2 36).bind fun t526 => (spec_CostOk.j0 k (!t526) l0_0 l0_1 l0_2)) else (spec_CostOk.j0 k true l0_0 l0_1 l0_2)) = some r := H
   have A6 := Aside0.mk A60
   clear A60
   by_cases c7 : t525 = true
   ·subst c7
    have H1 : ((spec_l7In.f k l0_2 36).bind fun t526 => (spec_CostOk.j0 k (!t526) l0_0 l0_1 l0_2)) = some r := by rw [if_pos rfl] at H;exact H
    clear H
    have H := H1
    clear H1
    replace H := Option.bind_eq_some_iff.mp H
    obtain ⟨t526,A80,H⟩ := H
    replace H : (spec_CostOk.j0 k (!t526) l0_0 l0_1 l0_2) = some r := H
    have A8 := Aside0.mk A80
    clear A80
    have H' := Aside0.mk H
    clear H
    have hcz9_0 : w3.cell? ⟨gb523,0,none⟩ = some (.slice A0_0 l0_0.length c0_0) := (blk_cell BK523.out 0).trans rfl
    have hcz9_1 : w3.cell? ⟨gb523,1,none⟩ = some (.slice A0_1 l0_1.length c0_1) := (blk_cell BK523.out 1).trans rfl
    have hcz9_2 : w3.cell? ⟨gb523,2,none⟩ = some (.slice A0_2 l0_2.length c0_2) := (blk_cell BK523.out 2).trans rfl
    have hfz9_0 := blk_frozen BK523.out 0
    have hfz9_1 := blk_frozen BK523.out 1
    have hfz9_2 := blk_frozen BK523.out 2
    go_wp2_with (first | ((with_reducible refine gate_callee (f := 63) rfl ?_);refine goesL_ (some 6) rfl rfl Try.func63 (by kernel_rfl) rfl #[.slice A0_0 l0_0.length c0_0,.int .i64 6] rfl (by (try simp only [List.map_toArray,List.map_cons,List.map_nil]);first | done | rfl | (simp only [List.length_drop,List.length_take];rfl)) ?_;(with_reducible refine (spec_l7In.calls k _ _ l0_0 6 true _ ?side1 ?side2 A4.out).mono ?_);(case side1 => repeat (first | exact (Kd.C_below HR0_0.out HB.out) | (with_reducible refine Kd.C_alloc ?_ _) | (with_reducible refine Kd.C_drewN ?_ _) | (with_reducible refine Kd.C_drew ?_)));(case side2 => exact HC0_0.out);rintro e w' ⟨rfl,⟨nd,rfl⟩⟩;refine ⟨_,rfl,?_⟩) | (go_at_call 63;(with_reducible refine (spec_l7In.calls k _ _ l0_1 6 true _ ?side1 ?side2 A6.out).mono ?_);(case side1 => repeat (first | exact (Kd.C_below HR0_1.out (by repeat (first | (with_reducible first | exact HB.out | apply below_alloc | apply pw_below_drewN | apply below_drew1 | refine below_set ?_ GE523.out) | exact HB.out))) | (with_reducible refine Kd.C_alloc ?_ _) | (with_reducible refine Kd.C_drewN ?_ _) | (with_reducible refine Kd.C_drew ?_)));(case side2 => exact HC0_1.out);rintro e w' ⟨rfl,⟨nd,rfl⟩⟩) | (go_at_call 63;(with_reducible refine (spec_l7In.calls k _ _ l0_2 36 t526 _ ?side1 ?side2 A8.out).mono ?_);(case side1 => repeat (first | exact (Kd.C_below HR0_2.out (by repeat (first | (with_reducible first | exact HB.out | apply below_alloc | apply pw_below_drewN | apply below_drew1 | refine below_set ?_ GE523.out) | exact HB.out))) | (with_reducible refine Kd.C_alloc ?_ _) | (with_reducible refine Kd.C_drewN ?_ _) | (with_reducible refine Kd.C_drew ?_)));(case side2 => exact HC0_2.out);rintro e w' ⟨rfl,⟨nd,rfl⟩⟩))
    go_meet
    case rel => exact ⟨_,(!t526),(by first | rfl | (simp;done) | (simp [*];done)),H',⟨by first | omega | exact Nat.le_refl _⟩,⟨by (with_reducible repeat (first | refine blk_drewN ?_ _ | refine blk_drew ?_ | refine blk_alloc ?_ _));exact BK523.out⟩,⟨by repeat (first | (with_reducible first | exact HB.out | apply below_alloc | apply pw_below_drewN | apply below_drew1 | refine below_set ?_ GE523.out) | exact HB.out)⟩⟩
   ·replace c7 := Bool.eq_false_iff.mpr c7
    subst c7
    have H1 : (spec_CostOk.j0 k true l0_0 l0_1 l0_2) = some r := by rw [if_neg (show ¬ (false = true) by decide)] at H;exact H
    clear H
    have H := H1
    clear H1
    have H' := Aside0.mk H
    clear H
    have hcz10_0 : w3.cell? ⟨gb523,0,none⟩ = some (.slice A0_0 l0_0.length c0_0) := (blk_cell BK523.out 0).trans rfl
    have hcz10_1 : w3.cell? ⟨gb523,1,none⟩ = some (.slice A0_1 l0_1.length c0_1) := (blk_cell BK523.out 1).trans rfl
    have hcz10_2 : w3.cell? ⟨gb523,2,none⟩ = some (.slice A0_2 l0_2.length c0_2) := (blk_cell BK523.out 2).trans rfl
    have hfz10_0 := blk_frozen BK523.out 0
    have hfz10_1 := blk_frozen BK523.out 1
    have hfz10_2 := blk_frozen BK523.out 2
    go_wp2_with (first | ((with_reducible refine gate_callee (f := 63) rfl ?_);refine goesL_ (some 6) rfl rfl Try.func63 (by kernel_rfl) rfl #[.slice A0_0 l0_0.length c0_0,.int .i64 6] rfl (by (try simp only [List.map_toArray,List.map_cons,List.map_nil]);first | done | rfl | (simp only [List.length_drop,List.length_take];rfl)) ?_;(with_reducible refine (spec_l7In.calls k _ _ l0_0 6 true _ ?side1 ?side2 A4.out).mono ?_);(case side1 => repeat (first | exact (Kd.C_below HR0_0.out HB.out) | (with_reducible refine Kd.C_alloc ?_ _) | (with_reducible refine Kd.C_drewN ?_ _) | (with_reducible refine Kd.C_drew ?_)));(case side2 => exact HC0_0.out);rintro e w' ⟨rfl,⟨nd,rfl⟩⟩;refine ⟨_,rfl,?_⟩) | (go_at_call 63;(with_reducible refine (spec_l7In.calls k _ _ l0_1 6 false _ ?side1 ?side2 A6.out).mono ?_);(case side1 => repeat (first | exact (Kd.C_below HR0_1.out (by repeat (first | (with_reducible first | exact HB.out | apply below_alloc | apply pw_below_drewN | apply below_drew1 | refine below_set ?_ GE523.out) | exact HB.out))) | (with_reducible refine Kd.C_alloc ?_ _) | (with_reducible refine Kd.C_drewN ?_ _) | (with_reducible refine Kd.C_drew ?_)));(case side2 => exact HC0_1.out);rintro e w' ⟨rfl,⟨nd,rfl⟩⟩))
    go_meet
    case rel => exact ⟨_,(true),eb_,H',⟨by first | omega | exact Nat.le_refl _⟩,⟨kx_ BK523.out⟩,bl_ HB⟩
  ·replace c5 := Bool.eq_false_iff.mpr c5
   subst c5
   have H1 : (spec_CostOk.j0 k true l0_0 l0_1 l0_2) = some r := by rw [if_neg (show ¬ (false = true) by decide)] at H;exact H
   clear H
   have H := H1
   clear H1
   have H' := Aside0.mk H
   clear H
   have hcz11_0 : w3.cell? ⟨gb523,0,none⟩ = some (.slice A0_0 l0_0.length c0_0) := (blk_cell BK523.out 0).trans rfl
   have hcz11_1 : w3.cell? ⟨gb523,1,none⟩ = some (.slice A0_1 l0_1.length c0_1) := (blk_cell BK523.out 1).trans rfl
   have hcz11_2 : w3.cell? ⟨gb523,2,none⟩ = some (.slice A0_2 l0_2.length c0_2) := (blk_cell BK523.out 2).trans rfl
   have hfz11_0 := blk_frozen BK523.out 0
   have hfz11_1 := blk_frozen BK523.out 1
   have hfz11_2 := blk_frozen BK523.out 2
   go_wp2_with (first | ((with_reducible refine gate_callee (f := 63) rfl ?_);refine gL_ (some 6) Try.func63 #[.slice A0_0 l0_0.length c0_0,.int .i64 6] ?_;(with_reducible refine (spec_l7In.calls k _ _ l0_0 6 false _ (cx_ HR0_0 HB) HC0_0.out A4.out).mono ?_);rintro e w' ⟨rfl,⟨nd,rfl⟩⟩;refine ⟨_,rfl,?_⟩))
   go_meet
   case rel => exact ⟨_,(true),eb_,H',⟨by first | omega | exact Nat.le_refl _⟩,⟨kx_ BK523.out⟩,bl_ HB⟩
 case rest =>
  clear HC2
  try clear c1
  try clear p2
  try clear c5
  try clear c6
  try clear c7
  try clear hcz10_0
  try clear hcz10_1
  try clear hcz10_2
  try clear hcz11_0
  try clear hcz11_1
  try clear hcz11_2
  try clear hcz9_0
  try clear hcz9_1
  try clear hcz9_2
  try clear hfz10_0
  try clear hfz10_1
  try clear hfz10_2
  try clear hfz11_0
  try clear hfz11_1
  try clear hfz11_2
  try clear hfz9_0
  try clear hfz9_1
  try clear hfz9_2
  obtain ⟨kq,x19_1,rfl,HA,HJ1,BK523,HB⟩ := hcut
  cases kq with
  | zero => exact absurd HA.out (by simp [spec_CostOk.j0])
  | succ kj1 =>
   have H := HA.out
   clear HA
   simp only [spec_CostOk.j0] at H
   by_cases c12 : x19_1 = true
   ·subst c12
    have H1 : (some false) = some r := by rw [if_pos rfl] at H;exact H
    clear H
    have H := H1
    clear H1
    obtain rfl := Option.some.inj H
    go_wp2
    go_ret
    exact ⟨ea_,(bl_ HB).out⟩
   ·replace c12 := Bool.eq_false_iff.mpr c12
    subst c12
    have H1 : (spec_CostOk.l0 kj1 0 l0_0 l0_1 l0_2) = some r := by rw [if_neg (show ¬ (false = true) by decide)] at H;exact H
    clear H
    have H := H1
    clear H1
    have H' := Aside0.mk H
    clear H
    go_wp2
    go_loopg [3] kj1 (fun kq v3 w' => ∃ (x3_2 : Int),v3 = .int .i64 x3_2 ∧ Aside0 (spec_CostOk.l0 kq x3_2 l0_0 l0_1 l0_2 = some r) ∧ Aside0 (kq ≤ kj1) ∧ Aside0 (w'.heap[gb523]? = some (.cells #[(.slice A0_0 l0_0.length c0_0),(.slice A0_1 l0_1.length c0_1),(.slice A0_2 l0_2.length c0_2)] 27 (0,0))) ∧ Aside0 (Below w.heap.size w w'))
    case atStart => exact ⟨(0),eb_,H',⟨Nat.le_refl _⟩,⟨kx_ BK523.out⟩,bl_ HB⟩
    case round =>
     clear H'
     try clear c1
     try clear p2
     try clear c5
     try clear c6
     try clear c7
     try clear c12
     try clear hcz10_0
     try clear hcz10_1
     try clear hcz10_2
     try clear hcz11_0
     try clear hcz11_1
     try clear hcz11_2
     try clear hcz9_0
     try clear hcz9_1
     try clear hcz9_2
     try clear hfz10_0
     try clear hfz10_1
     try clear hfz10_2
     try clear hfz11_0
     try clear hfz11_1
     try clear hfz11_2
     try clear hfz9_0
     try clear hfz9_1
     try clear hfz9_2
     try clear p2
     obtain ⟨x3_2,rfl,HA,HK2,BK523,HB⟩ := hrel
     cases gk with
     | zero => exact absurd HA.out (by simp [spec_CostOk.l0])
     | succ k2 =>
      have H := HA.out
      clear HA
      simp only [spec_CostOk.l0] at H
      by_cases c13 : x3_2 < 6
      ·rw [if_pos c13] at H
       have c13b0 : decide (x3_2 < 6) = true := decide_eq_true c13
       clear c13
       obtain ⟨ji14,hji14⟩ : ∃ j_ : Int,(wrap64 ((wrap64 (x3_2 * 6)) + x3_2)) = j_ := ⟨_,rfl⟩
       replace H : (if 0 ≤ (ji14) then (if (ji14) < (l0_2.length : Int) then (if (rd l0_2 (ji14)) = 0 then (spec_CostOk.l0 k2 (wrap64 (x3_2 + 1)) l0_0 l0_1 l0_2) else (some false)) else (none)) else (none)) = some r := by first | (rw [hji14] at H;exact H) | (simp only [hji14] at H ⊢;exact H)
       have hji14w : (IntKind.i64.wrap ((wrap64 (x3_2 * 6)) + x3_2)) = ji14 := (i64_w _).trans hji14
       by_cases c15 : 0 ≤ (ji14)
       ·rw [if_pos c15] at H
        have c15b0 : decide (0 ≤ (ji14)) = true := decide_eq_true c15
        clear c15
        by_cases c16 : (ji14) < (l0_2.length : Int)
        ·rw [if_pos c16] at H
         have c16b0 : decide ((ji14) < (l0_2.length : Int)) = true := decide_eq_true c16
         clear c16
         by_cases c17 : (rd l0_2 (ji14)) = 0
         ·rw [if_pos c17] at H
          have c17b0 : ((rd l0_2 (ji14)) == 0) = true := beq_iff_eq.mpr c17
          have c17b1 : ((rd l0_2 (ji14)) != 0) = false := bne_eq_false_iff_eq.mpr c17
          clear c17
          have H' := Aside0.mk H
          clear H
          have hcz18_0 : wr.cell? ⟨gb523,0,none⟩ = some (.slice A0_0 l0_0.length c0_0) := (blk_cell BK523.out 0).trans rfl
          have hcz18_1 : wr.cell? ⟨gb523,1,none⟩ = some (.slice A0_1 l0_1.length c0_1) := (blk_cell BK523.out 1).trans rfl
          have hcz18_2 : wr.cell? ⟨gb523,2,none⟩ = some (.slice A0_2 l0_2.length c0_2) := (blk_cell BK523.out 2).trans rfl
          have hfz18_0 := blk_frozen BK523.out 0
          have hfz18_1 := blk_frozen BK523.out 1
          have hfz18_2 := blk_frozen BK523.out 2
          have p527 : 0 ≤ ((ji14) : Int) := od_
          have q527 : (ji14) < (l0_2.length : Int) := od_
          obtain ⟨ad527,e527,hx527_0⟩ := Kd.at_int HR0_2.out (ji14) p527 q527
          cases e527
          replace hx527_0 := ce_ HB hx527_0
          replace p527 := eq_true p527
          replace q527 := eq_true q527
          go_wp2
          go_roundg k2
          case measure => have := HJ1.out;have := HK2.out;omega
          case rel => exact ⟨(wrap64 (x3_2 + 1)),eb_,H',⟨by have := HJ1.out;have := HK2.out;omega⟩,⟨kx_ BK523.out⟩,bl_ HB⟩
         ·rw [if_neg c17] at H
          have c17b0 : ((rd l0_2 (ji14)) == 0) = false := beq_eq_false_iff_ne.mpr c17
          have c17b1 : ((rd l0_2 (ji14)) != 0) = true := bne_iff_ne.mpr c17
          obtain rfl := Option.some.inj H
          have hcz19_0 : wr.cell? ⟨gb523,0,none⟩ = some (.slice A0_0 l0_0.length c0_0) := (blk_cell BK523.out 0).trans rfl
          have hcz19_1 : wr.cell? ⟨gb523,1,none⟩ = some (.slice A0_1 l0_1.length c0_1) := (blk_cell BK523.out 1).trans rfl
          have hcz19_2 : wr.cell? ⟨gb523,2,none⟩ = some (.slice A0_2 l0_2.length c0_2) := (blk_cell BK523.out 2).trans rfl
          have hfz19_0 := blk_frozen BK523.out 0
          have hfz19_1 := blk_frozen BK523.out 1
          have hfz19_2 := blk_frozen BK523.out 2
          have p527 : 0 ≤ ((ji14) : Int) := od_
          have q527 : (ji14) < (l0_2.length : Int) := od_
          obtain ⟨ad527,e527,hx527_0⟩ := Kd.at_int HR0_2.out (ji14) p527 q527
          cases e527
          replace hx527_0 := ce_ HB hx527_0
          replace p527 := eq_true p527
          replace q527 := eq_true q527
          go_wp2
          go_ret
          exact ⟨by first | rfl | (simp [errW_none,errW_some] <;> rfl) | (simp only [← hji14];first | rfl | (simp [errW_none,errW_some] <;> rfl)) | (simp [*,errW_none,errW_some] <;> rfl),(bl_ HB).out⟩
        ·rw [if_neg c16] at H
         exact absurd H (by simp)
       ·rw [if_neg c15] at H
        exact absurd H (by simp)
      ·rw [if_neg c13] at H
       have c13b0 : decide (x3_2 < 6) = false := decide_eq_false c13
       clear c13
       obtain rfl := Option.some.inj H
       go_wp2
       go_ret
       exact ⟨ea_,(bl_ HB).out⟩
end Go.Proofs.Ytngphdmbjenkaaa.X
namespace Go.Proofs.Ytngphdmbjenkaaa.X
open Go.RowKit Go.Proofs.YtngphdmbjenkaaaW.PrintWords Go.Proofs.YtngphdmbjenkaaaW.PrintLast Go.Proofs.YtngphdmbjenkaaaW.PrintMore
attribute [local go_sem] max2_int min2_int max_two min_two max_three min_three max_four min_four   -- for this text's walks alone
set_option linter.unusedVariables false
set_option linter.unusedSimpArgs false
mutual
def impl_CostOk.j0 : Nat → Bool → List Int → List Int → List Int → Option (Bool)
 | 0,_,_,_,_ => none
 | k + 1,x19,x506000,x506001,x506002 => if x19 = true then (some false) else (impl_CostOk.l0 k 0 x506000 x506001 x506002)
def impl_CostOk.l0 : Nat → Int → List Int → List Int → List Int → Option (Bool)
 | 0,_,_,_,_ => none
 | k + 1,x20,x506000,x506001,x506002 => if x20 < 6 then (if 0 ≤ (wrap64 ((wrap64 (x20 * 6)) + x20)) then (if (wrap64 ((wrap64 (x20 * 6)) + x20)) < (x506002.length : Int) then (if (rd x506002 (wrap64 ((wrap64 (x20 * 6)) + x20))) = 0 then (impl_CostOk.l0 k (wrap64 (x20 + 1)) x506000 x506001 x506002) else (some false)) else (none)) else (none)) else (some true)
end
def impl_CostOk.f (k : Nat) (l0_0 : List Int) (l0_1 : List Int) (l0_2 : List Int) : Option (Bool) := (impl_pricesOk.f l0_0 6).bind fun t506 => (if t506 = true then ((impl_pricesOk.f l0_1 6).bind fun t507 => (if t507 = true then ((impl_pricesOk.f l0_2 36).bind fun t508 => (impl_CostOk.j0 k (!t508) l0_0 l0_1 l0_2)) else (impl_CostOk.j0 k true l0_0 l0_1 l0_2))) else (impl_CostOk.j0 k true l0_0 l0_1 l0_2))
theorem impl_CostOk.mono_l : ∀ k,(∀ y0 y1 y2 y3,LeO (impl_CostOk.j0 k y0 y1 y2 y3) (impl_CostOk.j0 (k + 1) y0 y1 y2 y3)) ∧ (∀ y0 y1 y2 y3,LeO (impl_CostOk.l0 k y0 y1 y2 y3) (impl_CostOk.l0 (k + 1) y0 y1 y2 y3))
 | 0 => ⟨fun _ _ _ _ r h => by simp [impl_CostOk.j0] at h,fun _ _ _ _ r h => by simp [impl_CostOk.l0] at h⟩
 | k + 1 => by
  obtain ⟨ih0,ih1⟩ := impl_CostOk.mono_l k
  refine ⟨?_,?_⟩
  ·intro y0 y1 y2 y3
   unfold impl_CostOk.j0
   repeat' first
   | (with_reducible exact ih0 _ _ _ _)
   | (with_reducible exact ih1 _ _ _ _)
   | (with_reducible exact LeO.refl _)
   | (with_reducible exact LeO.none _)
   | (with_reducible refine LeO.ite ?_ ?_)
   | (with_reducible refine LeO.bind ?_ (fun _ => ?_))
   | exact ih0 _ _ _ _
   | exact ih1 _ _ _ _
   | exact LeO.none _
   | refine LeO.ite ?_ ?_
   | refine LeO.bind ?_ (fun _ => ?_)
  ·intro y0 y1 y2 y3
   unfold impl_CostOk.l0
   repeat' first
   | (with_reducible exact ih0 _ _ _ _)
   | (with_reducible exact ih1 _ _ _ _)
   | (with_reducible exact LeO.refl _)
   | (with_reducible exact LeO.none _)
   | (with_reducible refine LeO.ite ?_ ?_)
   | (with_reducible refine LeO.bind ?_ (fun _ => ?_))
   | exact ih0 _ _ _ _
   | exact ih1 _ _ _ _
   | exact LeO.none _
   | refine LeO.ite ?_ ?_
   | refine LeO.bind ?_ (fun _ => ?_)
theorem impl_CostOk.mono : ∀ a0 a1 a2 k,LeO (impl_CostOk.f k a0 a1 a2) (impl_CostOk.f (k + 1) a0 a1 a2) := by
 intro a0 a1 a2 k
 obtain ⟨ih0,ih1⟩ := impl_CostOk.mono_l k
 unfold impl_CostOk.f
 repeat' first
   | (with_reducible exact ih0 _ _ _ _)
   | (with_reducible exact ih1 _ _ _ _)
   | (with_reducible exact LeO.refl _)
   | (with_reducible exact LeO.none _)
   | (with_reducible refine LeO.ite ?_ ?_)
   | (with_reducible refine LeO.bind ?_ (fun _ => ?_))
   | exact ih0 _ _ _ _
   | exact ih1 _ _ _ _
   | exact LeO.none _
   | refine LeO.ite ?_ ?_
   | refine LeO.bind ?_ (fun _ => ?_)
set_option maxHeartbeats 8000000 in
set_option maxRecDepth 100000 in
theorem impl_CostOk.calls (k : Nat) (A0_0 : Option Addr) (c0_0 : Nat) (l0_0 : List Int) (A0_1 : Option Addr) (c0_1 : Nat) (l0_1 : List Int) (A0_2 : Option Addr) (c0_2 : Nat) (l0_2 : List Int) (r : Bool) (w : World) (hr0_0 : Kd.C (Kd.int .i64) w A0_0 l0_0.length l0_0) (hc0_0 : l0_0.length ≤ c0_0) (hr0_1 : Kd.C (Kd.int .i64) w A0_1 l0_1.length l0_1) (hc0_1 : l0_1.length ≤ c0_1) (hr0_2 : Kd.C (Kd.int .i64) w A0_2 l0_2.length l0_2) (hc0_2 : l0_2.length ≤ c0_2) (h : impl_CostOk.f k l0_0 l0_1 l0_2 = some r) :
  Calls Try.prog 66 #[.agg #[.slice A0_0 l0_0.length c0_0,.slice A0_1 l0_1.length c0_1,.slice A0_2 l0_2.length c0_2]] w fun e w' => e = .returned (.bool r) ∧ Below w.heap.size w w' := by
 have hu27 := Try.underlying27
 have HR0_0 := Aside0.mk hr0_0
 have HC0_0 := Aside0.mk hc0_0
 clear hr0_0 hc0_0
 have HR0_1 := Aside0.mk hr0_1
 have HC0_1 := Aside0.mk hc0_1
 clear hr0_1 hc0_1
 have HR0_2 := Aside0.mk hr0_2
 have HC0_2 := Aside0.mk hc0_2
 clear hr0_2 hc0_2
 have HB := Aside0.mk (Below.refl w.heap.size w)
 have H : ((impl_pricesOk.f l0_0 6).bind fun t506 => (if t506 = true then ((impl_pricesOk.f l0_1 6).bind fun t507 => (if t507 = true then ((impl_pricesOk.f l0_2 36).bind fun t508 => (impl_CostOk.j0 k (!t508) l0_0 l0_1 l0_2)) else (impl_CostOk.j0 k true l0_0 l0_1 l0_2))) else (impl_CostOk.j0 k true l0_0 l0_1 l0_2))) = some r := h
 clear h
 have HC2 := Aside0.mk H
 clear H
 go_enter Try.func66,Try.ntmps66
 go_upto_region 1 with (first | ((with_reducible refine gate_dst (N := 1) rfl ?_);refine bx_ 1 #[.slice A0_0 l0_0.length c0_0,.slice A0_1 l0_1.length c0_1,.slice A0_2 l0_2.length c0_2] 27 ?_;intro gb505 hg w3 hbox hb;have BK505 := Aside0.mk (hbox);have GW505 := Aside0.mk ((by rw [hg];exact (bs_ HB) : w.heap.size ≤ gb505));have GE505 := Aside0.mk ((by rw [hg];exact (bs_ HB) : w.heap.size ≤ gb505));replace HB := tB_ HB hb;clear hb hbox hg))
 (try simp only [Act.put,List.setIfInBounds_toArray,List.set_cons_zero,List.set_cons_succ])
 go_cut [19] (fun v19 wc => ∃ (kq : Nat) (x19_1 : Bool),v19 = .bool x19_1 ∧ Aside0 (impl_CostOk.j0 kq x19_1 l0_0 l0_1 l0_2 = some r) ∧ Aside0 (kq ≤ k) ∧ Aside0 (wc.heap[gb505]? = some (.cells #[(.slice A0_0 l0_0.length c0_0),(.slice A0_1 l0_1.length c0_1),(.slice A0_2 l0_2.length c0_2)] 27 (0,0))) ∧ Aside0 (Below w.heap.size w wc))
 case first =>
  have H := HC2.out
  clear HC2
  replace H := Option.bind_eq_some_iff.mp H
  obtain ⟨t506,A40,H⟩ := H
  try dsimp only at H
  have A4 := Aside0.mk A40
  clear A40
  by_cases c5 : t506 = true
  ·subst c5
   have H1 : ((impl_pricesOk.f l0_1 6).bind fun t507 => (if t507 = true then ((impl_pricesOk.f l0_2 36).bind fun t508 => (impl_CostOk.j0 k (!t508) l0_0 l0_1 l0_2)) else (impl_CostOk.j0 k true l0_0 l0_1 l0_2))) = some r := by rw [if_pos rfl] at H;exact H
   clear H
   have H := H1
   clear H1
   replace H := Option.bind_eq_some_iff.mp H
   obtain ⟨t507,A60,H⟩ := H
   try dsimp only at H
   have A6 := Aside0.mk A60
   clear A60
   by_cases c7 : t507 = true
   ·subst c7
    have H1 : ((impl_pricesOk.f l0_2 36).bind fun t508 => (impl_CostOk.j0 k (!t508) l0_0 l0_1 l0_2)) = some r := by rw [if_pos rfl] at H;exact H
    clear H
    have H := H1
    clear H1
    replace H := Option.bind_eq_some_iff.mp H
    obtain ⟨t508,A80,H⟩ := H
    replace H : (impl_CostOk.j0 k (!t508) l0_0 l0_1 l0_2) = some r := H
    have A8 := Aside0.mk A80
    clear A80
    have H' := Aside0.mk H
    clear H
    have hcz9_0 : w3.cell? ⟨gb505,0,none⟩ = some (.slice A0_0 l0_0.length c0_0) := (blk_cell BK505.out 0).trans rfl
    have hcz9_1 : w3.cell? ⟨gb505,1,none⟩ = some (.slice A0_1 l0_1.length c0_1) := (blk_cell BK505.out 1).trans rfl
    have hcz9_2 : w3.cell? ⟨gb505,2,none⟩ = some (.slice A0_2 l0_2.length c0_2) := (blk_cell BK505.out 2).trans rfl
    have hfz9_0 := blk_frozen BK505.out 0
    have hfz9_1 := blk_frozen BK505.out 1
    have hfz9_2 := blk_frozen BK505.out 2
    go_wp2_with (first | ((with_reducible refine gate_callee (f := 119) rfl ?_);refine gL_ (some 6) Try.func119 #[.slice A0_0 l0_0.length c0_0,.int .i64 6] ?_;(with_reducible refine (impl_pricesOk.calls _ _ l0_0 6 true _ (cx_ HR0_0 HB) HC0_0.out A4.out).mono ?_);rintro e w10 ⟨rfl,hb⟩;refine ⟨_,rfl,?_⟩;replace BK505 := tK_ BK505 hb;replace HB := tB_ HB hb;(try clear hb);obtain ⟨hcz11_0,hcz11_1,hcz11_2,hfz11_0,hfz11_1,hfz11_2⟩ := bk3_ BK505) | (go_at_call 119;(with_reducible refine (impl_pricesOk.calls _ _ l0_1 6 true _ (cx_ HR0_1 HB) HC0_1.out A6.out).mono ?_);rintro e w12 ⟨rfl,hb⟩;replace BK505 := tK_ BK505 hb;replace HB := tB_ HB hb;(try clear hb);obtain ⟨hcz13_0,hcz13_1,hcz13_2,hfz13_0,hfz13_1,hfz13_2⟩ := bk3_ BK505) | (go_at_call 119;(with_reducible refine (impl_pricesOk.calls _ _ l0_2 36 t508 _ (cx_ HR0_2 HB) HC0_2.out A8.out).mono ?_);rintro e w14 ⟨rfl,hb⟩;replace BK505 := tK_ BK505 hb;replace HB := tB_ HB hb;(try clear hb)))
    go_meet
    case rel => exact ⟨_,(!t508),eb_,H',⟨by first | omega | exact Nat.le_refl _⟩,⟨kx_ BK505.out⟩,bl_ HB⟩
   ·replace c7 := Bool.eq_false_iff.mpr c7
    subst c7
    have H1 : (impl_CostOk.j0 k true l0_0 l0_1 l0_2) = some r := by rw [if_neg (show ¬ (false = true) by decide)] at H;exact H
    clear H
    have H := H1
    clear H1
    have H' := Aside0.mk H
    clear H
    have hcz15_0 : w3.cell? ⟨gb505,0,none⟩ = some (.slice A0_0 l0_0.length c0_0) := (blk_cell BK505.out 0).trans rfl
    have hcz15_1 : w3.cell? ⟨gb505,1,none⟩ = some (.slice A0_1 l0_1.length c0_1) := (blk_cell BK505.out 1).trans rfl
    have hcz15_2 : w3.cell? ⟨gb505,2,none⟩ = some (.slice A0_2 l0_2.length c0_2) := (blk_cell BK505.out 2).trans rfl
    have hfz15_0 := blk_frozen BK505.out 0
    have hfz15_1 := blk_frozen BK505.out 1
    have hfz15_2 := blk_frozen BK505.out 2
    go_wp2_with (first | ((with_reducible refine gate_callee (f := 119) rfl ?_);refine gL_ (some 6) Try.func119 #[.slice A0_0 l0_0.length c0_0,.int .i64 6] ?_;(with_reducible refine (impl_pricesOk.calls _ _ l0_0 6 true _ (cx_ HR0_0 HB) HC0_0.out A4.out).mono ?_);rintro e w16 ⟨rfl,hb⟩;refine ⟨_,rfl,?_⟩;replace BK505 := tK_ BK505 hb;replace HB := tB_ HB hb;(try clear hb);obtain ⟨hcz17_0,hcz17_1,hcz17_2,hfz17_0,hfz17_1,hfz17_2⟩ := bk3_ BK505) | (go_at_call 119;(with_reducible refine (impl_pricesOk.calls _ _ l0_1 6 false _ (cx_ HR0_1 HB) HC0_1.out A6.out).mono ?_);rintro e w18 ⟨rfl,hb⟩;replace BK505 := tK_ BK505 hb;replace HB := tB_ HB hb;(try clear hb)))
    go_meet
    case rel => exact ⟨_,(true),eb_,H',⟨by first | omega | exact Nat.le_refl _⟩,⟨kx_ BK505.out⟩,bl_ HB⟩
  ·replace c5 := Bool.eq_false_iff.mpr c5
   subst c5
   have H1 : (impl_CostOk.j0 k true l0_0 l0_1 l0_2) = some r := by rw [if_neg (show ¬ (false = true) by decide)] at H;exact H
   clear H
   have H := H1
   clear H1
   have H' := Aside0.mk H
   clear H
   have hcz19_0 : w3.cell? ⟨gb505,0,none⟩ = some (.slice A0_0 l0_0.length c0_0) := (blk_cell BK505.out 0).trans rfl
   have hcz19_1 : w3.cell? ⟨gb505,1,none⟩ = some (.slice A0_1 l0_1.length c0_1) := (blk_cell BK505.out 1).trans rfl
   have hcz19_2 : w3.cell? ⟨gb505,2,none⟩ = some (.slice A0_2 l0_2.length c0_2) := (blk_cell BK505.out 2).trans rfl
   have hfz19_0 := blk_frozen BK505.out 0
   have hfz19_1 := blk_frozen BK505.out 1
   have hfz19_2 := blk_frozen BK505.out 2
   go_wp2_with (first | ((with_reducible refine gate_callee (f := 119) rfl ?_);refine gL_ (some 6) Try.func119 #[.slice A0_0 l0_0.length c0_0,.int .i64 6] ?_;(with_reducible refine (impl_pricesOk.calls _ _ l0_0 6 false _ (cx_ HR0_0 HB) HC0_0.out A4.out).mono ?_);rintro e w20 ⟨rfl,hb⟩;refine ⟨_,rfl,?_⟩;replace BK505 := tK_ BK505 hb;replace HB := tB_ HB hb;(try clear hb)))
   go_meet
   case rel => exact ⟨_,(true),eb_,H',⟨by first | omega | exact Nat.le_refl _⟩,⟨kx_ BK505.out⟩,bl_ HB⟩
 case rest =>
  clear HC2
  try clear c1
  try clear p2
  try clear c5
  try clear c6
  try clear c7
  try clear c11
  try clear hcz11_0
  try clear hcz11_1
  try clear hcz11_2
  try clear hcz13_0
  try clear hcz13_1
  try clear hcz13_2
  try clear hcz15_0
  try clear hcz15_1
  try clear hcz15_2
  try clear hcz17_0
  try clear hcz17_1
  try clear hcz17_2
  try clear hcz19_0
  try clear hcz19_1
  try clear hcz19_2
  try clear hcz9_0
  try clear hcz9_1
  try clear hcz9_2
  try clear hfz11_0
  try clear hfz11_1
  try clear hfz11_2
  try clear hfz13_0
  try clear hfz13_1
  try clear hfz13_2
  try clear hfz15_0
  try clear hfz15_1
  try clear hfz15_2
  try clear hfz17_0
  try clear hfz17_1
  try clear hfz17_2
  try clear hfz19_0
  try clear hfz19_1
  try clear hfz19_2
  try clear hfz9_0
  try clear hfz9_1
  try clear hfz9_2
  obtain ⟨kq,x19_1,rfl,HA,HJ1,BK505,HB⟩ := hcut
  cases kq with
  | zero => exact absurd HA.out (by simp [impl_CostOk.j0])
  | succ kj1 =>
   have H := HA.out
   clear HA
   simp only [impl_CostOk.j0] at H
   by_cases c21 : x19_1 = true
   ·subst c21
    have H1 : (some false) = some r := by rw [if_pos rfl] at H;exact H
    clear H
    have H := H1
    clear H1
    obtain rfl := Option.some.inj H
    go_wp2
    go_ret
    exact ⟨ea_,(bl_ HB).out⟩
   ·replace c21 := Bool.eq_false_iff.mpr c21
    subst c21
    have H1 : (impl_CostOk.l0 kj1 0 l0_0 l0_1 l0_2) = some r := by rw [if_neg (show ¬ (false = true) by decide)] at H;exact H
    clear H
    have H := H1
    clear H1
    have H' := Aside0.mk H
    clear H
    go_wp2
    go_loopg [20] kj1 (fun kq v20 w' => ∃ (x20_2 : Int),v20 = .int .i64 x20_2 ∧ Aside0 (impl_CostOk.l0 kq x20_2 l0_0 l0_1 l0_2 = some r) ∧ Aside0 (kq ≤ kj1) ∧ Aside0 (w'.heap[gb505]? = some (.cells #[(.slice A0_0 l0_0.length c0_0),(.slice A0_1 l0_1.length c0_1),(.slice A0_2 l0_2.length c0_2)] 27 (0,0))) ∧ Aside0 (Below w.heap.size w w'))
    case atStart => exact ⟨(0),eb_,H',⟨Nat.le_refl _⟩,⟨kx_ BK505.out⟩,bl_ HB⟩
    case round =>
     clear H'
     try clear c1
     try clear c2
     try clear p2
     try clear c5
     try clear c6
     try clear c7
     try clear c11
     try clear c21
     try clear hcz11_0
     try clear hcz11_1
     try clear hcz11_2
     try clear hcz13_0
     try clear hcz13_1
     try clear hcz13_2
     try clear hcz15_0
     try clear hcz15_1
     try clear hcz15_2
     try clear hcz17_0
     try clear hcz17_1
     try clear hcz17_2
     try clear hcz19_0
     try clear hcz19_1
     try clear hcz19_2
     try clear hcz9_0
     try clear hcz9_1
     try clear hcz9_2
     try clear hfz11_0
     try clear hfz11_1
     try clear hfz11_2
     try clear hfz13_0
     try clear hfz13_1
     try clear hfz13_2
     try clear hfz15_0
     try clear hfz15_1
     try clear hfz15_2
     try clear hfz17_0
     try clear hfz17_1
     try clear hfz17_2
     try clear hfz19_0
     try clear hfz19_1
     try clear hfz19_2
     try clear hfz9_0
     try clear hfz9_1
     try clear hfz9_2
     try clear p2
     obtain ⟨x20_2,rfl,HA,HK2,BK505,HB⟩ := hrel
     cases gk with
     | zero => exact absurd HA.out (by simp [impl_CostOk.l0])
     | succ k2 =>
      have H := HA.out
      clear HA
      simp only [impl_CostOk.l0] at H
      by_cases c22 : x20_2 < 6
      ·rw [if_pos c22] at H
       have c22b0 : decide (x20_2 < 6) = true := decide_eq_true c22
       clear c22
       obtain ⟨ji23,hji23⟩ : ∃ j_ : Int,(wrap64 ((wrap64 (x20_2 * 6)) + x20_2)) = j_ := ⟨_,rfl⟩
       replace H : (if 0 ≤ (ji23) then (if (ji23) < (l0_2.length : Int) then (if (rd l0_2 (ji23)) = 0 then (impl_CostOk.l0 k2 (wrap64 (x20_2 + 1)) l0_0 l0_1 l0_2) else (some false)) else (none)) else (none)) = some r := by first | (rw [hji23] at H;exact H) | (simp only [hji23] at H ⊢;exact H)
       have hji23w : (IntKind.i64.wrap ((wrap64 (x20_2 * 6)) + x20_2)) = ji23 := (i64_w _).trans hji23
       by_cases c24 : 0 ≤ (ji23)
       ·rw [if_pos c24] at H
        have c24b0 : decide (0 ≤ (ji23)) = true := decide_eq_true c24
        clear c24
        by_cases c25 : (ji23) < (l0_2.length : Int)
        ·rw [if_pos c25] at H
         have c25b0 : decide ((ji23) < (l0_2.length : Int)) = true := decide_eq_true c25
         clear c25
         by_cases c26 : (rd l0_2 (ji23)) = 0
         ·rw [if_pos c26] at H
          have c26b0 : ((rd l0_2 (ji23)) == 0) = true := beq_iff_eq.mpr c26
          have c26b1 : ((rd l0_2 (ji23)) != 0) = false := bne_eq_false_iff_eq.mpr c26
          clear c26
          have H' := Aside0.mk H
          clear H
          have hcz27_0 : wr.cell? ⟨gb505,0,none⟩ = some (.slice A0_0 l0_0.length c0_0) := (blk_cell BK505.out 0).trans rfl
          have hcz27_1 : wr.cell? ⟨gb505,1,none⟩ = some (.slice A0_1 l0_1.length c0_1) := (blk_cell BK505.out 1).trans rfl
          have hcz27_2 : wr.cell? ⟨gb505,2,none⟩ = some (.slice A0_2 l0_2.length c0_2) := (blk_cell BK505.out 2).trans rfl
          have hfz27_0 := blk_frozen BK505.out 0
          have hfz27_1 := blk_frozen BK505.out 1
          have hfz27_2 := blk_frozen BK505.out 2
          have p509 : 0 ≤ ((ji23) : Int) := od_
          have q509 : (ji23) < (l0_2.length : Int) := od_
          obtain ⟨ad509,e509,hx509_0⟩ := Kd.at_int HR0_2.out (ji23) p509 q509
          cases e509
          replace hx509_0 := ce_ HB hx509_0
          replace p509 := eq_true p509
          replace q509 := eq_true q509
          go_wp2
          go_roundg k2
          case measure => have := HJ1.out;have := HK2.out;omega
          case rel => exact ⟨(wrap64 (x20_2 + 1)),eb_,H',⟨by have := HJ1.out;have := HK2.out;omega⟩,⟨kx_ BK505.out⟩,bl_ HB⟩
         ·rw [if_neg c26] at H
          have c26b0 : ((rd l0_2 (ji23)) == 0) = false := beq_eq_false_iff_ne.mpr c26
          have c26b1 : ((rd l0_2 (ji23)) != 0) = true := bne_iff_ne.mpr c26
          obtain rfl := Option.some.inj H
          have hcz28_0 : wr.cell? ⟨gb505,0,none⟩ = some (.slice A0_0 l0_0.length c0_0) := (blk_cell BK505.out 0).trans rfl
          have hcz28_1 : wr.cell? ⟨gb505,1,none⟩ = some (.slice A0_1 l0_1.length c0_1) := (blk_cell BK505.out 1).trans rfl
          have hcz28_2 : wr.cell? ⟨gb505,2,none⟩ = some (.slice A0_2 l0_2.length c0_2) := (blk_cell BK505.out 2).trans rfl
          have hfz28_0 := blk_frozen BK505.out 0
          have hfz28_1 := blk_frozen BK505.out 1
          have hfz28_2 := blk_frozen BK505.out 2
          have p509 : 0 ≤ ((ji23) : Int) := od_
          have q509 : (ji23) < (l0_2.length : Int) := od_
          obtain ⟨ad509,e509,hx509_0⟩ := Kd.at_int HR0_2.out (ji23) p509 q509
          cases e509
          replace hx509_0 := ce_ HB hx509_0
          replace p509 := eq_true p509
          replace q509 := eq_true q509
          go_wp2
          go_ret
          exact ⟨by first | rfl | (simp [errW_none,errW_some] <;> rfl) | (simp only [← hji23];first | rfl | (simp [errW_none,errW_some] <;> rfl)) | (simp [*,errW_none,errW_some] <;> rfl),(bl_ HB).out⟩
        ·rw [if_neg c25] at H
         exact absurd H (by simp)
       ·rw [if_neg c24] at H
        exact absurd H (by simp)
      ·rw [if_neg c22] at H
       have c22b0 : decide (x20_2 < 6) = false := decide_eq_false c22
       clear c22
       obtain rfl := Option.some.inj H
       go_wp2
       go_ret
       exact ⟨ea_,(bl_ HB).out⟩
end Go.Proofs.Ytngphdmbjenkaaa.X
namespace Go.Proofs.Ytngphdmbjenkaaa.X
open Go.RowKit Go.Proofs.YtngphdmbjenkaaaW.PrintWords Go.Proofs.YtngphdmbjenkaaaW.PrintLast Go.Proofs.YtngphdmbjenkaaaW.PrintMore
attribute [local go_sem] max2_int min2_int max_two min_two max_three min_three max_four min_four   -- for this text's walks alone
set_option linter.unusedVariables false
set_option linter.unusedSimpArgs false
def impl_RelCost.f (k : Nat) (l0_0 : List Int) (l0_1 : List Int) (l0_2 : List Int) (a1 : Int) (a2 : Int) : Option (Int) := (impl_CostOk.f k l0_0 l0_1 l0_2).bind fun t511 => (if t511 = true then ((impl_LabelOk.f a1).bind fun t512 => (if t512 = true then ((impl_LabelOk.f a2).bind fun t513 => (if t513 = true then (if 0 ≤ (wrap64 ((wrap64 (a1 * 6)) + a2)) then (if (wrap64 ((wrap64 (a1 * 6)) + a2)) < (l0_2.length : Int) then (some (rd l0_2 (wrap64 ((wrap64 (a1 * 6)) + a2)))) else (none)) else (none)) else (some 0))) else (some 0))) else (some 0))
set_option maxHeartbeats 8000000 in
set_option maxRecDepth 100000 in
theorem impl_RelCost.calls (k : Nat) (A0_0 : Option Addr) (c0_0 : Nat) (l0_0 : List Int) (A0_1 : Option Addr) (c0_1 : Nat) (l0_1 : List Int) (A0_2 : Option Addr) (c0_2 : Nat) (l0_2 : List Int) (a1 : Int) (a2 : Int) (r : Int) (w : World) (hr0_0 : Kd.C (Kd.int .i64) w A0_0 l0_0.length l0_0) (hc0_0 : l0_0.length ≤ c0_0) (hr0_1 : Kd.C (Kd.int .i64) w A0_1 l0_1.length l0_1) (hc0_1 : l0_1.length ≤ c0_1) (hr0_2 : Kd.C (Kd.int .i64) w A0_2 l0_2.length l0_2) (hc0_2 : l0_2.length ≤ c0_2) (h : impl_RelCost.f k l0_0 l0_1 l0_2 a1 a2 = some r) :
  Calls Try.prog 65 #[.agg #[.slice A0_0 l0_0.length c0_0,.slice A0_1 l0_1.length c0_1,.slice A0_2 l0_2.length c0_2],.int .i64 a1,.int .i64 a2] w fun e w' => e = .returned (.int .i64 r) ∧ Below w.heap.size w w' := by
 have hu27 := Try.underlying27
 have HR0_0 := Aside0.mk hr0_0
 have HC0_0 := Aside0.mk hc0_0
 clear hr0_0 hc0_0
 have HR0_1 := Aside0.mk hr0_1
 have HC0_1 := Aside0.mk hc0_1
 clear hr0_1 hc0_1
 have HR0_2 := Aside0.mk hr0_2
 have HC0_2 := Aside0.mk hc0_2
 clear hr0_2 hc0_2
 have HB := Aside0.mk (Below.refl w.heap.size w)
 have H : ((impl_CostOk.f k l0_0 l0_1 l0_2).bind fun t511 => (if t511 = true then ((impl_LabelOk.f a1).bind fun t512 => (if t512 = true then ((impl_LabelOk.f a2).bind fun t513 => (if t513 = true then (if 0 ≤ (wrap64 ((wrap64 (a1 * 6)) + a2)) then (if (wrap64 ((wrap64 (a1 * 6)) + a2)) < (l0_2.length : Int) then (some (rd l0_2 (wrap64 ((wrap64 (a1 * 6)) + a2)))) else (none)) else (none)) else (some 0))) else (some 0))) else (some 0))) = some r := h
 clear h
 replace H := Option.bind_eq_some_iff.mp H
 obtain ⟨t511,A40,H⟩ := H
 try dsimp only at H
 have A4 := Aside0.mk A40
 clear A40
 by_cases c5 : t511 = true
 ·subst c5
  have H1 : ((impl_LabelOk.f a1).bind fun t512 => (if t512 = true then ((impl_LabelOk.f a2).bind fun t513 => (if t513 = true then (if 0 ≤ (wrap64 ((wrap64 (a1 * 6)) + a2)) then (if (wrap64 ((wrap64 (a1 * 6)) + a2)) < (l0_2.length : Int) then (some (rd l0_2 (wrap64 ((wrap64 (a1 * 6)) + a2)))) else (none)) else (none)) else (some 0))) else (some 0))) = some r := by rw [if_pos rfl] at H;exact H
  clear H
  have H := H1
  clear H1
  replace H := Option.bind_eq_some_iff.mp H
  obtain ⟨t512,A60,H⟩ := H
  try dsimp only at H
  have A6 := Aside0.mk A60
  clear A60
  by_cases c7 : t512 = true
  ·subst c7
   have H1 : ((impl_LabelOk.f a2).bind fun t513 => (if t513 = true then (if 0 ≤ (wrap64 ((wrap64 (a1 * 6)) + a2)) then (if (wrap64 ((wrap64 (a1 * 6)) + a2)) < (l0_2.length : Int) then (some (rd l0_2 (wrap64 ((wrap64 (a1 * 6)) + a2)))) else (none)) else (none)) else (some 0))) = some r := by rw [if_pos rfl] at H;exact H
   clear H
   have H := H1
   clear H1
   replace H := Option.bind_eq_some_iff.mp H
   obtain ⟨t513,A80,H⟩ := H
   try dsimp only at H
   have A8 := Aside0.mk A80
   clear A80
   by_cases c9 : t513 = true
   ·subst c9
    have H1 : (if 0 ≤ (wrap64 ((wrap64 (a1 * 6)) + a2)) then (if (wrap64 ((wrap64 (a1 * 6)) + a2)) < (l0_2.length : Int) then (some (rd l0_2 (wrap64 ((wrap64 (a1 * 6)) + a2)))) else (none)) else (none)) = some r := by rw [if_pos rfl] at H;exact H
    clear H
    have H := H1
    clear H1
    obtain ⟨ji10,hji10⟩ : ∃ j_ : Int,(wrap64 ((wrap64 (a1 * 6)) + a2)) = j_ := ⟨_,rfl⟩
    replace H : (if 0 ≤ (ji10) then (if (ji10) < (l0_2.length : Int) then (some (rd l0_2 (ji10))) else (none)) else (none)) = some r := by first | (rw [hji10] at H;exact H) | (simp only [hji10] at H ⊢;exact H)
    (try rw [hji10] at A4)
    (try rw [hji10] at A6)
    (try rw [hji10] at A8)
    have hji10w : (IntKind.i64.wrap ((wrap64 (a1 * 6)) + a2)) = ji10 := (i64_w _).trans hji10
    by_cases c11 : 0 ≤ (ji10)
    ·rw [if_pos c11] at H
     have c11b0 : decide (0 ≤ (ji10)) = true := decide_eq_true c11
     clear c11
     by_cases c12 : (ji10) < (l0_2.length : Int)
     ·rw [if_pos c12] at H
      have c12b0 : decide ((ji10) < (l0_2.length : Int)) = true := decide_eq_true c12
      clear c12
      obtain rfl := Option.some.inj H
      go_enter Try.func65,Try.ntmps65
      go_wp2_with (first | ((with_reducible refine gate_dst (N := 3) rfl ?_);refine bx_ 3 #[.slice A0_0 l0_0.length c0_0,.slice A0_1 l0_1.length c0_1,.slice A0_2 l0_2.length c0_2] 27 ?_;intro gb510 hg w13 hbox hb;have BK510 := Aside0.mk (hbox);have GW510 := Aside0.mk ((by rw [hg];exact (bs_ HB) : w.heap.size ≤ gb510));have GE510 := Aside0.mk ((by rw [hg];exact (bs_ HB) : w.heap.size ≤ gb510));replace HB := tB_ HB hb;clear hb hbox hg;obtain ⟨hcz14_0,hcz14_1,hcz14_2,hfz14_0,hfz14_1,hfz14_2⟩ := bk3_ BK510) | ((with_reducible refine gate_callee (f := 66) rfl ?_);refine gL_ (some 8) Try.func66 #[.agg #[.slice A0_0 l0_0.length c0_0,.slice A0_1 l0_1.length c0_1,.slice A0_2 l0_2.length c0_2]] ?_;(with_reducible refine (impl_CostOk.calls k _ _ l0_0 _ _ l0_1 _ _ l0_2 true _ (cx_ HR0_0 HB) HC0_0.out (cx_ HR0_1 HB) HC0_1.out (cx_ HR0_2 HB) HC0_2.out A4.out).mono ?_);rintro e w15 ⟨rfl,hb⟩;refine ⟨_,rfl,?_⟩;replace BK510 := tK_ BK510 hb;replace HB := tB_ HB hb;(try clear hb)) | (go_at_call 115;(with_reducible refine (impl_LabelOk.calls a1 true _ A6.out).mono ?_);rintro e w' ⟨rfl,⟨nd,rfl⟩⟩) | (go_at_call 115;(with_reducible refine (impl_LabelOk.calls a2 true _ A8.out).mono ?_);rintro e w' ⟨rfl,⟨nd,rfl⟩⟩;obtain ⟨hcz16_0,hcz16_1,hcz16_2,hfz16_0,hfz16_1,hfz16_2⟩ := bk3_ BK510;have p514 : 0 ≤ ((ji10) : Int) := od_;have q514 : (ji10) < (l0_2.length : Int) := od_;obtain ⟨ad514,e514,hx514_0⟩ := Kd.at_int HR0_2.out (ji10) p514 q514;cases e514;replace hx514_0 := ce_ HB hx514_0;replace p514 := eq_true p514;replace q514 := eq_true q514))
      go_ret
      exact ⟨by first | rfl | (simp [errW_none,errW_some] <;> rfl) | (simp only [← hji10];first | rfl | (simp [errW_none,errW_some] <;> rfl)) | (simp [*,errW_none,errW_some] <;> rfl),(bl_ HB).out⟩
     ·rw [if_neg c12] at H
      exact absurd H (by simp)
    ·rw [if_neg c11] at H
     exact absurd H (by simp)
   ·replace c9 := Bool.eq_false_iff.mpr c9
    subst c9
    have H1 : (some 0) = some r := by rw [if_neg (show ¬ (false = true) by decide)] at H;exact H
    clear H
    have H := H1
    clear H1
    obtain rfl := Option.some.inj H
    go_enter Try.func65,Try.ntmps65
    go_wp2_with (first | ((with_reducible refine gate_dst (N := 3) rfl ?_);refine bx_ 3 #[.slice A0_0 l0_0.length c0_0,.slice A0_1 l0_1.length c0_1,.slice A0_2 l0_2.length c0_2] 27 ?_;intro gb510 hg w17 hbox hb;have BK510 := Aside0.mk (hbox);have GW510 := Aside0.mk ((by rw [hg];exact (bs_ HB) : w.heap.size ≤ gb510));have GE510 := Aside0.mk ((by rw [hg];exact (bs_ HB) : w.heap.size ≤ gb510));replace HB := tB_ HB hb;clear hb hbox hg;obtain ⟨hcz18_0,hcz18_1,hcz18_2,hfz18_0,hfz18_1,hfz18_2⟩ := bk3_ BK510) | ((with_reducible refine gate_callee (f := 66) rfl ?_);refine gL_ (some 8) Try.func66 #[.agg #[.slice A0_0 l0_0.length c0_0,.slice A0_1 l0_1.length c0_1,.slice A0_2 l0_2.length c0_2]] ?_;(with_reducible refine (impl_CostOk.calls k _ _ l0_0 _ _ l0_1 _ _ l0_2 true _ (cx_ HR0_0 HB) HC0_0.out (cx_ HR0_1 HB) HC0_1.out (cx_ HR0_2 HB) HC0_2.out A4.out).mono ?_);rintro e w19 ⟨rfl,hb⟩;refine ⟨_,rfl,?_⟩;replace BK510 := tK_ BK510 hb;replace HB := tB_ HB hb;(try clear hb)) | (go_at_call 115;(with_reducible refine (impl_LabelOk.calls a1 true _ A6.out).mono ?_);rintro e w' ⟨rfl,⟨nd,rfl⟩⟩) | (go_at_call 115;(with_reducible refine (impl_LabelOk.calls a2 false _ A8.out).mono ?_);rintro e w' ⟨rfl,⟨nd,rfl⟩⟩))
    go_ret
    exact ⟨ea_,(bl_ HB).out⟩
  ·replace c7 := Bool.eq_false_iff.mpr c7
   subst c7
   have H1 : (some 0) = some r := by rw [if_neg (show ¬ (false = true) by decide)] at H;exact H
   clear H
   have H := H1
   clear H1
   obtain rfl := Option.some.inj H
   go_enter Try.func65,Try.ntmps65
   go_wp2_with (first | ((with_reducible refine gate_dst (N := 3) rfl ?_);refine bx_ 3 #[.slice A0_0 l0_0.length c0_0,.slice A0_1 l0_1.length c0_1,.slice A0_2 l0_2.length c0_2] 27 ?_;intro gb510 hg w20 hbox hb;have BK510 := Aside0.mk (hbox);have GW510 := Aside0.mk ((by rw [hg];exact (bs_ HB) : w.heap.size ≤ gb510));have GE510 := Aside0.mk ((by rw [hg];exact (bs_ HB) : w.heap.size ≤ gb510));replace HB := tB_ HB hb;clear hb hbox hg;obtain ⟨hcz21_0,hcz21_1,hcz21_2,hfz21_0,hfz21_1,hfz21_2⟩ := bk3_ BK510) | ((with_reducible refine gate_callee (f := 66) rfl ?_);refine gL_ (some 8) Try.func66 #[.agg #[.slice A0_0 l0_0.length c0_0,.slice A0_1 l0_1.length c0_1,.slice A0_2 l0_2.length c0_2]] ?_;(with_reducible refine (impl_CostOk.calls k _ _ l0_0 _ _ l0_1 _ _ l0_2 true _ (cx_ HR0_0 HB) HC0_0.out (cx_ HR0_1 HB) HC0_1.out (cx_ HR0_2 HB) HC0_2.out A4.out).mono ?_);rintro e w22 ⟨rfl,hb⟩;refine ⟨_,rfl,?_⟩;replace BK510 := tK_ BK510 hb;replace HB := tB_ HB hb;(try clear hb)) | (go_at_call 115;(with_reducible refine (impl_LabelOk.calls a1 false _ A6.out).mono ?_);rintro e w' ⟨rfl,⟨nd,rfl⟩⟩))
   go_ret
   exact ⟨ea_,(bl_ HB).out⟩
 ·replace c5 := Bool.eq_false_iff.mpr c5
  subst c5
  have H1 : (some 0) = some r := by rw [if_neg (show ¬ (false = true) by decide)] at H;exact H
  clear H
  have H := H1
  clear H1
  obtain rfl := Option.some.inj H
  go_enter Try.func65,Try.ntmps65
  go_wp2_with (first | ((with_reducible refine gate_dst (N := 3) rfl ?_);refine bx_ 3 #[.slice A0_0 l0_0.length c0_0,.slice A0_1 l0_1.length c0_1,.slice A0_2 l0_2.length c0_2] 27 ?_;intro gb510 hg w23 hbox hb;have BK510 := Aside0.mk (hbox);have GW510 := Aside0.mk ((by rw [hg];exact (bs_ HB) : w.heap.size ≤ gb510));have GE510 := Aside0.mk ((by rw [hg];exact (bs_ HB) : w.heap.size ≤ gb510));replace HB := tB_ HB hb;clear hb hbox hg;obtain ⟨hcz24_0,hcz24_1,hcz24_2,hfz24_0,hfz24_1,hfz24_2⟩ := bk3_ BK510) | ((with_reducible refine gate_callee (f := 66) rfl ?_);refine gL_ (some 8) Try.func66 #[.agg #[.slice A0_0 l0_0.length c0_0,.slice A0_1 l0_1.length c0_1,.slice A0_2 l0_2.length c0_2]] ?_;(with_reducible refine (impl_CostOk.calls k _ _ l0_0 _ _ l0_1 _ _ l0_2 false _ (cx_ HR0_0 HB) HC0_0.out (cx_ HR0_1 HB) HC0_1.out (cx_ HR0_2 HB) HC0_2.out A4.out).mono ?_);rintro e w25 ⟨rfl,hb⟩;refine ⟨_,rfl,?_⟩;replace BK510 := tK_ BK510 hb;replace HB := tB_ HB hb;(try clear hb)))
  go_ret
  exact ⟨ea_,(bl_ HB).out⟩
end Go.Proofs.Ytngphdmbjenkaaa.X
namespace Go.Proofs.Ytngphdmbjenkaaa.X
open Go.RowKit Go.Proofs.YtngphdmbjenkaaaW.PrintWords Go.Proofs.YtngphdmbjenkaaaW.PrintLast Go.Proofs.YtngphdmbjenkaaaW.PrintMore
attribute [local go_sem] max2_int min2_int max_two min_two max_three min_three max_four min_four   -- for this text's walks alone
set_option linter.unusedVariables false
set_option linter.unusedSimpArgs false
mutual
def spec_KidsOf.l0 : Nat → List (S77) → Int → List Int → Int → Option (List Int)
 | 0,_,_,_,_ => none
 | k + 1,x0,x1,x5,x6 => (spec_l3At.f k x0 x1).bind fun t830 => (if t830 = true then ((spec_EndOf.f k x0 x1).bind fun t831 => (spec_KidsOf.j1 k x0 x1 x5 x6 (decide (x6 < t831)))) else (spec_KidsOf.j1 k x0 x1 x5 x6 false))
def spec_KidsOf.j1 : Nat → List (S77) → Int → List Int → Int → Bool → Option (List Int)
 | 0,_,_,_,_,_ => none
 | k + 1,x0,x1,x5,x6,x19 => if x19 = true then (if 0 ≤ x6 then (if x6 < (x0.length : Int) then (if 0 ≤ x1 then (if x1 < (x0.length : Int) then (if ((rd_T77 x0 x6).f1) = (wrap64 (((rd_T77 x0 x1).f1) + 1)) then (if x5.length < 17592186044416 then (spec_KidsOf.l0 k x0 x1 (x5 ++ [x6]) (wrap64 (x6 + 1))) else (none)) else (spec_KidsOf.l0 k x0 x1 x5 (wrap64 (x6 + 1)))) else (none)) else (none)) else (none)) else (none)) else (some x5)
end
def spec_KidsOf.f (k : Nat) (l0 : List (S77)) (a1 : Int) : Option (List Int) := spec_KidsOf.l0 k l0 a1 (([] : List Int)) (wrap64 (a1 + 1))
theorem spec_KidsOf.mono_l : ∀ k,(∀ y0 y1 y2 y3,LeO (spec_KidsOf.l0 k y0 y1 y2 y3) (spec_KidsOf.l0 (k + 1) y0 y1 y2 y3)) ∧ (∀ y0 y1 y2 y3 y4,LeO (spec_KidsOf.j1 k y0 y1 y2 y3 y4) (spec_KidsOf.j1 (k + 1) y0 y1 y2 y3 y4))
 | 0 => ⟨fun _ _ _ _ r h => by simp [spec_KidsOf.l0] at h,fun _ _ _ _ _ r h => by simp [spec_KidsOf.j1] at h⟩
 | k + 1 => by
  obtain ⟨ih0,ih1⟩ := spec_KidsOf.mono_l k
  refine ⟨?_,?_⟩
  ·intro y0 y1 y2 y3
   unfold spec_KidsOf.l0
   repeat' first
   | (with_reducible exact ih0 _ _ _ _)
   | (with_reducible exact ih1 _ _ _ _ _)
   | (with_reducible exact spec_EndOf.mono _ _ _)
   | (with_reducible exact spec_l3At.mono _ _ _)
   | (with_reducible exact LeO.refl _)
   | (with_reducible exact LeO.none _)
   | (with_reducible refine LeO.ite ?_ ?_)
   | (with_reducible refine LeO.bind ?_ (fun _ => ?_))
   | exact ih0 _ _ _ _
   | exact ih1 _ _ _ _ _
   | exact spec_EndOf.mono _ _ _
   | exact spec_l3At.mono _ _ _
   | exact LeO.none _
   | refine LeO.ite ?_ ?_
   | refine LeO.bind ?_ (fun _ => ?_)
  ·intro y0 y1 y2 y3 y4
   unfold spec_KidsOf.j1
   repeat' first
   | (with_reducible exact ih0 _ _ _ _)
   | (with_reducible exact ih1 _ _ _ _ _)
   | (with_reducible exact spec_EndOf.mono _ _ _)
   | (with_reducible exact spec_l3At.mono _ _ _)
   | (with_reducible exact LeO.refl _)
   | (with_reducible exact LeO.none _)
   | (with_reducible refine LeO.ite ?_ ?_)
   | (with_reducible refine LeO.bind ?_ (fun _ => ?_))
   | exact ih0 _ _ _ _
   | exact ih1 _ _ _ _ _
   | exact spec_EndOf.mono _ _ _
   | exact spec_l3At.mono _ _ _
   | exact LeO.none _
   | refine LeO.ite ?_ ?_
   | refine LeO.bind ?_ (fun _ => ?_)
theorem spec_KidsOf.mono : ∀ a0 a1 k,LeO (spec_KidsOf.f k a0 a1) (spec_KidsOf.f (k + 1) a0 a1) := by
 intro a0 a1 k
 obtain ⟨ih0,ih1⟩ := spec_KidsOf.mono_l k
 unfold spec_KidsOf.f
 repeat' first
   | (with_reducible exact ih0 _ _ _ _)
   | (with_reducible exact ih1 _ _ _ _ _)
   | (with_reducible exact spec_EndOf.mono _ _ _)
   | (with_reducible exact spec_l3At.mono _ _ _)
   | (with_reducible exact LeO.refl _)
   | (with_reducible exact LeO.none _)
   | (with_reducible refine LeO.ite ?_ ?_)
   | (with_reducible refine LeO.bind ?_ (fun _ => ?_))
   | exact ih0 _ _ _ _
   | exact ih1 _ _ _ _ _
   | exact spec_EndOf.mono _ _ _
   | exact spec_l3At.mono _ _ _
   | exact LeO.none _
   | refine LeO.ite ?_ ?_
   | refine LeO.bind ?_ (fun _ => ?_)
set_option maxHeartbeats 8000000 in
set_option maxRecDepth 100000 in
theorem spec_KidsOf.calls (k : Nat) (A0 : Option Addr) (c0 : Nat) (l0 : List (S77)) (a1 : Int) (r : List Int) (w : World) (hr0 : Kd.C k77 w A0 l0.length l0) (hc0 : l0.length ≤ c0) (h : spec_KidsOf.f k l0 a1 = some r) :
  Calls Try.prog 135 #[.slice A0 l0.length c0,.int .i64 a1] w fun e w' => ∃ v0_ : Value,e = .returned (v0_) ∧ Kd.R (Kd.int .i64) 3 w' w.heap.size (fun _ => True) v0_ r ∧ Below w.heap.size w w' := by
 have HR0 := Aside0.mk hr0
 have HC0 := Aside0.mk hc0
 clear hr0 hc0
 have HB := Aside0.mk (Below.refl w.heap.size w)
 have H : (spec_KidsOf.l0 k l0 a1 (([] : List Int)) (wrap64 (a1 + 1))) = some r := h
 clear h
 obtain ⟨y827,hy827⟩ : ∃ y_ : List Int,y_ = (([] : List Int)) := ⟨_,rfl⟩
 replace H : (spec_KidsOf.l0 k l0 a1 y827 (wrap64 (a1 + 1))) = some r := by first | (rw [hy827];with_reducible exact H) | (have H2_ := (Option.bind_some _ _).symm.trans H;rw [hy827];with_reducible exact H2_) | (have H2_ := (Option.bind_some _ _).symm.trans H;with_reducible exact H2_) | with_reducible exact H | (rw [hy827];exact H) | exact H
 have Ny827 := Aside0.mk hy827
 clear hy827
 have H' := Aside0.mk H
 clear H
 go_enter Try.func135,Try.ntmps135
 go_wp2_with (first | ((with_reducible refine gate_dst (N := 7) rfl ?_);refine Kd.R_lit (Kd.int .i64) _ 3 ?hg (N := 7) ?hd (xs := ([] : List Int)) (inner := []) (ok := fun _ => True) (okp := fun _ => True) ?hr ?hp (fun _ hk => hk) trivial (Below.refl _ _) (Nat.le_refl _) (by simp) ?_;(case hd => rfl);(case hg => rfl);(case hr => first | (go_simp;done) | (go_simp;rfl));(case hp => exact (Reps.none _ _));intro v828 w3 ho4 hb hg_ hnew_;clear hg_ hnew_;(first | rw [← Ny827.out] at ho4 | (simp only [Int.reduceToNat] at ho4;rw [← Ny827.out] at ho4));have HO829 := Aside0.mk (Kd.R_lower ho4 (bs_ HB));replace HB := tB_ HB hb;clear hb ho4))
 repeat (go_quiet (first | ((with_reducible refine gate_dst (N := 7) rfl ?_);refine Kd.R_lit (Kd.int .i64) _ 3 ?hg (N := 7) ?hd (xs := ([] : List Int)) (inner := []) (ok := fun _ => True) (okp := fun _ => True) ?hr ?hp (fun _ hk => hk) trivial (Below.refl _ _) (Nat.le_refl _) (by simp) ?_;(case hd => rfl);(case hg => rfl);(case hr => first | (go_simp;done) | (go_simp;rfl));(case hp => exact (Reps.none _ _));intro v828 w3 ho4 hb hg_ hnew_;clear hg_ hnew_;(first | rw [← Ny827.out] at ho4 | (simp only [Int.reduceToNat] at ho4;rw [← Ny827.out] at ho4));have HO829 := Aside0.mk (Kd.R_lower ho4 (bs_ HB));replace HB := tB_ HB hb;clear hb ho4));try go_wp2_with (first | ((with_reducible refine gate_dst (N := 7) rfl ?_);refine Kd.R_lit (Kd.int .i64) _ 3 ?hg (N := 7) ?hd (xs := ([] : List Int)) (inner := []) (ok := fun _ => True) (okp := fun _ => True) ?hr ?hp (fun _ hk => hk) trivial (Below.refl _ _) (Nat.le_refl _) (by simp) ?_;(case hd => rfl);(case hg => rfl);(case hr => first | (go_simp;done) | (go_simp;rfl));(case hp => exact (Reps.none _ _));intro v828 w3 ho4 hb hg_ hnew_;clear hg_ hnew_;(first | rw [← Ny827.out] at ho4 | (simp only [Int.reduceToNat] at ho4;rw [← Ny827.out] at ho4));have HO829 := Aside0.mk (Kd.R_lower ho4 (bs_ HB));replace HB := tB_ HB hb;clear hb ho4)))
 go_loopg [5,6] k (fun kq v5 v6 w' => ∃ (x5_1 : List Int) (x6_1 : Int),v6 = .int .i64 x6_1 ∧ Aside0 (spec_KidsOf.l0 kq l0 a1 x5_1 x6_1 = some r) ∧ Aside0 (kq ≤ k) ∧ Aside0 (Kd.R (Kd.int .i64) 3 w' w.heap.size (fun _ => True) v5 x5_1) ∧ Aside0 (Below w.heap.size w w'))
 case atStart => exact ⟨(y827),(wrap64 (a1 + 1)),eb_,H',⟨Nat.le_refl _⟩,⟨rx_ HO829.out⟩,bl_ HB⟩
 case round =>
  clear H'
  try clear c1
  try clear p2
  obtain ⟨x5_1,x6_1,rfl,HA,HK1,HO_5,HB⟩ := hrel
  cases gk with
  | zero => exact absurd HA.out (by simp [spec_KidsOf.l0])
  | succ k1 =>
   have H := HA.out
   clear HA
   simp only [spec_KidsOf.l0] at H
   have HC5 := Aside0.mk H
   clear H
   go_upto_region 3 with (fail)
   repeat (go_quiet (fail);go_upto_region 3 with (fail))
   go_cut [19] (fun v19 wc => ∃ (kq : Nat) (x19_4 : Bool),v19 = .bool x19_4 ∧ Aside0 (spec_KidsOf.j1 kq l0 a1 x5_1 x6_1 x19_4 = some r) ∧ Aside0 (kq ≤ k1) ∧ Aside0 (Kd.R (Kd.int .i64) 3 wc w.heap.size (fun _ => True) u5 x5_1) ∧ Aside0 (Below w.heap.size w wc))
   case first =>
    have H := HC5.out
    clear HC5
    replace H := Option.bind_eq_some_iff.mp H
    obtain ⟨t830,A60,H⟩ := H
    try dsimp only at H
    have A6 := Aside0.mk A60
    clear A60
    by_cases c7 : t830 = true
    ·subst c7
     have H1 : ((spec_EndOf.f k1 l0 a1).bind fun t831 => (spec_KidsOf.j1 k1 l0 a1 x5_1 x6_1 (decide (x6_1 < t831)))) = some r := by rw [if_pos rfl] at H;exact H
     clear H
     have H := H1
     clear H1
     replace H := Option.bind_eq_some_iff.mp H
     obtain ⟨t831,A80,H⟩ := H
     replace H : (spec_KidsOf.j1 k1 l0 a1 x5_1 x6_1 (decide (x6_1 < t831))) = some r := H
     have A8 := Aside0.mk A80
     clear A80
     have H' := Aside0.mk H
     clear H
     go_wp2_with (first | (go_at_call 70;(with_reducible refine (spec_l3At.calls k1 _ _ l0 a1 true _ (cx_ HR0 HB) HC0.out A6.out).mono ?_);rintro e w9 ⟨rfl,hb⟩;replace HO_5 := tR_ HO_5 hb;replace HB := tB_ HB hb;(try clear hb)) | (go_at_call 91;(with_reducible refine (spec_EndOf.calls k1 _ _ l0 a1 t831 _ (cx_ HR0 HB) HC0.out A8.out).mono ?_);rintro e w10 ⟨rfl,hb⟩;replace HO_5 := tR_ HO_5 hb;replace HB := tB_ HB hb;(try clear hb)))
     repeat (go_quiet (first | (go_at_call 70;(with_reducible refine (spec_l3At.calls k1 _ _ l0 a1 true _ (cx_ HR0 HB) HC0.out A6.out).mono ?_);rintro e w9 ⟨rfl,hb⟩;replace HO_5 := tR_ HO_5 hb;replace HB := tB_ HB hb;(try clear hb)) | (go_at_call 91;(with_reducible refine (spec_EndOf.calls k1 _ _ l0 a1 t831 _ (cx_ HR0 HB) HC0.out A8.out).mono ?_);rintro e w10 ⟨rfl,hb⟩;replace HO_5 := tR_ HO_5 hb;replace HB := tB_ HB hb;(try clear hb)));try go_wp2_with (first | (go_at_call 70;(with_reducible refine (spec_l3At.calls k1 _ _ l0 a1 true _ (cx_ HR0 HB) HC0.out A6.out).mono ?_);rintro e w9 ⟨rfl,hb⟩;replace HO_5 := tR_ HO_5 hb;replace HB := tB_ HB hb;(try clear hb)) | (go_at_call 91;(with_reducible refine (spec_EndOf.calls k1 _ _ l0 a1 t831 _ (cx_ HR0 HB) HC0.out A8.out).mono ?_);rintro e w10 ⟨rfl,hb⟩;replace HO_5 := tR_ HO_5 hb;replace HB := tB_ HB hb;(try clear hb))))
     go_meet
     case rel => exact ⟨_,(decide (x6_1 < t831)),eb_,H',⟨by have := HK1.out;first | omega | exact Nat.le_refl _⟩,⟨rx_ HO_5.out⟩,bl_ HB⟩
    ·replace c7 := Bool.eq_false_iff.mpr c7
     subst c7
     have H1 : (spec_KidsOf.j1 k1 l0 a1 x5_1 x6_1 false) = some r := by rw [if_neg (show ¬ (false = true) by decide)] at H;exact H
     clear H
     have H := H1
     clear H1
     have H' := Aside0.mk H
     clear H
     go_wp2_with (first | (go_at_call 70;(with_reducible refine (spec_l3At.calls k1 _ _ l0 a1 false _ (cx_ HR0 HB) HC0.out A6.out).mono ?_);rintro e w11 ⟨rfl,hb⟩;replace HO_5 := tR_ HO_5 hb;replace HB := tB_ HB hb;(try clear hb)))
     repeat (go_quiet (first | (go_at_call 70;(with_reducible refine (spec_l3At.calls k1 _ _ l0 a1 false _ (cx_ HR0 HB) HC0.out A6.out).mono ?_);rintro e w11 ⟨rfl,hb⟩;replace HO_5 := tR_ HO_5 hb;replace HB := tB_ HB hb;(try clear hb)));try go_wp2_with (first | (go_at_call 70;(with_reducible refine (spec_l3At.calls k1 _ _ l0 a1 false _ (cx_ HR0 HB) HC0.out A6.out).mono ?_);rintro e w11 ⟨rfl,hb⟩;replace HO_5 := tR_ HO_5 hb;replace HB := tB_ HB hb;(try clear hb))))
     go_meet
     case rel => exact ⟨_,(false),eb_,H',⟨by have := HK1.out;first | omega | exact Nat.le_refl _⟩,⟨rx_ HO_5.out⟩,bl_ HB⟩
   case rest =>
    clear HC5
    try clear c1
    try clear p2
    try clear p6
    try clear c7
    try clear p2
    obtain ⟨kq,x19_4,rfl,HA,HJ4,HO_5,HB⟩ := hcut
    cases kq with
    | zero => exact absurd HA.out (by simp [spec_KidsOf.j1])
    | succ kj4 =>
     have H := HA.out
     clear HA
     simp only [spec_KidsOf.j1] at H
     by_cases c12 : x19_4 = true
     ·subst c12
      have H1 : (if 0 ≤ x6_1 then (if x6_1 < (l0.length : Int) then (if 0 ≤ a1 then (if a1 < (l0.length : Int) then (if ((rd_T77 l0 x6_1).f1) = (wrap64 (((rd_T77 l0 a1).f1) + 1)) then (if x5_1.length < 17592186044416 then (spec_KidsOf.l0 kj4 l0 a1 (x5_1 ++ [x6_1]) (wrap64 (x6_1 + 1))) else (none)) else (spec_KidsOf.l0 kj4 l0 a1 x5_1 (wrap64 (x6_1 + 1)))) else (none)) else (none)) else (none)) else (none)) = some r := by rw [if_pos rfl] at H;exact H
      clear H
      have H := H1
      clear H1
      by_cases c13 : 0 ≤ x6_1
      ·rw [if_pos c13] at H
       have c13b0 : decide (0 ≤ x6_1) = true := decide_eq_true c13
       clear c13
       by_cases c14 : x6_1 < (l0.length : Int)
       ·rw [if_pos c14] at H
        have c14b0 : decide (x6_1 < (l0.length : Int)) = true := decide_eq_true c14
        clear c14
        by_cases c15 : 0 ≤ a1
        ·rw [if_pos c15] at H
         have c15b0 : decide (0 ≤ a1) = true := decide_eq_true c15
         clear c15
         by_cases c16 : a1 < (l0.length : Int)
         ·rw [if_pos c16] at H
          have c16b0 : decide (a1 < (l0.length : Int)) = true := decide_eq_true c16
          clear c16
          by_cases c17 : ((rd_T77 l0 x6_1).f1) = (wrap64 (((rd_T77 l0 a1).f1) + 1))
          ·rw [if_pos c17] at H
           have c17b0 : (((rd_T77 l0 x6_1).f1) == (wrap64 (((rd_T77 l0 a1).f1) + 1))) = true := beq_iff_eq.mpr c17
           have c17b1 : (((rd_T77 l0 x6_1).f1) != (wrap64 (((rd_T77 l0 a1).f1) + 1))) = false := bne_eq_false_iff_eq.mpr c17
           clear c17
           by_cases c18 : x5_1.length < 17592186044416
           ·rw [if_pos c18] at H
            have LMc18 := Aside0.mk c18
            clear c18
            obtain ⟨y834,hy834⟩ : ∃ y_ : List Int,y_ = (x5_1 ++ [x6_1]) := ⟨_,rfl⟩
            replace H : (spec_KidsOf.l0 kj4 l0 a1 y834 (wrap64 (x6_1 + 1))) = some r := by first | (rw [hy834];with_reducible exact H) | (have H2_ := (Option.bind_some _ _).symm.trans H;rw [hy834];with_reducible exact H2_) | (have H2_ := (Option.bind_some _ _).symm.trans H;with_reducible exact H2_) | with_reducible exact H | (rw [hy834];exact H) | exact H
            have Ny834 := Aside0.mk hy834
            clear hy834
            have H' := Aside0.mk H
            clear H
            have p832 : 0 ≤ (x6_1 : Int) := od_
            have q832 : x6_1 < (l0.length : Int) := od_
            obtain ⟨ad832,e832,hx832_0,hx832_1⟩ := at_T77 HR0.out x6_1 p832 q832
            cases e832
            replace hx832_0 := ce_ HB hx832_0
            replace hx832_1 := ce_ HB hx832_1
            replace p832 := eq_true p832
            replace q832 := eq_true q832
            have p833 : 0 ≤ (a1 : Int) := od_
            have q833 : a1 < (l0.length : Int) := od_
            obtain ⟨ad833,e833,hx833_0,hx833_1⟩ := at_T77 HR0.out a1 p833 q833
            obtain rfl : ad832 = ad833 := (by injection e833)
            replace hx833_0 := ce_ HB hx833_0
            replace hx833_1 := ce_ HB hx833_1
            replace p833 := eq_true p833
            replace q833 := eq_true q833
            go_wp2_with (first | ((with_reducible refine gate_builtin (b := .append) (xs := #[.tmp 34,.tmp 36]) rfl ?_);at_builtin;refine Kd.R_append (Kd.int .i64) (w0 := w) w.heap.size rfl (.tmp 34) (.tmp 36) 25 3 (.int .i64 0) 8 rfl Try.underlying25 info3 rfl (by decide) (by omega) u5 x5_1 x6_1 [.int .i64 x6_1] (fun _ => True) (fun _ => False) rfl rfl ?aP (fun _ hk => hk.elim) ?aF ?aO ?aB ?aS ?aL ?_;(case aP => exact rfl);(case aB => exact ((bl_ HB).out));(case aF => exact (fun _ _ => trivial));(case aO => exact (rx_ HO_5.out));(case aS => exact (bs_ HB));(case aL => have := LMc18.out;omega);intro v835 w19 ho hb hg hat;rw [← Ny834.out] at ho;replace HB := Aside0.mk (hb);have HO836 := Aside0.mk (ho);clear HO_5;clear ho hb hg hat))
            repeat (go_quiet (first | ((with_reducible refine gate_builtin (b := .append) (xs := #[.tmp 34,.tmp 36]) rfl ?_);at_builtin;refine Kd.R_append (Kd.int .i64) (w0 := w) w.heap.size rfl (.tmp 34) (.tmp 36) 25 3 (.int .i64 0) 8 rfl Try.underlying25 info3 rfl (by decide) (by omega) u5 x5_1 x6_1 [.int .i64 x6_1] (fun _ => True) (fun _ => False) rfl rfl ?aP (fun _ hk => hk.elim) ?aF ?aO ?aB ?aS ?aL ?_;(case aP => exact rfl);(case aB => exact ((bl_ HB).out));(case aF => exact (fun _ _ => trivial));(case aO => exact (rx_ HO_5.out));(case aS => exact (bs_ HB));(case aL => have := LMc18.out;omega);intro v835 w19 ho hb hg hat;rw [← Ny834.out] at ho;replace HB := Aside0.mk (hb);have HO836 := Aside0.mk (ho);clear HO_5;clear ho hb hg hat));try go_wp2_with (first | ((with_reducible refine gate_builtin (b := .append) (xs := #[.tmp 34,.tmp 36]) rfl ?_);at_builtin;refine Kd.R_append (Kd.int .i64) (w0 := w) w.heap.size rfl (.tmp 34) (.tmp 36) 25 3 (.int .i64 0) 8 rfl Try.underlying25 info3 rfl (by decide) (by omega) u5 x5_1 x6_1 [.int .i64 x6_1] (fun _ => True) (fun _ => False) rfl rfl ?aP (fun _ hk => hk.elim) ?aF ?aO ?aB ?aS ?aL ?_;(case aP => exact rfl);(case aB => exact ((bl_ HB).out));(case aF => exact (fun _ _ => trivial));(case aO => exact (rx_ HO_5.out));(case aS => exact (bs_ HB));(case aL => have := LMc18.out;omega);intro v835 w19 ho hb hg hat;rw [← Ny834.out] at ho;replace HB := Aside0.mk (hb);have HO836 := Aside0.mk (ho);clear HO_5;clear ho hb hg hat)))
            go_roundg kj4
            case measure => have := HK1.out;have := HJ4.out;omega
            case rel => exact ⟨(y834),(wrap64 (x6_1 + 1)),eb_,H',⟨by have := HK1.out;have := HJ4.out;omega⟩,⟨rx_ HO836.out⟩,bl_ HB⟩
           ·rw [if_neg c18] at H
            exact absurd H (by simp)
          ·rw [if_neg c17] at H
           have c17b0 : (((rd_T77 l0 x6_1).f1) == (wrap64 (((rd_T77 l0 a1).f1) + 1))) = false := beq_eq_false_iff_ne.mpr c17
           have c17b1 : (((rd_T77 l0 x6_1).f1) != (wrap64 (((rd_T77 l0 a1).f1) + 1))) = true := bne_iff_ne.mpr c17
           have H' := Aside0.mk H
           clear H
           have p832 : 0 ≤ (x6_1 : Int) := od_
           have q832 : x6_1 < (l0.length : Int) := od_
           obtain ⟨ad832,e832,hx832_0,hx832_1⟩ := at_T77 HR0.out x6_1 p832 q832
           cases e832
           replace hx832_0 := ce_ HB hx832_0
           replace hx832_1 := ce_ HB hx832_1
           replace p832 := eq_true p832
           replace q832 := eq_true q832
           have p833 : 0 ≤ (a1 : Int) := od_
           have q833 : a1 < (l0.length : Int) := od_
           obtain ⟨ad833,e833,hx833_0,hx833_1⟩ := at_T77 HR0.out a1 p833 q833
           obtain rfl : ad832 = ad833 := (by injection e833)
           replace hx833_0 := ce_ HB hx833_0
           replace hx833_1 := ce_ HB hx833_1
           replace p833 := eq_true p833
           replace q833 := eq_true q833
           go_wp2
           repeat (go_quiet (fail);try go_wp2)
           go_roundg kj4
           case measure => have := HK1.out;have := HJ4.out;omega
           case rel => exact ⟨(x5_1),(wrap64 (x6_1 + 1)),eb_,H',⟨by have := HK1.out;have := HJ4.out;omega⟩,⟨rx_ HO_5.out⟩,bl_ HB⟩
         ·rw [if_neg c16] at H
          exact absurd H (by simp)
        ·rw [if_neg c15] at H
         exact absurd H (by simp)
       ·rw [if_neg c14] at H
        exact absurd H (by simp)
      ·rw [if_neg c13] at H
       exact absurd H (by simp)
     ·replace c12 := Bool.eq_false_iff.mpr c12
      subst c12
      have H1 : (some x5_1) = some r := by rw [if_neg (show ¬ (false = true) by decide)] at H;exact H
      clear H
      have H := H1
      clear H1
      obtain rfl := Option.some.inj H
      go_wp2
      repeat (go_quiet (fail);try go_wp2)
      go_ret
      exact ⟨_,ea_,rx_ HO_5.out,(bl_ HB).out⟩
end Go.Proofs.Ytngphdmbjenkaaa.X
namespace Go.Proofs.Ytngphdmbjenkaaa.X
open Go.RowKit Go.Proofs.YtngphdmbjenkaaaW.PrintWords Go.Proofs.YtngphdmbjenkaaaW.PrintLast Go.Proofs.YtngphdmbjenkaaaW.PrintMore
attribute [local go_sem] max2_int min2_int max_two min_two max_three min_three max_four min_four   -- for this text's walks alone
set_option linter.unusedVariables false
set_option linter.unusedSimpArgs false
mutual
def spec_l6Post.l0 : Nat → List (S77) → Int → List Int → List Int → Int → Option (List Int)
 | 0,_,_,_,_,_ => none
 | k + 1,x0,x1,x5,x6,x7 => if x7 < (x6.length : Int) then (if 0 ≤ x7 then ((spec_l6Post.f k x0 (rd x6 x7)).bind fun t844 => (if x5.length + t844.length < 17592186044416 then (spec_l6Post.l0 k x0 x1 (x5 ++ t844) x6 (wrap64 (x7 + 1))) else (none))) else (none)) else (if x5.length < 17592186044416 then (some (x5 ++ [x1])) else (none))
def spec_l6Post.f : Nat → List (S77) → Int → Option (List Int)
 | 0,_,_ => none
 | k + 1,l0,a1 => (spec_KidsOf.f k l0 a1).bind fun t840 => (spec_l6Post.l0 k l0 a1 (([] : List Int)) t840 0)
end
theorem spec_l6Post.mono_l : ∀ k,(∀ y0 y1,LeO (spec_l6Post.f k y0 y1) (spec_l6Post.f (k + 1) y0 y1)) ∧ (∀ y0 y1 y2 y3 y4,LeO (spec_l6Post.l0 k y0 y1 y2 y3 y4) (spec_l6Post.l0 (k + 1) y0 y1 y2 y3 y4))
 | 0 => ⟨fun _ _ r h => by simp [spec_l6Post.f] at h,fun _ _ _ _ _ r h => by simp [spec_l6Post.l0] at h⟩
 | k + 1 => by
  obtain ⟨ih0,ih1⟩ := spec_l6Post.mono_l k
  refine ⟨?_,?_⟩
  ·intro y0 y1
   unfold spec_l6Post.f
   repeat' first
   | (with_reducible exact ih0 _ _)
   | (with_reducible exact ih1 _ _ _ _ _)
   | (with_reducible exact spec_KidsOf.mono _ _ _)
   | (with_reducible exact LeO.refl _)
   | (with_reducible exact LeO.none _)
   | (with_reducible refine LeO.ite ?_ ?_)
   | (with_reducible refine LeO.bind ?_ (fun _ => ?_))
   | exact ih0 _ _
   | exact ih1 _ _ _ _ _
   | exact spec_KidsOf.mono _ _ _
   | exact LeO.none _
   | refine LeO.ite ?_ ?_
   | refine LeO.bind ?_ (fun _ => ?_)
  ·intro y0 y1 y2 y3 y4
   unfold spec_l6Post.l0
   repeat' first
   | (with_reducible exact ih0 _ _)
   | (with_reducible exact ih1 _ _ _ _ _)
   | (with_reducible exact spec_KidsOf.mono _ _ _)
   | (with_reducible exact LeO.refl _)
   | (with_reducible exact LeO.none _)
   | (with_reducible refine LeO.ite ?_ ?_)
   | (with_reducible refine LeO.bind ?_ (fun _ => ?_))
   | exact ih0 _ _
   | exact ih1 _ _ _ _ _
   | exact spec_KidsOf.mono _ _ _
   | exact LeO.none _
   | refine LeO.ite ?_ ?_
   | refine LeO.bind ?_ (fun _ => ?_)
theorem spec_l6Post.mono : ∀ a0 a1 k,LeO (spec_l6Post.f k a0 a1) (spec_l6Post.f (k + 1) a0 a1) := by
 intro a0 a1 k
 obtain ⟨ih0,ih1⟩ := spec_l6Post.mono_l k
 exact ih0 a0 a1
set_option maxHeartbeats 8000000 in
set_option maxRecDepth 100000 in
theorem spec_l6Post.calls (k : Nat) : ∀ (A0 : Option Addr) (c0 : Nat) (l0 : List (S77)) (a1 : Int) (r : List Int) (w : World) (hr0 : Kd.C k77 w A0 l0.length l0) (hc0 : l0.length ≤ c0) (h : spec_l6Post.f k l0 a1 = some r),
  Calls Try.prog 140 #[.slice A0 l0.length c0,.int .i64 a1] w fun e w' => ∃ v0_ : Value,e = .returned (v0_) ∧ Kd.R (Kd.int .i64) 3 w' w.heap.size (fun _ => True) v0_ r ∧ Below w.heap.size w w' := by
 induction k using Nat.strongRecOn with
 | _ k ih =>
 intro A0 c0 l0 a1 r w hr0 hc0 h
 cases k with
 | zero => exact absurd h (by simp [spec_l6Post.f])
 | succ k =>
 simp only [spec_l6Post.f] at h
 have HR0 := Aside0.mk hr0
 have HC0 := Aside0.mk hc0
 clear hr0 hc0
 have HB := Aside0.mk (Below.refl w.heap.size w)
 have H : ((spec_KidsOf.f k l0 a1).bind fun t840 => (spec_l6Post.l0 k l0 a1 (([] : List Int)) t840 0)) = some r := h
 clear h
 obtain ⟨y837,hy837⟩ : ∃ y_ : List Int,y_ = (([] : List Int)) := ⟨_,rfl⟩
 replace H : ((spec_KidsOf.f k l0 a1).bind fun t840 => (spec_l6Post.l0 k l0 a1 y837 t840 0)) = some r := by first | (rw [hy837];with_reducible exact H) | (have H2_ := (Option.bind_some _ _).symm.trans H;rw [hy837];with_reducible exact H2_) | (have H2_ := (Option.bind_some _ _).symm.trans H;with_reducible exact H2_) | with_reducible exact H | (rw [hy837];exact H) | exact H
 have Ny837 := Aside0.mk hy837
 clear hy837
 replace H := Option.bind_eq_some_iff.mp H
 obtain ⟨t840,A30,H⟩ := H
 replace H : (spec_l6Post.l0 k l0 a1 y837 t840 0) = some r := H
 have A3 := Aside0.mk A30
 clear A30
 have H' := Aside0.mk H
 clear H
 go_enter Try.func140,Try.ntmps140
 go_wp2_with (first | ((with_reducible refine gate_dst (N := 8) rfl ?_);refine Kd.R_lit (Kd.int .i64) _ 3 ?hg (N := 8) ?hd (xs := ([] : List Int)) (inner := []) (ok := fun _ => True) (okp := fun _ => True) ?hr ?hp (fun _ hk => hk) trivial (Below.refl _ _) (Nat.le_refl _) (by simp) ?_;(case hd => rfl);(case hg => rfl);(case hr => first | (go_simp;done) | (go_simp;rfl));(case hp => exact (Reps.none _ _));intro v838 w4 ho5 hb hg_ hnew_;clear hg_ hnew_;(first | rw [← Ny837.out] at ho5 | (simp only [Int.reduceToNat] at ho5;rw [← Ny837.out] at ho5));have HO839 := Aside0.mk (Kd.R_lower ho5 (bs_ HB));replace HB := tB_ HB hb;clear hb ho5) | ((with_reducible refine gate_callee (f := 135) rfl ?_);refine gL_ (some 11) Try.func135 #[.slice A0 l0.length c0,.int .i64 a1] ?_;(with_reducible refine (spec_KidsOf.calls k _ _ l0 a1 t840 _ (cx_ HR0 HB) HC0.out A3.out).mono ?_);rintro e w6 ⟨v841,rfl,ho0,hb⟩;refine ⟨_,rfl,?_⟩;have HO842 := Aside0.mk (Kd.R_lower (Kd.R_new' ho0 (Kd.R_lt (rx_ HO839.out))) (bs_ HB));replace HO839 := Aside0.mk (Kd.R_elder' (rx_ HO839.out) (Kd.R_base ho0) hb);replace HB := tB_ HB hb;(try clear hb);(try clear ho0)))
 go_loopg [5,7] k (fun kq v5 v7 w' => ∃ (x5_1 : List Int) (x7_1 : Int),v7 = .int .i64 x7_1 ∧ Aside0 (spec_l6Post.l0 kq l0 a1 x5_1 t840 x7_1 = some r) ∧ Aside0 (kq ≤ k) ∧ Aside0 (Kd.R (Kd.int .i64) 3 w' w.heap.size (fun k_ => some k_ ≠ (v841 : Value).ownBlock) v5 x5_1) ∧ Aside0 (Kd.R (Kd.int .i64) 3 w' w.heap.size (fun k_ => some k_ ≠ (v5 : Value).ownBlock) v841 t840) ∧ Aside0 (Below w.heap.size w w'))
 case atStart => exact ⟨(y837),(0),eb_,H',⟨Nat.le_refl _⟩,⟨rx_ (Kd.R_mono HO839.out (fun _ hk => hk.2))⟩,⟨rx_ (Kd.R_mono HO842.out (fun _ hk => hk.2))⟩,bl_ HB⟩
 case round =>
  clear H'
  try clear c1
  try clear p2
  obtain ⟨x5_1,x7_1,rfl,HA,HK1,HO_5,HO_6,HB⟩ := hrel
  cases gk with
  | zero => exact absurd HA.out (by simp [spec_l6Post.l0])
  | succ k1 =>
   have H := HA.out
   clear HA
   simp only [spec_l6Post.l0] at H
   by_cases c7 : x7_1 < (t840.length : Int)
   ·rw [if_pos c7] at H
    have c7b0 : decide (x7_1 < (t840.length : Int)) = true := decide_eq_true c7
    clear c7
    by_cases c8 : 0 ≤ x7_1
    ·rw [if_pos c8] at H
     have c8b0 : decide (0 ≤ x7_1) = true := decide_eq_true c8
     clear c8
     replace H := Option.bind_eq_some_iff.mp H
     obtain ⟨t844,A90,H⟩ := H
     try dsimp only at H
     have A9 := Aside0.mk A90
     clear A90
     by_cases c10 : x5_1.length + t844.length < 17592186044416
     ·rw [if_pos c10] at H
      have LMc10 := Aside0.mk c10
      clear c10
      obtain ⟨y847,hy847⟩ : ∃ y_ : List Int,y_ = (x5_1 ++ t844) := ⟨_,rfl⟩
      replace H : (spec_l6Post.l0 k1 l0 a1 y847 t840 (wrap64 (x7_1 + 1))) = some r := by first | (rw [hy847];with_reducible exact H) | (have H2_ := (Option.bind_some _ _).symm.trans H;rw [hy847];with_reducible exact H2_) | (have H2_ := (Option.bind_some _ _).symm.trans H;with_reducible exact H2_) | with_reducible exact H | (rw [hy847];exact H) | exact H
      have Ny847 := Aside0.mk hy847
      clear hy847
      have H' := Aside0.mk H
      clear H
      obtain ⟨Ao11,co11,eo11⟩ := Kd.R_slice HO_6.out
      subst eo11
      have p843 : 0 ≤ (x7_1 : Int) := od_
      have q843 : x7_1 < (t840.length : Int) := od_
      obtain ⟨ad843,e843,hx843_0⟩ := Kd.at_int (Kd.R_reads' HO_6.out).2.2 x7_1 p843 q843
      cases e843
      replace p843 := eq_true p843
      replace q843 := eq_true q843
      go_wp2_with (first | ((with_reducible refine gate_callee (f := 140) rfl ?_);refine gL_ (some 24) Try.func140 #[.slice A0 l0.length c0,.int .i64 (rd t840 x7_1)] ?_;(with_reducible refine (ih k1 (by have := HK1.out;omega) _ _ l0 (rd t840 x7_1) t844 _ ?side1 ?side2 A9.out).mono ?_);(case side1 => exact cx_ HR0 HB);(case side2 => exact HC0.out);rintro e w12 ⟨v845,rfl,ho0,hb⟩;refine ⟨_,rfl,?_⟩;have HO846 := Aside0.mk (Kd.R_lower (Kd.R_new' (Kd.R_new' ho0 (Kd.R_lt (rx_ HO_5.out))) (Kd.R_lt (rx_ HO_6.out))) (bs_ HB));replace HO_5 := Aside0.mk (Kd.R_elder' (rx_ HO_5.out) (Kd.R_base ho0) hb);replace HO_6 := Aside0.mk (Kd.R_elder' (rx_ HO_6.out) (Kd.R_base ho0) hb);replace HB := tB_ HB hb;(try clear hb);(try clear ho0);obtain ⟨Ao14,co14,eo14⟩ := Kd.R_slice HO846.out;subst eo14) | ((with_reducible refine gate_builtin (b := .append) (xs := #[.tmp 18,.tmp 24]) rfl ?_);at_builtin;refine Kd.R_append_rows (Kd.int .i64) (w0 := w) w.heap.size rfl (.tmp 18) (.tmp 24) 25 3 (.int .i64 0) 8 rfl Try.underlying25 info3 rfl (by decide) (by omega) u5 x5_1 t844 _ _ _ (fun k_ => some k_ ≠ (.slice (some ad843) t840.length co11 : Value).ownBlock ∧ some k_ ≠ (.slice Ao14 t844.length co14 : Value).ownBlock) (fun _ => False) rfl rfl ?aO ?aR (fun _ _ h => h) (fun _ h => h.elim) ?aF ?aB ?aS ?aL ?_;(case aR => exact cc_ (Kd.R_reads' HO846.out).2.2);(case aB => exact ((bl_ HB).out));(case aF => exact (fun k_ hk => ⟨Kd.fresh' (Kd.R_lt (rx_ HO_6.out)) k_ hk,Kd.fresh' (Kd.R_lt (rx_ HO846.out)) k_ hk⟩));(case aO => exact (rx_ HO_5.out));(case aS => exact (bs_ HB));(case aL => have := LMc10.out;omega);intro v848 w13 ho hb hg hat;rw [← Ny847.out] at ho;replace HO_6 := Aside0.mk (Kd.R_after (ok := (fun k_ => some k_ ≠ (.slice Ao14 t844.length co14 : Value).ownBlock)) (rx_ (Kd.R_mono HO_6.out (fun _ hk => ⟨hk.2,hk.1⟩))) hg hat);replace HO846 := Aside0.mk (Kd.R_after (ok := (fun k_ => some k_ ≠ (.slice (some ad843) t840.length co11 : Value).ownBlock)) (rx_ (Kd.R_mono HO846.out (fun _ hk => ⟨hk.2,hk.1.2⟩))) hg hat);replace HB := Aside0.mk (hb);have HO849 := Aside0.mk (ho);clear HO_5;clear ho hb hg hat))
      go_roundg k1
      case measure => have := HK1.out;omega
      case rel => exact ⟨(y847),(wrap64 (x7_1 + 1)),eb_,H',⟨by have := HK1.out;omega⟩,⟨rx_ (Kd.R_mono HO849.out (fun _ hk => hk.1))⟩,⟨rx_ (Kd.R_mono HO_6.out (fun _ hk => hk.2))⟩,bl_ HB⟩
     ·rw [if_neg c10] at H
      exact absurd H (by simp)
    ·rw [if_neg c8] at H
     exact absurd H (by simp)
   ·rw [if_neg c7] at H
    have c7b0 : decide (x7_1 < (t840.length : Int)) = false := decide_eq_false c7
    clear c7
    by_cases c15 : x5_1.length < 17592186044416
    ·rw [if_pos c15] at H
     have LMc15 := Aside0.mk c15
     clear c15
     obtain ⟨y850,hy850⟩ : ∃ y_ : List Int,y_ = (x5_1 ++ [a1]) := ⟨_,rfl⟩
     replace H : (some y850) = some r := by first | (rw [hy850];with_reducible exact H) | (have H2_ := (Option.bind_some _ _).symm.trans H;rw [hy850];with_reducible exact H2_) | (have H2_ := (Option.bind_some _ _).symm.trans H;with_reducible exact H2_) | with_reducible exact H | (rw [hy850];exact H) | exact H
     have Ny850 := Aside0.mk hy850
     clear hy850
     obtain rfl := Option.some.inj H
     obtain ⟨Ao16,co16,eo16⟩ := Kd.R_slice HO_6.out
     subst eo16
     go_wp2_with (first | ((with_reducible refine gate_builtin (b := .append) (xs := #[.tmp 26,.tmp 28]) rfl ?_);at_builtin;refine Kd.R_append (Kd.int .i64) (w0 := w) w.heap.size rfl (.tmp 26) (.tmp 28) 25 3 (.int .i64 0) 8 rfl Try.underlying25 info3 rfl (by decide) (by omega) u5 x5_1 a1 [.int .i64 a1] (fun k_ => some k_ ≠ (.slice Ao16 t840.length co16 : Value).ownBlock) (fun _ => False) rfl rfl ?aP (fun _ hk => hk.elim) ?aF ?aO ?aB ?aS ?aL ?_;(case aP => exact rfl);(case aB => exact ((bl_ HB).out));(case aF => exact (fun k_ hk => Kd.fresh' (Kd.R_lt (rx_ HO_6.out)) k_ hk));(case aO => exact (rx_ HO_5.out));(case aS => exact (bs_ HB));(case aL => have := LMc15.out;omega);intro v851 w17 ho hb hg hat;rw [← Ny850.out] at ho;replace HO_6 := Aside0.mk (Kd.R_after (ok := (fun _ => True)) (rx_ (Kd.R_mono HO_6.out (fun _ hk => ⟨trivial,hk⟩))) hg hat);replace HB := Aside0.mk (hb);have HO852 := Aside0.mk (ho);clear HO_5;clear ho hb hg hat))
     go_ret
     exact ⟨_,ea_,rx_ (Kd.R_mono HO852.out (fun _ hk => trivial)),(bl_ HB).out⟩
    ·rw [if_neg c15] at H
     exact absurd H (by simp)
end Go.Proofs.Ytngphdmbjenkaaa.X
namespace Go.Proofs.Ytngphdmbjenkaaa.X
open Go.RowKit Go.Proofs.YtngphdmbjenkaaaW.PrintWords Go.Proofs.YtngphdmbjenkaaaW.PrintLast Go.Proofs.YtngphdmbjenkaaaW.PrintMore
attribute [local go_sem] max2_int min2_int max_two min_two max_three min_three max_four min_four   -- for this text's walks alone
set_option linter.unusedVariables false
set_option linter.unusedSimpArgs false
def spec_PostOrder.f (k : Nat) (l0 : List (S77)) : Option (List Int) := (spec_TreeOk.f k l0).bind fun t853 => (if t853 = true then ((spec_l6Post.f k l0 0).bind fun t854 => (some t854)) else (some (([] : List Int))))
theorem spec_PostOrder.mono : ∀ a0 k,LeO (spec_PostOrder.f k a0) (spec_PostOrder.f (k + 1) a0) := by
 intro a0 k
 unfold spec_PostOrder.f
 repeat' first
   | (with_reducible exact spec_TreeOk.mono _ _)
   | (with_reducible exact spec_l6Post.mono _ _ _)
   | (with_reducible exact LeO.refl _)
   | (with_reducible exact LeO.none _)
   | (with_reducible refine LeO.ite ?_ ?_)
   | (with_reducible refine LeO.bind ?_ (fun _ => ?_))
   | exact spec_TreeOk.mono _ _
   | exact spec_l6Post.mono _ _ _
   | exact LeO.none _
   | refine LeO.ite ?_ ?_
   | refine LeO.bind ?_ (fun _ => ?_)
set_option maxHeartbeats 8000000 in
set_option maxRecDepth 100000 in
theorem spec_PostOrder.calls (k : Nat) (A0 : Option Addr) (c0 : Nat) (l0 : List (S77)) (r : List Int) (w : World) (hr0 : Kd.C k77 w A0 l0.length l0) (hc0 : l0.length ≤ c0) (h : spec_PostOrder.f k l0 = some r) :
  Calls Try.prog 98 #[.slice A0 l0.length c0] w fun e w' => ∃ v0_ : Value,e = .returned (v0_) ∧ Kd.R (Kd.int .i64) 3 w' w.heap.size (fun _ => True) v0_ r ∧ Below w.heap.size w w' := by
 have HR0 := Aside0.mk hr0
 have HC0 := Aside0.mk hc0
 clear hr0 hc0
 have HB := Aside0.mk (Below.refl w.heap.size w)
 have H : ((spec_TreeOk.f k l0).bind fun t853 => (if t853 = true then ((spec_l6Post.f k l0 0).bind fun t854 => (some t854)) else (some (([] : List Int))))) = some r := h
 clear h
 replace H := Option.bind_eq_some_iff.mp H
 obtain ⟨t853,A20,H⟩ := H
 try dsimp only at H
 have A2 := Aside0.mk A20
 clear A20
 by_cases c3 : t853 = true
 ·subst c3
  have H1 : ((spec_l6Post.f k l0 0).bind fun t854 => (some t854)) = some r := by rw [if_pos rfl] at H;exact H
  clear H
  have H := H1
  clear H1
  replace H := Option.bind_eq_some_iff.mp H
  obtain ⟨t854,A40,H⟩ := H
  replace H : (some t854) = some r := H
  have A4 := Aside0.mk A40
  clear A40
  obtain rfl := Option.some.inj H
  go_enter Try.func98,Try.ntmps98
  go_wp2_with (first | ((with_reducible refine gate_callee (f := 16) rfl ?_);refine gL_ (some 4) Try.func16 #[.slice A0 l0.length c0] ?_;(with_reducible refine (spec_TreeOk.calls k _ _ l0 true _ (cc_ HR0.out) HC0.out A2.out).mono ?_);rintro e w5 ⟨rfl,hb⟩;refine ⟨_,rfl,?_⟩;replace HB := tB_ HB hb;(try clear hb)) | ((with_reducible refine gate_callee (f := 140) rfl ?_);refine gL_ (some 8) Try.func140 #[.slice A0 l0.length c0,.int .i64 0] ?_;(with_reducible refine (spec_l6Post.calls k _ _ l0 0 t854 _ (cx_ HR0 HB) HC0.out A4.out).mono ?_);rintro e w6 ⟨v855,rfl,ho0,hb⟩;refine ⟨_,rfl,?_⟩;have HO856 := Aside0.mk (Kd.R_lower ho0 (bs_ HB));replace HB := tB_ HB hb;(try clear hb);(try clear ho0)))
  go_ret
  exact ⟨_,ea_,rx_ HO856.out,(bl_ HB).out⟩
 ·replace c3 := Bool.eq_false_iff.mpr c3
  subst c3
  have H1 : (some (([] : List Int))) = some r := by rw [if_neg (show ¬ (false = true) by decide)] at H;exact H
  clear H
  have H := H1
  clear H1
  obtain ⟨y857,hy857⟩ : ∃ y_ : List Int,y_ = (([] : List Int)) := ⟨_,rfl⟩
  replace H : (some y857) = some r := by first | (rw [hy857];with_reducible exact H) | (have H2_ := (Option.bind_some _ _).symm.trans H;rw [hy857];with_reducible exact H2_) | (have H2_ := (Option.bind_some _ _).symm.trans H;with_reducible exact H2_) | with_reducible exact H | (rw [hy857];exact H) | exact H
  have Ny857 := Aside0.mk hy857
  clear hy857
  obtain rfl := Option.some.inj H
  go_enter Try.func98,Try.ntmps98
  go_wp2_with (first | ((with_reducible refine gate_callee (f := 16) rfl ?_);refine gL_ (some 4) Try.func16 #[.slice A0 l0.length c0] ?_;(with_reducible refine (spec_TreeOk.calls k _ _ l0 false _ (cc_ HR0.out) HC0.out A2.out).mono ?_);rintro e w7 ⟨rfl,hb⟩;refine ⟨_,rfl,?_⟩;replace HB := tB_ HB hb;(try clear hb)) | ((with_reducible refine gate_dst (N := 6) rfl ?_);refine Kd.R_lit (Kd.int .i64) _ 3 ?hg (N := 6) ?hd (xs := ([] : List Int)) (inner := []) (ok := fun _ => True) (okp := fun _ => True) ?hr ?hp (fun _ hk => hk) trivial (Below.refl _ _) (Nat.le_refl _) (by simp) ?_;(case hd => rfl);(case hg => rfl);(case hr => first | (go_simp;done) | (go_simp;rfl));(case hp => exact (Reps.none _ _));intro v858 w8 ho9 hb hg_ hnew_;clear hg_ hnew_;(first | rw [← Ny857.out] at ho9 | (simp only [Int.reduceToNat] at ho9;rw [← Ny857.out] at ho9));have HO859 := Aside0.mk (Kd.R_lower ho9 (bs_ HB));replace HB := tB_ HB hb;clear hb ho9))
  go_ret
  exact ⟨_,ea_,rx_ HO859.out,(bl_ HB).out⟩
end Go.Proofs.Ytngphdmbjenkaaa.X
