/- Part 3 of the proof of FnDists: what it needs. -/
import Derived.Test.YtelglbebffdaaaaProg
import Derived.Below
import Derived.Deep.Draws
import Derived.Deep.AppendLies
import Derived.Maps.AppendAt
import Derived.OwnWalk
import Derived.Laws.BytesArg
import Derived.Laws.MakeOwn
import Derived.Laws.OwnMore
import Derived.Deep.OwnRows
import Derived.Tactics
import Derived.Lib.ConvBytes
import Derived.Laws.Slices
import Derived.WalkKit
import Derived.KernelRfl
import Derived.RowKit3
import Derived.Deep.LoopGhost
import Derived.Deep.QuietTactic
import Derived.BigQuiet
import Derived.WideLaws
import Derived.Deep.DeepCutAuto
import Derived.Deep.CutBlock
import Derived.Deep.RegionHeld3
import Derived.Laws.Rows
import Derived.Lib.AppendStr
import Derived.ArgAppend
import Derived.Laws.IdiomCopy
import Derived.OrdersHeld
import Derived.Laws.BitsLemmas
import Derived.RowKit
import Derived.Laws.StructEq
import Derived.SizedLaws
import Derived.ChangeSlices
import Derived.Test.YtelglbebffdaaaaKLDists0
import Derived.Test.YtelglbebffdaaaaKLDists1
import Derived.Test.YtelglbebffdaaaaKLDists2
namespace Go.Proofs.Ytelglbebffdaaaa.X
open Go.RowKit Go.Proofs.YtelglbebffdaaaaW.PrintWords Go.Proofs.YtelglbebffdaaaaW.PrintLast Go.Proofs.YtelglbebffdaaaaW.PrintMore
attribute [local go_sem] max2_int min2_int max_two min_two max_three min_three max_four min_four   -- for this text's walks alone
set_option linter.unusedVariables false
set_option linter.unusedSimpArgs false
def errW : Option Int → Value
  | none => .nilIface
  | some c => .iface 0 (.int .i64 c)
theorem errW_none : errW none = .nilIface := rfl
theorem errW_some (c : Int) : errW (some c) = .iface 0 (.int .i64 c) := rfl
theorem info3 : (Try.prog.info? 3).map (fun i => (i.zero, i.size, i.bytes)) = some (some (.int .i64 0), 1, 8) := by kernel_rfl
theorem info23 : (Try.prog.info? 23).map (fun i => (i.zero, i.size, i.bytes)) = some (some (.slice none 0 0), 1, 24) := by kernel_rfl
theorem info53 : (Try.prog.info? 53).map (fun i => (i.zero, i.size, i.bytes)) = some (some (.agg #[(.int .i64 0), (.int .i64 0)]), 2, 16) := by kernel_rfl
structure S66 where
  f0 : Int
  f1 : Int
def z66 : S66 := ⟨(0 : Int), (0 : Int)⟩
structure S53 where
  f0 : Int
  f1 : Int
def z53 : S53 := ⟨(0 : Int), (0 : Int)⟩
def k53 : Kd S53 := Kd.iso (Kd.pair (Kd.int .i64) (Kd.int .i64)) (fun x : S53 => (x.f0, x.f1))
theorem k53_open {w : World} {x : S53} {cs : List Value} (h : k53.K w x cs) : cs = [.int .i64 x.f0, .int .i64 x.f1] := by
  obtain ⟨_, _, rfl, rfl, rfl⟩ := h
  exact rfl
theorem k53_openM {w : World} {base : Nat} {ok : Nat → Prop} {x : S53} {cs : List Value} (h : k53.M w base ok x cs) : cs = [.int .i64 x.f0, .int .i64 x.f1] := by
  obtain ⟨_, _, rfl, rfl, rfl⟩ := h
  exact rfl
theorem k53_mkM (w : World) (base : Nat) (ok : Nat → Prop) (x : S53)  : k53.M w base ok x [.int .i64 x.f0, .int .i64 x.f1] := ⟨[.int .i64 x.f0], [.int .i64 x.f1], rfl, rfl, rfl⟩
def rd_T53 (xs : List S53) (i : Int) : S53 := xs.getD i.toNat z53
theorem at_T53 {w : World} {A : Option Addr} {n : Nat} {xs : List S53} (h : Kd.C k53 w A n xs) (i : Int) (h0 : 0 ≤ i) (h1 : i < n) : ∃ ad , A = some ad ∧ w.cell? (ad.add (i.toNat * 2)) = some (.int .i64 (rd_T53 xs i).f0) ∧ w.cell? ⟨(ad.add (i.toNat * 2)).block, (ad.add (i.toNat * 2)).off + 1, none⟩ = some (.int .i64 (rd_T53 xs i).f1) := by
  obtain ⟨ad, c, e, _, hK, hc0⟩ := Kd.C_get h z53 i h0 h1
  have hc : ∀ j u, c[j]? = some u → w.cell? (ad.add (i.toNat * 2 + j)) = some u := hc0
  obtain rfl := k53_open hK
  exact ⟨ad, e, hc 0 _ rfl, by rw [← add_field _ _ 1 (by omega)]; exact hc 1 _ rfl⟩
open Go.Proofs.YtelglbebffdaaaaW.PrintWords Go.Proofs.YtelglbebffdaaaaW.PrintLast Go.Proofs.YtelglbebffdaaaaW.PrintMore
def ba_ (n m : Nat) : Array Bool := ((List.range n).map fun i => m.testBit i).toArray
section
variable {P : Program} {md : Region.Mode} {ops : Array Oper} {Q : Exit → Act → World → Prop} {S : World → Prop} {ds : List Nat}
theorem pu_ (i : Nat) (N : Option Tmp) (l' : Array Bool) {oi : Oper} {v : Value} {fuel : Nat} {l : Array Bool} {a : Act} {w : World} {a' : Act} (hi : ops[i]? = some oi) (hN : oi.dst = N) (hc : anyB md ops l l' i = true)
    (h : wpAnyLast P md ops Q S ds fuel l' a' w) (hQ : ∀ c a w, Q (.panic c) (a.put oi.dst v) w → Q (.panic c) a w := by exact fun _ _ _ h => h) (hw : Region.wanted oi (yielded ops a.tmps) = true := by rfl) (hy : ∀ w, (execOp a.eval oi).run P w = .ok (.value v) w := by intro w'; go_simp; with_reducible rfl)
    (ha : a.put N v = a' := by simp only [Act.put, List.setIfInBounds_toArray, List.set_cons_zero, List.set_cons_succ, i64_w, i32_w]; rfl) : wpAnyLast P md ops Q S ds (fuel + 1) l a w := pure_ l' hi hN hc hQ (.inl ⟨hw, hy⟩) ha h
theorem pn_ (i : Nat) (N : Option Tmp) (l' : Array Bool) {oi : Oper} {fuel : Nat} {l : Array Bool} {a : Act} {w : World} {a' : Act} (hi : ops[i]? = some oi) (hN : oi.dst = N) (hc : anyB md ops l l' i = true)
    (h : wpAnyLast P md ops Q S ds fuel l' a' w) (hQ : ∀ c a w, Q (.panic c) (a.put oi.dst undef) w → Q (.panic c) a w := by exact fun _ _ _ h => h) (hw : Region.wanted oi (yielded ops a.tmps) = false := by rfl)
    (ha : a.put N undef = a' := by simp only [Act.put, List.setIfInBounds_toArray, List.set_cons_zero, List.set_cons_succ, i64_w, i32_w]; rfl) : wpAnyLast P md ops Q S ds (fuel + 1) l a w := pure_ l' hi hN hc hQ (.inr ⟨hw, rfl⟩) ha h
theorem ta_ (i : Nat) (N : Option Tmp) (l' : Array Bool) {oi : Oper} {v : Value} {fuel : Nat} {l : Array Bool} {a : Act} {w : World} {a' : Act} (hi : ops[i]? = some oi) (hN : oi.dst = N) (hc : takeB md ops ds l l' i = true) (hS : S w)
    (hy : ∀ w, S w → (execOp a.eval oi).run P w = .ok (.value v) w) (h : wpAnyLast P md ops Q S ds fuel l' a' w) (hQ : ∀ c a w, Q (.panic c) (a.put oi.dst v) w → Q (.panic c) a w := by exact fun _ _ _ h => h) (hw : Region.wanted oi (yielded ops a.tmps) = true := by rfl)
    (ha : a.put N v = a' := by simp only [Act.put, List.setIfInBounds_toArray, List.set_cons_zero, List.set_cons_succ, i64_w, i32_w]; rfl) : wpAnyLast P md ops Q S ds (fuel + 1) l a w := take_ l' hi hN hc hQ (.inl ⟨hw, hy⟩) hS ha h
end
end Go.Proofs.Ytelglbebffdaaaa.X
namespace Go.Proofs.Ytelglbebffdaaaa.X
open Go.RowKit Go.Proofs.YtelglbebffdaaaaW.PrintWords Go.Proofs.YtelglbebffdaaaaW.PrintLast Go.Proofs.YtelglbebffdaaaaW.PrintMore
set_option linter.unusedVariables false
set_option linter.unusedSimpArgs false
class Ch (w W : World) : Prop where
 out : Below w.heap.size w W
instance Ch.refl (w : World) : Ch w w := ⟨Below.refl _ _⟩
instance Ch.alloc (w W : World) (o : Obj) [h : Ch w W] : Ch w (W.alloc o) := ⟨below_alloc h.out o⟩
instance Ch.drewN (w W : World) (n : Nat) [h : Ch w W] : Ch w (W.drewN n) := ⟨pw_below_drewN h.out n⟩
instance Ch.drew (w W : World) [h : Ch w W] : Ch w W.drew := ⟨below_drew1 h.out⟩
theorem bl_ {w0 w W : World} (h : Aside0 (Below w0.heap.size w0 w)) [c : Ch w W] : Aside0 (Below w0.heap.size w0 W) := ⟨below_step h.out c.out⟩
theorem bs_ {w0 w W : World} (h : Aside0 (Below w0.heap.size w0 w)) [c : Ch w W] : w0.heap.size ≤ W.heap.size := (below_step h.out c.out).size
theorem tB_ {w0 w W w2 : World} (h : Aside0 (Below w0.heap.size w0 w)) [c : Ch w W] (hb : Below W.heap.size W w2) : Aside0 (Below w0.heap.size w0 w2) := ⟨below_step (below_step h.out c.out) hb⟩
theorem rx_ {α : Type} {d : Kd α} {e base : Nat} {ok : Nat → Prop} {v : Value} {xs : List α} {w W : World} (h : Kd.R d e w base ok v xs) [c : Ch w W] : Kd.R d e W base ok v xs := Kd.R_below h c.out
theorem tR_ {α : Type} {d : Kd α} {e base : Nat} {ok : Nat → Prop} {v : Value} {xs : List α} {w W w2 : World} (h : Aside0 (Kd.R d e w base ok v xs)) [c : Ch w W] (hb : Below W.heap.size W w2) : Aside0 (Kd.R d e w2 base ok v xs) := ⟨Kd.R_below (Kd.R_below h.out c.out) hb⟩
theorem kx_ {w W : World} {g : Nat} {o : Obj} (h : w.heap[g]? = some o) [c : Ch w W] : W.heap[g]? = some o := blk_below h c.out
theorem tK_ {w W w2 : World} {g : Nat} {o : Obj} (h : Aside0 (w.heap[g]? = some o)) [c : Ch w W] (hb : Below W.heap.size W w2) : Aside0 (w2.heap[g]? = some o) := ⟨blk_below (blk_below h.out c.out) hb⟩
theorem cx_ {α : Type} {d : Kd α} {A : Option Addr} {n : Nat} {xs : List α} {w0 w W : World} (h : Aside0 (Kd.C d w0 A n xs)) (hB : Aside0 (Below w0.heap.size w0 w)) [c : Ch w W] : Kd.C d W A n xs := Kd.C_below (Kd.C_below h.out hB.out) c.out
theorem cc_ {α : Type} {d : Kd α} {A : Option Addr} {n : Nat} {xs : List α} {w W : World} (h : Kd.C d w A n xs) [c : Ch w W] : Kd.C d W A n xs := Kd.C_below h c.out
theorem ce_ {w W : World} (h : Aside0 (Below w.heap.size w W)) {a : Addr} {v : Value} (hc : w.cell? a = some v) : W.cell? a = some v := pw_cell_below h.out hc
theorem od_ {p : Prop} [Decidable p] (h : decide p = true := by first | (with_reducible assumption) | assumption) : p := of_decide_eq_true h
theorem ea_ {α : Type} {a b : α} (h : a = b := by first | rfl | (simp [errW_none, errW_some] <;> rfl) | (simp [*, errW_none, errW_some] <;> rfl)) : a = b := h
theorem eb_ {α : Type} {a b : α} (h : a = b := by first | rfl | (simp; done) | (simp [*]; done)) : a = b := h
section
variable {w : World} {g : Nat} {t : TypeId} {v0 v1 v2 v3 v4 v5 v6 : Value}
theorem bk2_ (h : Aside0 (w.heap[g]? = some (.cells #[v0, v1] t (0, 0)))) : w.cell? ⟨g, 0, none⟩ = some v0 ∧ w.cell? ⟨g, 1, none⟩ = some v1 ∧ w.frozen? ⟨g, 0, none⟩ = false ∧ w.frozen? ⟨g, 1, none⟩ = false :=
 ⟨blk_cell h.out 0, blk_cell h.out 1, blk_frozen h.out 0, blk_frozen h.out 1⟩
theorem bk3_ (h : Aside0 (w.heap[g]? = some (.cells #[v0, v1, v2] t (0, 0)))) : w.cell? ⟨g, 0, none⟩ = some v0 ∧ w.cell? ⟨g, 1, none⟩ = some v1 ∧ w.cell? ⟨g, 2, none⟩ = some v2 ∧ w.frozen? ⟨g, 0, none⟩ = false ∧ w.frozen? ⟨g, 1, none⟩ = false ∧ w.frozen? ⟨g, 2, none⟩ = false :=
 ⟨blk_cell h.out 0, blk_cell h.out 1, blk_cell h.out 2, blk_frozen h.out 0, blk_frozen h.out 1, blk_frozen h.out 2⟩
end
section
variable {P : Program} {ops : Array Oper} {rest : List Oper} {o : Oper} {a : Act} {Q : Exit → Act → World → Prop}
theorem bx_ {W : World} (N : Tmp) (cs : Array Value) (t : TypeId)
  (h : ∀ g, g = W.heap.size → ∀ w1, w1.heap[g]? = some (.cells cs t (0, 0)) → Below W.heap.size W w1 → wpList P ops Q rest (a.put o.dst (.pointer (some ⟨g, 0, none⟩))) w1)
  (hgd : o.guard = none := by rfl) (hd : o.dst = some N := by rfl)
  (hrun : (execOp a.eval o).run P W = .ok (.value (.pointer (some ⟨W.heap.size, 0, none⟩))) (W.alloc (.cells cs t (0, 0))) := by first | (go_simp; done) | (go_simp; rfl)) : wpList P ops Q (o :: rest) a W :=
 box_event hgd hd hrun h
theorem gL_ {w : World} (N : Option Tmp) {f : FuncId} {fn : Func} {as_ : Array Operand} {ts : Array TypeId} (hf : P.funcs[f]? = some fn) (args : Array Value)
  (h : Calls P f args w fun e w' => ∃ v, e = .returned v ∧ wpList P ops Q rest (a.put N v) w')
  (hd : o.dst = N := by rfl) (hg : o.guard = none := by rfl) (hop : o.op = .call { callee := .value (.func f), args := as_, argTypes := ts } := by rfl)
  (hargs : as_.map a.eval = args := by (try simp only [List.map_toArray, List.map_cons, List.map_nil]); first | done | rfl | (simp only [List.length_drop, List.length_take]; rfl))
  (hname : (fn.name == "runtime.NumGoroutine") = false := by kernel_rfl) (hb : fn.body.isSome = true := by rfl) : wpList P ops Q (o :: rest) a w :=
 goesL_ N hd hg hf hname hb args hop hargs h
end
end Go.Proofs.Ytelglbebffdaaaa.X
namespace Go.Proofs.Ytelglbebffdaaaa.X
open Go.RowKit Go.Proofs.YtelglbebffdaaaaW.PrintWords Go.Proofs.YtelglbebffdaaaaW.PrintLast Go.Proofs.YtelglbebffdaaaaW.PrintMore
attribute [local go_sem] max2_int min2_int max_two min_two max_three min_three max_four min_four   -- for this text's walks alone
set_option linter.unusedVariables false
set_option linter.unusedSimpArgs false
def IsS108 (w0 W : World) (g : Nat) (f0 : List Int) (f1 : Int) (f2 : Int) : Prop := ∃ A0 c0, W.heap[g]? = some (.cells #[.slice A0 f0.length c0, .int .i64 f1, .int .i64 f2] 108 (0, 0)) ∧ w0.heap.size ≤ g ∧ Kd.C (Kd.int .u8) w0 A0 f0.length f0
theorem IsS108.grown {w0 W : World} {g : Nat} {f0 : List Int} {f1 : Int} {f2 : Int} {W1 : World} {row : Option Nat} (h : IsS108 w0 W g f0 f1 f2) (hw : W.grownBy W1 row) (hne : some g ≠ row) : IsS108 w0 W1 g f0 f1 f2 := by
 obtain ⟨A0, c0, hb, hg, hr0⟩ := h
 exact ⟨A0, c0, blk_grown hb hw hne, hg, hr0⟩
theorem IsS108.kept {w0 W : World} {g : Nat} {f0 : List Int} {f1 : Int} {f2 : Int} {W1 : World} {S : Nat → Prop} (h : IsS108 w0 W g f0 f1 f2) (hk : Kept W W1 S) (hne : ¬ S g) : IsS108 w0 W1 g f0 f1 f2 := by
 obtain ⟨A0, c0, hb, hg, hr0⟩ := h
 exact ⟨A0, c0, blk_kept hb hk hne, hg, hr0⟩
theorem IsS108.below {w0 W : World} {g : Nat} {f0 : List Int} {f1 : Int} {f2 : Int} {W1 : World} (h : IsS108 w0 W g f0 f1 f2) (hw : Below W.heap.size W W1) : IsS108 w0 W1 g f0 f1 f2 := h.grown (grown_of_below hw none) (by simp)
theorem IsS108.alloc {w0 W : World} {g : Nat} {f0 : List Int} {f1 : Int} {f2 : Int} (h : IsS108 w0 W g f0 f1 f2) (o : Obj) : IsS108 w0 (W.alloc o) g f0 f1 f2 := h.below (below_alloc (Below.refl _ _) o)
theorem IsS108.drewN {w0 W : World} {g : Nat} {f0 : List Int} {f1 : Int} {f2 : Int} (h : IsS108 w0 W g f0 f1 f2) (m : Nat) : IsS108 w0 (W.drewN m) g f0 f1 f2 := h
theorem IsS108.drew {w0 W : World} {g : Nat} {f0 : List Int} {f1 : Int} {f2 : Int} (h : IsS108 w0 W g f0 f1 f2) : IsS108 w0 W.drew g f0 f1 f2 := h
theorem IsS108.at_ {w0 W : World} {g : Nat} {f0 : List Int} {f1 : Int} {f2 : Int} {w' : World} {m : Nat} (hq : W.drewN m = w') (h : IsS108 w0 W g f0 f1 f2) : IsS108 w0 w' g f0 f1 f2 := by subst hq; exact IsS108.drewN h m
theorem IsS108.apart {w0 W : World} {g : Nat} {f0 : List Int} {f1 : Int} {f2 : Int} {α : Type} {d : Kd α} {e : Nat} {base : Nat} {ok : Nat → Prop} {v : Value} {xs : List α} (h : IsS108 w0 W g f0 f1 f2) (ho : d.R e W base ok v xs) (ht : ∀ q, q ∈ e :: d.E → q ≠ 108) : d.R e W base (fun k => ok k ∧ k ≠ g) v xs := by
 obtain ⟨A0, c0, hb, hg, hr0⟩ := h
 exact Kd.R_types ho hb ht
theorem IsS108.own_ne {w0 W : World} {g : Nat} {f0 : List Int} {f1 : Int} {f2 : Int} {α : Type} {d : Kd α} {e : Nat} {base : Nat} {ok : Nat → Prop} {v : Value} {xs : List α} (h : IsS108 w0 W g f0 f1 f2) (ho : d.R e W base ok v xs) (ht : e ≠ 108) : some g ≠ v.ownBlock := by
 obtain ⟨A0, c0, hb, hg, hr0⟩ := h
 exact Kd.R_ne ho hb ht
theorem IsS108.apartQ {w0 W : World} {g : Nat} {f0 : List Int} {f1 : Int} {f2 : Int} {α : Type} {d : Kd α} {e : Nat} {base : Nat} {ok : Nat → Prop} {v : Value} {xs : List α} (h : IsS108 w0 W g f0 f1 f2) (ho : d.Q e W base ok v xs) (ht : ∀ q, q ∈ e :: d.E → q ≠ 108) : d.Q e W base (fun k => ok k ∧ k ≠ g) v xs := by
 obtain ⟨A0, c0, hb, hg, hr0⟩ := h
 exact Kd.Q_types ho hb ht
theorem IsS108.lt {w0 W : World} {g : Nat} {f0 : List Int} {f1 : Int} {f2 : Int} (h : IsS108 w0 W g f0 f1 f2) : g < W.heap.size := by
 obtain ⟨A0, c0, hb, hg, hr0⟩ := h
 exact blk_lt hb
theorem IsS108.ge {w0 W : World} {g : Nat} {f0 : List Int} {f1 : Int} {f2 : Int} (h : IsS108 w0 W g f0 f1 f2) : w0.heap.size ≤ g := by
 obtain ⟨A0, c0, hb, hg, hr0⟩ := h
 exact hg
theorem IsS108.far {w0 W : World} {g : Nat} {f0 : List Int} {f1 : Int} {f2 : Int} {p : Addr} (h : IsS108 w0 W g f0 f1 f2) (hne : g ≠ p.block) (u : Value) : IsS108 w0 (W.setCell p u) g f0 f1 f2 := by
 obtain ⟨A0, c0, hb, hg, hr0⟩ := h
 exact ⟨A0, c0, blk_far hb hne u, hg, hr0⟩
theorem cellS108_0 {W : World} {g : Nat} {A0 : Option Addr} {c0 : Nat} {f0 : List Int} {f1 : Int} {f2 : Int} (h : W.heap[g]? = some (.cells #[.slice A0 f0.length c0, .int .i64 f1, .int .i64 f2] 108 (0, 0))) : W.cell? ⟨g, 0, none⟩ = some (.slice A0 f0.length c0) := (blk_cell h 0).trans rfl
theorem cellS108_1 {W : World} {g : Nat} {A0 : Option Addr} {c0 : Nat} {f0 : List Int} {f1 : Int} {f2 : Int} (h : W.heap[g]? = some (.cells #[.slice A0 f0.length c0, .int .i64 f1, .int .i64 f2] 108 (0, 0))) : W.cell? ⟨g, 1, none⟩ = some (.int .i64 f1) := (blk_cell h 1).trans rfl
theorem IsS108.set_1 {w0 W : World} {g : Nat} {f0 : List Int} {f1 : Int} {f2 : Int} (h : IsS108 w0 W g f0 f1 f2) (x : Int) : IsS108 w0 (W.setCell ⟨g, 1, none⟩ (.int .i64 x)) g f0 x f2 := by
 obtain ⟨A0, c0, hb, hg, hr0⟩ := h
 exact ⟨A0, c0, by simpa using blk_set hb 1 (.int .i64 x), hg, hr0⟩
theorem cellS108_2 {W : World} {g : Nat} {A0 : Option Addr} {c0 : Nat} {f0 : List Int} {f1 : Int} {f2 : Int} (h : W.heap[g]? = some (.cells #[.slice A0 f0.length c0, .int .i64 f1, .int .i64 f2] 108 (0, 0))) : W.cell? ⟨g, 2, none⟩ = some (.int .i64 f2) := (blk_cell h 2).trans rfl
theorem IsS108.set_2 {w0 W : World} {g : Nat} {f0 : List Int} {f1 : Int} {f2 : Int} (h : IsS108 w0 W g f0 f1 f2) (x : Int) : IsS108 w0 (W.setCell ⟨g, 2, none⟩ (.int .i64 x)) g f0 f1 x := by
 obtain ⟨A0, c0, hb, hg, hr0⟩ := h
 exact ⟨A0, c0, by simpa using blk_set hb 2 (.int .i64 x), hg, hr0⟩
theorem IsS108.new (w0 W : World) (A0 : Option Addr) (c0 : Nat) (f0 : List Int) (f1 : Int) (f2 : Int) (hB : Below w0.heap.size w0 W) (hr0 : Kd.C (Kd.int .u8) w0 A0 f0.length f0) : IsS108 w0 (W.alloc (.cells #[.slice A0 f0.length c0, .int .i64 f1, .int .i64 f2] 108)) W.heap.size f0 f1 f2 := ⟨A0, c0, by simpa using heap_alloc_new W _, hB.size, hr0⟩
def spec_l1New.l0 : Nat → List Int → Int → Int → Option (List Int × Int × Int)
 | 0, _, _, _ => none
 | k + 1, x0, x3, x4 => if x4 < (x0.length : Int) then (if x4 < 4000 then (if 0 ≤ x4 then (spec_l1New.l0 k x0 (Go.bits .and .i64 (wrap64 ((wrap64 ((wrap64 (x3 * 131)) + (wrap64 (rd x0 x4)))) + 7)) 1073741823) (wrap64 (x4 + 1))) else (none)) else (some (x0, 0, x3))) else (some (x0, 0, x3))
def spec_l1New.f (k : Nat) (l0 : List Int) : Option (List Int × Int × Int) := spec_l1New.l0 k l0 (wrap64 (10101 + (l0.length : Int))) 0
set_option maxHeartbeats 8000000 in
set_option maxRecDepth 100000 in
theorem spec_l1New.calls (k : Nat) (A0 : Option Addr) (c0 : Nat) (l0 : List Int) (r1 : List Int) (r2 : Int) (r3 : Int) (w0 w : World) (hB : Below w0.heap.size w0 w) (hr0 : Kd.C (Kd.int .u8) w0 A0 l0.length l0) (hc0 : l0.length ≤ c0) (h : spec_l1New.f k l0 = some (r1, r2, r3)) :
  Calls Try.prog 68 #[.slice A0 l0.length c0] w fun e w' => ∃ g_ : Nat, e = .returned (.pointer (some ⟨g_, 0, none⟩)) ∧ IsS108 w0 w' g_ r1 r2 r3 ∧ Below w0.heap.size w0 w' ∧ Below w.heap.size w w' := by
 have hu108 := Try.underlying108
 have HR0 := Aside0.mk hr0
 have HC0 := Aside0.mk hc0
 clear hr0 hc0
 have HBW := Aside0.mk (Below.refl w.heap.size w)
 have HW0 := Aside0.mk hB.size
 have HB := Aside0.mk hB
 clear hB
 have H : (spec_l1New.l0 k l0 (wrap64 (10101 + (l0.length : Int))) 0) = some (r1, r2, r3) := h
 clear h
 have H' := Aside0.mk H
 clear H
 go_enter Try.func68, Try.ntmps68
 go_wp2
 go_loopg [3, 4] k (fun kq v3 v4 w' => ∃ (x3_1 : Int) (x4_1 : Int), v3 = .int .i64 x3_1 ∧ v4 = .int .i64 x4_1 ∧ Aside0 (spec_l1New.l0 kq l0 x3_1 x4_1 = some (r1, r2, r3)) ∧ Aside0 (kq ≤ k) ∧ Aside0 (Below w0.heap.size w0 w') ∧ Aside0 (Below w.heap.size w w'))
 case atStart => exact ⟨(wrap64 (10101 + (l0.length : Int))), (0), eb_, eb_, H', ⟨Nat.le_refl _⟩, bl_ HB, bl_ HBW⟩
 case round =>
  clear H'
  obtain ⟨x3_1, x4_1, rfl, rfl, HA, HK1, HB, HBW⟩ := hrel
  cases gk with
  | zero => exact absurd HA.out (by simp [spec_l1New.l0])
  | succ k1 =>
   have H := HA.out
   clear HA
   simp only [spec_l1New.l0] at H
   by_cases c2 : x4_1 < (l0.length : Int)
   ·rw [if_pos c2] at H
    have c2b0 : decide (x4_1 < (l0.length : Int)) = true := decide_eq_true c2
    clear c2
    by_cases c3 : x4_1 < 4000
    ·rw [if_pos c3] at H
     have c3b0 : decide (x4_1 < 4000) = true := decide_eq_true c3
     clear c3
     by_cases c4 : 0 ≤ x4_1
     ·rw [if_pos c4] at H
      have c4b0 : decide (0 ≤ x4_1) = true := decide_eq_true c4
      clear c4
      have H' := Aside0.mk H
      clear H
      have p937 : 0 ≤ (x4_1 : Int) := od_
      have q937 : x4_1 < (l0.length : Int) := od_
      obtain ⟨ad937, e937, hx937_0⟩ := Kd.at_int HR0.out x4_1 p937 q937
      cases e937
      replace hx937_0 := pw_cell_below HB.out hx937_0
      replace p937 := eq_true p937
      replace q937 := eq_true q937
      go_wp2
      go_roundg k1
      case measure => have := HK1.out; omega
      case rel => exact ⟨(Go.bits .and .i64 (wrap64 ((wrap64 ((wrap64 (x3_1 * 131)) + (wrap64 (rd l0 x4_1)))) + 7)) 1073741823), (wrap64 (x4_1 + 1)), eb_, eb_, H', ⟨by have := HK1.out; omega⟩, bl_ HB, bl_ HBW⟩
     ·rw [if_neg c4] at H
      exact absurd H (by simp)
    ·rw [if_neg c3] at H
     have c3b0 : decide (x4_1 < 4000) = false := decide_eq_false c3
     clear c3
     simp only [Option.some.injEq, Prod.mk.injEq] at H
     obtain ⟨rfl, rfl, rfl⟩ := H
     go_wp2_with (first | ((with_reducible refine gate_dst (N := 31) rfl ?_); refine bx_ 31 #[.slice A0 l0.length c0, .int .i64 0, .int .i64 x3_1] 108 ?_; intro gb938 hg w5 hbox hb; replace HB := tB_ HB hb; have BK938 := Aside0.mk (hbox); have GW938 := Aside0.mk ((by rw [hg]; exact (bs_ HBW) : w.heap.size ≤ gb938)); have GE938 := Aside0.mk ((Nat.le_trans HW0.out (by rw [hg]; exact (bs_ HBW) : w.heap.size ≤ gb938) : w0.heap.size ≤ gb938)); replace HBW := Aside0.mk (below_step HBW.out hb); clear hb hbox hg))
     go_ret
     exact ⟨_, rfl, (show IsS108 w0 _ gb938 l0 0 x3_1 from ⟨_, _, kx_ BK938.out, GE938.out, HR0.out⟩), (bl_ HB).out, (bl_ HBW).out⟩
   ·rw [if_neg c2] at H
    have c2b0 : decide (x4_1 < (l0.length : Int)) = false := decide_eq_false c2
    clear c2
    simp only [Option.some.injEq, Prod.mk.injEq] at H
    obtain ⟨rfl, rfl, rfl⟩ := H
    go_wp2_with (first | ((with_reducible refine gate_dst (N := 31) rfl ?_); refine bx_ 31 #[.slice A0 l0.length c0, .int .i64 0, .int .i64 x3_1] 108 ?_; intro gb939 hg w6 hbox hb; replace HB := tB_ HB hb; have BK939 := Aside0.mk (hbox); have GW939 := Aside0.mk ((by rw [hg]; exact (bs_ HBW) : w.heap.size ≤ gb939)); have GE939 := Aside0.mk ((Nat.le_trans HW0.out (by rw [hg]; exact (bs_ HBW) : w.heap.size ≤ gb939) : w0.heap.size ≤ gb939)); replace HBW := Aside0.mk (below_step HBW.out hb); clear hb hbox hg))
    go_ret
    exact ⟨_, rfl, (show IsS108 w0 _ gb939 l0 0 x3_1 from ⟨_, _, kx_ BK939.out, GE939.out, HR0.out⟩), (bl_ HB).out, (bl_ HBW).out⟩
end Go.Proofs.Ytelglbebffdaaaa.X
namespace Go.Proofs.Ytelglbebffdaaaa.X
open Go.RowKit Go.Proofs.YtelglbebffdaaaaW.PrintWords Go.Proofs.YtelglbebffdaaaaW.PrintLast Go.Proofs.YtelglbebffdaaaaW.PrintMore
attribute [local go_sem] max2_int min2_int max_two min_two max_three min_three max_four min_four   -- for this text's walks alone
set_option linter.unusedVariables false
set_option linter.unusedSimpArgs false
def spec_l1Byte.f (s0_0 : List Int) (s0_1 : Int) (s0_2 : Int) : Option (Int × Int × Int) := if s0_1 < (s0_0.length : Int) then (if 0 ≤ s0_1 then (some (Go.bits .and .i64 (wrap64 ((Go.bits .and .i64 (Go.bits .xor .i64 ((wrap64 ((wrap64 (s0_2 * 6364136223846793005)) + 1442695040888963407)) / 8589934592) ((wrap64 ((wrap64 (s0_2 * 6364136223846793005)) + 1442695040888963407)) / 35184372088832)) 255) + (wrap64 (rd s0_0 s0_1)))) 255, wrap64 (s0_1 + 1), wrap64 ((wrap64 (s0_2 * 6364136223846793005)) + 1442695040888963407))) else (none)) else (some (Go.bits .and .i64 (Go.bits .xor .i64 ((wrap64 ((wrap64 (s0_2 * 6364136223846793005)) + 1442695040888963407)) / 8589934592) ((wrap64 ((wrap64 (s0_2 * 6364136223846793005)) + 1442695040888963407)) / 35184372088832)) 255, s0_1, wrap64 ((wrap64 (s0_2 * 6364136223846793005)) + 1442695040888963407)))
set_option maxHeartbeats 8000000 in
set_option maxRecDepth 100000 in
theorem spec_l1Byte.calls (g : Nat) (s0_0 : List Int) (s0_1 : Int) (s0_2 : Int) (r1 : Int) (r2 : Int) (r3 : Int) (w0 w : World) (hI : IsS108 w0 w g s0_0 s0_1 s0_2) (hB : Below w0.heap.size w0 w) (h : spec_l1Byte.f s0_0 s0_1 s0_2 = some (r1, r2, r3)) :
  Calls Try.prog 97 #[.pointer (some ⟨g, 0, none⟩)] w fun e w' => e = .returned (.int .i64 r1) ∧ IsS108 w0 w' g s0_0 r2 r3 ∧ Below w0.heap.size w0 w' ∧ KeepBut w w' g none := by
 have HI0 := Aside0.mk hI
 have HK := Aside0.mk (KeepBut.refl w g none)
 have HL := Aside0.mk hB.size
 clear hI
 have HW0 := Aside0.mk hB.size
 have HB := Aside0.mk hB
 clear hB
 have H : (if s0_1 < (s0_0.length : Int) then (if 0 ≤ s0_1 then (some (Go.bits .and .i64 (wrap64 ((Go.bits .and .i64 (Go.bits .xor .i64 ((wrap64 ((wrap64 (s0_2 * 6364136223846793005)) + 1442695040888963407)) / 8589934592) ((wrap64 ((wrap64 (s0_2 * 6364136223846793005)) + 1442695040888963407)) / 35184372088832)) 255) + (wrap64 (rd s0_0 s0_1)))) 255, wrap64 (s0_1 + 1), wrap64 ((wrap64 (s0_2 * 6364136223846793005)) + 1442695040888963407))) else (none)) else (some (Go.bits .and .i64 (Go.bits .xor .i64 ((wrap64 ((wrap64 (s0_2 * 6364136223846793005)) + 1442695040888963407)) / 8589934592) ((wrap64 ((wrap64 (s0_2 * 6364136223846793005)) + 1442695040888963407)) / 35184372088832)) 255, s0_1, wrap64 ((wrap64 (s0_2 * 6364136223846793005)) + 1442695040888963407)))) = some (r1, r2, r3) := h
 clear h
 by_cases c2 : s0_1 < (s0_0.length : Int)
 ·rw [if_pos c2] at H
  have c2b0 : decide (s0_1 < (s0_0.length : Int)) = true := decide_eq_true c2
  clear c2
  by_cases c3 : 0 ≤ s0_1
  ·rw [if_pos c3] at H
   have c3b0 : decide (0 ≤ s0_1) = true := decide_eq_true c3
   clear c3
   simp only [Option.some.injEq, Prod.mk.injEq] at H
   obtain ⟨rfl, rfl, rfl⟩ := H
   obtain ⟨ASz4_0, cSz4_0, HGz4, hgz4, HSz4_0⟩ := HI0.out
   have hcz4_0 := cellS108_0 HGz4
   have hcz4_1 := cellS108_1 HGz4
   have hcz4_2 := cellS108_2 HGz4
   have hfz4_1 := blk_frozen HGz4 1
   have hfz4_2 := blk_frozen HGz4 2
   clear HGz4 hgz4
   have p940 : 0 ≤ (s0_1 : Int) := od_
   have q940 : s0_1 < (s0_0.length : Int) := od_
   obtain ⟨ad940, e940, hx940_0⟩ := Kd.at_int HSz4_0 s0_1 p940 q940
   cases e940
   have hn940_0 : ad940.block ≠ g := Nat.ne_of_lt (Nat.lt_of_lt_of_le (by have := World.block_lt_of_cell? _ _ hx940_0; first | rwa [add_block] at this | exact this) (IsS108.ge HI0.out))
   replace hx940_0 := pw_cell_below HB.out hx940_0
   replace hx940_0 := (cell_far (p := ⟨g, 2, none⟩) (by first | (rw [add_block]; exact hn940_0) | (show (Addr.add _ _).block ≠ _; rw [add_block]; exact hn940_0) | exact hn940_0) (.int .i64 (wrap64 ((wrap64 (s0_2 * 6364136223846793005)) + 1442695040888963407)))).trans hx940_0
   (try have hy940_0 := fun (n_ : Nat) => (show (((w.drewN n_).setCell ⟨g, 2, none⟩ (.int .i64 (wrap64 ((wrap64 (s0_2 * 6364136223846793005)) + 1442695040888963407))))).cell? _ = some _ from hx940_0))
   clear hn940_0
   replace p940 := eq_true p940
   replace q940 := eq_true q940
   go_enter Try.func97, Try.ntmps97
   go_wp2
   repeat (go_quiet (fail); try go_wp2)
   go_ret
   exact ⟨ea_, by repeat (first | (with_reducible first | exact HI0.out | apply IsS108.alloc | apply IsS108.drewN | apply IsS108.drew | apply IsS108.set_1 | apply IsS108.set_2) | exact HI0.out), by repeat (first | (with_reducible first | exact HB.out | apply below_alloc | apply pw_below_drewN | apply below_drew1 | refine below_set ?_ (IsS108.ge HI0.out)) | exact HB.out), by repeat (first | (with_reducible first | exact HK.out | apply KeepBut.set_ | apply keep_drewN | apply keep_drew | apply keep_alloc) | exact HK.out)⟩
  ·rw [if_neg c3] at H
   exact absurd H (by simp)
 ·rw [if_neg c2] at H
  have c2b0 : decide (s0_1 < (s0_0.length : Int)) = false := decide_eq_false c2
  clear c2
  simp only [Option.some.injEq, Prod.mk.injEq] at H
  obtain ⟨rfl, rfl, rfl⟩ := H
  obtain ⟨ASz5_0, cSz5_0, HGz5, hgz5, HSz5_0⟩ := HI0.out
  have hcz5_0 := cellS108_0 HGz5
  have hcz5_1 := cellS108_1 HGz5
  have hcz5_2 := cellS108_2 HGz5
  have hfz5_1 := blk_frozen HGz5 1
  have hfz5_2 := blk_frozen HGz5 2
  clear HGz5 hgz5
  go_enter Try.func97, Try.ntmps97
  go_wp2
  repeat (go_quiet (fail); try go_wp2)
  go_ret
  exact ⟨ea_, by repeat (first | (with_reducible first | exact HI0.out | apply IsS108.alloc | apply IsS108.drewN | apply IsS108.drew | apply IsS108.set_1 | apply IsS108.set_2) | exact HI0.out), by repeat (first | (with_reducible first | exact HB.out | apply below_alloc | apply pw_below_drewN | apply below_drew1 | refine below_set ?_ (IsS108.ge HI0.out)) | exact HB.out), by repeat (first | (with_reducible first | exact HK.out | apply KeepBut.set_ | apply keep_drewN | apply keep_drew | apply keep_alloc) | exact HK.out)⟩
end Go.Proofs.Ytelglbebffdaaaa.X
namespace Go.Proofs.Ytelglbebffdaaaa.X
open Go.RowKit Go.Proofs.YtelglbebffdaaaaW.PrintWords Go.Proofs.YtelglbebffdaaaaW.PrintLast Go.Proofs.YtelglbebffdaaaaW.PrintMore
attribute [local go_sem] max2_int min2_int max_two min_two max_three min_three max_four min_four   -- for this text's walks alone
set_option linter.unusedVariables false
set_option linter.unusedSimpArgs false
def spec_l1Below.f (s0_0 : List Int) (s0_1 : Int) (s0_2 : Int) (a1 : Int) : Option (Int × Int × Int) := if a1 ≤ 0 then (some (0, s0_1, s0_2)) else (if a1 ≤ 256 then ((spec_l1Byte.f s0_0 s0_1 s0_2).bind fun bt941 => (if a1 = 0 then (none) else (some (Int.tmod bt941.1 a1, bt941.2.1, bt941.2.2)))) else ((spec_l1Byte.f s0_0 s0_1 s0_2).bind fun bt944 => ((spec_l1Byte.f s0_0 bt944.2.1 bt944.2.2).bind fun bt947 => ((spec_l1Byte.f s0_0 bt947.2.1 bt947.2.2).bind fun bt950 => ((spec_l1Byte.f s0_0 bt950.2.1 bt950.2.2).bind fun bt953 => (if a1 = 0 then (none) else (some (Int.tmod (wrap64 ((wrap64 ((wrap64 ((wrap64 (bt944.1 * 16777216)) + (wrap64 (bt947.1 * 65536)))) + (wrap64 (bt950.1 * 256)))) + bt953.1)) a1, bt953.2.1, bt953.2.2))))))))
set_option maxHeartbeats 8000000 in
set_option maxRecDepth 100000 in
theorem spec_l1Below.calls (g : Nat) (s0_0 : List Int) (s0_1 : Int) (s0_2 : Int) (a1 : Int) (r1 : Int) (r2 : Int) (r3 : Int) (w0 w : World) (hI : IsS108 w0 w g s0_0 s0_1 s0_2) (hB : Below w0.heap.size w0 w) (h : spec_l1Below.f s0_0 s0_1 s0_2 a1 = some (r1, r2, r3)) :
  Calls Try.prog 70 #[.pointer (some ⟨g, 0, none⟩), .int .i64 a1] w fun e w' => e = .returned (.int .i64 r1) ∧ IsS108 w0 w' g s0_0 r2 r3 ∧ Below w0.heap.size w0 w' ∧ KeepBut w w' g none := by
 have HI0 := Aside0.mk hI
 have HK := Aside0.mk (KeepBut.refl w g none)
 have HL := Aside0.mk hB.size
 clear hI
 have HW0 := Aside0.mk hB.size
 have HB := Aside0.mk hB
 clear hB
 have H : (if a1 ≤ 0 then (some (0, s0_1, s0_2)) else (if a1 ≤ 256 then ((spec_l1Byte.f s0_0 s0_1 s0_2).bind fun bt941 => (if a1 = 0 then (none) else (some (Int.tmod bt941.1 a1, bt941.2.1, bt941.2.2)))) else ((spec_l1Byte.f s0_0 s0_1 s0_2).bind fun bt944 => ((spec_l1Byte.f s0_0 bt944.2.1 bt944.2.2).bind fun bt947 => ((spec_l1Byte.f s0_0 bt947.2.1 bt947.2.2).bind fun bt950 => ((spec_l1Byte.f s0_0 bt950.2.1 bt950.2.2).bind fun bt953 => (if a1 = 0 then (none) else (some (Int.tmod (wrap64 ((wrap64 ((wrap64 ((wrap64 (bt944.1 * 16777216)) + (wrap64 (bt947.1 * 65536)))) + (wrap64 (bt950.1 * 256)))) + bt953.1)) a1, bt953.2.1, bt953.2.2))))))))) = some (r1, r2, r3) := h
 clear h
 by_cases c3 : a1 ≤ 0
 ·rw [if_pos c3] at H
  have c3b0 : decide (a1 ≤ 0) = true := decide_eq_true c3
  clear c3
  simp only [Option.some.injEq, Prod.mk.injEq] at H
  obtain ⟨rfl, rfl, rfl⟩ := H
  go_enter Try.func70, Try.ntmps70
  go_wp2
  go_ret
  exact ⟨ea_, by repeat (first | (with_reducible first | exact HI0.out | apply IsS108.alloc | apply IsS108.drewN | apply IsS108.drew | apply IsS108.set_1 | apply IsS108.set_2) | exact HI0.out), by repeat (first | (with_reducible first | exact HB.out | apply below_alloc | apply pw_below_drewN | apply below_drew1 | refine below_set ?_ (IsS108.ge HI0.out)) | exact HB.out), by repeat (first | (with_reducible first | exact HK.out | apply KeepBut.set_ | apply keep_drewN | apply keep_drew | apply keep_alloc) | exact HK.out)⟩
 ·rw [if_neg c3] at H
  have c3b0 : decide (a1 ≤ 0) = false := decide_eq_false c3
  clear c3
  by_cases c4 : a1 ≤ 256
  ·rw [if_pos c4] at H
   have c4b0 : decide (a1 ≤ 256) = true := decide_eq_true c4
   clear c4
   replace H := Option.bind_eq_some_iff.mp H
   obtain ⟨⟨t941, t942, t943⟩, A50, H⟩ := H
   replace H : (if a1 = 0 then (none) else (some (Int.tmod t941 a1, t942, t943))) = some (r1, r2, r3) := H
   have A5 := Aside0.mk A50
   clear A50
   by_cases c6 : a1 = 0
   ·rw [if_pos c6] at H
    exact absurd H (by simp)
   ·rw [if_neg c6] at H
    have c6b0 : (a1 == 0) = false := beq_eq_false_iff_ne.mpr c6
    have c6b1 : (a1 != 0) = true := bne_iff_ne.mpr c6
    simp only [Option.some.injEq, Prod.mk.injEq] at H
    obtain ⟨rfl, rfl, rfl⟩ := H
    go_enter Try.func70, Try.ntmps70
    go_wp2_with (first | ((with_reducible refine gate_callee (f := 97) rfl ?_); refine gL_ (some 14) Try.func97 #[.pointer (some ⟨g, 0, none⟩)] ?_; (with_reducible refine (spec_l1Byte.calls g s0_0 s0_1 s0_2 t941 t942 t943 w0 _ ?side1 ?side2 A5.out).mono ?_); (case side1 => repeat (first | (with_reducible first | exact HI0.out | apply IsS108.alloc | apply IsS108.drewN | apply IsS108.drew | apply IsS108.set_1 | apply IsS108.set_2) | exact HI0.out)); (case side2 => repeat (first | (with_reducible first | exact HB.out | apply below_alloc | apply pw_below_drewN | apply below_drew1 | refine below_set ?_ (IsS108.ge HI0.out)) | exact HB.out)); rintro e w7 ⟨rfl, hi, hb, hk⟩; refine ⟨_, rfl, ?_⟩; replace HK := Aside0.mk (KeepBut.trans (by repeat (first | (with_reducible first | exact HK.out | apply KeepBut.set_ | apply keep_drewN | apply keep_drew | apply keep_alloc) | exact HK.out)) hk (.inl rfl)); replace HB := Aside0.mk (hb); replace HI0 := Aside0.mk (hi); (try clear hb); (try clear hk); (try clear hi)))
    go_ret
    exact ⟨ea_, by repeat (first | (with_reducible first | exact HI0.out | apply IsS108.alloc | apply IsS108.drewN | apply IsS108.drew | apply IsS108.set_1 | apply IsS108.set_2) | exact HI0.out), by repeat (first | (with_reducible first | exact HB.out | apply below_alloc | apply pw_below_drewN | apply below_drew1 | refine below_set ?_ (IsS108.ge HI0.out)) | exact HB.out), by repeat (first | (with_reducible first | exact HK.out | apply KeepBut.set_ | apply keep_drewN | apply keep_drew | apply keep_alloc) | exact HK.out)⟩
  ·rw [if_neg c4] at H
   have c4b0 : decide (a1 ≤ 256) = false := decide_eq_false c4
   clear c4
   replace H := Option.bind_eq_some_iff.mp H
   obtain ⟨⟨t944, t945, t946⟩, A80, H⟩ := H
   try dsimp only at H
   have A8 := Aside0.mk A80
   clear A80
   replace H := Option.bind_eq_some_iff.mp H
   obtain ⟨⟨t947, t948, t949⟩, A90, H⟩ := H
   try dsimp only at H
   have A9 := Aside0.mk A90
   clear A90
   replace H := Option.bind_eq_some_iff.mp H
   obtain ⟨⟨t950, t951, t952⟩, A100, H⟩ := H
   try dsimp only at H
   have A10 := Aside0.mk A100
   clear A100
   replace H := Option.bind_eq_some_iff.mp H
   obtain ⟨⟨t953, t954, t955⟩, A110, H⟩ := H
   try dsimp only at H
   have A11 := Aside0.mk A110
   clear A110
   by_cases c12 : a1 = 0
   ·rw [if_pos c12] at H
    exact absurd H (by simp)
   ·rw [if_neg c12] at H
    have c12b0 : (a1 == 0) = false := beq_eq_false_iff_ne.mpr c12
    have c12b1 : (a1 != 0) = true := bne_iff_ne.mpr c12
    simp only [Option.some.injEq, Prod.mk.injEq] at H
    obtain ⟨rfl, rfl, rfl⟩ := H
    go_enter Try.func70, Try.ntmps70
    go_wp2_with (first | ((with_reducible refine gate_callee (f := 97) rfl ?_); refine gL_ (some 18) Try.func97 #[.pointer (some ⟨g, 0, none⟩)] ?_; (with_reducible refine (spec_l1Byte.calls g s0_0 s0_1 s0_2 t944 t945 t946 w0 _ ?side1 ?side2 A8.out).mono ?_); (case side1 => repeat (first | (with_reducible first | exact HI0.out | apply IsS108.alloc | apply IsS108.drewN | apply IsS108.drew | apply IsS108.set_1 | apply IsS108.set_2) | exact HI0.out)); (case side2 => repeat (first | (with_reducible first | exact HB.out | apply below_alloc | apply pw_below_drewN | apply below_drew1 | refine below_set ?_ (IsS108.ge HI0.out)) | exact HB.out)); rintro e w13 ⟨rfl, hi, hb, hk⟩; refine ⟨_, rfl, ?_⟩; replace HK := Aside0.mk (KeepBut.trans (by repeat (first | (with_reducible first | exact HK.out | apply KeepBut.set_ | apply keep_drewN | apply keep_drew | apply keep_alloc) | exact HK.out)) hk (.inl rfl)); replace HB := Aside0.mk (hb); replace HI0 := Aside0.mk (hi); (try clear hb); (try clear hk); (try clear hi)) | ((with_reducible refine gate_callee (f := 97) rfl ?_); refine gL_ (some 20) Try.func97 #[.pointer (some ⟨g, 0, none⟩)] ?_; (with_reducible refine (spec_l1Byte.calls g s0_0 t945 t946 t947 t948 t949 w0 _ ?side1 ?side2 A9.out).mono ?_); (case side1 => repeat (first | (with_reducible first | exact HI0.out | apply IsS108.alloc | apply IsS108.drewN | apply IsS108.drew | apply IsS108.set_1 | apply IsS108.set_2) | exact HI0.out)); (case side2 => repeat (first | (with_reducible first | exact HB.out | apply below_alloc | apply pw_below_drewN | apply below_drew1 | refine below_set ?_ (IsS108.ge HI0.out)) | exact HB.out)); rintro e w14 ⟨rfl, hi, hb, hk⟩; refine ⟨_, rfl, ?_⟩; replace HK := Aside0.mk (KeepBut.trans (by repeat (first | (with_reducible first | exact HK.out | apply KeepBut.set_ | apply keep_drewN | apply keep_drew | apply keep_alloc) | exact HK.out)) hk (.inl rfl)); replace HB := Aside0.mk (hb); replace HI0 := Aside0.mk (hi); (try clear hb); (try clear hk); (try clear hi)) | ((with_reducible refine gate_callee (f := 97) rfl ?_); refine gL_ (some 22) Try.func97 #[.pointer (some ⟨g, 0, none⟩)] ?_; (with_reducible refine (spec_l1Byte.calls g s0_0 t948 t949 t950 t951 t952 w0 _ ?side1 ?side2 A10.out).mono ?_); (case side1 => repeat (first | (with_reducible first | exact HI0.out | apply IsS108.alloc | apply IsS108.drewN | apply IsS108.drew | apply IsS108.set_1 | apply IsS108.set_2) | exact HI0.out)); (case side2 => repeat (first | (with_reducible first | exact HB.out | apply below_alloc | apply pw_below_drewN | apply below_drew1 | refine below_set ?_ (IsS108.ge HI0.out)) | exact HB.out)); rintro e w15 ⟨rfl, hi, hb, hk⟩; refine ⟨_, rfl, ?_⟩; replace HK := Aside0.mk (KeepBut.trans (by repeat (first | (with_reducible first | exact HK.out | apply KeepBut.set_ | apply keep_drewN | apply keep_drew | apply keep_alloc) | exact HK.out)) hk (.inl rfl)); replace HB := Aside0.mk (hb); replace HI0 := Aside0.mk (hi); (try clear hb); (try clear hk); (try clear hi)) | ((with_reducible refine gate_callee (f := 97) rfl ?_); refine gL_ (some 24) Try.func97 #[.pointer (some ⟨g, 0, none⟩)] ?_; (with_reducible refine (spec_l1Byte.calls g s0_0 t951 t952 t953 t954 t955 w0 _ ?side1 ?side2 A11.out).mono ?_); (case side1 => repeat (first | (with_reducible first | exact HI0.out | apply IsS108.alloc | apply IsS108.drewN | apply IsS108.drew | apply IsS108.set_1 | apply IsS108.set_2) | exact HI0.out)); (case side2 => repeat (first | (with_reducible first | exact HB.out | apply below_alloc | apply pw_below_drewN | apply below_drew1 | refine below_set ?_ (IsS108.ge HI0.out)) | exact HB.out)); rintro e w16 ⟨rfl, hi, hb, hk⟩; refine ⟨_, rfl, ?_⟩; replace HK := Aside0.mk (KeepBut.trans (by repeat (first | (with_reducible first | exact HK.out | apply KeepBut.set_ | apply keep_drewN | apply keep_drew | apply keep_alloc) | exact HK.out)) hk (.inl rfl)); replace HB := Aside0.mk (hb); replace HI0 := Aside0.mk (hi); (try clear hb); (try clear hk); (try clear hi)))
    go_ret
    exact ⟨ea_, by repeat (first | (with_reducible first | exact HI0.out | apply IsS108.alloc | apply IsS108.drewN | apply IsS108.drew | apply IsS108.set_1 | apply IsS108.set_2) | exact HI0.out), by repeat (first | (with_reducible first | exact HB.out | apply below_alloc | apply pw_below_drewN | apply below_drew1 | refine below_set ?_ (IsS108.ge HI0.out)) | exact HB.out), by repeat (first | (with_reducible first | exact HK.out | apply KeepBut.set_ | apply keep_drewN | apply keep_drew | apply keep_alloc) | exact HK.out)⟩
end Go.Proofs.Ytelglbebffdaaaa.X
namespace Go.Proofs.Ytelglbebffdaaaa.X
open Go.RowKit Go.Proofs.YtelglbebffdaaaaW.PrintWords Go.Proofs.YtelglbebffdaaaaW.PrintLast Go.Proofs.YtelglbebffdaaaaW.PrintMore
attribute [local go_sem] max2_int min2_int max_two min_two max_three min_three max_four min_four   -- for this text's walks alone
set_option linter.unusedVariables false
set_option linter.unusedSimpArgs false
def spec_l1Once.f (s0_0 : List Int) (s0_1 : Int) (s0_2 : Int) (a1 : Int) : Option (Bool × Int × Int) := (spec_l1Below.f s0_0 s0_1 s0_2 a1).bind fun bt956 => (some ((bt956.1 == 0), bt956.2.1, bt956.2.2))
set_option maxHeartbeats 8000000 in
set_option maxRecDepth 100000 in
theorem spec_l1Once.calls (g : Nat) (s0_0 : List Int) (s0_1 : Int) (s0_2 : Int) (a1 : Int) (r1 : Bool) (r2 : Int) (r3 : Int) (w0 w : World) (hI : IsS108 w0 w g s0_0 s0_1 s0_2) (hB : Below w0.heap.size w0 w) (h : spec_l1Once.f s0_0 s0_1 s0_2 a1 = some (r1, r2, r3)) :
  Calls Try.prog 71 #[.pointer (some ⟨g, 0, none⟩), .int .i64 a1] w fun e w' => e = .returned (.bool r1) ∧ IsS108 w0 w' g s0_0 r2 r3 ∧ Below w0.heap.size w0 w' ∧ KeepBut w w' g none := by
 have HI0 := Aside0.mk hI
 have HK := Aside0.mk (KeepBut.refl w g none)
 have HL := Aside0.mk hB.size
 clear hI
 have HW0 := Aside0.mk hB.size
 have HB := Aside0.mk hB
 clear hB
 have H : ((spec_l1Below.f s0_0 s0_1 s0_2 a1).bind fun bt956 => (some ((bt956.1 == 0), bt956.2.1, bt956.2.2))) = some (r1, r2, r3) := h
 clear h
 replace H := Option.bind_eq_some_iff.mp H
 obtain ⟨⟨t956, t957, t958⟩, A30, H⟩ := H
 replace H : (some ((t956 == 0), t957, t958)) = some (r1, r2, r3) := H
 have A3 := Aside0.mk A30
 clear A30
 simp only [Option.some.injEq, Prod.mk.injEq] at H
 obtain ⟨rfl, rfl, rfl⟩ := H
 go_enter Try.func71, Try.ntmps71
 go_wp2_with (first | ((with_reducible refine gate_callee (f := 70) rfl ?_); refine gL_ (some 7) Try.func70 #[.pointer (some ⟨g, 0, none⟩), .int .i64 a1] ?_; (with_reducible refine (spec_l1Below.calls g s0_0 s0_1 s0_2 a1 t956 t957 t958 w0 _ ?side1 ?side2 A3.out).mono ?_); (case side1 => repeat (first | (with_reducible first | exact HI0.out | apply IsS108.alloc | apply IsS108.drewN | apply IsS108.drew | apply IsS108.set_1 | apply IsS108.set_2) | exact HI0.out)); (case side2 => repeat (first | (with_reducible first | exact HB.out | apply below_alloc | apply pw_below_drewN | apply below_drew1 | refine below_set ?_ (IsS108.ge HI0.out)) | exact HB.out)); rintro e w4 ⟨rfl, hi, hb, hk⟩; refine ⟨_, rfl, ?_⟩; replace HK := Aside0.mk (KeepBut.trans (by repeat (first | (with_reducible first | exact HK.out | apply KeepBut.set_ | apply keep_drewN | apply keep_drew | apply keep_alloc) | exact HK.out)) hk (.inl rfl)); replace HB := Aside0.mk (hb); replace HI0 := Aside0.mk (hi); (try clear hb); (try clear hk); (try clear hi)))
 go_ret
 exact ⟨ea_, by repeat (first | (with_reducible first | exact HI0.out | apply IsS108.alloc | apply IsS108.drewN | apply IsS108.drew | apply IsS108.set_1 | apply IsS108.set_2) | exact HI0.out), by repeat (first | (with_reducible first | exact HB.out | apply below_alloc | apply pw_below_drewN | apply below_drew1 | refine below_set ?_ (IsS108.ge HI0.out)) | exact HB.out), by repeat (first | (with_reducible first | exact HK.out | apply KeepBut.set_ | apply keep_drewN | apply keep_drew | apply keep_alloc) | exact HK.out)⟩
end Go.Proofs.Ytelglbebffdaaaa.X
namespace Go.Proofs.Ytelglbebffdaaaa.X
open Go.RowKit Go.Proofs.YtelglbebffdaaaaW.PrintWords Go.Proofs.YtelglbebffdaaaaW.PrintLast Go.Proofs.YtelglbebffdaaaaW.PrintMore
attribute [local go_sem] max2_int min2_int max_two min_two max_three min_three max_four min_four   -- for this text's walks alone
set_option linter.unusedVariables false
set_option linter.unusedSimpArgs false
def spec_l1PickInt.f (s0_0 : List Int) (s0_1 : Int) (s0_2 : Int) (l1 : List Int) : Option (Int × Int × Int) := (spec_l1Below.f s0_0 s0_1 s0_2 (l1.length : Int)).bind fun bt1057 => (if 0 ≤ bt1057.1 then (if bt1057.1 < (l1.length : Int) then (some (rd l1 bt1057.1, bt1057.2.1, bt1057.2.2)) else (none)) else (none))
set_option maxHeartbeats 8000000 in
set_option maxRecDepth 100000 in
theorem spec_l1PickInt.calls (g : Nat) (s0_0 : List Int) (s0_1 : Int) (s0_2 : Int) (A1 : Option Addr) (c1 : Nat) (l1 : List Int) (r1 : Int) (r2 : Int) (r3 : Int) (w0 w : World) (hI : IsS108 w0 w g s0_0 s0_1 s0_2) (hB : Below w0.heap.size w0 w) (hr1 : Kd.C (Kd.int .i64) w A1 l1.length l1) (hc1 : l1.length ≤ c1) (hf1 : ∀ ad, A1 = some ad → 0 < l1.length → ad.block ≠ g) (h : spec_l1PickInt.f s0_0 s0_1 s0_2 l1 = some (r1, r2, r3)) :
  Calls Try.prog 72 #[.pointer (some ⟨g, 0, none⟩), .slice A1 l1.length c1] w fun e w' => e = .returned (.int .i64 r1) ∧ IsS108 w0 w' g s0_0 r2 r3 ∧ Below w0.heap.size w0 w' ∧ KeepBut w w' g none := by
 have HR1 := Aside0.mk hr1
 have HC1 := Aside0.mk hc1
 clear hr1 hc1
 have HI0 := Aside0.mk hI
 have HK := Aside0.mk (KeepBut.refl w g none)
 have HL := Aside0.mk hB.size
 clear hI
 have HW0 := Aside0.mk hB.size
 have HB := Aside0.mk hB
 clear hB
 have H : ((spec_l1Below.f s0_0 s0_1 s0_2 (l1.length : Int)).bind fun bt1057 => (if 0 ≤ bt1057.1 then (if bt1057.1 < (l1.length : Int) then (some (rd l1 bt1057.1, bt1057.2.1, bt1057.2.2)) else (none)) else (none))) = some (r1, r2, r3) := h
 clear h
 replace H := Option.bind_eq_some_iff.mp H
 obtain ⟨⟨t1057, t1058, t1059⟩, A30, H⟩ := H
 try dsimp only at H
 have A3 := Aside0.mk A30
 clear A30
 by_cases c4 : 0 ≤ t1057
 ·rw [if_pos c4] at H
  have c4b0 : decide (0 ≤ t1057) = true := decide_eq_true c4
  clear c4
  by_cases c5 : t1057 < (l1.length : Int)
  ·rw [if_pos c5] at H
   have c5b0 : decide (t1057 < (l1.length : Int)) = true := decide_eq_true c5
   clear c5
   simp only [Option.some.injEq, Prod.mk.injEq] at H
   obtain ⟨rfl, rfl, rfl⟩ := H
   go_enter Try.func72, Try.ntmps72
   go_wp2_with (first | ((with_reducible refine gate_callee (f := 70) rfl ?_); refine gL_ (some 9) Try.func70 #[.pointer (some ⟨g, 0, none⟩), .int .i64 (l1.length : Int)] ?_; (with_reducible refine (spec_l1Below.calls g s0_0 s0_1 s0_2 (l1.length : Int) t1057 t1058 t1059 w0 _ ?side1 ?side2 A3.out).mono ?_); (case side1 => repeat (first | (with_reducible first | exact HI0.out | apply IsS108.alloc | apply IsS108.drewN | apply IsS108.drew | apply IsS108.set_1 | apply IsS108.set_2) | exact HI0.out)); (case side2 => repeat (first | (with_reducible first | exact HB.out | apply below_alloc | apply pw_below_drewN | apply below_drew1 | refine below_set ?_ (IsS108.ge HI0.out)) | exact HB.out)); rintro e w6 ⟨rfl, hi, hb, hk⟩; refine ⟨_, rfl, ?_⟩; replace HK := Aside0.mk (KeepBut.trans (by repeat (first | (with_reducible first | exact HK.out | apply KeepBut.set_ | apply keep_drewN | apply keep_drew | apply keep_alloc) | exact HK.out)) hk (.inl rfl)); replace HB := Aside0.mk (hb); replace HI0 := Aside0.mk (hi); (try clear hb); (try clear hk); (try clear hi); have p1060 : 0 ≤ (t1057 : Int) := od_; have q1060 : t1057 < (l1.length : Int) := od_; obtain ⟨ad1060, e1060, hx1060_0⟩ := Kd.at_int HR1.out t1057 p1060 q1060; cases e1060; replace hx1060_0 := keep_cell HK.out hx1060_0 (by first | (rw [add_block]; exact hf1 _ rfl (by omega)) | exact hf1 _ rfl (by omega) | exact hf1 ad1060 rfl (by omega)); replace p1060 := eq_true p1060; replace q1060 := eq_true q1060))
   go_ret
   exact ⟨ea_, by repeat (first | (with_reducible first | exact HI0.out | apply IsS108.alloc | apply IsS108.drewN | apply IsS108.drew | apply IsS108.set_1 | apply IsS108.set_2) | exact HI0.out), by repeat (first | (with_reducible first | exact HB.out | apply below_alloc | apply pw_below_drewN | apply below_drew1 | refine below_set ?_ (IsS108.ge HI0.out)) | exact HB.out), by repeat (first | (with_reducible first | exact HK.out | apply KeepBut.set_ | apply keep_drewN | apply keep_drew | apply keep_alloc) | exact HK.out)⟩
  ·rw [if_neg c5] at H
   exact absurd H (by simp)
 ·rw [if_neg c4] at H
  exact absurd H (by simp)
end Go.Proofs.Ytelglbebffdaaaa.X
namespace Go.Proofs.Ytelglbebffdaaaa.X
open Go.RowKit Go.Proofs.YtelglbebffdaaaaW.PrintWords Go.Proofs.YtelglbebffdaaaaW.PrintLast Go.Proofs.YtelglbebffdaaaaW.PrintMore
attribute [local go_sem] max2_int min2_int max_two min_two max_three min_three max_four min_four   -- for this text's walks alone
set_option linter.unusedVariables false
set_option linter.unusedSimpArgs false
def spec_l2Label.f (s0_0 : List Int) (s0_1 : Int) (s0_2 : Int) : Option (Int × Int × Int) := (spec_l1Below.f s0_0 s0_1 s0_2 4).bind fun bt959 => (some (bt959.1, bt959.2.1, bt959.2.2))
set_option maxHeartbeats 8000000 in
set_option maxRecDepth 100000 in
theorem spec_l2Label.calls (g : Nat) (s0_0 : List Int) (s0_1 : Int) (s0_2 : Int) (r1 : Int) (r2 : Int) (r3 : Int) (w0 w : World) (hI : IsS108 w0 w g s0_0 s0_1 s0_2) (hB : Below w0.heap.size w0 w) (h : spec_l2Label.f s0_0 s0_1 s0_2 = some (r1, r2, r3)) :
  Calls Try.prog 108 #[.pointer (some ⟨g, 0, none⟩)] w fun e w' => e = .returned (.int .i64 r1) ∧ IsS108 w0 w' g s0_0 r2 r3 ∧ Below w0.heap.size w0 w' ∧ KeepBut w w' g none := by
 have HI0 := Aside0.mk hI
 have HK := Aside0.mk (KeepBut.refl w g none)
 have HL := Aside0.mk hB.size
 clear hI
 have HW0 := Aside0.mk hB.size
 have HB := Aside0.mk hB
 clear hB
 have H : ((spec_l1Below.f s0_0 s0_1 s0_2 4).bind fun bt959 => (some (bt959.1, bt959.2.1, bt959.2.2))) = some (r1, r2, r3) := h
 clear h
 replace H := Option.bind_eq_some_iff.mp H
 obtain ⟨⟨t959, t960, t961⟩, A20, H⟩ := H
 replace H : (some (t959, t960, t961)) = some (r1, r2, r3) := H
 have A2 := Aside0.mk A20
 clear A20
 simp only [Option.some.injEq, Prod.mk.injEq] at H
 obtain ⟨rfl, rfl, rfl⟩ := H
 go_enter Try.func108, Try.ntmps108
 go_wp2_with (first | ((with_reducible refine gate_callee (f := 70) rfl ?_); refine gL_ (some 4) Try.func70 #[.pointer (some ⟨g, 0, none⟩), .int .i64 4] ?_; (with_reducible refine (spec_l1Below.calls g s0_0 s0_1 s0_2 4 t959 t960 t961 w0 _ ?side1 ?side2 A2.out).mono ?_); (case side1 => repeat (first | (with_reducible first | exact HI0.out | apply IsS108.alloc | apply IsS108.drewN | apply IsS108.drew | apply IsS108.set_1 | apply IsS108.set_2) | exact HI0.out)); (case side2 => repeat (first | (with_reducible first | exact HB.out | apply below_alloc | apply pw_below_drewN | apply below_drew1 | refine below_set ?_ (IsS108.ge HI0.out)) | exact HB.out)); rintro e w3 ⟨rfl, hi, hb, hk⟩; refine ⟨_, rfl, ?_⟩; replace HK := Aside0.mk (KeepBut.trans (by repeat (first | (with_reducible first | exact HK.out | apply KeepBut.set_ | apply keep_drewN | apply keep_drew | apply keep_alloc) | exact HK.out)) hk (.inl rfl)); replace HB := Aside0.mk (hb); replace HI0 := Aside0.mk (hi); (try clear hb); (try clear hk); (try clear hi)))
 go_ret
 exact ⟨ea_, by repeat (first | (with_reducible first | exact HI0.out | apply IsS108.alloc | apply IsS108.drewN | apply IsS108.drew | apply IsS108.set_1 | apply IsS108.set_2) | exact HI0.out), by repeat (first | (with_reducible first | exact HB.out | apply below_alloc | apply pw_below_drewN | apply below_drew1 | refine below_set ?_ (IsS108.ge HI0.out)) | exact HB.out), by repeat (first | (with_reducible first | exact HK.out | apply KeepBut.set_ | apply keep_drewN | apply keep_drew | apply keep_alloc) | exact HK.out)⟩
end Go.Proofs.Ytelglbebffdaaaa.X
namespace Go.Proofs.Ytelglbebffdaaaa.X
open Go.RowKit Go.Proofs.YtelglbebffdaaaaW.PrintWords Go.Proofs.YtelglbebffdaaaaW.PrintLast Go.Proofs.YtelglbebffdaaaaW.PrintMore
attribute [local go_sem] max2_int min2_int max_two min_two max_three min_three max_four min_four   -- for this text's walks alone
set_option linter.unusedVariables false
set_option linter.unusedSimpArgs false
def spec_l2Any.f (s0_0 : List Int) (s0_1 : Int) (s0_2 : Int) : Option (Int × Int × Int) := (spec_l1PickInt.f s0_0 s0_1 s0_2 (([0, 1, 2, 3, 5, 6, (-1)] : List Int))).bind fun bt1109 => (some (bt1109.1, bt1109.2.1, bt1109.2.2))
set_option maxHeartbeats 8000000 in
set_option maxRecDepth 100000 in
theorem spec_l2Any.calls (g : Nat) (s0_0 : List Int) (s0_1 : Int) (s0_2 : Int) (r1 : Int) (r2 : Int) (r3 : Int) (w0 w : World) (hI : IsS108 w0 w g s0_0 s0_1 s0_2) (hB : Below w0.heap.size w0 w) (h : spec_l2Any.f s0_0 s0_1 s0_2 = some (r1, r2, r3)) :
  Calls Try.prog 111 #[.pointer (some ⟨g, 0, none⟩)] w fun e w' => e = .returned (.int .i64 r1) ∧ IsS108 w0 w' g s0_0 r2 r3 ∧ Below w0.heap.size w0 w' ∧ KeepBut w w' g none := by
 have HI0 := Aside0.mk hI
 have HK := Aside0.mk (KeepBut.refl w g none)
 have HL := Aside0.mk hB.size
 clear hI
 have HW0 := Aside0.mk hB.size
 have HB := Aside0.mk hB
 clear hB
 have H : ((spec_l1PickInt.f s0_0 s0_1 s0_2 (([0, 1, 2, 3, 5, 6, (-1)] : List Int))).bind fun bt1109 => (some (bt1109.1, bt1109.2.1, bt1109.2.2))) = some (r1, r2, r3) := h
 clear h
 obtain ⟨y1106, hy1106⟩ : ∃ y_ : List Int, y_ = (([0, 1, 2, 3, 5, 6, (-1)] : List Int)) := ⟨_, rfl⟩
 replace H : ((spec_l1PickInt.f s0_0 s0_1 s0_2 y1106).bind fun bt1109 => (some (bt1109.1, bt1109.2.1, bt1109.2.2))) = some (r1, r2, r3) := by first | (rw [hy1106]; with_reducible exact H) | (have H2_ := (Option.bind_some _ _).symm.trans H; rw [hy1106]; with_reducible exact H2_) | (have H2_ := (Option.bind_some _ _).symm.trans H; with_reducible exact H2_) | with_reducible exact H | (rw [hy1106]; exact H) | exact H
 have Ny1106 := Aside0.mk hy1106
 clear hy1106
 replace H := Option.bind_eq_some_iff.mp H
 obtain ⟨⟨t1109, t1110, t1111⟩, A20, H⟩ := H
 replace H : (some (t1109, t1110, t1111)) = some (r1, r2, r3) := H
 have A2 := Aside0.mk A20
 clear A20
 simp only [Option.some.injEq, Prod.mk.injEq] at H
 obtain ⟨rfl, rfl, rfl⟩ := H
 go_enter Try.func111, Try.ntmps111
 go_wp2_with (first | ((with_reducible refine gate_dst (N := 4) rfl ?_); refine Kd.R_lit (Kd.int .i64) _ 3 ?hg (N := 4) ?hd (xs := ([0, 1, 2, 3, 5, 6, (-1)] : List Int)) (inner := [.int .i64 0, .int .i64 1, .int .i64 2, .int .i64 3, .int .i64 5, .int .i64 6, .int .i64 (-1)]) (ok := fun _ => True) (okp := fun _ => True) ?hr ?hp (fun _ hk => hk) trivial (Below.refl _ _) (Nat.le_refl _) (by simp) ?_; (case hd => rfl); (case hg => rfl); (case hr => first | (go_simp; done) | (go_simp; rfl)); (case hp => exact (Reps.one (show Kd.M (Kd.int .i64) _ _ _ 0 [.int .i64 0] from rfl) (Reps.one (show Kd.M (Kd.int .i64) _ _ _ 1 [.int .i64 1] from rfl) (Reps.one (show Kd.M (Kd.int .i64) _ _ _ 2 [.int .i64 2] from rfl) (Reps.one (show Kd.M (Kd.int .i64) _ _ _ 3 [.int .i64 3] from rfl) (Reps.one (show Kd.M (Kd.int .i64) _ _ _ 5 [.int .i64 5] from rfl) (Reps.one (show Kd.M (Kd.int .i64) _ _ _ 6 [.int .i64 6] from rfl) (Reps.one (show Kd.M (Kd.int .i64) _ _ _ (-1) [.int .i64 (-1)] from rfl) (Reps.none _ _))))))))); intro v1107 w3 ho4 hb hg_ hnew_; clear hg_ hnew_; (first | rw [← Ny1106.out] at ho4 | (simp only [Int.reduceToNat] at ho4; rw [← Ny1106.out] at ho4)); have HO1108 := Aside0.mk (Kd.R_lower ho4 (keep_size (w := w) (g := g) (row := none) (by repeat (first | (with_reducible first | exact HK.out | apply KeepBut.set_ | apply keep_drewN | apply keep_drew | apply keep_alloc) | exact HK.out)))); replace HK := Aside0.mk (KeepBut.trans (by repeat (first | (with_reducible first | exact HK.out | apply KeepBut.set_ | apply keep_drewN | apply keep_drew | apply keep_alloc) | exact HK.out)) (KeepBut.of_below hb g none) (.inl rfl)); replace HB := Aside0.mk (below_step (by repeat (first | (with_reducible first | exact HB.out | apply below_alloc | apply pw_below_drewN | apply below_drew1 | refine below_set ?_ (IsS108.ge HI0.out)) | exact HB.out)) hb); replace HI0 := Aside0.mk (IsS108.below (by repeat (first | (with_reducible first | exact HI0.out | apply IsS108.alloc | apply IsS108.drewN | apply IsS108.drew | apply IsS108.set_1 | apply IsS108.set_2) | exact HI0.out)) hb); clear hb ho4; obtain ⟨Ao5, co5, eo5⟩ := Kd.R_slice HO1108.out; subst eo5) | ((with_reducible refine gate_callee (f := 72) rfl ?_); refine gL_ (some 5) Try.func72 #[.pointer (some ⟨g, 0, none⟩), .slice Ao5 y1106.length co5] ?_; (with_reducible refine (spec_l1PickInt.calls g s0_0 s0_1 s0_2 _ _ y1106 t1109 t1110 t1111 w0 _ ?side1 ?side2 ?side3 ?side4 ?side5 A2.out).mono ?_); (case side1 => repeat (first | (with_reducible first | exact HI0.out | apply IsS108.alloc | apply IsS108.drewN | apply IsS108.drew | apply IsS108.set_1 | apply IsS108.set_2) | exact HI0.out)); (case side2 => repeat (first | (with_reducible first | exact HB.out | apply below_alloc | apply pw_below_drewN | apply below_drew1 | refine below_set ?_ (IsS108.ge HI0.out)) | exact HB.out)); (case side3 => exact cc_ (Kd.R_reads' HO1108.out).2.2); (case side4 => exact (Kd.R_reads' HO1108.out).2.1); (case side5 => exact far_slice (IsS108.own_ne HI0.out HO1108.out (by decide))); rintro e w6 ⟨rfl, hi, hb, hk⟩; refine ⟨_, rfl, ?_⟩; replace HO1108 := Aside0.mk (Kd.R_mono (Kd.R_keep (IsS108.apart (show IsS108 w0 _ g s0_0 s0_1 s0_2 from by repeat (first | (with_reducible first | exact HI0.out | apply IsS108.alloc | apply IsS108.drewN | apply IsS108.drew | apply IsS108.set_1 | apply IsS108.set_2) | exact HI0.out)) (rx_ HO1108.out) (by decide)) hk (fun _ h => h.2)) (fun _ h => h.1)); replace HK := Aside0.mk (KeepBut.trans (by repeat (first | (with_reducible first | exact HK.out | apply KeepBut.set_ | apply keep_drewN | apply keep_drew | apply keep_alloc) | exact HK.out)) hk (.inl rfl)); replace HB := Aside0.mk (hb); replace HI0 := Aside0.mk (hi); (try clear hb); (try clear hk); (try clear hi)))
 go_ret
 exact ⟨ea_, by repeat (first | (with_reducible first | exact HI0.out | apply IsS108.alloc | apply IsS108.drewN | apply IsS108.drew | apply IsS108.set_1 | apply IsS108.set_2) | exact HI0.out), by repeat (first | (with_reducible first | exact HB.out | apply below_alloc | apply pw_below_drewN | apply below_drew1 | refine below_set ?_ (IsS108.ge HI0.out)) | exact HB.out), by repeat (first | (with_reducible first | exact HK.out | apply KeepBut.set_ | apply keep_drewN | apply keep_drew | apply keep_alloc) | exact HK.out)⟩
end Go.Proofs.Ytelglbebffdaaaa.X
namespace Go.Proofs.Ytelglbebffdaaaa.X
open Go.RowKit Go.Proofs.YtelglbebffdaaaaW.PrintWords Go.Proofs.YtelglbebffdaaaaW.PrintLast Go.Proofs.YtelglbebffdaaaaW.PrintMore
attribute [local go_sem] max2_int min2_int max_two min_two max_three min_three max_four min_four   -- for this text's walks alone
set_option linter.unusedVariables false
set_option linter.unusedSimpArgs false
def spec_l1In.f (a0 : Int) (a1 : Int) (a2 : Int) : Option (Bool) := if a0 ≥ a1 then (some (decide (a0 ≤ a2))) else (some false)
set_option maxHeartbeats 8000000 in
set_option maxRecDepth 100000 in
theorem spec_l1In.calls (a0 : Int) (a1 : Int) (a2 : Int) (r : Bool) (w : World) (h : spec_l1In.f a0 a1 a2 = some r) :
  Calls Try.prog 52 #[.int .i64 a0, .int .i64 a1, .int .i64 a2] w fun e w' => e = .returned (.bool r) ∧ Drawn0 w w' := by
 have H : (if a0 ≥ a1 then (some (decide (a0 ≤ a2))) else (some false)) = some r := h
 clear h
 by_cases c4 : a0 ≥ a1
 ·rw [if_pos c4] at H
  have c4b0 : decide (a1 ≤ a0) = true := decide_eq_true c4
  clear c4
  obtain rfl := Option.some.inj H
  go_enter Try.func52, Try.ntmps52
  go_wp2
  go_ret
  exact ⟨by first | rfl | (simp; done) | (simp [*]; done), by repeat (first | exact Drawn0.refl _ | apply Drawn0.step)⟩
 ·rw [if_neg c4] at H
  have c4b0 : decide (a1 ≤ a0) = false := decide_eq_false c4
  clear c4
  obtain rfl := Option.some.inj H
  go_enter Try.func52, Try.ntmps52
  go_wp2
  go_ret
  exact ⟨by first | rfl | (simp; done) | (simp [*]; done), by repeat (first | exact Drawn0.refl _ | apply Drawn0.step)⟩
end Go.Proofs.Ytelglbebffdaaaa.X
namespace Go.Proofs.Ytelglbebffdaaaa.X
open Go.RowKit Go.Proofs.YtelglbebffdaaaaW.PrintWords Go.Proofs.YtelglbebffdaaaaW.PrintLast Go.Proofs.YtelglbebffdaaaaW.PrintMore
attribute [local go_sem] max2_int min2_int max_two min_two max_three min_three max_four min_four   -- for this text's walks alone
set_option linter.unusedVariables false
set_option linter.unusedSimpArgs false
def spec_LabelOk.f (a0 : Int) : Option (Bool) := (spec_l1In.f a0 0 5).bind fun t105 => (some t105)
set_option maxHeartbeats 8000000 in
set_option maxRecDepth 100000 in
theorem spec_LabelOk.calls (a0 : Int) (r : Bool) (w : World) (h : spec_LabelOk.f a0 = some r) :
  Calls Try.prog 76 #[.int .i64 a0] w fun e w' => e = .returned (.bool r) ∧ Drawn0 w w' := by
 have H : ((spec_l1In.f a0 0 5).bind fun t105 => (some t105)) = some r := h
 clear h
 replace H := Option.bind_eq_some_iff.mp H
 obtain ⟨t105, A20, H⟩ := H
 replace H : (some t105) = some r := H
 have A2 := Aside0.mk A20
 clear A20
 obtain rfl := Option.some.inj H
 go_enter Try.func76, Try.ntmps76
 go_wp2_with (first | ((with_reducible refine gate_callee (f := 52) rfl ?_); refine gL_ (some 4) Try.func52 #[.int .i64 a0, .int .i64 0, .int .i64 5] ?_; (with_reducible refine (spec_l1In.calls a0 0 5 t105 _ A2.out).mono ?_); rintro e w' ⟨rfl, ⟨nd, rfl⟩⟩; refine ⟨_, rfl, ?_⟩))
 go_ret
 exact ⟨by first | rfl | (simp; done) | (simp [*]; done), by repeat (first | exact Drawn0.refl _ | apply Drawn0.step)⟩
end Go.Proofs.Ytelglbebffdaaaa.X
namespace Go.Proofs.Ytelglbebffdaaaa.X
open Go.RowKit Go.Proofs.YtelglbebffdaaaaW.PrintWords Go.Proofs.YtelglbebffdaaaaW.PrintLast Go.Proofs.YtelglbebffdaaaaW.PrintMore
attribute [local go_sem] max2_int min2_int max_two min_two max_three min_three max_four min_four   -- for this text's walks alone
set_option linter.unusedVariables false
set_option linter.unusedSimpArgs false
def spec_TreeOk.l0 : Nat → List (S53) → Int → Option (Bool)
 | 0, _, _ => none
 | k + 1, x0, x3 => if x3 < (x0.length : Int) then (if 0 ≤ x3 then ((spec_LabelOk.f ((rd_T53 x0 x3).f0)).bind fun t108 => (if t108 = true then ((spec_l1In.f ((rd_T53 x0 x3).f1) 0 12).bind fun t110 => (if t110 = true then (if ((((rd_T53 x0 x3).f1) == 0) != (x3 == 0)) = true then (some false) else (if x3 > 0 then (if 0 ≤ (wrap64 (x3 - 1)) then (if (wrap64 (x3 - 1)) < (x0.length : Int) then (if ((rd_T53 x0 x3).f1) > (wrap64 (((rd_T53 x0 (wrap64 (x3 - 1))).f1) + 1)) then (some false) else (spec_TreeOk.l0 k x0 (wrap64 (x3 + 1)))) else (none)) else (none)) else (spec_TreeOk.l0 k x0 (wrap64 (x3 + 1))))) else (some false))) else (some false))) else (none)) else ((spec_l1In.f (x0.length : Int) 1 24).bind fun t106 => (some t106))
def spec_TreeOk.f (k : Nat) (l0 : List (S53)) : Option (Bool) := spec_TreeOk.l0 k l0 0
theorem spec_TreeOk.mono_l : ∀ k, (∀ y0 y1, LeO (spec_TreeOk.l0 k y0 y1) (spec_TreeOk.l0 (k + 1) y0 y1))
 | 0 => fun _ _ r h => by simp [spec_TreeOk.l0] at h
 | k + 1 => by
  have ih0 := spec_TreeOk.mono_l k
  ·intro y0 y1
   unfold spec_TreeOk.l0
   repeat' first
   | (with_reducible exact ih0 _ _)
   | (with_reducible exact LeO.refl _)
   | (with_reducible exact LeO.none _)
   | (with_reducible refine LeO.ite ?_ ?_)
   | (with_reducible refine LeO.bind ?_ (fun _ => ?_))
   | exact ih0 _ _
   | exact LeO.none _
   | refine LeO.ite ?_ ?_
   | refine LeO.bind ?_ (fun _ => ?_)
theorem spec_TreeOk.mono : ∀ a0 k, LeO (spec_TreeOk.f k a0) (spec_TreeOk.f (k + 1) a0) := by
 intro a0 k
 have ih0 := spec_TreeOk.mono_l k
 unfold spec_TreeOk.f
 repeat' first
   | (with_reducible exact ih0 _ _)
   | (with_reducible exact LeO.refl _)
   | (with_reducible exact LeO.none _)
   | (with_reducible refine LeO.ite ?_ ?_)
   | (with_reducible refine LeO.bind ?_ (fun _ => ?_))
   | exact ih0 _ _
   | exact LeO.none _
   | refine LeO.ite ?_ ?_
   | refine LeO.bind ?_ (fun _ => ?_)
def spec_TreeOk.T4 : Bool × List (List Nat × List Nat) := (true, [([], []), ([], []), ([0, 1], [0, 1]), ([2], [2]), ([3], [3]), ([4], [4]), ([5], [5]), ([6, 5], [6]), ([7], [7]), ([7], [7]), ([8, 9, 7], [7, 8, 9]), ([10, 7], [7, 10]), ([11, 7], [7, 11]), ([12, 7, 7], [7, 12]), ([13, 7], [7, 13]), ([7, 14], [7, 14]), ([15, 13], [15]), ([16], [16]), ([16], [16]), ([17, 18, 16], [16, 17, 18]), ([19, 16], [16, 19]), ([20, 16], [16, 20]), ([21, 16], [16, 21]), ([16], [16]), ([23, 16], [16, 23]), ([22, 24, 16], [16, 22, 24]), ([16, 25], [16, 25]), ([26, 16], [26]), ([27], [27]), ([28, 27], [27, 28]), ([29, 27, 27], [27, 29]), ([30], [30]), ([30], [30]), ([31, 32, 30], [30, 31, 32]), ([33, 30], [30, 33]), ([34, 30], [30, 34]), ([30], [30]), ([30], [30]), ([37, 30], [30, 37]), ([36, 38, 30], [30, 36, 38]), ([39, 30], [30, 39]), ([40, 30], [30, 40]), ([41, 30], [30, 41]), ([35, 42, 30], [30, 35, 42]), ([30, 43, 27], [27, 30, 43]), ([27, 44], [27, 44])])
def spec_TreeOk.B4 : List Nat := [0, 0, 3, 7, 15, 31, 63, 127, 255, 255, 1023, 2047, 4095, 8191, 16383, 32767, 65535, 131071, 131071, 524287, 1048575, 2097151, 4194303, 131071, 8519679, 33554431, 67108863, 134217727, 268435455, 536870911, 1073741823, 2147483647, 2147483647, 8589934591, 17179869183, 34359738367, 2147483647, 2147483647, 139586437119, 483183820799, 1032939634687, 2132451262463, 4331474518015, 8796093022207, 17592186044415, 35184372088831]
theorem spec_TreeOk.tab4 : rtab .any (opsOf Try.f45 4) = spec_TreeOk.T4 := by kernel_rfl
theorem spec_TreeOk.bits4 : waitsOk spec_TreeOk.T4.2 spec_TreeOk.B4 = true := by kernel_rfl
set_option maxHeartbeats 8000000 in
set_option maxRecDepth 100000 in
theorem spec_TreeOk.calls (k : Nat) (A0 : Option Addr) (c0 : Nat) (l0 : List (S53)) (r : Bool) (w : World) (hr0 : Kd.C k53 w A0 l0.length l0) (hc0 : l0.length ≤ c0) (h : spec_TreeOk.f k l0 = some r) :
  Calls Try.prog 45 #[.slice A0 l0.length c0] w fun e w' => e = .returned (.bool r) ∧ Below w.heap.size w w' := by
 have HR0 := Aside0.mk hr0
 have HC0 := Aside0.mk hc0
 clear hr0 hc0
 have HB := Aside0.mk (Below.refl w.heap.size w)
 have H : (spec_TreeOk.l0 k l0 0) = some r := h
 clear h
 have H' := Aside0.mk H
 clear H
 go_enter Try.func45, Try.ntmps45
 go_wp2
 go_loopg [3] k (fun kq v3 w' => ∃ (x3_1 : Int), v3 = .int .i64 x3_1 ∧ Aside0 (spec_TreeOk.l0 kq l0 x3_1 = some r) ∧ Aside0 (kq ≤ k) ∧ Aside0 (Below w.heap.size w w'))
 case atStart => exact ⟨(0), eb_, H', ⟨Nat.le_refl _⟩, bl_ HB⟩
 case round =>
  clear H'
  obtain ⟨x3_1, rfl, HA, HK1, HB⟩ := hrel
  cases gk with
  | zero => exact absurd HA.out (by simp [spec_TreeOk.l0])
  | succ k1 =>
   have H := HA.out
   clear HA
   simp only [spec_TreeOk.l0] at H
   by_cases c2 : x3_1 < (l0.length : Int)
   ·rw [if_pos c2] at H
    have c2b0 : decide (x3_1 < (l0.length : Int)) = true := decide_eq_true c2
    clear c2
    by_cases c3 : 0 ≤ x3_1
    ·rw [if_pos c3] at H
     have c3b0 : decide (0 ≤ x3_1) = true := decide_eq_true c3
     clear c3
     replace H := Option.bind_eq_some_iff.mp H
     obtain ⟨t108, A40, H⟩ := H
     try dsimp only at H
     have A4 := Aside0.mk A40
     clear A40
     by_cases c5 : t108 = true
     ·subst c5
      have H1 : ((spec_l1In.f ((rd_T53 l0 x3_1).f1) 0 12).bind fun t110 => (if t110 = true then (if ((((rd_T53 l0 x3_1).f1) == 0) != (x3_1 == 0)) = true then (some false) else (if x3_1 > 0 then (if 0 ≤ (wrap64 (x3_1 - 1)) then (if (wrap64 (x3_1 - 1)) < (l0.length : Int) then (if ((rd_T53 l0 x3_1).f1) > (wrap64 (((rd_T53 l0 (wrap64 (x3_1 - 1))).f1) + 1)) then (some false) else (spec_TreeOk.l0 k1 l0 (wrap64 (x3_1 + 1)))) else (none)) else (none)) else (spec_TreeOk.l0 k1 l0 (wrap64 (x3_1 + 1))))) else (some false))) = some r := by rw [if_pos rfl] at H; exact H
      clear H
      have H := H1
      clear H1
      replace H := Option.bind_eq_some_iff.mp H
      obtain ⟨t110, A60, H⟩ := H
      try dsimp only at H
      have A6 := Aside0.mk A60
      clear A60
      by_cases c7 : t110 = true
      ·subst c7
       have H1 : (if ((((rd_T53 l0 x3_1).f1) == 0) != (x3_1 == 0)) = true then (some false) else (if x3_1 > 0 then (if 0 ≤ (wrap64 (x3_1 - 1)) then (if (wrap64 (x3_1 - 1)) < (l0.length : Int) then (if ((rd_T53 l0 x3_1).f1) > (wrap64 (((rd_T53 l0 (wrap64 (x3_1 - 1))).f1) + 1)) then (some false) else (spec_TreeOk.l0 k1 l0 (wrap64 (x3_1 + 1)))) else (none)) else (none)) else (spec_TreeOk.l0 k1 l0 (wrap64 (x3_1 + 1))))) = some r := by rw [if_pos rfl] at H; exact H
       clear H
       have H := H1
       clear H1
       by_cases c8 : ((((rd_T53 l0 x3_1).f1) == 0) != (x3_1 == 0)) = true
       ·rw [if_pos c8] at H
        have c8b0 : ((((rd_T53 l0 x3_1).f1) == 0) != (x3_1 == 0)) = true := c8
        (try (have c8b1 : decide ((((rd_T53 l0 x3_1).f1) == 0) = (x3_1 == 0)) = false := by simpa using c8))
        (try (have c8b2 : ((((rd_T53 l0 x3_1).f1) == 0) == (x3_1 == 0)) = false := by simpa using c8))
        (try (have c8b3 : ¬ ((((rd_T53 l0 x3_1).f1) == 0) = (x3_1 == 0)) := by simpa using c8))
        clear c8
        obtain rfl := Option.some.inj H
        try go_wp2
        have n0_ := Aside0.mk (below_drew1 HB.out)
        clear HB
        have HB := n0_
        clear n0_
        have p107 : 0 ≤ (x3_1 : Int) := od_
        have q107 : x3_1 < (l0.length : Int) := od_
        obtain ⟨ad107, e107, hx107_0, hx107_1⟩ := at_T53 HR0.out x3_1 p107 q107
        have hw107_1 := hx107_1
        have hw107_0 := hx107_0
        cases e107
        replace hx107_0 := ce_ HB hx107_0
        replace hx107_1 := ce_ HB hx107_1
        replace p107 := eq_true p107
        replace q107 := eq_true q107
        have p109 : 0 ≤ (x3_1 : Int) := od_
        have q109 : x3_1 < (l0.length : Int) := od_
        obtain ⟨ad109, e109, hx109_0, hx109_1⟩ := at_T53 HR0.out x3_1 p109 q109
        have hw109_1 := hx109_1
        have hw109_0 := hx109_0
        obtain rfl : ad107 = ad109 := (by injection e109)
        replace hx109_0 := ce_ HB hx109_0
        replace hx109_1 := ce_ HB hx109_1
        replace p109 := eq_true p109
        replace q109 := eq_true q109
        have p111 : 0 ≤ (x3_1 : Int) := od_
        have q111 : x3_1 < (l0.length : Int) := od_
        obtain ⟨ad111, e111, hx111_0, hx111_1⟩ := at_T53 HR0.out x3_1 p111 q111
        have hw111_1 := hx111_1
        have hw111_0 := hx111_0
        obtain rfl : ad107 = ad111 := (by injection e111)
        replace hx111_0 := ce_ HB hx111_0
        replace hx111_1 := ce_ HB hx111_1
        replace p111 := eq_true p111
        replace q111 := eq_true q111
        refine start_ (n := 46) (S := fun w' => w'.cell? (ad107.add ((x3_1).toNat * 2)) = some (.int .i64 ((rd_T53 l0 x3_1).f0)) ∧ w'.cell? ⟨(ad107.add ((x3_1).toNat * 2)).block, (ad107.add ((x3_1).toNat * 2)).off + 1, none⟩ = some (.int .i64 ((rd_T53 l0 x3_1).f1)) ∧ w'.cell? (ad107.add ((x3_1).toNat * 2)) = some (.int .i64 ((rd_T53 l0 x3_1).f0)) ∧ w'.cell? ⟨(ad107.add ((x3_1).toNat * 2)).block, (ad107.add ((x3_1).toNat * 2)).off + 1, none⟩ = some (.int .i64 ((rd_T53 l0 x3_1).f1)) ∧ w'.cell? (ad107.add ((x3_1).toNat * 2)) = some (.int .i64 ((rd_T53 l0 x3_1).f0)) ∧ w'.cell? ⟨(ad107.add ((x3_1).toNat * 2)).block, (ad107.add ((x3_1).toNat * 2)).off + 1, none⟩ = some (.int .i64 ((rd_T53 l0 x3_1).f1))) (ds := []) (ba_ 46 0) (by kernel_rfl) rfl rfl ⟨(ce_ HB hw107_0), (ce_ HB hw107_1), (ce_ HB hw109_0), (ce_ HB hw109_1), (ce_ HB hw111_0), (ce_ HB hw111_1)⟩ (fun hHeld => ?_); refine with_tabW spec_TreeOk.tab4 spec_TreeOk.bits4 (fun HT_ HW_ => ?_)
        generalize wr.drew = w9 at HB hx107_0 hx107_1 hx109_0 hx109_1 hx111_0 hx111_1 hHeld ⊢
        refine pu_ 0 (some 10) (ba_ 46 1) rfl rfl (any_of HT_.out (by kernel_rfl)) ?_
        refine pu_ 1 (some 11) (ba_ 46 3) rfl rfl (any_of HT_.out (by kernel_rfl)) ?_
        refine pu_ 2 (some 12) (ba_ 46 7) rfl rfl (any_of HT_.out (by kernel_rfl)) ?_
        refine pu_ 3 (some 13) (ba_ 46 15) rfl rfl (any_of HT_.out (by kernel_rfl)) ?_
        refine ta_ 4 (some 14) (ba_ 46 31) rfl rfl (take_ofW HT_.out HW_.out (by kernel_rfl)) hHeld (by rintro w' ⟨s0, s1, s2, s3, s4, s5⟩; go_simp; with_reducible rfl) ?_
        refine one_ (i := 5) (N := some 15) (ba_ 46 63) rfl rfl (one_of HT_.out (by kernel_rfl)) (by decide) (fun K hK => ?_)
        refine goes_ Try.func76 (by kernel_rfl) rfl #[.int .i64 ((rd_T53 l0 x3_1).f0)] (by rfl) rfl rfl (by (try simp only [List.map_toArray, List.map_cons, List.map_nil]); first | done | rfl | (simp only [List.length_drop, List.length_take]; rfl)) ?_
        with_reducible refine (spec_LabelOk.calls ((rd_T53 l0 x3_1).f0) true _ A4.out).mono ?_
        rintro e w' ⟨rfl, ⟨nd, rfl⟩⟩
        refine ⟨_, rfl, ?_⟩
        refine hK.out _ _ ⟨(ce_ HB hw107_0), (ce_ HB hw107_1), (ce_ HB hw109_0), (ce_ HB hw109_1), (ce_ HB hw111_0), (ce_ HB hw111_1)⟩ (fun hHeld => ?_)
        clear hK K
        refine norm_ (a' := ?_) ?_ ?_
        rotate_left
        ·show Act.put _ (some 15) _ = _
         simp only [Act.put, List.setIfInBounds_toArray, List.set_cons_zero, List.set_cons_succ, i64_w, i32_w]
         rfl
        refine pu_ 6 (some 16) (ba_ 46 127) rfl rfl (any_of HT_.out (by kernel_rfl)) ?_
        refine pu_ 7 (some 17) (ba_ 46 255) rfl rfl (any_of HT_.out (by kernel_rfl)) ?_
        refine pu_ 8 (some 18) (ba_ 46 511) rfl rfl (any_of HT_.out (by kernel_rfl)) ?_
        refine pu_ 9 (some 19) (ba_ 46 1023) rfl rfl (any_of HT_.out (by kernel_rfl)) ?_
        refine pu_ 10 (some 20) (ba_ 46 2047) rfl rfl (any_of HT_.out (by kernel_rfl)) ?_
        refine pu_ 11 (some 21) (ba_ 46 4095) rfl rfl (any_of HT_.out (by kernel_rfl)) ?_
        refine ta_ 12 (some 22) (ba_ 46 8191) rfl rfl (take_ofW HT_.out HW_.out (by kernel_rfl)) hHeld (by rintro w' ⟨s0, s1, s2, s3, s4, s5⟩; go_simp; with_reducible rfl) ?_
        refine one_ (i := 13) (N := some 23) (ba_ 46 16383) rfl rfl (one_of HT_.out (by kernel_rfl)) (by decide) (fun K hK => ?_)
        refine goes_ Try.func52 (by kernel_rfl) rfl #[.int .i64 ((rd_T53 l0 x3_1).f1), .int .i64 0, .int .i64 12] (by rfl) rfl rfl (by (try simp only [List.map_toArray, List.map_cons, List.map_nil]); first | done | rfl | (simp only [List.length_drop, List.length_take]; rfl)) ?_
        with_reducible refine (spec_l1In.calls ((rd_T53 l0 x3_1).f1) 0 12 true _ A6.out).mono ?_
        rintro e w' ⟨rfl, ⟨nd, rfl⟩⟩
        refine ⟨_, rfl, ?_⟩
        refine hK.out _ _ ⟨(ce_ HB hw107_0), (ce_ HB hw107_1), (ce_ HB hw109_0), (ce_ HB hw109_1), (ce_ HB hw111_0), (ce_ HB hw111_1)⟩ (fun hHeld => ?_)
        clear hK K
        refine norm_ (a' := ?_) ?_ ?_
        rotate_left
        ·show Act.put _ (some 23) _ = _
         simp only [Act.put, List.setIfInBounds_toArray, List.set_cons_zero, List.set_cons_succ, i64_w, i32_w]
         rfl
        refine pu_ 14 (some 24) (ba_ 46 32767) rfl rfl (any_of HT_.out (by kernel_rfl)) ?_
        refine pu_ 15 (some 25) (ba_ 46 65535) rfl rfl (any_of HT_.out (by kernel_rfl)) ?_
        refine pu_ 16 (some 26) (ba_ 46 131071) rfl rfl (any_of HT_.out (by kernel_rfl)) ?_
        refine pu_ 17 (some 27) (ba_ 46 262143) rfl rfl (any_of HT_.out (by kernel_rfl)) ?_
        refine pu_ 18 (some 28) (ba_ 46 524287) rfl rfl (any_of HT_.out (by kernel_rfl)) ?_
        refine pu_ 19 (some 29) (ba_ 46 1048575) rfl rfl (any_of HT_.out (by kernel_rfl)) ?_
        refine pu_ 20 (some 30) (ba_ 46 2097151) rfl rfl (any_of HT_.out (by kernel_rfl)) ?_
        refine pu_ 23 (some 33) (ba_ 46 10485759) rfl rfl (any_of HT_.out (by kernel_rfl)) ?_
        refine pu_ 24 (some 34) (ba_ 46 27262975) rfl rfl (any_of HT_.out (by kernel_rfl)) ?_
        refine ta_ 21 (some 31) (ba_ 46 29360127) rfl rfl (take_ofW HT_.out HW_.out (by kernel_rfl)) hHeld (by rintro w' ⟨s0, s1, s2, s3, s4, s5⟩; go_simp; with_reducible rfl) ?_
        refine pu_ 22 (some 32) (ba_ 46 33554431) rfl rfl (any_of HT_.out (by kernel_rfl)) ?_
        refine pu_ 25 (some 35) (ba_ 46 67108863) rfl rfl (any_of HT_.out (by kernel_rfl)) ?_
        refine pu_ 26 (some 36) (ba_ 46 134217727) rfl rfl (any_of HT_.out (by kernel_rfl)) ?_
        refine pu_ 27 (some 37) (ba_ 46 268435455) rfl rfl (any_of HT_.out (by kernel_rfl)) ?_
        refine pn_ 28 (some 38) (ba_ 46 536870911) rfl rfl (any_of HT_.out (by kernel_rfl)) ?_
        refine pn_ 29 (some 39) (ba_ 46 1073741823) rfl rfl (any_of HT_.out (by kernel_rfl)) ?_
        refine pn_ 30 (some 40) (ba_ 46 2147483647) rfl rfl (any_of HT_.out (by kernel_rfl)) ?_
        refine pn_ 31 (some 41) (ba_ 46 4294967295) rfl rfl (any_of HT_.out (by kernel_rfl)) ?_
        refine pn_ 32 (some 42) (ba_ 46 8589934591) rfl rfl (any_of HT_.out (by kernel_rfl)) ?_
        refine pn_ 33 (some 43) (ba_ 46 17179869183) rfl rfl (any_of HT_.out (by kernel_rfl)) ?_
        refine pn_ 34 (some 44) (ba_ 46 34359738367) rfl rfl (any_of HT_.out (by kernel_rfl)) ?_
        refine pn_ 35 (some 45) (ba_ 46 68719476735) rfl rfl (any_of HT_.out (by kernel_rfl)) ?_
        refine pn_ 36 (some 46) (ba_ 46 137438953471) rfl rfl (any_of HT_.out (by kernel_rfl)) ?_
        refine pn_ 37 (some 47) (ba_ 46 274877906943) rfl rfl (any_of HT_.out (by kernel_rfl)) ?_
        refine pn_ 38 (some 48) (ba_ 46 549755813887) rfl rfl (any_of HT_.out (by kernel_rfl)) ?_
        refine pn_ 39 (some 49) (ba_ 46 1099511627775) rfl rfl (any_of HT_.out (by kernel_rfl)) ?_
        refine pn_ 40 (some 50) (ba_ 46 2199023255551) rfl rfl (any_of HT_.out (by kernel_rfl)) ?_
        refine pn_ 41 (some 51) (ba_ 46 4398046511103) rfl rfl (any_of HT_.out (by kernel_rfl)) ?_
        refine pn_ 42 (some 52) (ba_ 46 8796093022207) rfl rfl (any_of HT_.out (by kernel_rfl)) ?_
        refine pn_ 43 (some 53) (ba_ 46 17592186044415) rfl rfl (any_of HT_.out (by kernel_rfl)) ?_
        refine pn_ 44 (some 54) (ba_ 46 35184372088831) rfl rfl (any_of HT_.out (by kernel_rfl)) ?_
        refine pu_ 45 (some 55) (ba_ 46 70368744177663) rfl rfl (any_of HT_.out (by kernel_rfl)) ?_
        refine done_ (done_of HT_.out (by kernel_rfl)) ?_
        try go_wp2
        go_ret
        exact ⟨ea_, (bl_ HB).out⟩
       ·rw [if_neg c8] at H
        have c8b0 : ((((rd_T53 l0 x3_1).f1) == 0) != (x3_1 == 0)) = false := by simpa using c8
        (try (have c8b1 : decide ((((rd_T53 l0 x3_1).f1) == 0) = (x3_1 == 0)) = true := by simpa using c8))
        (try (have c8b2 : ((((rd_T53 l0 x3_1).f1) == 0) == (x3_1 == 0)) = true := by simpa using c8))
        clear c8
        by_cases c10 : x3_1 > 0
        ·rw [if_pos c10] at H
         have c10b0 : decide (0 < x3_1) = true := decide_eq_true c10
         clear c10
         obtain ⟨ji11, hji11⟩ : ∃ j_ : Int, (wrap64 (x3_1 - 1)) = j_ := ⟨_, rfl⟩
         replace H : (if 0 ≤ (ji11) then (if (ji11) < (l0.length : Int) then (if ((rd_T53 l0 x3_1).f1) > (wrap64 (((rd_T53 l0 (ji11)).f1) + 1)) then (some false) else (spec_TreeOk.l0 k1 l0 (wrap64 (x3_1 + 1)))) else (none)) else (none)) = some r := by first | (rw [hji11] at H; exact H) | (simp only [hji11] at H ⊢; exact H)
         (try rw [hji11] at A4)
         (try rw [hji11] at A6)
         have hji11w : (IntKind.i64.wrap (x3_1 - 1)) = ji11 := (i64_w _).trans hji11
         by_cases c12 : 0 ≤ (ji11)
         ·rw [if_pos c12] at H
          have c12b0 : decide (0 ≤ (ji11)) = true := decide_eq_true c12
          clear c12
          by_cases c13 : (ji11) < (l0.length : Int)
          ·rw [if_pos c13] at H
           have c13b0 : decide ((ji11) < (l0.length : Int)) = true := decide_eq_true c13
           clear c13
           by_cases c14 : ((rd_T53 l0 x3_1).f1) > (wrap64 (((rd_T53 l0 (ji11)).f1) + 1))
           ·rw [if_pos c14] at H
            have c14b0 : decide ((wrap64 (((rd_T53 l0 (ji11)).f1) + 1)) < ((rd_T53 l0 x3_1).f1)) = true := decide_eq_true c14
            clear c14
            obtain rfl := Option.some.inj H
            try go_wp2
            have n0_ := Aside0.mk (below_drew1 HB.out)
            clear HB
            have HB := n0_
            clear n0_
            have p107 : 0 ≤ (x3_1 : Int) := od_
            have q107 : x3_1 < (l0.length : Int) := od_
            obtain ⟨ad107, e107, hx107_0, hx107_1⟩ := at_T53 HR0.out x3_1 p107 q107
            have hw107_1 := hx107_1
            have hw107_0 := hx107_0
            cases e107
            replace hx107_0 := ce_ HB hx107_0
            replace hx107_1 := ce_ HB hx107_1
            replace p107 := eq_true p107
            replace q107 := eq_true q107
            have p109 : 0 ≤ (x3_1 : Int) := od_
            have q109 : x3_1 < (l0.length : Int) := od_
            obtain ⟨ad109, e109, hx109_0, hx109_1⟩ := at_T53 HR0.out x3_1 p109 q109
            have hw109_1 := hx109_1
            have hw109_0 := hx109_0
            obtain rfl : ad107 = ad109 := (by injection e109)
            replace hx109_0 := ce_ HB hx109_0
            replace hx109_1 := ce_ HB hx109_1
            replace p109 := eq_true p109
            replace q109 := eq_true q109
            have p111 : 0 ≤ (x3_1 : Int) := od_
            have q111 : x3_1 < (l0.length : Int) := od_
            obtain ⟨ad111, e111, hx111_0, hx111_1⟩ := at_T53 HR0.out x3_1 p111 q111
            have hw111_1 := hx111_1
            have hw111_0 := hx111_0
            obtain rfl : ad107 = ad111 := (by injection e111)
            replace hx111_0 := ce_ HB hx111_0
            replace hx111_1 := ce_ HB hx111_1
            replace p111 := eq_true p111
            replace q111 := eq_true q111
            have p112 : 0 ≤ (x3_1 : Int) := od_
            have q112 : x3_1 < (l0.length : Int) := od_
            obtain ⟨ad112, e112, hx112_0, hx112_1⟩ := at_T53 HR0.out x3_1 p112 q112
            have hw112_1 := hx112_1
            have hw112_0 := hx112_0
            obtain rfl : ad107 = ad112 := (by injection e112)
            replace hx112_0 := ce_ HB hx112_0
            replace hx112_1 := ce_ HB hx112_1
            replace p112 := eq_true p112
            replace q112 := eq_true q112
            have p113 : 0 ≤ ((ji11) : Int) := od_
            have q113 : (ji11) < (l0.length : Int) := od_
            obtain ⟨ad113, e113, hx113_0, hx113_1⟩ := at_T53 HR0.out (ji11) p113 q113
            have hw113_1 := hx113_1
            have hw113_0 := hx113_0
            obtain rfl : ad107 = ad113 := (by injection e113)
            replace hx113_0 := ce_ HB hx113_0
            replace hx113_1 := ce_ HB hx113_1
            replace p113 := eq_true p113
            replace q113 := eq_true q113
            refine start_ (n := 46) (S := fun w' => w'.cell? (ad107.add ((x3_1).toNat * 2)) = some (.int .i64 ((rd_T53 l0 x3_1).f0)) ∧ w'.cell? ⟨(ad107.add ((x3_1).toNat * 2)).block, (ad107.add ((x3_1).toNat * 2)).off + 1, none⟩ = some (.int .i64 ((rd_T53 l0 x3_1).f1)) ∧ w'.cell? (ad107.add ((x3_1).toNat * 2)) = some (.int .i64 ((rd_T53 l0 x3_1).f0)) ∧ w'.cell? ⟨(ad107.add ((x3_1).toNat * 2)).block, (ad107.add ((x3_1).toNat * 2)).off + 1, none⟩ = some (.int .i64 ((rd_T53 l0 x3_1).f1)) ∧ w'.cell? (ad107.add ((x3_1).toNat * 2)) = some (.int .i64 ((rd_T53 l0 x3_1).f0)) ∧ w'.cell? ⟨(ad107.add ((x3_1).toNat * 2)).block, (ad107.add ((x3_1).toNat * 2)).off + 1, none⟩ = some (.int .i64 ((rd_T53 l0 x3_1).f1)) ∧ w'.cell? (ad107.add ((x3_1).toNat * 2)) = some (.int .i64 ((rd_T53 l0 x3_1).f0)) ∧ w'.cell? ⟨(ad107.add ((x3_1).toNat * 2)).block, (ad107.add ((x3_1).toNat * 2)).off + 1, none⟩ = some (.int .i64 ((rd_T53 l0 x3_1).f1)) ∧ w'.cell? (ad107.add (((ji11)).toNat * 2)) = some (.int .i64 ((rd_T53 l0 (ji11)).f0)) ∧ w'.cell? ⟨(ad107.add (((ji11)).toNat * 2)).block, (ad107.add (((ji11)).toNat * 2)).off + 1, none⟩ = some (.int .i64 ((rd_T53 l0 (ji11)).f1))) (ds := []) (ba_ 46 0) (by kernel_rfl) rfl rfl ⟨(ce_ HB hw107_0), (ce_ HB hw107_1), (ce_ HB hw109_0), (ce_ HB hw109_1), (ce_ HB hw111_0), (ce_ HB hw111_1), (ce_ HB hw112_0), (ce_ HB hw112_1), (ce_ HB hw113_0), (ce_ HB hw113_1)⟩ (fun hHeld => ?_); refine with_tabW spec_TreeOk.tab4 spec_TreeOk.bits4 (fun HT_ HW_ => ?_)
            generalize wr.drew = w15 at HB hx107_0 hx107_1 hx109_0 hx109_1 hx111_0 hx111_1 hx112_0 hx112_1 hx113_0 hx113_1 hHeld ⊢
            refine pu_ 0 (some 10) (ba_ 46 1) rfl rfl (any_of HT_.out (by kernel_rfl)) ?_
            refine pu_ 1 (some 11) (ba_ 46 3) rfl rfl (any_of HT_.out (by kernel_rfl)) ?_
            refine pu_ 2 (some 12) (ba_ 46 7) rfl rfl (any_of HT_.out (by kernel_rfl)) ?_
            refine pu_ 3 (some 13) (ba_ 46 15) rfl rfl (any_of HT_.out (by kernel_rfl)) ?_
            refine ta_ 4 (some 14) (ba_ 46 31) rfl rfl (take_ofW HT_.out HW_.out (by kernel_rfl)) hHeld (by rintro w' ⟨s0, s1, s2, s3, s4, s5, s6, s7, s8, s9⟩; go_simp; with_reducible rfl) ?_
            refine one_ (i := 5) (N := some 15) (ba_ 46 63) rfl rfl (one_of HT_.out (by kernel_rfl)) (by decide) (fun K hK => ?_)
            refine goes_ Try.func76 (by kernel_rfl) rfl #[.int .i64 ((rd_T53 l0 x3_1).f0)] (by rfl) rfl rfl (by (try simp only [List.map_toArray, List.map_cons, List.map_nil]); first | done | rfl | (simp only [List.length_drop, List.length_take]; rfl)) ?_
            with_reducible refine (spec_LabelOk.calls ((rd_T53 l0 x3_1).f0) true _ A4.out).mono ?_
            rintro e w' ⟨rfl, ⟨nd, rfl⟩⟩
            refine ⟨_, rfl, ?_⟩
            refine hK.out _ _ ⟨(ce_ HB hw107_0), (ce_ HB hw107_1), (ce_ HB hw109_0), (ce_ HB hw109_1), (ce_ HB hw111_0), (ce_ HB hw111_1), (ce_ HB hw112_0), (ce_ HB hw112_1), (ce_ HB hw113_0), (ce_ HB hw113_1)⟩ (fun hHeld => ?_)
            clear hK K
            refine norm_ (a' := ?_) ?_ ?_
            rotate_left
            ·show Act.put _ (some 15) _ = _
             simp only [Act.put, List.setIfInBounds_toArray, List.set_cons_zero, List.set_cons_succ, i64_w, i32_w]
             rfl
            refine pu_ 6 (some 16) (ba_ 46 127) rfl rfl (any_of HT_.out (by kernel_rfl)) ?_
            refine pu_ 7 (some 17) (ba_ 46 255) rfl rfl (any_of HT_.out (by kernel_rfl)) ?_
            refine pu_ 8 (some 18) (ba_ 46 511) rfl rfl (any_of HT_.out (by kernel_rfl)) ?_
            refine pu_ 9 (some 19) (ba_ 46 1023) rfl rfl (any_of HT_.out (by kernel_rfl)) ?_
            refine pu_ 10 (some 20) (ba_ 46 2047) rfl rfl (any_of HT_.out (by kernel_rfl)) ?_
            refine pu_ 11 (some 21) (ba_ 46 4095) rfl rfl (any_of HT_.out (by kernel_rfl)) ?_
            refine ta_ 12 (some 22) (ba_ 46 8191) rfl rfl (take_ofW HT_.out HW_.out (by kernel_rfl)) hHeld (by rintro w' ⟨s0, s1, s2, s3, s4, s5, s6, s7, s8, s9⟩; go_simp; with_reducible rfl) ?_
            refine one_ (i := 13) (N := some 23) (ba_ 46 16383) rfl rfl (one_of HT_.out (by kernel_rfl)) (by decide) (fun K hK => ?_)
            refine goes_ Try.func52 (by kernel_rfl) rfl #[.int .i64 ((rd_T53 l0 x3_1).f1), .int .i64 0, .int .i64 12] (by rfl) rfl rfl (by (try simp only [List.map_toArray, List.map_cons, List.map_nil]); first | done | rfl | (simp only [List.length_drop, List.length_take]; rfl)) ?_
            with_reducible refine (spec_l1In.calls ((rd_T53 l0 x3_1).f1) 0 12 true _ A6.out).mono ?_
            rintro e w' ⟨rfl, ⟨nd, rfl⟩⟩
            refine ⟨_, rfl, ?_⟩
            refine hK.out _ _ ⟨(ce_ HB hw107_0), (ce_ HB hw107_1), (ce_ HB hw109_0), (ce_ HB hw109_1), (ce_ HB hw111_0), (ce_ HB hw111_1), (ce_ HB hw112_0), (ce_ HB hw112_1), (ce_ HB hw113_0), (ce_ HB hw113_1)⟩ (fun hHeld => ?_)
            clear hK K
            refine norm_ (a' := ?_) ?_ ?_
            rotate_left
            ·show Act.put _ (some 23) _ = _
             simp only [Act.put, List.setIfInBounds_toArray, List.set_cons_zero, List.set_cons_succ, i64_w, i32_w]
             rfl
            refine pu_ 14 (some 24) (ba_ 46 32767) rfl rfl (any_of HT_.out (by kernel_rfl)) ?_
            refine pu_ 15 (some 25) (ba_ 46 65535) rfl rfl (any_of HT_.out (by kernel_rfl)) ?_
            refine pu_ 16 (some 26) (ba_ 46 131071) rfl rfl (any_of HT_.out (by kernel_rfl)) ?_
            refine pu_ 17 (some 27) (ba_ 46 262143) rfl rfl (any_of HT_.out (by kernel_rfl)) ?_
            refine pu_ 18 (some 28) (ba_ 46 524287) rfl rfl (any_of HT_.out (by kernel_rfl)) ?_
            refine pu_ 19 (some 29) (ba_ 46 1048575) rfl rfl (any_of HT_.out (by kernel_rfl)) ?_
            refine pu_ 20 (some 30) (ba_ 46 2097151) rfl rfl (any_of HT_.out (by kernel_rfl)) ?_
            refine pu_ 23 (some 33) (ba_ 46 10485759) rfl rfl (any_of HT_.out (by kernel_rfl)) ?_
            refine pu_ 24 (some 34) (ba_ 46 27262975) rfl rfl (any_of HT_.out (by kernel_rfl)) ?_
            refine ta_ 21 (some 31) (ba_ 46 29360127) rfl rfl (take_ofW HT_.out HW_.out (by kernel_rfl)) hHeld (by rintro w' ⟨s0, s1, s2, s3, s4, s5, s6, s7, s8, s9⟩; go_simp; with_reducible rfl) ?_
            refine pu_ 22 (some 32) (ba_ 46 33554431) rfl rfl (any_of HT_.out (by kernel_rfl)) ?_
            refine pu_ 25 (some 35) (ba_ 46 67108863) rfl rfl (any_of HT_.out (by kernel_rfl)) ?_
            refine pu_ 26 (some 36) (ba_ 46 134217727) rfl rfl (any_of HT_.out (by kernel_rfl)) ?_
            refine pu_ 27 (some 37) (ba_ 46 268435455) rfl rfl (any_of HT_.out (by kernel_rfl)) ?_
            refine pu_ 28 (some 38) (ba_ 46 536870911) rfl rfl (any_of HT_.out (by kernel_rfl)) ?_
            refine pu_ 29 (some 39) (ba_ 46 1073741823) rfl rfl (any_of HT_.out (by kernel_rfl)) ?_
            refine pu_ 30 (some 40) (ba_ 46 2147483647) rfl rfl (any_of HT_.out (by kernel_rfl)) ?_
            refine pu_ 31 (some 41) (ba_ 46 4294967295) rfl rfl (any_of HT_.out (by kernel_rfl)) ?_
            refine pu_ 32 (some 42) (ba_ 46 8589934591) rfl rfl (any_of HT_.out (by kernel_rfl)) ?_
            refine pu_ 33 (some 43) (ba_ 46 17179869183) rfl rfl (any_of HT_.out (by kernel_rfl)) ?_
            refine pu_ 34 (some 44) (ba_ 46 34359738367) rfl rfl (any_of HT_.out (by kernel_rfl)) ?_
            refine pu_ 36 (some 46) (ba_ 46 103079215103) rfl rfl (any_of HT_.out (by kernel_rfl)) ?_
            refine pu_ 37 (some 47) (ba_ 46 240518168575) rfl rfl (any_of HT_.out (by kernel_rfl)) ?_
            refine pu_ 38 (some 48) (ba_ 46 515396075519) rfl rfl (any_of HT_.out (by kernel_rfl)) ?_
            refine pu_ 39 (some 49) (ba_ 46 1065151889407) rfl rfl (any_of HT_.out (by kernel_rfl)) ?_
            refine pu_ 40 (some 50) (ba_ 46 2164663517183) rfl rfl (any_of HT_.out (by kernel_rfl)) ?_
            refine ta_ 35 (some 45) (ba_ 46 2199023255551) rfl rfl (take_ofW HT_.out HW_.out (by kernel_rfl)) hHeld (by rintro w' ⟨s0, s1, s2, s3, s4, s5, s6, s7, s8, s9⟩; go_simp; with_reducible rfl) ?_
            refine ta_ 41 (some 51) (ba_ 46 4398046511103) rfl rfl (take_ofW HT_.out HW_.out (by kernel_rfl)) hHeld (by rintro w' ⟨s0, s1, s2, s3, s4, s5, s6, s7, s8, s9⟩; go_simp; with_reducible rfl) ?_
            refine pu_ 42 (some 52) (ba_ 46 8796093022207) rfl rfl (any_of HT_.out (by kernel_rfl)) ?_
            refine pu_ 43 (some 53) (ba_ 46 17592186044415) rfl rfl (any_of HT_.out (by kernel_rfl)) ?_
            refine pu_ 44 (some 54) (ba_ 46 35184372088831) rfl rfl (any_of HT_.out (by kernel_rfl)) ?_
            refine pu_ 45 (some 55) (ba_ 46 70368744177663) rfl rfl (any_of HT_.out (by kernel_rfl)) ?_
            refine done_ (done_of HT_.out (by kernel_rfl)) ?_
            try go_wp2
            go_ret
            exact ⟨by first | rfl | (simp [errW_none, errW_some] <;> rfl) | (simp only [← hji11]; first | rfl | (simp [errW_none, errW_some] <;> rfl)) | (simp [*, errW_none, errW_some] <;> rfl), (bl_ HB).out⟩
           ·rw [if_neg c14] at H
            have c14b0 : decide ((wrap64 (((rd_T53 l0 (ji11)).f1) + 1)) < ((rd_T53 l0 x3_1).f1)) = false := decide_eq_false c14
            clear c14
            have H' := Aside0.mk H
            clear H
            try go_wp2
            have n0_ := Aside0.mk (below_drew1 HB.out)
            clear HB
            have HB := n0_
            clear n0_
            have p107 : 0 ≤ (x3_1 : Int) := od_
            have q107 : x3_1 < (l0.length : Int) := od_
            obtain ⟨ad107, e107, hx107_0, hx107_1⟩ := at_T53 HR0.out x3_1 p107 q107
            have hw107_1 := hx107_1
            have hw107_0 := hx107_0
            cases e107
            replace hx107_0 := ce_ HB hx107_0
            replace hx107_1 := ce_ HB hx107_1
            replace p107 := eq_true p107
            replace q107 := eq_true q107
            have p109 : 0 ≤ (x3_1 : Int) := od_
            have q109 : x3_1 < (l0.length : Int) := od_
            obtain ⟨ad109, e109, hx109_0, hx109_1⟩ := at_T53 HR0.out x3_1 p109 q109
            have hw109_1 := hx109_1
            have hw109_0 := hx109_0
            obtain rfl : ad107 = ad109 := (by injection e109)
            replace hx109_0 := ce_ HB hx109_0
            replace hx109_1 := ce_ HB hx109_1
            replace p109 := eq_true p109
            replace q109 := eq_true q109
            have p111 : 0 ≤ (x3_1 : Int) := od_
            have q111 : x3_1 < (l0.length : Int) := od_
            obtain ⟨ad111, e111, hx111_0, hx111_1⟩ := at_T53 HR0.out x3_1 p111 q111
            have hw111_1 := hx111_1
            have hw111_0 := hx111_0
            obtain rfl : ad107 = ad111 := (by injection e111)
            replace hx111_0 := ce_ HB hx111_0
            replace hx111_1 := ce_ HB hx111_1
            replace p111 := eq_true p111
            replace q111 := eq_true q111
            have p112 : 0 ≤ (x3_1 : Int) := od_
            have q112 : x3_1 < (l0.length : Int) := od_
            obtain ⟨ad112, e112, hx112_0, hx112_1⟩ := at_T53 HR0.out x3_1 p112 q112
            have hw112_1 := hx112_1
            have hw112_0 := hx112_0
            obtain rfl : ad107 = ad112 := (by injection e112)
            replace hx112_0 := ce_ HB hx112_0
            replace hx112_1 := ce_ HB hx112_1
            replace p112 := eq_true p112
            replace q112 := eq_true q112
            have p113 : 0 ≤ ((ji11) : Int) := od_
            have q113 : (ji11) < (l0.length : Int) := od_
            obtain ⟨ad113, e113, hx113_0, hx113_1⟩ := at_T53 HR0.out (ji11) p113 q113
            have hw113_1 := hx113_1
            have hw113_0 := hx113_0
            obtain rfl : ad107 = ad113 := (by injection e113)
            replace hx113_0 := ce_ HB hx113_0
            replace hx113_1 := ce_ HB hx113_1
            replace p113 := eq_true p113
            replace q113 := eq_true q113
            refine start_ (n := 46) (S := fun w' => w'.cell? (ad107.add ((x3_1).toNat * 2)) = some (.int .i64 ((rd_T53 l0 x3_1).f0)) ∧ w'.cell? ⟨(ad107.add ((x3_1).toNat * 2)).block, (ad107.add ((x3_1).toNat * 2)).off + 1, none⟩ = some (.int .i64 ((rd_T53 l0 x3_1).f1)) ∧ w'.cell? (ad107.add ((x3_1).toNat * 2)) = some (.int .i64 ((rd_T53 l0 x3_1).f0)) ∧ w'.cell? ⟨(ad107.add ((x3_1).toNat * 2)).block, (ad107.add ((x3_1).toNat * 2)).off + 1, none⟩ = some (.int .i64 ((rd_T53 l0 x3_1).f1)) ∧ w'.cell? (ad107.add ((x3_1).toNat * 2)) = some (.int .i64 ((rd_T53 l0 x3_1).f0)) ∧ w'.cell? ⟨(ad107.add ((x3_1).toNat * 2)).block, (ad107.add ((x3_1).toNat * 2)).off + 1, none⟩ = some (.int .i64 ((rd_T53 l0 x3_1).f1)) ∧ w'.cell? (ad107.add ((x3_1).toNat * 2)) = some (.int .i64 ((rd_T53 l0 x3_1).f0)) ∧ w'.cell? ⟨(ad107.add ((x3_1).toNat * 2)).block, (ad107.add ((x3_1).toNat * 2)).off + 1, none⟩ = some (.int .i64 ((rd_T53 l0 x3_1).f1)) ∧ w'.cell? (ad107.add (((ji11)).toNat * 2)) = some (.int .i64 ((rd_T53 l0 (ji11)).f0)) ∧ w'.cell? ⟨(ad107.add (((ji11)).toNat * 2)).block, (ad107.add (((ji11)).toNat * 2)).off + 1, none⟩ = some (.int .i64 ((rd_T53 l0 (ji11)).f1))) (ds := []) (ba_ 46 0) (by kernel_rfl) rfl rfl ⟨(ce_ HB hw107_0), (ce_ HB hw107_1), (ce_ HB hw109_0), (ce_ HB hw109_1), (ce_ HB hw111_0), (ce_ HB hw111_1), (ce_ HB hw112_0), (ce_ HB hw112_1), (ce_ HB hw113_0), (ce_ HB hw113_1)⟩ (fun hHeld => ?_); refine with_tabW spec_TreeOk.tab4 spec_TreeOk.bits4 (fun HT_ HW_ => ?_)
            generalize wr.drew = w16 at HB hx107_0 hx107_1 hx109_0 hx109_1 hx111_0 hx111_1 hx112_0 hx112_1 hx113_0 hx113_1 hHeld ⊢
            refine pu_ 0 (some 10) (ba_ 46 1) rfl rfl (any_of HT_.out (by kernel_rfl)) ?_
            refine pu_ 1 (some 11) (ba_ 46 3) rfl rfl (any_of HT_.out (by kernel_rfl)) ?_
            refine pu_ 2 (some 12) (ba_ 46 7) rfl rfl (any_of HT_.out (by kernel_rfl)) ?_
            refine pu_ 3 (some 13) (ba_ 46 15) rfl rfl (any_of HT_.out (by kernel_rfl)) ?_
            refine ta_ 4 (some 14) (ba_ 46 31) rfl rfl (take_ofW HT_.out HW_.out (by kernel_rfl)) hHeld (by rintro w' ⟨s0, s1, s2, s3, s4, s5, s6, s7, s8, s9⟩; go_simp; with_reducible rfl) ?_
            refine one_ (i := 5) (N := some 15) (ba_ 46 63) rfl rfl (one_of HT_.out (by kernel_rfl)) (by decide) (fun K hK => ?_)
            refine goes_ Try.func76 (by kernel_rfl) rfl #[.int .i64 ((rd_T53 l0 x3_1).f0)] (by rfl) rfl rfl (by (try simp only [List.map_toArray, List.map_cons, List.map_nil]); first | done | rfl | (simp only [List.length_drop, List.length_take]; rfl)) ?_
            with_reducible refine (spec_LabelOk.calls ((rd_T53 l0 x3_1).f0) true _ A4.out).mono ?_
            rintro e w' ⟨rfl, ⟨nd, rfl⟩⟩
            refine ⟨_, rfl, ?_⟩
            refine hK.out _ _ ⟨(ce_ HB hw107_0), (ce_ HB hw107_1), (ce_ HB hw109_0), (ce_ HB hw109_1), (ce_ HB hw111_0), (ce_ HB hw111_1), (ce_ HB hw112_0), (ce_ HB hw112_1), (ce_ HB hw113_0), (ce_ HB hw113_1)⟩ (fun hHeld => ?_)
            clear hK K
            refine norm_ (a' := ?_) ?_ ?_
            rotate_left
            ·show Act.put _ (some 15) _ = _
             simp only [Act.put, List.setIfInBounds_toArray, List.set_cons_zero, List.set_cons_succ, i64_w, i32_w]
             rfl
            refine pu_ 6 (some 16) (ba_ 46 127) rfl rfl (any_of HT_.out (by kernel_rfl)) ?_
            refine pu_ 7 (some 17) (ba_ 46 255) rfl rfl (any_of HT_.out (by kernel_rfl)) ?_
            refine pu_ 8 (some 18) (ba_ 46 511) rfl rfl (any_of HT_.out (by kernel_rfl)) ?_
            refine pu_ 9 (some 19) (ba_ 46 1023) rfl rfl (any_of HT_.out (by kernel_rfl)) ?_
            refine pu_ 10 (some 20) (ba_ 46 2047) rfl rfl (any_of HT_.out (by kernel_rfl)) ?_
            refine pu_ 11 (some 21) (ba_ 46 4095) rfl rfl (any_of HT_.out (by kernel_rfl)) ?_
            refine ta_ 12 (some 22) (ba_ 46 8191) rfl rfl (take_ofW HT_.out HW_.out (by kernel_rfl)) hHeld (by rintro w' ⟨s0, s1, s2, s3, s4, s5, s6, s7, s8, s9⟩; go_simp; with_reducible rfl) ?_
            refine one_ (i := 13) (N := some 23) (ba_ 46 16383) rfl rfl (one_of HT_.out (by kernel_rfl)) (by decide) (fun K hK => ?_)
            refine goes_ Try.func52 (by kernel_rfl) rfl #[.int .i64 ((rd_T53 l0 x3_1).f1), .int .i64 0, .int .i64 12] (by rfl) rfl rfl (by (try simp only [List.map_toArray, List.map_cons, List.map_nil]); first | done | rfl | (simp only [List.length_drop, List.length_take]; rfl)) ?_
            with_reducible refine (spec_l1In.calls ((rd_T53 l0 x3_1).f1) 0 12 true _ A6.out).mono ?_
            rintro e w' ⟨rfl, ⟨nd, rfl⟩⟩
            refine ⟨_, rfl, ?_⟩
            refine hK.out _ _ ⟨(ce_ HB hw107_0), (ce_ HB hw107_1), (ce_ HB hw109_0), (ce_ HB hw109_1), (ce_ HB hw111_0), (ce_ HB hw111_1), (ce_ HB hw112_0), (ce_ HB hw112_1), (ce_ HB hw113_0), (ce_ HB hw113_1)⟩ (fun hHeld => ?_)
            clear hK K
            refine norm_ (a' := ?_) ?_ ?_
            rotate_left
            ·show Act.put _ (some 23) _ = _
             simp only [Act.put, List.setIfInBounds_toArray, List.set_cons_zero, List.set_cons_succ, i64_w, i32_w]
             rfl
            refine pu_ 14 (some 24) (ba_ 46 32767) rfl rfl (any_of HT_.out (by kernel_rfl)) ?_
            refine pu_ 15 (some 25) (ba_ 46 65535) rfl rfl (any_of HT_.out (by kernel_rfl)) ?_
            refine pu_ 16 (some 26) (ba_ 46 131071) rfl rfl (any_of HT_.out (by kernel_rfl)) ?_
            refine pu_ 17 (some 27) (ba_ 46 262143) rfl rfl (any_of HT_.out (by kernel_rfl)) ?_
            refine pu_ 18 (some 28) (ba_ 46 524287) rfl rfl (any_of HT_.out (by kernel_rfl)) ?_
            refine pu_ 19 (some 29) (ba_ 46 1048575) rfl rfl (any_of HT_.out (by kernel_rfl)) ?_
            refine pu_ 20 (some 30) (ba_ 46 2097151) rfl rfl (any_of HT_.out (by kernel_rfl)) ?_
            refine pu_ 23 (some 33) (ba_ 46 10485759) rfl rfl (any_of HT_.out (by kernel_rfl)) ?_
            refine pu_ 24 (some 34) (ba_ 46 27262975) rfl rfl (any_of HT_.out (by kernel_rfl)) ?_
            refine ta_ 21 (some 31) (ba_ 46 29360127) rfl rfl (take_ofW HT_.out HW_.out (by kernel_rfl)) hHeld (by rintro w' ⟨s0, s1, s2, s3, s4, s5, s6, s7, s8, s9⟩; go_simp; with_reducible rfl) ?_
            refine pu_ 22 (some 32) (ba_ 46 33554431) rfl rfl (any_of HT_.out (by kernel_rfl)) ?_
            refine pu_ 25 (some 35) (ba_ 46 67108863) rfl rfl (any_of HT_.out (by kernel_rfl)) ?_
            refine pu_ 26 (some 36) (ba_ 46 134217727) rfl rfl (any_of HT_.out (by kernel_rfl)) ?_
            refine pu_ 27 (some 37) (ba_ 46 268435455) rfl rfl (any_of HT_.out (by kernel_rfl)) ?_
            refine pu_ 28 (some 38) (ba_ 46 536870911) rfl rfl (any_of HT_.out (by kernel_rfl)) ?_
            refine pu_ 29 (some 39) (ba_ 46 1073741823) rfl rfl (any_of HT_.out (by kernel_rfl)) ?_
            refine pu_ 30 (some 40) (ba_ 46 2147483647) rfl rfl (any_of HT_.out (by kernel_rfl)) ?_
            refine pu_ 31 (some 41) (ba_ 46 4294967295) rfl rfl (any_of HT_.out (by kernel_rfl)) ?_
            refine pu_ 32 (some 42) (ba_ 46 8589934591) rfl rfl (any_of HT_.out (by kernel_rfl)) ?_
            refine pu_ 33 (some 43) (ba_ 46 17179869183) rfl rfl (any_of HT_.out (by kernel_rfl)) ?_
            refine pu_ 34 (some 44) (ba_ 46 34359738367) rfl rfl (any_of HT_.out (by kernel_rfl)) ?_
            refine pu_ 36 (some 46) (ba_ 46 103079215103) rfl rfl (any_of HT_.out (by kernel_rfl)) ?_
            refine pu_ 37 (some 47) (ba_ 46 240518168575) rfl rfl (any_of HT_.out (by kernel_rfl)) ?_
            refine pu_ 38 (some 48) (ba_ 46 515396075519) rfl rfl (any_of HT_.out (by kernel_rfl)) ?_
            refine pu_ 39 (some 49) (ba_ 46 1065151889407) rfl rfl (any_of HT_.out (by kernel_rfl)) ?_
            refine pu_ 40 (some 50) (ba_ 46 2164663517183) rfl rfl (any_of HT_.out (by kernel_rfl)) ?_
            refine ta_ 35 (some 45) (ba_ 46 2199023255551) rfl rfl (take_ofW HT_.out HW_.out (by kernel_rfl)) hHeld (by rintro w' ⟨s0, s1, s2, s3, s4, s5, s6, s7, s8, s9⟩; go_simp; with_reducible rfl) ?_
            refine ta_ 41 (some 51) (ba_ 46 4398046511103) rfl rfl (take_ofW HT_.out HW_.out (by kernel_rfl)) hHeld (by rintro w' ⟨s0, s1, s2, s3, s4, s5, s6, s7, s8, s9⟩; go_simp; with_reducible rfl) ?_
            refine pu_ 42 (some 52) (ba_ 46 8796093022207) rfl rfl (any_of HT_.out (by kernel_rfl)) ?_
            refine pu_ 43 (some 53) (ba_ 46 17592186044415) rfl rfl (any_of HT_.out (by kernel_rfl)) ?_
            refine pu_ 44 (some 54) (ba_ 46 35184372088831) rfl rfl (any_of HT_.out (by kernel_rfl)) ?_
            refine pu_ 45 (some 55) (ba_ 46 70368744177663) rfl rfl (any_of HT_.out (by kernel_rfl)) ?_
            refine done_ (done_of HT_.out (by kernel_rfl)) ?_
            try go_wp2
            go_roundg k1
            case measure => have := HK1.out; omega
            case rel => exact ⟨(wrap64 (x3_1 + 1)), eb_, H', ⟨by have := HK1.out; omega⟩, bl_ HB⟩
          ·rw [if_neg c13] at H
           exact absurd H (by simp)
         ·rw [if_neg c12] at H
          exact absurd H (by simp)
        ·rw [if_neg c10] at H
         have c10b0 : decide (0 < x3_1) = false := decide_eq_false c10
         clear c10
         have H' := Aside0.mk H
         clear H
         try go_wp2
         have n0_ := Aside0.mk (below_drew1 HB.out)
         clear HB
         have HB := n0_
         clear n0_
         have p107 : 0 ≤ (x3_1 : Int) := od_
         have q107 : x3_1 < (l0.length : Int) := od_
         obtain ⟨ad107, e107, hx107_0, hx107_1⟩ := at_T53 HR0.out x3_1 p107 q107
         have hw107_1 := hx107_1
         have hw107_0 := hx107_0
         cases e107
         replace hx107_0 := ce_ HB hx107_0
         replace hx107_1 := ce_ HB hx107_1
         replace p107 := eq_true p107
         replace q107 := eq_true q107
         have p109 : 0 ≤ (x3_1 : Int) := od_
         have q109 : x3_1 < (l0.length : Int) := od_
         obtain ⟨ad109, e109, hx109_0, hx109_1⟩ := at_T53 HR0.out x3_1 p109 q109
         have hw109_1 := hx109_1
         have hw109_0 := hx109_0
         obtain rfl : ad107 = ad109 := (by injection e109)
         replace hx109_0 := ce_ HB hx109_0
         replace hx109_1 := ce_ HB hx109_1
         replace p109 := eq_true p109
         replace q109 := eq_true q109
         have p111 : 0 ≤ (x3_1 : Int) := od_
         have q111 : x3_1 < (l0.length : Int) := od_
         obtain ⟨ad111, e111, hx111_0, hx111_1⟩ := at_T53 HR0.out x3_1 p111 q111
         have hw111_1 := hx111_1
         have hw111_0 := hx111_0
         obtain rfl : ad107 = ad111 := (by injection e111)
         replace hx111_0 := ce_ HB hx111_0
         replace hx111_1 := ce_ HB hx111_1
         replace p111 := eq_true p111
         replace q111 := eq_true q111
         refine start_ (n := 46) (S := fun w' => w'.cell? (ad107.add ((x3_1).toNat * 2)) = some (.int .i64 ((rd_T53 l0 x3_1).f0)) ∧ w'.cell? ⟨(ad107.add ((x3_1).toNat * 2)).block, (ad107.add ((x3_1).toNat * 2)).off + 1, none⟩ = some (.int .i64 ((rd_T53 l0 x3_1).f1)) ∧ w'.cell? (ad107.add ((x3_1).toNat * 2)) = some (.int .i64 ((rd_T53 l0 x3_1).f0)) ∧ w'.cell? ⟨(ad107.add ((x3_1).toNat * 2)).block, (ad107.add ((x3_1).toNat * 2)).off + 1, none⟩ = some (.int .i64 ((rd_T53 l0 x3_1).f1)) ∧ w'.cell? (ad107.add ((x3_1).toNat * 2)) = some (.int .i64 ((rd_T53 l0 x3_1).f0)) ∧ w'.cell? ⟨(ad107.add ((x3_1).toNat * 2)).block, (ad107.add ((x3_1).toNat * 2)).off + 1, none⟩ = some (.int .i64 ((rd_T53 l0 x3_1).f1))) (ds := []) (ba_ 46 0) (by kernel_rfl) rfl rfl ⟨(ce_ HB hw107_0), (ce_ HB hw107_1), (ce_ HB hw109_0), (ce_ HB hw109_1), (ce_ HB hw111_0), (ce_ HB hw111_1)⟩ (fun hHeld => ?_); refine with_tabW spec_TreeOk.tab4 spec_TreeOk.bits4 (fun HT_ HW_ => ?_)
         generalize wr.drew = w17 at HB hx107_0 hx107_1 hx109_0 hx109_1 hx111_0 hx111_1 hHeld ⊢
         refine pu_ 0 (some 10) (ba_ 46 1) rfl rfl (any_of HT_.out (by kernel_rfl)) ?_
         refine pu_ 1 (some 11) (ba_ 46 3) rfl rfl (any_of HT_.out (by kernel_rfl)) ?_
         refine pu_ 2 (some 12) (ba_ 46 7) rfl rfl (any_of HT_.out (by kernel_rfl)) ?_
         refine pu_ 3 (some 13) (ba_ 46 15) rfl rfl (any_of HT_.out (by kernel_rfl)) ?_
         refine ta_ 4 (some 14) (ba_ 46 31) rfl rfl (take_ofW HT_.out HW_.out (by kernel_rfl)) hHeld (by rintro w' ⟨s0, s1, s2, s3, s4, s5⟩; go_simp; with_reducible rfl) ?_
         refine one_ (i := 5) (N := some 15) (ba_ 46 63) rfl rfl (one_of HT_.out (by kernel_rfl)) (by decide) (fun K hK => ?_)
         refine goes_ Try.func76 (by kernel_rfl) rfl #[.int .i64 ((rd_T53 l0 x3_1).f0)] (by rfl) rfl rfl (by (try simp only [List.map_toArray, List.map_cons, List.map_nil]); first | done | rfl | (simp only [List.length_drop, List.length_take]; rfl)) ?_
         with_reducible refine (spec_LabelOk.calls ((rd_T53 l0 x3_1).f0) true _ A4.out).mono ?_
         rintro e w' ⟨rfl, ⟨nd, rfl⟩⟩
         refine ⟨_, rfl, ?_⟩
         refine hK.out _ _ ⟨(ce_ HB hw107_0), (ce_ HB hw107_1), (ce_ HB hw109_0), (ce_ HB hw109_1), (ce_ HB hw111_0), (ce_ HB hw111_1)⟩ (fun hHeld => ?_)
         clear hK K
         refine norm_ (a' := ?_) ?_ ?_
         rotate_left
         ·show Act.put _ (some 15) _ = _
          simp only [Act.put, List.setIfInBounds_toArray, List.set_cons_zero, List.set_cons_succ, i64_w, i32_w]
          rfl
         refine pu_ 6 (some 16) (ba_ 46 127) rfl rfl (any_of HT_.out (by kernel_rfl)) ?_
         refine pu_ 7 (some 17) (ba_ 46 255) rfl rfl (any_of HT_.out (by kernel_rfl)) ?_
         refine pu_ 8 (some 18) (ba_ 46 511) rfl rfl (any_of HT_.out (by kernel_rfl)) ?_
         refine pu_ 9 (some 19) (ba_ 46 1023) rfl rfl (any_of HT_.out (by kernel_rfl)) ?_
         refine pu_ 10 (some 20) (ba_ 46 2047) rfl rfl (any_of HT_.out (by kernel_rfl)) ?_
         refine pu_ 11 (some 21) (ba_ 46 4095) rfl rfl (any_of HT_.out (by kernel_rfl)) ?_
         refine ta_ 12 (some 22) (ba_ 46 8191) rfl rfl (take_ofW HT_.out HW_.out (by kernel_rfl)) hHeld (by rintro w' ⟨s0, s1, s2, s3, s4, s5⟩; go_simp; with_reducible rfl) ?_
         refine one_ (i := 13) (N := some 23) (ba_ 46 16383) rfl rfl (one_of HT_.out (by kernel_rfl)) (by decide) (fun K hK => ?_)
         refine goes_ Try.func52 (by kernel_rfl) rfl #[.int .i64 ((rd_T53 l0 x3_1).f1), .int .i64 0, .int .i64 12] (by rfl) rfl rfl (by (try simp only [List.map_toArray, List.map_cons, List.map_nil]); first | done | rfl | (simp only [List.length_drop, List.length_take]; rfl)) ?_
         with_reducible refine (spec_l1In.calls ((rd_T53 l0 x3_1).f1) 0 12 true _ A6.out).mono ?_
         rintro e w' ⟨rfl, ⟨nd, rfl⟩⟩
         refine ⟨_, rfl, ?_⟩
         refine hK.out _ _ ⟨(ce_ HB hw107_0), (ce_ HB hw107_1), (ce_ HB hw109_0), (ce_ HB hw109_1), (ce_ HB hw111_0), (ce_ HB hw111_1)⟩ (fun hHeld => ?_)
         clear hK K
         refine norm_ (a' := ?_) ?_ ?_
         rotate_left
         ·show Act.put _ (some 23) _ = _
          simp only [Act.put, List.setIfInBounds_toArray, List.set_cons_zero, List.set_cons_succ, i64_w, i32_w]
          rfl
         refine pu_ 14 (some 24) (ba_ 46 32767) rfl rfl (any_of HT_.out (by kernel_rfl)) ?_
         refine pu_ 15 (some 25) (ba_ 46 65535) rfl rfl (any_of HT_.out (by kernel_rfl)) ?_
         refine pu_ 16 (some 26) (ba_ 46 131071) rfl rfl (any_of HT_.out (by kernel_rfl)) ?_
         refine pu_ 17 (some 27) (ba_ 46 262143) rfl rfl (any_of HT_.out (by kernel_rfl)) ?_
         refine pu_ 18 (some 28) (ba_ 46 524287) rfl rfl (any_of HT_.out (by kernel_rfl)) ?_
         refine pu_ 19 (some 29) (ba_ 46 1048575) rfl rfl (any_of HT_.out (by kernel_rfl)) ?_
         refine pu_ 20 (some 30) (ba_ 46 2097151) rfl rfl (any_of HT_.out (by kernel_rfl)) ?_
         refine pu_ 23 (some 33) (ba_ 46 10485759) rfl rfl (any_of HT_.out (by kernel_rfl)) ?_
         refine pu_ 24 (some 34) (ba_ 46 27262975) rfl rfl (any_of HT_.out (by kernel_rfl)) ?_
         refine ta_ 21 (some 31) (ba_ 46 29360127) rfl rfl (take_ofW HT_.out HW_.out (by kernel_rfl)) hHeld (by rintro w' ⟨s0, s1, s2, s3, s4, s5⟩; go_simp; with_reducible rfl) ?_
         refine pu_ 22 (some 32) (ba_ 46 33554431) rfl rfl (any_of HT_.out (by kernel_rfl)) ?_
         refine pu_ 25 (some 35) (ba_ 46 67108863) rfl rfl (any_of HT_.out (by kernel_rfl)) ?_
         refine pu_ 26 (some 36) (ba_ 46 134217727) rfl rfl (any_of HT_.out (by kernel_rfl)) ?_
         refine pu_ 27 (some 37) (ba_ 46 268435455) rfl rfl (any_of HT_.out (by kernel_rfl)) ?_
         refine pu_ 28 (some 38) (ba_ 46 536870911) rfl rfl (any_of HT_.out (by kernel_rfl)) ?_
         refine pu_ 29 (some 39) (ba_ 46 1073741823) rfl rfl (any_of HT_.out (by kernel_rfl)) ?_
         refine pu_ 30 (some 40) (ba_ 46 2147483647) rfl rfl (any_of HT_.out (by kernel_rfl)) ?_
         refine pn_ 31 (some 41) (ba_ 46 4294967295) rfl rfl (any_of HT_.out (by kernel_rfl)) ?_
         refine pn_ 32 (some 42) (ba_ 46 8589934591) rfl rfl (any_of HT_.out (by kernel_rfl)) ?_
         refine pn_ 33 (some 43) (ba_ 46 17179869183) rfl rfl (any_of HT_.out (by kernel_rfl)) ?_
         refine pn_ 34 (some 44) (ba_ 46 34359738367) rfl rfl (any_of HT_.out (by kernel_rfl)) ?_
         refine pn_ 35 (some 45) (ba_ 46 68719476735) rfl rfl (any_of HT_.out (by kernel_rfl)) ?_
         refine pn_ 36 (some 46) (ba_ 46 137438953471) rfl rfl (any_of HT_.out (by kernel_rfl)) ?_
         refine pn_ 37 (some 47) (ba_ 46 274877906943) rfl rfl (any_of HT_.out (by kernel_rfl)) ?_
         refine pn_ 38 (some 48) (ba_ 46 549755813887) rfl rfl (any_of HT_.out (by kernel_rfl)) ?_
         refine pn_ 39 (some 49) (ba_ 46 1099511627775) rfl rfl (any_of HT_.out (by kernel_rfl)) ?_
         refine pn_ 40 (some 50) (ba_ 46 2199023255551) rfl rfl (any_of HT_.out (by kernel_rfl)) ?_
         refine pn_ 41 (some 51) (ba_ 46 4398046511103) rfl rfl (any_of HT_.out (by kernel_rfl)) ?_
         refine pn_ 42 (some 52) (ba_ 46 8796093022207) rfl rfl (any_of HT_.out (by kernel_rfl)) ?_
         refine pn_ 43 (some 53) (ba_ 46 17592186044415) rfl rfl (any_of HT_.out (by kernel_rfl)) ?_
         refine pu_ 44 (some 54) (ba_ 46 35184372088831) rfl rfl (any_of HT_.out (by kernel_rfl)) ?_
         refine pu_ 45 (some 55) (ba_ 46 70368744177663) rfl rfl (any_of HT_.out (by kernel_rfl)) ?_
         refine done_ (done_of HT_.out (by kernel_rfl)) ?_
         try go_wp2
         go_roundg k1
         case measure => have := HK1.out; omega
         case rel => exact ⟨(wrap64 (x3_1 + 1)), eb_, H', ⟨by have := HK1.out; omega⟩, bl_ HB⟩
      ·replace c7 := Bool.eq_false_iff.mpr c7
       subst c7
       have H1 : (some false) = some r := by rw [if_neg (show ¬ (false = true) by decide)] at H; exact H
       clear H
       have H := H1
       clear H1
       obtain rfl := Option.some.inj H
       try go_wp2
       have n0_ := Aside0.mk (below_drew1 HB.out)
       clear HB
       have HB := n0_
       clear n0_
       have p107 : 0 ≤ (x3_1 : Int) := od_
       have q107 : x3_1 < (l0.length : Int) := od_
       obtain ⟨ad107, e107, hx107_0, hx107_1⟩ := at_T53 HR0.out x3_1 p107 q107
       have hw107_1 := hx107_1
       have hw107_0 := hx107_0
       cases e107
       replace hx107_0 := ce_ HB hx107_0
       replace hx107_1 := ce_ HB hx107_1
       replace p107 := eq_true p107
       replace q107 := eq_true q107
       have p109 : 0 ≤ (x3_1 : Int) := od_
       have q109 : x3_1 < (l0.length : Int) := od_
       obtain ⟨ad109, e109, hx109_0, hx109_1⟩ := at_T53 HR0.out x3_1 p109 q109
       have hw109_1 := hx109_1
       have hw109_0 := hx109_0
       obtain rfl : ad107 = ad109 := (by injection e109)
       replace hx109_0 := ce_ HB hx109_0
       replace hx109_1 := ce_ HB hx109_1
       replace p109 := eq_true p109
       replace q109 := eq_true q109
       refine start_ (n := 46) (S := fun w' => w'.cell? (ad107.add ((x3_1).toNat * 2)) = some (.int .i64 ((rd_T53 l0 x3_1).f0)) ∧ w'.cell? ⟨(ad107.add ((x3_1).toNat * 2)).block, (ad107.add ((x3_1).toNat * 2)).off + 1, none⟩ = some (.int .i64 ((rd_T53 l0 x3_1).f1)) ∧ w'.cell? (ad107.add ((x3_1).toNat * 2)) = some (.int .i64 ((rd_T53 l0 x3_1).f0)) ∧ w'.cell? ⟨(ad107.add ((x3_1).toNat * 2)).block, (ad107.add ((x3_1).toNat * 2)).off + 1, none⟩ = some (.int .i64 ((rd_T53 l0 x3_1).f1))) (ds := []) (ba_ 46 0) (by kernel_rfl) rfl rfl ⟨(ce_ HB hw107_0), (ce_ HB hw107_1), (ce_ HB hw109_0), (ce_ HB hw109_1)⟩ (fun hHeld => ?_); refine with_tabW spec_TreeOk.tab4 spec_TreeOk.bits4 (fun HT_ HW_ => ?_)
       generalize wr.drew = w18 at HB hx107_0 hx107_1 hx109_0 hx109_1 hHeld ⊢
       refine pu_ 0 (some 10) (ba_ 46 1) rfl rfl (any_of HT_.out (by kernel_rfl)) ?_
       refine pu_ 1 (some 11) (ba_ 46 3) rfl rfl (any_of HT_.out (by kernel_rfl)) ?_
       refine pu_ 2 (some 12) (ba_ 46 7) rfl rfl (any_of HT_.out (by kernel_rfl)) ?_
       refine pu_ 3 (some 13) (ba_ 46 15) rfl rfl (any_of HT_.out (by kernel_rfl)) ?_
       refine ta_ 4 (some 14) (ba_ 46 31) rfl rfl (take_ofW HT_.out HW_.out (by kernel_rfl)) hHeld (by rintro w' ⟨s0, s1, s2, s3⟩; go_simp; with_reducible rfl) ?_
       refine one_ (i := 5) (N := some 15) (ba_ 46 63) rfl rfl (one_of HT_.out (by kernel_rfl)) (by decide) (fun K hK => ?_)
       refine goes_ Try.func76 (by kernel_rfl) rfl #[.int .i64 ((rd_T53 l0 x3_1).f0)] (by rfl) rfl rfl (by (try simp only [List.map_toArray, List.map_cons, List.map_nil]); first | done | rfl | (simp only [List.length_drop, List.length_take]; rfl)) ?_
       with_reducible refine (spec_LabelOk.calls ((rd_T53 l0 x3_1).f0) true _ A4.out).mono ?_
       rintro e w' ⟨rfl, ⟨nd, rfl⟩⟩
       refine ⟨_, rfl, ?_⟩
       refine hK.out _ _ ⟨(ce_ HB hw107_0), (ce_ HB hw107_1), (ce_ HB hw109_0), (ce_ HB hw109_1)⟩ (fun hHeld => ?_)
       clear hK K
       refine norm_ (a' := ?_) ?_ ?_
       rotate_left
       ·show Act.put _ (some 15) _ = _
        simp only [Act.put, List.setIfInBounds_toArray, List.set_cons_zero, List.set_cons_succ, i64_w, i32_w]
        rfl
       refine pu_ 6 (some 16) (ba_ 46 127) rfl rfl (any_of HT_.out (by kernel_rfl)) ?_
       refine pu_ 7 (some 17) (ba_ 46 255) rfl rfl (any_of HT_.out (by kernel_rfl)) ?_
       refine pu_ 8 (some 18) (ba_ 46 511) rfl rfl (any_of HT_.out (by kernel_rfl)) ?_
       refine pu_ 9 (some 19) (ba_ 46 1023) rfl rfl (any_of HT_.out (by kernel_rfl)) ?_
       refine pu_ 10 (some 20) (ba_ 46 2047) rfl rfl (any_of HT_.out (by kernel_rfl)) ?_
       refine pu_ 11 (some 21) (ba_ 46 4095) rfl rfl (any_of HT_.out (by kernel_rfl)) ?_
       refine ta_ 12 (some 22) (ba_ 46 8191) rfl rfl (take_ofW HT_.out HW_.out (by kernel_rfl)) hHeld (by rintro w' ⟨s0, s1, s2, s3⟩; go_simp; with_reducible rfl) ?_
       refine one_ (i := 13) (N := some 23) (ba_ 46 16383) rfl rfl (one_of HT_.out (by kernel_rfl)) (by decide) (fun K hK => ?_)
       refine goes_ Try.func52 (by kernel_rfl) rfl #[.int .i64 ((rd_T53 l0 x3_1).f1), .int .i64 0, .int .i64 12] (by rfl) rfl rfl (by (try simp only [List.map_toArray, List.map_cons, List.map_nil]); first | done | rfl | (simp only [List.length_drop, List.length_take]; rfl)) ?_
       with_reducible refine (spec_l1In.calls ((rd_T53 l0 x3_1).f1) 0 12 false _ A6.out).mono ?_
       rintro e w' ⟨rfl, ⟨nd, rfl⟩⟩
       refine ⟨_, rfl, ?_⟩
       refine hK.out _ _ ⟨(ce_ HB hw107_0), (ce_ HB hw107_1), (ce_ HB hw109_0), (ce_ HB hw109_1)⟩ (fun hHeld => ?_)
       clear hK K
       refine norm_ (a' := ?_) ?_ ?_
       rotate_left
       ·show Act.put _ (some 23) _ = _
        simp only [Act.put, List.setIfInBounds_toArray, List.set_cons_zero, List.set_cons_succ, i64_w, i32_w]
        rfl
       refine pu_ 14 (some 24) (ba_ 46 32767) rfl rfl (any_of HT_.out (by kernel_rfl)) ?_
       refine pu_ 15 (some 25) (ba_ 46 65535) rfl rfl (any_of HT_.out (by kernel_rfl)) ?_
       refine pu_ 16 (some 26) (ba_ 46 131071) rfl rfl (any_of HT_.out (by kernel_rfl)) ?_
       refine pn_ 17 (some 27) (ba_ 46 262143) rfl rfl (any_of HT_.out (by kernel_rfl)) ?_
       refine pn_ 18 (some 28) (ba_ 46 524287) rfl rfl (any_of HT_.out (by kernel_rfl)) ?_
       refine pn_ 19 (some 29) (ba_ 46 1048575) rfl rfl (any_of HT_.out (by kernel_rfl)) ?_
       refine pn_ 20 (some 30) (ba_ 46 2097151) rfl rfl (any_of HT_.out (by kernel_rfl)) ?_
       refine pn_ 21 (some 31) (ba_ 46 4194303) rfl rfl (any_of HT_.out (by kernel_rfl)) ?_
       refine pn_ 22 (some 32) (ba_ 46 8388607) rfl rfl (any_of HT_.out (by kernel_rfl)) ?_
       refine pn_ 23 (some 33) (ba_ 46 16777215) rfl rfl (any_of HT_.out (by kernel_rfl)) ?_
       refine pn_ 24 (some 34) (ba_ 46 33554431) rfl rfl (any_of HT_.out (by kernel_rfl)) ?_
       refine pn_ 25 (some 35) (ba_ 46 67108863) rfl rfl (any_of HT_.out (by kernel_rfl)) ?_
       refine pu_ 26 (some 36) (ba_ 46 134217727) rfl rfl (any_of HT_.out (by kernel_rfl)) ?_
       refine pu_ 27 (some 37) (ba_ 46 268435455) rfl rfl (any_of HT_.out (by kernel_rfl)) ?_
       refine pn_ 28 (some 38) (ba_ 46 536870911) rfl rfl (any_of HT_.out (by kernel_rfl)) ?_
       refine pn_ 29 (some 39) (ba_ 46 1073741823) rfl rfl (any_of HT_.out (by kernel_rfl)) ?_
       refine pn_ 30 (some 40) (ba_ 46 2147483647) rfl rfl (any_of HT_.out (by kernel_rfl)) ?_
       refine pn_ 31 (some 41) (ba_ 46 4294967295) rfl rfl (any_of HT_.out (by kernel_rfl)) ?_
       refine pn_ 32 (some 42) (ba_ 46 8589934591) rfl rfl (any_of HT_.out (by kernel_rfl)) ?_
       refine pn_ 33 (some 43) (ba_ 46 17179869183) rfl rfl (any_of HT_.out (by kernel_rfl)) ?_
       refine pn_ 34 (some 44) (ba_ 46 34359738367) rfl rfl (any_of HT_.out (by kernel_rfl)) ?_
       refine pn_ 35 (some 45) (ba_ 46 68719476735) rfl rfl (any_of HT_.out (by kernel_rfl)) ?_
       refine pn_ 36 (some 46) (ba_ 46 137438953471) rfl rfl (any_of HT_.out (by kernel_rfl)) ?_
       refine pn_ 37 (some 47) (ba_ 46 274877906943) rfl rfl (any_of HT_.out (by kernel_rfl)) ?_
       refine pn_ 38 (some 48) (ba_ 46 549755813887) rfl rfl (any_of HT_.out (by kernel_rfl)) ?_
       refine pn_ 39 (some 49) (ba_ 46 1099511627775) rfl rfl (any_of HT_.out (by kernel_rfl)) ?_
       refine pn_ 40 (some 50) (ba_ 46 2199023255551) rfl rfl (any_of HT_.out (by kernel_rfl)) ?_
       refine pn_ 41 (some 51) (ba_ 46 4398046511103) rfl rfl (any_of HT_.out (by kernel_rfl)) ?_
       refine pn_ 42 (some 52) (ba_ 46 8796093022207) rfl rfl (any_of HT_.out (by kernel_rfl)) ?_
       refine pn_ 43 (some 53) (ba_ 46 17592186044415) rfl rfl (any_of HT_.out (by kernel_rfl)) ?_
       refine pn_ 44 (some 54) (ba_ 46 35184372088831) rfl rfl (any_of HT_.out (by kernel_rfl)) ?_
       refine pu_ 45 (some 55) (ba_ 46 70368744177663) rfl rfl (any_of HT_.out (by kernel_rfl)) ?_
       refine done_ (done_of HT_.out (by kernel_rfl)) ?_
       try go_wp2
       go_ret
       exact ⟨ea_, (bl_ HB).out⟩
     ·replace c5 := Bool.eq_false_iff.mpr c5
      subst c5
      have H1 : (some false) = some r := by rw [if_neg (show ¬ (false = true) by decide)] at H; exact H
      clear H
      have H := H1
      clear H1
      obtain rfl := Option.some.inj H
      try go_wp2
      have n0_ := Aside0.mk (below_drew1 HB.out)
      clear HB
      have HB := n0_
      clear n0_
      have p107 : 0 ≤ (x3_1 : Int) := od_
      have q107 : x3_1 < (l0.length : Int) := od_
      obtain ⟨ad107, e107, hx107_0, hx107_1⟩ := at_T53 HR0.out x3_1 p107 q107
      have hw107_1 := hx107_1
      have hw107_0 := hx107_0
      cases e107
      replace hx107_0 := ce_ HB hx107_0
      replace hx107_1 := ce_ HB hx107_1
      replace p107 := eq_true p107
      replace q107 := eq_true q107
      refine start_ (n := 46) (S := fun w' => w'.cell? (ad107.add ((x3_1).toNat * 2)) = some (.int .i64 ((rd_T53 l0 x3_1).f0)) ∧ w'.cell? ⟨(ad107.add ((x3_1).toNat * 2)).block, (ad107.add ((x3_1).toNat * 2)).off + 1, none⟩ = some (.int .i64 ((rd_T53 l0 x3_1).f1))) (ds := []) (ba_ 46 0) (by kernel_rfl) rfl rfl ⟨(ce_ HB hw107_0), (ce_ HB hw107_1)⟩ (fun hHeld => ?_); refine with_tabW spec_TreeOk.tab4 spec_TreeOk.bits4 (fun HT_ HW_ => ?_)
      generalize wr.drew = w19 at HB hx107_0 hx107_1 hHeld ⊢
      refine pu_ 0 (some 10) (ba_ 46 1) rfl rfl (any_of HT_.out (by kernel_rfl)) ?_
      refine pu_ 1 (some 11) (ba_ 46 3) rfl rfl (any_of HT_.out (by kernel_rfl)) ?_
      refine pu_ 2 (some 12) (ba_ 46 7) rfl rfl (any_of HT_.out (by kernel_rfl)) ?_
      refine pu_ 3 (some 13) (ba_ 46 15) rfl rfl (any_of HT_.out (by kernel_rfl)) ?_
      refine ta_ 4 (some 14) (ba_ 46 31) rfl rfl (take_ofW HT_.out HW_.out (by kernel_rfl)) hHeld (by rintro w' ⟨s0, s1⟩; go_simp; with_reducible rfl) ?_
      refine one_ (i := 5) (N := some 15) (ba_ 46 63) rfl rfl (one_of HT_.out (by kernel_rfl)) (by decide) (fun K hK => ?_)
      refine goes_ Try.func76 (by kernel_rfl) rfl #[.int .i64 ((rd_T53 l0 x3_1).f0)] (by rfl) rfl rfl (by (try simp only [List.map_toArray, List.map_cons, List.map_nil]); first | done | rfl | (simp only [List.length_drop, List.length_take]; rfl)) ?_
      with_reducible refine (spec_LabelOk.calls ((rd_T53 l0 x3_1).f0) false _ A4.out).mono ?_
      rintro e w' ⟨rfl, ⟨nd, rfl⟩⟩
      refine ⟨_, rfl, ?_⟩
      refine hK.out _ _ ⟨(ce_ HB hw107_0), (ce_ HB hw107_1)⟩ (fun hHeld => ?_)
      clear hK K
      refine norm_ (a' := ?_) ?_ ?_
      rotate_left
      ·show Act.put _ (some 15) _ = _
       simp only [Act.put, List.setIfInBounds_toArray, List.set_cons_zero, List.set_cons_succ, i64_w, i32_w]
       rfl
      refine pu_ 6 (some 16) (ba_ 46 127) rfl rfl (any_of HT_.out (by kernel_rfl)) ?_
      refine pu_ 7 (some 17) (ba_ 46 255) rfl rfl (any_of HT_.out (by kernel_rfl)) ?_
      refine pn_ 8 (some 18) (ba_ 46 511) rfl rfl (any_of HT_.out (by kernel_rfl)) ?_
      refine pn_ 9 (some 19) (ba_ 46 1023) rfl rfl (any_of HT_.out (by kernel_rfl)) ?_
      refine pn_ 10 (some 20) (ba_ 46 2047) rfl rfl (any_of HT_.out (by kernel_rfl)) ?_
      refine pn_ 11 (some 21) (ba_ 46 4095) rfl rfl (any_of HT_.out (by kernel_rfl)) ?_
      refine pn_ 12 (some 22) (ba_ 46 8191) rfl rfl (any_of HT_.out (by kernel_rfl)) ?_
      refine pn_ 13 (some 23) (ba_ 46 16383) rfl rfl (any_of HT_.out (by kernel_rfl)) ?_
      refine pn_ 14 (some 24) (ba_ 46 32767) rfl rfl (any_of HT_.out (by kernel_rfl)) ?_
      refine pu_ 15 (some 25) (ba_ 46 65535) rfl rfl (any_of HT_.out (by kernel_rfl)) ?_
      refine pu_ 16 (some 26) (ba_ 46 131071) rfl rfl (any_of HT_.out (by kernel_rfl)) ?_
      refine pn_ 17 (some 27) (ba_ 46 262143) rfl rfl (any_of HT_.out (by kernel_rfl)) ?_
      refine pn_ 18 (some 28) (ba_ 46 524287) rfl rfl (any_of HT_.out (by kernel_rfl)) ?_
      refine pn_ 19 (some 29) (ba_ 46 1048575) rfl rfl (any_of HT_.out (by kernel_rfl)) ?_
      refine pn_ 20 (some 30) (ba_ 46 2097151) rfl rfl (any_of HT_.out (by kernel_rfl)) ?_
      refine pn_ 21 (some 31) (ba_ 46 4194303) rfl rfl (any_of HT_.out (by kernel_rfl)) ?_
      refine pn_ 22 (some 32) (ba_ 46 8388607) rfl rfl (any_of HT_.out (by kernel_rfl)) ?_
      refine pn_ 23 (some 33) (ba_ 46 16777215) rfl rfl (any_of HT_.out (by kernel_rfl)) ?_
      refine pn_ 24 (some 34) (ba_ 46 33554431) rfl rfl (any_of HT_.out (by kernel_rfl)) ?_
      refine pn_ 25 (some 35) (ba_ 46 67108863) rfl rfl (any_of HT_.out (by kernel_rfl)) ?_
      refine pu_ 26 (some 36) (ba_ 46 134217727) rfl rfl (any_of HT_.out (by kernel_rfl)) ?_
      refine pu_ 27 (some 37) (ba_ 46 268435455) rfl rfl (any_of HT_.out (by kernel_rfl)) ?_
      refine pn_ 28 (some 38) (ba_ 46 536870911) rfl rfl (any_of HT_.out (by kernel_rfl)) ?_
      refine pn_ 29 (some 39) (ba_ 46 1073741823) rfl rfl (any_of HT_.out (by kernel_rfl)) ?_
      refine pn_ 30 (some 40) (ba_ 46 2147483647) rfl rfl (any_of HT_.out (by kernel_rfl)) ?_
      refine pn_ 31 (some 41) (ba_ 46 4294967295) rfl rfl (any_of HT_.out (by kernel_rfl)) ?_
      refine pn_ 32 (some 42) (ba_ 46 8589934591) rfl rfl (any_of HT_.out (by kernel_rfl)) ?_
      refine pn_ 33 (some 43) (ba_ 46 17179869183) rfl rfl (any_of HT_.out (by kernel_rfl)) ?_
      refine pn_ 34 (some 44) (ba_ 46 34359738367) rfl rfl (any_of HT_.out (by kernel_rfl)) ?_
      refine pn_ 35 (some 45) (ba_ 46 68719476735) rfl rfl (any_of HT_.out (by kernel_rfl)) ?_
      refine pn_ 36 (some 46) (ba_ 46 137438953471) rfl rfl (any_of HT_.out (by kernel_rfl)) ?_
      refine pn_ 37 (some 47) (ba_ 46 274877906943) rfl rfl (any_of HT_.out (by kernel_rfl)) ?_
      refine pn_ 38 (some 48) (ba_ 46 549755813887) rfl rfl (any_of HT_.out (by kernel_rfl)) ?_
      refine pn_ 39 (some 49) (ba_ 46 1099511627775) rfl rfl (any_of HT_.out (by kernel_rfl)) ?_
      refine pn_ 40 (some 50) (ba_ 46 2199023255551) rfl rfl (any_of HT_.out (by kernel_rfl)) ?_
      refine pn_ 41 (some 51) (ba_ 46 4398046511103) rfl rfl (any_of HT_.out (by kernel_rfl)) ?_
      refine pn_ 42 (some 52) (ba_ 46 8796093022207) rfl rfl (any_of HT_.out (by kernel_rfl)) ?_
      refine pn_ 43 (some 53) (ba_ 46 17592186044415) rfl rfl (any_of HT_.out (by kernel_rfl)) ?_
      refine pn_ 44 (some 54) (ba_ 46 35184372088831) rfl rfl (any_of HT_.out (by kernel_rfl)) ?_
      refine pu_ 45 (some 55) (ba_ 46 70368744177663) rfl rfl (any_of HT_.out (by kernel_rfl)) ?_
      refine done_ (done_of HT_.out (by kernel_rfl)) ?_
      try go_wp2
      go_ret
      exact ⟨ea_, (bl_ HB).out⟩
    ·rw [if_neg c3] at H
     exact absurd H (by simp)
   ·rw [if_neg c2] at H
    have c2b0 : decide (x3_1 < (l0.length : Int)) = false := decide_eq_false c2
    clear c2
    replace H := Option.bind_eq_some_iff.mp H
    obtain ⟨t106, A200, H⟩ := H
    replace H : (some t106) = some r := H
    have A20 := Aside0.mk A200
    clear A200
    obtain rfl := Option.some.inj H
    go_wp2_with (first | ((with_reducible refine gate_callee (f := 52) rfl ?_); refine gL_ (some 58) Try.func52 #[.int .i64 (l0.length : Int), .int .i64 1, .int .i64 24] ?_; (with_reducible refine (spec_l1In.calls (l0.length : Int) 1 24 t106 _ A20.out).mono ?_); rintro e w' ⟨rfl, ⟨nd, rfl⟩⟩; refine ⟨_, rfl, ?_⟩))
    go_ret
    exact ⟨ea_, (bl_ HB).out⟩
end Go.Proofs.Ytelglbebffdaaaa.X
namespace Go.Proofs.Ytelglbebffdaaaa.X
open Go.RowKit Go.Proofs.YtelglbebffdaaaaW.PrintWords Go.Proofs.YtelglbebffdaaaaW.PrintLast Go.Proofs.YtelglbebffdaaaaW.PrintMore
attribute [local go_sem] max2_int min2_int max_two min_two max_three min_three max_four min_four   -- for this text's walks alone
set_option linter.unusedVariables false
set_option linter.unusedSimpArgs false
def impl_within.f (a0 : Int) (a1 : Int) (a2 : Int) : Option (Bool) := if a1 ≤ a0 then (some (decide (a0 ≤ a2))) else (some false)
set_option maxHeartbeats 8000000 in
set_option maxRecDepth 100000 in
theorem impl_within.calls (a0 : Int) (a1 : Int) (a2 : Int) (r : Bool) (w : World) (h : impl_within.f a0 a1 a2 = some r) :
  Calls Try.prog 100 #[.int .i64 a0, .int .i64 a1, .int .i64 a2] w fun e w' => e = .returned (.bool r) ∧ Drawn0 w w' := by
 have H : (if a1 ≤ a0 then (some (decide (a0 ≤ a2))) else (some false)) = some r := h
 clear h
 by_cases c4 : a1 ≤ a0
 ·rw [if_pos c4] at H
  have c4b0 : decide (a1 ≤ a0) = true := decide_eq_true c4
  clear c4
  obtain rfl := Option.some.inj H
  go_enter Try.func100, Try.ntmps100
  go_wp2
  go_ret
  exact ⟨by first | rfl | (simp; done) | (simp [*]; done), by repeat (first | exact Drawn0.refl _ | apply Drawn0.step)⟩
 ·rw [if_neg c4] at H
  have c4b0 : decide (a1 ≤ a0) = false := decide_eq_false c4
  clear c4
  obtain rfl := Option.some.inj H
  go_enter Try.func100, Try.ntmps100
  go_wp2
  go_ret
  exact ⟨by first | rfl | (simp; done) | (simp [*]; done), by repeat (first | exact Drawn0.refl _ | apply Drawn0.step)⟩
end Go.Proofs.Ytelglbebffdaaaa.X
namespace Go.Proofs.Ytelglbebffdaaaa.X
open Go.RowKit Go.Proofs.YtelglbebffdaaaaW.PrintWords Go.Proofs.YtelglbebffdaaaaW.PrintLast Go.Proofs.YtelglbebffdaaaaW.PrintMore
attribute [local go_sem] max2_int min2_int max_two min_two max_three min_three max_four min_four   -- for this text's walks alone
set_option linter.unusedVariables false
set_option linter.unusedSimpArgs false
def impl_LabelOk.f (a0 : Int) : Option (Bool) := (impl_within.f a0 0 5).bind fun t263 => (some t263)
set_option maxHeartbeats 8000000 in
set_option maxRecDepth 100000 in
theorem impl_LabelOk.calls (a0 : Int) (r : Bool) (w : World) (h : impl_LabelOk.f a0 = some r) :
  Calls Try.prog 75 #[.int .i64 a0] w fun e w' => e = .returned (.bool r) ∧ Drawn0 w w' := by
 have H : ((impl_within.f a0 0 5).bind fun t263 => (some t263)) = some r := h
 clear h
 replace H := Option.bind_eq_some_iff.mp H
 obtain ⟨t263, A20, H⟩ := H
 replace H : (some t263) = some r := H
 have A2 := Aside0.mk A20
 clear A20
 obtain rfl := Option.some.inj H
 go_enter Try.func75, Try.ntmps75
 go_wp2_with (first | ((with_reducible refine gate_callee (f := 100) rfl ?_); refine gL_ (some 4) Try.func100 #[.int .i64 a0, .int .i64 0, .int .i64 5] ?_; (with_reducible refine (impl_within.calls a0 0 5 t263 _ A2.out).mono ?_); rintro e w' ⟨rfl, ⟨nd, rfl⟩⟩; refine ⟨_, rfl, ?_⟩))
 go_ret
 exact ⟨by first | rfl | (simp; done) | (simp [*]; done), by repeat (first | exact Drawn0.refl _ | apply Drawn0.step)⟩
end Go.Proofs.Ytelglbebffdaaaa.X
namespace Go.Proofs.Ytelglbebffdaaaa.X
open Go.RowKit Go.Proofs.YtelglbebffdaaaaW.PrintWords Go.Proofs.YtelglbebffdaaaaW.PrintLast Go.Proofs.YtelglbebffdaaaaW.PrintMore
attribute [local go_sem] max2_int min2_int max_two min_two max_three min_three max_four min_four   -- for this text's walks alone
set_option linter.unusedVariables false
set_option linter.unusedSimpArgs false
def impl_depthOk.f (l0 : List (S53)) (a1 : Int) : Option (Bool) := if a1 = 0 then (if 0 < (l0.length : Int) then (some (((rd_T53 l0 0).f1) == 0)) else (none)) else (if 0 ≤ a1 then (if a1 < (l0.length : Int) then (if 0 ≤ (wrap64 (a1 - 1)) then (if (wrap64 (a1 - 1)) < (l0.length : Int) then ((impl_within.f ((rd_T53 l0 a1).f1) 1 (wrap64 (((rd_T53 l0 (wrap64 (a1 - 1))).f1) + 1))).bind fun t267 => (some t267)) else (none)) else (none)) else (none)) else (none))
set_option maxHeartbeats 8000000 in
set_option maxRecDepth 100000 in
theorem impl_depthOk.calls (A0 : Option Addr) (c0 : Nat) (l0 : List (S53)) (a1 : Int) (r : Bool) (w : World) (hr0 : Kd.C k53 w A0 l0.length l0) (hc0 : l0.length ≤ c0) (h : impl_depthOk.f l0 a1 = some r) :
  Calls Try.prog 101 #[.slice A0 l0.length c0, .int .i64 a1] w fun e w' => e = .returned (.bool r) ∧ Drawn0 w w' := by
 have HR0 := Aside0.mk hr0
 have HC0 := Aside0.mk hc0
 clear hr0 hc0
 have H : (if a1 = 0 then (if 0 < (l0.length : Int) then (some (((rd_T53 l0 0).f1) == 0)) else (none)) else (if 0 ≤ a1 then (if a1 < (l0.length : Int) then (if 0 ≤ (wrap64 (a1 - 1)) then (if (wrap64 (a1 - 1)) < (l0.length : Int) then ((impl_within.f ((rd_T53 l0 a1).f1) 1 (wrap64 (((rd_T53 l0 (wrap64 (a1 - 1))).f1) + 1))).bind fun t267 => (some t267)) else (none)) else (none)) else (none)) else (none))) = some r := h
 clear h
 by_cases c3 : a1 = 0
 ·rw [if_pos c3] at H
  have c3b0 : (a1 == 0) = true := beq_iff_eq.mpr c3
  have c3b1 : (a1 != 0) = false := bne_eq_false_iff_eq.mpr c3
  clear c3
  by_cases c4 : 0 < (l0.length : Int)
  ·rw [if_pos c4] at H
   have c4b0 : decide (0 < (l0.length : Int)) = true := decide_eq_true c4
   have c4b1 : decide (0 < l0.length) = true := decide_eq_true (by omega)
   clear c4
   obtain rfl := Option.some.inj H
   have p264 : 0 ≤ (0 : Int) := (by omega)
   have q264 : 0 < (l0.length : Int) := od_
   obtain ⟨ad264, e264, hx264_0, hx264_1⟩ := at_T53 HR0.out 0 p264 q264
   cases e264
   have qi264 : (0 < l0.length) = True := eq_true (by omega)
   (try rw [show ((0 : Int)).toNat = 0 from rfl] at hx264_0)
   (try rw [show 0 * 2 = 0 from rfl] at hx264_0)
   (try rw [Addr.add_zero'] at hx264_0)
   (try rw [show ((0 : Int)).toNat = 0 from rfl] at hx264_1)
   (try rw [show 0 * 2 = 0 from rfl] at hx264_1)
   (try rw [Addr.add_zero'] at hx264_1)
   replace p264 := eq_true p264
   replace q264 := eq_true q264
   go_enter Try.func101, Try.ntmps101
   go_wp2
   repeat (go_quiet (fail); try go_wp2)
   go_ret
   exact ⟨by first | rfl | (simp; done) | (simp [*]; done), by repeat (first | exact Drawn0.refl _ | apply Drawn0.step)⟩
  ·rw [if_neg c4] at H
   exact absurd H (by simp)
 ·rw [if_neg c3] at H
  have c3b0 : (a1 == 0) = false := beq_eq_false_iff_ne.mpr c3
  have c3b1 : (a1 != 0) = true := bne_iff_ne.mpr c3
  by_cases c5 : 0 ≤ a1
  ·rw [if_pos c5] at H
   have c5b0 : decide (0 ≤ a1) = true := decide_eq_true c5
   clear c5
   by_cases c6 : a1 < (l0.length : Int)
   ·rw [if_pos c6] at H
    have c6b0 : decide (a1 < (l0.length : Int)) = true := decide_eq_true c6
    clear c6
    obtain ⟨ji7, hji7⟩ : ∃ j_ : Int, (wrap64 (a1 - 1)) = j_ := ⟨_, rfl⟩
    replace H : (if 0 ≤ (ji7) then (if (ji7) < (l0.length : Int) then ((impl_within.f ((rd_T53 l0 a1).f1) 1 (wrap64 (((rd_T53 l0 (ji7)).f1) + 1))).bind fun t267 => (some t267)) else (none)) else (none)) = some r := by first | (rw [hji7] at H; exact H) | (simp only [hji7] at H ⊢; exact H)
    have hji7w : (IntKind.i64.wrap (a1 - 1)) = ji7 := (i64_w _).trans hji7
    by_cases c8 : 0 ≤ (ji7)
    ·rw [if_pos c8] at H
     have c8b0 : decide (0 ≤ (ji7)) = true := decide_eq_true c8
     clear c8
     by_cases c9 : (ji7) < (l0.length : Int)
     ·rw [if_pos c9] at H
      have c9b0 : decide ((ji7) < (l0.length : Int)) = true := decide_eq_true c9
      clear c9
      replace H := Option.bind_eq_some_iff.mp H
      obtain ⟨t267, A100, H⟩ := H
      replace H : (some t267) = some r := H
      have A10 := Aside0.mk A100
      clear A100
      obtain rfl := Option.some.inj H
      have p265 : 0 ≤ (a1 : Int) := od_
      have q265 : a1 < (l0.length : Int) := od_
      obtain ⟨ad265, e265, hx265_0, hx265_1⟩ := at_T53 HR0.out a1 p265 q265
      cases e265
      replace p265 := eq_true p265
      replace q265 := eq_true q265
      have p266 : 0 ≤ ((ji7) : Int) := od_
      have q266 : (ji7) < (l0.length : Int) := od_
      obtain ⟨ad266, e266, hx266_0, hx266_1⟩ := at_T53 HR0.out (ji7) p266 q266
      obtain rfl : ad265 = ad266 := (by injection e266)
      replace p266 := eq_true p266
      replace q266 := eq_true q266
      go_enter Try.func101, Try.ntmps101
      go_wp2_with (first | (go_at_call 100; (with_reducible refine (impl_within.calls ((rd_T53 l0 a1).f1) 1 (wrap64 (((rd_T53 l0 (ji7)).f1) + 1)) t267 _ A10.out).mono ?_); rintro e w' ⟨rfl, ⟨nd, rfl⟩⟩; (try first | exact ⟨rfl, _, World.drewN_drewN _ _ _⟩ | exact ⟨rfl, _, Eq.trans (World.drewN_drewN _ _ _) (congrArg (World.drewN _) (Nat.add_assoc _ _ _))⟩)))
      repeat (go_quiet (first | (go_at_call 100; (with_reducible refine (impl_within.calls ((rd_T53 l0 a1).f1) 1 (wrap64 (((rd_T53 l0 (ji7)).f1) + 1)) t267 _ A10.out).mono ?_); rintro e w' ⟨rfl, ⟨nd, rfl⟩⟩; (try first | exact ⟨rfl, _, World.drewN_drewN _ _ _⟩ | exact ⟨rfl, _, Eq.trans (World.drewN_drewN _ _ _) (congrArg (World.drewN _) (Nat.add_assoc _ _ _))⟩))); try go_wp2_with (first | (go_at_call 100; (with_reducible refine (impl_within.calls ((rd_T53 l0 a1).f1) 1 (wrap64 (((rd_T53 l0 (ji7)).f1) + 1)) t267 _ A10.out).mono ?_); rintro e w' ⟨rfl, ⟨nd, rfl⟩⟩; (try first | exact ⟨rfl, _, World.drewN_drewN _ _ _⟩ | exact ⟨rfl, _, Eq.trans (World.drewN_drewN _ _ _) (congrArg (World.drewN _) (Nat.add_assoc _ _ _))⟩))))
      go_ret
      exact ⟨by first | rfl | (simp; done) | (simp only [← hji7] <;> (first | rfl | simp)) | (simp [*]; done), by repeat (first | exact Drawn0.refl _ | apply Drawn0.step)⟩
     ·rw [if_neg c9] at H
      exact absurd H (by simp)
    ·rw [if_neg c8] at H
     exact absurd H (by simp)
   ·rw [if_neg c6] at H
    exact absurd H (by simp)
  ·rw [if_neg c5] at H
   exact absurd H (by simp)
end Go.Proofs.Ytelglbebffdaaaa.X
namespace Go.Proofs.Ytelglbebffdaaaa.X
open Go.RowKit Go.Proofs.YtelglbebffdaaaaW.PrintWords Go.Proofs.YtelglbebffdaaaaW.PrintLast Go.Proofs.YtelglbebffdaaaaW.PrintMore
attribute [local go_sem] max2_int min2_int max_two min_two max_three min_three max_four min_four   -- for this text's walks alone
set_option linter.unusedVariables false
set_option linter.unusedSimpArgs false
def impl_TreeOk.l0 : Nat → List (S53) → List (S53) → Int → Int → Option (Bool)
 | 0, _, _, _, _ => none
 | k + 1, x0, x9, x10, x11 => if x11 < x10 then (if 0 ≤ x11 then (if x11 < (x9.length : Int) then ((impl_LabelOk.f ((rd_T53 x9 x11).f0)).bind fun t271 => (if t271 = true then ((impl_within.f ((rd_T53 x9 x11).f1) 0 12).bind fun t272 => (if t272 = true then ((impl_depthOk.f x0 x11).bind fun t273 => (if t273 = true then (impl_TreeOk.l0 k x0 x9 x10 (wrap64 (x11 + 1))) else (some false))) else (some false))) else (some false))) else (none)) else (none)) else (some true)
def impl_TreeOk.f (k : Nat) (l0 : List (S53)) : Option (Bool) := (impl_within.f (l0.length : Int) 1 24).bind fun t268 => (if t268 = true then (impl_TreeOk.l0 k l0 l0 (l0.length : Int) 0) else (some false))
theorem impl_TreeOk.mono_l : ∀ k, (∀ y0 y1 y2 y3, LeO (impl_TreeOk.l0 k y0 y1 y2 y3) (impl_TreeOk.l0 (k + 1) y0 y1 y2 y3))
 | 0 => fun _ _ _ _ r h => by simp [impl_TreeOk.l0] at h
 | k + 1 => by
  have ih0 := impl_TreeOk.mono_l k
  ·intro y0 y1 y2 y3
   unfold impl_TreeOk.l0
   repeat' first
   | (with_reducible exact ih0 _ _ _ _)
   | (with_reducible exact LeO.refl _)
   | (with_reducible exact LeO.none _)
   | (with_reducible refine LeO.ite ?_ ?_)
   | (with_reducible refine LeO.bind ?_ (fun _ => ?_))
   | exact ih0 _ _ _ _
   | exact LeO.none _
   | refine LeO.ite ?_ ?_
   | refine LeO.bind ?_ (fun _ => ?_)
theorem impl_TreeOk.mono : ∀ a0 k, LeO (impl_TreeOk.f k a0) (impl_TreeOk.f (k + 1) a0) := by
 intro a0 k
 have ih0 := impl_TreeOk.mono_l k
 unfold impl_TreeOk.f
 repeat' first
   | (with_reducible exact ih0 _ _ _ _)
   | (with_reducible exact LeO.refl _)
   | (with_reducible exact LeO.none _)
   | (with_reducible refine LeO.ite ?_ ?_)
   | (with_reducible refine LeO.bind ?_ (fun _ => ?_))
   | exact ih0 _ _ _ _
   | exact LeO.none _
   | refine LeO.ite ?_ ?_
   | refine LeO.bind ?_ (fun _ => ?_)
set_option maxHeartbeats 8000000 in
set_option maxRecDepth 100000 in
theorem impl_TreeOk.calls (k : Nat) (A0 : Option Addr) (c0 : Nat) (l0 : List (S53)) (r : Bool) (w : World) (hr0 : Kd.C k53 w A0 l0.length l0) (hc0 : l0.length ≤ c0) (h : impl_TreeOk.f k l0 = some r) :
  Calls Try.prog 82 #[.slice A0 l0.length c0] w fun e w' => e = .returned (.bool r) ∧ Below w.heap.size w w' := by
 have hu53 := Try.underlying53
 have HR0 := Aside0.mk hr0
 have HC0 := Aside0.mk hc0
 clear hr0 hc0
 have HB := Aside0.mk (Below.refl w.heap.size w)
 have H : ((impl_within.f (l0.length : Int) 1 24).bind fun t268 => (if t268 = true then (impl_TreeOk.l0 k l0 l0 (l0.length : Int) 0) else (some false))) = some r := h
 clear h
 replace H := Option.bind_eq_some_iff.mp H
 obtain ⟨t268, A20, H⟩ := H
 replace H : (if t268 = true then (impl_TreeOk.l0 k l0 l0 (l0.length : Int) 0) else (some false)) = some r := H
 have A2 := Aside0.mk A20
 clear A20
 by_cases c3 : t268 = true
 ·subst c3
  have H1 : (impl_TreeOk.l0 k l0 l0 (l0.length : Int) 0) = some r := by rw [if_pos rfl] at H; exact H
  clear H
  have H := H1
  clear H1
  have H' := Aside0.mk H
  clear H
  go_enter Try.func82, Try.ntmps82
  go_wp2_with (first | ((with_reducible refine gate_callee (f := 100) rfl ?_); refine gL_ (some 7) Try.func100 #[.int .i64 (l0.length : Int), .int .i64 1, .int .i64 24] ?_; (with_reducible refine (impl_within.calls (l0.length : Int) 1 24 true _ A2.out).mono ?_); rintro e w' ⟨rfl, ⟨nd, rfl⟩⟩; refine ⟨_, rfl, ?_⟩))
  go_loopg [11] k (fun kq v11 w' => ∃ (x11_1 : Int), v11 = .int .i64 x11_1 ∧ Aside0 (impl_TreeOk.l0 kq l0 l0 (l0.length : Int) x11_1 = some r) ∧ Aside0 (kq ≤ k) ∧ Aside0 (Below w.heap.size w w'))
  case atStart => exact ⟨(0), eb_, H', ⟨Nat.le_refl _⟩, bl_ HB⟩
  case round =>
   clear H'
   try clear c1
   try clear p2
   try clear c3
   obtain ⟨x11_1, rfl, HA, HK1, HB⟩ := hrel
   cases gk with
   | zero => exact absurd HA.out (by simp [impl_TreeOk.l0])
   | succ k1 =>
    have H := HA.out
    clear HA
    simp only [impl_TreeOk.l0] at H
    by_cases c4 : x11_1 < (l0.length : Int)
    ·rw [if_pos c4] at H
     have c4b0 : decide (x11_1 < (l0.length : Int)) = true := decide_eq_true c4
     clear c4
     by_cases c5 : 0 ≤ x11_1
     ·rw [if_pos c5] at H
      have c5b0 : decide (0 ≤ x11_1) = true := decide_eq_true c5
      clear c5
      by_cases c6 : x11_1 < (l0.length : Int)
      ·rw [if_pos c6] at H
       have c6b0 : decide (x11_1 < (l0.length : Int)) = true := decide_eq_true c6
       clear c6
       replace H := Option.bind_eq_some_iff.mp H
       obtain ⟨t271, A70, H⟩ := H
       try dsimp only at H
       have A7 := Aside0.mk A70
       clear A70
       by_cases c8 : t271 = true
       ·subst c8
        have H1 : ((impl_within.f ((rd_T53 l0 x11_1).f1) 0 12).bind fun t272 => (if t272 = true then ((impl_depthOk.f l0 x11_1).bind fun t273 => (if t273 = true then (impl_TreeOk.l0 k1 l0 l0 (l0.length : Int) (wrap64 (x11_1 + 1))) else (some false))) else (some false))) = some r := by rw [if_pos rfl] at H; exact H
        clear H
        have H := H1
        clear H1
        replace H := Option.bind_eq_some_iff.mp H
        obtain ⟨t272, A90, H⟩ := H
        try dsimp only at H
        have A9 := Aside0.mk A90
        clear A90
        by_cases c10 : t272 = true
        ·subst c10
         have H1 : ((impl_depthOk.f l0 x11_1).bind fun t273 => (if t273 = true then (impl_TreeOk.l0 k1 l0 l0 (l0.length : Int) (wrap64 (x11_1 + 1))) else (some false))) = some r := by rw [if_pos rfl] at H; exact H
         clear H
         have H := H1
         clear H1
         replace H := Option.bind_eq_some_iff.mp H
         obtain ⟨t273, A110, H⟩ := H
         try dsimp only at H
         have A11 := Aside0.mk A110
         clear A110
         by_cases c12 : t273 = true
         ·subst c12
          have H1 : (impl_TreeOk.l0 k1 l0 l0 (l0.length : Int) (wrap64 (x11_1 + 1))) = some r := by rw [if_pos rfl] at H; exact H
          clear H
          have H := H1
          clear H1
          have H' := Aside0.mk H
          clear H
          have p269 : 0 ≤ (x11_1 : Int) := od_
          have q269 : x11_1 < (l0.length : Int) := od_
          obtain ⟨ad269, e269, hx269_0, hx269_1⟩ := at_T53 HR0.out x11_1 p269 q269
          cases e269
          replace hx269_0 := (HB.out.cell (World.block_lt_of_cell? w _ hx269_0)).trans hx269_0
          replace hx269_1 := (HB.out.cell (World.block_lt_of_cell? w _ hx269_1)).trans hx269_1
          replace p269 := eq_true p269
          replace q269 := eq_true q269
          go_wp2_with (first | ((with_reducible refine gate_dst (N := 4) rfl ?_); refine box_event ?hg (N := 4) ?hd (cs := #[.int .i64 0, .int .i64 0]) (t := 53) ?hr ?_; (case hd => rfl); (case hg => rfl); (case hr => first | (go_simp; done) | (go_simp; rfl)); intro gb270 hg w13 hbox hb; have n0_ := Aside0.mk (below_step (by repeat (first | (with_reducible first | exact HB.out | apply below_alloc | apply pw_below_drewN | apply below_drew1) | exact HB.out)) hb); have n1_ := Aside0.mk (hbox); have n2_ := Aside0.mk ((by rw [hg]; exact (below_size (by repeat (first | (with_reducible first | exact HB.out | apply below_alloc | apply pw_below_drewN | apply below_drew1) | exact HB.out))) : w.heap.size ≤ gb270)); have n3_ := Aside0.mk ((by rw [hg]; exact (below_size (by repeat (first | (with_reducible first | exact HB.out | apply below_alloc | apply pw_below_drewN | apply below_drew1) | exact HB.out))) : w.heap.size ≤ gb270)); clear HB; have HB := n0_; have BK270 := n1_; have GW270 := n2_; have GE270 := n3_; clear n0_ n1_ n2_ n3_; clear hb hbox hg; have hcz14_0 : w13.cell? ⟨gb270, 0, none⟩ = some (.int .i64 0) := (blk_cell BK270.out 0).trans rfl; have hcz14_1 : w13.cell? ⟨gb270, 1, none⟩ = some (.int .i64 0) := (blk_cell BK270.out 1).trans rfl; have hfz14_0 := blk_frozen BK270.out 0; have hfz14_1 := blk_frozen BK270.out 1) | ((with_reducible refine gate_callee (f := 75) rfl ?_); refine goesL_ (some 18) rfl rfl Try.func75 (by kernel_rfl) rfl #[.int .i64 ((rd_T53 l0 x11_1).f0)] rfl (by (try simp only [List.map_toArray, List.map_cons, List.map_nil]); first | done | rfl | (simp only [List.length_drop, List.length_take]; rfl)) ?_; (with_reducible refine (impl_LabelOk.calls ((rd_T53 l0 x11_1).f0) true _ A7.out).mono ?_); rintro e w' ⟨rfl, ⟨nd, rfl⟩⟩; refine ⟨_, rfl, ?_⟩) | (go_at_call 100; (with_reducible refine (impl_within.calls ((rd_T53 l0 x11_1).f1) 0 12 true _ A9.out).mono ?_); rintro e w' ⟨rfl, ⟨nd, rfl⟩⟩) | (go_at_call 101; (with_reducible refine (impl_depthOk.calls _ _ l0 x11_1 true _ ?side1 ?side2 A11.out).mono ?_); (case side1 => exact Kd.C_below HR0.out (by repeat (first | (with_reducible first | exact HB.out | apply below_alloc | apply pw_below_drewN | apply below_drew1 | refine below_set ?_ GE270.out) | exact HB.out))); (case side2 => exact HC0.out); rintro e w' ⟨rfl, ⟨nd, rfl⟩⟩))
          go_roundg k1
          case measure => have := HK1.out; omega
          case rel => exact ⟨(wrap64 (x11_1 + 1)), (by first | rfl | (simp; done) | (simp [*]; done)), H', ⟨by have := HK1.out; omega⟩, ⟨by repeat (first | (with_reducible first | exact HB.out | apply below_alloc | apply pw_below_drewN | apply below_drew1 | refine below_set ?_ GE270.out) | exact HB.out)⟩⟩
         ·replace c12 := Bool.eq_false_iff.mpr c12
          subst c12
          have H1 : (some false) = some r := by rw [if_neg (show ¬ (false = true) by decide)] at H; exact H
          clear H
          have H := H1
          clear H1
          obtain rfl := Option.some.inj H
          have p269 : 0 ≤ (x11_1 : Int) := od_
          have q269 : x11_1 < (l0.length : Int) := od_
          obtain ⟨ad269, e269, hx269_0, hx269_1⟩ := at_T53 HR0.out x11_1 p269 q269
          cases e269
          replace hx269_0 := (HB.out.cell (World.block_lt_of_cell? w _ hx269_0)).trans hx269_0
          replace hx269_1 := (HB.out.cell (World.block_lt_of_cell? w _ hx269_1)).trans hx269_1
          replace p269 := eq_true p269
          replace q269 := eq_true q269
          go_wp2_with (first | ((with_reducible refine gate_dst (N := 4) rfl ?_); refine box_event ?hg (N := 4) ?hd (cs := #[.int .i64 0, .int .i64 0]) (t := 53) ?hr ?_; (case hd => rfl); (case hg => rfl); (case hr => first | (go_simp; done) | (go_simp; rfl)); intro gb270 hg w15 hbox hb; have n0_ := Aside0.mk (below_step (by repeat (first | (with_reducible first | exact HB.out | apply below_alloc | apply pw_below_drewN | apply below_drew1) | exact HB.out)) hb); have n1_ := Aside0.mk (hbox); have n2_ := Aside0.mk ((by rw [hg]; exact (below_size (by repeat (first | (with_reducible first | exact HB.out | apply below_alloc | apply pw_below_drewN | apply below_drew1) | exact HB.out))) : w.heap.size ≤ gb270)); have n3_ := Aside0.mk ((by rw [hg]; exact (below_size (by repeat (first | (with_reducible first | exact HB.out | apply below_alloc | apply pw_below_drewN | apply below_drew1) | exact HB.out))) : w.heap.size ≤ gb270)); clear HB; have HB := n0_; have BK270 := n1_; have GW270 := n2_; have GE270 := n3_; clear n0_ n1_ n2_ n3_; clear hb hbox hg; have hcz16_0 : w15.cell? ⟨gb270, 0, none⟩ = some (.int .i64 0) := (blk_cell BK270.out 0).trans rfl; have hcz16_1 : w15.cell? ⟨gb270, 1, none⟩ = some (.int .i64 0) := (blk_cell BK270.out 1).trans rfl; have hfz16_0 := blk_frozen BK270.out 0; have hfz16_1 := blk_frozen BK270.out 1) | ((with_reducible refine gate_callee (f := 75) rfl ?_); refine goesL_ (some 18) rfl rfl Try.func75 (by kernel_rfl) rfl #[.int .i64 ((rd_T53 l0 x11_1).f0)] rfl (by (try simp only [List.map_toArray, List.map_cons, List.map_nil]); first | done | rfl | (simp only [List.length_drop, List.length_take]; rfl)) ?_; (with_reducible refine (impl_LabelOk.calls ((rd_T53 l0 x11_1).f0) true _ A7.out).mono ?_); rintro e w' ⟨rfl, ⟨nd, rfl⟩⟩; refine ⟨_, rfl, ?_⟩) | (go_at_call 100; (with_reducible refine (impl_within.calls ((rd_T53 l0 x11_1).f1) 0 12 true _ A9.out).mono ?_); rintro e w' ⟨rfl, ⟨nd, rfl⟩⟩) | (go_at_call 101; (with_reducible refine (impl_depthOk.calls _ _ l0 x11_1 false _ ?side1 ?side2 A11.out).mono ?_); (case side1 => exact Kd.C_below HR0.out (by repeat (first | (with_reducible first | exact HB.out | apply below_alloc | apply pw_below_drewN | apply below_drew1 | refine below_set ?_ GE270.out) | exact HB.out))); (case side2 => exact HC0.out); rintro e w' ⟨rfl, ⟨nd, rfl⟩⟩))
          go_ret
          exact ⟨by first | rfl | (simp [errW_none, errW_some] <;> rfl) | (simp [*, errW_none, errW_some] <;> rfl), by repeat (first | (with_reducible first | exact HB.out | apply below_alloc | apply pw_below_drewN | apply below_drew1 | refine below_set ?_ GE270.out) | exact HB.out)⟩
        ·replace c10 := Bool.eq_false_iff.mpr c10
         subst c10
         have H1 : (some false) = some r := by rw [if_neg (show ¬ (false = true) by decide)] at H; exact H
         clear H
         have H := H1
         clear H1
         obtain rfl := Option.some.inj H
         have p269 : 0 ≤ (x11_1 : Int) := od_
         have q269 : x11_1 < (l0.length : Int) := od_
         obtain ⟨ad269, e269, hx269_0, hx269_1⟩ := at_T53 HR0.out x11_1 p269 q269
         cases e269
         replace hx269_0 := ce_ HB hx269_0
         replace hx269_1 := ce_ HB hx269_1
         replace p269 := eq_true p269
         replace q269 := eq_true q269
         go_wp2_with (first | ((with_reducible refine gate_dst (N := 4) rfl ?_); refine bx_ 4 #[.int .i64 0, .int .i64 0] 53 ?_; intro gb270 hg w17 hbox hb; have BK270 := Aside0.mk (hbox); have GW270 := Aside0.mk ((by rw [hg]; exact (bs_ HB) : w.heap.size ≤ gb270)); have GE270 := Aside0.mk ((by rw [hg]; exact (bs_ HB) : w.heap.size ≤ gb270)); replace HB := tB_ HB hb; clear hb hbox hg; obtain ⟨hcz18_0, hcz18_1, hfz18_0, hfz18_1⟩ := bk2_ BK270) | ((with_reducible refine gate_callee (f := 75) rfl ?_); refine gL_ (some 18) Try.func75 #[.int .i64 ((rd_T53 l0 x11_1).f0)] ?_; (with_reducible refine (impl_LabelOk.calls ((rd_T53 l0 x11_1).f0) true _ A7.out).mono ?_); rintro e w' ⟨rfl, ⟨nd, rfl⟩⟩; refine ⟨_, rfl, ?_⟩) | (go_at_call 100; (with_reducible refine (impl_within.calls ((rd_T53 l0 x11_1).f1) 0 12 false _ A9.out).mono ?_); rintro e w' ⟨rfl, ⟨nd, rfl⟩⟩))
         go_ret
         exact ⟨by first | rfl | (simp [errW_none, errW_some] <;> rfl) | (simp [*, errW_none, errW_some] <;> rfl), by repeat (first | (with_reducible first | exact HB.out | apply below_alloc | apply pw_below_drewN | apply below_drew1 | refine below_set ?_ GE270.out) | exact HB.out)⟩
       ·replace c8 := Bool.eq_false_iff.mpr c8
        subst c8
        have H1 : (some false) = some r := by rw [if_neg (show ¬ (false = true) by decide)] at H; exact H
        clear H
        have H := H1
        clear H1
        obtain rfl := Option.some.inj H
        have p269 : 0 ≤ (x11_1 : Int) := od_
        have q269 : x11_1 < (l0.length : Int) := od_
        obtain ⟨ad269, e269, hx269_0, hx269_1⟩ := at_T53 HR0.out x11_1 p269 q269
        cases e269
        replace hx269_0 := ce_ HB hx269_0
        replace hx269_1 := ce_ HB hx269_1
        replace p269 := eq_true p269
        replace q269 := eq_true q269
        go_wp2_with (first | ((with_reducible refine gate_dst (N := 4) rfl ?_); refine bx_ 4 #[.int .i64 0, .int .i64 0] 53 ?_; intro gb270 hg w19 hbox hb; have BK270 := Aside0.mk (hbox); have GW270 := Aside0.mk ((by rw [hg]; exact (bs_ HB) : w.heap.size ≤ gb270)); have GE270 := Aside0.mk ((by rw [hg]; exact (bs_ HB) : w.heap.size ≤ gb270)); replace HB := tB_ HB hb; clear hb hbox hg; obtain ⟨hcz20_0, hcz20_1, hfz20_0, hfz20_1⟩ := bk2_ BK270) | ((with_reducible refine gate_callee (f := 75) rfl ?_); refine gL_ (some 18) Try.func75 #[.int .i64 ((rd_T53 l0 x11_1).f0)] ?_; (with_reducible refine (impl_LabelOk.calls ((rd_T53 l0 x11_1).f0) false _ A7.out).mono ?_); rintro e w' ⟨rfl, ⟨nd, rfl⟩⟩; refine ⟨_, rfl, ?_⟩))
        go_ret
        exact ⟨by first | rfl | (simp [errW_none, errW_some] <;> rfl) | (simp [*, errW_none, errW_some] <;> rfl), by repeat (first | (with_reducible first | exact HB.out | apply below_alloc | apply pw_below_drewN | apply below_drew1 | refine below_set ?_ GE270.out) | exact HB.out)⟩
      ·rw [if_neg c6] at H
       exact absurd H (by simp)
     ·rw [if_neg c5] at H
      exact absurd H (by simp)
    ·rw [if_neg c4] at H
     have c4b0 : decide (x11_1 < (l0.length : Int)) = false := decide_eq_false c4
     clear c4
     obtain rfl := Option.some.inj H
     go_wp2
     go_ret
     exact ⟨ea_, (bl_ HB).out⟩
 ·replace c3 := Bool.eq_false_iff.mpr c3
  subst c3
  have H1 : (some false) = some r := by rw [if_neg (show ¬ (false = true) by decide)] at H; exact H
  clear H
  have H := H1
  clear H1
  obtain rfl := Option.some.inj H
  go_enter Try.func82, Try.ntmps82
  go_wp2_with (first | ((with_reducible refine gate_callee (f := 100) rfl ?_); refine gL_ (some 7) Try.func100 #[.int .i64 (l0.length : Int), .int .i64 1, .int .i64 24] ?_; (with_reducible refine (impl_within.calls (l0.length : Int) 1 24 false _ A2.out).mono ?_); rintro e w' ⟨rfl, ⟨nd, rfl⟩⟩; refine ⟨_, rfl, ?_⟩))
  go_ret
  exact ⟨ea_, (bl_ HB).out⟩
end Go.Proofs.Ytelglbebffdaaaa.X
namespace Go.Proofs.Ytelglbebffdaaaa.X
open Go.RowKit Go.Proofs.YtelglbebffdaaaaW.PrintWords Go.Proofs.YtelglbebffdaaaaW.PrintLast Go.Proofs.YtelglbebffdaaaaW.PrintMore
attribute [local go_sem] max2_int min2_int max_two min_two max_three min_three max_four min_four   -- for this text's walks alone
set_option linter.unusedVariables false
set_option linter.unusedSimpArgs false
def impl_endOf.l0 : Nat → List (S53) → Int → Int → Option (Int)
 | 0, _, _, _ => none
 | k + 1, x0, x1, x5 => if x5 < (x0.length : Int) then (if 0 ≤ x5 then (if 0 ≤ x1 then (if x1 < (x0.length : Int) then (if ((rd_T53 x0 x5).f1) > ((rd_T53 x0 x1).f1) then (impl_endOf.l0 k x0 x1 (wrap64 (x5 + 1))) else (some x5)) else (none)) else (none)) else (none)) else (some x5)
def impl_endOf.f (k : Nat) (l0 : List (S53)) (a1 : Int) : Option (Int) := impl_endOf.l0 k l0 a1 (wrap64 (a1 + 1))
theorem impl_endOf.mono_l : ∀ k, (∀ y0 y1 y2, LeO (impl_endOf.l0 k y0 y1 y2) (impl_endOf.l0 (k + 1) y0 y1 y2))
 | 0 => fun _ _ _ r h => by simp [impl_endOf.l0] at h
 | k + 1 => by
  have ih0 := impl_endOf.mono_l k
  ·intro y0 y1 y2
   unfold impl_endOf.l0
   repeat' first
   | (with_reducible exact ih0 _ _ _)
   | (with_reducible exact LeO.refl _)
   | (with_reducible exact LeO.none _)
   | (with_reducible refine LeO.ite ?_ ?_)
   | (with_reducible refine LeO.bind ?_ (fun _ => ?_))
   | exact ih0 _ _ _
   | exact LeO.none _
   | refine LeO.ite ?_ ?_
   | refine LeO.bind ?_ (fun _ => ?_)
theorem impl_endOf.mono : ∀ a0 a1 k, LeO (impl_endOf.f k a0 a1) (impl_endOf.f (k + 1) a0 a1) := by
 intro a0 a1 k
 have ih0 := impl_endOf.mono_l k
 unfold impl_endOf.f
 repeat' first
   | (with_reducible exact ih0 _ _ _)
   | (with_reducible exact LeO.refl _)
   | (with_reducible exact LeO.none _)
   | (with_reducible refine LeO.ite ?_ ?_)
   | (with_reducible refine LeO.bind ?_ (fun _ => ?_))
   | exact ih0 _ _ _
   | exact LeO.none _
   | refine LeO.ite ?_ ?_
   | refine LeO.bind ?_ (fun _ => ?_)
set_option maxHeartbeats 8000000 in
set_option maxRecDepth 100000 in
theorem impl_endOf.calls (k : Nat) (A0 : Option Addr) (c0 : Nat) (l0 : List (S53)) (a1 : Int) (r : Int) (w : World) (hr0 : Kd.C k53 w A0 l0.length l0) (hc0 : l0.length ≤ c0) (h : impl_endOf.f k l0 a1 = some r) :
  Calls Try.prog 104 #[.slice A0 l0.length c0, .int .i64 a1] w fun e w' => e = .returned (.int .i64 r) ∧ Drawn0 w w' := by
 have HR0 := Aside0.mk hr0
 have HC0 := Aside0.mk hc0
 clear hr0 hc0
 have H : (impl_endOf.l0 k l0 a1 (wrap64 (a1 + 1))) = some r := h
 clear h
 have H' := Aside0.mk H
 clear H
 go_enter Try.func104, Try.ntmps104
 go_wp2
 repeat (go_quiet (fail); try go_wp2)
 go_loopg [5] k (fun kq v5 w' => ∃ (x5_1 : Int), v5 = .int .i64 x5_1 ∧ Aside0 (impl_endOf.l0 kq l0 a1 x5_1 = some r) ∧ Aside0 (kq ≤ k) ∧ Drawn0 w w')
 case atStart => exact ⟨(wrap64 (a1 + 1)), eb_, H', ⟨Nat.le_refl _⟩, by repeat (first | exact Drawn0.refl _ | apply Drawn0.step)⟩
 case round =>
  clear H'
  try clear c1
  try clear p2
  obtain ⟨x5_1, rfl, HA, HK1, ⟨m1, rfl⟩⟩ := hrel
  cases gk with
  | zero => exact absurd HA.out (by simp [impl_endOf.l0])
  | succ k1 =>
   have H := HA.out
   clear HA
   simp only [impl_endOf.l0] at H
   by_cases c3 : x5_1 < (l0.length : Int)
   ·rw [if_pos c3] at H
    have c3b0 : decide (x5_1 < (l0.length : Int)) = true := decide_eq_true c3
    clear c3
    by_cases c4 : 0 ≤ x5_1
    ·rw [if_pos c4] at H
     have c4b0 : decide (0 ≤ x5_1) = true := decide_eq_true c4
     clear c4
     by_cases c5 : 0 ≤ a1
     ·rw [if_pos c5] at H
      have c5b0 : decide (0 ≤ a1) = true := decide_eq_true c5
      clear c5
      by_cases c6 : a1 < (l0.length : Int)
      ·rw [if_pos c6] at H
       have c6b0 : decide (a1 < (l0.length : Int)) = true := decide_eq_true c6
       clear c6
       by_cases c7 : ((rd_T53 l0 x5_1).f1) > ((rd_T53 l0 a1).f1)
       ·rw [if_pos c7] at H
        have c7b0 : decide (((rd_T53 l0 a1).f1) < ((rd_T53 l0 x5_1).f1)) = true := decide_eq_true c7
        clear c7
        have H' := Aside0.mk H
        clear H
        have p276 : 0 ≤ (x5_1 : Int) := od_
        have q276 : x5_1 < (l0.length : Int) := od_
        obtain ⟨ad276, e276, hx276_0, hx276_1⟩ := at_T53 HR0.out x5_1 p276 q276
        cases e276
        replace p276 := eq_true p276
        replace q276 := eq_true q276
        have p277 : 0 ≤ (a1 : Int) := od_
        have q277 : a1 < (l0.length : Int) := od_
        obtain ⟨ad277, e277, hx277_0, hx277_1⟩ := at_T53 HR0.out a1 p277 q277
        obtain rfl : ad276 = ad277 := (by injection e277)
        replace p277 := eq_true p277
        replace q277 := eq_true q277
        go_wp2
        repeat (go_quiet (fail); try go_wp2)
        go_roundg k1
        case measure => have := HK1.out; omega
        case rel => exact ⟨(wrap64 (x5_1 + 1)), eb_, H', ⟨by have := HK1.out; omega⟩, by repeat (first | exact Drawn0.refl _ | apply Drawn0.step)⟩
       ·rw [if_neg c7] at H
        have c7b0 : decide (((rd_T53 l0 a1).f1) < ((rd_T53 l0 x5_1).f1)) = false := decide_eq_false c7
        clear c7
        obtain rfl := Option.some.inj H
        have p276 : 0 ≤ (x5_1 : Int) := od_
        have q276 : x5_1 < (l0.length : Int) := od_
        obtain ⟨ad276, e276, hx276_0, hx276_1⟩ := at_T53 HR0.out x5_1 p276 q276
        cases e276
        replace p276 := eq_true p276
        replace q276 := eq_true q276
        have p277 : 0 ≤ (a1 : Int) := od_
        have q277 : a1 < (l0.length : Int) := od_
        obtain ⟨ad277, e277, hx277_0, hx277_1⟩ := at_T53 HR0.out a1 p277 q277
        obtain rfl : ad276 = ad277 := (by injection e277)
        replace p277 := eq_true p277
        replace q277 := eq_true q277
        go_wp2
        repeat (go_quiet (fail); try go_wp2)
        go_ret
        exact ⟨by first | rfl | (simp; done) | (simp [*]; done), by repeat (first | exact Drawn0.refl _ | apply Drawn0.step)⟩
      ·rw [if_neg c6] at H
       exact absurd H (by simp)
     ·rw [if_neg c5] at H
      exact absurd H (by simp)
    ·rw [if_neg c4] at H
     exact absurd H (by simp)
   ·rw [if_neg c3] at H
    have c3b0 : decide (x5_1 < (l0.length : Int)) = false := decide_eq_false c3
    clear c3
    obtain rfl := Option.some.inj H
    go_wp2
    repeat (go_quiet (fail); try go_wp2)
    go_ret
    exact ⟨by first | rfl | (simp; done) | (simp [*]; done), by repeat (first | exact Drawn0.refl _ | apply Drawn0.step)⟩
end Go.Proofs.Ytelglbebffdaaaa.X
namespace Go.Proofs.Ytelglbebffdaaaa.X
open Go.RowKit Go.Proofs.YtelglbebffdaaaaW.PrintWords Go.Proofs.YtelglbebffdaaaaW.PrintLast Go.Proofs.YtelglbebffdaaaaW.PrintMore
attribute [local go_sem] max2_int min2_int max_two min_two max_three min_three max_four min_four   -- for this text's walks alone
set_option linter.unusedVariables false
set_option linter.unusedSimpArgs false
def spec_l3At.f (k : Nat) (l0 : List (S53)) (a1 : Int) : Option (Bool) := (spec_TreeOk.f k l0).bind fun t135 => (if t135 = true then ((spec_l1In.f a1 0 (wrap64 ((l0.length : Int) - 1))).bind fun t136 => (some t136)) else (some false))
theorem spec_l3At.mono : ∀ a0 a1 k, LeO (spec_l3At.f k a0 a1) (spec_l3At.f (k + 1) a0 a1) := by
 intro a0 a1 k
 unfold spec_l3At.f
 repeat' first
   | (with_reducible exact spec_TreeOk.mono _ _)
   | (with_reducible exact LeO.refl _)
   | (with_reducible exact LeO.none _)
   | (with_reducible refine LeO.ite ?_ ?_)
   | (with_reducible refine LeO.bind ?_ (fun _ => ?_))
   | exact spec_TreeOk.mono _ _
   | exact LeO.none _
   | refine LeO.ite ?_ ?_
   | refine LeO.bind ?_ (fun _ => ?_)
set_option maxHeartbeats 8000000 in
set_option maxRecDepth 100000 in
theorem spec_l3At.calls (k : Nat) (A0 : Option Addr) (c0 : Nat) (l0 : List (S53)) (a1 : Int) (r : Bool) (w : World) (hr0 : Kd.C k53 w A0 l0.length l0) (hc0 : l0.length ≤ c0) (h : spec_l3At.f k l0 a1 = some r) :
  Calls Try.prog 80 #[.slice A0 l0.length c0, .int .i64 a1] w fun e w' => e = .returned (.bool r) ∧ Below w.heap.size w w' := by
 have HR0 := Aside0.mk hr0
 have HC0 := Aside0.mk hc0
 clear hr0 hc0
 have HB := Aside0.mk (Below.refl w.heap.size w)
 have H : ((spec_TreeOk.f k l0).bind fun t135 => (if t135 = true then ((spec_l1In.f a1 0 (wrap64 ((l0.length : Int) - 1))).bind fun t136 => (some t136)) else (some false))) = some r := h
 clear h
 replace H := Option.bind_eq_some_iff.mp H
 obtain ⟨t135, A30, H⟩ := H
 try dsimp only at H
 have A3 := Aside0.mk A30
 clear A30
 by_cases c4 : t135 = true
 ·subst c4
  have H1 : ((spec_l1In.f a1 0 (wrap64 ((l0.length : Int) - 1))).bind fun t136 => (some t136)) = some r := by rw [if_pos rfl] at H; exact H
  clear H
  have H := H1
  clear H1
  replace H := Option.bind_eq_some_iff.mp H
  obtain ⟨t136, A50, H⟩ := H
  replace H : (some t136) = some r := H
  have A5 := Aside0.mk A50
  clear A50
  obtain rfl := Option.some.inj H
  go_enter Try.func80, Try.ntmps80
  go_wp2_with (first | ((with_reducible refine gate_callee (f := 45) rfl ?_); refine gL_ (some 6) Try.func45 #[.slice A0 l0.length c0] ?_; (with_reducible refine (spec_TreeOk.calls k _ _ l0 true _ (cc_ HR0.out) HC0.out A3.out).mono ?_); rintro e w6 ⟨rfl, hb⟩; refine ⟨_, rfl, ?_⟩; replace HB := tB_ HB hb; (try clear hb)) | (go_at_call 52; (with_reducible refine (spec_l1In.calls a1 0 (wrap64 ((l0.length : Int) - 1)) t136 _ A5.out).mono ?_); rintro e w' ⟨rfl, ⟨nd, rfl⟩⟩))
  go_ret
  exact ⟨ea_, (bl_ HB).out⟩
 ·replace c4 := Bool.eq_false_iff.mpr c4
  subst c4
  have H1 : (some false) = some r := by rw [if_neg (show ¬ (false = true) by decide)] at H; exact H
  clear H
  have H := H1
  clear H1
  obtain rfl := Option.some.inj H
  go_enter Try.func80, Try.ntmps80
  go_wp2_with (first | ((with_reducible refine gate_callee (f := 45) rfl ?_); refine gL_ (some 6) Try.func45 #[.slice A0 l0.length c0] ?_; (with_reducible refine (spec_TreeOk.calls k _ _ l0 false _ (cc_ HR0.out) HC0.out A3.out).mono ?_); rintro e w7 ⟨rfl, hb⟩; refine ⟨_, rfl, ?_⟩; replace HB := tB_ HB hb; (try clear hb)))
  go_ret
  exact ⟨ea_, (bl_ HB).out⟩
end Go.Proofs.Ytelglbebffdaaaa.X
namespace Go.Proofs.Ytelglbebffdaaaa.X
open Go.RowKit Go.Proofs.YtelglbebffdaaaaW.PrintWords Go.Proofs.YtelglbebffdaaaaW.PrintLast Go.Proofs.YtelglbebffdaaaaW.PrintMore
attribute [local go_sem] max2_int min2_int max_two min_two max_three min_three max_four min_four   -- for this text's walks alone
set_option linter.unusedVariables false
set_option linter.unusedSimpArgs false
def spec_EndOf.l0 : Nat → List (S53) → Int → Int → Option (Int)
 | 0, _, _, _ => none
 | k + 1, x0, x1, x5 => if x5 < (x0.length : Int) then (if 0 ≤ x5 then (if 0 ≤ x1 then (if x1 < (x0.length : Int) then (if ((rd_T53 x0 x5).f1) > ((rd_T53 x0 x1).f1) then (spec_EndOf.l0 k x0 x1 (wrap64 (x5 + 1))) else (some x5)) else (none)) else (none)) else (none)) else (some x5)
def spec_EndOf.f (k : Nat) (l0 : List (S53)) (a1 : Int) : Option (Int) := (spec_l3At.f k l0 a1).bind fun t137 => (if t137 = true then (spec_EndOf.l0 k l0 a1 (wrap64 (a1 + 1))) else (some (-1)))
theorem spec_EndOf.mono_l : ∀ k, (∀ y0 y1 y2, LeO (spec_EndOf.l0 k y0 y1 y2) (spec_EndOf.l0 (k + 1) y0 y1 y2))
 | 0 => fun _ _ _ r h => by simp [spec_EndOf.l0] at h
 | k + 1 => by
  have ih0 := spec_EndOf.mono_l k
  ·intro y0 y1 y2
   unfold spec_EndOf.l0
   repeat' first
   | (with_reducible exact ih0 _ _ _)
   | (with_reducible exact spec_l3At.mono _ _ _)
   | (with_reducible exact LeO.refl _)
   | (with_reducible exact LeO.none _)
   | (with_reducible refine LeO.ite ?_ ?_)
   | (with_reducible refine LeO.bind ?_ (fun _ => ?_))
   | exact ih0 _ _ _
   | exact spec_l3At.mono _ _ _
   | exact LeO.none _
   | refine LeO.ite ?_ ?_
   | refine LeO.bind ?_ (fun _ => ?_)
theorem spec_EndOf.mono : ∀ a0 a1 k, LeO (spec_EndOf.f k a0 a1) (spec_EndOf.f (k + 1) a0 a1) := by
 intro a0 a1 k
 have ih0 := spec_EndOf.mono_l k
 unfold spec_EndOf.f
 repeat' first
   | (with_reducible exact ih0 _ _ _)
   | (with_reducible exact spec_l3At.mono _ _ _)
   | (with_reducible exact LeO.refl _)
   | (with_reducible exact LeO.none _)
   | (with_reducible refine LeO.ite ?_ ?_)
   | (with_reducible refine LeO.bind ?_ (fun _ => ?_))
   | exact ih0 _ _ _
   | exact spec_l3At.mono _ _ _
   | exact LeO.none _
   | refine LeO.ite ?_ ?_
   | refine LeO.bind ?_ (fun _ => ?_)
set_option maxHeartbeats 8000000 in
set_option maxRecDepth 100000 in
theorem spec_EndOf.calls (k : Nat) (A0 : Option Addr) (c0 : Nat) (l0 : List (S53)) (a1 : Int) (r : Int) (w : World) (hr0 : Kd.C k53 w A0 l0.length l0) (hc0 : l0.length ≤ c0) (h : spec_EndOf.f k l0 a1 = some r) :
  Calls Try.prog 79 #[.slice A0 l0.length c0, .int .i64 a1] w fun e w' => e = .returned (.int .i64 r) ∧ Below w.heap.size w w' := by
 have HR0 := Aside0.mk hr0
 have HC0 := Aside0.mk hc0
 clear hr0 hc0
 have HB := Aside0.mk (Below.refl w.heap.size w)
 have H : ((spec_l3At.f k l0 a1).bind fun t137 => (if t137 = true then (spec_EndOf.l0 k l0 a1 (wrap64 (a1 + 1))) else (some (-1)))) = some r := h
 clear h
 replace H := Option.bind_eq_some_iff.mp H
 obtain ⟨t137, A30, H⟩ := H
 replace H : (if t137 = true then (spec_EndOf.l0 k l0 a1 (wrap64 (a1 + 1))) else (some (-1))) = some r := H
 have A3 := Aside0.mk A30
 clear A30
 by_cases c4 : t137 = true
 ·subst c4
  have H1 : (spec_EndOf.l0 k l0 a1 (wrap64 (a1 + 1))) = some r := by rw [if_pos rfl] at H; exact H
  clear H
  have H := H1
  clear H1
  have H' := Aside0.mk H
  clear H
  go_enter Try.func79, Try.ntmps79
  go_wp2_with (first | (go_at_call 80; (with_reducible refine (spec_l3At.calls k _ _ l0 a1 true _ (cc_ HR0.out) HC0.out A3.out).mono ?_); rintro e w5 ⟨rfl, hb⟩; replace HB := tB_ HB hb; (try clear hb)))
  repeat (go_quiet (first | (go_at_call 80; (with_reducible refine (spec_l3At.calls k _ _ l0 a1 true _ (cc_ HR0.out) HC0.out A3.out).mono ?_); rintro e w5 ⟨rfl, hb⟩; replace HB := tB_ HB hb; (try clear hb))); try go_wp2_with (first | (go_at_call 80; (with_reducible refine (spec_l3At.calls k _ _ l0 a1 true _ (cc_ HR0.out) HC0.out A3.out).mono ?_); rintro e w5 ⟨rfl, hb⟩; replace HB := tB_ HB hb; (try clear hb))))
  go_loopg [5] k (fun kq v5 w' => ∃ (x5_1 : Int), v5 = .int .i64 x5_1 ∧ Aside0 (spec_EndOf.l0 kq l0 a1 x5_1 = some r) ∧ Aside0 (kq ≤ k) ∧ Aside0 (Below w.heap.size w w'))
  case atStart => exact ⟨(wrap64 (a1 + 1)), eb_, H', ⟨Nat.le_refl _⟩, bl_ HB⟩
  case round =>
   clear H'
   try clear p2
   try clear c4
   obtain ⟨x5_1, rfl, HA, HK1, HB⟩ := hrel
   cases gk with
   | zero => exact absurd HA.out (by simp [spec_EndOf.l0])
   | succ k1 =>
    have H := HA.out
    clear HA
    simp only [spec_EndOf.l0] at H
    by_cases c6 : x5_1 < (l0.length : Int)
    ·rw [if_pos c6] at H
     have c6b0 : decide (x5_1 < (l0.length : Int)) = true := decide_eq_true c6
     clear c6
     by_cases c7 : 0 ≤ x5_1
     ·rw [if_pos c7] at H
      have c7b0 : decide (0 ≤ x5_1) = true := decide_eq_true c7
      clear c7
      by_cases c8 : 0 ≤ a1
      ·rw [if_pos c8] at H
       have c8b0 : decide (0 ≤ a1) = true := decide_eq_true c8
       clear c8
       by_cases c9 : a1 < (l0.length : Int)
       ·rw [if_pos c9] at H
        have c9b0 : decide (a1 < (l0.length : Int)) = true := decide_eq_true c9
        clear c9
        by_cases c10 : ((rd_T53 l0 x5_1).f1) > ((rd_T53 l0 a1).f1)
        ·rw [if_pos c10] at H
         have c10b0 : decide (((rd_T53 l0 a1).f1) < ((rd_T53 l0 x5_1).f1)) = true := decide_eq_true c10
         clear c10
         have H' := Aside0.mk H
         clear H
         have p138 : 0 ≤ (x5_1 : Int) := od_
         have q138 : x5_1 < (l0.length : Int) := od_
         obtain ⟨ad138, e138, hx138_0, hx138_1⟩ := at_T53 HR0.out x5_1 p138 q138
         cases e138
         replace hx138_0 := ce_ HB hx138_0
         replace hx138_1 := ce_ HB hx138_1
         replace p138 := eq_true p138
         replace q138 := eq_true q138
         have p139 : 0 ≤ (a1 : Int) := od_
         have q139 : a1 < (l0.length : Int) := od_
         obtain ⟨ad139, e139, hx139_0, hx139_1⟩ := at_T53 HR0.out a1 p139 q139
         obtain rfl : ad138 = ad139 := (by injection e139)
         replace hx139_0 := ce_ HB hx139_0
         replace hx139_1 := ce_ HB hx139_1
         replace p139 := eq_true p139
         replace q139 := eq_true q139
         go_wp2
         repeat (go_quiet (fail); try go_wp2)
         go_roundg k1
         case measure => have := HK1.out; omega
         case rel => exact ⟨(wrap64 (x5_1 + 1)), eb_, H', ⟨by have := HK1.out; omega⟩, bl_ HB⟩
        ·rw [if_neg c10] at H
         have c10b0 : decide (((rd_T53 l0 a1).f1) < ((rd_T53 l0 x5_1).f1)) = false := decide_eq_false c10
         clear c10
         obtain rfl := Option.some.inj H
         have p138 : 0 ≤ (x5_1 : Int) := od_
         have q138 : x5_1 < (l0.length : Int) := od_
         obtain ⟨ad138, e138, hx138_0, hx138_1⟩ := at_T53 HR0.out x5_1 p138 q138
         cases e138
         replace hx138_0 := ce_ HB hx138_0
         replace hx138_1 := ce_ HB hx138_1
         replace p138 := eq_true p138
         replace q138 := eq_true q138
         have p139 : 0 ≤ (a1 : Int) := od_
         have q139 : a1 < (l0.length : Int) := od_
         obtain ⟨ad139, e139, hx139_0, hx139_1⟩ := at_T53 HR0.out a1 p139 q139
         obtain rfl : ad138 = ad139 := (by injection e139)
         replace hx139_0 := ce_ HB hx139_0
         replace hx139_1 := ce_ HB hx139_1
         replace p139 := eq_true p139
         replace q139 := eq_true q139
         go_wp2
         repeat (go_quiet (fail); try go_wp2)
         go_ret
         exact ⟨ea_, (bl_ HB).out⟩
       ·rw [if_neg c9] at H
        exact absurd H (by simp)
      ·rw [if_neg c8] at H
       exact absurd H (by simp)
     ·rw [if_neg c7] at H
      exact absurd H (by simp)
    ·rw [if_neg c6] at H
     have c6b0 : decide (x5_1 < (l0.length : Int)) = false := decide_eq_false c6
     clear c6
     obtain rfl := Option.some.inj H
     go_wp2
     repeat (go_quiet (fail); try go_wp2)
     go_ret
     exact ⟨ea_, (bl_ HB).out⟩
 ·replace c4 := Bool.eq_false_iff.mpr c4
  subst c4
  have H1 : (some (-1)) = some r := by rw [if_neg (show ¬ (false = true) by decide)] at H; exact H
  clear H
  have H := H1
  clear H1
  obtain rfl := Option.some.inj H
  go_enter Try.func79, Try.ntmps79
  go_wp2_with (first | (go_at_call 80; (with_reducible refine (spec_l3At.calls k _ _ l0 a1 false _ (cc_ HR0.out) HC0.out A3.out).mono ?_); rintro e w11 ⟨rfl, hb⟩; replace HB := tB_ HB hb; (try clear hb)))
  repeat (go_quiet (first | (go_at_call 80; (with_reducible refine (spec_l3At.calls k _ _ l0 a1 false _ (cc_ HR0.out) HC0.out A3.out).mono ?_); rintro e w11 ⟨rfl, hb⟩; replace HB := tB_ HB hb; (try clear hb))); try go_wp2_with (first | (go_at_call 80; (with_reducible refine (spec_l3At.calls k _ _ l0 a1 false _ (cc_ HR0.out) HC0.out A3.out).mono ?_); rintro e w11 ⟨rfl, hb⟩; replace HB := tB_ HB hb; (try clear hb))))
  go_ret
  exact ⟨ea_, (bl_ HB).out⟩
end Go.Proofs.Ytelglbebffdaaaa.X
namespace Go.Proofs.Ytelglbebffdaaaa.X
open Go.RowKit Go.Proofs.YtelglbebffdaaaaW.PrintWords Go.Proofs.YtelglbebffdaaaaW.PrintLast Go.Proofs.YtelglbebffdaaaaW.PrintMore
attribute [local go_sem] max2_int min2_int max_two min_two max_three min_three max_four min_four   -- for this text's walks alone
set_option linter.unusedVariables false
set_option linter.unusedSimpArgs false
def spec_l3Copy.f (l0 : List (S53)) : Option ((List (S53))) := (some (([] : List (S53)) : List (S53))).bind fun y1002 => (if y1002.length + l0.length < 8796093022208 then (some (y1002 ++ l0)) else (none))
set_option maxHeartbeats 8000000 in
set_option maxRecDepth 100000 in
theorem spec_l3Copy.calls (A0 : Option Addr) (c0 : Nat) (l0 : List (S53)) (r : List (S53)) (w : World) (hr0 : Kd.C k53 w A0 l0.length l0) (hc0 : l0.length ≤ c0) (h : spec_l3Copy.f l0 = some r) :
  Calls Try.prog 109 #[.slice A0 l0.length c0] w fun e w' => ∃ v0_ : Value, e = .returned (v0_) ∧ Kd.R k53 53 w' w.heap.size (fun _ => True) v0_ r ∧ Below w.heap.size w w' := by
 have HR0 := Aside0.mk hr0
 have HC0 := Aside0.mk hc0
 clear hr0 hc0
 have HB := Aside0.mk (Below.refl w.heap.size w)
 have H : ((some (([] : List (S53)) : List (S53))).bind fun y1002 => (if y1002.length + l0.length < 8796093022208 then (some (y1002 ++ l0)) else (none))) = some r := h
 clear h
 obtain ⟨y1002, hy1002⟩ : ∃ y_ : List (S53), y_ = (([] : List (S53))) := ⟨_, rfl⟩
 replace H : (if y1002.length + l0.length < 8796093022208 then (some (y1002 ++ l0)) else (none)) = some r := by first | (rw [hy1002]; with_reducible exact H) | (have H2_ := (Option.bind_some _ _).symm.trans H; rw [hy1002]; with_reducible exact H2_) | (have H2_ := (Option.bind_some _ _).symm.trans H; with_reducible exact H2_) | with_reducible exact H | (rw [hy1002]; exact H) | exact H
 have Ny1002 := Aside0.mk hy1002
 clear hy1002
 by_cases c2 : y1002.length + l0.length < 8796093022208
 ·rw [if_pos c2] at H
  have LMc2 := Aside0.mk c2
  clear c2
  obtain ⟨y1005, hy1005⟩ : ∃ y_ : List (S53), y_ = (y1002 ++ l0) := ⟨_, rfl⟩
  replace H : (some y1005) = some r := by first | (rw [hy1005]; with_reducible exact H) | (have H2_ := (Option.bind_some _ _).symm.trans H; rw [hy1005]; with_reducible exact H2_) | (have H2_ := (Option.bind_some _ _).symm.trans H; with_reducible exact H2_) | with_reducible exact H | (rw [hy1005]; exact H) | exact H
  have Ny1005 := Aside0.mk hy1005
  clear hy1005
  obtain rfl := Option.some.inj H
  go_enter Try.func109, Try.ntmps109
  go_wp2_with (first | ((with_reducible refine gate_dst (N := 3) rfl ?_); refine Kd.R_lit k53 _ 53 ?hg (N := 3) ?hd (xs := ([] : List (S53))) (inner := []) (ok := fun _ => True) (okp := fun _ => True) ?hr ?hp (fun _ hk => hk) trivial (Below.refl _ _) (Nat.le_refl _) (by simp) ?_; (case hd => rfl); (case hg => rfl); (case hr => first | (go_simp; done) | (go_simp; rfl)); (case hp => exact (Reps.none _ _)); intro v1003 w3 ho4 hb hg_ hnew_; clear hg_ hnew_; (first | rw [← Ny1002.out] at ho4 | (simp only [Int.reduceToNat] at ho4; rw [← Ny1002.out] at ho4)); have HO1004 := Aside0.mk (Kd.R_lower ho4 (bs_ HB)); replace HB := tB_ HB hb; clear hb ho4) | ((with_reducible refine gate_builtin (b := .append) (xs := #[.tmp 3, .tmp 4]) rfl ?_); at_builtin; refine Kd.R_append_rows k53 (w0 := w) w.heap.size rfl (.tmp 3) (.tmp 4) 29 53 (.agg #[(.int .i64 0), (.int .i64 0)]) 16 rfl Try.underlying29 info53 rfl (by decide) (by omega) v1003 y1002 l0 _ _ _ (fun _ => True) (fun _ => False) rfl rfl ?aO ?aR (fun _ _ h => h) (fun _ h => h.elim) ?aF ?aB ?aS ?aL ?_; (case aR => exact cx_ HR0 HB); (case aB => exact ((bl_ HB).out)); (case aF => exact (fun _ _ => trivial)); (case aO => exact (rx_ HO1004.out)); (case aS => exact (bs_ HB)); (case aL => have := LMc2.out; omega); intro v1006 w5 ho hb hg hat; rw [← Ny1005.out] at ho; replace HB := Aside0.mk (hb); have HO1007 := Aside0.mk (ho); clear HO1004; clear ho hb hg hat))
  go_ret
  exact ⟨_, ea_, rx_ HO1007.out, (bl_ HB).out⟩
 ·rw [if_neg c2] at H
  exact absurd H (by simp)
end Go.Proofs.Ytelglbebffdaaaa.X
namespace Go.Proofs.Ytelglbebffdaaaa.X
open Go.RowKit Go.Proofs.YtelglbebffdaaaaW.PrintWords Go.Proofs.YtelglbebffdaaaaW.PrintLast Go.Proofs.YtelglbebffdaaaaW.PrintMore
attribute [local go_sem] max2_int min2_int max_two min_two max_three min_three max_four min_four   -- for this text's walks alone
set_option linter.unusedVariables false
set_option linter.unusedSimpArgs false
def laws_big.f (l0 : List Int) : Option (Bool) := some (decide ((l0.length : Int) > 1048576))
set_option maxHeartbeats 8000000 in
set_option maxRecDepth 100000 in
theorem laws_big.calls (A0 : Option Addr) (c0 : Nat) (l0 : List Int) (r : Bool) (w : World) (hr0 : Kd.C (Kd.int .u8) w A0 l0.length l0) (hc0 : l0.length ≤ c0) (h : laws_big.f l0 = some r) :
  Calls Try.prog 38 #[.slice A0 l0.length c0] w fun e w' => e = .returned (.bool r) ∧ Drawn0 w w' := by
 have HR0 := Aside0.mk hr0
 have HC0 := Aside0.mk hc0
 clear hr0 hc0
 have H : (some (decide ((l0.length : Int) > 1048576))) = some r := h
 clear h
 obtain rfl := Option.some.inj H
 go_enter Try.func38, Try.ntmps38
 go_wp2
 go_ret
 exact ⟨by first | rfl | (simp; done) | (simp [*]; done), by repeat (first | exact Drawn0.refl _ | apply Drawn0.step)⟩
end Go.Proofs.Ytelglbebffdaaaa.X
namespace Go.Proofs.Ytelglbebffdaaaa.X
open Go.RowKit Go.Proofs.YtelglbebffdaaaaW.PrintWords Go.Proofs.YtelglbebffdaaaaW.PrintLast Go.Proofs.YtelglbebffdaaaaW.PrintMore
attribute [local go_sem] max2_int min2_int max_two min_two max_three min_three max_four min_four   -- for this text's walks alone
set_option linter.unusedVariables false
set_option linter.unusedSimpArgs false
mutual
def spec_KidsOf.l0 : Nat → List (S53) → Int → List Int → Int → Option (List Int)
 | 0, _, _, _, _ => none
 | k + 1, x0, x1, x5, x6 => (spec_l3At.f k x0 x1).bind fun t143 => (if t143 = true then ((spec_EndOf.f k x0 x1).bind fun t144 => (spec_KidsOf.j1 k x0 x1 x5 x6 (decide (x6 < t144)))) else (spec_KidsOf.j1 k x0 x1 x5 x6 false))
def spec_KidsOf.j1 : Nat → List (S53) → Int → List Int → Int → Bool → Option (List Int)
 | 0, _, _, _, _, _ => none
 | k + 1, x0, x1, x5, x6, x19 => if x19 = true then (if 0 ≤ x6 then (if x6 < (x0.length : Int) then (if 0 ≤ x1 then (if x1 < (x0.length : Int) then (if ((rd_T53 x0 x6).f1) = (wrap64 (((rd_T53 x0 x1).f1) + 1)) then (if x5.length < 17592186044416 then (spec_KidsOf.l0 k x0 x1 (x5 ++ [x6]) (wrap64 (x6 + 1))) else (none)) else (spec_KidsOf.l0 k x0 x1 x5 (wrap64 (x6 + 1)))) else (none)) else (none)) else (none)) else (none)) else (some x5)
end
def spec_KidsOf.f (k : Nat) (l0 : List (S53)) (a1 : Int) : Option (List Int) := spec_KidsOf.l0 k l0 a1 (([] : List Int)) (wrap64 (a1 + 1))
theorem spec_KidsOf.mono_l : ∀ k, (∀ y0 y1 y2 y3, LeO (spec_KidsOf.l0 k y0 y1 y2 y3) (spec_KidsOf.l0 (k + 1) y0 y1 y2 y3)) ∧ (∀ y0 y1 y2 y3 y4, LeO (spec_KidsOf.j1 k y0 y1 y2 y3 y4) (spec_KidsOf.j1 (k + 1) y0 y1 y2 y3 y4))
 | 0 => ⟨fun _ _ _ _ r h => by simp [spec_KidsOf.l0] at h, fun _ _ _ _ _ r h => by simp [spec_KidsOf.j1] at h⟩
 | k + 1 => by
  obtain ⟨ih0, ih1⟩ := spec_KidsOf.mono_l k
  refine ⟨?_, ?_⟩
  ·intro y0 y1 y2 y3
   unfold spec_KidsOf.l0
   repeat' first
   | (with_reducible exact ih0 _ _ _ _)
   | (with_reducible exact ih1 _ _ _ _ _)
   | (with_reducible exact spec_EndOf.mono _ _ _)
   | (with_reducible exact spec_l3At.mono _ _ _)
   | (with_reducible exact LeO.refl _)
   | (with_reducible exact LeO.none _)
   | (with_reducible refine LeO.ite ?_ ?_)
   | (with_reducible refine LeO.bind ?_ (fun _ => ?_))
   | exact ih0 _ _ _ _
   | exact ih1 _ _ _ _ _
   | exact spec_EndOf.mono _ _ _
   | exact spec_l3At.mono _ _ _
   | exact LeO.none _
   | refine LeO.ite ?_ ?_
   | refine LeO.bind ?_ (fun _ => ?_)
  ·intro y0 y1 y2 y3 y4
   unfold spec_KidsOf.j1
   repeat' first
   | (with_reducible exact ih0 _ _ _ _)
   | (with_reducible exact ih1 _ _ _ _ _)
   | (with_reducible exact spec_EndOf.mono _ _ _)
   | (with_reducible exact spec_l3At.mono _ _ _)
   | (with_reducible exact LeO.refl _)
   | (with_reducible exact LeO.none _)
   | (with_reducible refine LeO.ite ?_ ?_)
   | (with_reducible refine LeO.bind ?_ (fun _ => ?_))
   | exact ih0 _ _ _ _
   | exact ih1 _ _ _ _ _
   | exact spec_EndOf.mono _ _ _
   | exact spec_l3At.mono _ _ _
   | exact LeO.none _
   | refine LeO.ite ?_ ?_
   | refine LeO.bind ?_ (fun _ => ?_)
theorem spec_KidsOf.mono : ∀ a0 a1 k, LeO (spec_KidsOf.f k a0 a1) (spec_KidsOf.f (k + 1) a0 a1) := by
 intro a0 a1 k
 obtain ⟨ih0, ih1⟩ := spec_KidsOf.mono_l k
 unfold spec_KidsOf.f
 repeat' first
   | (with_reducible exact ih0 _ _ _ _)
   | (with_reducible exact ih1 _ _ _ _ _)
   | (with_reducible exact spec_EndOf.mono _ _ _)
   | (with_reducible exact spec_l3At.mono _ _ _)
   | (with_reducible exact LeO.refl _)
   | (with_reducible exact LeO.none _)
   | (with_reducible refine LeO.ite ?_ ?_)
   | (with_reducible refine LeO.bind ?_ (fun _ => ?_))
   | exact ih0 _ _ _ _
   | exact ih1 _ _ _ _ _
   | exact spec_EndOf.mono _ _ _
   | exact spec_l3At.mono _ _ _
   | exact LeO.none _
   | refine LeO.ite ?_ ?_
   | refine LeO.bind ?_ (fun _ => ?_)
set_option maxHeartbeats 8000000 in
set_option maxRecDepth 100000 in
theorem spec_KidsOf.calls (k : Nat) (A0 : Option Addr) (c0 : Nat) (l0 : List (S53)) (a1 : Int) (r : List Int) (w : World) (hr0 : Kd.C k53 w A0 l0.length l0) (hc0 : l0.length ≤ c0) (h : spec_KidsOf.f k l0 a1 = some r) :
  Calls Try.prog 98 #[.slice A0 l0.length c0, .int .i64 a1] w fun e w' => ∃ v0_ : Value, e = .returned (v0_) ∧ Kd.R (Kd.int .i64) 3 w' w.heap.size (fun _ => True) v0_ r ∧ Below w.heap.size w w' := by
 have HR0 := Aside0.mk hr0
 have HC0 := Aside0.mk hc0
 clear hr0 hc0
 have HB := Aside0.mk (Below.refl w.heap.size w)
 have H : (spec_KidsOf.l0 k l0 a1 (([] : List Int)) (wrap64 (a1 + 1))) = some r := h
 clear h
 obtain ⟨y140, hy140⟩ : ∃ y_ : List Int, y_ = (([] : List Int)) := ⟨_, rfl⟩
 replace H : (spec_KidsOf.l0 k l0 a1 y140 (wrap64 (a1 + 1))) = some r := by first | (rw [hy140]; with_reducible exact H) | (have H2_ := (Option.bind_some _ _).symm.trans H; rw [hy140]; with_reducible exact H2_) | (have H2_ := (Option.bind_some _ _).symm.trans H; with_reducible exact H2_) | with_reducible exact H | (rw [hy140]; exact H) | exact H
 have Ny140 := Aside0.mk hy140
 clear hy140
 have H' := Aside0.mk H
 clear H
 go_enter Try.func98, Try.ntmps98
 go_wp2_with (first | ((with_reducible refine gate_dst (N := 7) rfl ?_); refine Kd.R_lit (Kd.int .i64) _ 3 ?hg (N := 7) ?hd (xs := ([] : List Int)) (inner := []) (ok := fun _ => True) (okp := fun _ => True) ?hr ?hp (fun _ hk => hk) trivial (Below.refl _ _) (Nat.le_refl _) (by simp) ?_; (case hd => rfl); (case hg => rfl); (case hr => first | (go_simp; done) | (go_simp; rfl)); (case hp => exact (Reps.none _ _)); intro v141 w3 ho4 hb hg_ hnew_; clear hg_ hnew_; (first | rw [← Ny140.out] at ho4 | (simp only [Int.reduceToNat] at ho4; rw [← Ny140.out] at ho4)); have HO142 := Aside0.mk (Kd.R_lower ho4 (bs_ HB)); replace HB := tB_ HB hb; clear hb ho4))
 repeat (go_quiet (first | ((with_reducible refine gate_dst (N := 7) rfl ?_); refine Kd.R_lit (Kd.int .i64) _ 3 ?hg (N := 7) ?hd (xs := ([] : List Int)) (inner := []) (ok := fun _ => True) (okp := fun _ => True) ?hr ?hp (fun _ hk => hk) trivial (Below.refl _ _) (Nat.le_refl _) (by simp) ?_; (case hd => rfl); (case hg => rfl); (case hr => first | (go_simp; done) | (go_simp; rfl)); (case hp => exact (Reps.none _ _)); intro v141 w3 ho4 hb hg_ hnew_; clear hg_ hnew_; (first | rw [← Ny140.out] at ho4 | (simp only [Int.reduceToNat] at ho4; rw [← Ny140.out] at ho4)); have HO142 := Aside0.mk (Kd.R_lower ho4 (bs_ HB)); replace HB := tB_ HB hb; clear hb ho4)); try go_wp2_with (first | ((with_reducible refine gate_dst (N := 7) rfl ?_); refine Kd.R_lit (Kd.int .i64) _ 3 ?hg (N := 7) ?hd (xs := ([] : List Int)) (inner := []) (ok := fun _ => True) (okp := fun _ => True) ?hr ?hp (fun _ hk => hk) trivial (Below.refl _ _) (Nat.le_refl _) (by simp) ?_; (case hd => rfl); (case hg => rfl); (case hr => first | (go_simp; done) | (go_simp; rfl)); (case hp => exact (Reps.none _ _)); intro v141 w3 ho4 hb hg_ hnew_; clear hg_ hnew_; (first | rw [← Ny140.out] at ho4 | (simp only [Int.reduceToNat] at ho4; rw [← Ny140.out] at ho4)); have HO142 := Aside0.mk (Kd.R_lower ho4 (bs_ HB)); replace HB := tB_ HB hb; clear hb ho4)))
 go_loopg [5, 6] k (fun kq v5 v6 w' => ∃ (x5_1 : List Int) (x6_1 : Int), v6 = .int .i64 x6_1 ∧ Aside0 (spec_KidsOf.l0 kq l0 a1 x5_1 x6_1 = some r) ∧ Aside0 (kq ≤ k) ∧ Aside0 (Kd.R (Kd.int .i64) 3 w' w.heap.size (fun _ => True) v5 x5_1) ∧ Aside0 (Below w.heap.size w w'))
 case atStart => exact ⟨(y140), (wrap64 (a1 + 1)), eb_, H', ⟨Nat.le_refl _⟩, ⟨rx_ HO142.out⟩, bl_ HB⟩
 case round =>
  clear H'
  try clear p2
  obtain ⟨x5_1, x6_1, rfl, HA, HK1, HO_5, HB⟩ := hrel
  cases gk with
  | zero => exact absurd HA.out (by simp [spec_KidsOf.l0])
  | succ k1 =>
   have H := HA.out
   clear HA
   simp only [spec_KidsOf.l0] at H
   have HC5 := Aside0.mk H
   clear H
   go_upto_region 3 with (fail)
   repeat (go_quiet (fail); go_upto_region 3 with (fail))
   go_cut [19] (fun v19 wc => ∃ (kq : Nat) (x19_4 : Bool), v19 = .bool x19_4 ∧ Aside0 (spec_KidsOf.j1 kq l0 a1 x5_1 x6_1 x19_4 = some r) ∧ Aside0 (kq ≤ k1) ∧ Aside0 (Kd.R (Kd.int .i64) 3 wc w.heap.size (fun _ => True) u5 x5_1) ∧ Aside0 (Below w.heap.size w wc))
   case first =>
    have H := HC5.out
    clear HC5
    replace H := Option.bind_eq_some_iff.mp H
    obtain ⟨t143, A60, H⟩ := H
    try dsimp only at H
    have A6 := Aside0.mk A60
    clear A60
    by_cases c7 : t143 = true
    ·subst c7
     have H1 : ((spec_EndOf.f k1 l0 a1).bind fun t144 => (spec_KidsOf.j1 k1 l0 a1 x5_1 x6_1 (decide (x6_1 < t144)))) = some r := by rw [if_pos rfl] at H; exact H
     clear H
     have H := H1
     clear H1
     replace H := Option.bind_eq_some_iff.mp H
     obtain ⟨t144, A80, H⟩ := H
     replace H : (spec_KidsOf.j1 k1 l0 a1 x5_1 x6_1 (decide (x6_1 < t144))) = some r := H
     have A8 := Aside0.mk A80
     clear A80
     have H' := Aside0.mk H
     clear H
     go_wp2_with (first | (go_at_call 80; (with_reducible refine (spec_l3At.calls k1 _ _ l0 a1 true _ (cx_ HR0 HB) HC0.out A6.out).mono ?_); rintro e w9 ⟨rfl, hb⟩; replace HO_5 := tR_ HO_5 hb; replace HB := tB_ HB hb; (try clear hb)) | (go_at_call 79; (with_reducible refine (spec_EndOf.calls k1 _ _ l0 a1 t144 _ (cx_ HR0 HB) HC0.out A8.out).mono ?_); rintro e w10 ⟨rfl, hb⟩; replace HO_5 := tR_ HO_5 hb; replace HB := tB_ HB hb; (try clear hb)))
     repeat (go_quiet (first | (go_at_call 80; (with_reducible refine (spec_l3At.calls k1 _ _ l0 a1 true _ (cx_ HR0 HB) HC0.out A6.out).mono ?_); rintro e w9 ⟨rfl, hb⟩; replace HO_5 := tR_ HO_5 hb; replace HB := tB_ HB hb; (try clear hb)) | (go_at_call 79; (with_reducible refine (spec_EndOf.calls k1 _ _ l0 a1 t144 _ (cx_ HR0 HB) HC0.out A8.out).mono ?_); rintro e w10 ⟨rfl, hb⟩; replace HO_5 := tR_ HO_5 hb; replace HB := tB_ HB hb; (try clear hb))); try go_wp2_with (first | (go_at_call 80; (with_reducible refine (spec_l3At.calls k1 _ _ l0 a1 true _ (cx_ HR0 HB) HC0.out A6.out).mono ?_); rintro e w9 ⟨rfl, hb⟩; replace HO_5 := tR_ HO_5 hb; replace HB := tB_ HB hb; (try clear hb)) | (go_at_call 79; (with_reducible refine (spec_EndOf.calls k1 _ _ l0 a1 t144 _ (cx_ HR0 HB) HC0.out A8.out).mono ?_); rintro e w10 ⟨rfl, hb⟩; replace HO_5 := tR_ HO_5 hb; replace HB := tB_ HB hb; (try clear hb))))
     go_meet
     case rel => exact ⟨_, (decide (x6_1 < t144)), eb_, H', ⟨by have := HK1.out; first | omega | exact Nat.le_refl _⟩, ⟨rx_ HO_5.out⟩, bl_ HB⟩
    ·replace c7 := Bool.eq_false_iff.mpr c7
     subst c7
     have H1 : (spec_KidsOf.j1 k1 l0 a1 x5_1 x6_1 false) = some r := by rw [if_neg (show ¬ (false = true) by decide)] at H; exact H
     clear H
     have H := H1
     clear H1
     have H' := Aside0.mk H
     clear H
     go_wp2_with (first | (go_at_call 80; (with_reducible refine (spec_l3At.calls k1 _ _ l0 a1 false _ (cx_ HR0 HB) HC0.out A6.out).mono ?_); rintro e w11 ⟨rfl, hb⟩; replace HO_5 := tR_ HO_5 hb; replace HB := tB_ HB hb; (try clear hb)))
     repeat (go_quiet (first | (go_at_call 80; (with_reducible refine (spec_l3At.calls k1 _ _ l0 a1 false _ (cx_ HR0 HB) HC0.out A6.out).mono ?_); rintro e w11 ⟨rfl, hb⟩; replace HO_5 := tR_ HO_5 hb; replace HB := tB_ HB hb; (try clear hb))); try go_wp2_with (first | (go_at_call 80; (with_reducible refine (spec_l3At.calls k1 _ _ l0 a1 false _ (cx_ HR0 HB) HC0.out A6.out).mono ?_); rintro e w11 ⟨rfl, hb⟩; replace HO_5 := tR_ HO_5 hb; replace HB := tB_ HB hb; (try clear hb))))
     go_meet
     case rel => exact ⟨_, (false), eb_, H', ⟨by have := HK1.out; first | omega | exact Nat.le_refl _⟩, ⟨rx_ HO_5.out⟩, bl_ HB⟩
   case rest =>
    clear HC5
    try clear p2
    try clear p6
    try clear c7
    try clear c9
    try clear p2
    obtain ⟨kq, x19_4, rfl, HA, HJ4, HO_5, HB⟩ := hcut
    cases kq with
    | zero => exact absurd HA.out (by simp [spec_KidsOf.j1])
    | succ kj4 =>
     have H := HA.out
     clear HA
     simp only [spec_KidsOf.j1] at H
     by_cases c12 : x19_4 = true
     ·subst c12
      have H1 : (if 0 ≤ x6_1 then (if x6_1 < (l0.length : Int) then (if 0 ≤ a1 then (if a1 < (l0.length : Int) then (if ((rd_T53 l0 x6_1).f1) = (wrap64 (((rd_T53 l0 a1).f1) + 1)) then (if x5_1.length < 17592186044416 then (spec_KidsOf.l0 kj4 l0 a1 (x5_1 ++ [x6_1]) (wrap64 (x6_1 + 1))) else (none)) else (spec_KidsOf.l0 kj4 l0 a1 x5_1 (wrap64 (x6_1 + 1)))) else (none)) else (none)) else (none)) else (none)) = some r := by rw [if_pos rfl] at H; exact H
      clear H
      have H := H1
      clear H1
      by_cases c13 : 0 ≤ x6_1
      ·rw [if_pos c13] at H
       have c13b0 : decide (0 ≤ x6_1) = true := decide_eq_true c13
       clear c13
       by_cases c14 : x6_1 < (l0.length : Int)
       ·rw [if_pos c14] at H
        have c14b0 : decide (x6_1 < (l0.length : Int)) = true := decide_eq_true c14
        clear c14
        by_cases c15 : 0 ≤ a1
        ·rw [if_pos c15] at H
         have c15b0 : decide (0 ≤ a1) = true := decide_eq_true c15
         clear c15
         by_cases c16 : a1 < (l0.length : Int)
         ·rw [if_pos c16] at H
          have c16b0 : decide (a1 < (l0.length : Int)) = true := decide_eq_true c16
          clear c16
          by_cases c17 : ((rd_T53 l0 x6_1).f1) = (wrap64 (((rd_T53 l0 a1).f1) + 1))
          ·rw [if_pos c17] at H
           have c17b0 : (((rd_T53 l0 x6_1).f1) == (wrap64 (((rd_T53 l0 a1).f1) + 1))) = true := beq_iff_eq.mpr c17
           have c17b1 : (((rd_T53 l0 x6_1).f1) != (wrap64 (((rd_T53 l0 a1).f1) + 1))) = false := bne_eq_false_iff_eq.mpr c17
           clear c17
           by_cases c18 : x5_1.length < 17592186044416
           ·rw [if_pos c18] at H
            have LMc18 := Aside0.mk c18
            clear c18
            obtain ⟨y147, hy147⟩ : ∃ y_ : List Int, y_ = (x5_1 ++ [x6_1]) := ⟨_, rfl⟩
            replace H : (spec_KidsOf.l0 kj4 l0 a1 y147 (wrap64 (x6_1 + 1))) = some r := by first | (rw [hy147]; with_reducible exact H) | (have H2_ := (Option.bind_some _ _).symm.trans H; rw [hy147]; with_reducible exact H2_) | (have H2_ := (Option.bind_some _ _).symm.trans H; with_reducible exact H2_) | with_reducible exact H | (rw [hy147]; exact H) | exact H
            have Ny147 := Aside0.mk hy147
            clear hy147
            have H' := Aside0.mk H
            clear H
            have p145 : 0 ≤ (x6_1 : Int) := od_
            have q145 : x6_1 < (l0.length : Int) := od_
            obtain ⟨ad145, e145, hx145_0, hx145_1⟩ := at_T53 HR0.out x6_1 p145 q145
            cases e145
            replace hx145_0 := ce_ HB hx145_0
            replace hx145_1 := ce_ HB hx145_1
            replace p145 := eq_true p145
            replace q145 := eq_true q145
            have p146 : 0 ≤ (a1 : Int) := od_
            have q146 : a1 < (l0.length : Int) := od_
            obtain ⟨ad146, e146, hx146_0, hx146_1⟩ := at_T53 HR0.out a1 p146 q146
            obtain rfl : ad145 = ad146 := (by injection e146)
            replace hx146_0 := ce_ HB hx146_0
            replace hx146_1 := ce_ HB hx146_1
            replace p146 := eq_true p146
            replace q146 := eq_true q146
            go_wp2_with (first | ((with_reducible refine gate_builtin (b := .append) (xs := #[.tmp 34, .tmp 36]) rfl ?_); at_builtin; refine Kd.R_append (Kd.int .i64) (w0 := w) w.heap.size rfl (.tmp 34) (.tmp 36) 23 3 (.int .i64 0) 8 rfl Try.underlying23 info3 rfl (by decide) (by omega) u5 x5_1 x6_1 [.int .i64 x6_1] (fun _ => True) (fun _ => False) rfl rfl ?aP (fun _ hk => hk.elim) ?aF ?aO ?aB ?aS ?aL ?_; (case aP => exact rfl); (case aB => exact ((bl_ HB).out)); (case aF => exact (fun _ _ => trivial)); (case aO => exact (rx_ HO_5.out)); (case aS => exact (bs_ HB)); (case aL => have := LMc18.out; omega); intro v148 w19 ho hb hg hat; rw [← Ny147.out] at ho; replace HB := Aside0.mk (hb); have HO149 := Aside0.mk (ho); clear HO_5; clear ho hb hg hat))
            repeat (go_quiet (first | ((with_reducible refine gate_builtin (b := .append) (xs := #[.tmp 34, .tmp 36]) rfl ?_); at_builtin; refine Kd.R_append (Kd.int .i64) (w0 := w) w.heap.size rfl (.tmp 34) (.tmp 36) 23 3 (.int .i64 0) 8 rfl Try.underlying23 info3 rfl (by decide) (by omega) u5 x5_1 x6_1 [.int .i64 x6_1] (fun _ => True) (fun _ => False) rfl rfl ?aP (fun _ hk => hk.elim) ?aF ?aO ?aB ?aS ?aL ?_; (case aP => exact rfl); (case aB => exact ((bl_ HB).out)); (case aF => exact (fun _ _ => trivial)); (case aO => exact (rx_ HO_5.out)); (case aS => exact (bs_ HB)); (case aL => have := LMc18.out; omega); intro v148 w19 ho hb hg hat; rw [← Ny147.out] at ho; replace HB := Aside0.mk (hb); have HO149 := Aside0.mk (ho); clear HO_5; clear ho hb hg hat)); try go_wp2_with (first | ((with_reducible refine gate_builtin (b := .append) (xs := #[.tmp 34, .tmp 36]) rfl ?_); at_builtin; refine Kd.R_append (Kd.int .i64) (w0 := w) w.heap.size rfl (.tmp 34) (.tmp 36) 23 3 (.int .i64 0) 8 rfl Try.underlying23 info3 rfl (by decide) (by omega) u5 x5_1 x6_1 [.int .i64 x6_1] (fun _ => True) (fun _ => False) rfl rfl ?aP (fun _ hk => hk.elim) ?aF ?aO ?aB ?aS ?aL ?_; (case aP => exact rfl); (case aB => exact ((bl_ HB).out)); (case aF => exact (fun _ _ => trivial)); (case aO => exact (rx_ HO_5.out)); (case aS => exact (bs_ HB)); (case aL => have := LMc18.out; omega); intro v148 w19 ho hb hg hat; rw [← Ny147.out] at ho; replace HB := Aside0.mk (hb); have HO149 := Aside0.mk (ho); clear HO_5; clear ho hb hg hat)))
            go_roundg kj4
            case measure => have := HK1.out; have := HJ4.out; omega
            case rel => exact ⟨(y147), (wrap64 (x6_1 + 1)), eb_, H', ⟨by have := HK1.out; have := HJ4.out; omega⟩, ⟨rx_ HO149.out⟩, bl_ HB⟩
           ·rw [if_neg c18] at H
            exact absurd H (by simp)
          ·rw [if_neg c17] at H
           have c17b0 : (((rd_T53 l0 x6_1).f1) == (wrap64 (((rd_T53 l0 a1).f1) + 1))) = false := beq_eq_false_iff_ne.mpr c17
           have c17b1 : (((rd_T53 l0 x6_1).f1) != (wrap64 (((rd_T53 l0 a1).f1) + 1))) = true := bne_iff_ne.mpr c17
           have H' := Aside0.mk H
           clear H
           have p145 : 0 ≤ (x6_1 : Int) := od_
           have q145 : x6_1 < (l0.length : Int) := od_
           obtain ⟨ad145, e145, hx145_0, hx145_1⟩ := at_T53 HR0.out x6_1 p145 q145
           cases e145
           replace hx145_0 := ce_ HB hx145_0
           replace hx145_1 := ce_ HB hx145_1
           replace p145 := eq_true p145
           replace q145 := eq_true q145
           have p146 : 0 ≤ (a1 : Int) := od_
           have q146 : a1 < (l0.length : Int) := od_
           obtain ⟨ad146, e146, hx146_0, hx146_1⟩ := at_T53 HR0.out a1 p146 q146
           obtain rfl : ad145 = ad146 := (by injection e146)
           replace hx146_0 := ce_ HB hx146_0
           replace hx146_1 := ce_ HB hx146_1
           replace p146 := eq_true p146
           replace q146 := eq_true q146
           go_wp2
           repeat (go_quiet (fail); try go_wp2)
           go_roundg kj4
           case measure => have := HK1.out; have := HJ4.out; omega
           case rel => exact ⟨(x5_1), (wrap64 (x6_1 + 1)), eb_, H', ⟨by have := HK1.out; have := HJ4.out; omega⟩, ⟨rx_ HO_5.out⟩, bl_ HB⟩
         ·rw [if_neg c16] at H
          exact absurd H (by simp)
        ·rw [if_neg c15] at H
         exact absurd H (by simp)
       ·rw [if_neg c14] at H
        exact absurd H (by simp)
      ·rw [if_neg c13] at H
       exact absurd H (by simp)
     ·replace c12 := Bool.eq_false_iff.mpr c12
      subst c12
      have H1 : (some x5_1) = some r := by rw [if_neg (show ¬ (false = true) by decide)] at H; exact H
      clear H
      have H := H1
      clear H1
      obtain rfl := Option.some.inj H
      go_wp2
      repeat (go_quiet (fail); try go_wp2)
      go_ret
      exact ⟨_, ea_, rx_ HO_5.out, (bl_ HB).out⟩
end Go.Proofs.Ytelglbebffdaaaa.X
namespace Go.Proofs.Ytelglbebffdaaaa.X
open Go.RowKit Go.Proofs.YtelglbebffdaaaaW.PrintWords Go.Proofs.YtelglbebffdaaaaW.PrintLast Go.Proofs.YtelglbebffdaaaaW.PrintMore
attribute [local go_sem] max2_int min2_int max_two min_two max_three min_three max_four min_four   -- for this text's walks alone
set_option linter.unusedVariables false
set_option linter.unusedSimpArgs false
mutual
def spec_l6Post.l0 : Nat → List (S53) → Int → List Int → List Int → Int → Option (List Int)
 | 0, _, _, _, _, _ => none
 | k + 1, x0, x1, x5, x6, x7 => if x7 < (x6.length : Int) then (if 0 ≤ x7 then ((spec_l6Post.f k x0 (rd x6 x7)).bind fun t157 => (if x5.length + t157.length < 17592186044416 then (spec_l6Post.l0 k x0 x1 (x5 ++ t157) x6 (wrap64 (x7 + 1))) else (none))) else (none)) else (if x5.length < 17592186044416 then (some (x5 ++ [x1])) else (none))
def spec_l6Post.f : Nat → List (S53) → Int → Option (List Int)
 | 0, _, _ => none
 | k + 1, l0, a1 => (spec_KidsOf.f k l0 a1).bind fun t153 => (spec_l6Post.l0 k l0 a1 (([] : List Int)) t153 0)
end
theorem spec_l6Post.mono_l : ∀ k, (∀ y0 y1, LeO (spec_l6Post.f k y0 y1) (spec_l6Post.f (k + 1) y0 y1)) ∧ (∀ y0 y1 y2 y3 y4, LeO (spec_l6Post.l0 k y0 y1 y2 y3 y4) (spec_l6Post.l0 (k + 1) y0 y1 y2 y3 y4))
 | 0 => ⟨fun _ _ r h => by simp [spec_l6Post.f] at h, fun _ _ _ _ _ r h => by simp [spec_l6Post.l0] at h⟩
 | k + 1 => by
  obtain ⟨ih0, ih1⟩ := spec_l6Post.mono_l k
  refine ⟨?_, ?_⟩
  ·intro y0 y1
   unfold spec_l6Post.f
   repeat' first
   | (with_reducible exact ih0 _ _)
   | (with_reducible exact ih1 _ _ _ _ _)
   | (with_reducible exact spec_KidsOf.mono _ _ _)
   | (with_reducible exact LeO.refl _)
   | (with_reducible exact LeO.none _)
   | (with_reducible refine LeO.ite ?_ ?_)
   | (with_reducible refine LeO.bind ?_ (fun _ => ?_))
   | exact ih0 _ _
   | exact ih1 _ _ _ _ _
   | exact spec_KidsOf.mono _ _ _
   | exact LeO.none _
   | refine LeO.ite ?_ ?_
   | refine LeO.bind ?_ (fun _ => ?_)
  ·intro y0 y1 y2 y3 y4
   unfold spec_l6Post.l0
   repeat' first
   | (with_reducible exact ih0 _ _)
   | (with_reducible exact ih1 _ _ _ _ _)
   | (with_reducible exact spec_KidsOf.mono _ _ _)
   | (with_reducible exact LeO.refl _)
   | (with_reducible exact LeO.none _)
   | (with_reducible refine LeO.ite ?_ ?_)
   | (with_reducible refine LeO.bind ?_ (fun _ => ?_))
   | exact ih0 _ _
   | exact ih1 _ _ _ _ _
   | exact spec_KidsOf.mono _ _ _
   | exact LeO.none _
   | refine LeO.ite ?_ ?_
   | refine LeO.bind ?_ (fun _ => ?_)
theorem spec_l6Post.mono : ∀ a0 a1 k, LeO (spec_l6Post.f k a0 a1) (spec_l6Post.f (k + 1) a0 a1) := by
 intro a0 a1 k
 obtain ⟨ih0, ih1⟩ := spec_l6Post.mono_l k
 exact ih0 a0 a1
set_option maxHeartbeats 8000000 in
set_option maxRecDepth 100000 in
theorem spec_l6Post.calls (k : Nat) : ∀ (A0 : Option Addr) (c0 : Nat) (l0 : List (S53)) (a1 : Int) (r : List Int) (w : World) (hr0 : Kd.C k53 w A0 l0.length l0) (hc0 : l0.length ≤ c0) (h : spec_l6Post.f k l0 a1 = some r),
  Calls Try.prog 73 #[.slice A0 l0.length c0, .int .i64 a1] w fun e w' => ∃ v0_ : Value, e = .returned (v0_) ∧ Kd.R (Kd.int .i64) 3 w' w.heap.size (fun _ => True) v0_ r ∧ Below w.heap.size w w' := by
 induction k using Nat.strongRecOn with
 | _ k ih =>
 intro A0 c0 l0 a1 r w hr0 hc0 h
 cases k with
 | zero => exact absurd h (by simp [spec_l6Post.f])
 | succ k =>
 simp only [spec_l6Post.f] at h
 have HR0 := Aside0.mk hr0
 have HC0 := Aside0.mk hc0
 clear hr0 hc0
 have HB := Aside0.mk (Below.refl w.heap.size w)
 have H : ((spec_KidsOf.f k l0 a1).bind fun t153 => (spec_l6Post.l0 k l0 a1 (([] : List Int)) t153 0)) = some r := h
 clear h
 obtain ⟨y150, hy150⟩ : ∃ y_ : List Int, y_ = (([] : List Int)) := ⟨_, rfl⟩
 replace H : ((spec_KidsOf.f k l0 a1).bind fun t153 => (spec_l6Post.l0 k l0 a1 y150 t153 0)) = some r := by first | (rw [hy150]; with_reducible exact H) | (have H2_ := (Option.bind_some _ _).symm.trans H; rw [hy150]; with_reducible exact H2_) | (have H2_ := (Option.bind_some _ _).symm.trans H; with_reducible exact H2_) | with_reducible exact H | (rw [hy150]; exact H) | exact H
 have Ny150 := Aside0.mk hy150
 clear hy150
 replace H := Option.bind_eq_some_iff.mp H
 obtain ⟨t153, A30, H⟩ := H
 replace H : (spec_l6Post.l0 k l0 a1 y150 t153 0) = some r := H
 have A3 := Aside0.mk A30
 clear A30
 have H' := Aside0.mk H
 clear H
 go_enter Try.func73, Try.ntmps73
 go_wp2_with (first | ((with_reducible refine gate_dst (N := 8) rfl ?_); refine Kd.R_lit (Kd.int .i64) _ 3 ?hg (N := 8) ?hd (xs := ([] : List Int)) (inner := []) (ok := fun _ => True) (okp := fun _ => True) ?hr ?hp (fun _ hk => hk) trivial (Below.refl _ _) (Nat.le_refl _) (by simp) ?_; (case hd => rfl); (case hg => rfl); (case hr => first | (go_simp; done) | (go_simp; rfl)); (case hp => exact (Reps.none _ _)); intro v151 w4 ho5 hb hg_ hnew_; clear hg_ hnew_; (first | rw [← Ny150.out] at ho5 | (simp only [Int.reduceToNat] at ho5; rw [← Ny150.out] at ho5)); have HO152 := Aside0.mk (Kd.R_lower ho5 (bs_ HB)); replace HB := tB_ HB hb; clear hb ho5) | ((with_reducible refine gate_callee (f := 98) rfl ?_); refine gL_ (some 11) Try.func98 #[.slice A0 l0.length c0, .int .i64 a1] ?_; (with_reducible refine (spec_KidsOf.calls k _ _ l0 a1 t153 _ (cx_ HR0 HB) HC0.out A3.out).mono ?_); rintro e w6 ⟨v154, rfl, ho0, hb⟩; refine ⟨_, rfl, ?_⟩; have HO155 := Aside0.mk (Kd.R_lower (Kd.R_new' ho0 (Kd.R_lt (rx_ HO152.out))) (bs_ HB)); replace HO152 := Aside0.mk (Kd.R_elder' (rx_ HO152.out) (Kd.R_base ho0) hb); replace HB := tB_ HB hb; (try clear hb); (try clear ho0)))
 go_loopg [5, 7] k (fun kq v5 v7 w' => ∃ (x5_1 : List Int) (x7_1 : Int), v7 = .int .i64 x7_1 ∧ Aside0 (spec_l6Post.l0 kq l0 a1 x5_1 t153 x7_1 = some r) ∧ Aside0 (kq ≤ k) ∧ Aside0 (Kd.R (Kd.int .i64) 3 w' w.heap.size (fun k_ => some k_ ≠ (v154 : Value).ownBlock) v5 x5_1) ∧ Aside0 (Kd.R (Kd.int .i64) 3 w' w.heap.size (fun k_ => some k_ ≠ (v5 : Value).ownBlock) v154 t153) ∧ Aside0 (Below w.heap.size w w'))
 case atStart => exact ⟨(y150), (0), eb_, H', ⟨Nat.le_refl _⟩, ⟨rx_ (Kd.R_mono HO152.out (fun _ hk => hk.2))⟩, ⟨rx_ (Kd.R_mono HO155.out (fun _ hk => hk.2))⟩, bl_ HB⟩
 case round =>
  clear H'
  try clear p2
  obtain ⟨x5_1, x7_1, rfl, HA, HK1, HO_5, HO_6, HB⟩ := hrel
  cases gk with
  | zero => exact absurd HA.out (by simp [spec_l6Post.l0])
  | succ k1 =>
   have H := HA.out
   clear HA
   simp only [spec_l6Post.l0] at H
   by_cases c7 : x7_1 < (t153.length : Int)
   ·rw [if_pos c7] at H
    have c7b0 : decide (x7_1 < (t153.length : Int)) = true := decide_eq_true c7
    clear c7
    by_cases c8 : 0 ≤ x7_1
    ·rw [if_pos c8] at H
     have c8b0 : decide (0 ≤ x7_1) = true := decide_eq_true c8
     clear c8
     replace H := Option.bind_eq_some_iff.mp H
     obtain ⟨t157, A90, H⟩ := H
     try dsimp only at H
     have A9 := Aside0.mk A90
     clear A90
     by_cases c10 : x5_1.length + t157.length < 17592186044416
     ·rw [if_pos c10] at H
      have LMc10 := Aside0.mk c10
      clear c10
      obtain ⟨y160, hy160⟩ : ∃ y_ : List Int, y_ = (x5_1 ++ t157) := ⟨_, rfl⟩
      replace H : (spec_l6Post.l0 k1 l0 a1 y160 t153 (wrap64 (x7_1 + 1))) = some r := by first | (rw [hy160]; with_reducible exact H) | (have H2_ := (Option.bind_some _ _).symm.trans H; rw [hy160]; with_reducible exact H2_) | (have H2_ := (Option.bind_some _ _).symm.trans H; with_reducible exact H2_) | with_reducible exact H | (rw [hy160]; exact H) | exact H
      have Ny160 := Aside0.mk hy160
      clear hy160
      have H' := Aside0.mk H
      clear H
      obtain ⟨Ao11, co11, eo11⟩ := Kd.R_slice HO_6.out
      subst eo11
      have p156 : 0 ≤ (x7_1 : Int) := od_
      have q156 : x7_1 < (t153.length : Int) := od_
      obtain ⟨ad156, e156, hx156_0⟩ := Kd.at_int (Kd.R_reads' HO_6.out).2.2 x7_1 p156 q156
      cases e156
      replace p156 := eq_true p156
      replace q156 := eq_true q156
      go_wp2_with (first | ((with_reducible refine gate_callee (f := 73) rfl ?_); refine gL_ (some 24) Try.func73 #[.slice A0 l0.length c0, .int .i64 (rd t153 x7_1)] ?_; (with_reducible refine (ih k1 (by have := HK1.out; omega) _ _ l0 (rd t153 x7_1) t157 _ ?side1 ?side2 A9.out).mono ?_); (case side1 => exact cx_ HR0 HB); (case side2 => exact HC0.out); rintro e w12 ⟨v158, rfl, ho0, hb⟩; refine ⟨_, rfl, ?_⟩; have HO159 := Aside0.mk (Kd.R_lower (Kd.R_new' (Kd.R_new' ho0 (Kd.R_lt (rx_ HO_5.out))) (Kd.R_lt (rx_ HO_6.out))) (bs_ HB)); replace HO_5 := Aside0.mk (Kd.R_elder' (rx_ HO_5.out) (Kd.R_base ho0) hb); replace HO_6 := Aside0.mk (Kd.R_elder' (rx_ HO_6.out) (Kd.R_base ho0) hb); replace HB := tB_ HB hb; (try clear hb); (try clear ho0); obtain ⟨Ao14, co14, eo14⟩ := Kd.R_slice HO159.out; subst eo14) | ((with_reducible refine gate_builtin (b := .append) (xs := #[.tmp 18, .tmp 24]) rfl ?_); at_builtin; refine Kd.R_append_rows (Kd.int .i64) (w0 := w) w.heap.size rfl (.tmp 18) (.tmp 24) 23 3 (.int .i64 0) 8 rfl Try.underlying23 info3 rfl (by decide) (by omega) u5 x5_1 t157 _ _ _ (fun k_ => some k_ ≠ (.slice (some ad156) t153.length co11 : Value).ownBlock ∧ some k_ ≠ (.slice Ao14 t157.length co14 : Value).ownBlock) (fun _ => False) rfl rfl ?aO ?aR (fun _ _ h => h) (fun _ h => h.elim) ?aF ?aB ?aS ?aL ?_; (case aR => exact cc_ (Kd.R_reads' HO159.out).2.2); (case aB => exact ((bl_ HB).out)); (case aF => exact (fun k_ hk => ⟨Kd.fresh' (Kd.R_lt (rx_ HO_6.out)) k_ hk, Kd.fresh' (Kd.R_lt (rx_ HO159.out)) k_ hk⟩)); (case aO => exact (rx_ HO_5.out)); (case aS => exact (bs_ HB)); (case aL => have := LMc10.out; omega); intro v161 w13 ho hb hg hat; rw [← Ny160.out] at ho; replace HO_6 := Aside0.mk (Kd.R_after (ok := (fun k_ => some k_ ≠ (.slice Ao14 t157.length co14 : Value).ownBlock)) (rx_ (Kd.R_mono HO_6.out (fun _ hk => ⟨hk.2, hk.1⟩))) hg hat); replace HO159 := Aside0.mk (Kd.R_after (ok := (fun k_ => some k_ ≠ (.slice (some ad156) t153.length co11 : Value).ownBlock)) (rx_ (Kd.R_mono HO159.out (fun _ hk => ⟨hk.2, hk.1.2⟩))) hg hat); replace HB := Aside0.mk (hb); have HO162 := Aside0.mk (ho); clear HO_5; clear ho hb hg hat))
      go_roundg k1
      case measure => have := HK1.out; omega
      case rel => exact ⟨(y160), (wrap64 (x7_1 + 1)), eb_, H', ⟨by have := HK1.out; omega⟩, ⟨rx_ (Kd.R_mono HO162.out (fun _ hk => hk.1))⟩, ⟨rx_ (Kd.R_mono HO_6.out (fun _ hk => hk.2))⟩, bl_ HB⟩
     ·rw [if_neg c10] at H
      exact absurd H (by simp)
    ·rw [if_neg c8] at H
     exact absurd H (by simp)
   ·rw [if_neg c7] at H
    have c7b0 : decide (x7_1 < (t153.length : Int)) = false := decide_eq_false c7
    clear c7
    by_cases c15 : x5_1.length < 17592186044416
    ·rw [if_pos c15] at H
     have LMc15 := Aside0.mk c15
     clear c15
     obtain ⟨y163, hy163⟩ : ∃ y_ : List Int, y_ = (x5_1 ++ [a1]) := ⟨_, rfl⟩
     replace H : (some y163) = some r := by first | (rw [hy163]; with_reducible exact H) | (have H2_ := (Option.bind_some _ _).symm.trans H; rw [hy163]; with_reducible exact H2_) | (have H2_ := (Option.bind_some _ _).symm.trans H; with_reducible exact H2_) | with_reducible exact H | (rw [hy163]; exact H) | exact H
     have Ny163 := Aside0.mk hy163
     clear hy163
     obtain rfl := Option.some.inj H
     obtain ⟨Ao16, co16, eo16⟩ := Kd.R_slice HO_6.out
     subst eo16
     go_wp2_with (first | ((with_reducible refine gate_builtin (b := .append) (xs := #[.tmp 26, .tmp 28]) rfl ?_); at_builtin; refine Kd.R_append (Kd.int .i64) (w0 := w) w.heap.size rfl (.tmp 26) (.tmp 28) 23 3 (.int .i64 0) 8 rfl Try.underlying23 info3 rfl (by decide) (by omega) u5 x5_1 a1 [.int .i64 a1] (fun k_ => some k_ ≠ (.slice Ao16 t153.length co16 : Value).ownBlock) (fun _ => False) rfl rfl ?aP (fun _ hk => hk.elim) ?aF ?aO ?aB ?aS ?aL ?_; (case aP => exact rfl); (case aB => exact ((bl_ HB).out)); (case aF => exact (fun k_ hk => Kd.fresh' (Kd.R_lt (rx_ HO_6.out)) k_ hk)); (case aO => exact (rx_ HO_5.out)); (case aS => exact (bs_ HB)); (case aL => have := LMc15.out; omega); intro v164 w17 ho hb hg hat; rw [← Ny163.out] at ho; replace HO_6 := Aside0.mk (Kd.R_after (ok := (fun _ => True)) (rx_ (Kd.R_mono HO_6.out (fun _ hk => ⟨trivial, hk⟩))) hg hat); replace HB := Aside0.mk (hb); have HO165 := Aside0.mk (ho); clear HO_5; clear ho hb hg hat))
     go_ret
     exact ⟨_, ea_, rx_ (Kd.R_mono HO165.out (fun _ hk => trivial)), (bl_ HB).out⟩
    ·rw [if_neg c15] at H
     exact absurd H (by simp)
end Go.Proofs.Ytelglbebffdaaaa.X
namespace Go.Proofs.Ytelglbebffdaaaa.X
open Go.RowKit Go.Proofs.YtelglbebffdaaaaW.PrintWords Go.Proofs.YtelglbebffdaaaaW.PrintLast Go.Proofs.YtelglbebffdaaaaW.PrintMore
attribute [local go_sem] max2_int min2_int max_two min_two max_three min_three max_four min_four   -- for this text's walks alone
set_option linter.unusedVariables false
set_option linter.unusedSimpArgs false
def spec_PostOrder.f (k : Nat) (l0 : List (S53)) : Option (List Int) := (spec_TreeOk.f k l0).bind fun t166 => (if t166 = true then ((spec_l6Post.f k l0 0).bind fun t167 => (some t167)) else (some (([] : List Int))))
theorem spec_PostOrder.mono : ∀ a0 k, LeO (spec_PostOrder.f k a0) (spec_PostOrder.f (k + 1) a0) := by
 intro a0 k
 unfold spec_PostOrder.f
 repeat' first
   | (with_reducible exact spec_TreeOk.mono _ _)
   | (with_reducible exact spec_l6Post.mono _ _ _)
   | (with_reducible exact LeO.refl _)
   | (with_reducible exact LeO.none _)
   | (with_reducible refine LeO.ite ?_ ?_)
   | (with_reducible refine LeO.bind ?_ (fun _ => ?_))
   | exact spec_TreeOk.mono _ _
   | exact spec_l6Post.mono _ _ _
   | exact LeO.none _
   | refine LeO.ite ?_ ?_
   | refine LeO.bind ?_ (fun _ => ?_)
set_option maxHeartbeats 8000000 in
set_option maxRecDepth 100000 in
theorem spec_PostOrder.calls (k : Nat) (A0 : Option Addr) (c0 : Nat) (l0 : List (S53)) (r : List Int) (w : World) (hr0 : Kd.C k53 w A0 l0.length l0) (hc0 : l0.length ≤ c0) (h : spec_PostOrder.f k l0 = some r) :
  Calls Try.prog 40 #[.slice A0 l0.length c0] w fun e w' => ∃ v0_ : Value, e = .returned (v0_) ∧ Kd.R (Kd.int .i64) 3 w' w.heap.size (fun _ => True) v0_ r ∧ Below w.heap.size w w' := by
 have HR0 := Aside0.mk hr0
 have HC0 := Aside0.mk hc0
 clear hr0 hc0
 have HB := Aside0.mk (Below.refl w.heap.size w)
 have H : ((spec_TreeOk.f k l0).bind fun t166 => (if t166 = true then ((spec_l6Post.f k l0 0).bind fun t167 => (some t167)) else (some (([] : List Int))))) = some r := h
 clear h
 replace H := Option.bind_eq_some_iff.mp H
 obtain ⟨t166, A20, H⟩ := H
 try dsimp only at H
 have A2 := Aside0.mk A20
 clear A20
 by_cases c3 : t166 = true
 ·subst c3
  have H1 : ((spec_l6Post.f k l0 0).bind fun t167 => (some t167)) = some r := by rw [if_pos rfl] at H; exact H
  clear H
  have H := H1
  clear H1
  replace H := Option.bind_eq_some_iff.mp H
  obtain ⟨t167, A40, H⟩ := H
  replace H : (some t167) = some r := H
  have A4 := Aside0.mk A40
  clear A40
  obtain rfl := Option.some.inj H
  go_enter Try.func40, Try.ntmps40
  go_wp2_with (first | ((with_reducible refine gate_callee (f := 45) rfl ?_); refine gL_ (some 4) Try.func45 #[.slice A0 l0.length c0] ?_; (with_reducible refine (spec_TreeOk.calls k _ _ l0 true _ (cc_ HR0.out) HC0.out A2.out).mono ?_); rintro e w5 ⟨rfl, hb⟩; refine ⟨_, rfl, ?_⟩; replace HB := tB_ HB hb; (try clear hb)) | ((with_reducible refine gate_callee (f := 73) rfl ?_); refine gL_ (some 8) Try.func73 #[.slice A0 l0.length c0, .int .i64 0] ?_; (with_reducible refine (spec_l6Post.calls k _ _ l0 0 t167 _ (cx_ HR0 HB) HC0.out A4.out).mono ?_); rintro e w6 ⟨v168, rfl, ho0, hb⟩; refine ⟨_, rfl, ?_⟩; have HO169 := Aside0.mk (Kd.R_lower ho0 (bs_ HB)); replace HB := tB_ HB hb; (try clear hb); (try clear ho0)))
  go_ret
  exact ⟨_, ea_, rx_ HO169.out, (bl_ HB).out⟩
 ·replace c3 := Bool.eq_false_iff.mpr c3
  subst c3
  have H1 : (some (([] : List Int))) = some r := by rw [if_neg (show ¬ (false = true) by decide)] at H; exact H
  clear H
  have H := H1
  clear H1
  obtain ⟨y170, hy170⟩ : ∃ y_ : List Int, y_ = (([] : List Int)) := ⟨_, rfl⟩
  replace H : (some y170) = some r := by first | (rw [hy170]; with_reducible exact H) | (have H2_ := (Option.bind_some _ _).symm.trans H; rw [hy170]; with_reducible exact H2_) | (have H2_ := (Option.bind_some _ _).symm.trans H; with_reducible exact H2_) | with_reducible exact H | (rw [hy170]; exact H) | exact H
  have Ny170 := Aside0.mk hy170
  clear hy170
  obtain rfl := Option.some.inj H
  go_enter Try.func40, Try.ntmps40
  go_wp2_with (first | ((with_reducible refine gate_callee (f := 45) rfl ?_); refine gL_ (some 4) Try.func45 #[.slice A0 l0.length c0] ?_; (with_reducible refine (spec_TreeOk.calls k _ _ l0 false _ (cc_ HR0.out) HC0.out A2.out).mono ?_); rintro e w7 ⟨rfl, hb⟩; refine ⟨_, rfl, ?_⟩; replace HB := tB_ HB hb; (try clear hb)) | ((with_reducible refine gate_dst (N := 6) rfl ?_); refine Kd.R_lit (Kd.int .i64) _ 3 ?hg (N := 6) ?hd (xs := ([] : List Int)) (inner := []) (ok := fun _ => True) (okp := fun _ => True) ?hr ?hp (fun _ hk => hk) trivial (Below.refl _ _) (Nat.le_refl _) (by simp) ?_; (case hd => rfl); (case hg => rfl); (case hr => first | (go_simp; done) | (go_simp; rfl)); (case hp => exact (Reps.none _ _)); intro v171 w8 ho9 hb hg_ hnew_; clear hg_ hnew_; (first | rw [← Ny170.out] at ho9 | (simp only [Int.reduceToNat] at ho9; rw [← Ny170.out] at ho9)); have HO172 := Aside0.mk (Kd.R_lower ho9 (bs_ HB)); replace HB := tB_ HB hb; clear hb ho9))
  go_ret
  exact ⟨_, ea_, rx_ HO172.out, (bl_ HB).out⟩
end Go.Proofs.Ytelglbebffdaaaa.X
namespace Go.Proofs.Ytelglbebffdaaaa.X
open Go.RowKit Go.Proofs.YtelglbebffdaaaaW.PrintWords Go.Proofs.YtelglbebffdaaaaW.PrintLast Go.Proofs.YtelglbebffdaaaaW.PrintMore
attribute [local go_sem] max2_int min2_int max_two min_two max_three min_three max_four min_four   -- for this text's walks alone
set_option linter.unusedVariables false
set_option linter.unusedSimpArgs false
def spec_RankOf.l0 : Nat → List Int → List Int → Int → Option (List Int)
 | 0, _, _, _ => none
 | k + 1, x3, x4, x5 => if x5 < (x3.length : Int) then (if 0 ≤ x5 then (if 0 ≤ (rd x3 x5) then (if (rd x3 x5) < (x4.length : Int) then (spec_RankOf.l0 k x3 (x4.set ((rd x3 x5) : Int).toNat x5) (wrap64 (x5 + 1))) else (none)) else (none)) else (none)) else (some x4)
def spec_RankOf.f (k : Nat) (l0 : List (S53)) : Option (List Int) := (spec_PostOrder.f k l0).bind fun t173 => (if 0 ≤ (t173.length : Int) then (if ((t173.length : Int) : Int).toNat ≤ 35184372088832 then (spec_RankOf.l0 k t173 (List.replicate ((t173.length : Int) : Int).toNat 0) 0) else (none)) else (none))
theorem spec_RankOf.mono_l : ∀ k, (∀ y0 y1 y2, LeO (spec_RankOf.l0 k y0 y1 y2) (spec_RankOf.l0 (k + 1) y0 y1 y2))
 | 0 => fun _ _ _ r h => by simp [spec_RankOf.l0] at h
 | k + 1 => by
  have ih0 := spec_RankOf.mono_l k
  ·intro y0 y1 y2
   unfold spec_RankOf.l0
   repeat' first
   | (with_reducible exact ih0 _ _ _)
   | (with_reducible exact spec_PostOrder.mono _ _)
   | (with_reducible exact LeO.refl _)
   | (with_reducible exact LeO.none _)
   | (with_reducible refine LeO.ite ?_ ?_)
   | (with_reducible refine LeO.bind ?_ (fun _ => ?_))
   | exact ih0 _ _ _
   | exact spec_PostOrder.mono _ _
   | exact LeO.none _
   | refine LeO.ite ?_ ?_
   | refine LeO.bind ?_ (fun _ => ?_)
theorem spec_RankOf.mono : ∀ a0 k, LeO (spec_RankOf.f k a0) (spec_RankOf.f (k + 1) a0) := by
 intro a0 k
 have ih0 := spec_RankOf.mono_l k
 unfold spec_RankOf.f
 repeat' first
   | (with_reducible exact ih0 _ _ _)
   | (with_reducible exact spec_PostOrder.mono _ _)
   | (with_reducible exact LeO.refl _)
   | (with_reducible exact LeO.none _)
   | (with_reducible refine LeO.ite ?_ ?_)
   | (with_reducible refine LeO.bind ?_ (fun _ => ?_))
   | exact ih0 _ _ _
   | exact spec_PostOrder.mono _ _
   | exact LeO.none _
   | refine LeO.ite ?_ ?_
   | refine LeO.bind ?_ (fun _ => ?_)
set_option maxHeartbeats 8000000 in
set_option maxRecDepth 100000 in
theorem spec_RankOf.calls (k : Nat) (A0 : Option Addr) (c0 : Nat) (l0 : List (S53)) (r : List Int) (w : World) (hr0 : Kd.C k53 w A0 l0.length l0) (hc0 : l0.length ≤ c0) (h : spec_RankOf.f k l0 = some r) :
  Calls Try.prog 78 #[.slice A0 l0.length c0] w fun e w' => ∃ v0_ : Value, e = .returned (v0_) ∧ Kd.R (Kd.int .i64) 3 w' w.heap.size (fun _ => True) v0_ r ∧ Below w.heap.size w w' := by
 have HR0 := Aside0.mk hr0
 have HC0 := Aside0.mk hc0
 clear hr0 hc0
 have HB := Aside0.mk (Below.refl w.heap.size w)
 have H : ((spec_PostOrder.f k l0).bind fun t173 => (if 0 ≤ (t173.length : Int) then (if ((t173.length : Int) : Int).toNat ≤ 35184372088832 then (spec_RankOf.l0 k t173 (List.replicate ((t173.length : Int) : Int).toNat 0) 0) else (none)) else (none))) = some r := h
 clear h
 replace H := Option.bind_eq_some_iff.mp H
 obtain ⟨t173, A20, H⟩ := H
 try dsimp only at H
 have A2 := Aside0.mk A20
 clear A20
 by_cases c3 : 0 ≤ (t173.length : Int)
 ·rw [if_pos c3] at H
  have c3b0 := eq_true c3
  have c3b1 : decide (0 ≤ (t173.length : Int)) = true := decide_eq_true c3
  clear c3
  by_cases c4 : ((t173.length : Int) : Int).toNat ≤ 35184372088832
  ·rw [if_pos c4] at H
   have c4b0 := eq_true c4
   have c4b1 : decide (((t173.length : Int) : Int).toNat ≤ 35184372088832) = true := decide_eq_true c4
   clear c4
   obtain ⟨y176, hy176⟩ : ∃ y_ : List Int, y_ = (List.replicate ((t173.length : Int) : Int).toNat 0) := ⟨_, rfl⟩
   replace H : (spec_RankOf.l0 k t173 y176 0) = some r := by first | (rw [hy176]; with_reducible exact H) | (have H2_ := (Option.bind_some _ _).symm.trans H; rw [hy176]; with_reducible exact H2_) | (have H2_ := (Option.bind_some _ _).symm.trans H; with_reducible exact H2_) | with_reducible exact H | (rw [hy176]; exact H) | exact H
   have Ny176 := Aside0.mk hy176
   clear hy176
   have H' := Aside0.mk H
   clear H
   go_enter Try.func78, Try.ntmps78
   go_wp2_with (first | ((with_reducible refine gate_callee (f := 40) rfl ?_); refine gL_ (some 7) Try.func40 #[.slice A0 l0.length c0] ?_; (with_reducible refine (spec_PostOrder.calls k _ _ l0 t173 _ (cc_ HR0.out) HC0.out A2.out).mono ?_); rintro e w5 ⟨v174, rfl, ho0, hb⟩; refine ⟨_, rfl, ?_⟩; have HO175 := Aside0.mk (Kd.R_lower ho0 (bs_ HB)); replace HB := tB_ HB hb; (try clear hb); (try clear ho0); obtain ⟨Ao6, co6, eo6⟩ := Kd.R_slice HO175.out; subst eo6) | ((with_reducible refine gate_dst (N := 10) rfl ?_); refine Kd.R_make (Kd.int .i64) _ 3 rfl (N := 10) rfl 23 _ _ rfl (t173.length : Int) rfl rfl Try.underlying23 (.int .i64 0) 8 info3 rfl (by decide) (by omega) 0 (ok := fun _ => True) (okp := fun _ => True) rfl (fun _ hk => hk) trivial (od_) (Nat.le_trans (Nat.mul_le_mul_right _ (od_ : (t173.length : Int).toNat ≤ 35184372088832)) (by omega)) (Below.refl _ _) (Nat.le_refl _) ?_; intro v177 w7 ho8 hb hg_ hnew_; clear hg_ hnew_; (first | rw [← Ny176.out] at ho8 | (simp only [Int.reduceToNat] at ho8; rw [← Ny176.out] at ho8)); have HO178 := Aside0.mk (Kd.R_lower (Kd.R_new' ho8 (Kd.R_lt (rx_ HO175.out))) (bs_ HB)); replace HO175 := Aside0.mk (Kd.R_elder' (rx_ HO175.out) (Kd.R_base ho8) hb); replace HB := tB_ HB hb; clear hb ho8))
   go_loopg [5] k (fun kq v5 w' => ∃ (x4_1 : List Int) (x5_1 : Int), v5 = .int .i64 x5_1 ∧ Aside0 (spec_RankOf.l0 kq t173 x4_1 x5_1 = some r) ∧ Aside0 (kq ≤ k) ∧ Aside0 (Kd.R (Kd.int .i64) 3 w' w.heap.size (fun k_ => some k_ ≠ (v177 : Value).ownBlock) (.slice Ao6 t173.length co6) t173) ∧ Aside0 (Kd.R (Kd.int .i64) 3 w' w.heap.size (fun k_ => some k_ ≠ ((.slice Ao6 t173.length co6) : Value).ownBlock) v177 x4_1) ∧ Aside0 (Below w.heap.size w w'))
   case atStart => exact ⟨(y176), (0), eb_, H', ⟨Nat.le_refl _⟩, ⟨rx_ (Kd.R_mono HO175.out (fun _ hk => hk.2))⟩, ⟨rx_ (Kd.R_mono HO178.out (fun _ hk => hk.2))⟩, bl_ HB⟩
   case round =>
    clear H'
    try clear p2
    try clear c3
    try clear c3b0
    try clear c3b1
    try clear c4
    try clear c4b0
    try clear c4b1
    try clear c7
    obtain ⟨x4_1, x5_1, rfl, HA, HK1, HO_3, HO_4, HB⟩ := hrel
    cases gk with
    | zero => exact absurd HA.out (by simp [spec_RankOf.l0])
    | succ k1 =>
     have H := HA.out
     clear HA
     simp only [spec_RankOf.l0] at H
     by_cases c9 : x5_1 < (t173.length : Int)
     ·rw [if_pos c9] at H
      have c9b0 : decide (x5_1 < (t173.length : Int)) = true := decide_eq_true c9
      clear c9
      by_cases c10 : 0 ≤ x5_1
      ·rw [if_pos c10] at H
       have c10b0 : decide (0 ≤ x5_1) = true := decide_eq_true c10
       clear c10
       by_cases c11 : 0 ≤ (rd t173 x5_1)
       ·rw [if_pos c11] at H
        have c11b0 : decide (0 ≤ (rd t173 x5_1)) = true := decide_eq_true c11
        clear c11
        by_cases c12 : (rd t173 x5_1) < (x4_1.length : Int)
        ·rw [if_pos c12] at H
         have c12b0 : decide ((rd t173 x5_1) < (x4_1.length : Int)) = true := decide_eq_true c12
         clear c12
         obtain ⟨y180, hy180⟩ : ∃ y_ : List Int, y_ = (x4_1.set ((rd t173 x5_1) : Int).toNat x5_1) := ⟨_, rfl⟩
         replace H : (spec_RankOf.l0 k1 t173 y180 (wrap64 (x5_1 + 1))) = some r := by first | (rw [hy180]; with_reducible exact H) | (have H2_ := (Option.bind_some _ _).symm.trans H; rw [hy180]; with_reducible exact H2_) | (have H2_ := (Option.bind_some _ _).symm.trans H; with_reducible exact H2_) | with_reducible exact H | (rw [hy180]; exact H) | exact H
         have Ny180 := Aside0.mk hy180
         clear hy180
         have H' := Aside0.mk H
         clear H
         have p179 : 0 ≤ (x5_1 : Int) := od_
         have q179 : x5_1 < (t173.length : Int) := od_
         obtain ⟨ad179, e179, hx179_0⟩ := Kd.at_int (Kd.R_reads' HO_3.out).2.2 x5_1 p179 q179
         cases e179
         replace p179 := eq_true p179
         replace q179 := eq_true q179
         have p13 : 0 ≤ ((rd t173 x5_1) : Int) := od_
         have q13 : ((rd t173 x5_1) : Int) < ((x4_1.length : Int) : Int) := od_
         obtain ⟨go13, co13, eo13, gb13, gl13, cl13, HG13⟩ := Kd.R_form HO_4.out (by omega)
         (first | cases eo13 | (injection eo13 with ea_ en_ ec_; (first | subst ea_ | (injection ea_ with ea_; subst ea_)); subst ec_; clear en_))
         have GB13 := Aside0.mk gb13
         have GG13 := Aside0.mk HG13
         clear gb13 gl13 HG13
         obtain ⟨hx13_0, hf13_0⟩ := Kd.R_celln 0 HO_4.out ((rd t173 x5_1) : Int) p13 q13
         replace p13 := eq_true p13
         replace q13 := eq_true q13
         have HP14 := Kd.R_putg HO_4.out ((rd t173 x5_1) : Int) x5_1
         go_wp2_with (first | ((with_reducible refine gate_store (t := 3) (p := 23) rfl ?_); refine store_event (t := 3) (p := 23) (v := ?vo_w15) (w1 := (wr.setCell ⟨go13, ((rd t173 x5_1) : Int).toNat, none⟩ (.int .i64 x5_1))) ?hg ?ho ?hn ?hr ?_; (case ho => rfl); (case hg => rfl); (case hn => rfl); (case hr => first | (go_simp; done) | (go_simp; rfl)); intro w15 hw; have hg : wr.grownBy w15 (some go13) := (by rw [hw]; exact HP14.2); have hp_ : Kd.R (Kd.int .i64) 3 w15 w.heap.size (fun k_ => some k_ ≠ (.slice (some ad179) t173.length co6 : Value).ownBlock) (.slice (some ⟨go13, 0, none⟩) x4_1.length co13) y180 := (by rw [hw, Ny180.out]; exact HP14.1); clear HP14; replace HO_3 := Aside0.mk (Kd.R_after (v := (.slice (some ⟨go13, 0, none⟩) x4_1.length co13)) (v1 := (.slice (some ⟨go13, 0, none⟩) x4_1.length co13)) (ok := (fun _ => True)) (rx_ (Kd.R_mono HO_3.out (fun _ hk => ⟨trivial, hk⟩))) hg (.inl rfl)); replace HO_4 := Aside0.mk (hp_); replace HB := Aside0.mk ((by rw [hw]; exact below_set (HB.out) GB13.out : Below w.heap.size w w15)); clear hg hw hp_))
         go_roundg k1
         case measure => have := HK1.out; omega
         case rel => exact ⟨(y180), (wrap64 (x5_1 + 1)), eb_, H', ⟨by have := HK1.out; omega⟩, ⟨rx_ (Kd.R_mono HO_3.out (fun _ hk => hk.2))⟩, ⟨rx_ HO_4.out⟩, bl_ HB⟩
        ·rw [if_neg c12] at H
         exact absurd H (by simp)
       ·rw [if_neg c11] at H
        exact absurd H (by simp)
      ·rw [if_neg c10] at H
       exact absurd H (by simp)
     ·rw [if_neg c9] at H
      have c9b0 : decide (x5_1 < (t173.length : Int)) = false := decide_eq_false c9
      clear c9
      obtain rfl := Option.some.inj H
      go_wp2
      go_ret
      exact ⟨_, ea_, rx_ (Kd.R_mono HO_4.out (fun _ hk => trivial)), (bl_ HB).out⟩
  ·rw [if_neg c4] at H
   exact absurd H (by simp)
 ·rw [if_neg c3] at H
  exact absurd H (by simp)
end Go.Proofs.Ytelglbebffdaaaa.X
namespace Go.Proofs.Ytelglbebffdaaaa.X
open Go.RowKit Go.Proofs.YtelglbebffdaaaaW.PrintWords Go.Proofs.YtelglbebffdaaaaW.PrintLast Go.Proofs.YtelglbebffdaaaaW.PrintMore
attribute [local go_sem] max2_int min2_int max_two min_two max_three min_three max_four min_four   -- for this text's walks alone
set_option linter.unusedVariables false
set_option linter.unusedSimpArgs false
mutual
def spec_LeftLeaf.l0 : Nat → List (S53) → List Int → List Int → List Int → Int → Option (List Int)
 | 0, _, _, _, _, _ => none
 | k + 1, x0, x3, x4, x5, x6 => if x6 < (x4.length : Int) then (if 0 ≤ x6 then (spec_LeftLeaf.l1 k x0 x3 x4 x5 x6 (rd x4 x6)) else (none)) else (some x3)
def spec_LeftLeaf.l1 : Nat → List (S53) → List Int → List Int → List Int → Int → Int → Option (List Int)
 | 0, _, _, _, _, _, _ => none
 | k + 1, x0, x3, x4, x5, x6, x7 => if 0 ≤ x6 then (if x6 < (x4.length : Int) then ((spec_EndOf.f k x0 (rd x4 x6)).bind fun t192 => (if (wrap64 (x7 + 1)) < t192 then (if 0 ≤ (wrap64 (x7 + 1)) then (if (wrap64 (x7 + 1)) < (x0.length : Int) then (if 0 ≤ x7 then (if x7 < (x0.length : Int) then (if ((rd_T53 x0 (wrap64 (x7 + 1))).f1) = (wrap64 (((rd_T53 x0 x7).f1) + 1)) then (spec_LeftLeaf.l1 k x0 x3 x4 x5 x6 (wrap64 (x7 + 1))) else (if x7 < (x5.length : Int) then (if x3.length < 17592186044416 then (spec_LeftLeaf.l0 k x0 (x3 ++ [rd x5 x7]) x4 x5 (wrap64 (x6 + 1))) else (none)) else (none))) else (none)) else (none)) else (none)) else (none)) else (if 0 ≤ x7 then (if x7 < (x5.length : Int) then (if x3.length < 17592186044416 then (spec_LeftLeaf.l0 k x0 (x3 ++ [rd x5 x7]) x4 x5 (wrap64 (x6 + 1))) else (none)) else (none)) else (none)))) else (none)) else (none)
end
def spec_LeftLeaf.f (k : Nat) (l0 : List (S53)) : Option (List Int) := (spec_PostOrder.f k l0).bind fun t184 => ((spec_RankOf.f k l0).bind fun t187 => (spec_LeftLeaf.l0 k l0 (([] : List Int)) t184 t187 0))
theorem spec_LeftLeaf.mono_l : ∀ k, (∀ y0 y1 y2 y3 y4, LeO (spec_LeftLeaf.l0 k y0 y1 y2 y3 y4) (spec_LeftLeaf.l0 (k + 1) y0 y1 y2 y3 y4)) ∧ (∀ y0 y1 y2 y3 y4 y5, LeO (spec_LeftLeaf.l1 k y0 y1 y2 y3 y4 y5) (spec_LeftLeaf.l1 (k + 1) y0 y1 y2 y3 y4 y5))
 | 0 => ⟨fun _ _ _ _ _ r h => by simp [spec_LeftLeaf.l0] at h, fun _ _ _ _ _ _ r h => by simp [spec_LeftLeaf.l1] at h⟩
 | k + 1 => by
  obtain ⟨ih0, ih1⟩ := spec_LeftLeaf.mono_l k
  refine ⟨?_, ?_⟩
  ·intro y0 y1 y2 y3 y4
   unfold spec_LeftLeaf.l0
   repeat' first
   | (with_reducible exact ih0 _ _ _ _ _)
   | (with_reducible exact ih1 _ _ _ _ _ _)
   | (with_reducible exact spec_EndOf.mono _ _ _)
   | (with_reducible exact spec_PostOrder.mono _ _)
   | (with_reducible exact spec_RankOf.mono _ _)
   | (with_reducible exact LeO.refl _)
   | (with_reducible exact LeO.none _)
   | (with_reducible refine LeO.ite ?_ ?_)
   | (with_reducible refine LeO.bind ?_ (fun _ => ?_))
   | exact ih0 _ _ _ _ _
   | exact ih1 _ _ _ _ _ _
   | exact spec_EndOf.mono _ _ _
   | exact spec_PostOrder.mono _ _
   | exact spec_RankOf.mono _ _
   | exact LeO.none _
   | refine LeO.ite ?_ ?_
   | refine LeO.bind ?_ (fun _ => ?_)
  ·intro y0 y1 y2 y3 y4 y5
   unfold spec_LeftLeaf.l1
   repeat' first
   | (with_reducible exact ih0 _ _ _ _ _)
   | (with_reducible exact ih1 _ _ _ _ _ _)
   | (with_reducible exact spec_EndOf.mono _ _ _)
   | (with_reducible exact spec_PostOrder.mono _ _)
   | (with_reducible exact spec_RankOf.mono _ _)
   | (with_reducible exact LeO.refl _)
   | (with_reducible exact LeO.none _)
   | (with_reducible refine LeO.ite ?_ ?_)
   | (with_reducible refine LeO.bind ?_ (fun _ => ?_))
   | exact ih0 _ _ _ _ _
   | exact ih1 _ _ _ _ _ _
   | exact spec_EndOf.mono _ _ _
   | exact spec_PostOrder.mono _ _
   | exact spec_RankOf.mono _ _
   | exact LeO.none _
   | refine LeO.ite ?_ ?_
   | refine LeO.bind ?_ (fun _ => ?_)
theorem spec_LeftLeaf.mono : ∀ a0 k, LeO (spec_LeftLeaf.f k a0) (spec_LeftLeaf.f (k + 1) a0) := by
 intro a0 k
 obtain ⟨ih0, ih1⟩ := spec_LeftLeaf.mono_l k
 unfold spec_LeftLeaf.f
 repeat' first
   | (with_reducible exact ih0 _ _ _ _ _)
   | (with_reducible exact ih1 _ _ _ _ _ _)
   | (with_reducible exact spec_EndOf.mono _ _ _)
   | (with_reducible exact spec_PostOrder.mono _ _)
   | (with_reducible exact spec_RankOf.mono _ _)
   | (with_reducible exact LeO.refl _)
   | (with_reducible exact LeO.none _)
   | (with_reducible refine LeO.ite ?_ ?_)
   | (with_reducible refine LeO.bind ?_ (fun _ => ?_))
   | exact ih0 _ _ _ _ _
   | exact ih1 _ _ _ _ _ _
   | exact spec_EndOf.mono _ _ _
   | exact spec_PostOrder.mono _ _
   | exact spec_RankOf.mono _ _
   | exact LeO.none _
   | refine LeO.ite ?_ ?_
   | refine LeO.bind ?_ (fun _ => ?_)
def spec_LeftLeaf.T8 : Bool × List (List Nat × List Nat) := (true, [([], []), ([0], [0]), ([], []), ([], []), ([], []), ([3, 4], [3, 4]), ([5], [5]), ([2, 6], [2, 6]), ([1, 7], [1, 7]), ([8, 7], [8]), ([9], [9]), ([9], [9]), ([11, 9], [9, 11]), ([10, 12, 9], [9, 10, 12]), ([13, 9], [9, 13]), ([14, 9], [9, 14]), ([9], [9]), ([9], [9]), ([16, 17, 9], [9, 16, 17]), ([18, 9], [9, 18]), ([19, 9], [9, 19]), ([20, 9], [9, 20]), ([15, 21, 9], [9, 15, 21]), ([9, 22], [9, 22])])
def spec_LeftLeaf.B8 : List Nat := [0, 1, 0, 0, 0, 24, 56, 124, 255, 511, 1023, 1023, 3071, 8191, 16383, 32767, 1023, 1023, 197631, 459775, 984063, 2032639, 4194303, 8388607]
theorem spec_LeftLeaf.tab8 : rtab .any (opsOf Try.f48 8) = spec_LeftLeaf.T8 := by kernel_rfl
theorem spec_LeftLeaf.bits8 : waitsOk spec_LeftLeaf.T8.2 spec_LeftLeaf.B8 = true := by kernel_rfl
set_option maxHeartbeats 8000000 in
set_option maxRecDepth 100000 in
theorem spec_LeftLeaf.calls (k : Nat) (A0 : Option Addr) (c0 : Nat) (l0 : List (S53)) (r : List Int) (w : World) (hr0 : Kd.C k53 w A0 l0.length l0) (hc0 : l0.length ≤ c0) (h : spec_LeftLeaf.f k l0 = some r) :
  Calls Try.prog 48 #[.slice A0 l0.length c0] w fun e w' => ∃ v0_ : Value, e = .returned (v0_) ∧ Kd.R (Kd.int .i64) 3 w' w.heap.size (fun _ => True) v0_ r ∧ Below w.heap.size w w' := by
 have HR0 := Aside0.mk hr0
 have HC0 := Aside0.mk hc0
 clear hr0 hc0
 have HB := Aside0.mk (Below.refl w.heap.size w)
 have H : ((spec_PostOrder.f k l0).bind fun t184 => ((spec_RankOf.f k l0).bind fun t187 => (spec_LeftLeaf.l0 k l0 (([] : List Int)) t184 t187 0))) = some r := h
 clear h
 obtain ⟨y181, hy181⟩ : ∃ y_ : List Int, y_ = (([] : List Int)) := ⟨_, rfl⟩
 replace H : ((spec_PostOrder.f k l0).bind fun t184 => ((spec_RankOf.f k l0).bind fun t187 => (spec_LeftLeaf.l0 k l0 y181 t184 t187 0))) = some r := by first | (rw [hy181]; with_reducible exact H) | (have H2_ := (Option.bind_some _ _).symm.trans H; rw [hy181]; with_reducible exact H2_) | (have H2_ := (Option.bind_some _ _).symm.trans H; with_reducible exact H2_) | with_reducible exact H | (rw [hy181]; exact H) | exact H
 have Ny181 := Aside0.mk hy181
 clear hy181
 replace H := Option.bind_eq_some_iff.mp H
 obtain ⟨t184, A20, H⟩ := H
 replace H : ((spec_RankOf.f k l0).bind fun t187 => (spec_LeftLeaf.l0 k l0 y181 t184 t187 0)) = some r := H
 have A2 := Aside0.mk A20
 clear A20
 replace H := Option.bind_eq_some_iff.mp H
 obtain ⟨t187, A30, H⟩ := H
 replace H : (spec_LeftLeaf.l0 k l0 y181 t184 t187 0) = some r := H
 have A3 := Aside0.mk A30
 clear A30
 have H' := Aside0.mk H
 clear H
 go_enter Try.func48, Try.ntmps48
 go_wp2_with (first | ((with_reducible refine gate_dst (N := 8) rfl ?_); refine Kd.R_lit (Kd.int .i64) _ 3 ?hg (N := 8) ?hd (xs := ([] : List Int)) (inner := []) (ok := fun _ => True) (okp := fun _ => True) ?hr ?hp (fun _ hk => hk) trivial (Below.refl _ _) (Nat.le_refl _) (by simp) ?_; (case hd => rfl); (case hg => rfl); (case hr => first | (go_simp; done) | (go_simp; rfl)); (case hp => exact (Reps.none _ _)); intro v182 w4 ho5 hb hg_ hnew_; clear hg_ hnew_; (first | rw [← Ny181.out] at ho5 | (simp only [Int.reduceToNat] at ho5; rw [← Ny181.out] at ho5)); have HO183 := Aside0.mk (Kd.R_lower ho5 (bs_ HB)); replace HB := tB_ HB hb; clear hb ho5) | ((with_reducible refine gate_callee (f := 40) rfl ?_); refine gL_ (some 10) Try.func40 #[.slice A0 l0.length c0] ?_; (with_reducible refine (spec_PostOrder.calls k _ _ l0 t184 _ (cx_ HR0 HB) HC0.out A2.out).mono ?_); rintro e w6 ⟨v185, rfl, ho0, hb⟩; refine ⟨_, rfl, ?_⟩; have HO186 := Aside0.mk (Kd.R_lower (Kd.R_new' ho0 (Kd.R_lt (rx_ HO183.out))) (bs_ HB)); replace HO183 := Aside0.mk (Kd.R_elder' (rx_ HO183.out) (Kd.R_base ho0) hb); replace HB := tB_ HB hb; (try clear hb); (try clear ho0)) | ((with_reducible refine gate_callee (f := 78) rfl ?_); refine gL_ (some 12) Try.func78 #[.slice A0 l0.length c0] ?_; (with_reducible refine (spec_RankOf.calls k _ _ l0 t187 _ (cx_ HR0 HB) HC0.out A3.out).mono ?_); rintro e w7 ⟨v188, rfl, ho0, hb⟩; refine ⟨_, rfl, ?_⟩; have HO189 := Aside0.mk (Kd.R_lower (Kd.R_new' (Kd.R_new' ho0 (Kd.R_lt (rx_ HO183.out))) (Kd.R_lt (rx_ HO186.out))) (bs_ HB)); replace HO183 := Aside0.mk (Kd.R_elder' (rx_ HO183.out) (Kd.R_base ho0) hb); replace HO186 := Aside0.mk (Kd.R_elder' (rx_ HO186.out) (Kd.R_base ho0) hb); replace HB := tB_ HB hb; (try clear hb); (try clear ho0)))
 go_loopg [3, 6] k (fun kq v3 v6 w' => ∃ (x3_1 : List Int) (x6_1 : Int), v6 = .int .i64 x6_1 ∧ Aside0 (spec_LeftLeaf.l0 kq l0 x3_1 t184 t187 x6_1 = some r) ∧ Aside0 (kq ≤ k) ∧ Aside0 (Kd.R (Kd.int .i64) 3 w' w.heap.size (fun k_ => some k_ ≠ (v185 : Value).ownBlock ∧ some k_ ≠ (v188 : Value).ownBlock) v3 x3_1) ∧ Aside0 (Kd.R (Kd.int .i64) 3 w' w.heap.size (fun k_ => some k_ ≠ (v3 : Value).ownBlock ∧ some k_ ≠ (v188 : Value).ownBlock) v185 t184) ∧ Aside0 (Kd.R (Kd.int .i64) 3 w' w.heap.size (fun k_ => some k_ ≠ (v3 : Value).ownBlock ∧ some k_ ≠ (v185 : Value).ownBlock) v188 t187) ∧ Aside0 (Below w.heap.size w w'))
 case atStart => exact ⟨(y181), (0), eb_, H', ⟨Nat.le_refl _⟩, ⟨rx_ (Kd.R_mono HO183.out (fun _ hk => ⟨hk.1.2, hk.2⟩))⟩, ⟨rx_ (Kd.R_mono HO186.out (fun _ hk => ⟨hk.1.2, hk.2⟩))⟩, ⟨rx_ (Kd.R_mono HO189.out (fun _ hk => ⟨hk.1.2, hk.2⟩))⟩, bl_ HB⟩
 case round =>
  clear H'
  try clear p2
  try clear c4
  try clear c7
  obtain ⟨x3_1, x6_1, rfl, HA, HK1, HO_3, HO_4, HO_5, HB⟩ := hrel
  cases gk with
  | zero => exact absurd HA.out (by simp [spec_LeftLeaf.l0])
  | succ k1 =>
   have H := HA.out
   clear HA
   simp only [spec_LeftLeaf.l0] at H
   by_cases c8 : x6_1 < (t184.length : Int)
   ·rw [if_pos c8] at H
    have c8b0 : decide (x6_1 < (t184.length : Int)) = true := decide_eq_true c8
    clear c8
    by_cases c9 : 0 ≤ x6_1
    ·rw [if_pos c9] at H
     have c9b0 : decide (0 ≤ x6_1) = true := decide_eq_true c9
     clear c9
     have H' := Aside0.mk H
     clear H
     obtain ⟨Ao10, co10, eo10⟩ := Kd.R_slice HO_4.out
     subst eo10
     have p190 : 0 ≤ (x6_1 : Int) := od_
     have q190 : x6_1 < (t184.length : Int) := od_
     obtain ⟨ad190, e190, hx190_0⟩ := Kd.at_int (Kd.R_reads' HO_4.out).2.2 x6_1 p190 q190
     cases e190
     replace p190 := eq_true p190
     replace q190 := eq_true q190
     go_wp2
     go_loopg [7] k1 (fun kq v7 w' => ∃ (x7_2 : Int), v7 = .int .i64 x7_2 ∧ Aside0 (spec_LeftLeaf.l1 kq l0 x3_1 t184 t187 x6_1 x7_2 = some r) ∧ Aside0 (kq ≤ k1) ∧ Aside0 (Kd.R (Kd.int .i64) 3 w' w.heap.size (fun k_ => some k_ ≠ ((.slice (some ad190) t184.length co10) : Value).ownBlock ∧ some k_ ≠ (v188 : Value).ownBlock) u3 x3_1) ∧ Aside0 (Kd.R (Kd.int .i64) 3 w' w.heap.size (fun k_ => some k_ ≠ (u3 : Value).ownBlock ∧ some k_ ≠ (v188 : Value).ownBlock) (.slice (some ad190) t184.length co10) t184) ∧ Aside0 (Kd.R (Kd.int .i64) 3 w' w.heap.size (fun k_ => some k_ ≠ (u3 : Value).ownBlock ∧ some k_ ≠ ((.slice (some ad190) t184.length co10) : Value).ownBlock) v188 t187) ∧ Aside0 (Below w.heap.size w w'))
     case atStart => exact ⟨(rd t184 x6_1), eb_, H', ⟨Nat.le_refl _⟩, ⟨rx_ HO_3.out⟩, ⟨rx_ HO_4.out⟩, ⟨rx_ HO_5.out⟩, bl_ HB⟩
     case round =>
      clear H'
      try clear p1
      try clear q1
      try clear hx1
      try clear p2
      try clear c4
      try clear c7
      try clear c8
      try clear c8b0
      try clear c9
      try clear c9b0
      try clear hx190_0
      try clear p190
      try clear p2
      try clear q190
      obtain ⟨x7_2, rfl, HA, HK2, HO_3, HO_4, HO_5, HB⟩ := hrel
      cases gk with
      | zero => exact absurd HA.out (by simp [spec_LeftLeaf.l1])
      | succ k2 =>
       have H := HA.out
       clear HA
       simp only [spec_LeftLeaf.l1] at H
       by_cases c11 : 0 ≤ x6_1
       ·rw [if_pos c11] at H
        have c11b0 : decide (0 ≤ x6_1) = true := decide_eq_true c11
        clear c11
        by_cases c12 : x6_1 < (t184.length : Int)
        ·rw [if_pos c12] at H
         have c12b0 : decide (x6_1 < (t184.length : Int)) = true := decide_eq_true c12
         clear c12
         replace H := Option.bind_eq_some_iff.mp H
         obtain ⟨t192, A130, H⟩ := H
         try dsimp only at H
         have A13 := Aside0.mk A130
         clear A130
         by_cases c14 : (wrap64 (x7_2 + 1)) < t192
         ·rw [if_pos c14] at H
          have c14b0 : decide ((wrap64 (x7_2 + 1)) < t192) = true := decide_eq_true c14
          clear c14
          obtain ⟨ji15, hji15⟩ : ∃ j_ : Int, (wrap64 (x7_2 + 1)) = j_ := ⟨_, rfl⟩
          replace H : (if 0 ≤ (ji15) then (if (ji15) < (l0.length : Int) then (if 0 ≤ x7_2 then (if x7_2 < (l0.length : Int) then (if ((rd_T53 l0 (ji15)).f1) = (wrap64 (((rd_T53 l0 x7_2).f1) + 1)) then (spec_LeftLeaf.l1 k2 l0 x3_1 t184 t187 x6_1 ji15) else (if x7_2 < (t187.length : Int) then (if x3_1.length < 17592186044416 then (spec_LeftLeaf.l0 k2 l0 (x3_1 ++ [rd t187 x7_2]) t184 t187 (wrap64 (x6_1 + 1))) else (none)) else (none))) else (none)) else (none)) else (none)) else (none)) = some r := by first | (rw [hji15] at H; exact H) | (simp only [hji15] at H ⊢; exact H)
          (try rw [hji15] at c14b0)
          (try rw [hji15] at A13)
          have hji15w : (IntKind.i64.wrap (x7_2 + 1)) = ji15 := (i64_w _).trans hji15
          by_cases c16 : 0 ≤ (ji15)
          ·rw [if_pos c16] at H
           have c16b0 : decide (0 ≤ (ji15)) = true := decide_eq_true c16
           clear c16
           by_cases c17 : (ji15) < (l0.length : Int)
           ·rw [if_pos c17] at H
            have c17b0 : decide ((ji15) < (l0.length : Int)) = true := decide_eq_true c17
            clear c17
            by_cases c18 : 0 ≤ x7_2
            ·rw [if_pos c18] at H
             have c18b0 : decide (0 ≤ x7_2) = true := decide_eq_true c18
             clear c18
             by_cases c19 : x7_2 < (l0.length : Int)
             ·rw [if_pos c19] at H
              have c19b0 : decide (x7_2 < (l0.length : Int)) = true := decide_eq_true c19
              clear c19
              by_cases c20 : ((rd_T53 l0 (ji15)).f1) = (wrap64 (((rd_T53 l0 x7_2).f1) + 1))
              ·rw [if_pos c20] at H
               have c20b0 : (((rd_T53 l0 (ji15)).f1) == (wrap64 (((rd_T53 l0 x7_2).f1) + 1))) = true := beq_iff_eq.mpr c20
               have c20b1 : (((rd_T53 l0 (ji15)).f1) != (wrap64 (((rd_T53 l0 x7_2).f1) + 1))) = false := bne_eq_false_iff_eq.mpr c20
               clear c20
               have H' := Aside0.mk H
               clear H
               try go_wp2
               have n0_ := Aside0.mk (Kd.R_drew HO_3.out)
               have n1_ := Aside0.mk (Kd.R_drew HO_4.out)
               have n2_ := Aside0.mk (Kd.R_drew HO_5.out)
               have n3_ := Aside0.mk (below_drew1 HB.out)
               clear HO_3
               clear HO_4
               clear HO_5
               clear HB
               have HO_3 := n0_
               have HO_4 := n1_
               have HO_5 := n2_
               have HB := n3_
               clear n0_ n1_ n2_ n3_
               have p191 : 0 ≤ (x6_1 : Int) := od_
               have q191 : x6_1 < (t184.length : Int) := od_
               obtain ⟨ad191, e191, hx191_0⟩ := Kd.at_int (Kd.R_reads' HO_4.out).2.2 x6_1 p191 q191
               obtain rfl : ad190 = ad191 := (by injection e191)
               replace p191 := eq_true p191
               replace q191 := eq_true q191
               have p193 : 0 ≤ ((ji15) : Int) := od_
               have q193 : (ji15) < (l0.length : Int) := od_
               obtain ⟨ad193, e193, hx193_0, hx193_1⟩ := at_T53 HR0.out (ji15) p193 q193
               have hw193_1 := hx193_1
               have hw193_0 := hx193_0
               cases e193
               replace hx193_0 := ce_ HB hx193_0
               replace hx193_1 := ce_ HB hx193_1
               replace p193 := eq_true p193
               replace q193 := eq_true q193
               have p194 : 0 ≤ (x7_2 : Int) := od_
               have q194 : x7_2 < (l0.length : Int) := od_
               obtain ⟨ad194, e194, hx194_0, hx194_1⟩ := at_T53 HR0.out x7_2 p194 q194
               have hw194_1 := hx194_1
               have hw194_0 := hx194_0
               obtain rfl : ad193 = ad194 := (by injection e194)
               replace hx194_0 := ce_ HB hx194_0
               replace hx194_1 := ce_ HB hx194_1
               replace p194 := eq_true p194
               replace q194 := eq_true q194
               refine start_ (n := 24) (S := fun w' => w'.cell? (ad190.add (x6_1).toNat) = some (.int .i64 (rd t184 x6_1)) ∧ w'.cell? (ad193.add (((ji15)).toNat * 2)) = some (.int .i64 ((rd_T53 l0 (ji15)).f0)) ∧ w'.cell? ⟨(ad193.add (((ji15)).toNat * 2)).block, (ad193.add (((ji15)).toNat * 2)).off + 1, none⟩ = some (.int .i64 ((rd_T53 l0 (ji15)).f1)) ∧ w'.cell? (ad193.add ((x7_2).toNat * 2)) = some (.int .i64 ((rd_T53 l0 x7_2).f0)) ∧ w'.cell? ⟨(ad193.add ((x7_2).toNat * 2)).block, (ad193.add ((x7_2).toNat * 2)).off + 1, none⟩ = some (.int .i64 ((rd_T53 l0 x7_2).f1))) (ds := []) (ba_ 24 0) (by kernel_rfl) rfl rfl ⟨hx191_0, (ce_ HB hw193_0), (ce_ HB hw193_1), (ce_ HB hw194_0), (ce_ HB hw194_1)⟩ (fun hHeld => ?_); refine with_tabW spec_LeftLeaf.tab8 spec_LeftLeaf.bits8 (fun HT_ HW_ => ?_)
               generalize wr.drew = w21 at HO_3 HO_4 HO_5 HB hx191_0 hx193_0 hx193_1 hx194_0 hx194_1 hHeld ⊢
               refine pu_ 0 (some 23) (ba_ 24 1) rfl rfl (any_of HT_.out (by kernel_rfl)) ?_
               refine pu_ 1 (some 24) (ba_ 24 3) rfl rfl (any_of HT_.out (by kernel_rfl)) ?_
               refine pu_ 2 (some 25) (ba_ 24 7) rfl rfl (any_of HT_.out (by kernel_rfl)) ?_
               refine pu_ 3 (some 26) (ba_ 24 15) rfl rfl (any_of HT_.out (by kernel_rfl)) ?_
               refine pu_ 4 (some 27) (ba_ 24 31) rfl rfl (any_of HT_.out (by kernel_rfl)) ?_
               refine pu_ 5 (some 28) (ba_ 24 63) rfl rfl (any_of HT_.out (by kernel_rfl)) ?_
               refine ta_ 6 (some 29) (ba_ 24 127) rfl rfl (take_ofW HT_.out HW_.out (by kernel_rfl)) hHeld (by rintro w' ⟨s0, s1, s2, s3, s4⟩; go_simp; with_reducible rfl) ?_
               refine one_ (i := 7) (N := some 30) (ba_ 24 255) rfl rfl (one_of HT_.out (by kernel_rfl)) (by decide) (fun K hK => ?_)
               refine goes_ Try.func79 (by kernel_rfl) rfl #[.slice (some ad193) l0.length c0, .int .i64 (rd t184 x6_1)] (by rfl) rfl rfl (by (try simp only [List.map_toArray, List.map_cons, List.map_nil]); first | done | rfl | (simp only [List.length_drop, List.length_take]; rfl)) ?_
               with_reducible refine (spec_EndOf.calls k2 _ _ l0 (rd t184 x6_1) t192 _ ?side1 ?side2 A13.out).mono ?_
               (case side1 => exact cx_ HR0 HB)
               (case side2 => exact HC0.out)
               rintro e w22 ⟨rfl, hb⟩
               have HS0_ := (hb.cell (World.block_lt_of_cell? _ _ (hHeld.1))).trans (hHeld.1)
               refine ⟨_, rfl, ?_⟩
               have n0_ := tR_ HO_3 hb
               have n1_ := tR_ HO_4 hb
               have n2_ := tR_ HO_5 hb
               have n3_ := tB_ HB hb
               clear HO_3
               clear HO_4
               clear HO_5
               clear HB
               have HO_3 := n0_
               have HO_4 := n1_
               have HO_5 := n2_
               have HB := n3_
               clear n0_ n1_ n2_ n3_
               (try clear hb)
               (try clear hb2)
               (try clear hk)
               (try clear hi)
               refine hK.out _ _ ⟨HS0_, (ce_ HB hw193_0), (ce_ HB hw193_1), (ce_ HB hw194_0), (ce_ HB hw194_1)⟩ (fun hHeld => ?_)
               clear hK K
               refine norm_ (a' := ?_) ?_ ?_
               rotate_left
               ·show Act.put _ (some 30) _ = _
                simp only [Act.put, List.setIfInBounds_toArray, List.set_cons_zero, List.set_cons_succ, i64_w, i32_w]
                rfl
               refine pu_ 8 (some 31) (ba_ 24 511) rfl rfl (any_of HT_.out (by kernel_rfl)) ?_
               refine pu_ 9 (some 32) (ba_ 24 1023) rfl rfl (any_of HT_.out (by kernel_rfl)) ?_
               refine pu_ 10 (some 33) (ba_ 24 2047) rfl rfl (any_of HT_.out (by kernel_rfl)) ?_
               refine pu_ 11 (some 34) (ba_ 24 4095) rfl rfl (any_of HT_.out (by kernel_rfl)) ?_
               refine pu_ 12 (some 35) (ba_ 24 8191) rfl rfl (any_of HT_.out (by kernel_rfl)) ?_
               refine pu_ 13 (some 36) (ba_ 24 16383) rfl rfl (any_of HT_.out (by kernel_rfl)) ?_
               refine pu_ 14 (some 37) (ba_ 24 32767) rfl rfl (any_of HT_.out (by kernel_rfl)) ?_
               refine pu_ 16 (some 39) (ba_ 24 98303) rfl rfl (any_of HT_.out (by kernel_rfl)) ?_
               refine pu_ 17 (some 40) (ba_ 24 229375) rfl rfl (any_of HT_.out (by kernel_rfl)) ?_
               refine pu_ 18 (some 41) (ba_ 24 491519) rfl rfl (any_of HT_.out (by kernel_rfl)) ?_
               refine pu_ 19 (some 42) (ba_ 24 1015807) rfl rfl (any_of HT_.out (by kernel_rfl)) ?_
               refine ta_ 15 (some 38) (ba_ 24 1048575) rfl rfl (take_ofW HT_.out HW_.out (by kernel_rfl)) hHeld (by rintro w' ⟨s0, s1, s2, s3, s4⟩; go_simp; with_reducible rfl) ?_
               refine ta_ 20 (some 43) (ba_ 24 2097151) rfl rfl (take_ofW HT_.out HW_.out (by kernel_rfl)) hHeld (by rintro w' ⟨s0, s1, s2, s3, s4⟩; go_simp; with_reducible rfl) ?_
               refine pu_ 21 (some 44) (ba_ 24 4194303) rfl rfl (any_of HT_.out (by kernel_rfl)) ?_
               refine pu_ 22 (some 45) (ba_ 24 8388607) rfl rfl (any_of HT_.out (by kernel_rfl)) ?_
               refine pu_ 23 (some 46) (ba_ 24 16777215) rfl rfl (any_of HT_.out (by kernel_rfl)) ?_
               refine done_ (done_of HT_.out (by kernel_rfl)) ?_
               try go_wp2
               go_roundg k2
               case measure => have := HK1.out; have := HK2.out; omega
               case rel => exact ⟨(ji15), (by first | rfl | (simp; done) | (simp only [← hji15] <;> (first | rfl | simp)) | (simp [*]; done)), H', ⟨by have := HK1.out; have := HK2.out; omega⟩, ⟨rx_ HO_3.out⟩, ⟨rx_ HO_4.out⟩, ⟨rx_ HO_5.out⟩, bl_ HB⟩
              ·rw [if_neg c20] at H
               have c20b0 : (((rd_T53 l0 (ji15)).f1) == (wrap64 (((rd_T53 l0 x7_2).f1) + 1))) = false := beq_eq_false_iff_ne.mpr c20
               have c20b1 : (((rd_T53 l0 (ji15)).f1) != (wrap64 (((rd_T53 l0 x7_2).f1) + 1))) = true := bne_iff_ne.mpr c20
               by_cases c23 : x7_2 < (t187.length : Int)
               ·rw [if_pos c23] at H
                have c23b0 : decide (x7_2 < (t187.length : Int)) = true := decide_eq_true c23
                clear c23
                by_cases c24 : x3_1.length < 17592186044416
                ·rw [if_pos c24] at H
                 have LMc24 := Aside0.mk c24
                 clear c24
                 obtain ⟨y196, hy196⟩ : ∃ y_ : List Int, y_ = (x3_1 ++ [rd t187 x7_2]) := ⟨_, rfl⟩
                 replace H : (spec_LeftLeaf.l0 k2 l0 y196 t184 t187 (wrap64 (x6_1 + 1))) = some r := by first | (rw [hy196]; with_reducible exact H) | (have H2_ := (Option.bind_some _ _).symm.trans H; rw [hy196]; with_reducible exact H2_) | (have H2_ := (Option.bind_some _ _).symm.trans H; with_reducible exact H2_) | with_reducible exact H | (rw [hy196]; exact H) | exact H
                 have Ny196 := Aside0.mk hy196
                 clear hy196
                 have H' := Aside0.mk H
                 clear H
                 try go_wp2
                 have n0_ := Aside0.mk (Kd.R_drew HO_3.out)
                 have n1_ := Aside0.mk (Kd.R_drew HO_4.out)
                 have n2_ := Aside0.mk (Kd.R_drew HO_5.out)
                 have n3_ := Aside0.mk (below_drew1 HB.out)
                 clear HO_3
                 clear HO_4
                 clear HO_5
                 clear HB
                 have HO_3 := n0_
                 have HO_4 := n1_
                 have HO_5 := n2_
                 have HB := n3_
                 clear n0_ n1_ n2_ n3_
                 have p191 : 0 ≤ (x6_1 : Int) := od_
                 have q191 : x6_1 < (t184.length : Int) := od_
                 obtain ⟨ad191, e191, hx191_0⟩ := Kd.at_int (Kd.R_reads' HO_4.out).2.2 x6_1 p191 q191
                 obtain rfl : ad190 = ad191 := (by injection e191)
                 replace p191 := eq_true p191
                 replace q191 := eq_true q191
                 have p193 : 0 ≤ ((ji15) : Int) := od_
                 have q193 : (ji15) < (l0.length : Int) := od_
                 obtain ⟨ad193, e193, hx193_0, hx193_1⟩ := at_T53 HR0.out (ji15) p193 q193
                 have hw193_1 := hx193_1
                 have hw193_0 := hx193_0
                 cases e193
                 replace hx193_0 := ce_ HB hx193_0
                 replace hx193_1 := ce_ HB hx193_1
                 replace p193 := eq_true p193
                 replace q193 := eq_true q193
                 have p194 : 0 ≤ (x7_2 : Int) := od_
                 have q194 : x7_2 < (l0.length : Int) := od_
                 obtain ⟨ad194, e194, hx194_0, hx194_1⟩ := at_T53 HR0.out x7_2 p194 q194
                 have hw194_1 := hx194_1
                 have hw194_0 := hx194_0
                 obtain rfl : ad193 = ad194 := (by injection e194)
                 replace hx194_0 := ce_ HB hx194_0
                 replace hx194_1 := ce_ HB hx194_1
                 replace p194 := eq_true p194
                 replace q194 := eq_true q194
                 refine start_ (n := 24) (S := fun w' => w'.cell? (ad190.add (x6_1).toNat) = some (.int .i64 (rd t184 x6_1)) ∧ w'.cell? (ad193.add (((ji15)).toNat * 2)) = some (.int .i64 ((rd_T53 l0 (ji15)).f0)) ∧ w'.cell? ⟨(ad193.add (((ji15)).toNat * 2)).block, (ad193.add (((ji15)).toNat * 2)).off + 1, none⟩ = some (.int .i64 ((rd_T53 l0 (ji15)).f1)) ∧ w'.cell? (ad193.add ((x7_2).toNat * 2)) = some (.int .i64 ((rd_T53 l0 x7_2).f0)) ∧ w'.cell? ⟨(ad193.add ((x7_2).toNat * 2)).block, (ad193.add ((x7_2).toNat * 2)).off + 1, none⟩ = some (.int .i64 ((rd_T53 l0 x7_2).f1))) (ds := []) (ba_ 24 0) (by kernel_rfl) rfl rfl ⟨hx191_0, (ce_ HB hw193_0), (ce_ HB hw193_1), (ce_ HB hw194_0), (ce_ HB hw194_1)⟩ (fun hHeld => ?_); refine with_tabW spec_LeftLeaf.tab8 spec_LeftLeaf.bits8 (fun HT_ HW_ => ?_)
                 generalize wr.drew = w25 at HO_3 HO_4 HO_5 HB hx191_0 hx193_0 hx193_1 hx194_0 hx194_1 hHeld ⊢
                 refine pu_ 0 (some 23) (ba_ 24 1) rfl rfl (any_of HT_.out (by kernel_rfl)) ?_
                 refine pu_ 1 (some 24) (ba_ 24 3) rfl rfl (any_of HT_.out (by kernel_rfl)) ?_
                 refine pu_ 2 (some 25) (ba_ 24 7) rfl rfl (any_of HT_.out (by kernel_rfl)) ?_
                 refine pu_ 3 (some 26) (ba_ 24 15) rfl rfl (any_of HT_.out (by kernel_rfl)) ?_
                 refine pu_ 4 (some 27) (ba_ 24 31) rfl rfl (any_of HT_.out (by kernel_rfl)) ?_
                 refine pu_ 5 (some 28) (ba_ 24 63) rfl rfl (any_of HT_.out (by kernel_rfl)) ?_
                 refine ta_ 6 (some 29) (ba_ 24 127) rfl rfl (take_ofW HT_.out HW_.out (by kernel_rfl)) hHeld (by rintro w' ⟨s0, s1, s2, s3, s4⟩; go_simp; with_reducible rfl) ?_
                 refine one_ (i := 7) (N := some 30) (ba_ 24 255) rfl rfl (one_of HT_.out (by kernel_rfl)) (by decide) (fun K hK => ?_)
                 refine goes_ Try.func79 (by kernel_rfl) rfl #[.slice (some ad193) l0.length c0, .int .i64 (rd t184 x6_1)] (by rfl) rfl rfl (by (try simp only [List.map_toArray, List.map_cons, List.map_nil]); first | done | rfl | (simp only [List.length_drop, List.length_take]; rfl)) ?_
                 with_reducible refine (spec_EndOf.calls k2 _ _ l0 (rd t184 x6_1) t192 _ ?side1 ?side2 A13.out).mono ?_
                 (case side1 => exact cx_ HR0 HB)
                 (case side2 => exact HC0.out)
                 rintro e w26 ⟨rfl, hb⟩
                 have HS0_ := (hb.cell (World.block_lt_of_cell? _ _ (hHeld.1))).trans (hHeld.1)
                 refine ⟨_, rfl, ?_⟩
                 have n0_ := tR_ HO_3 hb
                 have n1_ := tR_ HO_4 hb
                 have n2_ := tR_ HO_5 hb
                 have n3_ := tB_ HB hb
                 clear HO_3
                 clear HO_4
                 clear HO_5
                 clear HB
                 have HO_3 := n0_
                 have HO_4 := n1_
                 have HO_5 := n2_
                 have HB := n3_
                 clear n0_ n1_ n2_ n3_
                 (try clear hb)
                 (try clear hb2)
                 (try clear hk)
                 (try clear hi)
                 refine hK.out _ _ ⟨HS0_, (ce_ HB hw193_0), (ce_ HB hw193_1), (ce_ HB hw194_0), (ce_ HB hw194_1)⟩ (fun hHeld => ?_)
                 clear hK K
                 refine norm_ (a' := ?_) ?_ ?_
                 rotate_left
                 ·show Act.put _ (some 30) _ = _
                  simp only [Act.put, List.setIfInBounds_toArray, List.set_cons_zero, List.set_cons_succ, i64_w, i32_w]
                  rfl
                 refine pu_ 8 (some 31) (ba_ 24 511) rfl rfl (any_of HT_.out (by kernel_rfl)) ?_
                 refine pu_ 9 (some 32) (ba_ 24 1023) rfl rfl (any_of HT_.out (by kernel_rfl)) ?_
                 refine pu_ 10 (some 33) (ba_ 24 2047) rfl rfl (any_of HT_.out (by kernel_rfl)) ?_
                 refine pu_ 11 (some 34) (ba_ 24 4095) rfl rfl (any_of HT_.out (by kernel_rfl)) ?_
                 refine pu_ 12 (some 35) (ba_ 24 8191) rfl rfl (any_of HT_.out (by kernel_rfl)) ?_
                 refine pu_ 13 (some 36) (ba_ 24 16383) rfl rfl (any_of HT_.out (by kernel_rfl)) ?_
                 refine pu_ 14 (some 37) (ba_ 24 32767) rfl rfl (any_of HT_.out (by kernel_rfl)) ?_
                 refine pu_ 16 (some 39) (ba_ 24 98303) rfl rfl (any_of HT_.out (by kernel_rfl)) ?_
                 refine pu_ 17 (some 40) (ba_ 24 229375) rfl rfl (any_of HT_.out (by kernel_rfl)) ?_
                 refine pu_ 18 (some 41) (ba_ 24 491519) rfl rfl (any_of HT_.out (by kernel_rfl)) ?_
                 refine pu_ 19 (some 42) (ba_ 24 1015807) rfl rfl (any_of HT_.out (by kernel_rfl)) ?_
                 refine ta_ 15 (some 38) (ba_ 24 1048575) rfl rfl (take_ofW HT_.out HW_.out (by kernel_rfl)) hHeld (by rintro w' ⟨s0, s1, s2, s3, s4⟩; go_simp; with_reducible rfl) ?_
                 refine ta_ 20 (some 43) (ba_ 24 2097151) rfl rfl (take_ofW HT_.out HW_.out (by kernel_rfl)) hHeld (by rintro w' ⟨s0, s1, s2, s3, s4⟩; go_simp; with_reducible rfl) ?_
                 refine pu_ 21 (some 44) (ba_ 24 4194303) rfl rfl (any_of HT_.out (by kernel_rfl)) ?_
                 refine pu_ 22 (some 45) (ba_ 24 8388607) rfl rfl (any_of HT_.out (by kernel_rfl)) ?_
                 refine pu_ 23 (some 46) (ba_ 24 16777215) rfl rfl (any_of HT_.out (by kernel_rfl)) ?_
                 refine done_ (done_of HT_.out (by kernel_rfl)) ?_
                 obtain ⟨Ao27, co27, eo27⟩ := Kd.R_slice HO_5.out
                 subst eo27
                 have p195 : 0 ≤ (x7_2 : Int) := od_
                 have q195 : x7_2 < (t187.length : Int) := od_
                 obtain ⟨ad195, e195, hx195_0⟩ := Kd.at_int (Kd.R_reads' HO_5.out).2.2 x7_2 p195 q195
                 cases e195
                 replace p195 := eq_true p195
                 replace q195 := eq_true q195
                 try go_wp2_with (first | ((with_reducible refine gate_builtin (b := .append) (xs := #[.tmp 49, .tmp 54]) rfl ?_); at_builtin; refine Kd.R_append (Kd.int .i64) (w0 := w) w.heap.size rfl (.tmp 49) (.tmp 54) 23 3 (.int .i64 0) 8 rfl Try.underlying23 info3 rfl (by decide) (by omega) u3 x3_1 (rd t187 x7_2) [.int .i64 (rd t187 x7_2)] (fun k_ => some k_ ≠ (.slice (some ad190) t184.length co10 : Value).ownBlock ∧ some k_ ≠ (.slice (some ad195) t187.length co27 : Value).ownBlock) (fun _ => False) rfl rfl ?aP (fun _ hk => hk.elim) ?aF ?aO ?aB ?aS ?aL ?_; (case aP => exact rfl); (case aB => exact ((bl_ HB).out)); (case aF => exact (fun k_ hk => ⟨Kd.fresh' (Kd.R_lt (rx_ HO_4.out)) k_ hk, Kd.fresh' (Kd.R_lt (rx_ HO_5.out)) k_ hk⟩)); (case aO => exact (rx_ HO_3.out)); (case aS => exact (bs_ HB)); (case aL => have := LMc24.out; omega); intro v197 w28 ho hb hg hat; rw [← Ny196.out] at ho; replace HO_4 := Aside0.mk (Kd.R_after (ok := (fun k_ => some k_ ≠ (.slice (some ad195) t187.length co27 : Value).ownBlock)) (rx_ (Kd.R_mono HO_4.out (fun _ hk => ⟨hk.2, hk.1⟩))) hg hat); replace HO_5 := Aside0.mk (Kd.R_after (ok := (fun k_ => some k_ ≠ (.slice (some ad190) t184.length co10 : Value).ownBlock)) (rx_ (Kd.R_mono HO_5.out (fun _ hk => ⟨hk.2, hk.1⟩))) hg hat); replace HB := Aside0.mk (hb); have HO198 := Aside0.mk (ho); clear HO_3; clear ho hb hg hat))
                 go_roundg k2
                 case measure => have := HK1.out; have := HK2.out; omega
                 case rel => exact ⟨(y196), (wrap64 (x6_1 + 1)), eb_, H', ⟨by have := HK1.out; have := HK2.out; omega⟩, ⟨rx_ HO198.out⟩, ⟨rx_ (Kd.R_mono HO_4.out (fun _ hk => ⟨hk.2, hk.1⟩))⟩, ⟨rx_ (Kd.R_mono HO_5.out (fun _ hk => ⟨hk.2, hk.1⟩))⟩, bl_ HB⟩
                ·rw [if_neg c24] at H
                 exact absurd H (by simp)
               ·rw [if_neg c23] at H
                exact absurd H (by simp)
             ·rw [if_neg c19] at H
              exact absurd H (by simp)
            ·rw [if_neg c18] at H
             exact absurd H (by simp)
           ·rw [if_neg c17] at H
            exact absurd H (by simp)
          ·rw [if_neg c16] at H
           exact absurd H (by simp)
         ·rw [if_neg c14] at H
          have c14b0 : decide ((wrap64 (x7_2 + 1)) < t192) = false := decide_eq_false c14
          clear c14
          by_cases c29 : 0 ≤ x7_2
          ·rw [if_pos c29] at H
           have c29b0 : decide (0 ≤ x7_2) = true := decide_eq_true c29
           clear c29
           by_cases c30 : x7_2 < (t187.length : Int)
           ·rw [if_pos c30] at H
            have c30b0 : decide (x7_2 < (t187.length : Int)) = true := decide_eq_true c30
            clear c30
            by_cases c31 : x3_1.length < 17592186044416
            ·rw [if_pos c31] at H
             have LMc31 := Aside0.mk c31
             clear c31
             obtain ⟨y200, hy200⟩ : ∃ y_ : List Int, y_ = (x3_1 ++ [rd t187 x7_2]) := ⟨_, rfl⟩
             replace H : (spec_LeftLeaf.l0 k2 l0 y200 t184 t187 (wrap64 (x6_1 + 1))) = some r := by first | (rw [hy200]; with_reducible exact H) | (have H2_ := (Option.bind_some _ _).symm.trans H; rw [hy200]; with_reducible exact H2_) | (have H2_ := (Option.bind_some _ _).symm.trans H; with_reducible exact H2_) | with_reducible exact H | (rw [hy200]; exact H) | exact H
             have Ny200 := Aside0.mk hy200
             clear hy200
             have H' := Aside0.mk H
             clear H
             try go_wp2
             have n0_ := Aside0.mk (Kd.R_drew HO_3.out)
             have n1_ := Aside0.mk (Kd.R_drew HO_4.out)
             have n2_ := Aside0.mk (Kd.R_drew HO_5.out)
             have n3_ := Aside0.mk (below_drew1 HB.out)
             clear HO_3
             clear HO_4
             clear HO_5
             clear HB
             have HO_3 := n0_
             have HO_4 := n1_
             have HO_5 := n2_
             have HB := n3_
             clear n0_ n1_ n2_ n3_
             have p191 : 0 ≤ (x6_1 : Int) := od_
             have q191 : x6_1 < (t184.length : Int) := od_
             obtain ⟨ad191, e191, hx191_0⟩ := Kd.at_int (Kd.R_reads' HO_4.out).2.2 x6_1 p191 q191
             obtain rfl : ad190 = ad191 := (by injection e191)
             replace p191 := eq_true p191
             replace q191 := eq_true q191
             refine start_ (n := 24) (S := fun w' => w'.cell? (ad190.add (x6_1).toNat) = some (.int .i64 (rd t184 x6_1))) (ds := []) (ba_ 24 0) (by kernel_rfl) rfl rfl (hx191_0) (fun hHeld => ?_); refine with_tabW spec_LeftLeaf.tab8 spec_LeftLeaf.bits8 (fun HT_ HW_ => ?_)
             generalize wr.drew = w32 at HO_3 HO_4 HO_5 HB hx191_0 hHeld ⊢
             refine pu_ 0 (some 23) (ba_ 24 1) rfl rfl (any_of HT_.out (by kernel_rfl)) ?_
             refine pu_ 1 (some 24) (ba_ 24 3) rfl rfl (any_of HT_.out (by kernel_rfl)) ?_
             refine pu_ 2 (some 25) (ba_ 24 7) rfl rfl (any_of HT_.out (by kernel_rfl)) ?_
             refine pu_ 3 (some 26) (ba_ 24 15) rfl rfl (any_of HT_.out (by kernel_rfl)) ?_
             refine pu_ 4 (some 27) (ba_ 24 31) rfl rfl (any_of HT_.out (by kernel_rfl)) ?_
             refine pu_ 5 (some 28) (ba_ 24 63) rfl rfl (any_of HT_.out (by kernel_rfl)) ?_
             refine take_ (i := 6) (N := some 29) (v := ?_) (a' := ?_) (ba_ 24 127) rfl rfl (take_ofW HT_.out HW_.out (by kernel_rfl)) (fun _ _ _ h => h) (Or.inl ⟨by rfl, ?_⟩) hHeld ?_ ?_
             rotate_left
             ·intro w' s0
              go_simp
              with_reducible rfl
             rotate_left
             ·simp only [Act.put, List.setIfInBounds_toArray, List.set_cons_zero, List.set_cons_succ, i64_w, i32_w]
              rfl
             refine one_ (i := 7) (N := some 30) (ba_ 24 255) rfl rfl (one_of HT_.out (by kernel_rfl)) (by decide) (fun K hK => ?_)
             refine goes_ Try.func79 (by kernel_rfl) rfl #[.slice A0 l0.length c0, .int .i64 (rd t184 x6_1)] (by rfl) rfl rfl (by (try simp only [List.map_toArray, List.map_cons, List.map_nil]); first | done | rfl | (simp only [List.length_drop, List.length_take]; rfl)) ?_
             with_reducible refine (spec_EndOf.calls k2 _ _ l0 (rd t184 x6_1) t192 _ ?side1 ?side2 A13.out).mono ?_
             (case side1 => exact cx_ HR0 HB)
             (case side2 => exact HC0.out)
             rintro e w33 ⟨rfl, hb⟩
             have HS0_ := (hb.cell (World.block_lt_of_cell? _ _ (hHeld))).trans (hHeld)
             refine ⟨_, rfl, ?_⟩
             have n0_ := tR_ HO_3 hb
             have n1_ := tR_ HO_4 hb
             have n2_ := tR_ HO_5 hb
             have n3_ := tB_ HB hb
             clear HO_3
             clear HO_4
             clear HO_5
             clear HB
             have HO_3 := n0_
             have HO_4 := n1_
             have HO_5 := n2_
             have HB := n3_
             clear n0_ n1_ n2_ n3_
             (try clear hb)
             (try clear hb2)
             (try clear hk)
             (try clear hi)
             refine hK.out _ _ (HS0_) (fun hHeld => ?_)
             clear hK K
             refine norm_ (a' := ?_) ?_ ?_
             rotate_left
             ·show Act.put _ (some 30) _ = _
              simp only [Act.put, List.setIfInBounds_toArray, List.set_cons_zero, List.set_cons_succ, i64_w, i32_w]
              rfl
             refine pu_ 8 (some 31) (ba_ 24 511) rfl rfl (any_of HT_.out (by kernel_rfl)) ?_
             refine pu_ 9 (some 32) (ba_ 24 1023) rfl rfl (any_of HT_.out (by kernel_rfl)) ?_
             refine pn_ 10 (some 33) (ba_ 24 2047) rfl rfl (any_of HT_.out (by kernel_rfl)) ?_
             refine pn_ 11 (some 34) (ba_ 24 4095) rfl rfl (any_of HT_.out (by kernel_rfl)) ?_
             refine pn_ 12 (some 35) (ba_ 24 8191) rfl rfl (any_of HT_.out (by kernel_rfl)) ?_
             refine pn_ 13 (some 36) (ba_ 24 16383) rfl rfl (any_of HT_.out (by kernel_rfl)) ?_
             refine pn_ 14 (some 37) (ba_ 24 32767) rfl rfl (any_of HT_.out (by kernel_rfl)) ?_
             refine pn_ 15 (some 38) (ba_ 24 65535) rfl rfl (any_of HT_.out (by kernel_rfl)) ?_
             refine pn_ 16 (some 39) (ba_ 24 131071) rfl rfl (any_of HT_.out (by kernel_rfl)) ?_
             refine pn_ 17 (some 40) (ba_ 24 262143) rfl rfl (any_of HT_.out (by kernel_rfl)) ?_
             refine pn_ 18 (some 41) (ba_ 24 524287) rfl rfl (any_of HT_.out (by kernel_rfl)) ?_
             refine pn_ 19 (some 42) (ba_ 24 1048575) rfl rfl (any_of HT_.out (by kernel_rfl)) ?_
             refine pn_ 20 (some 43) (ba_ 24 2097151) rfl rfl (any_of HT_.out (by kernel_rfl)) ?_
             refine pn_ 21 (some 44) (ba_ 24 4194303) rfl rfl (any_of HT_.out (by kernel_rfl)) ?_
             refine pn_ 22 (some 45) (ba_ 24 8388607) rfl rfl (any_of HT_.out (by kernel_rfl)) ?_
             refine pu_ 23 (some 46) (ba_ 24 16777215) rfl rfl (any_of HT_.out (by kernel_rfl)) ?_
             refine done_ (done_of HT_.out (by kernel_rfl)) ?_
             obtain ⟨Ao34, co34, eo34⟩ := Kd.R_slice HO_5.out
             subst eo34
             have p199 : 0 ≤ (x7_2 : Int) := od_
             have q199 : x7_2 < (t187.length : Int) := od_
             obtain ⟨ad199, e199, hx199_0⟩ := Kd.at_int (Kd.R_reads' HO_5.out).2.2 x7_2 p199 q199
             cases e199
             replace p199 := eq_true p199
             replace q199 := eq_true q199
             try go_wp2_with (first | ((with_reducible refine gate_builtin (b := .append) (xs := #[.tmp 49, .tmp 54]) rfl ?_); at_builtin; refine Kd.R_append (Kd.int .i64) (w0 := w) w.heap.size rfl (.tmp 49) (.tmp 54) 23 3 (.int .i64 0) 8 rfl Try.underlying23 info3 rfl (by decide) (by omega) u3 x3_1 (rd t187 x7_2) [.int .i64 (rd t187 x7_2)] (fun k_ => some k_ ≠ (.slice (some ad190) t184.length co10 : Value).ownBlock ∧ some k_ ≠ (.slice (some ad199) t187.length co34 : Value).ownBlock) (fun _ => False) rfl rfl ?aP (fun _ hk => hk.elim) ?aF ?aO ?aB ?aS ?aL ?_; (case aP => exact rfl); (case aB => exact ((bl_ HB).out)); (case aF => exact (fun k_ hk => ⟨Kd.fresh' (Kd.R_lt (rx_ HO_4.out)) k_ hk, Kd.fresh' (Kd.R_lt (rx_ HO_5.out)) k_ hk⟩)); (case aO => exact (rx_ HO_3.out)); (case aS => exact (bs_ HB)); (case aL => have := LMc31.out; omega); intro v201 w35 ho hb hg hat; rw [← Ny200.out] at ho; replace HO_4 := Aside0.mk (Kd.R_after (ok := (fun k_ => some k_ ≠ (.slice (some ad199) t187.length co34 : Value).ownBlock)) (rx_ (Kd.R_mono HO_4.out (fun _ hk => ⟨hk.2, hk.1⟩))) hg hat); replace HO_5 := Aside0.mk (Kd.R_after (ok := (fun k_ => some k_ ≠ (.slice (some ad190) t184.length co10 : Value).ownBlock)) (rx_ (Kd.R_mono HO_5.out (fun _ hk => ⟨hk.2, hk.1⟩))) hg hat); replace HB := Aside0.mk (hb); have HO202 := Aside0.mk (ho); clear HO_3; clear ho hb hg hat))
             go_roundg k2
             case measure => have := HK1.out; have := HK2.out; omega
             case rel => exact ⟨(y200), (wrap64 (x6_1 + 1)), eb_, H', ⟨by have := HK1.out; have := HK2.out; omega⟩, ⟨rx_ HO202.out⟩, ⟨rx_ (Kd.R_mono HO_4.out (fun _ hk => ⟨hk.2, hk.1⟩))⟩, ⟨rx_ (Kd.R_mono HO_5.out (fun _ hk => ⟨hk.2, hk.1⟩))⟩, bl_ HB⟩
            ·rw [if_neg c31] at H
             exact absurd H (by simp)
           ·rw [if_neg c30] at H
            exact absurd H (by simp)
          ·rw [if_neg c29] at H
           exact absurd H (by simp)
        ·rw [if_neg c12] at H
         exact absurd H (by simp)
       ·rw [if_neg c11] at H
        exact absurd H (by simp)
    ·rw [if_neg c9] at H
     exact absurd H (by simp)
   ·rw [if_neg c8] at H
    have c8b0 : decide (x6_1 < (t184.length : Int)) = false := decide_eq_false c8
    clear c8
    obtain rfl := Option.some.inj H
    obtain ⟨Ao36, co36, eo36⟩ := Kd.R_slice HO_4.out
    subst eo36
    go_wp2
    go_ret
    exact ⟨_, ea_, rx_ (Kd.R_mono HO_3.out (fun _ hk => trivial)), (bl_ HB).out⟩
end Go.Proofs.Ytelglbebffdaaaa.X
namespace Go.Proofs.Ytelglbebffdaaaa.X
open Go.RowKit Go.Proofs.YtelglbebffdaaaaW.PrintWords Go.Proofs.YtelglbebffdaaaaW.PrintLast Go.Proofs.YtelglbebffdaaaaW.PrintMore
attribute [local go_sem] max2_int min2_int max_two min_two max_three min_three max_four min_four   -- for this text's walks alone
set_option linter.unusedVariables false
set_option linter.unusedSimpArgs false
def spec_l8Labels.l0 : Nat → List (S53) → List Int → List Int → Int → Option (List Int)
 | 0, _, _, _, _ => none
 | k + 1, x0, x3, x4, x5 => if x5 < (x4.length : Int) then (if 0 ≤ x5 then (if 0 ≤ (rd x4 x5) then (if (rd x4 x5) < (x0.length : Int) then (if x3.length < 17592186044416 then (spec_l8Labels.l0 k x0 (x3 ++ [(rd_T53 x0 (rd x4 x5)).f0]) x4 (wrap64 (x5 + 1))) else (none)) else (none)) else (none)) else (none)) else (some x3)
def spec_l8Labels.f (k : Nat) (l0 : List (S53)) : Option (List Int) := (spec_PostOrder.f k l0).bind fun t206 => (spec_l8Labels.l0 k l0 (([] : List Int)) t206 0)
theorem spec_l8Labels.mono_l : ∀ k, (∀ y0 y1 y2 y3, LeO (spec_l8Labels.l0 k y0 y1 y2 y3) (spec_l8Labels.l0 (k + 1) y0 y1 y2 y3))
 | 0 => fun _ _ _ _ r h => by simp [spec_l8Labels.l0] at h
 | k + 1 => by
  have ih0 := spec_l8Labels.mono_l k
  ·intro y0 y1 y2 y3
   unfold spec_l8Labels.l0
   repeat' first
   | (with_reducible exact ih0 _ _ _ _)
   | (with_reducible exact spec_PostOrder.mono _ _)
   | (with_reducible exact LeO.refl _)
   | (with_reducible exact LeO.none _)
   | (with_reducible refine LeO.ite ?_ ?_)
   | (with_reducible refine LeO.bind ?_ (fun _ => ?_))
   | exact ih0 _ _ _ _
   | exact spec_PostOrder.mono _ _
   | exact LeO.none _
   | refine LeO.ite ?_ ?_
   | refine LeO.bind ?_ (fun _ => ?_)
theorem spec_l8Labels.mono : ∀ a0 k, LeO (spec_l8Labels.f k a0) (spec_l8Labels.f (k + 1) a0) := by
 intro a0 k
 have ih0 := spec_l8Labels.mono_l k
 unfold spec_l8Labels.f
 repeat' first
   | (with_reducible exact ih0 _ _ _ _)
   | (with_reducible exact spec_PostOrder.mono _ _)
   | (with_reducible exact LeO.refl _)
   | (with_reducible exact LeO.none _)
   | (with_reducible refine LeO.ite ?_ ?_)
   | (with_reducible refine LeO.bind ?_ (fun _ => ?_))
   | exact ih0 _ _ _ _
   | exact spec_PostOrder.mono _ _
   | exact LeO.none _
   | refine LeO.ite ?_ ?_
   | refine LeO.bind ?_ (fun _ => ?_)
set_option maxHeartbeats 8000000 in
set_option maxRecDepth 100000 in
theorem spec_l8Labels.calls (k : Nat) (A0 : Option Addr) (c0 : Nat) (l0 : List (S53)) (r : List Int) (w : World) (hr0 : Kd.C k53 w A0 l0.length l0) (hc0 : l0.length ≤ c0) (h : spec_l8Labels.f k l0 = some r) :
  Calls Try.prog 81 #[.slice A0 l0.length c0] w fun e w' => ∃ v0_ : Value, e = .returned (v0_) ∧ Kd.R (Kd.int .i64) 3 w' w.heap.size (fun _ => True) v0_ r ∧ Below w.heap.size w w' := by
 have HR0 := Aside0.mk hr0
 have HC0 := Aside0.mk hc0
 clear hr0 hc0
 have HB := Aside0.mk (Below.refl w.heap.size w)
 have H : ((spec_PostOrder.f k l0).bind fun t206 => (spec_l8Labels.l0 k l0 (([] : List Int)) t206 0)) = some r := h
 clear h
 obtain ⟨y203, hy203⟩ : ∃ y_ : List Int, y_ = (([] : List Int)) := ⟨_, rfl⟩
 replace H : ((spec_PostOrder.f k l0).bind fun t206 => (spec_l8Labels.l0 k l0 y203 t206 0)) = some r := by first | (rw [hy203]; with_reducible exact H) | (have H2_ := (Option.bind_some _ _).symm.trans H; rw [hy203]; with_reducible exact H2_) | (have H2_ := (Option.bind_some _ _).symm.trans H; with_reducible exact H2_) | with_reducible exact H | (rw [hy203]; exact H) | exact H
 have Ny203 := Aside0.mk hy203
 clear hy203
 replace H := Option.bind_eq_some_iff.mp H
 obtain ⟨t206, A20, H⟩ := H
 replace H : (spec_l8Labels.l0 k l0 y203 t206 0) = some r := H
 have A2 := Aside0.mk A20
 clear A20
 have H' := Aside0.mk H
 clear H
 go_enter Try.func81, Try.ntmps81
 go_wp2_with (first | ((with_reducible refine gate_dst (N := 6) rfl ?_); refine Kd.R_lit (Kd.int .i64) _ 3 ?hg (N := 6) ?hd (xs := ([] : List Int)) (inner := []) (ok := fun _ => True) (okp := fun _ => True) ?hr ?hp (fun _ hk => hk) trivial (Below.refl _ _) (Nat.le_refl _) (by simp) ?_; (case hd => rfl); (case hg => rfl); (case hr => first | (go_simp; done) | (go_simp; rfl)); (case hp => exact (Reps.none _ _)); intro v204 w3 ho4 hb hg_ hnew_; clear hg_ hnew_; (first | rw [← Ny203.out] at ho4 | (simp only [Int.reduceToNat] at ho4; rw [← Ny203.out] at ho4)); have HO205 := Aside0.mk (Kd.R_lower ho4 (bs_ HB)); replace HB := tB_ HB hb; clear hb ho4) | ((with_reducible refine gate_callee (f := 40) rfl ?_); refine gL_ (some 8) Try.func40 #[.slice A0 l0.length c0] ?_; (with_reducible refine (spec_PostOrder.calls k _ _ l0 t206 _ (cx_ HR0 HB) HC0.out A2.out).mono ?_); rintro e w5 ⟨v207, rfl, ho0, hb⟩; refine ⟨_, rfl, ?_⟩; have HO208 := Aside0.mk (Kd.R_lower (Kd.R_new' ho0 (Kd.R_lt (rx_ HO205.out))) (bs_ HB)); replace HO205 := Aside0.mk (Kd.R_elder' (rx_ HO205.out) (Kd.R_base ho0) hb); replace HB := tB_ HB hb; (try clear hb); (try clear ho0)))
 go_loopg [3, 5] k (fun kq v3 v5 w' => ∃ (x3_1 : List Int) (x5_1 : Int), v5 = .int .i64 x5_1 ∧ Aside0 (spec_l8Labels.l0 kq l0 x3_1 t206 x5_1 = some r) ∧ Aside0 (kq ≤ k) ∧ Aside0 (Kd.R (Kd.int .i64) 3 w' w.heap.size (fun k_ => some k_ ≠ (v207 : Value).ownBlock) v3 x3_1) ∧ Aside0 (Kd.R (Kd.int .i64) 3 w' w.heap.size (fun k_ => some k_ ≠ (v3 : Value).ownBlock) v207 t206) ∧ Aside0 (Below w.heap.size w w'))
 case atStart => exact ⟨(y203), (0), eb_, H', ⟨Nat.le_refl _⟩, ⟨rx_ (Kd.R_mono HO205.out (fun _ hk => hk.2))⟩, ⟨rx_ (Kd.R_mono HO208.out (fun _ hk => hk.2))⟩, bl_ HB⟩
 case round =>
  clear H'
  try clear p2
  try clear c4
  obtain ⟨x3_1, x5_1, rfl, HA, HK1, HO_3, HO_4, HB⟩ := hrel
  cases gk with
  | zero => exact absurd HA.out (by simp [spec_l8Labels.l0])
  | succ k1 =>
   have H := HA.out
   clear HA
   simp only [spec_l8Labels.l0] at H
   by_cases c6 : x5_1 < (t206.length : Int)
   ·rw [if_pos c6] at H
    have c6b0 : decide (x5_1 < (t206.length : Int)) = true := decide_eq_true c6
    clear c6
    by_cases c7 : 0 ≤ x5_1
    ·rw [if_pos c7] at H
     have c7b0 : decide (0 ≤ x5_1) = true := decide_eq_true c7
     clear c7
     by_cases c8 : 0 ≤ (rd t206 x5_1)
     ·rw [if_pos c8] at H
      have c8b0 : decide (0 ≤ (rd t206 x5_1)) = true := decide_eq_true c8
      clear c8
      by_cases c9 : (rd t206 x5_1) < (l0.length : Int)
      ·rw [if_pos c9] at H
       have c9b0 : decide ((rd t206 x5_1) < (l0.length : Int)) = true := decide_eq_true c9
       clear c9
       by_cases c10 : x3_1.length < 17592186044416
       ·rw [if_pos c10] at H
        have LMc10 := Aside0.mk c10
        clear c10
        obtain ⟨y211, hy211⟩ : ∃ y_ : List Int, y_ = (x3_1 ++ [(rd_T53 l0 (rd t206 x5_1)).f0]) := ⟨_, rfl⟩
        replace H : (spec_l8Labels.l0 k1 l0 y211 t206 (wrap64 (x5_1 + 1))) = some r := by first | (rw [hy211]; with_reducible exact H) | (have H2_ := (Option.bind_some _ _).symm.trans H; rw [hy211]; with_reducible exact H2_) | (have H2_ := (Option.bind_some _ _).symm.trans H; with_reducible exact H2_) | with_reducible exact H | (rw [hy211]; exact H) | exact H
        have Ny211 := Aside0.mk hy211
        clear hy211
        have H' := Aside0.mk H
        clear H
        obtain ⟨Ao11, co11, eo11⟩ := Kd.R_slice HO_4.out
        subst eo11
        have p209 : 0 ≤ (x5_1 : Int) := od_
        have q209 : x5_1 < (t206.length : Int) := od_
        obtain ⟨ad209, e209, hx209_0⟩ := Kd.at_int (Kd.R_reads' HO_4.out).2.2 x5_1 p209 q209
        cases e209
        replace p209 := eq_true p209
        replace q209 := eq_true q209
        have p210 : 0 ≤ ((rd t206 x5_1) : Int) := od_
        have q210 : (rd t206 x5_1) < (l0.length : Int) := od_
        obtain ⟨ad210, e210, hx210_0, hx210_1⟩ := at_T53 HR0.out (rd t206 x5_1) p210 q210
        cases e210
        replace hx210_0 := ce_ HB hx210_0
        replace hx210_1 := ce_ HB hx210_1
        replace p210 := eq_true p210
        replace q210 := eq_true q210
        go_wp2_with (first | ((with_reducible refine gate_builtin (b := .append) (xs := #[.tmp 15, .tmp 24]) rfl ?_); at_builtin; refine Kd.R_append (Kd.int .i64) (w0 := w) w.heap.size rfl (.tmp 15) (.tmp 24) 23 3 (.int .i64 0) 8 rfl Try.underlying23 info3 rfl (by decide) (by omega) u3 x3_1 ((rd_T53 l0 (rd t206 x5_1)).f0) [.int .i64 ((rd_T53 l0 (rd t206 x5_1)).f0)] (fun k_ => some k_ ≠ (.slice (some ad209) t206.length co11 : Value).ownBlock) (fun _ => False) rfl rfl ?aP (fun _ hk => hk.elim) ?aF ?aO ?aB ?aS ?aL ?_; (case aP => exact rfl); (case aB => exact ((bl_ HB).out)); (case aF => exact (fun k_ hk => Kd.fresh' (Kd.R_lt (rx_ HO_4.out)) k_ hk)); (case aO => exact (rx_ HO_3.out)); (case aS => exact (bs_ HB)); (case aL => have := LMc10.out; omega); intro v212 w12 ho hb hg hat; rw [← Ny211.out] at ho; replace HO_4 := Aside0.mk (Kd.R_after (ok := (fun _ => True)) (rx_ (Kd.R_mono HO_4.out (fun _ hk => ⟨trivial, hk⟩))) hg hat); replace HB := Aside0.mk (hb); have HO213 := Aside0.mk (ho); clear HO_3; clear ho hb hg hat))
        go_roundg k1
        case measure => have := HK1.out; omega
        case rel => exact ⟨(y211), (wrap64 (x5_1 + 1)), eb_, H', ⟨by have := HK1.out; omega⟩, ⟨rx_ HO213.out⟩, ⟨rx_ (Kd.R_mono HO_4.out (fun _ hk => hk.2))⟩, bl_ HB⟩
       ·rw [if_neg c10] at H
        exact absurd H (by simp)
      ·rw [if_neg c9] at H
       exact absurd H (by simp)
     ·rw [if_neg c8] at H
      exact absurd H (by simp)
    ·rw [if_neg c7] at H
     exact absurd H (by simp)
   ·rw [if_neg c6] at H
    have c6b0 : decide (x5_1 < (t206.length : Int)) = false := decide_eq_false c6
    clear c6
    obtain rfl := Option.some.inj H
    obtain ⟨Ao13, co13, eo13⟩ := Kd.R_slice HO_4.out
    subst eo13
    go_wp2
    go_ret
    exact ⟨_, ea_, rx_ (Kd.R_mono HO_3.out (fun _ hk => trivial)), (bl_ HB).out⟩
end Go.Proofs.Ytelglbebffdaaaa.X
namespace Go.Proofs.Ytelglbebffdaaaa.X
open Go.RowKit Go.Proofs.YtelglbebffdaaaaW.PrintWords Go.Proofs.YtelglbebffdaaaaW.PrintLast Go.Proofs.YtelglbebffdaaaaW.PrintMore
set_option linter.unusedVariables false
set_option linter.unusedSimpArgs false
def PredB {α : Type} (P : Program) (g : Nat) (lb : Array Value) (enc : α → Value) (p : α → Bool) (w : World) : Prop :=
 ∀ (W : World), Below w.heap.size w W → ∀ x, Calls P g (#[enc x] ++ lb) W fun e w' => e = .returned (.bool (p x)) ∧ Below W.heap.size W w'
set_option maxHeartbeats 2000000 in
theorem indexFunc_int (g : Nat) (lb : Array Value) (p : Int → Bool) (eg : ∀ args w, (callFunc g args).run Try.prog w = .ok (.enter g args) w)
  (A0 : Option Addr) (c0 : Nat) (l0 : List Int) (w : World) (hp : PredB Try.prog g lb (Value.int .i64) p w) (hr0 : Kd.C (Kd.int .i64) w A0 l0.length l0) (hc0 : l0.length ≤ c0) :
  Calls Try.prog 117 #[.slice A0 l0.length c0, .func (.func g) #[] lb] w fun e w' => ∃ n : Int, e = .returned (.int .i64 n) ∧ Aside0 (decide (0 ≤ n) = l0.any p) ∧ Below w.heap.size w w' := by
 have HR0 := Aside0.mk hr0
 have HP := Aside0.mk hp
 have hm := hr0.2.1
 clear hr0 hc0 hp
 go_enter Try.func117, Try.ntmps117
 go_wp2
 go_loopg [5, 8] l0.length (fun gg _ s8 wr => ∃ kk : Nat, kk ≤ l0.length ∧ l0.length - kk ≤ gg ∧ s8 = .int .i64 kk ∧ Aside0 ((l0.take kk).any p = false) ∧ Aside0 (Below w.heap.size w wr))
 case atStart => exact ⟨0, Nat.zero_le _, by omega, rfl, ⟨by simp⟩, ⟨Below.refl _ _⟩⟩
 case round =>
  obtain ⟨kk, hkk, hg, rfl, AN, HB⟩ := hrel
  by_cases hlt : kk < l0.length
  ·have hcl := HP.out wr HB.out (rd l0 kk)
   have HC := Aside0.mk hcl
   clear hcl
   obtain ⟨ad, e, hx⟩ := Kd.at_int (Kd.C_below HR0.out HB.out) kk (by omega) (by omega)
   cases e
   have hany : (l0.take (kk + 1)).any p = ((l0.take kk).any p || p (rd l0 kk)) := by
    rw [List.take_succ_eq_append_getElem hlt, List.any_append]
    simp [rd, List.getD_eq_getElem?_getD, List.getElem?_eq_getElem hlt]
   have HN := Aside0.mk hany
   clear hany
   have hltz : (kk : Int) < (l0.length : Int) := by omega
   rw [Int.toNat_natCast] at hx
   cases hq : p (rd l0 kk) with
   | true =>
    have HQ := Aside0.mk hq
    clear hq
    go_wp2_with fail
    refine HC.out.mono ?_
    rintro e w' ⟨rfl, hb⟩
    have HBB := Aside0.mk (HB.out.trans (hb.mono (below_size HB.out)))
    clear hb
    rw [HQ.out]
    go_wp2
    go_ret
    refine ⟨_, rfl, ⟨?_⟩, HBB.out⟩
    have h1 := HN.out
    rw [HQ.out, Bool.or_true] at h1
    rw [← List.take_append_drop (kk + 1) l0, List.any_append, h1]
    simp
   | false =>
    have HQ := Aside0.mk hq
    clear hq
    go_wp2_with fail
    refine HC.out.mono ?_
    rintro e w' ⟨rfl, hb⟩
    have HBB := Aside0.mk (HB.out.trans (hb.mono (below_size HB.out)))
    clear hb
    rw [HQ.out]
    go_wp2
    go_roundg (l0.length - (kk + 1))
    case measure => omega
    case rel => exact ⟨kk + 1, by omega, by omega, by go_num, ⟨by rw [HN.out, AN.out, HQ.out]; rfl⟩, HBB⟩
  ·have hltz : ¬ (kk : Int) < (l0.length : Int) := by omega
   have e : kk = l0.length := by omega
   have AN2 : Aside0 (l0.any p = false) := ⟨by have := AN.out; rw [e, List.take_length] at this; exact this⟩
   clear AN e
   go_wp2
   go_ret
   exact ⟨-1, rfl, ⟨by rw [AN2.out]; decide⟩, HB.out⟩
set_option maxHeartbeats 2000000 in
theorem containsFunc_int (g : Nat) (lb : Array Value) (p : Int → Bool) (eg : ∀ args w, (callFunc g args).run Try.prog w = .ok (.enter g args) w)
  (A0 : Option Addr) (c0 : Nat) (l0 : List Int) (w : World) (hp : PredB Try.prog g lb (Value.int .i64) p w) (hr0 : Kd.C (Kd.int .i64) w A0 l0.length l0) (hc0 : l0.length ≤ c0) :
  Calls Try.prog 112 #[.slice A0 l0.length c0, .func (.func g) #[] lb] w fun e w' => e = .returned (.bool (l0.any p)) ∧ Below w.heap.size w w' := by
 have HX := Aside0.mk (indexFunc_int g lb p eg A0 c0 l0 w hp hr0 hc0)
 clear hr0 hc0 hp
 go_enter Try.func112, Try.ntmps112
 go_wp2_with (go_at_call 117; refine HX.out.mono ?_; rintro e w' ⟨n, rfl, hn, HB⟩)
 go_ret
 exact ⟨by rw [← hn.out]; rfl, HB⟩
end Go.Proofs.Ytelglbebffdaaaa.X
namespace Go.Proofs.Ytelglbebffdaaaa.X
open Go.RowKit Go.Proofs.YtelglbebffdaaaaW.PrintWords Go.Proofs.YtelglbebffdaaaaW.PrintLast Go.Proofs.YtelglbebffdaaaaW.PrintMore
set_option linter.unusedVariables false
set_option linter.unusedSimpArgs false
def outP (hi : Int) (x : Int) : Bool := !(decide (0 ≤ x ∧ x ≤ hi))
theorem within_out (x hi : Int) : impl_within.f x 0 hi = some (!outP hi x) := by
 unfold impl_within.f outP
 by_cases h : 0 ≤ x
 ·rw [if_pos h]; simp [h]
 ·rw [if_neg h]; simp [h]
end Go.Proofs.Ytelglbebffdaaaa.X
