/- Part 4 of the proof of FnApplied: what it needs. -/
import Derived.Test.YtbifdckfglejkaaProg
import Derived.Below
import Derived.Deep.Draws
import Derived.Deep.AppendLies
import Derived.Maps.AppendAt
import Derived.OwnWalk
import Derived.Laws.BytesArg
import Derived.Laws.MakeOwn
import Derived.Laws.OwnMore
import Derived.Deep.OwnRows
import Derived.Tactics
import Derived.Lib.ConvBytes
import Derived.Laws.Slices
import Derived.WalkKit
import Derived.KernelRfl
import Derived.RowKit3
import Derived.Deep.LoopGhost
import Derived.Deep.QuietTactic
import Derived.BigQuiet
import Derived.WideLaws
import Derived.Deep.DeepCutAuto
import Derived.Deep.CutBlock
import Derived.Deep.RegionHeld3
import Derived.Laws.Rows
import Derived.Lib.AppendStr
import Derived.ArgAppend
import Derived.Laws.IdiomCopy
import Derived.OrdersHeld
import Derived.Laws.BitsLemmas
import Derived.RowKit
import Derived.SizedLaws
import Derived.ChangeSlices
import Derived.Test.YtbifdckfglejkaaKLApplied0
import Derived.Test.YtbifdckfglejkaaKLApplied1
import Derived.Test.YtbifdckfglejkaaKLApplied2
import Derived.Test.YtbifdckfglejkaaKLApplied3
namespace Go.Proofs.Ytbifdckfglejkaa.X
open Go.RowKit Go.Proofs.YtbifdckfglejkaaW.PrintWords Go.Proofs.YtbifdckfglejkaaW.PrintLast Go.Proofs.YtbifdckfglejkaaW.PrintMore
attribute [local go_sem] max2_int min2_int max_two min_two max_three min_three max_four min_four   -- for this text's walks alone
set_option linter.unusedVariables false
set_option linter.unusedSimpArgs false
def errW : Option Int → Value
  | none => .nilIface
  | some c => .iface 0 (.int .i64 c)
theorem errW_none : errW none = .nilIface := rfl
theorem errW_some (c : Int) : errW (some c) = .iface 0 (.int .i64 c) := rfl
theorem info3 : (Try.prog.info? 3).map (fun i => (i.zero, i.size, i.bytes)) = some (some (.int .i64 0), 1, 8) := by kernel_rfl
theorem info67 : (Try.prog.info? 67).map (fun i => (i.zero, i.size, i.bytes)) = some (some (.agg #[(.int .i64 0), (.slice none 0 0), (.int .i64 0), (.int .i64 0), (.int .i64 0)]), 5, 56) := by kernel_rfl
theorem info90 : (Try.prog.info? 90).map (fun i => (i.zero, i.size, i.bytes)) = some (some (.agg #[(.int .i64 0), (.int .i64 0)]), 2, 16) := by kernel_rfl
structure S143 where
  f0 : Bool
  f1 : Int
  f2 : Int
  f3 : Int
  f4 : Int
  f5 : Int
  f6 : Int
def z143 : S143 := ⟨false, (0 : Int), (0 : Int), (0 : Int), (0 : Int), (0 : Int), (0 : Int)⟩
structure S90 where
  f0 : Int
  f1 : Int
def z90 : S90 := ⟨(0 : Int), (0 : Int)⟩
def k90 : Kd S90 := Kd.iso (Kd.pair (Kd.int .i64) (Kd.int .i64)) (fun x : S90 => (x.f0, x.f1))
theorem k90_open {w : World} {x : S90} {cs : List Value} (h : k90.K w x cs) : cs = [.int .i64 x.f0, .int .i64 x.f1] := by
  obtain ⟨_, _, rfl, rfl, rfl⟩ := h
  exact rfl
theorem k90_openM {w : World} {base : Nat} {ok : Nat → Prop} {x : S90} {cs : List Value} (h : k90.M w base ok x cs) : cs = [.int .i64 x.f0, .int .i64 x.f1] := by
  obtain ⟨_, _, rfl, rfl, rfl⟩ := h
  exact rfl
theorem k90_mkM (w : World) (base : Nat) (ok : Nat → Prop) (x : S90)  : k90.M w base ok x [.int .i64 x.f0, .int .i64 x.f1] := ⟨[.int .i64 x.f0], [.int .i64 x.f1], rfl, rfl, rfl⟩
def rd_T90 (xs : List S90) (i : Int) : S90 := xs.getD i.toNat z90
theorem at_T90 {w : World} {A : Option Addr} {n : Nat} {xs : List S90} (h : Kd.C k90 w A n xs) (i : Int) (h0 : 0 ≤ i) (h1 : i < n) : ∃ ad , A = some ad ∧ w.cell? (ad.add (i.toNat * 2)) = some (.int .i64 (rd_T90 xs i).f0) ∧ w.cell? ⟨(ad.add (i.toNat * 2)).block, (ad.add (i.toNat * 2)).off + 1, none⟩ = some (.int .i64 (rd_T90 xs i).f1) := by
  obtain ⟨ad, c, e, _, hK, hc0⟩ := Kd.C_get h z90 i h0 h1
  have hc : ∀ j u, c[j]? = some u → w.cell? (ad.add (i.toNat * 2 + j)) = some u := hc0
  obtain rfl := k90_open hK
  exact ⟨ad, e, hc 0 _ rfl, by rw [← add_field _ _ 1 (by omega)]; exact hc 1 _ rfl⟩
structure S120 where
  f0 : Int
  f1 : Int
def z120 : S120 := ⟨(0 : Int), (0 : Int)⟩
structure S124 where
  f0 : Int
  f1 : Int
def z124 : S124 := ⟨(0 : Int), (0 : Int)⟩
structure S67 where
  f0 : Int
  f1 : (List Int)
  f2 : Int
  f3 : Int
  f4 : Int
def z67 : S67 := ⟨(0 : Int), ([] : List Int), (0 : Int), (0 : Int), (0 : Int)⟩
def k67 : Kd S67 := Kd.iso (Kd.pair (Kd.int .i64) (Kd.pair (Kd.slice 3 (Kd.int .i64)) (Kd.pair (Kd.int .i64) (Kd.pair (Kd.int .i64) (Kd.int .i64))))) (fun x : S67 => (x.f0, x.f1, x.f2, x.f3, x.f4))
theorem k67_open {w : World} {x : S67} {cs : List Value} (h : k67.K w x cs) : ∃ A1 c1, cs = [.int .i64 x.f0, .slice A1 x.f1.length c1, .int .i64 x.f2, .int .i64 x.f3, .int .i64 x.f4] ∧ x.f1.length ≤ c1 ∧ (Kd.int .i64).C w A1 x.f1.length x.f1 := by
  obtain ⟨_, _, rfl, rfl, ⟨_, _, rfl, ⟨A1, c1, rfl, l1, g1⟩, ⟨_, _, rfl, rfl, ⟨_, _, rfl, rfl, rfl⟩⟩⟩⟩ := h
  exact ⟨A1, c1, rfl, l1, g1⟩
theorem k67_mkM (w : World) (base : Nat) (ok : Nat → Prop) (x : S67) {v1 : Value} (g1 : (Kd.int .i64).R 3 w base ok v1 x.f1) : k67.M w base ok x [.int .i64 x.f0, v1, .int .i64 x.f2, .int .i64 x.f3, .int .i64 x.f4] := ⟨[.int .i64 x.f0], [v1, .int .i64 x.f2, .int .i64 x.f3, .int .i64 x.f4], rfl, rfl, ⟨[v1], [.int .i64 x.f2, .int .i64 x.f3, .int .i64 x.f4], rfl, ⟨v1, rfl, g1⟩, ⟨[.int .i64 x.f2], [.int .i64 x.f3, .int .i64 x.f4], rfl, rfl, ⟨[.int .i64 x.f3], [.int .i64 x.f4], rfl, rfl, rfl⟩⟩⟩⟩
def rd_T67 (xs : List S67) (i : Int) : S67 := xs.getD i.toNat z67
theorem at_T67 {w : World} {A : Option Addr} {n : Nat} {xs : List S67} (h : Kd.C k67 w A n xs) (i : Int) (h0 : 0 ≤ i) (h1 : i < n) : ∃ ad A1 c1, A = some ad ∧ w.cell? (ad.add (i.toNat * 5)) = some (.int .i64 (rd_T67 xs i).f0) ∧ w.cell? ⟨(ad.add (i.toNat * 5)).block, (ad.add (i.toNat * 5)).off + 1, none⟩ = some (.slice A1 (rd_T67 xs i).f1.length c1) ∧ w.cell? ⟨(ad.add (i.toNat * 5)).block, (ad.add (i.toNat * 5)).off + 2, none⟩ = some (.int .i64 (rd_T67 xs i).f2) ∧ w.cell? ⟨(ad.add (i.toNat * 5)).block, (ad.add (i.toNat * 5)).off + 3, none⟩ = some (.int .i64 (rd_T67 xs i).f3) ∧ w.cell? ⟨(ad.add (i.toNat * 5)).block, (ad.add (i.toNat * 5)).off + 4, none⟩ = some (.int .i64 (rd_T67 xs i).f4) ∧ (rd_T67 xs i).f1.length ≤ c1 ∧ (Kd.int .i64).C w A1 (rd_T67 xs i).f1.length (rd_T67 xs i).f1 := by
  obtain ⟨ad, c, e, _, hK, hc0⟩ := Kd.C_get h z67 i h0 h1
  have hc : ∀ j u, c[j]? = some u → w.cell? (ad.add (i.toNat * 5 + j)) = some u := hc0
  obtain ⟨A1, c1, rfl, l1, g1⟩ := k67_open hK
  exact ⟨ad, A1, c1, e, hc 0 _ rfl, by rw [← add_field _ _ 1 (by omega)]; exact hc 1 _ rfl, by rw [← add_field _ _ 2 (by omega)]; exact hc 2 _ rfl, by rw [← add_field _ _ 3 (by omega)]; exact hc 3 _ rfl, by rw [← add_field _ _ 4 (by omega)]; exact hc 4 _ rfl, l1, g1⟩
structure S63 where
  f0 : Int
  f1 : (List Int)
  f2 : Int
  f3 : Int
  f4 : Int
def z63 : S63 := ⟨(0 : Int), ([] : List Int), (0 : Int), (0 : Int), (0 : Int)⟩
open Go.Proofs.YtbifdckfglejkaaW.PrintWords Go.Proofs.YtbifdckfglejkaaW.PrintLast Go.Proofs.YtbifdckfglejkaaW.PrintMore
def ba_ (n m : Nat) : Array Bool := ((List.range n).map fun i => m.testBit i).toArray
section
variable {P : Program} {md : Region.Mode} {ops : Array Oper} {Q : Exit → Act → World → Prop} {S : World → Prop} {ds : List Nat}
theorem pu_ (i : Nat) (N : Option Tmp) (l' : Array Bool) {oi : Oper} {v : Value} {fuel : Nat} {l : Array Bool} {a : Act} {w : World} {a' : Act} (hi : ops[i]? = some oi) (hN : oi.dst = N) (hc : anyB md ops l l' i = true)
    (h : wpAnyLast P md ops Q S ds fuel l' a' w) (hQ : ∀ c a w, Q (.panic c) (a.put oi.dst v) w → Q (.panic c) a w := by exact fun _ _ _ h => h) (hw : Region.wanted oi (yielded ops a.tmps) = true := by rfl) (hy : ∀ w, (execOp a.eval oi).run P w = .ok (.value v) w := by intro w'; go_simp; with_reducible rfl)
    (ha : a.put N v = a' := by simp only [Act.put, List.setIfInBounds_toArray, List.set_cons_zero, List.set_cons_succ, i64_w, i32_w]; rfl) : wpAnyLast P md ops Q S ds (fuel + 1) l a w := pure_ l' hi hN hc hQ (.inl ⟨hw, hy⟩) ha h
theorem pn_ (i : Nat) (N : Option Tmp) (l' : Array Bool) {oi : Oper} {fuel : Nat} {l : Array Bool} {a : Act} {w : World} {a' : Act} (hi : ops[i]? = some oi) (hN : oi.dst = N) (hc : anyB md ops l l' i = true)
    (h : wpAnyLast P md ops Q S ds fuel l' a' w) (hQ : ∀ c a w, Q (.panic c) (a.put oi.dst undef) w → Q (.panic c) a w := by exact fun _ _ _ h => h) (hw : Region.wanted oi (yielded ops a.tmps) = false := by rfl)
    (ha : a.put N undef = a' := by simp only [Act.put, List.setIfInBounds_toArray, List.set_cons_zero, List.set_cons_succ, i64_w, i32_w]; rfl) : wpAnyLast P md ops Q S ds (fuel + 1) l a w := pure_ l' hi hN hc hQ (.inr ⟨hw, rfl⟩) ha h
theorem ta_ (i : Nat) (N : Option Tmp) (l' : Array Bool) {oi : Oper} {v : Value} {fuel : Nat} {l : Array Bool} {a : Act} {w : World} {a' : Act} (hi : ops[i]? = some oi) (hN : oi.dst = N) (hc : takeB md ops ds l l' i = true) (hS : S w)
    (hy : ∀ w, S w → (execOp a.eval oi).run P w = .ok (.value v) w) (h : wpAnyLast P md ops Q S ds fuel l' a' w) (hQ : ∀ c a w, Q (.panic c) (a.put oi.dst v) w → Q (.panic c) a w := by exact fun _ _ _ h => h) (hw : Region.wanted oi (yielded ops a.tmps) = true := by rfl)
    (ha : a.put N v = a' := by simp only [Act.put, List.setIfInBounds_toArray, List.set_cons_zero, List.set_cons_succ, i64_w, i32_w]; rfl) : wpAnyLast P md ops Q S ds (fuel + 1) l a w := take_ l' hi hN hc hQ (.inl ⟨hw, hy⟩) hS ha h
end
end Go.Proofs.Ytbifdckfglejkaa.X
namespace Go.Proofs.Ytbifdckfglejkaa.X
open Go.RowKit Go.Proofs.YtbifdckfglejkaaW.PrintWords Go.Proofs.YtbifdckfglejkaaW.PrintLast Go.Proofs.YtbifdckfglejkaaW.PrintMore
set_option linter.unusedVariables false
set_option linter.unusedSimpArgs false
class Ch (w W : World) : Prop where
 out : Below w.heap.size w W
instance Ch.refl (w : World) : Ch w w := ⟨Below.refl _ _⟩
instance Ch.alloc (w W : World) (o : Obj) [h : Ch w W] : Ch w (W.alloc o) := ⟨below_alloc h.out o⟩
instance Ch.drewN (w W : World) (n : Nat) [h : Ch w W] : Ch w (W.drewN n) := ⟨pw_below_drewN h.out n⟩
instance Ch.drew (w W : World) [h : Ch w W] : Ch w W.drew := ⟨below_drew1 h.out⟩
theorem bl_ {w0 w W : World} (h : Aside0 (Below w0.heap.size w0 w)) [c : Ch w W] : Aside0 (Below w0.heap.size w0 W) := ⟨below_step h.out c.out⟩
theorem bs_ {w0 w W : World} (h : Aside0 (Below w0.heap.size w0 w)) [c : Ch w W] : w0.heap.size ≤ W.heap.size := (below_step h.out c.out).size
theorem tB_ {w0 w W w2 : World} (h : Aside0 (Below w0.heap.size w0 w)) [c : Ch w W] (hb : Below W.heap.size W w2) : Aside0 (Below w0.heap.size w0 w2) := ⟨below_step (below_step h.out c.out) hb⟩
theorem rx_ {α : Type} {d : Kd α} {e base : Nat} {ok : Nat → Prop} {v : Value} {xs : List α} {w W : World} (h : Kd.R d e w base ok v xs) [c : Ch w W] : Kd.R d e W base ok v xs := Kd.R_below h c.out
theorem tR_ {α : Type} {d : Kd α} {e base : Nat} {ok : Nat → Prop} {v : Value} {xs : List α} {w W w2 : World} (h : Aside0 (Kd.R d e w base ok v xs)) [c : Ch w W] (hb : Below W.heap.size W w2) : Aside0 (Kd.R d e w2 base ok v xs) := ⟨Kd.R_below (Kd.R_below h.out c.out) hb⟩
theorem qx_ {α : Type} {d : Kd α} {e base : Nat} {ok : Nat → Prop} {v : Value} {xs : List α} {w W : World} (h : Kd.Q d e w base ok v xs) [c : Ch w W] : Kd.Q d e W base ok v xs := Kd.Q_below h c.out
theorem sx_ {α : Type} {d : Kd α} {e base : Nat} {ok : Nat → Prop} {v : Value} {xs : List α} {w W : World} (h : Kd.S d e w base ok v xs) [c : Ch w W] : Kd.S d e W base ok v xs := Kd.S_below h c.out
theorem kx_ {w W : World} {g : Nat} {o : Obj} (h : w.heap[g]? = some o) [c : Ch w W] : W.heap[g]? = some o := blk_below h c.out
theorem tK_ {w W w2 : World} {g : Nat} {o : Obj} (h : Aside0 (w.heap[g]? = some o)) [c : Ch w W] (hb : Below W.heap.size W w2) : Aside0 (w2.heap[g]? = some o) := ⟨blk_below (blk_below h.out c.out) hb⟩
theorem cx_ {α : Type} {d : Kd α} {A : Option Addr} {n : Nat} {xs : List α} {w0 w W : World} (h : Aside0 (Kd.C d w0 A n xs)) (hB : Aside0 (Below w0.heap.size w0 w)) [c : Ch w W] : Kd.C d W A n xs := Kd.C_below (Kd.C_below h.out hB.out) c.out
theorem cc_ {α : Type} {d : Kd α} {A : Option Addr} {n : Nat} {xs : List α} {w W : World} (h : Kd.C d w A n xs) [c : Ch w W] : Kd.C d W A n xs := Kd.C_below h c.out
theorem ce_ {w W : World} (h : Aside0 (Below w.heap.size w W)) {a : Addr} {v : Value} (hc : w.cell? a = some v) : W.cell? a = some v := pw_cell_below h.out hc
theorem od_ {p : Prop} [Decidable p] (h : decide p = true := by first | (with_reducible assumption) | assumption) : p := of_decide_eq_true h
theorem ea_ {α : Type} {a b : α} (h : a = b := by first | rfl | (simp [errW_none, errW_some] <;> rfl) | (simp [*, errW_none, errW_some] <;> rfl)) : a = b := h
theorem eb_ {α : Type} {a b : α} (h : a = b := by first | rfl | (simp; done) | (simp [*]; done)) : a = b := h
section
variable {w : World} {g : Nat} {t : TypeId} {v0 v1 v2 v3 v4 v5 v6 : Value}
theorem bk2_ (h : Aside0 (w.heap[g]? = some (.cells #[v0, v1] t (0, 0)))) : w.cell? ⟨g, 0, none⟩ = some v0 ∧ w.cell? ⟨g, 1, none⟩ = some v1 ∧ w.frozen? ⟨g, 0, none⟩ = false ∧ w.frozen? ⟨g, 1, none⟩ = false :=
 ⟨blk_cell h.out 0, blk_cell h.out 1, blk_frozen h.out 0, blk_frozen h.out 1⟩
theorem bk5_ (h : Aside0 (w.heap[g]? = some (.cells #[v0, v1, v2, v3, v4] t (0, 0)))) : w.cell? ⟨g, 0, none⟩ = some v0 ∧ w.cell? ⟨g, 1, none⟩ = some v1 ∧ w.cell? ⟨g, 2, none⟩ = some v2 ∧ w.cell? ⟨g, 3, none⟩ = some v3 ∧ w.cell? ⟨g, 4, none⟩ = some v4 ∧
  w.frozen? ⟨g, 0, none⟩ = false ∧ w.frozen? ⟨g, 1, none⟩ = false ∧ w.frozen? ⟨g, 2, none⟩ = false ∧ w.frozen? ⟨g, 3, none⟩ = false ∧ w.frozen? ⟨g, 4, none⟩ = false :=
 ⟨blk_cell h.out 0, blk_cell h.out 1, blk_cell h.out 2, blk_cell h.out 3, blk_cell h.out 4, blk_frozen h.out 0, blk_frozen h.out 1, blk_frozen h.out 2, blk_frozen h.out 3, blk_frozen h.out 4⟩
end
section
variable {P : Program} {ops : Array Oper} {rest : List Oper} {o : Oper} {a : Act} {Q : Exit → Act → World → Prop}
theorem bx_ {W : World} (N : Tmp) (cs : Array Value) (t : TypeId)
  (h : ∀ g, g = W.heap.size → ∀ w1, w1.heap[g]? = some (.cells cs t (0, 0)) → Below W.heap.size W w1 → wpList P ops Q rest (a.put o.dst (.pointer (some ⟨g, 0, none⟩))) w1)
  (hgd : o.guard = none := by rfl) (hd : o.dst = some N := by rfl)
  (hrun : (execOp a.eval o).run P W = .ok (.value (.pointer (some ⟨W.heap.size, 0, none⟩))) (W.alloc (.cells cs t (0, 0))) := by first | (go_simp; done) | (go_simp; rfl)) : wpList P ops Q (o :: rest) a W :=
 box_event hgd hd hrun h
theorem gL_ {w : World} (N : Option Tmp) {f : FuncId} {fn : Func} {as_ : Array Operand} {ts : Array TypeId} (hf : P.funcs[f]? = some fn) (args : Array Value)
  (h : Calls P f args w fun e w' => ∃ v, e = .returned v ∧ wpList P ops Q rest (a.put N v) w')
  (hd : o.dst = N := by rfl) (hg : o.guard = none := by rfl) (hop : o.op = .call { callee := .value (.func f), args := as_, argTypes := ts } := by rfl)
  (hargs : as_.map a.eval = args := by (try simp only [List.map_toArray, List.map_cons, List.map_nil]); first | done | rfl | (simp only [List.length_drop, List.length_take]; rfl))
  (hname : (fn.name == "runtime.NumGoroutine") = false := by kernel_rfl) (hb : fn.body.isSome = true := by rfl) : wpList P ops Q (o :: rest) a w :=
 goesL_ N hd hg hf hname hb args hop hargs h
end
end Go.Proofs.Ytbifdckfglejkaa.X
namespace Go.Proofs.Ytbifdckfglejkaa.X
open Go.RowKit Go.Proofs.YtbifdckfglejkaaW.PrintWords Go.Proofs.YtbifdckfglejkaaW.PrintLast Go.Proofs.YtbifdckfglejkaaW.PrintMore
attribute [local go_sem] max2_int min2_int max_two min_two max_three min_three max_four min_four   -- for this text's walks alone
set_option linter.unusedVariables false
set_option linter.unusedSimpArgs false
def spec_l1In.f (a0 : Int) (a1 : Int) (a2 : Int) : Option (Bool) := if a0 ≥ a1 then (some (decide (a0 ≤ a2))) else (some false)
set_option maxHeartbeats 8000000 in
set_option maxRecDepth 100000 in
theorem spec_l1In.calls (a0 : Int) (a1 : Int) (a2 : Int) (r : Bool) (w : World) (h : spec_l1In.f a0 a1 a2 = some r) :
  Calls Try.prog 67 #[.int .i64 a0, .int .i64 a1, .int .i64 a2] w fun e w' => e = .returned (.bool r) ∧ Drawn0 w w' := by
 have H : (if a0 ≥ a1 then (some (decide (a0 ≤ a2))) else (some false)) = some r := h
 clear h
 by_cases c4 : a0 ≥ a1
 ·rw [if_pos c4] at H
  have c4b0 : decide (a1 ≤ a0) = true := decide_eq_true c4
  clear c4
  obtain rfl := Option.some.inj H
  go_enter Try.func67, Try.ntmps67
  go_wp2
  go_ret
  exact ⟨by first | rfl | (simp; done) | (simp [*]; done), by repeat (first | exact Drawn0.refl _ | apply Drawn0.step)⟩
 ·rw [if_neg c4] at H
  have c4b0 : decide (a1 ≤ a0) = false := decide_eq_false c4
  clear c4
  obtain rfl := Option.some.inj H
  go_enter Try.func67, Try.ntmps67
  go_wp2
  go_ret
  exact ⟨by first | rfl | (simp; done) | (simp [*]; done), by repeat (first | exact Drawn0.refl _ | apply Drawn0.step)⟩
end Go.Proofs.Ytbifdckfglejkaa.X
namespace Go.Proofs.Ytbifdckfglejkaa.X
open Go.RowKit Go.Proofs.YtbifdckfglejkaaW.PrintWords Go.Proofs.YtbifdckfglejkaaW.PrintLast Go.Proofs.YtbifdckfglejkaaW.PrintMore
attribute [local go_sem] max2_int min2_int max_two min_two max_three min_three max_four min_four   -- for this text's walks alone
set_option linter.unusedVariables false
set_option linter.unusedSimpArgs false
def spec_LabelOk.f (a0 : Int) : Option (Bool) := (spec_l1In.f a0 0 5).bind fun t132 => (some t132)
set_option maxHeartbeats 8000000 in
set_option maxRecDepth 100000 in
theorem spec_LabelOk.calls (a0 : Int) (r : Bool) (w : World) (h : spec_LabelOk.f a0 = some r) :
  Calls Try.prog 69 #[.int .i64 a0] w fun e w' => e = .returned (.bool r) ∧ Drawn0 w w' := by
 have H : ((spec_l1In.f a0 0 5).bind fun t132 => (some t132)) = some r := h
 clear h
 replace H := Option.bind_eq_some_iff.mp H
 obtain ⟨t132, A20, H⟩ := H
 replace H : (some t132) = some r := H
 have A2 := Aside0.mk A20
 clear A20
 obtain rfl := Option.some.inj H
 go_enter Try.func69, Try.ntmps69
 go_wp2_with (first | ((with_reducible refine gate_callee (f := 67) rfl ?_); refine gL_ (some 4) Try.func67 #[.int .i64 a0, .int .i64 0, .int .i64 5] ?_; (with_reducible refine (spec_l1In.calls a0 0 5 t132 _ A2.out).mono ?_); rintro e w' ⟨rfl, ⟨nd, rfl⟩⟩; refine ⟨_, rfl, ?_⟩))
 go_ret
 exact ⟨by first | rfl | (simp; done) | (simp [*]; done), by repeat (first | exact Drawn0.refl _ | apply Drawn0.step)⟩
end Go.Proofs.Ytbifdckfglejkaa.X
namespace Go.Proofs.Ytbifdckfglejkaa.X
open Go.RowKit Go.Proofs.YtbifdckfglejkaaW.PrintWords Go.Proofs.YtbifdckfglejkaaW.PrintLast Go.Proofs.YtbifdckfglejkaaW.PrintMore
attribute [local go_sem] max2_int min2_int max_two min_two max_three min_three max_four min_four   -- for this text's walks alone
set_option linter.unusedVariables false
set_option linter.unusedSimpArgs false
def spec_TreeOk.l0 : Nat → List (S90) → Int → Option (Bool)
 | 0, _, _ => none
 | k + 1, x0, x3 => if x3 < (x0.length : Int) then (if 0 ≤ x3 then ((spec_LabelOk.f ((rd_T90 x0 x3).f0)).bind fun t465 => (if t465 = true then ((spec_l1In.f ((rd_T90 x0 x3).f1) 0 12).bind fun t467 => (if t467 = true then (if ((((rd_T90 x0 x3).f1) == 0) != (x3 == 0)) = true then (some false) else (if x3 > 0 then (if 0 ≤ (wrap64 (x3 - 1)) then (if (wrap64 (x3 - 1)) < (x0.length : Int) then (if ((rd_T90 x0 x3).f1) > (wrap64 (((rd_T90 x0 (wrap64 (x3 - 1))).f1) + 1)) then (some false) else (spec_TreeOk.l0 k x0 (wrap64 (x3 + 1)))) else (none)) else (none)) else (spec_TreeOk.l0 k x0 (wrap64 (x3 + 1))))) else (some false))) else (some false))) else (none)) else ((spec_l1In.f (x0.length : Int) 1 24).bind fun t463 => (some t463))
def spec_TreeOk.f (k : Nat) (l0 : List (S90)) : Option (Bool) := spec_TreeOk.l0 k l0 0
def spec_TreeOk.T4 : Bool × List (List Nat × List Nat) := (true, [([], []), ([], []), ([0, 1], [0, 1]), ([2], [2]), ([3], [3]), ([4], [4]), ([5], [5]), ([6, 5], [6]), ([7], [7]), ([7], [7]), ([8, 9, 7], [7, 8, 9]), ([10, 7], [7, 10]), ([11, 7], [7, 11]), ([12, 7, 7], [7, 12]), ([13, 7], [7, 13]), ([7, 14], [7, 14]), ([15, 13], [15]), ([16], [16]), ([16], [16]), ([17, 18, 16], [16, 17, 18]), ([19, 16], [16, 19]), ([20, 16], [16, 20]), ([21, 16], [16, 21]), ([16], [16]), ([23, 16], [16, 23]), ([22, 24, 16], [16, 22, 24]), ([16, 25], [16, 25]), ([26, 16], [26]), ([27], [27]), ([28, 27], [27, 28]), ([29, 27, 27], [27, 29]), ([30], [30]), ([30], [30]), ([31, 32, 30], [30, 31, 32]), ([33, 30], [30, 33]), ([34, 30], [30, 34]), ([30], [30]), ([30], [30]), ([37, 30], [30, 37]), ([36, 38, 30], [30, 36, 38]), ([39, 30], [30, 39]), ([40, 30], [30, 40]), ([41, 30], [30, 41]), ([35, 42, 30], [30, 35, 42]), ([30, 43, 27], [27, 30, 43]), ([27, 44], [27, 44])])
def spec_TreeOk.B4 : List Nat := [0, 0, 3, 7, 15, 31, 63, 127, 255, 255, 1023, 2047, 4095, 8191, 16383, 32767, 65535, 131071, 131071, 524287, 1048575, 2097151, 4194303, 131071, 8519679, 33554431, 67108863, 134217727, 268435455, 536870911, 1073741823, 2147483647, 2147483647, 8589934591, 17179869183, 34359738367, 2147483647, 2147483647, 139586437119, 483183820799, 1032939634687, 2132451262463, 4331474518015, 8796093022207, 17592186044415, 35184372088831]
theorem spec_TreeOk.tab4 : rtab .any (opsOf Try.f64 4) = spec_TreeOk.T4 := by kernel_rfl
theorem spec_TreeOk.bits4 : waitsOk spec_TreeOk.T4.2 spec_TreeOk.B4 = true := by kernel_rfl
set_option maxHeartbeats 8000000 in
set_option maxRecDepth 100000 in
theorem spec_TreeOk.calls (k : Nat) (A0 : Option Addr) (c0 : Nat) (l0 : List (S90)) (r : Bool) (w : World) (hr0 : Kd.C k90 w A0 l0.length l0) (hc0 : l0.length ≤ c0) (h : spec_TreeOk.f k l0 = some r) :
  Calls Try.prog 64 #[.slice A0 l0.length c0] w fun e w' => e = .returned (.bool r) ∧ Below w.heap.size w w' := by
 have HR0 := Aside0.mk hr0
 have HC0 := Aside0.mk hc0
 clear hr0 hc0
 have HB := Aside0.mk (Below.refl w.heap.size w)
 have H : (spec_TreeOk.l0 k l0 0) = some r := h
 clear h
 have H' := Aside0.mk H
 clear H
 go_enter Try.func64, Try.ntmps64
 go_wp2
 go_loopg [3] k (fun kq v3 w' => ∃ (x3_1 : Int), v3 = .int .i64 x3_1 ∧ Aside0 (spec_TreeOk.l0 kq l0 x3_1 = some r) ∧ Aside0 (kq ≤ k) ∧ Aside0 (Below w.heap.size w w'))
 case atStart => exact ⟨(0), eb_, H', ⟨Nat.le_refl _⟩, bl_ HB⟩
 case round =>
  clear H'
  obtain ⟨x3_1, rfl, HA, HK1, HB⟩ := hrel
  cases gk with
  | zero => exact absurd HA.out (by simp [spec_TreeOk.l0])
  | succ k1 =>
   have H := HA.out
   clear HA
   simp only [spec_TreeOk.l0] at H
   by_cases c2 : x3_1 < (l0.length : Int)
   ·rw [if_pos c2] at H
    have c2b0 : decide (x3_1 < (l0.length : Int)) = true := decide_eq_true c2
    clear c2
    by_cases c3 : 0 ≤ x3_1
    ·rw [if_pos c3] at H
     have c3b0 : decide (0 ≤ x3_1) = true := decide_eq_true c3
     clear c3
     replace H := Option.bind_eq_some_iff.mp H
     obtain ⟨t465, A40, H⟩ := H
     try dsimp only at H
     have A4 := Aside0.mk A40
     clear A40
     by_cases c5 : t465 = true
     ·subst c5
      have H1 : ((spec_l1In.f ((rd_T90 l0 x3_1).f1) 0 12).bind fun t467 => (if t467 = true then (if ((((rd_T90 l0 x3_1).f1) == 0) != (x3_1 == 0)) = true then (some false) else (if x3_1 > 0 then (if 0 ≤ (wrap64 (x3_1 - 1)) then (if (wrap64 (x3_1 - 1)) < (l0.length : Int) then (if ((rd_T90 l0 x3_1).f1) > (wrap64 (((rd_T90 l0 (wrap64 (x3_1 - 1))).f1) + 1)) then (some false) else (spec_TreeOk.l0 k1 l0 (wrap64 (x3_1 + 1)))) else (none)) else (none)) else (spec_TreeOk.l0 k1 l0 (wrap64 (x3_1 + 1))))) else (some false))) = some r := by rw [if_pos rfl] at H; exact H
      clear H
      have H := H1
      clear H1
      replace H := Option.bind_eq_some_iff.mp H
      obtain ⟨t467, A60, H⟩ := H
      try dsimp only at H
      have A6 := Aside0.mk A60
      clear A60
      by_cases c7 : t467 = true
      ·subst c7
       have H1 : (if ((((rd_T90 l0 x3_1).f1) == 0) != (x3_1 == 0)) = true then (some false) else (if x3_1 > 0 then (if 0 ≤ (wrap64 (x3_1 - 1)) then (if (wrap64 (x3_1 - 1)) < (l0.length : Int) then (if ((rd_T90 l0 x3_1).f1) > (wrap64 (((rd_T90 l0 (wrap64 (x3_1 - 1))).f1) + 1)) then (some false) else (spec_TreeOk.l0 k1 l0 (wrap64 (x3_1 + 1)))) else (none)) else (none)) else (spec_TreeOk.l0 k1 l0 (wrap64 (x3_1 + 1))))) = some r := by rw [if_pos rfl] at H; exact H
       clear H
       have H := H1
       clear H1
       by_cases c8 : ((((rd_T90 l0 x3_1).f1) == 0) != (x3_1 == 0)) = true
       ·rw [if_pos c8] at H
        have c8b0 : ((((rd_T90 l0 x3_1).f1) == 0) != (x3_1 == 0)) = true := c8
        (try (have c8b1 : decide ((((rd_T90 l0 x3_1).f1) == 0) = (x3_1 == 0)) = false := by simpa using c8))
        (try (have c8b2 : ((((rd_T90 l0 x3_1).f1) == 0) == (x3_1 == 0)) = false := by simpa using c8))
        (try (have c8b3 : ¬ ((((rd_T90 l0 x3_1).f1) == 0) = (x3_1 == 0)) := by simpa using c8))
        clear c8
        obtain rfl := Option.some.inj H
        try go_wp2
        have n0_ := Aside0.mk (below_drew1 HB.out)
        clear HB
        have HB := n0_
        clear n0_
        have p464 : 0 ≤ (x3_1 : Int) := od_
        have q464 : x3_1 < (l0.length : Int) := od_
        obtain ⟨ad464, e464, hx464_0, hx464_1⟩ := at_T90 HR0.out x3_1 p464 q464
        have hw464_1 := hx464_1
        have hw464_0 := hx464_0
        cases e464
        replace hx464_0 := ce_ HB hx464_0
        replace hx464_1 := ce_ HB hx464_1
        replace p464 := eq_true p464
        replace q464 := eq_true q464
        have p466 : 0 ≤ (x3_1 : Int) := od_
        have q466 : x3_1 < (l0.length : Int) := od_
        obtain ⟨ad466, e466, hx466_0, hx466_1⟩ := at_T90 HR0.out x3_1 p466 q466
        have hw466_1 := hx466_1
        have hw466_0 := hx466_0
        obtain rfl : ad464 = ad466 := (by injection e466)
        replace hx466_0 := ce_ HB hx466_0
        replace hx466_1 := ce_ HB hx466_1
        replace p466 := eq_true p466
        replace q466 := eq_true q466
        have p468 : 0 ≤ (x3_1 : Int) := od_
        have q468 : x3_1 < (l0.length : Int) := od_
        obtain ⟨ad468, e468, hx468_0, hx468_1⟩ := at_T90 HR0.out x3_1 p468 q468
        have hw468_1 := hx468_1
        have hw468_0 := hx468_0
        obtain rfl : ad464 = ad468 := (by injection e468)
        replace hx468_0 := ce_ HB hx468_0
        replace hx468_1 := ce_ HB hx468_1
        replace p468 := eq_true p468
        replace q468 := eq_true q468
        refine start_ (n := 46) (S := fun w' => w'.cell? (ad464.add ((x3_1).toNat * 2)) = some (.int .i64 ((rd_T90 l0 x3_1).f0)) ∧ w'.cell? ⟨(ad464.add ((x3_1).toNat * 2)).block, (ad464.add ((x3_1).toNat * 2)).off + 1, none⟩ = some (.int .i64 ((rd_T90 l0 x3_1).f1)) ∧ w'.cell? (ad464.add ((x3_1).toNat * 2)) = some (.int .i64 ((rd_T90 l0 x3_1).f0)) ∧ w'.cell? ⟨(ad464.add ((x3_1).toNat * 2)).block, (ad464.add ((x3_1).toNat * 2)).off + 1, none⟩ = some (.int .i64 ((rd_T90 l0 x3_1).f1)) ∧ w'.cell? (ad464.add ((x3_1).toNat * 2)) = some (.int .i64 ((rd_T90 l0 x3_1).f0)) ∧ w'.cell? ⟨(ad464.add ((x3_1).toNat * 2)).block, (ad464.add ((x3_1).toNat * 2)).off + 1, none⟩ = some (.int .i64 ((rd_T90 l0 x3_1).f1))) (ds := []) (ba_ 46 0) (by kernel_rfl) rfl rfl ⟨(ce_ HB hw464_0), (ce_ HB hw464_1), (ce_ HB hw466_0), (ce_ HB hw466_1), (ce_ HB hw468_0), (ce_ HB hw468_1)⟩ (fun hHeld => ?_); refine with_tabW spec_TreeOk.tab4 spec_TreeOk.bits4 (fun HT_ HW_ => ?_)
        generalize wr.drew = w9 at HB hx464_0 hx464_1 hx466_0 hx466_1 hx468_0 hx468_1 hHeld ⊢
        refine pu_ 0 (some 10) (ba_ 46 1) rfl rfl (any_of HT_.out (by kernel_rfl)) ?_
        refine pu_ 1 (some 11) (ba_ 46 3) rfl rfl (any_of HT_.out (by kernel_rfl)) ?_
        refine pu_ 2 (some 12) (ba_ 46 7) rfl rfl (any_of HT_.out (by kernel_rfl)) ?_
        refine pu_ 3 (some 13) (ba_ 46 15) rfl rfl (any_of HT_.out (by kernel_rfl)) ?_
        refine ta_ 4 (some 14) (ba_ 46 31) rfl rfl (take_ofW HT_.out HW_.out (by kernel_rfl)) hHeld (by rintro w' ⟨s0, s1, s2, s3, s4, s5⟩; go_simp; with_reducible rfl) ?_
        refine one_ (i := 5) (N := some 15) (ba_ 46 63) rfl rfl (one_of HT_.out (by kernel_rfl)) (by decide) (fun K hK => ?_)
        refine goes_ Try.func69 (by kernel_rfl) rfl #[.int .i64 ((rd_T90 l0 x3_1).f0)] (by rfl) rfl rfl (by (try simp only [List.map_toArray, List.map_cons, List.map_nil]); first | done | rfl | (simp only [List.length_drop, List.length_take]; rfl)) ?_
        with_reducible refine (spec_LabelOk.calls ((rd_T90 l0 x3_1).f0) true _ A4.out).mono ?_
        rintro e w' ⟨rfl, ⟨nd, rfl⟩⟩
        refine ⟨_, rfl, ?_⟩
        refine hK.out _ _ ⟨(ce_ HB hw464_0), (ce_ HB hw464_1), (ce_ HB hw466_0), (ce_ HB hw466_1), (ce_ HB hw468_0), (ce_ HB hw468_1)⟩ (fun hHeld => ?_)
        clear hK K
        refine norm_ (a' := ?_) ?_ ?_
        rotate_left
        ·show Act.put _ (some 15) _ = _
         simp only [Act.put, List.setIfInBounds_toArray, List.set_cons_zero, List.set_cons_succ, i64_w, i32_w]
         rfl
        refine pu_ 6 (some 16) (ba_ 46 127) rfl rfl (any_of HT_.out (by kernel_rfl)) ?_
        refine pu_ 7 (some 17) (ba_ 46 255) rfl rfl (any_of HT_.out (by kernel_rfl)) ?_
        refine pu_ 8 (some 18) (ba_ 46 511) rfl rfl (any_of HT_.out (by kernel_rfl)) ?_
        refine pu_ 9 (some 19) (ba_ 46 1023) rfl rfl (any_of HT_.out (by kernel_rfl)) ?_
        refine pu_ 10 (some 20) (ba_ 46 2047) rfl rfl (any_of HT_.out (by kernel_rfl)) ?_
        refine pu_ 11 (some 21) (ba_ 46 4095) rfl rfl (any_of HT_.out (by kernel_rfl)) ?_
        refine ta_ 12 (some 22) (ba_ 46 8191) rfl rfl (take_ofW HT_.out HW_.out (by kernel_rfl)) hHeld (by rintro w' ⟨s0, s1, s2, s3, s4, s5⟩; go_simp; with_reducible rfl) ?_
        refine one_ (i := 13) (N := some 23) (ba_ 46 16383) rfl rfl (one_of HT_.out (by kernel_rfl)) (by decide) (fun K hK => ?_)
        refine goes_ Try.func67 (by kernel_rfl) rfl #[.int .i64 ((rd_T90 l0 x3_1).f1), .int .i64 0, .int .i64 12] (by rfl) rfl rfl (by (try simp only [List.map_toArray, List.map_cons, List.map_nil]); first | done | rfl | (simp only [List.length_drop, List.length_take]; rfl)) ?_
        with_reducible refine (spec_l1In.calls ((rd_T90 l0 x3_1).f1) 0 12 true _ A6.out).mono ?_
        rintro e w' ⟨rfl, ⟨nd, rfl⟩⟩
        refine ⟨_, rfl, ?_⟩
        refine hK.out _ _ ⟨(ce_ HB hw464_0), (ce_ HB hw464_1), (ce_ HB hw466_0), (ce_ HB hw466_1), (ce_ HB hw468_0), (ce_ HB hw468_1)⟩ (fun hHeld => ?_)
        clear hK K
        refine norm_ (a' := ?_) ?_ ?_
        rotate_left
        ·show Act.put _ (some 23) _ = _
         simp only [Act.put, List.setIfInBounds_toArray, List.set_cons_zero, List.set_cons_succ, i64_w, i32_w]
         rfl
        refine pu_ 14 (some 24) (ba_ 46 32767) rfl rfl (any_of HT_.out (by kernel_rfl)) ?_
        refine pu_ 15 (some 25) (ba_ 46 65535) rfl rfl (any_of HT_.out (by kernel_rfl)) ?_
        refine pu_ 16 (some 26) (ba_ 46 131071) rfl rfl (any_of HT_.out (by kernel_rfl)) ?_
        refine pu_ 17 (some 27) (ba_ 46 262143) rfl rfl (any_of HT_.out (by kernel_rfl)) ?_
        refine pu_ 18 (some 28) (ba_ 46 524287) rfl rfl (any_of HT_.out (by kernel_rfl)) ?_
        refine pu_ 19 (some 29) (ba_ 46 1048575) rfl rfl (any_of HT_.out (by kernel_rfl)) ?_
        refine pu_ 20 (some 30) (ba_ 46 2097151) rfl rfl (any_of HT_.out (by kernel_rfl)) ?_
        refine pu_ 23 (some 33) (ba_ 46 10485759) rfl rfl (any_of HT_.out (by kernel_rfl)) ?_
        refine pu_ 24 (some 34) (ba_ 46 27262975) rfl rfl (any_of HT_.out (by kernel_rfl)) ?_
        refine ta_ 21 (some 31) (ba_ 46 29360127) rfl rfl (take_ofW HT_.out HW_.out (by kernel_rfl)) hHeld (by rintro w' ⟨s0, s1, s2, s3, s4, s5⟩; go_simp; with_reducible rfl) ?_
        refine pu_ 22 (some 32) (ba_ 46 33554431) rfl rfl (any_of HT_.out (by kernel_rfl)) ?_
        refine pu_ 25 (some 35) (ba_ 46 67108863) rfl rfl (any_of HT_.out (by kernel_rfl)) ?_
        refine pu_ 26 (some 36) (ba_ 46 134217727) rfl rfl (any_of HT_.out (by kernel_rfl)) ?_
        refine pu_ 27 (some 37) (ba_ 46 268435455) rfl rfl (any_of HT_.out (by kernel_rfl)) ?_
        refine pn_ 28 (some 38) (ba_ 46 536870911) rfl rfl (any_of HT_.out (by kernel_rfl)) ?_
        refine pn_ 29 (some 39) (ba_ 46 1073741823) rfl rfl (any_of HT_.out (by kernel_rfl)) ?_
        refine pn_ 30 (some 40) (ba_ 46 2147483647) rfl rfl (any_of HT_.out (by kernel_rfl)) ?_
        refine pn_ 31 (some 41) (ba_ 46 4294967295) rfl rfl (any_of HT_.out (by kernel_rfl)) ?_
        refine pn_ 32 (some 42) (ba_ 46 8589934591) rfl rfl (any_of HT_.out (by kernel_rfl)) ?_
        refine pn_ 33 (some 43) (ba_ 46 17179869183) rfl rfl (any_of HT_.out (by kernel_rfl)) ?_
        refine pn_ 34 (some 44) (ba_ 46 34359738367) rfl rfl (any_of HT_.out (by kernel_rfl)) ?_
        refine pn_ 35 (some 45) (ba_ 46 68719476735) rfl rfl (any_of HT_.out (by kernel_rfl)) ?_
        refine pn_ 36 (some 46) (ba_ 46 137438953471) rfl rfl (any_of HT_.out (by kernel_rfl)) ?_
        refine pn_ 37 (some 47) (ba_ 46 274877906943) rfl rfl (any_of HT_.out (by kernel_rfl)) ?_
        refine pn_ 38 (some 48) (ba_ 46 549755813887) rfl rfl (any_of HT_.out (by kernel_rfl)) ?_
        refine pn_ 39 (some 49) (ba_ 46 1099511627775) rfl rfl (any_of HT_.out (by kernel_rfl)) ?_
        refine pn_ 40 (some 50) (ba_ 46 2199023255551) rfl rfl (any_of HT_.out (by kernel_rfl)) ?_
        refine pn_ 41 (some 51) (ba_ 46 4398046511103) rfl rfl (any_of HT_.out (by kernel_rfl)) ?_
        refine pn_ 42 (some 52) (ba_ 46 8796093022207) rfl rfl (any_of HT_.out (by kernel_rfl)) ?_
        refine pn_ 43 (some 53) (ba_ 46 17592186044415) rfl rfl (any_of HT_.out (by kernel_rfl)) ?_
        refine pn_ 44 (some 54) (ba_ 46 35184372088831) rfl rfl (any_of HT_.out (by kernel_rfl)) ?_
        refine pu_ 45 (some 55) (ba_ 46 70368744177663) rfl rfl (any_of HT_.out (by kernel_rfl)) ?_
        refine done_ (done_of HT_.out (by kernel_rfl)) ?_
        try go_wp2
        go_ret
        exact ⟨ea_, (bl_ HB).out⟩
       ·rw [if_neg c8] at H
        have c8b0 : ((((rd_T90 l0 x3_1).f1) == 0) != (x3_1 == 0)) = false := by simpa using c8
        (try (have c8b1 : decide ((((rd_T90 l0 x3_1).f1) == 0) = (x3_1 == 0)) = true := by simpa using c8))
        (try (have c8b2 : ((((rd_T90 l0 x3_1).f1) == 0) == (x3_1 == 0)) = true := by simpa using c8))
        clear c8
        by_cases c10 : x3_1 > 0
        ·rw [if_pos c10] at H
         have c10b0 : decide (0 < x3_1) = true := decide_eq_true c10
         clear c10
         obtain ⟨ji11, hji11⟩ : ∃ j_ : Int, (wrap64 (x3_1 - 1)) = j_ := ⟨_, rfl⟩
         replace H : (if 0 ≤ (ji11) then (if (ji11) < (l0.length : Int) then (if ((rd_T90 l0 x3_1).f1) > (wrap64 (((rd_T90 l0 (ji11)).f1) + 1)) then (some false) else (spec_TreeOk.l0 k1 l0 (wrap64 (x3_1 + 1)))) else (none)) else (none)) = some r := by first | (rw [hji11] at H; exact H) | (simp only [hji11] at H ⊢; exact H)
         (try rw [hji11] at A4)
         (try rw [hji11] at A6)
         have hji11w : (IntKind.i64.wrap (x3_1 - 1)) = ji11 := (i64_w _).trans hji11
         by_cases c12 : 0 ≤ (ji11)
         ·rw [if_pos c12] at H
          have c12b0 : decide (0 ≤ (ji11)) = true := decide_eq_true c12
          clear c12
          by_cases c13 : (ji11) < (l0.length : Int)
          ·rw [if_pos c13] at H
           have c13b0 : decide ((ji11) < (l0.length : Int)) = true := decide_eq_true c13
           clear c13
           by_cases c14 : ((rd_T90 l0 x3_1).f1) > (wrap64 (((rd_T90 l0 (ji11)).f1) + 1))
           ·rw [if_pos c14] at H
            have c14b0 : decide ((wrap64 (((rd_T90 l0 (ji11)).f1) + 1)) < ((rd_T90 l0 x3_1).f1)) = true := decide_eq_true c14
            clear c14
            obtain rfl := Option.some.inj H
            try go_wp2
            have n0_ := Aside0.mk (below_drew1 HB.out)
            clear HB
            have HB := n0_
            clear n0_
            have p464 : 0 ≤ (x3_1 : Int) := od_
            have q464 : x3_1 < (l0.length : Int) := od_
            obtain ⟨ad464, e464, hx464_0, hx464_1⟩ := at_T90 HR0.out x3_1 p464 q464
            have hw464_1 := hx464_1
            have hw464_0 := hx464_0
            cases e464
            replace hx464_0 := ce_ HB hx464_0
            replace hx464_1 := ce_ HB hx464_1
            replace p464 := eq_true p464
            replace q464 := eq_true q464
            have p466 : 0 ≤ (x3_1 : Int) := od_
            have q466 : x3_1 < (l0.length : Int) := od_
            obtain ⟨ad466, e466, hx466_0, hx466_1⟩ := at_T90 HR0.out x3_1 p466 q466
            have hw466_1 := hx466_1
            have hw466_0 := hx466_0
            obtain rfl : ad464 = ad466 := (by injection e466)
            replace hx466_0 := ce_ HB hx466_0
            replace hx466_1 := ce_ HB hx466_1
            replace p466 := eq_true p466
            replace q466 := eq_true q466
            have p468 : 0 ≤ (x3_1 : Int) := od_
            have q468 : x3_1 < (l0.length : Int) := od_
            obtain ⟨ad468, e468, hx468_0, hx468_1⟩ := at_T90 HR0.out x3_1 p468 q468
            have hw468_1 := hx468_1
            have hw468_0 := hx468_0
            obtain rfl : ad464 = ad468 := (by injection e468)
            replace hx468_0 := ce_ HB hx468_0
            replace hx468_1 := ce_ HB hx468_1
            replace p468 := eq_true p468
            replace q468 := eq_true q468
            have p469 : 0 ≤ (x3_1 : Int) := od_
            have q469 : x3_1 < (l0.length : Int) := od_
            obtain ⟨ad469, e469, hx469_0, hx469_1⟩ := at_T90 HR0.out x3_1 p469 q469
            have hw469_1 := hx469_1
            have hw469_0 := hx469_0
            obtain rfl : ad464 = ad469 := (by injection e469)
            replace hx469_0 := ce_ HB hx469_0
            replace hx469_1 := ce_ HB hx469_1
            replace p469 := eq_true p469
            replace q469 := eq_true q469
            have p470 : 0 ≤ ((ji11) : Int) := od_
            have q470 : (ji11) < (l0.length : Int) := od_
            obtain ⟨ad470, e470, hx470_0, hx470_1⟩ := at_T90 HR0.out (ji11) p470 q470
            have hw470_1 := hx470_1
            have hw470_0 := hx470_0
            obtain rfl : ad464 = ad470 := (by injection e470)
            replace hx470_0 := ce_ HB hx470_0
            replace hx470_1 := ce_ HB hx470_1
            replace p470 := eq_true p470
            replace q470 := eq_true q470
            refine start_ (n := 46) (S := fun w' => w'.cell? (ad464.add ((x3_1).toNat * 2)) = some (.int .i64 ((rd_T90 l0 x3_1).f0)) ∧ w'.cell? ⟨(ad464.add ((x3_1).toNat * 2)).block, (ad464.add ((x3_1).toNat * 2)).off + 1, none⟩ = some (.int .i64 ((rd_T90 l0 x3_1).f1)) ∧ w'.cell? (ad464.add ((x3_1).toNat * 2)) = some (.int .i64 ((rd_T90 l0 x3_1).f0)) ∧ w'.cell? ⟨(ad464.add ((x3_1).toNat * 2)).block, (ad464.add ((x3_1).toNat * 2)).off + 1, none⟩ = some (.int .i64 ((rd_T90 l0 x3_1).f1)) ∧ w'.cell? (ad464.add ((x3_1).toNat * 2)) = some (.int .i64 ((rd_T90 l0 x3_1).f0)) ∧ w'.cell? ⟨(ad464.add ((x3_1).toNat * 2)).block, (ad464.add ((x3_1).toNat * 2)).off + 1, none⟩ = some (.int .i64 ((rd_T90 l0 x3_1).f1)) ∧ w'.cell? (ad464.add ((x3_1).toNat * 2)) = some (.int .i64 ((rd_T90 l0 x3_1).f0)) ∧ w'.cell? ⟨(ad464.add ((x3_1).toNat * 2)).block, (ad464.add ((x3_1).toNat * 2)).off + 1, none⟩ = some (.int .i64 ((rd_T90 l0 x3_1).f1)) ∧ w'.cell? (ad464.add (((ji11)).toNat * 2)) = some (.int .i64 ((rd_T90 l0 (ji11)).f0)) ∧ w'.cell? ⟨(ad464.add (((ji11)).toNat * 2)).block, (ad464.add (((ji11)).toNat * 2)).off + 1, none⟩ = some (.int .i64 ((rd_T90 l0 (ji11)).f1))) (ds := []) (ba_ 46 0) (by kernel_rfl) rfl rfl ⟨(ce_ HB hw464_0), (ce_ HB hw464_1), (ce_ HB hw466_0), (ce_ HB hw466_1), (ce_ HB hw468_0), (ce_ HB hw468_1), (ce_ HB hw469_0), (ce_ HB hw469_1), (ce_ HB hw470_0), (ce_ HB hw470_1)⟩ (fun hHeld => ?_); refine with_tabW spec_TreeOk.tab4 spec_TreeOk.bits4 (fun HT_ HW_ => ?_)
            generalize wr.drew = w15 at HB hx464_0 hx464_1 hx466_0 hx466_1 hx468_0 hx468_1 hx469_0 hx469_1 hx470_0 hx470_1 hHeld ⊢
            refine pu_ 0 (some 10) (ba_ 46 1) rfl rfl (any_of HT_.out (by kernel_rfl)) ?_
            refine pu_ 1 (some 11) (ba_ 46 3) rfl rfl (any_of HT_.out (by kernel_rfl)) ?_
            refine pu_ 2 (some 12) (ba_ 46 7) rfl rfl (any_of HT_.out (by kernel_rfl)) ?_
            refine pu_ 3 (some 13) (ba_ 46 15) rfl rfl (any_of HT_.out (by kernel_rfl)) ?_
            refine ta_ 4 (some 14) (ba_ 46 31) rfl rfl (take_ofW HT_.out HW_.out (by kernel_rfl)) hHeld (by rintro w' ⟨s0, s1, s2, s3, s4, s5, s6, s7, s8, s9⟩; go_simp; with_reducible rfl) ?_
            refine one_ (i := 5) (N := some 15) (ba_ 46 63) rfl rfl (one_of HT_.out (by kernel_rfl)) (by decide) (fun K hK => ?_)
            refine goes_ Try.func69 (by kernel_rfl) rfl #[.int .i64 ((rd_T90 l0 x3_1).f0)] (by rfl) rfl rfl (by (try simp only [List.map_toArray, List.map_cons, List.map_nil]); first | done | rfl | (simp only [List.length_drop, List.length_take]; rfl)) ?_
            with_reducible refine (spec_LabelOk.calls ((rd_T90 l0 x3_1).f0) true _ A4.out).mono ?_
            rintro e w' ⟨rfl, ⟨nd, rfl⟩⟩
            refine ⟨_, rfl, ?_⟩
            refine hK.out _ _ ⟨(ce_ HB hw464_0), (ce_ HB hw464_1), (ce_ HB hw466_0), (ce_ HB hw466_1), (ce_ HB hw468_0), (ce_ HB hw468_1), (ce_ HB hw469_0), (ce_ HB hw469_1), (ce_ HB hw470_0), (ce_ HB hw470_1)⟩ (fun hHeld => ?_)
            clear hK K
            refine norm_ (a' := ?_) ?_ ?_
            rotate_left
            ·show Act.put _ (some 15) _ = _
             simp only [Act.put, List.setIfInBounds_toArray, List.set_cons_zero, List.set_cons_succ, i64_w, i32_w]
             rfl
            refine pu_ 6 (some 16) (ba_ 46 127) rfl rfl (any_of HT_.out (by kernel_rfl)) ?_
            refine pu_ 7 (some 17) (ba_ 46 255) rfl rfl (any_of HT_.out (by kernel_rfl)) ?_
            refine pu_ 8 (some 18) (ba_ 46 511) rfl rfl (any_of HT_.out (by kernel_rfl)) ?_
            refine pu_ 9 (some 19) (ba_ 46 1023) rfl rfl (any_of HT_.out (by kernel_rfl)) ?_
            refine pu_ 10 (some 20) (ba_ 46 2047) rfl rfl (any_of HT_.out (by kernel_rfl)) ?_
            refine pu_ 11 (some 21) (ba_ 46 4095) rfl rfl (any_of HT_.out (by kernel_rfl)) ?_
            refine ta_ 12 (some 22) (ba_ 46 8191) rfl rfl (take_ofW HT_.out HW_.out (by kernel_rfl)) hHeld (by rintro w' ⟨s0, s1, s2, s3, s4, s5, s6, s7, s8, s9⟩; go_simp; with_reducible rfl) ?_
            refine one_ (i := 13) (N := some 23) (ba_ 46 16383) rfl rfl (one_of HT_.out (by kernel_rfl)) (by decide) (fun K hK => ?_)
            refine goes_ Try.func67 (by kernel_rfl) rfl #[.int .i64 ((rd_T90 l0 x3_1).f1), .int .i64 0, .int .i64 12] (by rfl) rfl rfl (by (try simp only [List.map_toArray, List.map_cons, List.map_nil]); first | done | rfl | (simp only [List.length_drop, List.length_take]; rfl)) ?_
            with_reducible refine (spec_l1In.calls ((rd_T90 l0 x3_1).f1) 0 12 true _ A6.out).mono ?_
            rintro e w' ⟨rfl, ⟨nd, rfl⟩⟩
            refine ⟨_, rfl, ?_⟩
            refine hK.out _ _ ⟨(ce_ HB hw464_0), (ce_ HB hw464_1), (ce_ HB hw466_0), (ce_ HB hw466_1), (ce_ HB hw468_0), (ce_ HB hw468_1), (ce_ HB hw469_0), (ce_ HB hw469_1), (ce_ HB hw470_0), (ce_ HB hw470_1)⟩ (fun hHeld => ?_)
            clear hK K
            refine norm_ (a' := ?_) ?_ ?_
            rotate_left
            ·show Act.put _ (some 23) _ = _
             simp only [Act.put, List.setIfInBounds_toArray, List.set_cons_zero, List.set_cons_succ, i64_w, i32_w]
             rfl
            refine pu_ 14 (some 24) (ba_ 46 32767) rfl rfl (any_of HT_.out (by kernel_rfl)) ?_
            refine pu_ 15 (some 25) (ba_ 46 65535) rfl rfl (any_of HT_.out (by kernel_rfl)) ?_
            refine pu_ 16 (some 26) (ba_ 46 131071) rfl rfl (any_of HT_.out (by kernel_rfl)) ?_
            refine pu_ 17 (some 27) (ba_ 46 262143) rfl rfl (any_of HT_.out (by kernel_rfl)) ?_
            refine pu_ 18 (some 28) (ba_ 46 524287) rfl rfl (any_of HT_.out (by kernel_rfl)) ?_
            refine pu_ 19 (some 29) (ba_ 46 1048575) rfl rfl (any_of HT_.out (by kernel_rfl)) ?_
            refine pu_ 20 (some 30) (ba_ 46 2097151) rfl rfl (any_of HT_.out (by kernel_rfl)) ?_
            refine pu_ 23 (some 33) (ba_ 46 10485759) rfl rfl (any_of HT_.out (by kernel_rfl)) ?_
            refine pu_ 24 (some 34) (ba_ 46 27262975) rfl rfl (any_of HT_.out (by kernel_rfl)) ?_
            refine ta_ 21 (some 31) (ba_ 46 29360127) rfl rfl (take_ofW HT_.out HW_.out (by kernel_rfl)) hHeld (by rintro w' ⟨s0, s1, s2, s3, s4, s5, s6, s7, s8, s9⟩; go_simp; with_reducible rfl) ?_
            refine pu_ 22 (some 32) (ba_ 46 33554431) rfl rfl (any_of HT_.out (by kernel_rfl)) ?_
            refine pu_ 25 (some 35) (ba_ 46 67108863) rfl rfl (any_of HT_.out (by kernel_rfl)) ?_
            refine pu_ 26 (some 36) (ba_ 46 134217727) rfl rfl (any_of HT_.out (by kernel_rfl)) ?_
            refine pu_ 27 (some 37) (ba_ 46 268435455) rfl rfl (any_of HT_.out (by kernel_rfl)) ?_
            refine pu_ 28 (some 38) (ba_ 46 536870911) rfl rfl (any_of HT_.out (by kernel_rfl)) ?_
            refine pu_ 29 (some 39) (ba_ 46 1073741823) rfl rfl (any_of HT_.out (by kernel_rfl)) ?_
            refine pu_ 30 (some 40) (ba_ 46 2147483647) rfl rfl (any_of HT_.out (by kernel_rfl)) ?_
            refine pu_ 31 (some 41) (ba_ 46 4294967295) rfl rfl (any_of HT_.out (by kernel_rfl)) ?_
            refine pu_ 32 (some 42) (ba_ 46 8589934591) rfl rfl (any_of HT_.out (by kernel_rfl)) ?_
            refine pu_ 33 (some 43) (ba_ 46 17179869183) rfl rfl (any_of HT_.out (by kernel_rfl)) ?_
            refine pu_ 34 (some 44) (ba_ 46 34359738367) rfl rfl (any_of HT_.out (by kernel_rfl)) ?_
            refine pu_ 36 (some 46) (ba_ 46 103079215103) rfl rfl (any_of HT_.out (by kernel_rfl)) ?_
            refine pu_ 37 (some 47) (ba_ 46 240518168575) rfl rfl (any_of HT_.out (by kernel_rfl)) ?_
            refine pu_ 38 (some 48) (ba_ 46 515396075519) rfl rfl (any_of HT_.out (by kernel_rfl)) ?_
            refine pu_ 39 (some 49) (ba_ 46 1065151889407) rfl rfl (any_of HT_.out (by kernel_rfl)) ?_
            refine pu_ 40 (some 50) (ba_ 46 2164663517183) rfl rfl (any_of HT_.out (by kernel_rfl)) ?_
            refine ta_ 35 (some 45) (ba_ 46 2199023255551) rfl rfl (take_ofW HT_.out HW_.out (by kernel_rfl)) hHeld (by rintro w' ⟨s0, s1, s2, s3, s4, s5, s6, s7, s8, s9⟩; go_simp; with_reducible rfl) ?_
            refine ta_ 41 (some 51) (ba_ 46 4398046511103) rfl rfl (take_ofW HT_.out HW_.out (by kernel_rfl)) hHeld (by rintro w' ⟨s0, s1, s2, s3, s4, s5, s6, s7, s8, s9⟩; go_simp; with_reducible rfl) ?_
            refine pu_ 42 (some 52) (ba_ 46 8796093022207) rfl rfl (any_of HT_.out (by kernel_rfl)) ?_
            refine pu_ 43 (some 53) (ba_ 46 17592186044415) rfl rfl (any_of HT_.out (by kernel_rfl)) ?_
            refine pu_ 44 (some 54) (ba_ 46 35184372088831) rfl rfl (any_of HT_.out (by kernel_rfl)) ?_
            refine pu_ 45 (some 55) (ba_ 46 70368744177663) rfl rfl (any_of HT_.out (by kernel_rfl)) ?_
            refine done_ (done_of HT_.out (by kernel_rfl)) ?_
            try go_wp2
            go_ret
            exact ⟨by first | rfl | (simp [errW_none, errW_some] <;> rfl) | (simp only [← hji11]; first | rfl | (simp [errW_none, errW_some] <;> rfl)) | (simp [*, errW_none, errW_some] <;> rfl), (bl_ HB).out⟩
           ·rw [if_neg c14] at H
            have c14b0 : decide ((wrap64 (((rd_T90 l0 (ji11)).f1) + 1)) < ((rd_T90 l0 x3_1).f1)) = false := decide_eq_false c14
            clear c14
            have H' := Aside0.mk H
            clear H
            try go_wp2
            have n0_ := Aside0.mk (below_drew1 HB.out)
            clear HB
            have HB := n0_
            clear n0_
            have p464 : 0 ≤ (x3_1 : Int) := od_
            have q464 : x3_1 < (l0.length : Int) := od_
            obtain ⟨ad464, e464, hx464_0, hx464_1⟩ := at_T90 HR0.out x3_1 p464 q464
            have hw464_1 := hx464_1
            have hw464_0 := hx464_0
            cases e464
            replace hx464_0 := ce_ HB hx464_0
            replace hx464_1 := ce_ HB hx464_1
            replace p464 := eq_true p464
            replace q464 := eq_true q464
            have p466 : 0 ≤ (x3_1 : Int) := od_
            have q466 : x3_1 < (l0.length : Int) := od_
            obtain ⟨ad466, e466, hx466_0, hx466_1⟩ := at_T90 HR0.out x3_1 p466 q466
            have hw466_1 := hx466_1
            have hw466_0 := hx466_0
            obtain rfl : ad464 = ad466 := (by injection e466)
            replace hx466_0 := ce_ HB hx466_0
            replace hx466_1 := ce_ HB hx466_1
            replace p466 := eq_true p466
            replace q466 := eq_true q466
            have p468 : 0 ≤ (x3_1 : Int) := od_
            have q468 : x3_1 < (l0.length : Int) := od_
            obtain ⟨ad468, e468, hx468_0, hx468_1⟩ := at_T90 HR0.out x3_1 p468 q468
            have hw468_1 := hx468_1
            have hw468_0 := hx468_0
            obtain rfl : ad464 = ad468 := (by injection e468)
            replace hx468_0 := ce_ HB hx468_0
            replace hx468_1 := ce_ HB hx468_1
            replace p468 := eq_true p468
            replace q468 := eq_true q468
            have p469 : 0 ≤ (x3_1 : Int) := od_
            have q469 : x3_1 < (l0.length : Int) := od_
            obtain ⟨ad469, e469, hx469_0, hx469_1⟩ := at_T90 HR0.out x3_1 p469 q469
            have hw469_1 := hx469_1
            have hw469_0 := hx469_0
            obtain rfl : ad464 = ad469 := (by injection e469)
            replace hx469_0 := ce_ HB hx469_0
            replace hx469_1 := ce_ HB hx469_1
            replace p469 := eq_true p469
            replace q469 := eq_true q469
            have p470 : 0 ≤ ((ji11) : Int) := od_
            have q470 : (ji11) < (l0.length : Int) := od_
            obtain ⟨ad470, e470, hx470_0, hx470_1⟩ := at_T90 HR0.out (ji11) p470 q470
            have hw470_1 := hx470_1
            have hw470_0 := hx470_0
            obtain rfl : ad464 = ad470 := (by injection e470)
            replace hx470_0 := ce_ HB hx470_0
            replace hx470_1 := ce_ HB hx470_1
            replace p470 := eq_true p470
            replace q470 := eq_true q470
            refine start_ (n := 46) (S := fun w' => w'.cell? (ad464.add ((x3_1).toNat * 2)) = some (.int .i64 ((rd_T90 l0 x3_1).f0)) ∧ w'.cell? ⟨(ad464.add ((x3_1).toNat * 2)).block, (ad464.add ((x3_1).toNat * 2)).off + 1, none⟩ = some (.int .i64 ((rd_T90 l0 x3_1).f1)) ∧ w'.cell? (ad464.add ((x3_1).toNat * 2)) = some (.int .i64 ((rd_T90 l0 x3_1).f0)) ∧ w'.cell? ⟨(ad464.add ((x3_1).toNat * 2)).block, (ad464.add ((x3_1).toNat * 2)).off + 1, none⟩ = some (.int .i64 ((rd_T90 l0 x3_1).f1)) ∧ w'.cell? (ad464.add ((x3_1).toNat * 2)) = some (.int .i64 ((rd_T90 l0 x3_1).f0)) ∧ w'.cell? ⟨(ad464.add ((x3_1).toNat * 2)).block, (ad464.add ((x3_1).toNat * 2)).off + 1, none⟩ = some (.int .i64 ((rd_T90 l0 x3_1).f1)) ∧ w'.cell? (ad464.add ((x3_1).toNat * 2)) = some (.int .i64 ((rd_T90 l0 x3_1).f0)) ∧ w'.cell? ⟨(ad464.add ((x3_1).toNat * 2)).block, (ad464.add ((x3_1).toNat * 2)).off + 1, none⟩ = some (.int .i64 ((rd_T90 l0 x3_1).f1)) ∧ w'.cell? (ad464.add (((ji11)).toNat * 2)) = some (.int .i64 ((rd_T90 l0 (ji11)).f0)) ∧ w'.cell? ⟨(ad464.add (((ji11)).toNat * 2)).block, (ad464.add (((ji11)).toNat * 2)).off + 1, none⟩ = some (.int .i64 ((rd_T90 l0 (ji11)).f1))) (ds := []) (ba_ 46 0) (by kernel_rfl) rfl rfl ⟨(ce_ HB hw464_0), (ce_ HB hw464_1), (ce_ HB hw466_0), (ce_ HB hw466_1), (ce_ HB hw468_0), (ce_ HB hw468_1), (ce_ HB hw469_0), (ce_ HB hw469_1), (ce_ HB hw470_0), (ce_ HB hw470_1)⟩ (fun hHeld => ?_); refine with_tabW spec_TreeOk.tab4 spec_TreeOk.bits4 (fun HT_ HW_ => ?_)
            generalize wr.drew = w16 at HB hx464_0 hx464_1 hx466_0 hx466_1 hx468_0 hx468_1 hx469_0 hx469_1 hx470_0 hx470_1 hHeld ⊢
            refine pu_ 0 (some 10) (ba_ 46 1) rfl rfl (any_of HT_.out (by kernel_rfl)) ?_
            refine pu_ 1 (some 11) (ba_ 46 3) rfl rfl (any_of HT_.out (by kernel_rfl)) ?_
            refine pu_ 2 (some 12) (ba_ 46 7) rfl rfl (any_of HT_.out (by kernel_rfl)) ?_
            refine pu_ 3 (some 13) (ba_ 46 15) rfl rfl (any_of HT_.out (by kernel_rfl)) ?_
            refine ta_ 4 (some 14) (ba_ 46 31) rfl rfl (take_ofW HT_.out HW_.out (by kernel_rfl)) hHeld (by rintro w' ⟨s0, s1, s2, s3, s4, s5, s6, s7, s8, s9⟩; go_simp; with_reducible rfl) ?_
            refine one_ (i := 5) (N := some 15) (ba_ 46 63) rfl rfl (one_of HT_.out (by kernel_rfl)) (by decide) (fun K hK => ?_)
            refine goes_ Try.func69 (by kernel_rfl) rfl #[.int .i64 ((rd_T90 l0 x3_1).f0)] (by rfl) rfl rfl (by (try simp only [List.map_toArray, List.map_cons, List.map_nil]); first | done | rfl | (simp only [List.length_drop, List.length_take]; rfl)) ?_
            with_reducible refine (spec_LabelOk.calls ((rd_T90 l0 x3_1).f0) true _ A4.out).mono ?_
            rintro e w' ⟨rfl, ⟨nd, rfl⟩⟩
            refine ⟨_, rfl, ?_⟩
            refine hK.out _ _ ⟨(ce_ HB hw464_0), (ce_ HB hw464_1), (ce_ HB hw466_0), (ce_ HB hw466_1), (ce_ HB hw468_0), (ce_ HB hw468_1), (ce_ HB hw469_0), (ce_ HB hw469_1), (ce_ HB hw470_0), (ce_ HB hw470_1)⟩ (fun hHeld => ?_)
            clear hK K
            refine norm_ (a' := ?_) ?_ ?_
            rotate_left
            ·show Act.put _ (some 15) _ = _
             simp only [Act.put, List.setIfInBounds_toArray, List.set_cons_zero, List.set_cons_succ, i64_w, i32_w]
             rfl
            refine pu_ 6 (some 16) (ba_ 46 127) rfl rfl (any_of HT_.out (by kernel_rfl)) ?_
            refine pu_ 7 (some 17) (ba_ 46 255) rfl rfl (any_of HT_.out (by kernel_rfl)) ?_
            refine pu_ 8 (some 18) (ba_ 46 511) rfl rfl (any_of HT_.out (by kernel_rfl)) ?_
            refine pu_ 9 (some 19) (ba_ 46 1023) rfl rfl (any_of HT_.out (by kernel_rfl)) ?_
            refine pu_ 10 (some 20) (ba_ 46 2047) rfl rfl (any_of HT_.out (by kernel_rfl)) ?_
            refine pu_ 11 (some 21) (ba_ 46 4095) rfl rfl (any_of HT_.out (by kernel_rfl)) ?_
            refine ta_ 12 (some 22) (ba_ 46 8191) rfl rfl (take_ofW HT_.out HW_.out (by kernel_rfl)) hHeld (by rintro w' ⟨s0, s1, s2, s3, s4, s5, s6, s7, s8, s9⟩; go_simp; with_reducible rfl) ?_
            refine one_ (i := 13) (N := some 23) (ba_ 46 16383) rfl rfl (one_of HT_.out (by kernel_rfl)) (by decide) (fun K hK => ?_)
            refine goes_ Try.func67 (by kernel_rfl) rfl #[.int .i64 ((rd_T90 l0 x3_1).f1), .int .i64 0, .int .i64 12] (by rfl) rfl rfl (by (try simp only [List.map_toArray, List.map_cons, List.map_nil]); first | done | rfl | (simp only [List.length_drop, List.length_take]; rfl)) ?_
            with_reducible refine (spec_l1In.calls ((rd_T90 l0 x3_1).f1) 0 12 true _ A6.out).mono ?_
            rintro e w' ⟨rfl, ⟨nd, rfl⟩⟩
            refine ⟨_, rfl, ?_⟩
            refine hK.out _ _ ⟨(ce_ HB hw464_0), (ce_ HB hw464_1), (ce_ HB hw466_0), (ce_ HB hw466_1), (ce_ HB hw468_0), (ce_ HB hw468_1), (ce_ HB hw469_0), (ce_ HB hw469_1), (ce_ HB hw470_0), (ce_ HB hw470_1)⟩ (fun hHeld => ?_)
            clear hK K
            refine norm_ (a' := ?_) ?_ ?_
            rotate_left
            ·show Act.put _ (some 23) _ = _
             simp only [Act.put, List.setIfInBounds_toArray, List.set_cons_zero, List.set_cons_succ, i64_w, i32_w]
             rfl
            refine pu_ 14 (some 24) (ba_ 46 32767) rfl rfl (any_of HT_.out (by kernel_rfl)) ?_
            refine pu_ 15 (some 25) (ba_ 46 65535) rfl rfl (any_of HT_.out (by kernel_rfl)) ?_
            refine pu_ 16 (some 26) (ba_ 46 131071) rfl rfl (any_of HT_.out (by kernel_rfl)) ?_
            refine pu_ 17 (some 27) (ba_ 46 262143) rfl rfl (any_of HT_.out (by kernel_rfl)) ?_
            refine pu_ 18 (some 28) (ba_ 46 524287) rfl rfl (any_of HT_.out (by kernel_rfl)) ?_
            refine pu_ 19 (some 29) (ba_ 46 1048575) rfl rfl (any_of HT_.out (by kernel_rfl)) ?_
            refine pu_ 20 (some 30) (ba_ 46 2097151) rfl rfl (any_of HT_.out (by kernel_rfl)) ?_
            refine pu_ 23 (some 33) (ba_ 46 10485759) rfl rfl (any_of HT_.out (by kernel_rfl)) ?_
            refine pu_ 24 (some 34) (ba_ 46 27262975) rfl rfl (any_of HT_.out (by kernel_rfl)) ?_
            refine ta_ 21 (some 31) (ba_ 46 29360127) rfl rfl (take_ofW HT_.out HW_.out (by kernel_rfl)) hHeld (by rintro w' ⟨s0, s1, s2, s3, s4, s5, s6, s7, s8, s9⟩; go_simp; with_reducible rfl) ?_
            refine pu_ 22 (some 32) (ba_ 46 33554431) rfl rfl (any_of HT_.out (by kernel_rfl)) ?_
            refine pu_ 25 (some 35) (ba_ 46 67108863) rfl rfl (any_of HT_.out (by kernel_rfl)) ?_
            refine pu_ 26 (some 36) (ba_ 46 134217727) rfl rfl (any_of HT_.out (by kernel_rfl)) ?_
            refine pu_ 27 (some 37) (ba_ 46 268435455) rfl rfl (any_of HT_.out (by kernel_rfl)) ?_
            refine pu_ 28 (some 38) (ba_ 46 536870911) rfl rfl (any_of HT_.out (by kernel_rfl)) ?_
            refine pu_ 29 (some 39) (ba_ 46 1073741823) rfl rfl (any_of HT_.out (by kernel_rfl)) ?_
            refine pu_ 30 (some 40) (ba_ 46 2147483647) rfl rfl (any_of HT_.out (by kernel_rfl)) ?_
            refine pu_ 31 (some 41) (ba_ 46 4294967295) rfl rfl (any_of HT_.out (by kernel_rfl)) ?_
            refine pu_ 32 (some 42) (ba_ 46 8589934591) rfl rfl (any_of HT_.out (by kernel_rfl)) ?_
            refine pu_ 33 (some 43) (ba_ 46 17179869183) rfl rfl (any_of HT_.out (by kernel_rfl)) ?_
            refine pu_ 34 (some 44) (ba_ 46 34359738367) rfl rfl (any_of HT_.out (by kernel_rfl)) ?_
            refine pu_ 36 (some 46) (ba_ 46 103079215103) rfl rfl (any_of HT_.out (by kernel_rfl)) ?_
            refine pu_ 37 (some 47) (ba_ 46 240518168575) rfl rfl (any_of HT_.out (by kernel_rfl)) ?_
            refine pu_ 38 (some 48) (ba_ 46 515396075519) rfl rfl (any_of HT_.out (by kernel_rfl)) ?_
            refine pu_ 39 (some 49) (ba_ 46 1065151889407) rfl rfl (any_of HT_.out (by kernel_rfl)) ?_
            refine pu_ 40 (some 50) (ba_ 46 2164663517183) rfl rfl (any_of HT_.out (by kernel_rfl)) ?_
            refine ta_ 35 (some 45) (ba_ 46 2199023255551) rfl rfl (take_ofW HT_.out HW_.out (by kernel_rfl)) hHeld (by rintro w' ⟨s0, s1, s2, s3, s4, s5, s6, s7, s8, s9⟩; go_simp; with_reducible rfl) ?_
            refine ta_ 41 (some 51) (ba_ 46 4398046511103) rfl rfl (take_ofW HT_.out HW_.out (by kernel_rfl)) hHeld (by rintro w' ⟨s0, s1, s2, s3, s4, s5, s6, s7, s8, s9⟩; go_simp; with_reducible rfl) ?_
            refine pu_ 42 (some 52) (ba_ 46 8796093022207) rfl rfl (any_of HT_.out (by kernel_rfl)) ?_
            refine pu_ 43 (some 53) (ba_ 46 17592186044415) rfl rfl (any_of HT_.out (by kernel_rfl)) ?_
            refine pu_ 44 (some 54) (ba_ 46 35184372088831) rfl rfl (any_of HT_.out (by kernel_rfl)) ?_
            refine pu_ 45 (some 55) (ba_ 46 70368744177663) rfl rfl (any_of HT_.out (by kernel_rfl)) ?_
            refine done_ (done_of HT_.out (by kernel_rfl)) ?_
            try go_wp2
            go_roundg k1
            case measure => have := HK1.out; omega
            case rel => exact ⟨(wrap64 (x3_1 + 1)), eb_, H', ⟨by have := HK1.out; omega⟩, bl_ HB⟩
          ·rw [if_neg c13] at H
           exact absurd H (by simp)
         ·rw [if_neg c12] at H
          exact absurd H (by simp)
        ·rw [if_neg c10] at H
         have c10b0 : decide (0 < x3_1) = false := decide_eq_false c10
         clear c10
         have H' := Aside0.mk H
         clear H
         try go_wp2
         have n0_ := Aside0.mk (below_drew1 HB.out)
         clear HB
         have HB := n0_
         clear n0_
         have p464 : 0 ≤ (x3_1 : Int) := od_
         have q464 : x3_1 < (l0.length : Int) := od_
         obtain ⟨ad464, e464, hx464_0, hx464_1⟩ := at_T90 HR0.out x3_1 p464 q464
         have hw464_1 := hx464_1
         have hw464_0 := hx464_0
         cases e464
         replace hx464_0 := ce_ HB hx464_0
         replace hx464_1 := ce_ HB hx464_1
         replace p464 := eq_true p464
         replace q464 := eq_true q464
         have p466 : 0 ≤ (x3_1 : Int) := od_
         have q466 : x3_1 < (l0.length : Int) := od_
         obtain ⟨ad466, e466, hx466_0, hx466_1⟩ := at_T90 HR0.out x3_1 p466 q466
         have hw466_1 := hx466_1
         have hw466_0 := hx466_0
         obtain rfl : ad464 = ad466 := (by injection e466)
         replace hx466_0 := ce_ HB hx466_0
         replace hx466_1 := ce_ HB hx466_1
         replace p466 := eq_true p466
         replace q466 := eq_true q466
         have p468 : 0 ≤ (x3_1 : Int) := od_
         have q468 : x3_1 < (l0.length : Int) := od_
         obtain ⟨ad468, e468, hx468_0, hx468_1⟩ := at_T90 HR0.out x3_1 p468 q468
         have hw468_1 := hx468_1
         have hw468_0 := hx468_0
         obtain rfl : ad464 = ad468 := (by injection e468)
         replace hx468_0 := ce_ HB hx468_0
         replace hx468_1 := ce_ HB hx468_1
         replace p468 := eq_true p468
         replace q468 := eq_true q468
         refine start_ (n := 46) (S := fun w' => w'.cell? (ad464.add ((x3_1).toNat * 2)) = some (.int .i64 ((rd_T90 l0 x3_1).f0)) ∧ w'.cell? ⟨(ad464.add ((x3_1).toNat * 2)).block, (ad464.add ((x3_1).toNat * 2)).off + 1, none⟩ = some (.int .i64 ((rd_T90 l0 x3_1).f1)) ∧ w'.cell? (ad464.add ((x3_1).toNat * 2)) = some (.int .i64 ((rd_T90 l0 x3_1).f0)) ∧ w'.cell? ⟨(ad464.add ((x3_1).toNat * 2)).block, (ad464.add ((x3_1).toNat * 2)).off + 1, none⟩ = some (.int .i64 ((rd_T90 l0 x3_1).f1)) ∧ w'.cell? (ad464.add ((x3_1).toNat * 2)) = some (.int .i64 ((rd_T90 l0 x3_1).f0)) ∧ w'.cell? ⟨(ad464.add ((x3_1).toNat * 2)).block, (ad464.add ((x3_1).toNat * 2)).off + 1, none⟩ = some (.int .i64 ((rd_T90 l0 x3_1).f1))) (ds := []) (ba_ 46 0) (by kernel_rfl) rfl rfl ⟨(ce_ HB hw464_0), (ce_ HB hw464_1), (ce_ HB hw466_0), (ce_ HB hw466_1), (ce_ HB hw468_0), (ce_ HB hw468_1)⟩ (fun hHeld => ?_); refine with_tabW spec_TreeOk.tab4 spec_TreeOk.bits4 (fun HT_ HW_ => ?_)
         generalize wr.drew = w17 at HB hx464_0 hx464_1 hx466_0 hx466_1 hx468_0 hx468_1 hHeld ⊢
         refine pu_ 0 (some 10) (ba_ 46 1) rfl rfl (any_of HT_.out (by kernel_rfl)) ?_
         refine pu_ 1 (some 11) (ba_ 46 3) rfl rfl (any_of HT_.out (by kernel_rfl)) ?_
         refine pu_ 2 (some 12) (ba_ 46 7) rfl rfl (any_of HT_.out (by kernel_rfl)) ?_
         refine pu_ 3 (some 13) (ba_ 46 15) rfl rfl (any_of HT_.out (by kernel_rfl)) ?_
         refine ta_ 4 (some 14) (ba_ 46 31) rfl rfl (take_ofW HT_.out HW_.out (by kernel_rfl)) hHeld (by rintro w' ⟨s0, s1, s2, s3, s4, s5⟩; go_simp; with_reducible rfl) ?_
         refine one_ (i := 5) (N := some 15) (ba_ 46 63) rfl rfl (one_of HT_.out (by kernel_rfl)) (by decide) (fun K hK => ?_)
         refine goes_ Try.func69 (by kernel_rfl) rfl #[.int .i64 ((rd_T90 l0 x3_1).f0)] (by rfl) rfl rfl (by (try simp only [List.map_toArray, List.map_cons, List.map_nil]); first | done | rfl | (simp only [List.length_drop, List.length_take]; rfl)) ?_
         with_reducible refine (spec_LabelOk.calls ((rd_T90 l0 x3_1).f0) true _ A4.out).mono ?_
         rintro e w' ⟨rfl, ⟨nd, rfl⟩⟩
         refine ⟨_, rfl, ?_⟩
         refine hK.out _ _ ⟨(ce_ HB hw464_0), (ce_ HB hw464_1), (ce_ HB hw466_0), (ce_ HB hw466_1), (ce_ HB hw468_0), (ce_ HB hw468_1)⟩ (fun hHeld => ?_)
         clear hK K
         refine norm_ (a' := ?_) ?_ ?_
         rotate_left
         ·show Act.put _ (some 15) _ = _
          simp only [Act.put, List.setIfInBounds_toArray, List.set_cons_zero, List.set_cons_succ, i64_w, i32_w]
          rfl
         refine pu_ 6 (some 16) (ba_ 46 127) rfl rfl (any_of HT_.out (by kernel_rfl)) ?_
         refine pu_ 7 (some 17) (ba_ 46 255) rfl rfl (any_of HT_.out (by kernel_rfl)) ?_
         refine pu_ 8 (some 18) (ba_ 46 511) rfl rfl (any_of HT_.out (by kernel_rfl)) ?_
         refine pu_ 9 (some 19) (ba_ 46 1023) rfl rfl (any_of HT_.out (by kernel_rfl)) ?_
         refine pu_ 10 (some 20) (ba_ 46 2047) rfl rfl (any_of HT_.out (by kernel_rfl)) ?_
         refine pu_ 11 (some 21) (ba_ 46 4095) rfl rfl (any_of HT_.out (by kernel_rfl)) ?_
         refine ta_ 12 (some 22) (ba_ 46 8191) rfl rfl (take_ofW HT_.out HW_.out (by kernel_rfl)) hHeld (by rintro w' ⟨s0, s1, s2, s3, s4, s5⟩; go_simp; with_reducible rfl) ?_
         refine one_ (i := 13) (N := some 23) (ba_ 46 16383) rfl rfl (one_of HT_.out (by kernel_rfl)) (by decide) (fun K hK => ?_)
         refine goes_ Try.func67 (by kernel_rfl) rfl #[.int .i64 ((rd_T90 l0 x3_1).f1), .int .i64 0, .int .i64 12] (by rfl) rfl rfl (by (try simp only [List.map_toArray, List.map_cons, List.map_nil]); first | done | rfl | (simp only [List.length_drop, List.length_take]; rfl)) ?_
         with_reducible refine (spec_l1In.calls ((rd_T90 l0 x3_1).f1) 0 12 true _ A6.out).mono ?_
         rintro e w' ⟨rfl, ⟨nd, rfl⟩⟩
         refine ⟨_, rfl, ?_⟩
         refine hK.out _ _ ⟨(ce_ HB hw464_0), (ce_ HB hw464_1), (ce_ HB hw466_0), (ce_ HB hw466_1), (ce_ HB hw468_0), (ce_ HB hw468_1)⟩ (fun hHeld => ?_)
         clear hK K
         refine norm_ (a' := ?_) ?_ ?_
         rotate_left
         ·show Act.put _ (some 23) _ = _
          simp only [Act.put, List.setIfInBounds_toArray, List.set_cons_zero, List.set_cons_succ, i64_w, i32_w]
          rfl
         refine pu_ 14 (some 24) (ba_ 46 32767) rfl rfl (any_of HT_.out (by kernel_rfl)) ?_
         refine pu_ 15 (some 25) (ba_ 46 65535) rfl rfl (any_of HT_.out (by kernel_rfl)) ?_
         refine pu_ 16 (some 26) (ba_ 46 131071) rfl rfl (any_of HT_.out (by kernel_rfl)) ?_
         refine pu_ 17 (some 27) (ba_ 46 262143) rfl rfl (any_of HT_.out (by kernel_rfl)) ?_
         refine pu_ 18 (some 28) (ba_ 46 524287) rfl rfl (any_of HT_.out (by kernel_rfl)) ?_
         refine pu_ 19 (some 29) (ba_ 46 1048575) rfl rfl (any_of HT_.out (by kernel_rfl)) ?_
         refine pu_ 20 (some 30) (ba_ 46 2097151) rfl rfl (any_of HT_.out (by kernel_rfl)) ?_
         refine pu_ 23 (some 33) (ba_ 46 10485759) rfl rfl (any_of HT_.out (by kernel_rfl)) ?_
         refine pu_ 24 (some 34) (ba_ 46 27262975) rfl rfl (any_of HT_.out (by kernel_rfl)) ?_
         refine ta_ 21 (some 31) (ba_ 46 29360127) rfl rfl (take_ofW HT_.out HW_.out (by kernel_rfl)) hHeld (by rintro w' ⟨s0, s1, s2, s3, s4, s5⟩; go_simp; with_reducible rfl) ?_
         refine pu_ 22 (some 32) (ba_ 46 33554431) rfl rfl (any_of HT_.out (by kernel_rfl)) ?_
         refine pu_ 25 (some 35) (ba_ 46 67108863) rfl rfl (any_of HT_.out (by kernel_rfl)) ?_
         refine pu_ 26 (some 36) (ba_ 46 134217727) rfl rfl (any_of HT_.out (by kernel_rfl)) ?_
         refine pu_ 27 (some 37) (ba_ 46 268435455) rfl rfl (any_of HT_.out (by kernel_rfl)) ?_
         refine pu_ 28 (some 38) (ba_ 46 536870911) rfl rfl (any_of HT_.out (by kernel_rfl)) ?_
         refine pu_ 29 (some 39) (ba_ 46 1073741823) rfl rfl (any_of HT_.out (by kernel_rfl)) ?_
         refine pu_ 30 (some 40) (ba_ 46 2147483647) rfl rfl (any_of HT_.out (by kernel_rfl)) ?_
         refine pn_ 31 (some 41) (ba_ 46 4294967295) rfl rfl (any_of HT_.out (by kernel_rfl)) ?_
         refine pn_ 32 (some 42) (ba_ 46 8589934591) rfl rfl (any_of HT_.out (by kernel_rfl)) ?_
         refine pn_ 33 (some 43) (ba_ 46 17179869183) rfl rfl (any_of HT_.out (by kernel_rfl)) ?_
         refine pn_ 34 (some 44) (ba_ 46 34359738367) rfl rfl (any_of HT_.out (by kernel_rfl)) ?_
         refine pn_ 35 (some 45) (ba_ 46 68719476735) rfl rfl (any_of HT_.out (by kernel_rfl)) ?_
         refine pn_ 36 (some 46) (ba_ 46 137438953471) rfl rfl (any_of HT_.out (by kernel_rfl)) ?_
         refine pn_ 37 (some 47) (ba_ 46 274877906943) rfl rfl (any_of HT_.out (by kernel_rfl)) ?_
         refine pn_ 38 (some 48) (ba_ 46 549755813887) rfl rfl (any_of HT_.out (by kernel_rfl)) ?_
         refine pn_ 39 (some 49) (ba_ 46 1099511627775) rfl rfl (any_of HT_.out (by kernel_rfl)) ?_
         refine pn_ 40 (some 50) (ba_ 46 2199023255551) rfl rfl (any_of HT_.out (by kernel_rfl)) ?_
         refine pn_ 41 (some 51) (ba_ 46 4398046511103) rfl rfl (any_of HT_.out (by kernel_rfl)) ?_
         refine pn_ 42 (some 52) (ba_ 46 8796093022207) rfl rfl (any_of HT_.out (by kernel_rfl)) ?_
         refine pn_ 43 (some 53) (ba_ 46 17592186044415) rfl rfl (any_of HT_.out (by kernel_rfl)) ?_
         refine pu_ 44 (some 54) (ba_ 46 35184372088831) rfl rfl (any_of HT_.out (by kernel_rfl)) ?_
         refine pu_ 45 (some 55) (ba_ 46 70368744177663) rfl rfl (any_of HT_.out (by kernel_rfl)) ?_
         refine done_ (done_of HT_.out (by kernel_rfl)) ?_
         try go_wp2
         go_roundg k1
         case measure => have := HK1.out; omega
         case rel => exact ⟨(wrap64 (x3_1 + 1)), eb_, H', ⟨by have := HK1.out; omega⟩, bl_ HB⟩
      ·replace c7 := Bool.eq_false_iff.mpr c7
       subst c7
       have H1 : (some false) = some r := by rw [if_neg (show ¬ (false = true) by decide)] at H; exact H
       clear H
       have H := H1
       clear H1
       obtain rfl := Option.some.inj H
       try go_wp2
       have n0_ := Aside0.mk (below_drew1 HB.out)
       clear HB
       have HB := n0_
       clear n0_
       have p464 : 0 ≤ (x3_1 : Int) := od_
       have q464 : x3_1 < (l0.length : Int) := od_
       obtain ⟨ad464, e464, hx464_0, hx464_1⟩ := at_T90 HR0.out x3_1 p464 q464
       have hw464_1 := hx464_1
       have hw464_0 := hx464_0
       cases e464
       replace hx464_0 := ce_ HB hx464_0
       replace hx464_1 := ce_ HB hx464_1
       replace p464 := eq_true p464
       replace q464 := eq_true q464
       have p466 : 0 ≤ (x3_1 : Int) := od_
       have q466 : x3_1 < (l0.length : Int) := od_
       obtain ⟨ad466, e466, hx466_0, hx466_1⟩ := at_T90 HR0.out x3_1 p466 q466
       have hw466_1 := hx466_1
       have hw466_0 := hx466_0
       obtain rfl : ad464 = ad466 := (by injection e466)
       replace hx466_0 := ce_ HB hx466_0
       replace hx466_1 := ce_ HB hx466_1
       replace p466 := eq_true p466
       replace q466 := eq_true q466
       refine start_ (n := 46) (S := fun w' => w'.cell? (ad464.add ((x3_1).toNat * 2)) = some (.int .i64 ((rd_T90 l0 x3_1).f0)) ∧ w'.cell? ⟨(ad464.add ((x3_1).toNat * 2)).block, (ad464.add ((x3_1).toNat * 2)).off + 1, none⟩ = some (.int .i64 ((rd_T90 l0 x3_1).f1)) ∧ w'.cell? (ad464.add ((x3_1).toNat * 2)) = some (.int .i64 ((rd_T90 l0 x3_1).f0)) ∧ w'.cell? ⟨(ad464.add ((x3_1).toNat * 2)).block, (ad464.add ((x3_1).toNat * 2)).off + 1, none⟩ = some (.int .i64 ((rd_T90 l0 x3_1).f1))) (ds := []) (ba_ 46 0) (by kernel_rfl) rfl rfl ⟨(ce_ HB hw464_0), (ce_ HB hw464_1), (ce_ HB hw466_0), (ce_ HB hw466_1)⟩ (fun hHeld => ?_); refine with_tabW spec_TreeOk.tab4 spec_TreeOk.bits4 (fun HT_ HW_ => ?_)
       generalize wr.drew = w18 at HB hx464_0 hx464_1 hx466_0 hx466_1 hHeld ⊢
       refine pu_ 0 (some 10) (ba_ 46 1) rfl rfl (any_of HT_.out (by kernel_rfl)) ?_
       refine pu_ 1 (some 11) (ba_ 46 3) rfl rfl (any_of HT_.out (by kernel_rfl)) ?_
       refine pu_ 2 (some 12) (ba_ 46 7) rfl rfl (any_of HT_.out (by kernel_rfl)) ?_
       refine pu_ 3 (some 13) (ba_ 46 15) rfl rfl (any_of HT_.out (by kernel_rfl)) ?_
       refine ta_ 4 (some 14) (ba_ 46 31) rfl rfl (take_ofW HT_.out HW_.out (by kernel_rfl)) hHeld (by rintro w' ⟨s0, s1, s2, s3⟩; go_simp; with_reducible rfl) ?_
       refine one_ (i := 5) (N := some 15) (ba_ 46 63) rfl rfl (one_of HT_.out (by kernel_rfl)) (by decide) (fun K hK => ?_)
       refine goes_ Try.func69 (by kernel_rfl) rfl #[.int .i64 ((rd_T90 l0 x3_1).f0)] (by rfl) rfl rfl (by (try simp only [List.map_toArray, List.map_cons, List.map_nil]); first | done | rfl | (simp only [List.length_drop, List.length_take]; rfl)) ?_
       with_reducible refine (spec_LabelOk.calls ((rd_T90 l0 x3_1).f0) true _ A4.out).mono ?_
       rintro e w' ⟨rfl, ⟨nd, rfl⟩⟩
       refine ⟨_, rfl, ?_⟩
       refine hK.out _ _ ⟨(ce_ HB hw464_0), (ce_ HB hw464_1), (ce_ HB hw466_0), (ce_ HB hw466_1)⟩ (fun hHeld => ?_)
       clear hK K
       refine norm_ (a' := ?_) ?_ ?_
       rotate_left
       ·show Act.put _ (some 15) _ = _
        simp only [Act.put, List.setIfInBounds_toArray, List.set_cons_zero, List.set_cons_succ, i64_w, i32_w]
        rfl
       refine pu_ 6 (some 16) (ba_ 46 127) rfl rfl (any_of HT_.out (by kernel_rfl)) ?_
       refine pu_ 7 (some 17) (ba_ 46 255) rfl rfl (any_of HT_.out (by kernel_rfl)) ?_
       refine pu_ 8 (some 18) (ba_ 46 511) rfl rfl (any_of HT_.out (by kernel_rfl)) ?_
       refine pu_ 9 (some 19) (ba_ 46 1023) rfl rfl (any_of HT_.out (by kernel_rfl)) ?_
       refine pu_ 10 (some 20) (ba_ 46 2047) rfl rfl (any_of HT_.out (by kernel_rfl)) ?_
       refine pu_ 11 (some 21) (ba_ 46 4095) rfl rfl (any_of HT_.out (by kernel_rfl)) ?_
       refine ta_ 12 (some 22) (ba_ 46 8191) rfl rfl (take_ofW HT_.out HW_.out (by kernel_rfl)) hHeld (by rintro w' ⟨s0, s1, s2, s3⟩; go_simp; with_reducible rfl) ?_
       refine one_ (i := 13) (N := some 23) (ba_ 46 16383) rfl rfl (one_of HT_.out (by kernel_rfl)) (by decide) (fun K hK => ?_)
       refine goes_ Try.func67 (by kernel_rfl) rfl #[.int .i64 ((rd_T90 l0 x3_1).f1), .int .i64 0, .int .i64 12] (by rfl) rfl rfl (by (try simp only [List.map_toArray, List.map_cons, List.map_nil]); first | done | rfl | (simp only [List.length_drop, List.length_take]; rfl)) ?_
       with_reducible refine (spec_l1In.calls ((rd_T90 l0 x3_1).f1) 0 12 false _ A6.out).mono ?_
       rintro e w' ⟨rfl, ⟨nd, rfl⟩⟩
       refine ⟨_, rfl, ?_⟩
       refine hK.out _ _ ⟨(ce_ HB hw464_0), (ce_ HB hw464_1), (ce_ HB hw466_0), (ce_ HB hw466_1)⟩ (fun hHeld => ?_)
       clear hK K
       refine norm_ (a' := ?_) ?_ ?_
       rotate_left
       ·show Act.put _ (some 23) _ = _
        simp only [Act.put, List.setIfInBounds_toArray, List.set_cons_zero, List.set_cons_succ, i64_w, i32_w]
        rfl
       refine pu_ 14 (some 24) (ba_ 46 32767) rfl rfl (any_of HT_.out (by kernel_rfl)) ?_
       refine pu_ 15 (some 25) (ba_ 46 65535) rfl rfl (any_of HT_.out (by kernel_rfl)) ?_
       refine pu_ 16 (some 26) (ba_ 46 131071) rfl rfl (any_of HT_.out (by kernel_rfl)) ?_
       refine pn_ 17 (some 27) (ba_ 46 262143) rfl rfl (any_of HT_.out (by kernel_rfl)) ?_
       refine pn_ 18 (some 28) (ba_ 46 524287) rfl rfl (any_of HT_.out (by kernel_rfl)) ?_
       refine pn_ 19 (some 29) (ba_ 46 1048575) rfl rfl (any_of HT_.out (by kernel_rfl)) ?_
       refine pn_ 20 (some 30) (ba_ 46 2097151) rfl rfl (any_of HT_.out (by kernel_rfl)) ?_
       refine pn_ 21 (some 31) (ba_ 46 4194303) rfl rfl (any_of HT_.out (by kernel_rfl)) ?_
       refine pn_ 22 (some 32) (ba_ 46 8388607) rfl rfl (any_of HT_.out (by kernel_rfl)) ?_
       refine pn_ 23 (some 33) (ba_ 46 16777215) rfl rfl (any_of HT_.out (by kernel_rfl)) ?_
       refine pn_ 24 (some 34) (ba_ 46 33554431) rfl rfl (any_of HT_.out (by kernel_rfl)) ?_
       refine pn_ 25 (some 35) (ba_ 46 67108863) rfl rfl (any_of HT_.out (by kernel_rfl)) ?_
       refine pu_ 26 (some 36) (ba_ 46 134217727) rfl rfl (any_of HT_.out (by kernel_rfl)) ?_
       refine pu_ 27 (some 37) (ba_ 46 268435455) rfl rfl (any_of HT_.out (by kernel_rfl)) ?_
       refine pn_ 28 (some 38) (ba_ 46 536870911) rfl rfl (any_of HT_.out (by kernel_rfl)) ?_
       refine pn_ 29 (some 39) (ba_ 46 1073741823) rfl rfl (any_of HT_.out (by kernel_rfl)) ?_
       refine pn_ 30 (some 40) (ba_ 46 2147483647) rfl rfl (any_of HT_.out (by kernel_rfl)) ?_
       refine pn_ 31 (some 41) (ba_ 46 4294967295) rfl rfl (any_of HT_.out (by kernel_rfl)) ?_
       refine pn_ 32 (some 42) (ba_ 46 8589934591) rfl rfl (any_of HT_.out (by kernel_rfl)) ?_
       refine pn_ 33 (some 43) (ba_ 46 17179869183) rfl rfl (any_of HT_.out (by kernel_rfl)) ?_
       refine pn_ 34 (some 44) (ba_ 46 34359738367) rfl rfl (any_of HT_.out (by kernel_rfl)) ?_
       refine pn_ 35 (some 45) (ba_ 46 68719476735) rfl rfl (any_of HT_.out (by kernel_rfl)) ?_
       refine pn_ 36 (some 46) (ba_ 46 137438953471) rfl rfl (any_of HT_.out (by kernel_rfl)) ?_
       refine pn_ 37 (some 47) (ba_ 46 274877906943) rfl rfl (any_of HT_.out (by kernel_rfl)) ?_
       refine pn_ 38 (some 48) (ba_ 46 549755813887) rfl rfl (any_of HT_.out (by kernel_rfl)) ?_
       refine pn_ 39 (some 49) (ba_ 46 1099511627775) rfl rfl (any_of HT_.out (by kernel_rfl)) ?_
       refine pn_ 40 (some 50) (ba_ 46 2199023255551) rfl rfl (any_of HT_.out (by kernel_rfl)) ?_
       refine pn_ 41 (some 51) (ba_ 46 4398046511103) rfl rfl (any_of HT_.out (by kernel_rfl)) ?_
       refine pn_ 42 (some 52) (ba_ 46 8796093022207) rfl rfl (any_of HT_.out (by kernel_rfl)) ?_
       refine pn_ 43 (some 53) (ba_ 46 17592186044415) rfl rfl (any_of HT_.out (by kernel_rfl)) ?_
       refine pn_ 44 (some 54) (ba_ 46 35184372088831) rfl rfl (any_of HT_.out (by kernel_rfl)) ?_
       refine pu_ 45 (some 55) (ba_ 46 70368744177663) rfl rfl (any_of HT_.out (by kernel_rfl)) ?_
       refine done_ (done_of HT_.out (by kernel_rfl)) ?_
       try go_wp2
       go_ret
       exact ⟨ea_, (bl_ HB).out⟩
     ·replace c5 := Bool.eq_false_iff.mpr c5
      subst c5
      have H1 : (some false) = some r := by rw [if_neg (show ¬ (false = true) by decide)] at H; exact H
      clear H
      have H := H1
      clear H1
      obtain rfl := Option.some.inj H
      try go_wp2
      have n0_ := Aside0.mk (below_drew1 HB.out)
      clear HB
      have HB := n0_
      clear n0_
      have p464 : 0 ≤ (x3_1 : Int) := od_
      have q464 : x3_1 < (l0.length : Int) := od_
      obtain ⟨ad464, e464, hx464_0, hx464_1⟩ := at_T90 HR0.out x3_1 p464 q464
      have hw464_1 := hx464_1
      have hw464_0 := hx464_0
      cases e464
      replace hx464_0 := ce_ HB hx464_0
      replace hx464_1 := ce_ HB hx464_1
      replace p464 := eq_true p464
      replace q464 := eq_true q464
      refine start_ (n := 46) (S := fun w' => w'.cell? (ad464.add ((x3_1).toNat * 2)) = some (.int .i64 ((rd_T90 l0 x3_1).f0)) ∧ w'.cell? ⟨(ad464.add ((x3_1).toNat * 2)).block, (ad464.add ((x3_1).toNat * 2)).off + 1, none⟩ = some (.int .i64 ((rd_T90 l0 x3_1).f1))) (ds := []) (ba_ 46 0) (by kernel_rfl) rfl rfl ⟨(ce_ HB hw464_0), (ce_ HB hw464_1)⟩ (fun hHeld => ?_); refine with_tabW spec_TreeOk.tab4 spec_TreeOk.bits4 (fun HT_ HW_ => ?_)
      generalize wr.drew = w19 at HB hx464_0 hx464_1 hHeld ⊢
      refine pu_ 0 (some 10) (ba_ 46 1) rfl rfl (any_of HT_.out (by kernel_rfl)) ?_
      refine pu_ 1 (some 11) (ba_ 46 3) rfl rfl (any_of HT_.out (by kernel_rfl)) ?_
      refine pu_ 2 (some 12) (ba_ 46 7) rfl rfl (any_of HT_.out (by kernel_rfl)) ?_
      refine pu_ 3 (some 13) (ba_ 46 15) rfl rfl (any_of HT_.out (by kernel_rfl)) ?_
      refine ta_ 4 (some 14) (ba_ 46 31) rfl rfl (take_ofW HT_.out HW_.out (by kernel_rfl)) hHeld (by rintro w' ⟨s0, s1⟩; go_simp; with_reducible rfl) ?_
      refine one_ (i := 5) (N := some 15) (ba_ 46 63) rfl rfl (one_of HT_.out (by kernel_rfl)) (by decide) (fun K hK => ?_)
      refine goes_ Try.func69 (by kernel_rfl) rfl #[.int .i64 ((rd_T90 l0 x3_1).f0)] (by rfl) rfl rfl (by (try simp only [List.map_toArray, List.map_cons, List.map_nil]); first | done | rfl | (simp only [List.length_drop, List.length_take]; rfl)) ?_
      with_reducible refine (spec_LabelOk.calls ((rd_T90 l0 x3_1).f0) false _ A4.out).mono ?_
      rintro e w' ⟨rfl, ⟨nd, rfl⟩⟩
      refine ⟨_, rfl, ?_⟩
      refine hK.out _ _ ⟨(ce_ HB hw464_0), (ce_ HB hw464_1)⟩ (fun hHeld => ?_)
      clear hK K
      refine norm_ (a' := ?_) ?_ ?_
      rotate_left
      ·show Act.put _ (some 15) _ = _
       simp only [Act.put, List.setIfInBounds_toArray, List.set_cons_zero, List.set_cons_succ, i64_w, i32_w]
       rfl
      refine pu_ 6 (some 16) (ba_ 46 127) rfl rfl (any_of HT_.out (by kernel_rfl)) ?_
      refine pu_ 7 (some 17) (ba_ 46 255) rfl rfl (any_of HT_.out (by kernel_rfl)) ?_
      refine pn_ 8 (some 18) (ba_ 46 511) rfl rfl (any_of HT_.out (by kernel_rfl)) ?_
      refine pn_ 9 (some 19) (ba_ 46 1023) rfl rfl (any_of HT_.out (by kernel_rfl)) ?_
      refine pn_ 10 (some 20) (ba_ 46 2047) rfl rfl (any_of HT_.out (by kernel_rfl)) ?_
      refine pn_ 11 (some 21) (ba_ 46 4095) rfl rfl (any_of HT_.out (by kernel_rfl)) ?_
      refine pn_ 12 (some 22) (ba_ 46 8191) rfl rfl (any_of HT_.out (by kernel_rfl)) ?_
      refine pn_ 13 (some 23) (ba_ 46 16383) rfl rfl (any_of HT_.out (by kernel_rfl)) ?_
      refine pn_ 14 (some 24) (ba_ 46 32767) rfl rfl (any_of HT_.out (by kernel_rfl)) ?_
      refine pu_ 15 (some 25) (ba_ 46 65535) rfl rfl (any_of HT_.out (by kernel_rfl)) ?_
      refine pu_ 16 (some 26) (ba_ 46 131071) rfl rfl (any_of HT_.out (by kernel_rfl)) ?_
      refine pn_ 17 (some 27) (ba_ 46 262143) rfl rfl (any_of HT_.out (by kernel_rfl)) ?_
      refine pn_ 18 (some 28) (ba_ 46 524287) rfl rfl (any_of HT_.out (by kernel_rfl)) ?_
      refine pn_ 19 (some 29) (ba_ 46 1048575) rfl rfl (any_of HT_.out (by kernel_rfl)) ?_
      refine pn_ 20 (some 30) (ba_ 46 2097151) rfl rfl (any_of HT_.out (by kernel_rfl)) ?_
      refine pn_ 21 (some 31) (ba_ 46 4194303) rfl rfl (any_of HT_.out (by kernel_rfl)) ?_
      refine pn_ 22 (some 32) (ba_ 46 8388607) rfl rfl (any_of HT_.out (by kernel_rfl)) ?_
      refine pn_ 23 (some 33) (ba_ 46 16777215) rfl rfl (any_of HT_.out (by kernel_rfl)) ?_
      refine pn_ 24 (some 34) (ba_ 46 33554431) rfl rfl (any_of HT_.out (by kernel_rfl)) ?_
      refine pn_ 25 (some 35) (ba_ 46 67108863) rfl rfl (any_of HT_.out (by kernel_rfl)) ?_
      refine pu_ 26 (some 36) (ba_ 46 134217727) rfl rfl (any_of HT_.out (by kernel_rfl)) ?_
      refine pu_ 27 (some 37) (ba_ 46 268435455) rfl rfl (any_of HT_.out (by kernel_rfl)) ?_
      refine pn_ 28 (some 38) (ba_ 46 536870911) rfl rfl (any_of HT_.out (by kernel_rfl)) ?_
      refine pn_ 29 (some 39) (ba_ 46 1073741823) rfl rfl (any_of HT_.out (by kernel_rfl)) ?_
      refine pn_ 30 (some 40) (ba_ 46 2147483647) rfl rfl (any_of HT_.out (by kernel_rfl)) ?_
      refine pn_ 31 (some 41) (ba_ 46 4294967295) rfl rfl (any_of HT_.out (by kernel_rfl)) ?_
      refine pn_ 32 (some 42) (ba_ 46 8589934591) rfl rfl (any_of HT_.out (by kernel_rfl)) ?_
      refine pn_ 33 (some 43) (ba_ 46 17179869183) rfl rfl (any_of HT_.out (by kernel_rfl)) ?_
      refine pn_ 34 (some 44) (ba_ 46 34359738367) rfl rfl (any_of HT_.out (by kernel_rfl)) ?_
      refine pn_ 35 (some 45) (ba_ 46 68719476735) rfl rfl (any_of HT_.out (by kernel_rfl)) ?_
      refine pn_ 36 (some 46) (ba_ 46 137438953471) rfl rfl (any_of HT_.out (by kernel_rfl)) ?_
      refine pn_ 37 (some 47) (ba_ 46 274877906943) rfl rfl (any_of HT_.out (by kernel_rfl)) ?_
      refine pn_ 38 (some 48) (ba_ 46 549755813887) rfl rfl (any_of HT_.out (by kernel_rfl)) ?_
      refine pn_ 39 (some 49) (ba_ 46 1099511627775) rfl rfl (any_of HT_.out (by kernel_rfl)) ?_
      refine pn_ 40 (some 50) (ba_ 46 2199023255551) rfl rfl (any_of HT_.out (by kernel_rfl)) ?_
      refine pn_ 41 (some 51) (ba_ 46 4398046511103) rfl rfl (any_of HT_.out (by kernel_rfl)) ?_
      refine pn_ 42 (some 52) (ba_ 46 8796093022207) rfl rfl (any_of HT_.out (by kernel_rfl)) ?_
      refine pn_ 43 (some 53) (ba_ 46 17592186044415) rfl rfl (any_of HT_.out (by kernel_rfl)) ?_
      refine pn_ 44 (some 54) (ba_ 46 35184372088831) rfl rfl (any_of HT_.out (by kernel_rfl)) ?_
      refine pu_ 45 (some 55) (ba_ 46 70368744177663) rfl rfl (any_of HT_.out (by kernel_rfl)) ?_
      refine done_ (done_of HT_.out (by kernel_rfl)) ?_
      try go_wp2
      go_ret
      exact ⟨ea_, (bl_ HB).out⟩
    ·rw [if_neg c3] at H
     exact absurd H (by simp)
   ·rw [if_neg c2] at H
    have c2b0 : decide (x3_1 < (l0.length : Int)) = false := decide_eq_false c2
    clear c2
    replace H := Option.bind_eq_some_iff.mp H
    obtain ⟨t463, A200, H⟩ := H
    replace H : (some t463) = some r := H
    have A20 := Aside0.mk A200
    clear A200
    obtain rfl := Option.some.inj H
    go_wp2_with (first | ((with_reducible refine gate_callee (f := 67) rfl ?_); refine gL_ (some 58) Try.func67 #[.int .i64 (l0.length : Int), .int .i64 1, .int .i64 24] ?_; (with_reducible refine (spec_l1In.calls (l0.length : Int) 1 24 t463 _ A20.out).mono ?_); rintro e w' ⟨rfl, ⟨nd, rfl⟩⟩; refine ⟨_, rfl, ?_⟩))
    go_ret
    exact ⟨ea_, (bl_ HB).out⟩
end Go.Proofs.Ytbifdckfglejkaa.X
namespace Go.Proofs.Ytbifdckfglejkaa.X
open Go.RowKit Go.Proofs.YtbifdckfglejkaaW.PrintWords Go.Proofs.YtbifdckfglejkaaW.PrintLast Go.Proofs.YtbifdckfglejkaaW.PrintMore
attribute [local go_sem] max2_int min2_int max_two min_two max_three min_three max_four min_four   -- for this text's walks alone
set_option linter.unusedVariables false
set_option linter.unusedSimpArgs false
def spec_l3Copy.f (l0 : List (S90)) : Option ((List (S90))) := (some (([] : List (S90)) : List (S90))).bind fun y842 => (if y842.length + l0.length < 8796093022208 then (some (y842 ++ l0)) else (none))
set_option maxHeartbeats 8000000 in
set_option maxRecDepth 100000 in
theorem spec_l3Copy.calls (A0 : Option Addr) (c0 : Nat) (l0 : List (S90)) (r : List (S90)) (w : World) (hr0 : Kd.C k90 w A0 l0.length l0) (hc0 : l0.length ≤ c0) (h : spec_l3Copy.f l0 = some r) :
  Calls Try.prog 98 #[.slice A0 l0.length c0] w fun e w' => ∃ v0_ : Value, e = .returned (v0_) ∧ Kd.R k90 90 w' w.heap.size (fun _ => True) v0_ r ∧ Below w.heap.size w w' := by
 have HR0 := Aside0.mk hr0
 have HC0 := Aside0.mk hc0
 clear hr0 hc0
 have HB := Aside0.mk (Below.refl w.heap.size w)
 have H : ((some (([] : List (S90)) : List (S90))).bind fun y842 => (if y842.length + l0.length < 8796093022208 then (some (y842 ++ l0)) else (none))) = some r := h
 clear h
 obtain ⟨y842, hy842⟩ : ∃ y_ : List (S90), y_ = (([] : List (S90))) := ⟨_, rfl⟩
 replace H : (if y842.length + l0.length < 8796093022208 then (some (y842 ++ l0)) else (none)) = some r := by first | (rw [hy842]; with_reducible exact H) | (have H2_ := (Option.bind_some _ _).symm.trans H; rw [hy842]; with_reducible exact H2_) | (have H2_ := (Option.bind_some _ _).symm.trans H; with_reducible exact H2_) | with_reducible exact H | (rw [hy842]; exact H) | exact H
 have Ny842 := Aside0.mk hy842
 clear hy842
 by_cases c2 : y842.length + l0.length < 8796093022208
 ·rw [if_pos c2] at H
  have LMc2 := Aside0.mk c2
  clear c2
  obtain ⟨y845, hy845⟩ : ∃ y_ : List (S90), y_ = (y842 ++ l0) := ⟨_, rfl⟩
  replace H : (some y845) = some r := by first | (rw [hy845]; with_reducible exact H) | (have H2_ := (Option.bind_some _ _).symm.trans H; rw [hy845]; with_reducible exact H2_) | (have H2_ := (Option.bind_some _ _).symm.trans H; with_reducible exact H2_) | with_reducible exact H | (rw [hy845]; exact H) | exact H
  have Ny845 := Aside0.mk hy845
  clear hy845
  obtain rfl := Option.some.inj H
  go_enter Try.func98, Try.ntmps98
  go_wp2_with (first | ((with_reducible refine gate_dst (N := 3) rfl ?_); refine Kd.R_lit k90 _ 90 ?hg (N := 3) ?hd (xs := ([] : List (S90))) (inner := []) (ok := fun _ => True) (okp := fun _ => True) ?hr ?hp (fun _ hk => hk) trivial (Below.refl _ _) (Nat.le_refl _) (by simp) ?_; (case hd => rfl); (case hg => rfl); (case hr => first | (go_simp; done) | (go_simp; rfl)); (case hp => exact (Reps.none _ _)); intro v843 w3 ho4 hb hg_ hnew_; clear hg_ hnew_; (first | rw [← Ny842.out] at ho4 | (simp only [Int.reduceToNat] at ho4; rw [← Ny842.out] at ho4)); have HO844 := Aside0.mk (Kd.R_lower ho4 (bs_ HB)); replace HB := tB_ HB hb; clear hb ho4) | ((with_reducible refine gate_builtin (b := .append) (xs := #[.tmp 3, .tmp 4]) rfl ?_); at_builtin; refine Kd.R_append_rows k90 (w0 := w) w.heap.size rfl (.tmp 3) (.tmp 4) 34 90 (.agg #[(.int .i64 0), (.int .i64 0)]) 16 rfl Try.underlying34 info90 rfl (by decide) (by omega) v843 y842 l0 _ _ _ (fun _ => True) (fun _ => False) rfl rfl ?aO ?aR (fun _ _ h => h) (fun _ h => h.elim) ?aF ?aB ?aS ?aL ?_; (case aR => exact cx_ HR0 HB); (case aB => exact ((bl_ HB).out)); (case aF => exact (fun _ _ => trivial)); (case aO => exact (rx_ HO844.out)); (case aS => exact (bs_ HB)); (case aL => have := LMc2.out; omega); intro v846 w5 ho hb hg hat; rw [← Ny845.out] at ho; replace HB := Aside0.mk (hb); have HO847 := Aside0.mk (ho); clear HO844; clear ho hb hg hat))
  go_ret
  exact ⟨_, ea_, rx_ HO847.out, (bl_ HB).out⟩
 ·rw [if_neg c2] at H
  exact absurd H (by simp)
end Go.Proofs.Ytbifdckfglejkaa.X
namespace Go.Proofs.Ytbifdckfglejkaa.X
open Go.RowKit Go.Proofs.YtbifdckfglejkaaW.PrintWords Go.Proofs.YtbifdckfglejkaaW.PrintLast Go.Proofs.YtbifdckfglejkaaW.PrintMore
attribute [local go_sem] max2_int min2_int max_two min_two max_three min_three max_four min_four   -- for this text's walks alone
set_option linter.unusedVariables false
set_option linter.unusedSimpArgs false
def spec_l3At.f (k : Nat) (l0 : List (S90)) (a1 : Int) : Option (Bool) := (spec_TreeOk.f k l0).bind fun t471 => (if t471 = true then ((spec_l1In.f a1 0 (wrap64 ((l0.length : Int) - 1))).bind fun t472 => (some t472)) else (some false))
set_option maxHeartbeats 8000000 in
set_option maxRecDepth 100000 in
theorem spec_l3At.calls (k : Nat) (A0 : Option Addr) (c0 : Nat) (l0 : List (S90)) (a1 : Int) (r : Bool) (w : World) (hr0 : Kd.C k90 w A0 l0.length l0) (hc0 : l0.length ≤ c0) (h : spec_l3At.f k l0 a1 = some r) :
  Calls Try.prog 114 #[.slice A0 l0.length c0, .int .i64 a1] w fun e w' => e = .returned (.bool r) ∧ Below w.heap.size w w' := by
 have HR0 := Aside0.mk hr0
 have HC0 := Aside0.mk hc0
 clear hr0 hc0
 have HB := Aside0.mk (Below.refl w.heap.size w)
 have H : ((spec_TreeOk.f k l0).bind fun t471 => (if t471 = true then ((spec_l1In.f a1 0 (wrap64 ((l0.length : Int) - 1))).bind fun t472 => (some t472)) else (some false))) = some r := h
 clear h
 replace H := Option.bind_eq_some_iff.mp H
 obtain ⟨t471, A30, H⟩ := H
 try dsimp only at H
 have A3 := Aside0.mk A30
 clear A30
 by_cases c4 : t471 = true
 ·subst c4
  have H1 : ((spec_l1In.f a1 0 (wrap64 ((l0.length : Int) - 1))).bind fun t472 => (some t472)) = some r := by rw [if_pos rfl] at H; exact H
  clear H
  have H := H1
  clear H1
  replace H := Option.bind_eq_some_iff.mp H
  obtain ⟨t472, A50, H⟩ := H
  replace H : (some t472) = some r := H
  have A5 := Aside0.mk A50
  clear A50
  obtain rfl := Option.some.inj H
  go_enter Try.func114, Try.ntmps114
  go_wp2_with (first | ((with_reducible refine gate_callee (f := 64) rfl ?_); refine gL_ (some 6) Try.func64 #[.slice A0 l0.length c0] ?_; (with_reducible refine (spec_TreeOk.calls k _ _ l0 true _ (cc_ HR0.out) HC0.out A3.out).mono ?_); rintro e w6 ⟨rfl, hb⟩; refine ⟨_, rfl, ?_⟩; replace HB := tB_ HB hb; (try clear hb)) | (go_at_call 67; (with_reducible refine (spec_l1In.calls a1 0 (wrap64 ((l0.length : Int) - 1)) t472 _ A5.out).mono ?_); rintro e w' ⟨rfl, ⟨nd, rfl⟩⟩))
  go_ret
  exact ⟨ea_, (bl_ HB).out⟩
 ·replace c4 := Bool.eq_false_iff.mpr c4
  subst c4
  have H1 : (some false) = some r := by rw [if_neg (show ¬ (false = true) by decide)] at H; exact H
  clear H
  have H := H1
  clear H1
  obtain rfl := Option.some.inj H
  go_enter Try.func114, Try.ntmps114
  go_wp2_with (first | ((with_reducible refine gate_callee (f := 64) rfl ?_); refine gL_ (some 6) Try.func64 #[.slice A0 l0.length c0] ?_; (with_reducible refine (spec_TreeOk.calls k _ _ l0 false _ (cc_ HR0.out) HC0.out A3.out).mono ?_); rintro e w7 ⟨rfl, hb⟩; refine ⟨_, rfl, ?_⟩; replace HB := tB_ HB hb; (try clear hb)))
  go_ret
  exact ⟨ea_, (bl_ HB).out⟩
end Go.Proofs.Ytbifdckfglejkaa.X
namespace Go.Proofs.Ytbifdckfglejkaa.X
open Go.RowKit Go.Proofs.YtbifdckfglejkaaW.PrintWords Go.Proofs.YtbifdckfglejkaaW.PrintLast Go.Proofs.YtbifdckfglejkaaW.PrintMore
attribute [local go_sem] max2_int min2_int max_two min_two max_three min_three max_four min_four   -- for this text's walks alone
set_option linter.unusedVariables false
set_option linter.unusedSimpArgs false
def spec_EndOf.l0 : Nat → List (S90) → Int → Int → Option (Int)
 | 0, _, _, _ => none
 | k + 1, x0, x1, x5 => if x5 < (x0.length : Int) then (if 0 ≤ x5 then (if 0 ≤ x1 then (if x1 < (x0.length : Int) then (if ((rd_T90 x0 x5).f1) > ((rd_T90 x0 x1).f1) then (spec_EndOf.l0 k x0 x1 (wrap64 (x5 + 1))) else (some x5)) else (none)) else (none)) else (none)) else (some x5)
def spec_EndOf.f (k : Nat) (l0 : List (S90)) (a1 : Int) : Option (Int) := (spec_l3At.f k l0 a1).bind fun t473 => (if t473 = true then (spec_EndOf.l0 k l0 a1 (wrap64 (a1 + 1))) else (some (-1)))
set_option maxHeartbeats 8000000 in
set_option maxRecDepth 100000 in
theorem spec_EndOf.calls (k : Nat) (A0 : Option Addr) (c0 : Nat) (l0 : List (S90)) (a1 : Int) (r : Int) (w : World) (hr0 : Kd.C k90 w A0 l0.length l0) (hc0 : l0.length ≤ c0) (h : spec_EndOf.f k l0 a1 = some r) :
  Calls Try.prog 100 #[.slice A0 l0.length c0, .int .i64 a1] w fun e w' => e = .returned (.int .i64 r) ∧ Below w.heap.size w w' := by
 have HR0 := Aside0.mk hr0
 have HC0 := Aside0.mk hc0
 clear hr0 hc0
 have HB := Aside0.mk (Below.refl w.heap.size w)
 have H : ((spec_l3At.f k l0 a1).bind fun t473 => (if t473 = true then (spec_EndOf.l0 k l0 a1 (wrap64 (a1 + 1))) else (some (-1)))) = some r := h
 clear h
 replace H := Option.bind_eq_some_iff.mp H
 obtain ⟨t473, A30, H⟩ := H
 replace H : (if t473 = true then (spec_EndOf.l0 k l0 a1 (wrap64 (a1 + 1))) else (some (-1))) = some r := H
 have A3 := Aside0.mk A30
 clear A30
 by_cases c4 : t473 = true
 ·subst c4
  have H1 : (spec_EndOf.l0 k l0 a1 (wrap64 (a1 + 1))) = some r := by rw [if_pos rfl] at H; exact H
  clear H
  have H := H1
  clear H1
  have H' := Aside0.mk H
  clear H
  go_enter Try.func100, Try.ntmps100
  go_wp2_with (first | (go_at_call 114; (with_reducible refine (spec_l3At.calls k _ _ l0 a1 true _ (cc_ HR0.out) HC0.out A3.out).mono ?_); rintro e w5 ⟨rfl, hb⟩; replace HB := tB_ HB hb; (try clear hb)))
  repeat (go_quiet (first | (go_at_call 114; (with_reducible refine (spec_l3At.calls k _ _ l0 a1 true _ (cc_ HR0.out) HC0.out A3.out).mono ?_); rintro e w5 ⟨rfl, hb⟩; replace HB := tB_ HB hb; (try clear hb))); try go_wp2_with (first | (go_at_call 114; (with_reducible refine (spec_l3At.calls k _ _ l0 a1 true _ (cc_ HR0.out) HC0.out A3.out).mono ?_); rintro e w5 ⟨rfl, hb⟩; replace HB := tB_ HB hb; (try clear hb))))
  go_loopg [5] k (fun kq v5 w' => ∃ (x5_1 : Int), v5 = .int .i64 x5_1 ∧ Aside0 (spec_EndOf.l0 kq l0 a1 x5_1 = some r) ∧ Aside0 (kq ≤ k) ∧ Aside0 (Below w.heap.size w w'))
  case atStart => exact ⟨(wrap64 (a1 + 1)), eb_, H', ⟨Nat.le_refl _⟩, bl_ HB⟩
  case round =>
   clear H'
   try clear c1
   try clear p2
   try clear c4
   obtain ⟨x5_1, rfl, HA, HK1, HB⟩ := hrel
   cases gk with
   | zero => exact absurd HA.out (by simp [spec_EndOf.l0])
   | succ k1 =>
    have H := HA.out
    clear HA
    simp only [spec_EndOf.l0] at H
    by_cases c6 : x5_1 < (l0.length : Int)
    ·rw [if_pos c6] at H
     have c6b0 : decide (x5_1 < (l0.length : Int)) = true := decide_eq_true c6
     clear c6
     by_cases c7 : 0 ≤ x5_1
     ·rw [if_pos c7] at H
      have c7b0 : decide (0 ≤ x5_1) = true := decide_eq_true c7
      clear c7
      by_cases c8 : 0 ≤ a1
      ·rw [if_pos c8] at H
       have c8b0 : decide (0 ≤ a1) = true := decide_eq_true c8
       clear c8
       by_cases c9 : a1 < (l0.length : Int)
       ·rw [if_pos c9] at H
        have c9b0 : decide (a1 < (l0.length : Int)) = true := decide_eq_true c9
        clear c9
        by_cases c10 : ((rd_T90 l0 x5_1).f1) > ((rd_T90 l0 a1).f1)
        ·rw [if_pos c10] at H
         have c10b0 : decide (((rd_T90 l0 a1).f1) < ((rd_T90 l0 x5_1).f1)) = true := decide_eq_true c10
         clear c10
         have H' := Aside0.mk H
         clear H
         have p474 : 0 ≤ (x5_1 : Int) := od_
         have q474 : x5_1 < (l0.length : Int) := od_
         obtain ⟨ad474, e474, hx474_0, hx474_1⟩ := at_T90 HR0.out x5_1 p474 q474
         cases e474
         replace hx474_0 := ce_ HB hx474_0
         replace hx474_1 := ce_ HB hx474_1
         replace p474 := eq_true p474
         replace q474 := eq_true q474
         have p475 : 0 ≤ (a1 : Int) := od_
         have q475 : a1 < (l0.length : Int) := od_
         obtain ⟨ad475, e475, hx475_0, hx475_1⟩ := at_T90 HR0.out a1 p475 q475
         obtain rfl : ad474 = ad475 := (by injection e475)
         replace hx475_0 := ce_ HB hx475_0
         replace hx475_1 := ce_ HB hx475_1
         replace p475 := eq_true p475
         replace q475 := eq_true q475
         go_wp2
         repeat (go_quiet (fail); try go_wp2)
         go_roundg k1
         case measure => have := HK1.out; omega
         case rel => exact ⟨(wrap64 (x5_1 + 1)), eb_, H', ⟨by have := HK1.out; omega⟩, bl_ HB⟩
        ·rw [if_neg c10] at H
         have c10b0 : decide (((rd_T90 l0 a1).f1) < ((rd_T90 l0 x5_1).f1)) = false := decide_eq_false c10
         clear c10
         obtain rfl := Option.some.inj H
         have p474 : 0 ≤ (x5_1 : Int) := od_
         have q474 : x5_1 < (l0.length : Int) := od_
         obtain ⟨ad474, e474, hx474_0, hx474_1⟩ := at_T90 HR0.out x5_1 p474 q474
         cases e474
         replace hx474_0 := ce_ HB hx474_0
         replace hx474_1 := ce_ HB hx474_1
         replace p474 := eq_true p474
         replace q474 := eq_true q474
         have p475 : 0 ≤ (a1 : Int) := od_
         have q475 : a1 < (l0.length : Int) := od_
         obtain ⟨ad475, e475, hx475_0, hx475_1⟩ := at_T90 HR0.out a1 p475 q475
         obtain rfl : ad474 = ad475 := (by injection e475)
         replace hx475_0 := ce_ HB hx475_0
         replace hx475_1 := ce_ HB hx475_1
         replace p475 := eq_true p475
         replace q475 := eq_true q475
         go_wp2
         repeat (go_quiet (fail); try go_wp2)
         go_ret
         exact ⟨ea_, (bl_ HB).out⟩
       ·rw [if_neg c9] at H
        exact absurd H (by simp)
      ·rw [if_neg c8] at H
       exact absurd H (by simp)
     ·rw [if_neg c7] at H
      exact absurd H (by simp)
    ·rw [if_neg c6] at H
     have c6b0 : decide (x5_1 < (l0.length : Int)) = false := decide_eq_false c6
     clear c6
     obtain rfl := Option.some.inj H
     go_wp2
     repeat (go_quiet (fail); try go_wp2)
     go_ret
     exact ⟨ea_, (bl_ HB).out⟩
 ·replace c4 := Bool.eq_false_iff.mpr c4
  subst c4
  have H1 : (some (-1)) = some r := by rw [if_neg (show ¬ (false = true) by decide)] at H; exact H
  clear H
  have H := H1
  clear H1
  obtain rfl := Option.some.inj H
  go_enter Try.func100, Try.ntmps100
  go_wp2_with (first | (go_at_call 114; (with_reducible refine (spec_l3At.calls k _ _ l0 a1 false _ (cc_ HR0.out) HC0.out A3.out).mono ?_); rintro e w11 ⟨rfl, hb⟩; replace HB := tB_ HB hb; (try clear hb)))
  repeat (go_quiet (first | (go_at_call 114; (with_reducible refine (spec_l3At.calls k _ _ l0 a1 false _ (cc_ HR0.out) HC0.out A3.out).mono ?_); rintro e w11 ⟨rfl, hb⟩; replace HB := tB_ HB hb; (try clear hb))); try go_wp2_with (first | (go_at_call 114; (with_reducible refine (spec_l3At.calls k _ _ l0 a1 false _ (cc_ HR0.out) HC0.out A3.out).mono ?_); rintro e w11 ⟨rfl, hb⟩; replace HB := tB_ HB hb; (try clear hb))))
  go_ret
  exact ⟨ea_, (bl_ HB).out⟩
end Go.Proofs.Ytbifdckfglejkaa.X
namespace Go.Proofs.Ytbifdckfglejkaa.X
open Go.RowKit Go.Proofs.YtbifdckfglejkaaW.PrintWords Go.Proofs.YtbifdckfglejkaaW.PrintLast Go.Proofs.YtbifdckfglejkaaW.PrintMore
attribute [local go_sem] max2_int min2_int max_two min_two max_three min_three max_four min_four   -- for this text's walks alone
set_option linter.unusedVariables false
set_option linter.unusedSimpArgs false
mutual
def spec_KidsOf.l0 : Nat → List (S90) → Int → List Int → Int → Option (List Int)
 | 0, _, _, _, _ => none
 | k + 1, x0, x1, x5, x6 => (spec_l3At.f k x0 x1).bind fun t827 => (if t827 = true then ((spec_EndOf.f k x0 x1).bind fun t828 => (spec_KidsOf.j1 k x0 x1 x5 x6 (decide (x6 < t828)))) else (spec_KidsOf.j1 k x0 x1 x5 x6 false))
def spec_KidsOf.j1 : Nat → List (S90) → Int → List Int → Int → Bool → Option (List Int)
 | 0, _, _, _, _, _ => none
 | k + 1, x0, x1, x5, x6, x19 => if x19 = true then (if 0 ≤ x6 then (if x6 < (x0.length : Int) then (if 0 ≤ x1 then (if x1 < (x0.length : Int) then (if ((rd_T90 x0 x6).f1) = (wrap64 (((rd_T90 x0 x1).f1) + 1)) then (if x5.length < 17592186044416 then (spec_KidsOf.l0 k x0 x1 (x5 ++ [x6]) (wrap64 (x6 + 1))) else (none)) else (spec_KidsOf.l0 k x0 x1 x5 (wrap64 (x6 + 1)))) else (none)) else (none)) else (none)) else (none)) else (some x5)
end
def spec_KidsOf.f (k : Nat) (l0 : List (S90)) (a1 : Int) : Option (List Int) := spec_KidsOf.l0 k l0 a1 (([] : List Int)) (wrap64 (a1 + 1))
set_option maxHeartbeats 8000000 in
set_option maxRecDepth 100000 in
theorem spec_KidsOf.calls (k : Nat) (A0 : Option Addr) (c0 : Nat) (l0 : List (S90)) (a1 : Int) (r : List Int) (w : World) (hr0 : Kd.C k90 w A0 l0.length l0) (hc0 : l0.length ≤ c0) (h : spec_KidsOf.f k l0 a1 = some r) :
  Calls Try.prog 61 #[.slice A0 l0.length c0, .int .i64 a1] w fun e w' => ∃ v0_ : Value, e = .returned (v0_) ∧ Kd.R (Kd.int .i64) 3 w' w.heap.size (fun _ => True) v0_ r ∧ Below w.heap.size w w' := by
 have HR0 := Aside0.mk hr0
 have HC0 := Aside0.mk hc0
 clear hr0 hc0
 have HB := Aside0.mk (Below.refl w.heap.size w)
 have H : (spec_KidsOf.l0 k l0 a1 (([] : List Int)) (wrap64 (a1 + 1))) = some r := h
 clear h
 obtain ⟨y824, hy824⟩ : ∃ y_ : List Int, y_ = (([] : List Int)) := ⟨_, rfl⟩
 replace H : (spec_KidsOf.l0 k l0 a1 y824 (wrap64 (a1 + 1))) = some r := by first | (rw [hy824]; with_reducible exact H) | (have H2_ := (Option.bind_some _ _).symm.trans H; rw [hy824]; with_reducible exact H2_) | (have H2_ := (Option.bind_some _ _).symm.trans H; with_reducible exact H2_) | with_reducible exact H | (rw [hy824]; exact H) | exact H
 have Ny824 := Aside0.mk hy824
 clear hy824
 have H' := Aside0.mk H
 clear H
 go_enter Try.func61, Try.ntmps61
 go_wp2_with (first | ((with_reducible refine gate_dst (N := 7) rfl ?_); refine Kd.R_lit (Kd.int .i64) _ 3 ?hg (N := 7) ?hd (xs := ([] : List Int)) (inner := []) (ok := fun _ => True) (okp := fun _ => True) ?hr ?hp (fun _ hk => hk) trivial (Below.refl _ _) (Nat.le_refl _) (by simp) ?_; (case hd => rfl); (case hg => rfl); (case hr => first | (go_simp; done) | (go_simp; rfl)); (case hp => exact (Reps.none _ _)); intro v825 w3 ho4 hb hg_ hnew_; clear hg_ hnew_; (first | rw [← Ny824.out] at ho4 | (simp only [Int.reduceToNat] at ho4; rw [← Ny824.out] at ho4)); have HO826 := Aside0.mk (Kd.R_lower ho4 (bs_ HB)); replace HB := tB_ HB hb; clear hb ho4))
 repeat (go_quiet (first | ((with_reducible refine gate_dst (N := 7) rfl ?_); refine Kd.R_lit (Kd.int .i64) _ 3 ?hg (N := 7) ?hd (xs := ([] : List Int)) (inner := []) (ok := fun _ => True) (okp := fun _ => True) ?hr ?hp (fun _ hk => hk) trivial (Below.refl _ _) (Nat.le_refl _) (by simp) ?_; (case hd => rfl); (case hg => rfl); (case hr => first | (go_simp; done) | (go_simp; rfl)); (case hp => exact (Reps.none _ _)); intro v825 w3 ho4 hb hg_ hnew_; clear hg_ hnew_; (first | rw [← Ny824.out] at ho4 | (simp only [Int.reduceToNat] at ho4; rw [← Ny824.out] at ho4)); have HO826 := Aside0.mk (Kd.R_lower ho4 (bs_ HB)); replace HB := tB_ HB hb; clear hb ho4)); try go_wp2_with (first | ((with_reducible refine gate_dst (N := 7) rfl ?_); refine Kd.R_lit (Kd.int .i64) _ 3 ?hg (N := 7) ?hd (xs := ([] : List Int)) (inner := []) (ok := fun _ => True) (okp := fun _ => True) ?hr ?hp (fun _ hk => hk) trivial (Below.refl _ _) (Nat.le_refl _) (by simp) ?_; (case hd => rfl); (case hg => rfl); (case hr => first | (go_simp; done) | (go_simp; rfl)); (case hp => exact (Reps.none _ _)); intro v825 w3 ho4 hb hg_ hnew_; clear hg_ hnew_; (first | rw [← Ny824.out] at ho4 | (simp only [Int.reduceToNat] at ho4; rw [← Ny824.out] at ho4)); have HO826 := Aside0.mk (Kd.R_lower ho4 (bs_ HB)); replace HB := tB_ HB hb; clear hb ho4)))
 go_loopg [5, 6] k (fun kq v5 v6 w' => ∃ (x5_1 : List Int) (x6_1 : Int), v6 = .int .i64 x6_1 ∧ Aside0 (spec_KidsOf.l0 kq l0 a1 x5_1 x6_1 = some r) ∧ Aside0 (kq ≤ k) ∧ Aside0 (Kd.R (Kd.int .i64) 3 w' w.heap.size (fun _ => True) v5 x5_1) ∧ Aside0 (Below w.heap.size w w'))
 case atStart => exact ⟨(y824), (wrap64 (a1 + 1)), eb_, H', ⟨Nat.le_refl _⟩, ⟨rx_ HO826.out⟩, bl_ HB⟩
 case round =>
  clear H'
  try clear p2
  obtain ⟨x5_1, x6_1, rfl, HA, HK1, HO_5, HB⟩ := hrel
  cases gk with
  | zero => exact absurd HA.out (by simp [spec_KidsOf.l0])
  | succ k1 =>
   have H := HA.out
   clear HA
   simp only [spec_KidsOf.l0] at H
   have HC5 := Aside0.mk H
   clear H
   go_upto_region 3 with (fail)
   repeat (go_quiet (fail); go_upto_region 3 with (fail))
   go_cut [19] (fun v19 wc => ∃ (kq : Nat) (x19_4 : Bool), v19 = .bool x19_4 ∧ Aside0 (spec_KidsOf.j1 kq l0 a1 x5_1 x6_1 x19_4 = some r) ∧ Aside0 (kq ≤ k1) ∧ Aside0 (Kd.R (Kd.int .i64) 3 wc w.heap.size (fun _ => True) u5 x5_1) ∧ Aside0 (Below w.heap.size w wc))
   case first =>
    have H := HC5.out
    clear HC5
    replace H := Option.bind_eq_some_iff.mp H
    obtain ⟨t827, A60, H⟩ := H
    try dsimp only at H
    have A6 := Aside0.mk A60
    clear A60
    by_cases c7 : t827 = true
    ·subst c7
     have H1 : ((spec_EndOf.f k1 l0 a1).bind fun t828 => (spec_KidsOf.j1 k1 l0 a1 x5_1 x6_1 (decide (x6_1 < t828)))) = some r := by rw [if_pos rfl] at H; exact H
     clear H
     have H := H1
     clear H1
     replace H := Option.bind_eq_some_iff.mp H
     obtain ⟨t828, A80, H⟩ := H
     replace H : (spec_KidsOf.j1 k1 l0 a1 x5_1 x6_1 (decide (x6_1 < t828))) = some r := H
     have A8 := Aside0.mk A80
     clear A80
     have H' := Aside0.mk H
     clear H
     go_wp2_with (first | (go_at_call 114; (with_reducible refine (spec_l3At.calls k1 _ _ l0 a1 true _ (cx_ HR0 HB) HC0.out A6.out).mono ?_); rintro e w9 ⟨rfl, hb⟩; replace HO_5 := tR_ HO_5 hb; replace HB := tB_ HB hb; (try clear hb)) | (go_at_call 100; (with_reducible refine (spec_EndOf.calls k1 _ _ l0 a1 t828 _ (cx_ HR0 HB) HC0.out A8.out).mono ?_); rintro e w10 ⟨rfl, hb⟩; replace HO_5 := tR_ HO_5 hb; replace HB := tB_ HB hb; (try clear hb)))
     repeat (go_quiet (first | (go_at_call 114; (with_reducible refine (spec_l3At.calls k1 _ _ l0 a1 true _ (cx_ HR0 HB) HC0.out A6.out).mono ?_); rintro e w9 ⟨rfl, hb⟩; replace HO_5 := tR_ HO_5 hb; replace HB := tB_ HB hb; (try clear hb)) | (go_at_call 100; (with_reducible refine (spec_EndOf.calls k1 _ _ l0 a1 t828 _ (cx_ HR0 HB) HC0.out A8.out).mono ?_); rintro e w10 ⟨rfl, hb⟩; replace HO_5 := tR_ HO_5 hb; replace HB := tB_ HB hb; (try clear hb))); try go_wp2_with (first | (go_at_call 114; (with_reducible refine (spec_l3At.calls k1 _ _ l0 a1 true _ (cx_ HR0 HB) HC0.out A6.out).mono ?_); rintro e w9 ⟨rfl, hb⟩; replace HO_5 := tR_ HO_5 hb; replace HB := tB_ HB hb; (try clear hb)) | (go_at_call 100; (with_reducible refine (spec_EndOf.calls k1 _ _ l0 a1 t828 _ (cx_ HR0 HB) HC0.out A8.out).mono ?_); rintro e w10 ⟨rfl, hb⟩; replace HO_5 := tR_ HO_5 hb; replace HB := tB_ HB hb; (try clear hb))))
     go_meet
     case rel => exact ⟨_, (decide (x6_1 < t828)), eb_, H', ⟨by have := HK1.out; first | omega | exact Nat.le_refl _⟩, ⟨rx_ HO_5.out⟩, bl_ HB⟩
    ·replace c7 := Bool.eq_false_iff.mpr c7
     subst c7
     have H1 : (spec_KidsOf.j1 k1 l0 a1 x5_1 x6_1 false) = some r := by rw [if_neg (show ¬ (false = true) by decide)] at H; exact H
     clear H
     have H := H1
     clear H1
     have H' := Aside0.mk H
     clear H
     go_wp2_with (first | (go_at_call 114; (with_reducible refine (spec_l3At.calls k1 _ _ l0 a1 false _ (cx_ HR0 HB) HC0.out A6.out).mono ?_); rintro e w11 ⟨rfl, hb⟩; replace HO_5 := tR_ HO_5 hb; replace HB := tB_ HB hb; (try clear hb)))
     repeat (go_quiet (first | (go_at_call 114; (with_reducible refine (spec_l3At.calls k1 _ _ l0 a1 false _ (cx_ HR0 HB) HC0.out A6.out).mono ?_); rintro e w11 ⟨rfl, hb⟩; replace HO_5 := tR_ HO_5 hb; replace HB := tB_ HB hb; (try clear hb))); try go_wp2_with (first | (go_at_call 114; (with_reducible refine (spec_l3At.calls k1 _ _ l0 a1 false _ (cx_ HR0 HB) HC0.out A6.out).mono ?_); rintro e w11 ⟨rfl, hb⟩; replace HO_5 := tR_ HO_5 hb; replace HB := tB_ HB hb; (try clear hb))))
     go_meet
     case rel => exact ⟨_, (false), eb_, H', ⟨by have := HK1.out; first | omega | exact Nat.le_refl _⟩, ⟨rx_ HO_5.out⟩, bl_ HB⟩
   case rest =>
    clear HC5
    try clear p2
    try clear c6
    try clear p6
    try clear c7
    try clear p2
    obtain ⟨kq, x19_4, rfl, HA, HJ4, HO_5, HB⟩ := hcut
    cases kq with
    | zero => exact absurd HA.out (by simp [spec_KidsOf.j1])
    | succ kj4 =>
     have H := HA.out
     clear HA
     simp only [spec_KidsOf.j1] at H
     by_cases c12 : x19_4 = true
     ·subst c12
      have H1 : (if 0 ≤ x6_1 then (if x6_1 < (l0.length : Int) then (if 0 ≤ a1 then (if a1 < (l0.length : Int) then (if ((rd_T90 l0 x6_1).f1) = (wrap64 (((rd_T90 l0 a1).f1) + 1)) then (if x5_1.length < 17592186044416 then (spec_KidsOf.l0 kj4 l0 a1 (x5_1 ++ [x6_1]) (wrap64 (x6_1 + 1))) else (none)) else (spec_KidsOf.l0 kj4 l0 a1 x5_1 (wrap64 (x6_1 + 1)))) else (none)) else (none)) else (none)) else (none)) = some r := by rw [if_pos rfl] at H; exact H
      clear H
      have H := H1
      clear H1
      by_cases c13 : 0 ≤ x6_1
      ·rw [if_pos c13] at H
       have c13b0 : decide (0 ≤ x6_1) = true := decide_eq_true c13
       clear c13
       by_cases c14 : x6_1 < (l0.length : Int)
       ·rw [if_pos c14] at H
        have c14b0 : decide (x6_1 < (l0.length : Int)) = true := decide_eq_true c14
        clear c14
        by_cases c15 : 0 ≤ a1
        ·rw [if_pos c15] at H
         have c15b0 : decide (0 ≤ a1) = true := decide_eq_true c15
         clear c15
         by_cases c16 : a1 < (l0.length : Int)
         ·rw [if_pos c16] at H
          have c16b0 : decide (a1 < (l0.length : Int)) = true := decide_eq_true c16
          clear c16
          by_cases c17 : ((rd_T90 l0 x6_1).f1) = (wrap64 (((rd_T90 l0 a1).f1) + 1))
          ·rw [if_pos c17] at H
           have c17b0 : (((rd_T90 l0 x6_1).f1) == (wrap64 (((rd_T90 l0 a1).f1) + 1))) = true := beq_iff_eq.mpr c17
           have c17b1 : (((rd_T90 l0 x6_1).f1) != (wrap64 (((rd_T90 l0 a1).f1) + 1))) = false := bne_eq_false_iff_eq.mpr c17
           clear c17
           by_cases c18 : x5_1.length < 17592186044416
           ·rw [if_pos c18] at H
            have LMc18 := Aside0.mk c18
            clear c18
            obtain ⟨y831, hy831⟩ : ∃ y_ : List Int, y_ = (x5_1 ++ [x6_1]) := ⟨_, rfl⟩
            replace H : (spec_KidsOf.l0 kj4 l0 a1 y831 (wrap64 (x6_1 + 1))) = some r := by first | (rw [hy831]; with_reducible exact H) | (have H2_ := (Option.bind_some _ _).symm.trans H; rw [hy831]; with_reducible exact H2_) | (have H2_ := (Option.bind_some _ _).symm.trans H; with_reducible exact H2_) | with_reducible exact H | (rw [hy831]; exact H) | exact H
            have Ny831 := Aside0.mk hy831
            clear hy831
            have H' := Aside0.mk H
            clear H
            have p829 : 0 ≤ (x6_1 : Int) := od_
            have q829 : x6_1 < (l0.length : Int) := od_
            obtain ⟨ad829, e829, hx829_0, hx829_1⟩ := at_T90 HR0.out x6_1 p829 q829
            cases e829
            replace hx829_0 := ce_ HB hx829_0
            replace hx829_1 := ce_ HB hx829_1
            replace p829 := eq_true p829
            replace q829 := eq_true q829
            have p830 : 0 ≤ (a1 : Int) := od_
            have q830 : a1 < (l0.length : Int) := od_
            obtain ⟨ad830, e830, hx830_0, hx830_1⟩ := at_T90 HR0.out a1 p830 q830
            obtain rfl : ad829 = ad830 := (by injection e830)
            replace hx830_0 := ce_ HB hx830_0
            replace hx830_1 := ce_ HB hx830_1
            replace p830 := eq_true p830
            replace q830 := eq_true q830
            go_wp2_with (first | ((with_reducible refine gate_builtin (b := .append) (xs := #[.tmp 34, .tmp 36]) rfl ?_); at_builtin; refine Kd.R_append (Kd.int .i64) (w0 := w) w.heap.size rfl (.tmp 34) (.tmp 36) 39 3 (.int .i64 0) 8 rfl Try.underlying39 info3 rfl (by decide) (by omega) u5 x5_1 x6_1 [.int .i64 x6_1] (fun _ => True) (fun _ => False) rfl rfl ?aP (fun _ hk => hk.elim) ?aF ?aO ?aB ?aS ?aL ?_; (case aP => exact rfl); (case aB => exact ((bl_ HB).out)); (case aF => exact (fun _ _ => trivial)); (case aO => exact (rx_ HO_5.out)); (case aS => exact (bs_ HB)); (case aL => have := LMc18.out; omega); intro v832 w19 ho hb hg hat; rw [← Ny831.out] at ho; replace HB := Aside0.mk (hb); have HO833 := Aside0.mk (ho); clear HO_5; clear ho hb hg hat))
            repeat (go_quiet (first | ((with_reducible refine gate_builtin (b := .append) (xs := #[.tmp 34, .tmp 36]) rfl ?_); at_builtin; refine Kd.R_append (Kd.int .i64) (w0 := w) w.heap.size rfl (.tmp 34) (.tmp 36) 39 3 (.int .i64 0) 8 rfl Try.underlying39 info3 rfl (by decide) (by omega) u5 x5_1 x6_1 [.int .i64 x6_1] (fun _ => True) (fun _ => False) rfl rfl ?aP (fun _ hk => hk.elim) ?aF ?aO ?aB ?aS ?aL ?_; (case aP => exact rfl); (case aB => exact ((bl_ HB).out)); (case aF => exact (fun _ _ => trivial)); (case aO => exact (rx_ HO_5.out)); (case aS => exact (bs_ HB)); (case aL => have := LMc18.out; omega); intro v832 w19 ho hb hg hat; rw [← Ny831.out] at ho; replace HB := Aside0.mk (hb); have HO833 := Aside0.mk (ho); clear HO_5; clear ho hb hg hat)); try go_wp2_with (first | ((with_reducible refine gate_builtin (b := .append) (xs := #[.tmp 34, .tmp 36]) rfl ?_); at_builtin; refine Kd.R_append (Kd.int .i64) (w0 := w) w.heap.size rfl (.tmp 34) (.tmp 36) 39 3 (.int .i64 0) 8 rfl Try.underlying39 info3 rfl (by decide) (by omega) u5 x5_1 x6_1 [.int .i64 x6_1] (fun _ => True) (fun _ => False) rfl rfl ?aP (fun _ hk => hk.elim) ?aF ?aO ?aB ?aS ?aL ?_; (case aP => exact rfl); (case aB => exact ((bl_ HB).out)); (case aF => exact (fun _ _ => trivial)); (case aO => exact (rx_ HO_5.out)); (case aS => exact (bs_ HB)); (case aL => have := LMc18.out; omega); intro v832 w19 ho hb hg hat; rw [← Ny831.out] at ho; replace HB := Aside0.mk (hb); have HO833 := Aside0.mk (ho); clear HO_5; clear ho hb hg hat)))
            go_roundg kj4
            case measure => have := HK1.out; have := HJ4.out; omega
            case rel => exact ⟨(y831), (wrap64 (x6_1 + 1)), eb_, H', ⟨by have := HK1.out; have := HJ4.out; omega⟩, ⟨rx_ HO833.out⟩, bl_ HB⟩
           ·rw [if_neg c18] at H
            exact absurd H (by simp)
          ·rw [if_neg c17] at H
           have c17b0 : (((rd_T90 l0 x6_1).f1) == (wrap64 (((rd_T90 l0 a1).f1) + 1))) = false := beq_eq_false_iff_ne.mpr c17
           have c17b1 : (((rd_T90 l0 x6_1).f1) != (wrap64 (((rd_T90 l0 a1).f1) + 1))) = true := bne_iff_ne.mpr c17
           have H' := Aside0.mk H
           clear H
           have p829 : 0 ≤ (x6_1 : Int) := od_
           have q829 : x6_1 < (l0.length : Int) := od_
           obtain ⟨ad829, e829, hx829_0, hx829_1⟩ := at_T90 HR0.out x6_1 p829 q829
           cases e829
           replace hx829_0 := ce_ HB hx829_0
           replace hx829_1 := ce_ HB hx829_1
           replace p829 := eq_true p829
           replace q829 := eq_true q829
           have p830 : 0 ≤ (a1 : Int) := od_
           have q830 : a1 < (l0.length : Int) := od_
           obtain ⟨ad830, e830, hx830_0, hx830_1⟩ := at_T90 HR0.out a1 p830 q830
           obtain rfl : ad829 = ad830 := (by injection e830)
           replace hx830_0 := ce_ HB hx830_0
           replace hx830_1 := ce_ HB hx830_1
           replace p830 := eq_true p830
           replace q830 := eq_true q830
           go_wp2
           repeat (go_quiet (fail); try go_wp2)
           go_roundg kj4
           case measure => have := HK1.out; have := HJ4.out; omega
           case rel => exact ⟨(x5_1), (wrap64 (x6_1 + 1)), eb_, H', ⟨by have := HK1.out; have := HJ4.out; omega⟩, ⟨rx_ HO_5.out⟩, bl_ HB⟩
         ·rw [if_neg c16] at H
          exact absurd H (by simp)
        ·rw [if_neg c15] at H
         exact absurd H (by simp)
       ·rw [if_neg c14] at H
        exact absurd H (by simp)
      ·rw [if_neg c13] at H
       exact absurd H (by simp)
     ·replace c12 := Bool.eq_false_iff.mpr c12
      subst c12
      have H1 : (some x5_1) = some r := by rw [if_neg (show ¬ (false = true) by decide)] at H; exact H
      clear H
      have H := H1
      clear H1
      obtain rfl := Option.some.inj H
      go_wp2
      repeat (go_quiet (fail); try go_wp2)
      go_ret
      exact ⟨_, ea_, rx_ HO_5.out, (bl_ HB).out⟩
end Go.Proofs.Ytbifdckfglejkaa.X
namespace Go.Proofs.Ytbifdckfglejkaa.X
open Go.RowKit Go.Proofs.YtbifdckfglejkaaW.PrintWords Go.Proofs.YtbifdckfglejkaaW.PrintLast Go.Proofs.YtbifdckfglejkaaW.PrintMore
attribute [local go_sem] max2_int min2_int max_two min_two max_three min_three max_four min_four   -- for this text's walks alone
set_option linter.unusedVariables false
set_option linter.unusedSimpArgs false
def spec_NodeAt.l0 : Nat → List (S90) → List Int → Int → Int → Option (Int)
 | 0, _, _, _, _ => none
 | k + 1, x0, x1, x5, x6 => if x6 < (x1.length : Int) then ((spec_KidsOf.f k x0 x5).bind fun t835 => (if 0 ≤ x6 then ((spec_l1In.f (rd x1 x6) 0 (wrap64 ((t835.length : Int) - 1))).bind fun t839 => (if t839 = true then (if 0 ≤ (rd x1 x6) then (if (rd x1 x6) < (t835.length : Int) then (spec_NodeAt.l0 k x0 x1 (rd t835 (rd x1 x6)) (wrap64 (x6 + 1))) else (none)) else (none)) else (some (-1)))) else (none))) else (some x5)
def spec_NodeAt.f (k : Nat) (l0 : List (S90)) (l1 : List Int) : Option (Int) := (spec_TreeOk.f k l0).bind fun t834 => (if t834 = true then (spec_NodeAt.l0 k l0 l1 0 0) else (some (-1)))
set_option maxHeartbeats 8000000 in
set_option maxRecDepth 100000 in
theorem spec_NodeAt.calls (k : Nat) (A0 : Option Addr) (c0 : Nat) (l0 : List (S90)) (A1 : Option Addr) (c1 : Nat) (l1 : List Int) (r : Int) (w : World) (hr0 : Kd.C k90 w A0 l0.length l0) (hc0 : l0.length ≤ c0) (hr1 : Kd.C (Kd.int .i64) w A1 l1.length l1) (hc1 : l1.length ≤ c1) (h : spec_NodeAt.f k l0 l1 = some r) :
  Calls Try.prog 60 #[.slice A0 l0.length c0, .slice A1 l1.length c1] w fun e w' => e = .returned (.int .i64 r) ∧ Below w.heap.size w w' := by
 have HR0 := Aside0.mk hr0
 have HC0 := Aside0.mk hc0
 clear hr0 hc0
 have HR1 := Aside0.mk hr1
 have HC1 := Aside0.mk hc1
 clear hr1 hc1
 have HB := Aside0.mk (Below.refl w.heap.size w)
 have H : ((spec_TreeOk.f k l0).bind fun t834 => (if t834 = true then (spec_NodeAt.l0 k l0 l1 0 0) else (some (-1)))) = some r := h
 clear h
 replace H := Option.bind_eq_some_iff.mp H
 obtain ⟨t834, A30, H⟩ := H
 replace H : (if t834 = true then (spec_NodeAt.l0 k l0 l1 0 0) else (some (-1))) = some r := H
 have A3 := Aside0.mk A30
 clear A30
 by_cases c4 : t834 = true
 ·subst c4
  have H1 : (spec_NodeAt.l0 k l0 l1 0 0) = some r := by rw [if_pos rfl] at H; exact H
  clear H
  have H := H1
  clear H1
  have H' := Aside0.mk H
  clear H
  go_enter Try.func60, Try.ntmps60
  go_wp2_with (first | ((with_reducible refine gate_callee (f := 64) rfl ?_); refine gL_ (some 9) Try.func64 #[.slice A0 l0.length c0] ?_; (with_reducible refine (spec_TreeOk.calls k _ _ l0 true _ (cc_ HR0.out) HC0.out A3.out).mono ?_); rintro e w5 ⟨rfl, hb⟩; refine ⟨_, rfl, ?_⟩; replace HB := tB_ HB hb; (try clear hb)))
  go_loopg [5, 6] k (fun kq v5 v6 w' => ∃ (x5_1 : Int) (x6_1 : Int), v5 = .int .i64 x5_1 ∧ v6 = .int .i64 x6_1 ∧ Aside0 (spec_NodeAt.l0 kq l0 l1 x5_1 x6_1 = some r) ∧ Aside0 (kq ≤ k) ∧ Aside0 (Below w.heap.size w w'))
  case atStart => exact ⟨(0), (0), eb_, eb_, H', ⟨Nat.le_refl _⟩, bl_ HB⟩
  case round =>
   clear H'
   try clear c1
   try clear p2
   try clear c4
   obtain ⟨x5_1, x6_1, rfl, rfl, HA, HK1, HB⟩ := hrel
   cases gk with
   | zero => exact absurd HA.out (by simp [spec_NodeAt.l0])
   | succ k1 =>
    have H := HA.out
    clear HA
    simp only [spec_NodeAt.l0] at H
    by_cases c6 : x6_1 < (l1.length : Int)
    ·rw [if_pos c6] at H
     have c6b0 : decide (x6_1 < (l1.length : Int)) = true := decide_eq_true c6
     clear c6
     replace H := Option.bind_eq_some_iff.mp H
     obtain ⟨t835, A70, H⟩ := H
     try dsimp only at H
     have A7 := Aside0.mk A70
     clear A70
     by_cases c8 : 0 ≤ x6_1
     ·rw [if_pos c8] at H
      have c8b0 : decide (0 ≤ x6_1) = true := decide_eq_true c8
      clear c8
      replace H := Option.bind_eq_some_iff.mp H
      obtain ⟨t839, A90, H⟩ := H
      try dsimp only at H
      have A9 := Aside0.mk A90
      clear A90
      by_cases c10 : t839 = true
      ·subst c10
       have H1 : (if 0 ≤ (rd l1 x6_1) then (if (rd l1 x6_1) < (t835.length : Int) then (spec_NodeAt.l0 k1 l0 l1 (rd t835 (rd l1 x6_1)) (wrap64 (x6_1 + 1))) else (none)) else (none)) = some r := by rw [if_pos rfl] at H; exact H
       clear H
       have H := H1
       clear H1
       by_cases c11 : 0 ≤ (rd l1 x6_1)
       ·rw [if_pos c11] at H
        have c11b0 : decide (0 ≤ (rd l1 x6_1)) = true := decide_eq_true c11
        clear c11
        by_cases c12 : (rd l1 x6_1) < (t835.length : Int)
        ·rw [if_pos c12] at H
         have c12b0 : decide ((rd l1 x6_1) < (t835.length : Int)) = true := decide_eq_true c12
         clear c12
         have H' := Aside0.mk H
         clear H
         go_wp2_with (first | ((with_reducible refine gate_callee (f := 61) rfl ?_); refine gL_ (some 19) Try.func61 #[.slice A0 l0.length c0, .int .i64 x5_1] ?_; (with_reducible refine (spec_KidsOf.calls k1 _ _ l0 x5_1 t835 _ (cx_ HR0 HB) HC0.out A7.out).mono ?_); rintro e w13 ⟨v836, rfl, ho0, hb⟩; refine ⟨_, rfl, ?_⟩; have HO837 := Aside0.mk (Kd.R_lower ho0 (bs_ HB)); replace HB := tB_ HB hb; (try clear hb); (try clear ho0); have p838 : 0 ≤ (x6_1 : Int) := od_; have q838 : x6_1 < (l1.length : Int) := od_; obtain ⟨ad838, e838, hx838_0⟩ := Kd.at_int HR1.out x6_1 p838 q838; cases e838; replace hx838_0 := ce_ HB hx838_0; replace p838 := eq_true p838; replace q838 := eq_true q838; obtain ⟨Ao14, co14, eo14⟩ := Kd.R_slice HO837.out; subst eo14) | ((with_reducible refine gate_callee (f := 67) rfl ?_); refine gL_ (some 27) Try.func67 #[.int .i64 (rd l1 x6_1), .int .i64 0, .int .i64 (wrap64 ((t835.length : Int) - 1))] ?_; (with_reducible refine (spec_l1In.calls (rd l1 x6_1) 0 (wrap64 ((t835.length : Int) - 1)) true _ A9.out).mono ?_); rintro e w' ⟨rfl, ⟨nd, rfl⟩⟩; refine ⟨_, rfl, ?_⟩; have p840 : 0 ≤ (x6_1 : Int) := od_; have q840 : x6_1 < (l1.length : Int) := od_; obtain ⟨ad840, e840, hx840_0⟩ := Kd.at_int HR1.out x6_1 p840 q840; obtain rfl : ad838 = ad840 := (by injection e840); replace hx840_0 := ce_ HB hx840_0; replace p840 := eq_true p840; replace q840 := eq_true q840; have p841 : 0 ≤ ((rd l1 x6_1) : Int) := od_; have q841 : (rd l1 x6_1) < (t835.length : Int) := od_; obtain ⟨ad841, e841, hx841_0⟩ := Kd.at_int (Kd.R_reads' HO837.out).2.2 (rd l1 x6_1) p841 q841; cases e841; replace p841 := eq_true p841; replace q841 := eq_true q841))
         go_roundg k1
         case measure => have := HK1.out; omega
         case rel => exact ⟨(rd t835 (rd l1 x6_1)), (wrap64 (x6_1 + 1)), eb_, eb_, H', ⟨by have := HK1.out; omega⟩, bl_ HB⟩
        ·rw [if_neg c12] at H
         exact absurd H (by simp)
       ·rw [if_neg c11] at H
        exact absurd H (by simp)
      ·replace c10 := Bool.eq_false_iff.mpr c10
       subst c10
       have H1 : (some (-1)) = some r := by rw [if_neg (show ¬ (false = true) by decide)] at H; exact H
       clear H
       have H := H1
       clear H1
       obtain rfl := Option.some.inj H
       go_wp2_with (first | ((with_reducible refine gate_callee (f := 61) rfl ?_); refine gL_ (some 19) Try.func61 #[.slice A0 l0.length c0, .int .i64 x5_1] ?_; (with_reducible refine (spec_KidsOf.calls k1 _ _ l0 x5_1 t835 _ (cx_ HR0 HB) HC0.out A7.out).mono ?_); rintro e w15 ⟨v836, rfl, ho0, hb⟩; refine ⟨_, rfl, ?_⟩; have HO837 := Aside0.mk (Kd.R_lower ho0 (bs_ HB)); replace HB := tB_ HB hb; (try clear hb); (try clear ho0); have p838 : 0 ≤ (x6_1 : Int) := od_; have q838 : x6_1 < (l1.length : Int) := od_; obtain ⟨ad838, e838, hx838_0⟩ := Kd.at_int HR1.out x6_1 p838 q838; cases e838; replace hx838_0 := ce_ HB hx838_0; replace p838 := eq_true p838; replace q838 := eq_true q838; obtain ⟨Ao16, co16, eo16⟩ := Kd.R_slice HO837.out; subst eo16) | ((with_reducible refine gate_callee (f := 67) rfl ?_); refine gL_ (some 27) Try.func67 #[.int .i64 (rd l1 x6_1), .int .i64 0, .int .i64 (wrap64 ((t835.length : Int) - 1))] ?_; (with_reducible refine (spec_l1In.calls (rd l1 x6_1) 0 (wrap64 ((t835.length : Int) - 1)) false _ A9.out).mono ?_); rintro e w' ⟨rfl, ⟨nd, rfl⟩⟩; refine ⟨_, rfl, ?_⟩))
       go_ret
       exact ⟨ea_, (bl_ HB).out⟩
     ·rw [if_neg c8] at H
      exact absurd H (by simp)
    ·rw [if_neg c6] at H
     have c6b0 : decide (x6_1 < (l1.length : Int)) = false := decide_eq_false c6
     clear c6
     obtain rfl := Option.some.inj H
     go_wp2
     go_ret
     exact ⟨ea_, (bl_ HB).out⟩
 ·replace c4 := Bool.eq_false_iff.mpr c4
  subst c4
  have H1 : (some (-1)) = some r := by rw [if_neg (show ¬ (false = true) by decide)] at H; exact H
  clear H
  have H := H1
  clear H1
  obtain rfl := Option.some.inj H
  go_enter Try.func60, Try.ntmps60
  go_wp2_with (first | ((with_reducible refine gate_callee (f := 64) rfl ?_); refine gL_ (some 9) Try.func64 #[.slice A0 l0.length c0] ?_; (with_reducible refine (spec_TreeOk.calls k _ _ l0 false _ (cc_ HR0.out) HC0.out A3.out).mono ?_); rintro e w17 ⟨rfl, hb⟩; refine ⟨_, rfl, ?_⟩; replace HB := tB_ HB hb; (try clear hb)))
  go_ret
  exact ⟨ea_, (bl_ HB).out⟩
end Go.Proofs.Ytbifdckfglejkaa.X
namespace Go.Proofs.Ytbifdckfglejkaa.X
open Go.RowKit Go.Proofs.YtbifdckfglejkaaW.PrintWords Go.Proofs.YtbifdckfglejkaaW.PrintLast Go.Proofs.YtbifdckfglejkaaW.PrintMore
attribute [local go_sem] max2_int min2_int max_two min_two max_three min_three max_four min_four   -- for this text's walks alone
set_option linter.unusedVariables false
set_option linter.unusedSimpArgs false
mutual
def spec_l13Code.j0 : Nat → List (S90) → Int → Bool → Int → List Int → Int → Int → Int → Option (Int × Int × Int)
 | 0, _, _, _, _, _, _, _, _ => none
 | k + 1, x0, x2, x22, x849000, x849001, x849002, x849003, x849004 => if x22 = true then (some (3, 0, 0)) else (if x849000 = 2 then (spec_l13Code.j1 k x0 x2 (x2 == 0) x849000 x849001 x849002 x849003 x849004) else (spec_l13Code.j1 k x0 x2 false x849000 x849001 x849002 x849003 x849004))
def spec_l13Code.j1 : Nat → List (S90) → Int → Bool → Int → List Int → Int → Int → Int → Option (Int × Int × Int)
 | 0, _, _, _, _, _, _, _, _ => none
 | k + 1, x0, x2, x32, x849000, x849001, x849002, x849003, x849004 => if x32 = true then (some (4, 0, 0)) else (if x849000 = 3 then ((spec_KidsOf.f k x0 x2).bind fun t851 => ((spec_l1In.f x849003 0 (t851.length : Int)).bind fun t854 => (if t854 = true then ((spec_l1In.f x849004 0 (wrap64 ((t851.length : Int) - x849003))).bind fun t855 => (spec_l13Code.j2 k x0 x2 t851 (!t855) x849000 x849001 x849002 x849003 x849004)) else (spec_l13Code.j2 k x0 x2 t851 true x849000 x849001 x849002 x849003 x849004)))) else (some (0, 0, 0)))
def spec_l13Code.j2 : Nat → List (S90) → Int → List Int → Bool → Int → List Int → Int → Int → Int → Option (Int × Int × Int)
 | 0, _, _, _, _, _, _, _, _, _ => none
 | k + 1, x0, x2, x9, x63, x849000, x849001, x849002, x849003, x849004 => if x63 = true then (some (5, 0, 0)) else ((spec_EndOf.f k x0 x2).bind fun t856 => (if x9.length < 17592186044416 then ((some (x9 ++ [t856] : List Int)).bind fun y857 => (if 0 ≤ x849003 then (if x849003 < (y857.length : Int) then (if 0 ≤ (wrap64 (x849003 + x849004)) then (if (wrap64 (x849003 + x849004)) < (y857.length : Int) then (if (x0.length : Int) = 24 then (some (6, 0, 0)) else (if 0 ≤ x2 then (if x2 < (x0.length : Int) then (spec_l13Code.l0 k x0 (rd y857 x849003) (rd y857 (wrap64 (x849003 + x849004))) (wrap64 (((rd_T90 x0 x2).f1) + 1)) (rd y857 x849003)) else (none)) else (none))) else (none)) else (none)) else (none)) else (none))) else (none)))
def spec_l13Code.l0 : Nat → List (S90) → Int → Int → Int → Int → Option (Int × Int × Int)
 | 0, _, _, _, _, _ => none
 | k + 1, x0, x10, x11, x12, x13 => if x13 < x11 then (if 0 ≤ x13 then (if x13 < (x0.length : Int) then (spec_l13Code.l0 k x0 x10 x11 (mx x12 (wrap64 (((rd_T90 x0 x13).f1) + 1))) (wrap64 (x13 + 1))) else (none)) else (none)) else (if x12 > 12 then (some (7, 0, 0)) else (some (0, x10, x11)))
end
def spec_l13Code.f (k : Nat) (l0 : List (S90)) (a1_0 : Int) (l1_1 : List Int) (a1_2 : Int) (a1_3 : Int) (a1_4 : Int) (a2 : Int) : Option (Int × Int × Int) := (spec_l1In.f a1_0 1 3).bind fun t849 => (if t849 = true then (if a2 < 0 then (some (2, 0, 0)) else (if a1_0 = 2 then (spec_l13Code.j0 k l0 a2 false a1_0 l1_1 a1_2 a1_3 a1_4) else ((spec_LabelOk.f a1_2).bind fun t850 => (spec_l13Code.j0 k l0 a2 (!t850) a1_0 l1_1 a1_2 a1_3 a1_4)))) else (some (1, 0, 0)))
set_option maxHeartbeats 8000000 in
set_option maxRecDepth 100000 in
theorem spec_l13Code.calls (k : Nat) (A0 : Option Addr) (c0 : Nat) (l0 : List (S90)) (a1_0 : Int) (A1_1 : Option Addr) (c1_1 : Nat) (l1_1 : List Int) (a1_2 : Int) (a1_3 : Int) (a1_4 : Int) (a2 : Int) (r1 : Int) (r2 : Int) (r3 : Int) (w : World) (hr0 : Kd.C k90 w A0 l0.length l0) (hc0 : l0.length ≤ c0) (hr1_1 : Kd.C (Kd.int .i64) w A1_1 l1_1.length l1_1) (hc1_1 : l1_1.length ≤ c1_1) (h : spec_l13Code.f k l0 a1_0 l1_1 a1_2 a1_3 a1_4 a2 = some (r1, r2, r3)) :
  Calls Try.prog 99 #[.slice A0 l0.length c0, .agg #[.int .i64 a1_0, .slice A1_1 l1_1.length c1_1, .int .i64 a1_2, .int .i64 a1_3, .int .i64 a1_4], .int .i64 a2] w fun e w' => e = .returned (.tuple #[.int .i64 r1, .int .i64 r2, .int .i64 r3]) ∧ Below w.heap.size w w' := by
 have hu67 := Try.underlying67
 have HR0 := Aside0.mk hr0
 have HC0 := Aside0.mk hc0
 clear hr0 hc0
 have HR1_1 := Aside0.mk hr1_1
 have HC1_1 := Aside0.mk hc1_1
 clear hr1_1 hc1_1
 have HB := Aside0.mk (Below.refl w.heap.size w)
 have H : ((spec_l1In.f a1_0 1 3).bind fun t849 => (if t849 = true then (if a2 < 0 then (some (2, 0, 0)) else (if a1_0 = 2 then (spec_l13Code.j0 k l0 a2 false a1_0 l1_1 a1_2 a1_3 a1_4) else ((spec_LabelOk.f a1_2).bind fun t850 => (spec_l13Code.j0 k l0 a2 (!t850) a1_0 l1_1 a1_2 a1_3 a1_4)))) else (some (1, 0, 0)))) = some (r1, r2, r3) := h
 clear h
 replace H := Option.bind_eq_some_iff.mp H
 obtain ⟨t849, A40, H⟩ := H
 try dsimp only at H
 have A4 := Aside0.mk A40
 clear A40
 by_cases c5 : t849 = true
 ·subst c5
  have H1 : (if a2 < 0 then (some (2, 0, 0)) else (if a1_0 = 2 then (spec_l13Code.j0 k l0 a2 false a1_0 l1_1 a1_2 a1_3 a1_4) else ((spec_LabelOk.f a1_2).bind fun t850 => (spec_l13Code.j0 k l0 a2 (!t850) a1_0 l1_1 a1_2 a1_3 a1_4)))) = some (r1, r2, r3) := by rw [if_pos rfl] at H; exact H
  clear H
  have H := H1
  clear H1
  by_cases c6 : a2 < 0
  ·rw [if_pos c6] at H
   have c6b0 : decide (a2 < 0) = true := decide_eq_true c6
   clear c6
   simp only [Option.some.injEq, Prod.mk.injEq] at H
   obtain ⟨rfl, rfl, rfl⟩ := H
   go_enter Try.func99, Try.ntmps99
   go_wp2_with (first | ((with_reducible refine gate_dst (N := 4) rfl ?_); (try (refine gate_guard (by rfl) ?_; dsimp only)); refine bx_ 4 #[.int .i64 a1_0, .slice A1_1 l1_1.length c1_1, .int .i64 a1_2, .int .i64 a1_3, .int .i64 a1_4] 67 ?_; intro gb848 hg w7 hbox hb; have BK848 := Aside0.mk (hbox); have GW848 := Aside0.mk ((by rw [hg]; exact (bs_ HB) : w.heap.size ≤ gb848)); have GE848 := Aside0.mk ((by rw [hg]; exact (bs_ HB) : w.heap.size ≤ gb848)); replace HB := tB_ HB hb; clear hb hbox hg; obtain ⟨hcz8_0, hcz8_1, hcz8_2, hcz8_3, hcz8_4, hfz8_0, hfz8_1, hfz8_2, hfz8_3, hfz8_4⟩ := bk5_ BK848) | ((with_reducible refine gate_callee (f := 67) rfl ?_); refine gL_ (some 17) Try.func67 #[.int .i64 a1_0, .int .i64 1, .int .i64 3] ?_; (with_reducible refine (spec_l1In.calls a1_0 1 3 true _ A4.out).mono ?_); rintro e w' ⟨rfl, ⟨nd, rfl⟩⟩; refine ⟨_, rfl, ?_⟩))
   go_ret3
   exact ⟨ea_, (bl_ HB).out⟩
  ·rw [if_neg c6] at H
   have c6b0 : decide (a2 < 0) = false := decide_eq_false c6
   clear c6
   have HC9 := Aside0.mk H
   clear H
   go_enter Try.func99, Try.ntmps99
   go_upto_region 5 with (first | ((with_reducible refine gate_dst (N := 4) rfl ?_); (try (refine gate_guard (by rfl) ?_; dsimp only)); refine bx_ 4 #[.int .i64 a1_0, .slice A1_1 l1_1.length c1_1, .int .i64 a1_2, .int .i64 a1_3, .int .i64 a1_4] 67 ?_; intro gb848 hg w10 hbox hb; have BK848 := Aside0.mk (hbox); have GW848 := Aside0.mk ((by rw [hg]; exact (bs_ HB) : w.heap.size ≤ gb848)); have GE848 := Aside0.mk ((by rw [hg]; exact (bs_ HB) : w.heap.size ≤ gb848)); replace HB := tB_ HB hb; clear hb hbox hg; obtain ⟨hcz11_0, hcz11_1, hcz11_2, hcz11_3, hcz11_4, hfz11_0, hfz11_1, hfz11_2, hfz11_3, hfz11_4⟩ := bk5_ BK848) | ((with_reducible refine gate_callee (f := 67) rfl ?_); refine gL_ (some 17) Try.func67 #[.int .i64 a1_0, .int .i64 1, .int .i64 3] ?_; (with_reducible refine (spec_l1In.calls a1_0 1 3 true _ A4.out).mono ?_); rintro e w' ⟨rfl, ⟨nd, rfl⟩⟩; refine ⟨_, rfl, ?_⟩))
   (try simp only [Act.put, List.setIfInBounds_toArray, List.set_cons_zero, List.set_cons_succ])
   go_cut [22] (fun v22 wc => ∃ (kq : Nat) (x22_8 : Bool), v22 = .bool x22_8 ∧ Aside0 (spec_l13Code.j0 kq l0 a2 x22_8 a1_0 l1_1 a1_2 a1_3 a1_4 = some (r1, r2, r3)) ∧ Aside0 (kq ≤ k) ∧ Aside0 (wc.heap[gb848]? = some (.cells #[.int .i64 a1_0, (.slice A1_1 l1_1.length c1_1), .int .i64 a1_2, .int .i64 a1_3, .int .i64 a1_4] 67 (0, 0))) ∧ Aside0 (Below w.heap.size w wc))
   case first =>
    have H := HC9.out
    clear HC9
    by_cases c12 : a1_0 = 2
    ·rw [if_pos c12] at H
     have c12b0 : (a1_0 == 2) = true := beq_iff_eq.mpr c12
     have c12b1 : (a1_0 != 2) = false := bne_eq_false_iff_eq.mpr c12
     clear c12
     (first | rw [c12b0] | (simp only [i64_w, i32_w]; rw [c12b0]) | skip)
     have H' := Aside0.mk H
     clear H
     have hcz13_0 : w10.cell? ⟨gb848, 0, none⟩ = some (.int .i64 a1_0) := (blk_cell BK848.out 0).trans rfl
     have hcz13_1 : w10.cell? ⟨gb848, 1, none⟩ = some (.slice A1_1 l1_1.length c1_1) := (blk_cell BK848.out 1).trans rfl
     have hcz13_2 : w10.cell? ⟨gb848, 2, none⟩ = some (.int .i64 a1_2) := (blk_cell BK848.out 2).trans rfl
     have hcz13_3 : w10.cell? ⟨gb848, 3, none⟩ = some (.int .i64 a1_3) := (blk_cell BK848.out 3).trans rfl
     have hcz13_4 : w10.cell? ⟨gb848, 4, none⟩ = some (.int .i64 a1_4) := (blk_cell BK848.out 4).trans rfl
     have hfz13_0 := blk_frozen BK848.out 0
     have hfz13_1 := blk_frozen BK848.out 1
     have hfz13_2 := blk_frozen BK848.out 2
     have hfz13_3 := blk_frozen BK848.out 3
     have hfz13_4 := blk_frozen BK848.out 4
     go_wp2
     go_meet
     case rel => exact ⟨_, (false), eb_, H', ⟨by first | omega | exact Nat.le_refl _⟩, ⟨kx_ BK848.out⟩, bl_ HB⟩
    ·rw [if_neg c12] at H
     have c12b0 : (a1_0 == 2) = false := beq_eq_false_iff_ne.mpr c12
     have c12b1 : (a1_0 != 2) = true := bne_iff_ne.mpr c12
     (first | rw [c12b0] | (simp only [i64_w, i32_w]; rw [c12b0]) | skip)
     replace H := Option.bind_eq_some_iff.mp H
     obtain ⟨t850, A140, H⟩ := H
     replace H : (spec_l13Code.j0 k l0 a2 (!t850) a1_0 l1_1 a1_2 a1_3 a1_4) = some (r1, r2, r3) := H
     have A14 := Aside0.mk A140
     clear A140
     have H' := Aside0.mk H
     clear H
     have hcz15_0 : w10.cell? ⟨gb848, 0, none⟩ = some (.int .i64 a1_0) := (blk_cell BK848.out 0).trans rfl
     have hcz15_1 : w10.cell? ⟨gb848, 1, none⟩ = some (.slice A1_1 l1_1.length c1_1) := (blk_cell BK848.out 1).trans rfl
     have hcz15_2 : w10.cell? ⟨gb848, 2, none⟩ = some (.int .i64 a1_2) := (blk_cell BK848.out 2).trans rfl
     have hcz15_3 : w10.cell? ⟨gb848, 3, none⟩ = some (.int .i64 a1_3) := (blk_cell BK848.out 3).trans rfl
     have hcz15_4 : w10.cell? ⟨gb848, 4, none⟩ = some (.int .i64 a1_4) := (blk_cell BK848.out 4).trans rfl
     have hfz15_0 := blk_frozen BK848.out 0
     have hfz15_1 := blk_frozen BK848.out 1
     have hfz15_2 := blk_frozen BK848.out 2
     have hfz15_3 := blk_frozen BK848.out 3
     have hfz15_4 := blk_frozen BK848.out 4
     go_wp2_with (first | (go_at_call 69; (with_reducible refine (spec_LabelOk.calls a1_2 t850 _ A14.out).mono ?_); rintro e w' ⟨rfl, ⟨nd, rfl⟩⟩))
     go_meet
     case rel => exact ⟨_, (!t850), eb_, H', ⟨by first | omega | exact Nat.le_refl _⟩, ⟨kx_ BK848.out⟩, bl_ HB⟩
   case rest =>
    clear HC9
    try clear c1
    try clear p2
    try clear c5
    try clear c6
    try clear c6b0
    try clear c9
    try clear c12
    try clear c12b0
    try clear c12b1
    try clear hcz11_0
    try clear hcz11_1
    try clear hcz11_2
    try clear hcz11_3
    try clear hcz11_4
    try clear hcz13_0
    try clear hcz13_1
    try clear hcz13_2
    try clear hcz13_3
    try clear hcz13_4
    try clear hcz15_0
    try clear hcz15_1
    try clear hcz15_2
    try clear hcz15_3
    try clear hcz15_4
    try clear hcz8_0
    try clear hcz8_1
    try clear hcz8_2
    try clear hcz8_3
    try clear hcz8_4
    try clear hfz11_0
    try clear hfz11_1
    try clear hfz11_2
    try clear hfz11_3
    try clear hfz11_4
    try clear hfz13_0
    try clear hfz13_1
    try clear hfz13_2
    try clear hfz13_3
    try clear hfz13_4
    try clear hfz15_0
    try clear hfz15_1
    try clear hfz15_2
    try clear hfz15_3
    try clear hfz15_4
    try clear hfz8_0
    try clear hfz8_1
    try clear hfz8_2
    try clear hfz8_3
    try clear hfz8_4
    obtain ⟨kq, x22_8, rfl, HA, HJ8, BK848, HB⟩ := hcut
    cases kq with
    | zero => exact absurd HA.out (by simp [spec_l13Code.j0])
    | succ kj8 =>
     have H := HA.out
     clear HA
     simp only [spec_l13Code.j0] at H
     by_cases c16 : x22_8 = true
     ·subst c16
      have H1 : (some (3, 0, 0)) = some (r1, r2, r3) := by rw [if_pos rfl] at H; exact H
      clear H
      have H := H1
      clear H1
      simp only [Option.some.injEq, Prod.mk.injEq] at H
      obtain ⟨rfl, rfl, rfl⟩ := H
      go_wp2
      go_ret3
      exact ⟨ea_, (bl_ HB).out⟩
     ·replace c16 := Bool.eq_false_iff.mpr c16
      subst c16
      have H1 : (if a1_0 = 2 then (spec_l13Code.j1 kj8 l0 a2 (a2 == 0) a1_0 l1_1 a1_2 a1_3 a1_4) else (spec_l13Code.j1 kj8 l0 a2 false a1_0 l1_1 a1_2 a1_3 a1_4)) = some (r1, r2, r3) := by rw [if_neg (show ¬ (false = true) by decide)] at H; exact H
      clear H
      have H := H1
      clear H1
      have HC17 := Aside0.mk H
      clear H
      go_upto_region 7 with (fail)
      go_cut [32] (fun v32 wc => ∃ (kq : Nat) (x32_16 : Bool), v32 = .bool x32_16 ∧ Aside0 (spec_l13Code.j1 kq l0 a2 x32_16 a1_0 l1_1 a1_2 a1_3 a1_4 = some (r1, r2, r3)) ∧ Aside0 (kq ≤ kj8) ∧ Aside0 (wc.heap[gb848]? = some (.cells #[.int .i64 a1_0, (.slice A1_1 l1_1.length c1_1), .int .i64 a1_2, .int .i64 a1_3, .int .i64 a1_4] 67 (0, 0))) ∧ Aside0 (Below w.heap.size w wc))
      case first =>
       have H := HC17.out
       clear HC17
       by_cases c18 : a1_0 = 2
       ·rw [if_pos c18] at H
        have c18b0 : (a1_0 == 2) = true := beq_iff_eq.mpr c18
        have c18b1 : (a1_0 != 2) = false := bne_eq_false_iff_eq.mpr c18
        clear c18
        (first | rw [c18b0] | (simp only [i64_w, i32_w]; rw [c18b0]) | skip)
        have H' := Aside0.mk H
        clear H
        have hcz19_0 : wc.cell? ⟨gb848, 0, none⟩ = some (.int .i64 a1_0) := (blk_cell BK848.out 0).trans rfl
        have hcz19_1 : wc.cell? ⟨gb848, 1, none⟩ = some (.slice A1_1 l1_1.length c1_1) := (blk_cell BK848.out 1).trans rfl
        have hcz19_2 : wc.cell? ⟨gb848, 2, none⟩ = some (.int .i64 a1_2) := (blk_cell BK848.out 2).trans rfl
        have hcz19_3 : wc.cell? ⟨gb848, 3, none⟩ = some (.int .i64 a1_3) := (blk_cell BK848.out 3).trans rfl
        have hcz19_4 : wc.cell? ⟨gb848, 4, none⟩ = some (.int .i64 a1_4) := (blk_cell BK848.out 4).trans rfl
        have hfz19_0 := blk_frozen BK848.out 0
        have hfz19_1 := blk_frozen BK848.out 1
        have hfz19_2 := blk_frozen BK848.out 2
        have hfz19_3 := blk_frozen BK848.out 3
        have hfz19_4 := blk_frozen BK848.out 4
        go_wp2
        go_meet
        case rel => exact ⟨_, ((a2 == 0)), eb_, H', ⟨by have := HJ8.out; first | omega | exact Nat.le_refl _⟩, ⟨kx_ BK848.out⟩, bl_ HB⟩
       ·rw [if_neg c18] at H
        have c18b0 : (a1_0 == 2) = false := beq_eq_false_iff_ne.mpr c18
        have c18b1 : (a1_0 != 2) = true := bne_iff_ne.mpr c18
        (first | rw [c18b0] | (simp only [i64_w, i32_w]; rw [c18b0]) | skip)
        have H' := Aside0.mk H
        clear H
        have hcz20_0 : wc.cell? ⟨gb848, 0, none⟩ = some (.int .i64 a1_0) := (blk_cell BK848.out 0).trans rfl
        have hcz20_1 : wc.cell? ⟨gb848, 1, none⟩ = some (.slice A1_1 l1_1.length c1_1) := (blk_cell BK848.out 1).trans rfl
        have hcz20_2 : wc.cell? ⟨gb848, 2, none⟩ = some (.int .i64 a1_2) := (blk_cell BK848.out 2).trans rfl
        have hcz20_3 : wc.cell? ⟨gb848, 3, none⟩ = some (.int .i64 a1_3) := (blk_cell BK848.out 3).trans rfl
        have hcz20_4 : wc.cell? ⟨gb848, 4, none⟩ = some (.int .i64 a1_4) := (blk_cell BK848.out 4).trans rfl
        have hfz20_0 := blk_frozen BK848.out 0
        have hfz20_1 := blk_frozen BK848.out 1
        have hfz20_2 := blk_frozen BK848.out 2
        have hfz20_3 := blk_frozen BK848.out 3
        have hfz20_4 := blk_frozen BK848.out 4
        go_wp2
        go_meet
        case rel => exact ⟨_, (false), eb_, H', ⟨by have := HJ8.out; first | omega | exact Nat.le_refl _⟩, ⟨kx_ BK848.out⟩, bl_ HB⟩
      case rest =>
       clear HC17
       try clear c1
       try clear p2
       try clear c5
       try clear c6
       try clear c6b0
       try clear c9
       try clear c12
       try clear c12b0
       try clear c12b1
       try clear c16
       try clear c18
       try clear c18b0
       try clear c18b1
       try clear hcz11_0
       try clear hcz11_1
       try clear hcz11_2
       try clear hcz11_3
       try clear hcz11_4
       try clear hcz13_0
       try clear hcz13_1
       try clear hcz13_2
       try clear hcz13_3
       try clear hcz13_4
       try clear hcz15_0
       try clear hcz15_1
       try clear hcz15_2
       try clear hcz15_3
       try clear hcz15_4
       try clear hcz19_0
       try clear hcz19_1
       try clear hcz19_2
       try clear hcz19_3
       try clear hcz19_4
       try clear hcz20_0
       try clear hcz20_1
       try clear hcz20_2
       try clear hcz20_3
       try clear hcz20_4
       try clear hcz8_0
       try clear hcz8_1
       try clear hcz8_2
       try clear hcz8_3
       try clear hcz8_4
       try clear hfz11_0
       try clear hfz11_1
       try clear hfz11_2
       try clear hfz11_3
       try clear hfz11_4
       try clear hfz13_0
       try clear hfz13_1
       try clear hfz13_2
       try clear hfz13_3
       try clear hfz13_4
       try clear hfz15_0
       try clear hfz15_1
       try clear hfz15_2
       try clear hfz15_3
       try clear hfz15_4
       try clear hfz19_0
       try clear hfz19_1
       try clear hfz19_2
       try clear hfz19_3
       try clear hfz19_4
       try clear hfz20_0
       try clear hfz20_1
       try clear hfz20_2
       try clear hfz20_3
       try clear hfz20_4
       try clear hfz8_0
       try clear hfz8_1
       try clear hfz8_2
       try clear hfz8_3
       try clear hfz8_4
       try clear p2
       obtain ⟨kq, x32_16, rfl, HA, HJ16, BK848, HB⟩ := hcut
       cases kq with
       | zero => exact absurd HA.out (by simp [spec_l13Code.j1])
       | succ kj16 =>
        have H := HA.out
        clear HA
        simp only [spec_l13Code.j1] at H
        by_cases c21 : x32_16 = true
        ·subst c21
         have H1 : (some (4, 0, 0)) = some (r1, r2, r3) := by rw [if_pos rfl] at H; exact H
         clear H
         have H := H1
         clear H1
         simp only [Option.some.injEq, Prod.mk.injEq] at H
         obtain ⟨rfl, rfl, rfl⟩ := H
         go_wp2
         go_ret3
         exact ⟨ea_, (bl_ HB).out⟩
        ·replace c21 := Bool.eq_false_iff.mpr c21
         subst c21
         have H1 : (if a1_0 = 3 then ((spec_KidsOf.f kj16 l0 a2).bind fun t851 => ((spec_l1In.f a1_3 0 (t851.length : Int)).bind fun t854 => (if t854 = true then ((spec_l1In.f a1_4 0 (wrap64 ((t851.length : Int) - a1_3))).bind fun t855 => (spec_l13Code.j2 kj16 l0 a2 t851 (!t855) a1_0 l1_1 a1_2 a1_3 a1_4)) else (spec_l13Code.j2 kj16 l0 a2 t851 true a1_0 l1_1 a1_2 a1_3 a1_4)))) else (some (0, 0, 0))) = some (r1, r2, r3) := by rw [if_neg (show ¬ (false = true) by decide)] at H; exact H
         clear H
         have H := H1
         clear H1
         by_cases c22 : a1_0 = 3
         ·rw [if_pos c22] at H
          have c22b0 : (a1_0 == 3) = true := beq_iff_eq.mpr c22
          have c22b1 : (a1_0 != 3) = false := bne_eq_false_iff_eq.mpr c22
          clear c22
          replace H := Option.bind_eq_some_iff.mp H
          obtain ⟨t851, A230, H⟩ := H
          try dsimp only at H
          have A23 := Aside0.mk A230
          clear A230
          have HC24 := Aside0.mk H
          clear H
          have hcz25_0 : wc.cell? ⟨gb848, 0, none⟩ = some (.int .i64 a1_0) := (blk_cell BK848.out 0).trans rfl
          have hcz25_1 : wc.cell? ⟨gb848, 1, none⟩ = some (.slice A1_1 l1_1.length c1_1) := (blk_cell BK848.out 1).trans rfl
          have hcz25_2 : wc.cell? ⟨gb848, 2, none⟩ = some (.int .i64 a1_2) := (blk_cell BK848.out 2).trans rfl
          have hcz25_3 : wc.cell? ⟨gb848, 3, none⟩ = some (.int .i64 a1_3) := (blk_cell BK848.out 3).trans rfl
          have hcz25_4 : wc.cell? ⟨gb848, 4, none⟩ = some (.int .i64 a1_4) := (blk_cell BK848.out 4).trans rfl
          have hfz25_0 := blk_frozen BK848.out 0
          have hfz25_1 := blk_frozen BK848.out 1
          have hfz25_2 := blk_frozen BK848.out 2
          have hfz25_3 := blk_frozen BK848.out 3
          have hfz25_4 := blk_frozen BK848.out 4
          go_upto_region 12 with (first | ((with_reducible refine gate_callee (f := 61) rfl ?_); refine gL_ (some 46) Try.func61 #[.slice A0 l0.length c0, .int .i64 a2] ?_; (with_reducible refine (spec_KidsOf.calls kj16 _ _ l0 a2 t851 _ (cx_ HR0 HB) HC0.out A23.out).mono ?_); rintro e w26 ⟨v852, rfl, ho0, hb⟩; refine ⟨_, rfl, ?_⟩; have HO853 := Aside0.mk (Kd.R_lower ho0 (bs_ HB)); replace BK848 := tK_ BK848 hb; replace HB := tB_ HB hb; (try clear hb); (try clear ho0)))
          (try simp only [Act.put, List.setIfInBounds_toArray, List.set_cons_zero, List.set_cons_succ])
          go_cut [63] (fun v63 wc => ∃ (kq : Nat) (x63_23 : Bool), v63 = .bool x63_23 ∧ Aside0 (spec_l13Code.j2 kq l0 a2 t851 x63_23 a1_0 l1_1 a1_2 a1_3 a1_4 = some (r1, r2, r3)) ∧ Aside0 (kq ≤ kj16) ∧ Aside0 (Kd.R (Kd.int .i64) 3 wc w.heap.size (fun _ => True) v852 t851) ∧ Aside0 (wc.heap[gb848]? = some (.cells #[.int .i64 a1_0, (.slice A1_1 l1_1.length c1_1), .int .i64 a1_2, .int .i64 a1_3, .int .i64 a1_4] 67 (0, 0))) ∧ Aside0 (Below w.heap.size w wc))
          case first =>
           have H := HC24.out
           clear HC24
           replace H := Option.bind_eq_some_iff.mp H
           obtain ⟨t854, A270, H⟩ := H
           try dsimp only at H
           have A27 := Aside0.mk A270
           clear A270
           by_cases c28 : t854 = true
           ·subst c28
            have H1 : ((spec_l1In.f a1_4 0 (wrap64 ((t851.length : Int) - a1_3))).bind fun t855 => (spec_l13Code.j2 kj16 l0 a2 t851 (!t855) a1_0 l1_1 a1_2 a1_3 a1_4)) = some (r1, r2, r3) := by rw [if_pos rfl] at H; exact H
            clear H
            have H := H1
            clear H1
            replace H := Option.bind_eq_some_iff.mp H
            obtain ⟨t855, A290, H⟩ := H
            replace H : (spec_l13Code.j2 kj16 l0 a2 t851 (!t855) a1_0 l1_1 a1_2 a1_3 a1_4) = some (r1, r2, r3) := H
            have A29 := Aside0.mk A290
            clear A290
            have H' := Aside0.mk H
            clear H
            have hcz30_0 : w26.cell? ⟨gb848, 0, none⟩ = some (.int .i64 a1_0) := (blk_cell BK848.out 0).trans rfl
            have hcz30_1 : w26.cell? ⟨gb848, 1, none⟩ = some (.slice A1_1 l1_1.length c1_1) := (blk_cell BK848.out 1).trans rfl
            have hcz30_2 : w26.cell? ⟨gb848, 2, none⟩ = some (.int .i64 a1_2) := (blk_cell BK848.out 2).trans rfl
            have hcz30_3 : w26.cell? ⟨gb848, 3, none⟩ = some (.int .i64 a1_3) := (blk_cell BK848.out 3).trans rfl
            have hcz30_4 : w26.cell? ⟨gb848, 4, none⟩ = some (.int .i64 a1_4) := (blk_cell BK848.out 4).trans rfl
            have hfz30_0 := blk_frozen BK848.out 0
            have hfz30_1 := blk_frozen BK848.out 1
            have hfz30_2 := blk_frozen BK848.out 2
            have hfz30_3 := blk_frozen BK848.out 3
            have hfz30_4 := blk_frozen BK848.out 4
            obtain ⟨Ao31, co31, eo31⟩ := Kd.R_slice HO853.out
            subst eo31
            go_wp2_with (first | ((with_reducible refine gate_callee (f := 67) rfl ?_); refine gL_ (some 51) Try.func67 #[.int .i64 a1_3, .int .i64 0, .int .i64 (t851.length : Int)] ?_; (with_reducible refine (spec_l1In.calls a1_3 0 (t851.length : Int) true _ A27.out).mono ?_); rintro e w' ⟨rfl, ⟨nd, rfl⟩⟩; refine ⟨_, rfl, ?_⟩) | (go_at_call 67; (with_reducible refine (spec_l1In.calls a1_4 0 (wrap64 ((t851.length : Int) - a1_3)) t855 _ A29.out).mono ?_); rintro e w' ⟨rfl, ⟨nd, rfl⟩⟩))
            go_meet
            case rel => exact ⟨_, (!t855), eb_, H', ⟨by have := HJ8.out; have := HJ16.out; first | omega | exact Nat.le_refl _⟩, ⟨rx_ HO853.out⟩, ⟨kx_ BK848.out⟩, bl_ HB⟩
           ·replace c28 := Bool.eq_false_iff.mpr c28
            subst c28
            have H1 : (spec_l13Code.j2 kj16 l0 a2 t851 true a1_0 l1_1 a1_2 a1_3 a1_4) = some (r1, r2, r3) := by rw [if_neg (show ¬ (false = true) by decide)] at H; exact H
            clear H
            have H := H1
            clear H1
            have H' := Aside0.mk H
            clear H
            have hcz32_0 : w26.cell? ⟨gb848, 0, none⟩ = some (.int .i64 a1_0) := (blk_cell BK848.out 0).trans rfl
            have hcz32_1 : w26.cell? ⟨gb848, 1, none⟩ = some (.slice A1_1 l1_1.length c1_1) := (blk_cell BK848.out 1).trans rfl
            have hcz32_2 : w26.cell? ⟨gb848, 2, none⟩ = some (.int .i64 a1_2) := (blk_cell BK848.out 2).trans rfl
            have hcz32_3 : w26.cell? ⟨gb848, 3, none⟩ = some (.int .i64 a1_3) := (blk_cell BK848.out 3).trans rfl
            have hcz32_4 : w26.cell? ⟨gb848, 4, none⟩ = some (.int .i64 a1_4) := (blk_cell BK848.out 4).trans rfl
            have hfz32_0 := blk_frozen BK848.out 0
            have hfz32_1 := blk_frozen BK848.out 1
            have hfz32_2 := blk_frozen BK848.out 2
            have hfz32_3 := blk_frozen BK848.out 3
            have hfz32_4 := blk_frozen BK848.out 4
            obtain ⟨Ao33, co33, eo33⟩ := Kd.R_slice HO853.out
            subst eo33
            go_wp2_with (first | ((with_reducible refine gate_callee (f := 67) rfl ?_); refine gL_ (some 51) Try.func67 #[.int .i64 a1_3, .int .i64 0, .int .i64 (t851.length : Int)] ?_; (with_reducible refine (spec_l1In.calls a1_3 0 (t851.length : Int) false _ A27.out).mono ?_); rintro e w' ⟨rfl, ⟨nd, rfl⟩⟩; refine ⟨_, rfl, ?_⟩))
            go_meet
            case rel => exact ⟨_, (true), eb_, H', ⟨by have := HJ8.out; have := HJ16.out; first | omega | exact Nat.le_refl _⟩, ⟨rx_ HO853.out⟩, ⟨kx_ BK848.out⟩, bl_ HB⟩
          case rest =>
           clear HC24
           try clear c1
           try clear c2
           try clear p2
           try clear c5
           try clear c6
           try clear c6b0
           try clear p6
           try clear c9
           try clear c12
           try clear c12b0
           try clear c12b1
           try clear c16
           try clear c18
           try clear c18b0
           try clear c18b1
           try clear c21
           try clear c22
           try clear c22b0
           try clear c22b1
           try clear c28
           try clear hcz11_0
           try clear hcz11_1
           try clear hcz11_2
           try clear hcz11_3
           try clear hcz11_4
           try clear hcz13_0
           try clear hcz13_1
           try clear hcz13_2
           try clear hcz13_3
           try clear hcz13_4
           try clear hcz15_0
           try clear hcz15_1
           try clear hcz15_2
           try clear hcz15_3
           try clear hcz15_4
           try clear hcz19_0
           try clear hcz19_1
           try clear hcz19_2
           try clear hcz19_3
           try clear hcz19_4
           try clear hcz20_0
           try clear hcz20_1
           try clear hcz20_2
           try clear hcz20_3
           try clear hcz20_4
           try clear hcz25_0
           try clear hcz25_1
           try clear hcz25_2
           try clear hcz25_3
           try clear hcz25_4
           try clear hcz30_0
           try clear hcz30_1
           try clear hcz30_2
           try clear hcz30_3
           try clear hcz30_4
           try clear hcz32_0
           try clear hcz32_1
           try clear hcz32_2
           try clear hcz32_3
           try clear hcz32_4
           try clear hcz8_0
           try clear hcz8_1
           try clear hcz8_2
           try clear hcz8_3
           try clear hcz8_4
           try clear hfz11_0
           try clear hfz11_1
           try clear hfz11_2
           try clear hfz11_3
           try clear hfz11_4
           try clear hfz13_0
           try clear hfz13_1
           try clear hfz13_2
           try clear hfz13_3
           try clear hfz13_4
           try clear hfz15_0
           try clear hfz15_1
           try clear hfz15_2
           try clear hfz15_3
           try clear hfz15_4
           try clear hfz19_0
           try clear hfz19_1
           try clear hfz19_2
           try clear hfz19_3
           try clear hfz19_4
           try clear hfz20_0
           try clear hfz20_1
           try clear hfz20_2
           try clear hfz20_3
           try clear hfz20_4
           try clear hfz25_0
           try clear hfz25_1
           try clear hfz25_2
           try clear hfz25_3
           try clear hfz25_4
           try clear hfz30_0
           try clear hfz30_1
           try clear hfz30_2
           try clear hfz30_3
           try clear hfz30_4
           try clear hfz32_0
           try clear hfz32_1
           try clear hfz32_2
           try clear hfz32_3
           try clear hfz32_4
           try clear hfz8_0
           try clear hfz8_1
           try clear hfz8_2
           try clear hfz8_3
           try clear hfz8_4
           try clear p2
           obtain ⟨kq, x63_23, rfl, HA, HJ23, HO_9, BK848, HB⟩ := hcut
           cases kq with
           | zero => exact absurd HA.out (by simp [spec_l13Code.j2])
           | succ kj23 =>
            have H := HA.out
            clear HA
            simp only [spec_l13Code.j2] at H
            by_cases c34 : x63_23 = true
            ·subst c34
             have H1 : (some (5, 0, 0)) = some (r1, r2, r3) := by rw [if_pos rfl] at H; exact H
             clear H
             have H := H1
             clear H1
             simp only [Option.some.injEq, Prod.mk.injEq] at H
             obtain ⟨rfl, rfl, rfl⟩ := H
             go_wp2
             go_ret3
             exact ⟨ea_, (bl_ HB).out⟩
            ·replace c34 := Bool.eq_false_iff.mpr c34
             subst c34
             have H1 : ((spec_EndOf.f kj23 l0 a2).bind fun t856 => (if t851.length < 17592186044416 then ((some (t851 ++ [t856] : List Int)).bind fun y857 => (if 0 ≤ a1_3 then (if a1_3 < (y857.length : Int) then (if 0 ≤ (wrap64 (a1_3 + a1_4)) then (if (wrap64 (a1_3 + a1_4)) < (y857.length : Int) then (if (l0.length : Int) = 24 then (some (6, 0, 0)) else (if 0 ≤ a2 then (if a2 < (l0.length : Int) then (spec_l13Code.l0 kj23 l0 (rd y857 a1_3) (rd y857 (wrap64 (a1_3 + a1_4))) (wrap64 (((rd_T90 l0 a2).f1) + 1)) (rd y857 a1_3)) else (none)) else (none))) else (none)) else (none)) else (none)) else (none))) else (none))) = some (r1, r2, r3) := by rw [if_neg (show ¬ (false = true) by decide)] at H; exact H
             clear H
             have H := H1
             clear H1
             replace H := Option.bind_eq_some_iff.mp H
             obtain ⟨t856, A350, H⟩ := H
             try dsimp only at H
             have A35 := Aside0.mk A350
             clear A350
             by_cases c36 : t851.length < 17592186044416
             ·rw [if_pos c36] at H
              have LMc36 := Aside0.mk c36
              clear c36
              obtain ⟨y857, hy857⟩ : ∃ y_ : List Int, y_ = (t851 ++ [t856]) := ⟨_, rfl⟩
              replace H : (if 0 ≤ a1_3 then (if a1_3 < (y857.length : Int) then (if 0 ≤ (wrap64 (a1_3 + a1_4)) then (if (wrap64 (a1_3 + a1_4)) < (y857.length : Int) then (if (l0.length : Int) = 24 then (some (6, 0, 0)) else (if 0 ≤ a2 then (if a2 < (l0.length : Int) then (spec_l13Code.l0 kj23 l0 (rd y857 a1_3) (rd y857 (wrap64 (a1_3 + a1_4))) (wrap64 (((rd_T90 l0 a2).f1) + 1)) (rd y857 a1_3)) else (none)) else (none))) else (none)) else (none)) else (none)) else (none)) = some (r1, r2, r3) := by first | (rw [hy857]; with_reducible exact H) | (have H2_ := (Option.bind_some _ _).symm.trans H; rw [hy857]; with_reducible exact H2_) | (have H2_ := (Option.bind_some _ _).symm.trans H; with_reducible exact H2_) | with_reducible exact H | (rw [hy857]; exact H) | exact H
              have Ny857 := Aside0.mk hy857
              clear hy857
              by_cases c37 : 0 ≤ a1_3
              ·rw [if_pos c37] at H
               have c37b0 : decide (0 ≤ a1_3) = true := decide_eq_true c37
               clear c37
               by_cases c38 : a1_3 < (y857.length : Int)
               ·rw [if_pos c38] at H
                have c38b0 : decide (a1_3 < (y857.length : Int)) = true := decide_eq_true c38
                clear c38
                obtain ⟨ji39, hji39⟩ : ∃ j_ : Int, (wrap64 (a1_3 + a1_4)) = j_ := ⟨_, rfl⟩
                replace H : (if 0 ≤ (ji39) then (if (ji39) < (y857.length : Int) then (if (l0.length : Int) = 24 then (some (6, 0, 0)) else (if 0 ≤ a2 then (if a2 < (l0.length : Int) then (spec_l13Code.l0 kj23 l0 (rd y857 a1_3) (rd y857 (ji39)) (wrap64 (((rd_T90 l0 a2).f1) + 1)) (rd y857 a1_3)) else (none)) else (none))) else (none)) else (none)) = some (r1, r2, r3) := by first | (rw [hji39] at H; exact H) | (simp only [hji39] at H ⊢; exact H)
                (try rw [hji39] at A35)
                have hji39w : (IntKind.i64.wrap (a1_3 + a1_4)) = ji39 := (i64_w _).trans hji39
                by_cases c40 : 0 ≤ (ji39)
                ·rw [if_pos c40] at H
                 have c40b0 : decide (0 ≤ (ji39)) = true := decide_eq_true c40
                 clear c40
                 by_cases c41 : (ji39) < (y857.length : Int)
                 ·rw [if_pos c41] at H
                  have c41b0 : decide ((ji39) < (y857.length : Int)) = true := decide_eq_true c41
                  clear c41
                  by_cases c42 : (l0.length : Int) = 24
                  ·rw [if_pos c42] at H
                   have c42b0 : ((l0.length : Int) == 24) = true := beq_iff_eq.mpr c42
                   have c42b1 : ((l0.length : Int) != 24) = false := bne_eq_false_iff_eq.mpr c42
                   clear c42
                   simp only [Option.some.injEq, Prod.mk.injEq] at H
                   obtain ⟨rfl, rfl, rfl⟩ := H
                   go_wp2_with (first | ((with_reducible refine gate_callee (f := 100) rfl ?_); refine gL_ (some 67) Try.func100 #[.slice A0 l0.length c0, .int .i64 a2] ?_; (with_reducible refine (spec_EndOf.calls kj23 _ _ l0 a2 t856 _ (cx_ HR0 HB) HC0.out A35.out).mono ?_); rintro e w43 ⟨rfl, hb⟩; refine ⟨_, rfl, ?_⟩; replace HO_9 := tR_ HO_9 hb; replace BK848 := tK_ BK848 hb; replace HB := tB_ HB hb; (try clear hb)) | ((with_reducible refine gate_builtin (b := .append) (xs := #[.tmp 64, .tmp 68]) rfl ?_); (try (refine gate_guard (by rfl) ?_; dsimp only)); at_builtin; refine Kd.R_append (Kd.int .i64) (w0 := w) w.heap.size rfl (.tmp 64) (.tmp 68) 39 3 (.int .i64 0) 8 rfl Try.underlying39 info3 rfl (by decide) (by omega) v852 t851 t856 [.int .i64 t856] (fun _ => True) (fun _ => False) rfl rfl ?aP (fun _ hk => hk.elim) ?aF ?aO ?aB ?aS ?aL ?_; (case aP => exact rfl); (case aB => exact ((bl_ HB).out)); (case aF => exact (fun _ _ => trivial)); (case aO => exact (rx_ HO_9.out)); (case aS => exact (bs_ HB)); (case aL => have := LMc36.out; omega); intro v858 w44 ho hb hg hat; rw [← Ny857.out] at ho; replace BK848 := Aside0.mk (blk_grown (g := gb848) (o := .cells #[.int .i64 a1_0, .slice A1_1 l1_1.length c1_1, .int .i64 a1_2, .int .i64 a1_3, .int .i64 a1_4] 67 (0, 0)) (kx_ BK848.out) hg (Kd.R_ne HO_9.out BK848.out (by decide))); replace HB := Aside0.mk (hb); have HO859 := Aside0.mk (ho); clear HO_9; clear ho hb hg hat; obtain ⟨hcz45_0, hcz45_1, hcz45_2, hcz45_3, hcz45_4, hfz45_0, hfz45_1, hfz45_2, hfz45_3, hfz45_4⟩ := bk5_ BK848; obtain ⟨Ao46, co46, eo46⟩ := Kd.R_slice HO859.out; subst eo46; have p860 : 0 ≤ (a1_3 : Int) := od_; have q860 : a1_3 < (y857.length : Int) := od_; obtain ⟨ad860, e860, hx860_0⟩ := Kd.at_int (Kd.R_reads' HO859.out).2.2 a1_3 p860 q860; cases e860; replace p860 := eq_true p860; replace q860 := eq_true q860; have p861 : 0 ≤ ((ji39) : Int) := od_; have q861 : (ji39) < (y857.length : Int) := od_; obtain ⟨ad861, e861, hx861_0⟩ := Kd.at_int (Kd.R_reads' HO859.out).2.2 (ji39) p861 q861; obtain rfl : ad860 = ad861 := (by injection e861); replace p861 := eq_true p861; replace q861 := eq_true q861))
                   go_ret3
                   exact ⟨by first | rfl | (simp [errW_none, errW_some] <;> rfl) | (simp only [← hji39]; first | rfl | (simp [errW_none, errW_some] <;> rfl)) | (simp [*, errW_none, errW_some] <;> rfl), (bl_ HB).out⟩
                  ·rw [if_neg c42] at H
                   have c42b0 : ((l0.length : Int) == 24) = false := beq_eq_false_iff_ne.mpr c42
                   have c42b1 : ((l0.length : Int) != 24) = true := bne_iff_ne.mpr c42
                   by_cases c47 : 0 ≤ a2
                   ·rw [if_pos c47] at H
                    have c47b0 : decide (0 ≤ a2) = true := decide_eq_true c47
                    clear c47
                    by_cases c48 : a2 < (l0.length : Int)
                    ·rw [if_pos c48] at H
                     have c48b0 : decide (a2 < (l0.length : Int)) = true := decide_eq_true c48
                     clear c48
                     have H' := Aside0.mk H
                     clear H
                     go_wp2_with (first | ((with_reducible refine gate_callee (f := 100) rfl ?_); refine gL_ (some 67) Try.func100 #[.slice A0 l0.length c0, .int .i64 a2] ?_; (with_reducible refine (spec_EndOf.calls kj23 _ _ l0 a2 t856 _ (cx_ HR0 HB) HC0.out A35.out).mono ?_); rintro e w49 ⟨rfl, hb⟩; refine ⟨_, rfl, ?_⟩; replace HO_9 := tR_ HO_9 hb; replace BK848 := tK_ BK848 hb; replace HB := tB_ HB hb; (try clear hb)) | ((with_reducible refine gate_builtin (b := .append) (xs := #[.tmp 64, .tmp 68]) rfl ?_); (try (refine gate_guard (by rfl) ?_; dsimp only)); at_builtin; refine Kd.R_append (Kd.int .i64) (w0 := w) w.heap.size rfl (.tmp 64) (.tmp 68) 39 3 (.int .i64 0) 8 rfl Try.underlying39 info3 rfl (by decide) (by omega) v852 t851 t856 [.int .i64 t856] (fun _ => True) (fun _ => False) rfl rfl ?aP (fun _ hk => hk.elim) ?aF ?aO ?aB ?aS ?aL ?_; (case aP => exact rfl); (case aB => exact ((bl_ HB).out)); (case aF => exact (fun _ _ => trivial)); (case aO => exact (rx_ HO_9.out)); (case aS => exact (bs_ HB)); (case aL => have := LMc36.out; omega); intro v858 w50 ho hb hg hat; rw [← Ny857.out] at ho; replace BK848 := Aside0.mk (blk_grown (g := gb848) (o := .cells #[.int .i64 a1_0, .slice A1_1 l1_1.length c1_1, .int .i64 a1_2, .int .i64 a1_3, .int .i64 a1_4] 67 (0, 0)) (kx_ BK848.out) hg (Kd.R_ne HO_9.out BK848.out (by decide))); replace HB := Aside0.mk (hb); have HO859 := Aside0.mk (ho); clear HO_9; clear ho hb hg hat; obtain ⟨hcz51_0, hcz51_1, hcz51_2, hcz51_3, hcz51_4, hfz51_0, hfz51_1, hfz51_2, hfz51_3, hfz51_4⟩ := bk5_ BK848; obtain ⟨Ao52, co52, eo52⟩ := Kd.R_slice HO859.out; subst eo52; have p860 : 0 ≤ (a1_3 : Int) := od_; have q860 : a1_3 < (y857.length : Int) := od_; obtain ⟨ad860, e860, hx860_0⟩ := Kd.at_int (Kd.R_reads' HO859.out).2.2 a1_3 p860 q860; cases e860; replace p860 := eq_true p860; replace q860 := eq_true q860; have p861 : 0 ≤ ((ji39) : Int) := od_; have q861 : (ji39) < (y857.length : Int) := od_; obtain ⟨ad861, e861, hx861_0⟩ := Kd.at_int (Kd.R_reads' HO859.out).2.2 (ji39) p861 q861; obtain rfl : ad860 = ad861 := (by injection e861); replace p861 := eq_true p861; replace q861 := eq_true q861; have p862 : 0 ≤ (a2 : Int) := od_; have q862 : a2 < (l0.length : Int) := od_; obtain ⟨ad862, e862, hx862_0, hx862_1⟩ := at_T90 HR0.out a2 p862 q862; cases e862; replace hx862_0 := ce_ HB hx862_0; replace hx862_1 := ce_ HB hx862_1; replace p862 := eq_true p862; replace q862 := eq_true q862))
                     go_loopg [12, 13] kj23 (fun kq v12 v13 w' => ∃ (x12_4 : Int) (x13_4 : Int), v12 = .int .i64 x12_4 ∧ v13 = .int .i64 x13_4 ∧ Aside0 (spec_l13Code.l0 kq l0 (rd y857 a1_3) (rd y857 (ji39)) x12_4 x13_4 = some (r1, r2, r3)) ∧ Aside0 (kq ≤ kj23) ∧ Aside0 (w'.heap[gb848]? = some (.cells #[.int .i64 a1_0, (.slice A1_1 l1_1.length c1_1), .int .i64 a1_2, .int .i64 a1_3, .int .i64 a1_4] 67 (0, 0))) ∧ Aside0 (Below w.heap.size w w'))
                     case atStart => exact ⟨(wrap64 (((rd_T90 l0 a2).f1) + 1)), (rd y857 a1_3), eb_, eb_, H', ⟨Nat.le_refl _⟩, ⟨kx_ BK848.out⟩, bl_ HB⟩
                     case round =>
                      clear H'
                      try clear c1
                      try clear c2
                      try clear p2
                      try clear c3
                      try clear c4
                      try clear c5
                      try clear c6
                      try clear c6b0
                      try clear p6
                      try clear p8
                      try clear q8
                      try clear hx8
                      try clear c9
                      try clear c10
                      try clear c12
                      try clear c12b0
                      try clear c12b1
                      try clear c16
                      try clear c18
                      try clear c18b0
                      try clear c18b1
                      try clear c21
                      try clear c22
                      try clear c22b0
                      try clear c22b1
                      try clear c28
                      try clear c34
                      try clear c36
                      try clear c37
                      try clear c37b0
                      try clear c38
                      try clear c38b0
                      try clear c40
                      try clear c40b0
                      try clear c41
                      try clear c41b0
                      try clear c42
                      try clear c42b0
                      try clear c42b1
                      try clear c47
                      try clear c47b0
                      try clear c48
                      try clear c48b0
                      try clear hcz11_0
                      try clear hcz11_1
                      try clear hcz11_2
                      try clear hcz11_3
                      try clear hcz11_4
                      try clear hcz13_0
                      try clear hcz13_1
                      try clear hcz13_2
                      try clear hcz13_3
                      try clear hcz13_4
                      try clear hcz15_0
                      try clear hcz15_1
                      try clear hcz15_2
                      try clear hcz15_3
                      try clear hcz15_4
                      try clear hcz19_0
                      try clear hcz19_1
                      try clear hcz19_2
                      try clear hcz19_3
                      try clear hcz19_4
                      try clear hcz20_0
                      try clear hcz20_1
                      try clear hcz20_2
                      try clear hcz20_3
                      try clear hcz20_4
                      try clear hcz25_0
                      try clear hcz25_1
                      try clear hcz25_2
                      try clear hcz25_3
                      try clear hcz25_4
                      try clear hcz30_0
                      try clear hcz30_1
                      try clear hcz30_2
                      try clear hcz30_3
                      try clear hcz30_4
                      try clear hcz32_0
                      try clear hcz32_1
                      try clear hcz32_2
                      try clear hcz32_3
                      try clear hcz32_4
                      try clear hcz45_0
                      try clear hcz45_1
                      try clear hcz45_2
                      try clear hcz45_3
                      try clear hcz45_4
                      try clear hcz51_0
                      try clear hcz51_1
                      try clear hcz51_2
                      try clear hcz51_3
                      try clear hcz51_4
                      try clear hcz8_0
                      try clear hcz8_1
                      try clear hcz8_2
                      try clear hcz8_3
                      try clear hcz8_4
                      try clear hfz11_0
                      try clear hfz11_1
                      try clear hfz11_2
                      try clear hfz11_3
                      try clear hfz11_4
                      try clear hfz13_0
                      try clear hfz13_1
                      try clear hfz13_2
                      try clear hfz13_3
                      try clear hfz13_4
                      try clear hfz15_0
                      try clear hfz15_1
                      try clear hfz15_2
                      try clear hfz15_3
                      try clear hfz15_4
                      try clear hfz19_0
                      try clear hfz19_1
                      try clear hfz19_2
                      try clear hfz19_3
                      try clear hfz19_4
                      try clear hfz20_0
                      try clear hfz20_1
                      try clear hfz20_2
                      try clear hfz20_3
                      try clear hfz20_4
                      try clear hfz25_0
                      try clear hfz25_1
                      try clear hfz25_2
                      try clear hfz25_3
                      try clear hfz25_4
                      try clear hfz30_0
                      try clear hfz30_1
                      try clear hfz30_2
                      try clear hfz30_3
                      try clear hfz30_4
                      try clear hfz32_0
                      try clear hfz32_1
                      try clear hfz32_2
                      try clear hfz32_3
                      try clear hfz32_4
                      try clear hfz45_0
                      try clear hfz45_1
                      try clear hfz45_2
                      try clear hfz45_3
                      try clear hfz45_4
                      try clear hfz51_0
                      try clear hfz51_1
                      try clear hfz51_2
                      try clear hfz51_3
                      try clear hfz51_4
                      try clear hfz8_0
                      try clear hfz8_1
                      try clear hfz8_2
                      try clear hfz8_3
                      try clear hfz8_4
                      try clear hx860_0
                      try clear hx861_0
                      try clear hx862_0
                      try clear hx862_1
                      try clear p2
                      try clear p6
                      try clear p860
                      try clear p861
                      try clear p862
                      try clear q860
                      try clear q861
                      try clear q862
                      obtain ⟨x12_4, x13_4, rfl, rfl, HA, HK4, BK848, HB⟩ := hrel
                      cases gk with
                      | zero => exact absurd HA.out (by simp [spec_l13Code.l0])
                      | succ k4 =>
                       have H := HA.out
                       clear HA
                       simp only [spec_l13Code.l0] at H
                       by_cases c53 : x13_4 < (rd y857 (ji39))
                       ·rw [if_pos c53] at H
                        have c53b0 : decide (x13_4 < (rd y857 (ji39))) = true := decide_eq_true c53
                        clear c53
                        by_cases c54 : 0 ≤ x13_4
                        ·rw [if_pos c54] at H
                         have c54b0 : decide (0 ≤ x13_4) = true := decide_eq_true c54
                         clear c54
                         by_cases c55 : x13_4 < (l0.length : Int)
                         ·rw [if_pos c55] at H
                          have c55b0 : decide (x13_4 < (l0.length : Int)) = true := decide_eq_true c55
                          clear c55
                          obtain ⟨ji56, hji56⟩ : ∃ j_ : Int, (mx x12_4 (wrap64 (((rd_T90 l0 x13_4).f1) + 1))) = j_ := ⟨_, rfl⟩
                          replace H : (spec_l13Code.l0 k4 l0 (rd y857 a1_3) (rd y857 (ji39)) ji56 (wrap64 (x13_4 + 1))) = some (r1, r2, r3) := by first | (rw [hji56] at H; exact H) | (simp only [hji56] at H ⊢; exact H)
                          have hji56_ : (if x12_4 < (wrap64 (((rd_T90 l0 x13_4).f1) + 1)) then (wrap64 (((rd_T90 l0 x13_4).f1) + 1)) else x12_4) = ji56 := hji56
                          have H' := Aside0.mk H
                          clear H
                          have p863 : 0 ≤ (x13_4 : Int) := od_
                          have q863 : x13_4 < (l0.length : Int) := od_
                          obtain ⟨ad863, e863, hx863_0, hx863_1⟩ := at_T90 HR0.out x13_4 p863 q863
                          obtain rfl : ad862 = ad863 := (by injection e863)
                          replace hx863_0 := ce_ HB hx863_0
                          replace hx863_1 := ce_ HB hx863_1
                          replace p863 := eq_true p863
                          replace q863 := eq_true q863
                          go_wp2
                          go_roundg k4
                          case measure => have := HJ8.out; have := HJ16.out; have := HJ23.out; have := HK4.out; omega
                          case rel => exact ⟨(ji56), (wrap64 (x13_4 + 1)), (by first | rfl | (simp; done) | (simp only [← hji56] <;> (first | rfl | simp)) | (simp [*]; done)), eb_, H', ⟨by have := HJ8.out; have := HJ16.out; have := HJ23.out; have := HK4.out; omega⟩, ⟨kx_ BK848.out⟩, bl_ HB⟩
                         ·rw [if_neg c55] at H
                          exact absurd H (by simp)
                        ·rw [if_neg c54] at H
                         exact absurd H (by simp)
                       ·rw [if_neg c53] at H
                        have c53b0 : decide (x13_4 < (rd y857 (ji39))) = false := decide_eq_false c53
                        clear c53
                        by_cases c57 : x12_4 > 12
                        ·rw [if_pos c57] at H
                         have c57b0 : decide (12 < x12_4) = true := decide_eq_true c57
                         clear c57
                         simp only [Option.some.injEq, Prod.mk.injEq] at H
                         obtain ⟨rfl, rfl, rfl⟩ := H
                         go_wp2
                         go_ret3
                         exact ⟨by first | rfl | (simp [errW_none, errW_some] <;> rfl) | (simp only [← hji39]; first | rfl | (simp [errW_none, errW_some] <;> rfl)) | (simp [*, errW_none, errW_some] <;> rfl), (bl_ HB).out⟩
                        ·rw [if_neg c57] at H
                         have c57b0 : decide (12 < x12_4) = false := decide_eq_false c57
                         clear c57
                         simp only [Option.some.injEq, Prod.mk.injEq] at H
                         obtain ⟨rfl, rfl, rfl⟩ := H
                         go_wp2
                         go_ret3
                         exact ⟨by first | rfl | (simp [errW_none, errW_some] <;> rfl) | (simp only [← hji39]; first | rfl | (simp [errW_none, errW_some] <;> rfl)) | (simp [*, errW_none, errW_some] <;> rfl), (bl_ HB).out⟩
                    ·rw [if_neg c48] at H
                     exact absurd H (by simp)
                   ·rw [if_neg c47] at H
                    exact absurd H (by simp)
                 ·rw [if_neg c41] at H
                  exact absurd H (by simp)
                ·rw [if_neg c40] at H
                 exact absurd H (by simp)
               ·rw [if_neg c38] at H
                exact absurd H (by simp)
              ·rw [if_neg c37] at H
               exact absurd H (by simp)
             ·rw [if_neg c36] at H
              exact absurd H (by simp)
         ·rw [if_neg c22] at H
          have c22b0 : (a1_0 == 3) = false := beq_eq_false_iff_ne.mpr c22
          have c22b1 : (a1_0 != 3) = true := bne_iff_ne.mpr c22
          simp only [Option.some.injEq, Prod.mk.injEq] at H
          obtain ⟨rfl, rfl, rfl⟩ := H
          have hcz58_0 : wc.cell? ⟨gb848, 0, none⟩ = some (.int .i64 a1_0) := (blk_cell BK848.out 0).trans rfl
          have hcz58_1 : wc.cell? ⟨gb848, 1, none⟩ = some (.slice A1_1 l1_1.length c1_1) := (blk_cell BK848.out 1).trans rfl
          have hcz58_2 : wc.cell? ⟨gb848, 2, none⟩ = some (.int .i64 a1_2) := (blk_cell BK848.out 2).trans rfl
          have hcz58_3 : wc.cell? ⟨gb848, 3, none⟩ = some (.int .i64 a1_3) := (blk_cell BK848.out 3).trans rfl
          have hcz58_4 : wc.cell? ⟨gb848, 4, none⟩ = some (.int .i64 a1_4) := (blk_cell BK848.out 4).trans rfl
          have hfz58_0 := blk_frozen BK848.out 0
          have hfz58_1 := blk_frozen BK848.out 1
          have hfz58_2 := blk_frozen BK848.out 2
          have hfz58_3 := blk_frozen BK848.out 3
          have hfz58_4 := blk_frozen BK848.out 4
          go_wp2
          go_ret3
          exact ⟨ea_, (bl_ HB).out⟩
 ·replace c5 := Bool.eq_false_iff.mpr c5
  subst c5
  have H1 : (some (1, 0, 0)) = some (r1, r2, r3) := by rw [if_neg (show ¬ (false = true) by decide)] at H; exact H
  clear H
  have H := H1
  clear H1
  simp only [Option.some.injEq, Prod.mk.injEq] at H
  obtain ⟨rfl, rfl, rfl⟩ := H
  go_enter Try.func99, Try.ntmps99
  go_wp2_with (first | ((with_reducible refine gate_dst (N := 4) rfl ?_); (try (refine gate_guard (by rfl) ?_; dsimp only)); refine bx_ 4 #[.int .i64 a1_0, .slice A1_1 l1_1.length c1_1, .int .i64 a1_2, .int .i64 a1_3, .int .i64 a1_4] 67 ?_; intro gb848 hg w59 hbox hb; have BK848 := Aside0.mk (hbox); have GW848 := Aside0.mk ((by rw [hg]; exact (bs_ HB) : w.heap.size ≤ gb848)); have GE848 := Aside0.mk ((by rw [hg]; exact (bs_ HB) : w.heap.size ≤ gb848)); replace HB := tB_ HB hb; clear hb hbox hg; obtain ⟨hcz60_0, hcz60_1, hcz60_2, hcz60_3, hcz60_4, hfz60_0, hfz60_1, hfz60_2, hfz60_3, hfz60_4⟩ := bk5_ BK848) | ((with_reducible refine gate_callee (f := 67) rfl ?_); refine gL_ (some 17) Try.func67 #[.int .i64 a1_0, .int .i64 1, .int .i64 3] ?_; (with_reducible refine (spec_l1In.calls a1_0 1 3 false _ A4.out).mono ?_); rintro e w' ⟨rfl, ⟨nd, rfl⟩⟩; refine ⟨_, rfl, ?_⟩))
  go_ret3
  exact ⟨ea_, (bl_ HB).out⟩
end Go.Proofs.Ytbifdckfglejkaa.X
namespace Go.Proofs.Ytbifdckfglejkaa.X
open Go.RowKit Go.Proofs.YtbifdckfglejkaaW.PrintWords Go.Proofs.YtbifdckfglejkaaW.PrintLast Go.Proofs.YtbifdckfglejkaaW.PrintMore
attribute [local go_sem] max2_int min2_int max_two min_two max_three min_three max_four min_four   -- for this text's walks alone
set_option linter.unusedVariables false
set_option linter.unusedSimpArgs false
def spec_l13Shift.l0 : Nat → List (S90) → Int → Int → List (S90) → Int → Option ((List (S90)))
 | 0, _, _, _, _, _ => none
 | k + 1, x0, x2, x3, x9, x10 => if x10 < x2 then (if 0 ≤ x10 then (if x10 < (x0.length : Int) then (if x9.length < 8796093022208 then (spec_l13Shift.l0 k x0 x2 x3 (x9 ++ [(⟨(rd_T90 x0 x10).f0, wrap64 (((rd_T90 x0 x10).f1) + x3)⟩ : S90)]) (wrap64 (x10 + 1))) else (none)) else (none)) else (none)) else (some x9)
def spec_l13Shift.f (k : Nat) (l0 : List (S90)) (a1 : Int) (a2 : Int) (a3 : Int) : Option ((List (S90))) := spec_l13Shift.l0 k l0 a2 a3 (([] : List (S90))) a1
def spec_l13Shift.T5 : Bool × List (List Nat × List Nat) := (true, [([], []), ([], []), ([], []), ([1, 2], [1, 2]), ([3], [3]), ([4], [4]), ([], []), ([], []), ([6, 7], [6, 7]), ([8], [8]), ([9], [9]), ([], []), ([10, 11], [10, 11]), ([5, 12], [5, 12]), ([13], [13]), ([0, 14], [0, 14]), ([15, 15, 0, 1, 2, 3, 4, 5, 6, 7, 8, 9, 10, 11, 12, 13, 14, 15], [0, 15])])
def spec_l13Shift.B5 : List Nat := [0, 0, 0, 6, 14, 30, 0, 0, 192, 448, 960, 0, 4032, 8190, 16382, 32767, 65535]
theorem spec_l13Shift.tab5 : rtab .any (opsOf Try.f101 5) = spec_l13Shift.T5 := by kernel_rfl
theorem spec_l13Shift.bits5 : waitsOk spec_l13Shift.T5.2 spec_l13Shift.B5 = true := by kernel_rfl
set_option maxHeartbeats 8000000 in
set_option maxRecDepth 100000 in
theorem spec_l13Shift.calls (k : Nat) (A0 : Option Addr) (c0 : Nat) (l0 : List (S90)) (a1 : Int) (a2 : Int) (a3 : Int) (r : List (S90)) (w : World) (hr0 : Kd.C k90 w A0 l0.length l0) (hc0 : l0.length ≤ c0) (h : spec_l13Shift.f k l0 a1 a2 a3 = some r) :
  Calls Try.prog 101 #[.slice A0 l0.length c0, .int .i64 a1, .int .i64 a2, .int .i64 a3] w fun e w' => ∃ v0_ : Value, e = .returned (v0_) ∧ Kd.R k90 90 w' w.heap.size (fun _ => True) v0_ r ∧ Below w.heap.size w w' := by
 have hu90 := Try.underlying90
 have HR0 := Aside0.mk hr0
 have HC0 := Aside0.mk hc0
 clear hr0 hc0
 have HB := Aside0.mk (Below.refl w.heap.size w)
 have H : (spec_l13Shift.l0 k l0 a2 a3 (([] : List (S90))) a1) = some r := h
 clear h
 obtain ⟨y864, hy864⟩ : ∃ y_ : List (S90), y_ = (([] : List (S90))) := ⟨_, rfl⟩
 replace H : (spec_l13Shift.l0 k l0 a2 a3 y864 a1) = some r := by first | (rw [hy864]; with_reducible exact H) | (have H2_ := (Option.bind_some _ _).symm.trans H; rw [hy864]; with_reducible exact H2_) | (have H2_ := (Option.bind_some _ _).symm.trans H; with_reducible exact H2_) | with_reducible exact H | (rw [hy864]; exact H) | exact H
 have Ny864 := Aside0.mk hy864
 clear hy864
 have H' := Aside0.mk H
 clear H
 go_enter Try.func101, Try.ntmps101
 go_wp2_with (first | ((with_reducible refine gate_dst (N := 11) rfl ?_); refine Kd.R_lit k90 _ 90 ?hg (N := 11) ?hd (xs := ([] : List (S90))) (inner := []) (ok := fun _ => True) (okp := fun _ => True) ?hr ?hp (fun _ hk => hk) trivial (Below.refl _ _) (Nat.le_refl _) (by simp) ?_; (case hd => rfl); (case hg => rfl); (case hr => first | (go_simp; done) | (go_simp; rfl)); (case hp => exact (Reps.none _ _)); intro v865 w5 ho6 hb hg_ hnew_; clear hg_ hnew_; (first | rw [← Ny864.out] at ho6 | (simp only [Int.reduceToNat] at ho6; rw [← Ny864.out] at ho6)); have HO866 := Aside0.mk (Kd.R_lower ho6 (bs_ HB)); replace HB := tB_ HB hb; clear hb ho6))
 go_loopg [9, 10] k (fun kq v9 v10 w' => ∃ (x9_1 : List (S90)) (x10_1 : Int), v10 = .int .i64 x10_1 ∧ Aside0 (spec_l13Shift.l0 kq l0 a2 a3 x9_1 x10_1 = some r) ∧ Aside0 (kq ≤ k) ∧ Aside0 (Kd.R k90 90 w' w.heap.size (fun _ => True) v9 x9_1) ∧ Aside0 (Below w.heap.size w w'))
 case atStart => exact ⟨(y864), (a1), eb_, H', ⟨Nat.le_refl _⟩, ⟨rx_ HO866.out⟩, bl_ HB⟩
 case round =>
  clear H'
  try clear c1
  try clear p2
  obtain ⟨x9_1, x10_1, rfl, HA, HK1, HO_9, HB⟩ := hrel
  cases gk with
  | zero => exact absurd HA.out (by simp [spec_l13Shift.l0])
  | succ k1 =>
   have H := HA.out
   clear HA
   simp only [spec_l13Shift.l0] at H
   by_cases c7 : x10_1 < a2
   ·rw [if_pos c7] at H
    have c7b0 : decide (x10_1 < a2) = true := decide_eq_true c7
    clear c7
    by_cases c8 : 0 ≤ x10_1
    ·rw [if_pos c8] at H
     have c8b0 : decide (0 ≤ x10_1) = true := decide_eq_true c8
     clear c8
     by_cases c9 : x10_1 < (l0.length : Int)
     ·rw [if_pos c9] at H
      have c9b0 : decide (x10_1 < (l0.length : Int)) = true := decide_eq_true c9
      clear c9
      by_cases c10 : x9_1.length < 8796093022208
      ·rw [if_pos c10] at H
       have LMc10 := Aside0.mk c10
       clear c10
       obtain ⟨y869, hy869⟩ : ∃ y_ : List (S90), y_ = (x9_1 ++ [(⟨(rd_T90 l0 x10_1).f0, wrap64 (((rd_T90 l0 x10_1).f1) + a3)⟩ : S90)]) := ⟨_, rfl⟩
       replace H : (spec_l13Shift.l0 k1 l0 a2 a3 y869 (wrap64 (x10_1 + 1))) = some r := by first | (rw [hy869]; with_reducible exact H) | (have H2_ := (Option.bind_some _ _).symm.trans H; rw [hy869]; with_reducible exact H2_) | (have H2_ := (Option.bind_some _ _).symm.trans H; with_reducible exact H2_) | with_reducible exact H | (rw [hy869]; exact H) | exact H
       have Ny869 := Aside0.mk hy869
       clear hy869
       have H' := Aside0.mk H
       clear H
       try go_wp2
       have n0_ := Aside0.mk (Kd.R_drew HO_9.out)
       have n1_ := Aside0.mk (below_drew1 HB.out)
       clear HO_9
       clear HB
       have HO_9 := n0_
       have HB := n1_
       clear n0_ n1_
       have p867 : 0 ≤ (x10_1 : Int) := od_
       have q867 : x10_1 < (l0.length : Int) := od_
       obtain ⟨ad867, e867, hx867_0, hx867_1⟩ := at_T90 HR0.out x10_1 p867 q867
       have hw867_1 := hx867_1
       have hw867_0 := hx867_0
       cases e867
       replace hx867_0 := ce_ HB hx867_0
       replace hx867_1 := ce_ HB hx867_1
       replace p867 := eq_true p867
       replace q867 := eq_true q867
       have p868 : 0 ≤ (x10_1 : Int) := od_
       have q868 : x10_1 < (l0.length : Int) := od_
       obtain ⟨ad868, e868, hx868_0, hx868_1⟩ := at_T90 HR0.out x10_1 p868 q868
       have hw868_1 := hx868_1
       have hw868_0 := hx868_0
       obtain rfl : ad867 = ad868 := (by injection e868)
       replace hx868_0 := ce_ HB hx868_0
       replace hx868_1 := ce_ HB hx868_1
       replace p868 := eq_true p868
       replace q868 := eq_true q868
       refine start_ (n := 17) (S := fun w' => w'.cell? (ad867.add ((x10_1).toNat * 2)) = some (.int .i64 ((rd_T90 l0 x10_1).f0)) ∧ w'.cell? ⟨(ad867.add ((x10_1).toNat * 2)).block, (ad867.add ((x10_1).toNat * 2)).off + 1, none⟩ = some (.int .i64 ((rd_T90 l0 x10_1).f1)) ∧ w'.cell? (ad867.add ((x10_1).toNat * 2)) = some (.int .i64 ((rd_T90 l0 x10_1).f0)) ∧ w'.cell? ⟨(ad867.add ((x10_1).toNat * 2)).block, (ad867.add ((x10_1).toNat * 2)).off + 1, none⟩ = some (.int .i64 ((rd_T90 l0 x10_1).f1))) (ds := []) (ba_ 17 0) (by kernel_rfl) rfl rfl ⟨(ce_ HB hw867_0), (ce_ HB hw867_1), (ce_ HB hw868_0), (ce_ HB hw868_1)⟩ (fun hHeld => ?_); refine with_tabW spec_l13Shift.tab5 spec_l13Shift.bits5 (fun HT_ HW_ => ?_)
       generalize wr.drew = w11 at HO_9 HB hx867_0 hx867_1 hx868_0 hx868_1 hHeld ⊢
       refine pu_ 0 (some 18) (ba_ 17 1) rfl rfl (any_of HT_.out (by kernel_rfl)) ?_
       refine pu_ 1 (some 19) (ba_ 17 3) rfl rfl (any_of HT_.out (by kernel_rfl)) ?_
       refine pu_ 2 (some 20) (ba_ 17 7) rfl rfl (any_of HT_.out (by kernel_rfl)) ?_
       refine pu_ 3 (some 21) (ba_ 17 15) rfl rfl (any_of HT_.out (by kernel_rfl)) ?_
       refine pu_ 4 (some 22) (ba_ 17 31) rfl rfl (any_of HT_.out (by kernel_rfl)) ?_
       refine pu_ 6 (some 24) (ba_ 17 95) rfl rfl (any_of HT_.out (by kernel_rfl)) ?_
       refine pu_ 7 (some 25) (ba_ 17 223) rfl rfl (any_of HT_.out (by kernel_rfl)) ?_
       refine pu_ 8 (some 26) (ba_ 17 479) rfl rfl (any_of HT_.out (by kernel_rfl)) ?_
       refine pu_ 9 (some 27) (ba_ 17 991) rfl rfl (any_of HT_.out (by kernel_rfl)) ?_
       refine pu_ 11 (some 29) (ba_ 17 3039) rfl rfl (any_of HT_.out (by kernel_rfl)) ?_
       refine ta_ 5 (some 23) (ba_ 17 3071) rfl rfl (take_ofW HT_.out HW_.out (by kernel_rfl)) hHeld (by rintro w' ⟨s0, s1, s2, s3⟩; go_simp; with_reducible rfl) ?_
       refine ta_ 10 (some 28) (ba_ 17 4095) rfl rfl (take_ofW HT_.out HW_.out (by kernel_rfl)) hHeld (by rintro w' ⟨s0, s1, s2, s3⟩; go_simp; with_reducible rfl) ?_
       refine pu_ 12 (some 30) (ba_ 17 8191) rfl rfl (any_of HT_.out (by kernel_rfl)) ?_
       refine pu_ 13 (some 31) (ba_ 17 16383) rfl rfl (any_of HT_.out (by kernel_rfl)) ?_
       refine one_ (i := 14) (N := some 32) (ba_ 17 32767) rfl rfl (one_of HT_.out (by kernel_rfl)) (by decide) (fun K hK => ?_)
       refine value_ (w1 := ?_) (v := ?_) (by rfl) rfl ?_ ?_
       rotate_left 2
       ·go_simp
        constructor
        ·rfl
        ·rfl
       refine hK.out _ _ ⟨(World.cell?_alloc_lt _ _ _ (World.block_lt_of_cell? _ _ ((ce_ HB hw867_0)))).trans ((ce_ HB hw867_0)), (World.cell?_alloc_lt _ _ _ (World.block_lt_of_cell? _ _ ((ce_ HB hw867_1)))).trans ((ce_ HB hw867_1)), (World.cell?_alloc_lt _ _ _ (World.block_lt_of_cell? _ _ ((ce_ HB hw868_0)))).trans ((ce_ HB hw868_0)), (World.cell?_alloc_lt _ _ _ (World.block_lt_of_cell? _ _ ((ce_ HB hw868_1)))).trans ((ce_ HB hw868_1))⟩ (fun hHeld => ?_)
       clear hK K
       refine norm_ (a' := ?_) ?_ ?_
       rotate_left
       ·show Act.put _ (some 32) _ = _
        simp only [Act.put, List.setIfInBounds_toArray, List.set_cons_zero, List.set_cons_succ, i64_w, i32_w]
        rfl
       refine one_ (i := 15) (N := some 33) (ba_ 17 65535) rfl rfl (one_of HT_.out (by kernel_rfl)) (by decide) (fun K hK => ?_)
       refine Kd.R_append_step k90 (w0 := w) w.heap.size (by rfl) (.tmp 18) (.tmp 32) 34 90 (.agg #[(.int .i64 0), (.int .i64 0)]) 16 rfl Try.underlying34 info90 rfl (by decide) (by omega) u9 x9_1 (⟨(rd_T90 l0 x10_1).f0, wrap64 (((rd_T90 l0 x10_1).f1) + a3)⟩ : S90) [.int .i64 ((rd_T90 l0 x10_1).f0), .int .i64 (wrap64 (((rd_T90 l0 x10_1).f1) + a3))] (fun _ => True) (fun _ => False) rfl rfl ?aP (fun _ hk => hk.elim) ?aF ?aO ?aB ?aS ?aL ?_
       (case aP => exact k90_mkM _ _ _ (⟨(rd_T90 l0 x10_1).f0, wrap64 (((rd_T90 l0 x10_1).f1) + a3)⟩ : S90))
       (case aB => exact ((bl_ HB).out))
       (case aF => exact (fun _ _ => trivial))
       (case aO => exact (rx_ HO_9.out))
       (case aS => exact (bs_ HB))
       (case aL => have := LMc10.out; omega)
       intro v870 w12 ho hb hg hat
       rw [← Ny869.out] at ho
       have n0_ := Aside0.mk (hb)
       have n1_ := Aside0.mk (ho)
       clear HB
       clear HO_9
       have HB := n0_
       have HO871 := n1_
       clear n0_ n1_
       clear ho hb hg hat
       refine hK.out _ _ ⟨(ce_ HB hw867_0), (ce_ HB hw867_1), (ce_ HB hw868_0), (ce_ HB hw868_1)⟩ (fun hHeld => ?_)
       clear hK K
       refine norm_ (a' := ?_) ?_ ?_
       rotate_left
       ·show Act.put _ (some 33) _ = _
        simp only [Act.put, List.setIfInBounds_toArray, List.set_cons_zero, List.set_cons_succ, i64_w, i32_w]
        rfl
       refine pu_ 16 (some 9) (ba_ 17 131071) rfl rfl (any_of HT_.out (by kernel_rfl)) ?_
       refine done_ (done_of HT_.out (by kernel_rfl)) ?_
       try go_wp2
       go_roundg k1
       case measure => have := HK1.out; omega
       case rel => exact ⟨(y869), (wrap64 (x10_1 + 1)), eb_, H', ⟨by have := HK1.out; omega⟩, ⟨rx_ HO871.out⟩, bl_ HB⟩
      ·rw [if_neg c10] at H
       exact absurd H (by simp)
     ·rw [if_neg c9] at H
      exact absurd H (by simp)
    ·rw [if_neg c8] at H
     exact absurd H (by simp)
   ·rw [if_neg c7] at H
    have c7b0 : decide (x10_1 < a2) = false := decide_eq_false c7
    clear c7
    obtain rfl := Option.some.inj H
    go_wp2
    go_ret
    exact ⟨_, ea_, rx_ HO_9.out, (bl_ HB).out⟩
end Go.Proofs.Ytbifdckfglejkaa.X
namespace Go.Proofs.Ytbifdckfglejkaa.X
open Go.RowKit Go.Proofs.YtbifdckfglejkaaW.PrintWords Go.Proofs.YtbifdckfglejkaaW.PrintLast Go.Proofs.YtbifdckfglejkaaW.PrintMore
attribute [local go_sem] max2_int min2_int max_two min_two max_three min_three max_four min_four   -- for this text's walks alone
set_option linter.unusedVariables false
set_option linter.unusedSimpArgs false
def spec_ApplyOp.f (k : Nat) (l0 : List (S90)) (a1_0 : Int) (l1_1 : List Int) (a1_2 : Int) (a1_3 : Int) (a1_4 : Int) : Option ((List (S90)) × Int) := (spec_TreeOk.f k l0).bind fun t873 => (if t873 = true then ((spec_NodeAt.f k l0 l1_1).bind fun t877 => ((spec_l3Copy.f l0).bind fun t878 => ((spec_l13Code.f k l0 a1_0 l1_1 a1_2 a1_3 a1_4 t877).bind fun bt881 => (if bt881.1 = 0 then (if a1_0 = 1 then (if 0 ≤ t877 then (if t877 < (t878.length : Int) then (some ((t878.set (t877 : Int).toNat (⟨a1_2, (rd_T90 t878 t877).f1⟩ : S90)), bt881.1)) else (none)) else (none)) else (if a1_0 = 2 then ((spec_EndOf.f k l0 t877).bind fun t885 => ((spec_l13Shift.f k l0 0 t877 0).bind fun t886 => ((spec_l13Shift.f k l0 (wrap64 (t877 + 1)) t885 (-1)).bind fun t889 => (if t886.length + t889.length < 8796093022208 then ((some (t886 ++ t889 : List (S90))).bind fun y892 => ((spec_l13Shift.f k l0 t885 (l0.length : Int) 0).bind fun t895 => (if y892.length + t895.length < 8796093022208 then (some ((y892 ++ t895), bt881.1)) else (none)))) else (none))))) else ((spec_l13Shift.f k l0 0 bt881.2.1 0).bind fun t901 => (if 0 ≤ t877 then (if t877 < (l0.length : Int) then ((some (([(⟨a1_2, wrap64 (((rd_T90 l0 t877).f1) + 1)⟩ : S90)] : List (S90)) : List (S90))).bind fun y905 => (if t901.length + y905.length < 8796093022208 then ((some (t901 ++ y905 : List (S90))).bind fun y908 => ((spec_l13Shift.f k l0 bt881.2.1 bt881.2.2 1).bind fun t911 => (if y908.length + t911.length < 8796093022208 then ((some (y908 ++ t911 : List (S90))).bind fun y914 => ((spec_l13Shift.f k l0 bt881.2.2 (l0.length : Int) 0).bind fun t917 => (if y914.length + t917.length < 8796093022208 then (some ((y914 ++ t917), bt881.1)) else (none)))) else (none)))) else (none))) else (none)) else (none))))) else (some (t878, bt881.1)))))) else (some ((([] : List (S90))), 2)))
def spec_ApplyOp.T16 : Bool × List (List Nat × List Nat) := (true, [([], []), ([], []), ([0, 1], [0, 1]), ([], []), ([3], [3]), ([], []), ([], []), ([5, 6], [5, 6]), ([7], [7]), ([8], [8]), ([9], [9]), ([4, 10], [4, 10]), ([11], [11]), ([2, 12, 2], [2, 12]), ([13, 13, 0, 1, 2, 3, 4, 5, 6, 7, 8, 9, 10, 11, 12, 13], [13])])
def spec_ApplyOp.B16 : List Nat := [0, 0, 3, 0, 8, 0, 0, 96, 224, 480, 992, 2040, 4088, 8191, 16383]
theorem spec_ApplyOp.tab16 : rtab .any (opsOf Try.f44 16) = spec_ApplyOp.T16 := by kernel_rfl
theorem spec_ApplyOp.bits16 : waitsOk spec_ApplyOp.T16.2 spec_ApplyOp.B16 = true := by kernel_rfl
set_option maxHeartbeats 8000000 in
set_option maxRecDepth 100000 in
theorem spec_ApplyOp.calls (k : Nat) (A0 : Option Addr) (c0 : Nat) (l0 : List (S90)) (a1_0 : Int) (A1_1 : Option Addr) (c1_1 : Nat) (l1_1 : List Int) (a1_2 : Int) (a1_3 : Int) (a1_4 : Int) (r1 : List (S90)) (r2 : Int) (w : World) (hr0 : Kd.C k90 w A0 l0.length l0) (hc0 : l0.length ≤ c0) (hr1_1 : Kd.C (Kd.int .i64) w A1_1 l1_1.length l1_1) (hc1_1 : l1_1.length ≤ c1_1) (h : spec_ApplyOp.f k l0 a1_0 l1_1 a1_2 a1_3 a1_4 = some (r1, r2)) :
  Calls Try.prog 44 #[.slice A0 l0.length c0, .agg #[.int .i64 a1_0, .slice A1_1 l1_1.length c1_1, .int .i64 a1_2, .int .i64 a1_3, .int .i64 a1_4]] w fun e w' => ∃ v0_ : Value, e = .returned (.tuple #[v0_, .int .i64 r2]) ∧ Kd.R k90 90 w' w.heap.size (fun _ => True) v0_ r1 ∧ Below w.heap.size w w' := by
 have hu67 := Try.underlying67
 have hu90 := Try.underlying90
 have HR0 := Aside0.mk hr0
 have HC0 := Aside0.mk hc0
 clear hr0 hc0
 have HR1_1 := Aside0.mk hr1_1
 have HC1_1 := Aside0.mk hc1_1
 clear hr1_1 hc1_1
 have HB := Aside0.mk (Below.refl w.heap.size w)
 have H : ((spec_TreeOk.f k l0).bind fun t873 => (if t873 = true then ((spec_NodeAt.f k l0 l1_1).bind fun t877 => ((spec_l3Copy.f l0).bind fun t878 => ((spec_l13Code.f k l0 a1_0 l1_1 a1_2 a1_3 a1_4 t877).bind fun bt881 => (if bt881.1 = 0 then (if a1_0 = 1 then (if 0 ≤ t877 then (if t877 < (t878.length : Int) then (some ((t878.set (t877 : Int).toNat (⟨a1_2, (rd_T90 t878 t877).f1⟩ : S90)), bt881.1)) else (none)) else (none)) else (if a1_0 = 2 then ((spec_EndOf.f k l0 t877).bind fun t885 => ((spec_l13Shift.f k l0 0 t877 0).bind fun t886 => ((spec_l13Shift.f k l0 (wrap64 (t877 + 1)) t885 (-1)).bind fun t889 => (if t886.length + t889.length < 8796093022208 then ((some (t886 ++ t889 : List (S90))).bind fun y892 => ((spec_l13Shift.f k l0 t885 (l0.length : Int) 0).bind fun t895 => (if y892.length + t895.length < 8796093022208 then (some ((y892 ++ t895), bt881.1)) else (none)))) else (none))))) else ((spec_l13Shift.f k l0 0 bt881.2.1 0).bind fun t901 => (if 0 ≤ t877 then (if t877 < (l0.length : Int) then ((some (([(⟨a1_2, wrap64 (((rd_T90 l0 t877).f1) + 1)⟩ : S90)] : List (S90)) : List (S90))).bind fun y905 => (if t901.length + y905.length < 8796093022208 then ((some (t901 ++ y905 : List (S90))).bind fun y908 => ((spec_l13Shift.f k l0 bt881.2.1 bt881.2.2 1).bind fun t911 => (if y908.length + t911.length < 8796093022208 then ((some (y908 ++ t911 : List (S90))).bind fun y914 => ((spec_l13Shift.f k l0 bt881.2.2 (l0.length : Int) 0).bind fun t917 => (if y914.length + t917.length < 8796093022208 then (some ((y914 ++ t917), bt881.1)) else (none)))) else (none)))) else (none))) else (none)) else (none))))) else (some (t878, bt881.1)))))) else (some ((([] : List (S90))), 2)))) = some (r1, r2) := h
 clear h
 replace H := Option.bind_eq_some_iff.mp H
 obtain ⟨t873, A30, H⟩ := H
 try dsimp only at H
 have A3 := Aside0.mk A30
 clear A30
 by_cases c4 : t873 = true
 ·subst c4
  have H1 : ((spec_NodeAt.f k l0 l1_1).bind fun t877 => ((spec_l3Copy.f l0).bind fun t878 => ((spec_l13Code.f k l0 a1_0 l1_1 a1_2 a1_3 a1_4 t877).bind fun bt881 => (if bt881.1 = 0 then (if a1_0 = 1 then (if 0 ≤ t877 then (if t877 < (t878.length : Int) then (some ((t878.set (t877 : Int).toNat (⟨a1_2, (rd_T90 t878 t877).f1⟩ : S90)), bt881.1)) else (none)) else (none)) else (if a1_0 = 2 then ((spec_EndOf.f k l0 t877).bind fun t885 => ((spec_l13Shift.f k l0 0 t877 0).bind fun t886 => ((spec_l13Shift.f k l0 (wrap64 (t877 + 1)) t885 (-1)).bind fun t889 => (if t886.length + t889.length < 8796093022208 then ((some (t886 ++ t889 : List (S90))).bind fun y892 => ((spec_l13Shift.f k l0 t885 (l0.length : Int) 0).bind fun t895 => (if y892.length + t895.length < 8796093022208 then (some ((y892 ++ t895), bt881.1)) else (none)))) else (none))))) else ((spec_l13Shift.f k l0 0 bt881.2.1 0).bind fun t901 => (if 0 ≤ t877 then (if t877 < (l0.length : Int) then ((some (([(⟨a1_2, wrap64 (((rd_T90 l0 t877).f1) + 1)⟩ : S90)] : List (S90)) : List (S90))).bind fun y905 => (if t901.length + y905.length < 8796093022208 then ((some (t901 ++ y905 : List (S90))).bind fun y908 => ((spec_l13Shift.f k l0 bt881.2.1 bt881.2.2 1).bind fun t911 => (if y908.length + t911.length < 8796093022208 then ((some (y908 ++ t911 : List (S90))).bind fun y914 => ((spec_l13Shift.f k l0 bt881.2.2 (l0.length : Int) 0).bind fun t917 => (if y914.length + t917.length < 8796093022208 then (some ((y914 ++ t917), bt881.1)) else (none)))) else (none)))) else (none))) else (none)) else (none))))) else (some (t878, bt881.1)))))) = some (r1, r2) := by rw [if_pos rfl] at H; exact H
  clear H
  have H := H1
  clear H1
  replace H := Option.bind_eq_some_iff.mp H
  obtain ⟨t877, A50, H⟩ := H
  try dsimp only at H
  have A5 := Aside0.mk A50
  clear A50
  replace H := Option.bind_eq_some_iff.mp H
  obtain ⟨t878, A60, H⟩ := H
  try dsimp only at H
  have A6 := Aside0.mk A60
  clear A60
  replace H := Option.bind_eq_some_iff.mp H
  obtain ⟨⟨t881, t882, t883⟩, A70, H⟩ := H
  try dsimp only at H
  have A7 := Aside0.mk A70
  clear A70
  by_cases c8 : t881 = 0
  ·rw [if_pos c8] at H
   have c8b0 : (t881 == 0) = true := beq_iff_eq.mpr c8
   have c8b1 : (t881 != 0) = false := bne_eq_false_iff_eq.mpr c8
   clear c8
   by_cases c9 : a1_0 = 1
   ·rw [if_pos c9] at H
    have c9b0 : (a1_0 == 1) = true := beq_iff_eq.mpr c9
    have c9b1 : (a1_0 != 1) = false := bne_eq_false_iff_eq.mpr c9
    clear c9
    by_cases c10 : 0 ≤ t877
    ·rw [if_pos c10] at H
     have c10b0 : decide (0 ≤ t877) = true := decide_eq_true c10
     clear c10
     by_cases c11 : t877 < (t878.length : Int)
     ·rw [if_pos c11] at H
      have c11b0 : decide (t877 < (t878.length : Int)) = true := decide_eq_true c11
      clear c11
      obtain ⟨y884, hy884⟩ : ∃ y_ : List (S90), y_ = (t878.set (t877 : Int).toNat (⟨a1_2, (rd_T90 t878 t877).f1⟩ : S90)) := ⟨_, rfl⟩
      replace H : (some (y884, t881)) = some (r1, r2) := by first | (rw [hy884]; with_reducible exact H) | (have H2_ := (Option.bind_some _ _).symm.trans H; rw [hy884]; with_reducible exact H2_) | (have H2_ := (Option.bind_some _ _).symm.trans H; with_reducible exact H2_) | with_reducible exact H | (rw [hy884]; exact H) | exact H
      have Ny884 := Aside0.mk hy884
      clear hy884
      simp only [Option.some.injEq, Prod.mk.injEq] at H
      obtain ⟨rfl, rfl⟩ := H
      go_enter Try.func44, Try.ntmps44
      go_wp2_with (first | ((with_reducible refine gate_dst (N := 3) rfl ?_); refine bx_ 3 #[.int .i64 a1_0, .slice A1_1 l1_1.length c1_1, .int .i64 a1_2, .int .i64 a1_3, .int .i64 a1_4] 67 ?_; intro gb872 hg w13 hbox hb; have BK872 := Aside0.mk (hbox); have GW872 := Aside0.mk ((by rw [hg]; exact (bs_ HB) : w.heap.size ≤ gb872)); have GE872 := Aside0.mk ((by rw [hg]; exact (bs_ HB) : w.heap.size ≤ gb872)); replace HB := tB_ HB hb; clear hb hbox hg) | ((with_reducible refine gate_callee (f := 64) rfl ?_); refine gL_ (some 13) Try.func64 #[.slice A0 l0.length c0] ?_; (with_reducible refine (spec_TreeOk.calls k _ _ l0 true _ (cx_ HR0 HB) HC0.out A3.out).mono ?_); rintro e w14 ⟨rfl, hb⟩; refine ⟨_, rfl, ?_⟩; replace BK872 := tK_ BK872 hb; replace HB := tB_ HB hb; (try clear hb); obtain ⟨hcz15_0, hcz15_1, hcz15_2, hcz15_3, hcz15_4, hfz15_0, hfz15_1, hfz15_2, hfz15_3, hfz15_4⟩ := bk5_ BK872) | ((with_reducible refine gate_callee (f := 60) rfl ?_); refine gL_ (some 19) Try.func60 #[.slice A0 l0.length c0, .slice A1_1 l1_1.length c1_1] ?_; (with_reducible refine (spec_NodeAt.calls k _ _ l0 _ _ l1_1 t877 _ (cx_ HR0 HB) HC0.out (cx_ HR1_1 HB) HC1_1.out A5.out).mono ?_); rintro e w16 ⟨rfl, hb⟩; refine ⟨_, rfl, ?_⟩; replace BK872 := tK_ BK872 hb; replace HB := tB_ HB hb; (try clear hb)) | ((with_reducible refine gate_callee (f := 98) rfl ?_); refine gL_ (some 21) Try.func98 #[.slice A0 l0.length c0] ?_; (with_reducible refine (spec_l3Copy.calls _ _ l0 t878 _ (cx_ HR0 HB) HC0.out A6.out).mono ?_); rintro e w17 ⟨v879, rfl, ho0, hb⟩; refine ⟨_, rfl, ?_⟩; have HO880 := Aside0.mk (Kd.R_lower ho0 (bs_ HB)); replace BK872 := tK_ BK872 hb; replace HB := tB_ HB hb; (try clear hb); (try clear ho0); obtain ⟨hcz18_0, hcz18_1, hcz18_2, hcz18_3, hcz18_4, hfz18_0, hfz18_1, hfz18_2, hfz18_3, hfz18_4⟩ := bk5_ BK872) | ((with_reducible refine gate_callee (f := 99) rfl ?_); refine gL_ (some 26) Try.func99 #[.slice A0 l0.length c0, .agg #[.int .i64 a1_0, .slice A1_1 l1_1.length c1_1, .int .i64 a1_2, .int .i64 a1_3, .int .i64 a1_4], .int .i64 t877] ?_; (with_reducible refine (spec_l13Code.calls k _ _ l0 a1_0 _ _ l1_1 a1_2 a1_3 a1_4 t877 t881 t882 t883 _ (cx_ HR0 HB) HC0.out (cx_ HR1_1 HB) HC1_1.out A7.out).mono ?_); rintro e w19 ⟨rfl, hb⟩; refine ⟨_, rfl, ?_⟩; replace HO880 := tR_ HO880 hb; replace BK872 := tK_ BK872 hb; replace HB := tB_ HB hb; (try clear hb); obtain ⟨hcz20_0, hcz20_1, hcz20_2, hcz20_3, hcz20_4, hfz20_0, hfz20_1, hfz20_2, hfz20_3, hfz20_4⟩ := bk5_ BK872; have p12 : 0 ≤ (t877 : Int) := od_; have q12 : (t877 : Int) < ((t878.length : Int) : Int) := od_; obtain ⟨go12, co12, eo12, gb12, gl12, cl12, HG12⟩ := Kd.R_form HO880.out (by omega); (first | cases eo12 | (injection eo12 with ea_ en_ ec_; (first | subst ea_ | (injection ea_ with ea_; subst ea_)); subst ec_; clear en_)); have GB12 := Aside0.mk gb12; have GG12 := Aside0.mk HG12; clear gb12 gl12 HG12; obtain ⟨ce12, hcl12, hM12, hcc12, hfr12⟩ := Kd.R_elem HO880.out z90 (t877 : Int) p12 q12; obtain rfl := k90_openM hM12; have hx12_0 : w19.cell? ⟨go12, (t877 : Int).toNat * 2, none⟩ = some (.int .i64 ((rd_T90 t878 t877).f0)) := hcc12 0 _ rfl; have hx12_1 : w19.cell? ⟨go12, (t877 : Int).toNat * 2 + 1, none⟩ = some (.int .i64 ((rd_T90 t878 t877).f1)) := hcc12 1 _ rfl; have hf12_0 : w19.frozen? ⟨go12, (t877 : Int).toNat * 2, none⟩ = false := hfr12 0; have hf12_1 : w19.frozen? ⟨go12, (t877 : Int).toNat * 2 + 1, none⟩ = false := hfr12 1; clear hcl12 hcc12 hfr12 hM12; replace p12 := eq_true p12; replace q12 := eq_true q12; have HX21 := Aside0.mk (show Kd.R k90 90 w19 w.heap.size (fun _ => True) (.slice (some ⟨go12, 0, none⟩) t878.length co12) t878 from (rx_ HO880.out)); obtain ⟨ce21, hcl21, hM21, hcc21, hfr21⟩ := Kd.R_elem HX21.out z90 (t877 : Int) (od_) (by have h_ : (t877 : Int) < ((t878.length : Int) : Int) := od_; first | exact h_ | (have e_ := (Kd.R_reads' HO880.out).1; omega) | simpa using h_); obtain rfl := k90_openM hM21; have HP21 := Kd.R_seg HX21.out (t877 : Int) (od_) (by have h_ : (t877 : Int) < ((t878.length : Int) : Int) := od_; first | exact h_ | (have e_ := (Kd.R_reads' HO880.out).1; omega) | simpa using h_) (seg := [.int .i64 a1_2]) (j := 0) hcl21 hcc21 (show 1 ≤ 2 from by decide) (x' := (⟨a1_2, (rd_T90 t878 t877).f1⟩ : S90)) (k90_mkM _ _ _ (⟨a1_2, (rd_T90 t878 t877).f1⟩ : S90) ) (fun _ hk => hk); have hx21_0 := hcc21 0 _ rfl; (try simp only [show (k90).sz = 2 from rfl, Nat.mul_one, Nat.add_zero] at hx21_0); have hf21_0 := hfr21 0; (try simp only [show (k90).sz = 2 from rfl, Nat.mul_one, Nat.add_zero] at hf21_0); clear hcl21 hcc21 hfr21 hM21) | ((with_reducible refine gate_store (t := 3) (p := 43) rfl ?_); refine store_event (t := 3) (p := 43) (v := ?vo_w22) (w1 := (w19.setCell ⟨go12, (t877 : Int).toNat * 2, none⟩ (.int .i64 a1_2))) ?hg ?ho ?hn ?hr ?_; (case ho => rfl); (case hg => rfl); (case hn => rfl); (case hr => first | (go_simp; done) | (go_simp; rfl)); intro w22 hw; have hg : w19.grownBy w22 (some go12) := (by rw [hw]; exact HP21.2); have hp_ : Kd.R k90 90 w22 w.heap.size (fun _ => True) (.slice (some ⟨go12, 0, none⟩) t878.length co12) y884 := (by rw [hw, Ny884.out]; exact HP21.1); clear HP21; replace BK872 := Aside0.mk (blk_grown (g := gb872) (o := .cells #[.int .i64 a1_0, .slice A1_1 l1_1.length c1_1, .int .i64 a1_2, .int .i64 a1_3, .int .i64 a1_4] 67 (0, 0)) (kx_ BK872.out) hg (Kd.R_ne HO880.out BK872.out (by decide))); replace HO880 := Aside0.mk (hp_); replace HB := Aside0.mk ((by rw [hw]; exact below_set (HB.out) GB12.out : Below w.heap.size w w22)); clear hg hw hp_))
      go_ret2
      exact ⟨_, ea_, rx_ HO880.out, (bl_ HB).out⟩
     ·rw [if_neg c11] at H
      exact absurd H (by simp)
    ·rw [if_neg c10] at H
     exact absurd H (by simp)
   ·rw [if_neg c9] at H
    have c9b0 : (a1_0 == 1) = false := beq_eq_false_iff_ne.mpr c9
    have c9b1 : (a1_0 != 1) = true := bne_iff_ne.mpr c9
    by_cases c23 : a1_0 = 2
    ·rw [if_pos c23] at H
     have c23b0 : (a1_0 == 2) = true := beq_iff_eq.mpr c23
     have c23b1 : (a1_0 != 2) = false := bne_eq_false_iff_eq.mpr c23
     clear c23
     replace H := Option.bind_eq_some_iff.mp H
     obtain ⟨t885, A240, H⟩ := H
     try dsimp only at H
     have A24 := Aside0.mk A240
     clear A240
     replace H := Option.bind_eq_some_iff.mp H
     obtain ⟨t886, A250, H⟩ := H
     try dsimp only at H
     have A25 := Aside0.mk A250
     clear A250
     replace H := Option.bind_eq_some_iff.mp H
     obtain ⟨t889, A260, H⟩ := H
     try dsimp only at H
     have A26 := Aside0.mk A260
     clear A260
     by_cases c27 : t886.length + t889.length < 8796093022208
     ·rw [if_pos c27] at H
      have LMc27 := Aside0.mk c27
      clear c27
      obtain ⟨y892, hy892⟩ : ∃ y_ : List (S90), y_ = (t886 ++ t889) := ⟨_, rfl⟩
      replace H : ((spec_l13Shift.f k l0 t885 (l0.length : Int) 0).bind fun t895 => (if y892.length + t895.length < 8796093022208 then (some ((y892 ++ t895), t881)) else (none))) = some (r1, r2) := by first | (rw [hy892]; with_reducible exact H) | (have H2_ := (Option.bind_some _ _).symm.trans H; rw [hy892]; with_reducible exact H2_) | (have H2_ := (Option.bind_some _ _).symm.trans H; with_reducible exact H2_) | with_reducible exact H | (rw [hy892]; exact H) | exact H
      have Ny892 := Aside0.mk hy892
      clear hy892
      replace H := Option.bind_eq_some_iff.mp H
      obtain ⟨t895, A280, H⟩ := H
      try dsimp only at H
      have A28 := Aside0.mk A280
      clear A280
      by_cases c29 : y892.length + t895.length < 8796093022208
      ·rw [if_pos c29] at H
       have LMc29 := Aside0.mk c29
       clear c29
       obtain ⟨y898, hy898⟩ : ∃ y_ : List (S90), y_ = (y892 ++ t895) := ⟨_, rfl⟩
       replace H : (some (y898, t881)) = some (r1, r2) := by first | (rw [hy898]; with_reducible exact H) | (have H2_ := (Option.bind_some _ _).symm.trans H; rw [hy898]; with_reducible exact H2_) | (have H2_ := (Option.bind_some _ _).symm.trans H; with_reducible exact H2_) | with_reducible exact H | (rw [hy898]; exact H) | exact H
       have Ny898 := Aside0.mk hy898
       clear hy898
       simp only [Option.some.injEq, Prod.mk.injEq] at H
       obtain ⟨rfl, rfl⟩ := H
       go_enter Try.func44, Try.ntmps44
       go_wp2_with (first | ((with_reducible refine gate_dst (N := 3) rfl ?_); refine bx_ 3 #[.int .i64 a1_0, .slice A1_1 l1_1.length c1_1, .int .i64 a1_2, .int .i64 a1_3, .int .i64 a1_4] 67 ?_; intro gb872 hg w30 hbox hb; have BK872 := Aside0.mk (hbox); have GW872 := Aside0.mk ((by rw [hg]; exact (bs_ HB) : w.heap.size ≤ gb872)); have GE872 := Aside0.mk ((by rw [hg]; exact (bs_ HB) : w.heap.size ≤ gb872)); replace HB := tB_ HB hb; clear hb hbox hg) | ((with_reducible refine gate_callee (f := 64) rfl ?_); refine gL_ (some 13) Try.func64 #[.slice A0 l0.length c0] ?_; (with_reducible refine (spec_TreeOk.calls k _ _ l0 true _ (cx_ HR0 HB) HC0.out A3.out).mono ?_); rintro e w31 ⟨rfl, hb⟩; refine ⟨_, rfl, ?_⟩; replace BK872 := tK_ BK872 hb; replace HB := tB_ HB hb; (try clear hb); obtain ⟨hcz32_0, hcz32_1, hcz32_2, hcz32_3, hcz32_4, hfz32_0, hfz32_1, hfz32_2, hfz32_3, hfz32_4⟩ := bk5_ BK872) | ((with_reducible refine gate_callee (f := 60) rfl ?_); refine gL_ (some 19) Try.func60 #[.slice A0 l0.length c0, .slice A1_1 l1_1.length c1_1] ?_; (with_reducible refine (spec_NodeAt.calls k _ _ l0 _ _ l1_1 t877 _ (cx_ HR0 HB) HC0.out (cx_ HR1_1 HB) HC1_1.out A5.out).mono ?_); rintro e w33 ⟨rfl, hb⟩; refine ⟨_, rfl, ?_⟩; replace BK872 := tK_ BK872 hb; replace HB := tB_ HB hb; (try clear hb)) | ((with_reducible refine gate_callee (f := 98) rfl ?_); refine gL_ (some 21) Try.func98 #[.slice A0 l0.length c0] ?_; (with_reducible refine (spec_l3Copy.calls _ _ l0 t878 _ (cx_ HR0 HB) HC0.out A6.out).mono ?_); rintro e w34 ⟨v879, rfl, ho0, hb⟩; refine ⟨_, rfl, ?_⟩; have HO880 := Aside0.mk (Kd.R_lower ho0 (bs_ HB)); replace BK872 := tK_ BK872 hb; replace HB := tB_ HB hb; (try clear hb); (try clear ho0); obtain ⟨hcz35_0, hcz35_1, hcz35_2, hcz35_3, hcz35_4, hfz35_0, hfz35_1, hfz35_2, hfz35_3, hfz35_4⟩ := bk5_ BK872) | ((with_reducible refine gate_callee (f := 99) rfl ?_); refine gL_ (some 26) Try.func99 #[.slice A0 l0.length c0, .agg #[.int .i64 a1_0, .slice A1_1 l1_1.length c1_1, .int .i64 a1_2, .int .i64 a1_3, .int .i64 a1_4], .int .i64 t877] ?_; (with_reducible refine (spec_l13Code.calls k _ _ l0 a1_0 _ _ l1_1 a1_2 a1_3 a1_4 t877 t881 t882 t883 _ (cx_ HR0 HB) HC0.out (cx_ HR1_1 HB) HC1_1.out A7.out).mono ?_); rintro e w36 ⟨rfl, hb⟩; refine ⟨_, rfl, ?_⟩; replace HO880 := tR_ HO880 hb; replace BK872 := tK_ BK872 hb; replace HB := tB_ HB hb; (try clear hb); obtain ⟨hcz37_0, hcz37_1, hcz37_2, hcz37_3, hcz37_4, hfz37_0, hfz37_1, hfz37_2, hfz37_3, hfz37_4⟩ := bk5_ BK872) | ((with_reducible refine gate_callee (f := 100) rfl ?_); refine gL_ (some 50) Try.func100 #[.slice A0 l0.length c0, .int .i64 t877] ?_; (with_reducible refine (spec_EndOf.calls k _ _ l0 t877 t885 _ (cx_ HR0 HB) HC0.out A24.out).mono ?_); rintro e w38 ⟨rfl, hb⟩; refine ⟨_, rfl, ?_⟩; replace HO880 := tR_ HO880 hb; replace BK872 := tK_ BK872 hb; replace HB := tB_ HB hb; (try clear hb)) | ((with_reducible refine gate_callee (f := 101) rfl ?_); refine gL_ (some 53) Try.func101 #[.slice A0 l0.length c0, .int .i64 0, .int .i64 t877, .int .i64 0] ?_; (with_reducible refine (spec_l13Shift.calls k _ _ l0 0 t877 0 t886 _ (cx_ HR0 HB) HC0.out A25.out).mono ?_); rintro e w39 ⟨v887, rfl, ho0, hb⟩; refine ⟨_, rfl, ?_⟩; have HO888 := Aside0.mk (Kd.R_lower (Kd.R_new' ho0 (Kd.R_lt (rx_ HO880.out))) (bs_ HB)); replace HO880 := Aside0.mk (Kd.R_elder' (rx_ HO880.out) (Kd.R_base ho0) hb); replace BK872 := tK_ BK872 hb; replace HB := tB_ HB hb; (try clear hb); (try clear ho0)) | ((with_reducible refine gate_callee (f := 101) rfl ?_); refine gL_ (some 58) Try.func101 #[.slice A0 l0.length c0, .int .i64 (wrap64 (t877 + 1)), .int .i64 t885, .int .i64 (-1)] ?_; (with_reducible refine (spec_l13Shift.calls k _ _ l0 (wrap64 (t877 + 1)) t885 (-1) t889 _ (cx_ HR0 HB) HC0.out A26.out).mono ?_); rintro e w40 ⟨v890, rfl, ho0, hb⟩; refine ⟨_, rfl, ?_⟩; have HO891 := Aside0.mk (Kd.R_lower (Kd.R_new' (Kd.R_new' ho0 (Kd.R_lt (rx_ HO880.out))) (Kd.R_lt (rx_ HO888.out))) (bs_ HB)); replace HO880 := Aside0.mk (Kd.R_elder' (rx_ HO880.out) (Kd.R_base ho0) hb); replace HO888 := Aside0.mk (Kd.R_elder' (rx_ HO888.out) (Kd.R_base ho0) hb); replace BK872 := tK_ BK872 hb; replace HB := tB_ HB hb; (try clear hb); (try clear ho0); obtain ⟨Ao42, co42, eo42⟩ := Kd.R_slice HO891.out; subst eo42) | ((with_reducible refine gate_builtin (b := .append) (xs := #[.tmp 53, .tmp 58]) rfl ?_); at_builtin; refine Kd.R_append_rows k90 (w0 := w) w.heap.size rfl (.tmp 53) (.tmp 58) 34 90 (.agg #[(.int .i64 0), (.int .i64 0)]) 16 rfl Try.underlying34 info90 rfl (by decide) (by omega) v887 t886 t889 _ _ _ (fun k_ => some k_ ≠ (v879 : Value).ownBlock ∧ some k_ ≠ (.slice Ao42 t889.length co42 : Value).ownBlock) (fun _ => False) rfl rfl ?aO ?aR (fun _ _ h => h) (fun _ h => h.elim) ?aF ?aB ?aS ?aL ?_; (case aR => exact cc_ (Kd.R_reads' HO891.out).2.2); (case aB => exact ((bl_ HB).out)); (case aF => exact (fun k_ hk => ⟨Kd.fresh' (Kd.R_lt (rx_ HO880.out)) k_ hk, Kd.fresh' (Kd.R_lt (rx_ HO891.out)) k_ hk⟩)); (case aO => exact (rx_ (Kd.R_mono HO888.out (fun _ hk => ⟨hk.1.2, hk.2⟩)))); (case aS => exact (bs_ HB)); (case aL => have := LMc27.out; omega); intro v893 w41 ho hb hg hat; rw [← Ny892.out] at ho; replace BK872 := Aside0.mk (blk_grown (g := gb872) (o := .cells #[.int .i64 a1_0, .slice A1_1 l1_1.length c1_1, .int .i64 a1_2, .int .i64 a1_3, .int .i64 a1_4] 67 (0, 0)) (kx_ BK872.out) hg (Kd.R_ne HO888.out BK872.out (by decide))); replace HO880 := Aside0.mk (Kd.R_after (ok := (fun k_ => some k_ ≠ (.slice Ao42 t889.length co42 : Value).ownBlock)) (rx_ (Kd.R_mono HO880.out (fun _ hk => ⟨hk.2, hk.1.2⟩))) hg hat); replace HO891 := Aside0.mk (Kd.R_after (ok := (fun k_ => some k_ ≠ (v879 : Value).ownBlock)) (rx_ (Kd.R_mono HO891.out (fun _ hk => ⟨hk.1.2, hk.2⟩))) hg hat); replace HB := Aside0.mk (hb); have HO894 := Aside0.mk (ho); clear HO888; clear ho hb hg hat) | ((with_reducible refine gate_callee (f := 101) rfl ?_); refine gL_ (some 65) Try.func101 #[.slice A0 l0.length c0, .int .i64 t885, .int .i64 (l0.length : Int), .int .i64 0] ?_; (with_reducible refine (spec_l13Shift.calls k _ _ l0 t885 (l0.length : Int) 0 t895 _ (cx_ HR0 HB) HC0.out A28.out).mono ?_); rintro e w43 ⟨v896, rfl, ho0, hb⟩; refine ⟨_, rfl, ?_⟩; have HO897 := Aside0.mk (Kd.R_lower (Kd.R_new' (Kd.R_new' (Kd.R_new' ho0 (Kd.R_lt (rx_ HO880.out))) (Kd.R_lt (rx_ HO891.out))) (Kd.R_lt (rx_ HO894.out))) (bs_ HB)); replace HO880 := Aside0.mk (Kd.R_elder' (rx_ HO880.out) (Kd.R_base ho0) hb); replace HO891 := Aside0.mk (Kd.R_elder' (rx_ HO891.out) (Kd.R_base ho0) hb); replace HO894 := Aside0.mk (Kd.R_elder' (rx_ HO894.out) (Kd.R_base ho0) hb); replace BK872 := tK_ BK872 hb; replace HB := tB_ HB hb; (try clear hb); (try clear ho0); obtain ⟨Ao45, co45, eo45⟩ := Kd.R_slice HO897.out; subst eo45) | ((with_reducible refine gate_builtin (b := .append) (xs := #[.tmp 60, .tmp 65]) rfl ?_); at_builtin; refine Kd.R_append_rows k90 (w0 := w) w.heap.size rfl (.tmp 60) (.tmp 65) 34 90 (.agg #[(.int .i64 0), (.int .i64 0)]) 16 rfl Try.underlying34 info90 rfl (by decide) (by omega) v893 y892 t895 _ _ _ (fun k_ => some k_ ≠ (v879 : Value).ownBlock ∧ some k_ ≠ (.slice Ao42 t889.length co42 : Value).ownBlock ∧ some k_ ≠ (.slice Ao45 t895.length co45 : Value).ownBlock) (fun _ => False) rfl rfl ?aO ?aR (fun _ _ h => h) (fun _ h => h.elim) ?aF ?aB ?aS ?aL ?_; (case aR => exact cc_ (Kd.R_reads' HO897.out).2.2); (case aB => exact ((bl_ HB).out)); (case aF => exact (fun k_ hk => ⟨Kd.fresh' (Kd.R_lt (rx_ HO880.out)) k_ hk, Kd.fresh' (Kd.R_lt (rx_ HO891.out)) k_ hk, Kd.fresh' (Kd.R_lt (rx_ HO897.out)) k_ hk⟩)); (case aO => exact (rx_ (Kd.R_mono HO894.out (fun _ hk => ⟨hk.1.1, ⟨hk.1.2, hk.2⟩⟩)))); (case aS => exact (bs_ HB)); (case aL => have := LMc29.out; omega); intro v899 w44 ho hb hg hat; rw [← Ny898.out] at ho; replace BK872 := Aside0.mk (blk_grown (g := gb872) (o := .cells #[.int .i64 a1_0, .slice A1_1 l1_1.length c1_1, .int .i64 a1_2, .int .i64 a1_3, .int .i64 a1_4] 67 (0, 0)) (kx_ BK872.out) hg (Kd.R_ne HO894.out BK872.out (by decide))); replace HO880 := Aside0.mk (Kd.R_after (ok := (fun k_ => some k_ ≠ (.slice Ao42 t889.length co42 : Value).ownBlock ∧ some k_ ≠ (.slice Ao45 t895.length co45 : Value).ownBlock)) (rx_ (Kd.R_mono HO880.out (fun _ hk => ⟨⟨hk.1.1, hk.2⟩, hk.1.2⟩))) hg hat); replace HO891 := Aside0.mk (Kd.R_after (ok := (fun k_ => some k_ ≠ (v879 : Value).ownBlock ∧ some k_ ≠ (.slice Ao45 t895.length co45 : Value).ownBlock)) (rx_ (Kd.R_mono HO891.out (fun _ hk => ⟨⟨hk.1.1, hk.2⟩, hk.1.2⟩))) hg hat); replace HO897 := Aside0.mk (Kd.R_after (ok := (fun k_ => some k_ ≠ (v879 : Value).ownBlock ∧ some k_ ≠ (.slice Ao42 t889.length co42 : Value).ownBlock)) (rx_ (Kd.R_mono HO897.out (fun _ hk => ⟨⟨hk.1.1.2, hk.1.2⟩, hk.2⟩))) hg hat); replace HB := Aside0.mk (hb); have HO900 := Aside0.mk (ho); clear HO894; clear ho hb hg hat))
       go_ret2
       exact ⟨_, ea_, rx_ (Kd.R_mono HO900.out (fun _ hk => trivial)), (bl_ HB).out⟩
      ·rw [if_neg c29] at H
       exact absurd H (by simp)
     ·rw [if_neg c27] at H
      exact absurd H (by simp)
    ·rw [if_neg c23] at H
     have c23b0 : (a1_0 == 2) = false := beq_eq_false_iff_ne.mpr c23
     have c23b1 : (a1_0 != 2) = true := bne_iff_ne.mpr c23
     replace H := Option.bind_eq_some_iff.mp H
     obtain ⟨t901, A460, H⟩ := H
     try dsimp only at H
     have A46 := Aside0.mk A460
     clear A460
     by_cases c47 : 0 ≤ t877
     ·rw [if_pos c47] at H
      have c47b0 : decide (0 ≤ t877) = true := decide_eq_true c47
      clear c47
      by_cases c48 : t877 < (l0.length : Int)
      ·rw [if_pos c48] at H
       have c48b0 : decide (t877 < (l0.length : Int)) = true := decide_eq_true c48
       clear c48
       obtain ⟨y905, hy905⟩ : ∃ y_ : List (S90), y_ = (([(⟨a1_2, wrap64 (((rd_T90 l0 t877).f1) + 1)⟩ : S90)] : List (S90))) := ⟨_, rfl⟩
       replace H : (if t901.length + y905.length < 8796093022208 then ((some (t901 ++ y905 : List (S90))).bind fun y908 => ((spec_l13Shift.f k l0 t882 t883 1).bind fun t911 => (if y908.length + t911.length < 8796093022208 then ((some (y908 ++ t911 : List (S90))).bind fun y914 => ((spec_l13Shift.f k l0 t883 (l0.length : Int) 0).bind fun t917 => (if y914.length + t917.length < 8796093022208 then (some ((y914 ++ t917), t881)) else (none)))) else (none)))) else (none)) = some (r1, r2) := by first | (rw [hy905]; with_reducible exact H) | (have H2_ := (Option.bind_some _ _).symm.trans H; rw [hy905]; with_reducible exact H2_) | (have H2_ := (Option.bind_some _ _).symm.trans H; with_reducible exact H2_) | with_reducible exact H | (rw [hy905]; exact H) | exact H
       have Ny905 := Aside0.mk hy905
       clear hy905
       by_cases c49 : t901.length + y905.length < 8796093022208
       ·rw [if_pos c49] at H
        have LMc49 := Aside0.mk c49
        clear c49
        obtain ⟨y908, hy908⟩ : ∃ y_ : List (S90), y_ = (t901 ++ y905) := ⟨_, rfl⟩
        replace H : ((spec_l13Shift.f k l0 t882 t883 1).bind fun t911 => (if y908.length + t911.length < 8796093022208 then ((some (y908 ++ t911 : List (S90))).bind fun y914 => ((spec_l13Shift.f k l0 t883 (l0.length : Int) 0).bind fun t917 => (if y914.length + t917.length < 8796093022208 then (some ((y914 ++ t917), t881)) else (none)))) else (none))) = some (r1, r2) := by first | (rw [hy908]; with_reducible exact H) | (have H2_ := (Option.bind_some _ _).symm.trans H; rw [hy908]; with_reducible exact H2_) | (have H2_ := (Option.bind_some _ _).symm.trans H; with_reducible exact H2_) | with_reducible exact H | (rw [hy908]; exact H) | exact H
        have Ny908 := Aside0.mk hy908
        clear hy908
        replace H := Option.bind_eq_some_iff.mp H
        obtain ⟨t911, A500, H⟩ := H
        try dsimp only at H
        have A50 := Aside0.mk A500
        clear A500
        by_cases c51 : y908.length + t911.length < 8796093022208
        ·rw [if_pos c51] at H
         have LMc51 := Aside0.mk c51
         clear c51
         obtain ⟨y914, hy914⟩ : ∃ y_ : List (S90), y_ = (y908 ++ t911) := ⟨_, rfl⟩
         replace H : ((spec_l13Shift.f k l0 t883 (l0.length : Int) 0).bind fun t917 => (if y914.length + t917.length < 8796093022208 then (some ((y914 ++ t917), t881)) else (none))) = some (r1, r2) := by first | (rw [hy914]; with_reducible exact H) | (have H2_ := (Option.bind_some _ _).symm.trans H; rw [hy914]; with_reducible exact H2_) | (have H2_ := (Option.bind_some _ _).symm.trans H; with_reducible exact H2_) | with_reducible exact H | (rw [hy914]; exact H) | exact H
         have Ny914 := Aside0.mk hy914
         clear hy914
         replace H := Option.bind_eq_some_iff.mp H
         obtain ⟨t917, A520, H⟩ := H
         try dsimp only at H
         have A52 := Aside0.mk A520
         clear A520
         by_cases c53 : y914.length + t917.length < 8796093022208
         ·rw [if_pos c53] at H
          have LMc53 := Aside0.mk c53
          clear c53
          obtain ⟨y920, hy920⟩ : ∃ y_ : List (S90), y_ = (y914 ++ t917) := ⟨_, rfl⟩
          replace H : (some (y920, t881)) = some (r1, r2) := by first | (rw [hy920]; with_reducible exact H) | (have H2_ := (Option.bind_some _ _).symm.trans H; rw [hy920]; with_reducible exact H2_) | (have H2_ := (Option.bind_some _ _).symm.trans H; with_reducible exact H2_) | with_reducible exact H | (rw [hy920]; exact H) | exact H
          have Ny920 := Aside0.mk hy920
          clear hy920
          simp only [Option.some.injEq, Prod.mk.injEq] at H
          obtain ⟨rfl, rfl⟩ := H
          go_enter Try.func44, Try.ntmps44
          try go_wp2_with (first | ((with_reducible refine gate_dst (N := 3) rfl ?_); refine bx_ 3 #[.int .i64 a1_0, .slice A1_1 l1_1.length c1_1, .int .i64 a1_2, .int .i64 a1_3, .int .i64 a1_4] 67 ?_; intro gb872 hg w54 hbox hb; have BK872 := Aside0.mk (hbox); have GW872 := Aside0.mk ((by rw [hg]; exact (bs_ HB) : w.heap.size ≤ gb872)); have GE872 := Aside0.mk ((by rw [hg]; exact (bs_ HB) : w.heap.size ≤ gb872)); replace HB := tB_ HB hb; clear hb hbox hg) | ((with_reducible refine gate_callee (f := 64) rfl ?_); refine gL_ (some 13) Try.func64 #[.slice A0 l0.length c0] ?_; (with_reducible refine (spec_TreeOk.calls k _ _ l0 true _ (cx_ HR0 HB) HC0.out A3.out).mono ?_); rintro e w55 ⟨rfl, hb⟩; refine ⟨_, rfl, ?_⟩; replace BK872 := tK_ BK872 hb; replace HB := tB_ HB hb; (try clear hb); obtain ⟨hcz56_0, hcz56_1, hcz56_2, hcz56_3, hcz56_4, hfz56_0, hfz56_1, hfz56_2, hfz56_3, hfz56_4⟩ := bk5_ BK872) | ((with_reducible refine gate_callee (f := 60) rfl ?_); refine gL_ (some 19) Try.func60 #[.slice A0 l0.length c0, .slice A1_1 l1_1.length c1_1] ?_; (with_reducible refine (spec_NodeAt.calls k _ _ l0 _ _ l1_1 t877 _ (cx_ HR0 HB) HC0.out (cx_ HR1_1 HB) HC1_1.out A5.out).mono ?_); rintro e w57 ⟨rfl, hb⟩; refine ⟨_, rfl, ?_⟩; replace BK872 := tK_ BK872 hb; replace HB := tB_ HB hb; (try clear hb)) | ((with_reducible refine gate_callee (f := 98) rfl ?_); refine gL_ (some 21) Try.func98 #[.slice A0 l0.length c0] ?_; (with_reducible refine (spec_l3Copy.calls _ _ l0 t878 _ (cx_ HR0 HB) HC0.out A6.out).mono ?_); rintro e w58 ⟨v879, rfl, ho0, hb⟩; refine ⟨_, rfl, ?_⟩; have HO880 := Aside0.mk (Kd.R_lower ho0 (bs_ HB)); replace BK872 := tK_ BK872 hb; replace HB := tB_ HB hb; (try clear hb); (try clear ho0); obtain ⟨hcz59_0, hcz59_1, hcz59_2, hcz59_3, hcz59_4, hfz59_0, hfz59_1, hfz59_2, hfz59_3, hfz59_4⟩ := bk5_ BK872) | ((with_reducible refine gate_callee (f := 99) rfl ?_); refine gL_ (some 26) Try.func99 #[.slice A0 l0.length c0, .agg #[.int .i64 a1_0, .slice A1_1 l1_1.length c1_1, .int .i64 a1_2, .int .i64 a1_3, .int .i64 a1_4], .int .i64 t877] ?_; (with_reducible refine (spec_l13Code.calls k _ _ l0 a1_0 _ _ l1_1 a1_2 a1_3 a1_4 t877 t881 t882 t883 _ (cx_ HR0 HB) HC0.out (cx_ HR1_1 HB) HC1_1.out A7.out).mono ?_); rintro e w60 ⟨rfl, hb⟩; refine ⟨_, rfl, ?_⟩; replace HO880 := tR_ HO880 hb; replace BK872 := tK_ BK872 hb; replace HB := tB_ HB hb; (try clear hb); obtain ⟨hcz61_0, hcz61_1, hcz61_2, hcz61_3, hcz61_4, hfz61_0, hfz61_1, hfz61_2, hfz61_3, hfz61_4⟩ := bk5_ BK872))
          have n0_ := Aside0.mk (Kd.R_drew HO880.out)
          have n1_ := Aside0.mk (blk_drew BK872.out)
          have n2_ := Aside0.mk (below_drew1 HB.out)
          clear HO880
          clear BK872
          clear HB
          have HO880 := n0_
          have BK872 := n1_
          have HB := n2_
          clear n0_ n1_ n2_
          have p904 : 0 ≤ (t877 : Int) := od_
          have q904 : t877 < (l0.length : Int) := od_
          obtain ⟨ad904, e904, hx904_0, hx904_1⟩ := at_T90 HR0.out t877 p904 q904
          have hw904_1 := hx904_1
          have hw904_0 := hx904_0
          cases e904
          replace hx904_0 := ce_ HB hx904_0
          replace hx904_1 := ce_ HB hx904_1
          replace p904 := eq_true p904
          replace q904 := eq_true q904
          refine start_ (n := 15) (S := fun w' => w'.cell? ⟨gb872, 0, none⟩ = some (.int .i64 a1_0) ∧ w'.cell? ⟨gb872, 1, none⟩ = some (.slice A1_1 l1_1.length c1_1) ∧ w'.cell? ⟨gb872, 2, none⟩ = some (.int .i64 a1_2) ∧ w'.cell? ⟨gb872, 3, none⟩ = some (.int .i64 a1_3) ∧ w'.cell? ⟨gb872, 4, none⟩ = some (.int .i64 a1_4) ∧ w'.cell? (ad904.add ((t877).toNat * 2)) = some (.int .i64 ((rd_T90 l0 t877).f0)) ∧ w'.cell? ⟨(ad904.add ((t877).toNat * 2)).block, (ad904.add ((t877).toNat * 2)).off + 1, none⟩ = some (.int .i64 ((rd_T90 l0 t877).f1))) (ds := []) (ba_ 15 0) (by kernel_rfl) rfl rfl ⟨(blk_cell BK872.out 0).trans rfl, (blk_cell BK872.out 1).trans rfl, (blk_cell BK872.out 2).trans rfl, (blk_cell BK872.out 3).trans rfl, (blk_cell BK872.out 4).trans rfl, (ce_ HB hw904_0), (ce_ HB hw904_1)⟩ (fun hHeld => ?_); refine with_tabW spec_ApplyOp.tab16 spec_ApplyOp.bits16 (fun HT_ HW_ => ?_)
          generalize w60.drew = w62 at HO880 BK872 HB hx904_0 hx904_1 hHeld ⊢
          refine pu_ 0 (some 68) (ba_ 15 1) rfl rfl (any_of HT_.out (by kernel_rfl)) ?_
          refine pu_ 1 (some 69) (ba_ 15 3) rfl rfl (any_of HT_.out (by kernel_rfl)) ?_
          refine pu_ 3 (some 71) (ba_ 15 11) rfl rfl (any_of HT_.out (by kernel_rfl)) ?_
          refine pu_ 5 (some 73) (ba_ 15 43) rfl rfl (any_of HT_.out (by kernel_rfl)) ?_
          refine pu_ 6 (some 74) (ba_ 15 107) rfl rfl (any_of HT_.out (by kernel_rfl)) ?_
          refine pu_ 7 (some 75) (ba_ 15 235) rfl rfl (any_of HT_.out (by kernel_rfl)) ?_
          refine pu_ 8 (some 76) (ba_ 15 491) rfl rfl (any_of HT_.out (by kernel_rfl)) ?_
          refine ta_ 4 (some 72) (ba_ 15 507) rfl rfl (take_ofW HT_.out HW_.out (by kernel_rfl)) hHeld (by rintro w' ⟨s0, s1, s2, s3, s4, s5, s6⟩; go_simp; with_reducible rfl) ?_
          refine ta_ 9 (some 77) (ba_ 15 1019) rfl rfl (take_ofW HT_.out HW_.out (by kernel_rfl)) hHeld (by rintro w' ⟨s0, s1, s2, s3, s4, s5, s6⟩; go_simp; with_reducible rfl) ?_
          refine pu_ 10 (some 78) (ba_ 15 2043) rfl rfl (any_of HT_.out (by kernel_rfl)) ?_
          refine pu_ 11 (some 79) (ba_ 15 4091) rfl rfl (any_of HT_.out (by kernel_rfl)) ?_
          refine join_ (σ := Value × Value) 2 (ba_ 15 8191) (fun s_ => [(70, s_.1), (80, s_.2)]) (fun s_ w' => (w'.cell? ⟨gb872, 0, none⟩ = some (.int .i64 a1_0) ∧ w'.cell? ⟨gb872, 1, none⟩ = some (.slice A1_1 l1_1.length c1_1) ∧ w'.cell? ⟨gb872, 2, none⟩ = some (.int .i64 a1_2) ∧ w'.cell? ⟨gb872, 3, none⟩ = some (.int .i64 a1_3) ∧ w'.cell? ⟨gb872, 4, none⟩ = some (.int .i64 a1_4) ∧ w'.cell? (ad904.add ((t877).toNat * 2)) = some (.int .i64 ((rd_T90 l0 t877).f0)) ∧ w'.cell? ⟨(ad904.add ((t877).toNat * 2)).block, (ad904.add ((t877).toNat * 2)).off + 1, none⟩ = some (.int .i64 ((rd_T90 l0 t877).f1))) ∧ (Kd.R k90 90 w' w.heap.size (fun k_ => some k_ ≠ (s_.1 : Value).ownBlock ∧ some k_ ≠ (s_.2 : Value).ownBlock) v879 t878) ∧ (Kd.R k90 90 w' w.heap.size (fun k_ => some k_ ≠ (v879 : Value).ownBlock ∧ some k_ ≠ (s_.2 : Value).ownBlock) s_.1 t901) ∧ (Kd.R k90 90 w' w.heap.size (fun k_ => some k_ ≠ (v879 : Value).ownBlock ∧ some k_ ≠ (s_.1 : Value).ownBlock) s_.2 y905) ∧ (w'.heap[gb872]? = some (.cells #[.int .i64 a1_0, .slice A1_1 l1_1.length c1_1, .int .i64 a1_2, .int .i64 a1_3, .int .i64 a1_4] 67 (0, 0))) ∧ (Below w.heap.size w w')) ?_ ?_
          rotate_left
          ·intro hCont
           refine two_ (i := 2) (j := 12) (Ni := some 70) (Nj := some 80) (ba_ 15 4095) (ba_ 15 8187) rfl rfl rfl rfl (two_of HT_.out (by kernel_rfl)) (by decide) (by decide) (fun K hK => ?_) (fun K hK => ?_)
           ·skip
            refine goes_ Try.func101 (by kernel_rfl) rfl #[.slice (some ad904) l0.length c0, .int .i64 0, .int .i64 t882, .int .i64 0] (by rfl) rfl rfl (by (try simp only [List.map_toArray, List.map_cons, List.map_nil]); first | done | rfl | (simp only [List.length_drop, List.length_take]; rfl)) ?_
            with_reducible refine (spec_l13Shift.calls k _ _ l0 0 t882 0 t901 _ ?side1 ?side2 A46.out).mono ?_
            (case side1 => exact cx_ HR0 HB)
            (case side2 => exact HC0.out)
            rintro e w63 ⟨v902, rfl, ho0, hb⟩
            refine ⟨_, rfl, ?_⟩
            have n0_ := Aside0.mk (Kd.R_elder' (rx_ HO880.out) (Kd.R_base ho0) hb)
            have n1_ := Aside0.mk (Kd.R_lower (Kd.R_new' ho0 (Kd.R_lt (rx_ HO880.out))) (bs_ HB))
            have n2_ := tK_ BK872 hb
            have n3_ := tB_ HB hb
            clear HO880
            clear BK872
            clear HB
            have HO880 := n0_
            have HO903 := n1_
            have BK872 := n2_
            have HB := n3_
            clear n0_ n1_ n2_ n3_
            (try clear hb)
            (try clear hb2)
            (try clear hk)
            (try clear hi)
            (try clear ho0)
            refine hK.out _ _ ⟨(blk_cell BK872.out 0).trans rfl, (blk_cell BK872.out 1).trans rfl, (blk_cell BK872.out 2).trans rfl, (blk_cell BK872.out 3).trans rfl, (blk_cell BK872.out 4).trans rfl, (ce_ HB hw904_0), (ce_ HB hw904_1)⟩ (fun hHeld => ?_)
            clear hK K
            refine norm_ (a' := ?_) ?_ ?_
            rotate_left
            ·show Act.put _ (some 70) _ = _
             simp only [Act.put, List.setIfInBounds_toArray, List.set_cons_zero, List.set_cons_succ, i64_w, i32_w]
             rfl
            refine one_ (i := 12) (N := some 80) (ba_ 15 8191) rfl rfl (one_of HT_.out (by kernel_rfl)) (by decide) (fun K hK => ?_)
            refine Kd.R_lit_step k90 _ 90 ?hg (N := 80) ?hd (xs := ([(⟨a1_2, wrap64 (((rd_T90 l0 t877).f1) + 1)⟩ : S90)] : List (S90))) (inner := [.int .i64 a1_2, .int .i64 (wrap64 (((rd_T90 l0 t877).f1) + 1))]) (ok := fun _ => True) (okp := fun _ => True) ?hr ?hp (fun _ hk => hk) trivial (Below.refl _ _) (Nat.le_refl _) (by simp) ?_; (case hd => rfl); (case hg => rfl); (case hr => first | (go_simp; done) | (go_simp; rfl)); (case hp => exact (Reps.c2 (show Kd.M k90 _ _ _ (⟨a1_2, wrap64 (((rd_T90 l0 t877).f1) + 1)⟩ : S90) [.int .i64 a1_2, .int .i64 (wrap64 (((rd_T90 l0 t877).f1) + 1))] from (k90_mkM _ _ _ (⟨a1_2, wrap64 (((rd_T90 l0 t877).f1) + 1)⟩ : S90) )) (Reps.none _ _)))
            intro v906 w64 ho65 hb hg_ hnew_
            clear hg_ hnew_
            (first | rw [← Ny905.out] at ho65 | (simp only [Int.reduceToNat] at ho65; rw [← Ny905.out] at ho65))
            have n0_ := Aside0.mk (Kd.R_elder' (rx_ HO880.out) (Kd.R_base ho65) hb)
            have n1_ := Aside0.mk (Kd.R_elder' (rx_ HO903.out) (Kd.R_base ho65) hb)
            have n2_ := Aside0.mk (Kd.R_lower (Kd.R_new' (Kd.R_new' ho65 (Kd.R_lt (rx_ HO880.out))) (Kd.R_lt (rx_ HO903.out))) (bs_ HB))
            have n3_ := tK_ BK872 hb
            have n4_ := tB_ HB hb
            clear HO880
            clear HO903
            clear BK872
            clear HB
            have HO880 := n0_
            have HO903 := n1_
            have HO907 := n2_
            have BK872 := n3_
            have HB := n4_
            clear n0_ n1_ n2_ n3_ n4_
            clear hb ho65
            refine hK.out _ _ ⟨(blk_cell BK872.out 0).trans rfl, (blk_cell BK872.out 1).trans rfl, (blk_cell BK872.out 2).trans rfl, (blk_cell BK872.out 3).trans rfl, (blk_cell BK872.out 4).trans rfl, (ce_ HB hw904_0), (ce_ HB hw904_1)⟩ (fun hHeld => ?_)
            clear hK K
            refine norm_ (a' := ?_) ?_ ?_
            rotate_left
            ·show Act.put _ (some 80) _ = _
             simp only [Act.put, List.setIfInBounds_toArray, List.set_cons_zero, List.set_cons_succ, i64_w, i32_w]
             rfl
            exact norm_ (by simp only [putAll, Act.put, List.setIfInBounds_toArray, List.set_cons_zero, List.set_cons_succ]) (hCont (v902, v906) _ ⟨hHeld, (rx_ (Kd.R_mono HO880.out (fun _ hk => ⟨hk.1.2, hk.2⟩))), (rx_ (Kd.R_mono HO903.out (fun _ hk => ⟨hk.1.2, hk.2⟩))), (rx_ (Kd.R_mono HO907.out (fun _ hk => ⟨hk.1.2, hk.2⟩))), (kx_ BK872.out), ((bl_ HB).out)⟩)
           ·skip
            refine Kd.R_lit_step k90 _ 90 ?hg (N := 80) ?hd (xs := ([(⟨a1_2, wrap64 (((rd_T90 l0 t877).f1) + 1)⟩ : S90)] : List (S90))) (inner := [.int .i64 a1_2, .int .i64 (wrap64 (((rd_T90 l0 t877).f1) + 1))]) (ok := fun _ => True) (okp := fun _ => True) ?hr ?hp (fun _ hk => hk) trivial (Below.refl _ _) (Nat.le_refl _) (by simp) ?_; (case hd => rfl); (case hg => rfl); (case hr => first | (go_simp; done) | (go_simp; rfl)); (case hp => exact (Reps.c2 (show Kd.M k90 _ _ _ (⟨a1_2, wrap64 (((rd_T90 l0 t877).f1) + 1)⟩ : S90) [.int .i64 a1_2, .int .i64 (wrap64 (((rd_T90 l0 t877).f1) + 1))] from (k90_mkM _ _ _ (⟨a1_2, wrap64 (((rd_T90 l0 t877).f1) + 1)⟩ : S90) )) (Reps.none _ _)))
            intro v906 w63 ho64 hb hg_ hnew_
            clear hg_ hnew_
            (first | rw [← Ny905.out] at ho64 | (simp only [Int.reduceToNat] at ho64; rw [← Ny905.out] at ho64))
            have n0_ := Aside0.mk (Kd.R_elder' (rx_ HO880.out) (Kd.R_base ho64) hb)
            have n1_ := Aside0.mk (Kd.R_lower (Kd.R_new' ho64 (Kd.R_lt (rx_ HO880.out))) (bs_ HB))
            have n2_ := tK_ BK872 hb
            have n3_ := tB_ HB hb
            clear HO880
            clear BK872
            clear HB
            have HO880 := n0_
            have HO907 := n1_
            have BK872 := n2_
            have HB := n3_
            clear n0_ n1_ n2_ n3_
            clear hb ho64
            refine hK.out _ _ ⟨(blk_cell BK872.out 0).trans rfl, (blk_cell BK872.out 1).trans rfl, (blk_cell BK872.out 2).trans rfl, (blk_cell BK872.out 3).trans rfl, (blk_cell BK872.out 4).trans rfl, (ce_ HB hw904_0), (ce_ HB hw904_1)⟩ (fun hHeld => ?_)
            clear hK K
            refine norm_ (a' := ?_) ?_ ?_
            rotate_left
            ·show Act.put _ (some 80) _ = _
             simp only [Act.put, List.setIfInBounds_toArray, List.set_cons_zero, List.set_cons_succ, i64_w, i32_w]
             rfl
            refine one_ (i := 2) (N := some 70) (ba_ 15 8191) rfl rfl (one_of HT_.out (by kernel_rfl)) (by decide) (fun K hK => ?_)
            refine goes_ Try.func101 (by kernel_rfl) rfl #[.slice (some ad904) l0.length c0, .int .i64 0, .int .i64 t882, .int .i64 0] (by rfl) rfl rfl (by (try simp only [List.map_toArray, List.map_cons, List.map_nil]); first | done | rfl | (simp only [List.length_drop, List.length_take]; rfl)) ?_
            with_reducible refine (spec_l13Shift.calls k _ _ l0 0 t882 0 t901 _ ?side1 ?side2 A46.out).mono ?_
            (case side1 => exact cx_ HR0 HB)
            (case side2 => exact HC0.out)
            rintro e w65 ⟨v902, rfl, ho0, hb⟩
            refine ⟨_, rfl, ?_⟩
            have n0_ := Aside0.mk (Kd.R_elder' (rx_ HO880.out) (Kd.R_base ho0) hb)
            have n1_ := Aside0.mk (Kd.R_elder' (rx_ HO907.out) (Kd.R_base ho0) hb)
            have n2_ := Aside0.mk (Kd.R_lower (Kd.R_new' (Kd.R_new' ho0 (Kd.R_lt (rx_ HO880.out))) (Kd.R_lt (rx_ HO907.out))) (bs_ HB))
            have n3_ := tK_ BK872 hb
            have n4_ := tB_ HB hb
            clear HO880
            clear HO907
            clear BK872
            clear HB
            have HO880 := n0_
            have HO907 := n1_
            have HO903 := n2_
            have BK872 := n3_
            have HB := n4_
            clear n0_ n1_ n2_ n3_ n4_
            (try clear hb)
            (try clear hb2)
            (try clear hk)
            (try clear hi)
            (try clear ho0)
            refine hK.out _ _ ⟨(blk_cell BK872.out 0).trans rfl, (blk_cell BK872.out 1).trans rfl, (blk_cell BK872.out 2).trans rfl, (blk_cell BK872.out 3).trans rfl, (blk_cell BK872.out 4).trans rfl, (ce_ HB hw904_0), (ce_ HB hw904_1)⟩ (fun hHeld => ?_)
            clear hK K
            refine norm_ (a' := ?_) ?_ ?_
            rotate_left
            ·show Act.put _ (some 70) _ = _
             simp only [Act.put, List.setIfInBounds_toArray, List.set_cons_zero, List.set_cons_succ, i64_w, i32_w]
             rfl
            exact norm_ (by simp only [putAll, Act.put, List.setIfInBounds_toArray, List.set_cons_zero, List.set_cons_succ]) (hCont (v902, v906) _ ⟨hHeld, (rx_ (Kd.R_mono HO880.out (fun _ hk => ⟨hk.2, hk.1.2⟩))), (rx_ (Kd.R_mono HO903.out (fun _ hk => ⟨hk.1.2, hk.2⟩))), (rx_ (Kd.R_mono HO907.out (fun _ hk => ⟨hk.1.2, hk.2⟩))), (kx_ BK872.out), ((bl_ HB).out)⟩)
          rintro ⟨v902, v906⟩ w66 ⟨hS_, h0_, h1_, h2_, h3_, h4_⟩
          have n0_ : Aside0 (Kd.R k90 90 w66 w.heap.size (fun k_ => some k_ ≠ (v902 : Value).ownBlock ∧ some k_ ≠ (v906 : Value).ownBlock) v879 t878) := ⟨h0_⟩
          have n1_ : Aside0 (Kd.R k90 90 w66 w.heap.size (fun k_ => some k_ ≠ (v879 : Value).ownBlock ∧ some k_ ≠ (v906 : Value).ownBlock) v902 t901) := ⟨h1_⟩
          have n2_ : Aside0 (Kd.R k90 90 w66 w.heap.size (fun k_ => some k_ ≠ (v879 : Value).ownBlock ∧ some k_ ≠ (v902 : Value).ownBlock) v906 y905) := ⟨h2_⟩
          have n3_ : Aside0 (w66.heap[gb872]? = some (.cells #[.int .i64 a1_0, .slice A1_1 l1_1.length c1_1, .int .i64 a1_2, .int .i64 a1_3, .int .i64 a1_4] 67 (0, 0))) := ⟨h3_⟩
          have n4_ : Aside0 (Below w.heap.size w w66) := ⟨h4_⟩
          clear HO880
          clear BK872
          clear HB
          clear h0_ h1_ h2_ h3_ h4_
          have HO880 := n0_
          have HO903 := n1_
          have HO907 := n2_
          have BK872 := n3_
          have HB := n4_
          clear n0_ n1_ n2_ n3_ n4_
          have hHeld : w66.cell? ⟨gb872, 0, none⟩ = some (.int .i64 a1_0) ∧ w66.cell? ⟨gb872, 1, none⟩ = some (.slice A1_1 l1_1.length c1_1) ∧ w66.cell? ⟨gb872, 2, none⟩ = some (.int .i64 a1_2) ∧ w66.cell? ⟨gb872, 3, none⟩ = some (.int .i64 a1_3) ∧ w66.cell? ⟨gb872, 4, none⟩ = some (.int .i64 a1_4) ∧ w66.cell? (ad904.add ((t877).toNat * 2)) = some (.int .i64 ((rd_T90 l0 t877).f0)) ∧ w66.cell? ⟨(ad904.add ((t877).toNat * 2)).block, (ad904.add ((t877).toNat * 2)).off + 1, none⟩ = some (.int .i64 ((rd_T90 l0 t877).f1)) := hS_
          obtain ⟨Ao68, co68, eo68⟩ := Kd.R_slice HO907.out
          (first | subst eo68 | (injection eo68 with f1_ f2_ f3_; have f4_ := f1_.symm; have f5_ := f3_.symm; clear f1_ f2_ f3_; subst f4_; subst f5_))
          refine norm_ (a' := ?_) ?_ ?_
          rotate_left
          ·simp only [putAll, Act.put, List.setIfInBounds_toArray, List.set_cons_zero, List.set_cons_succ]
           rfl
          refine one_ (i := 13) (N := some 81) (ba_ 15 16383) rfl rfl (one_of HT_.out (by kernel_rfl)) (by decide) (fun K hK => ?_)
          refine Kd.R_append_rows_step k90 (w0 := w) w.heap.size (by rfl) (.tmp 70) (.tmp 80) 34 90 (.agg #[(.int .i64 0), (.int .i64 0)]) 16 rfl Try.underlying34 info90 rfl (by decide) (by omega) v902 t901 y905 _ _ _ (fun k_ => some k_ ≠ (v879 : Value).ownBlock ∧ some k_ ≠ (.slice Ao68 y905.length co68 : Value).ownBlock) (fun _ => False) rfl rfl ?aO ?aR (fun _ _ h => h) (fun _ h => h.elim) ?aF ?aB ?aS ?aL ?_
          (case aR => exact cc_ (Kd.R_reads' HO907.out).2.2)
          (case aB => exact ((bl_ HB).out))
          (case aF => exact (fun k_ hk => ⟨Kd.fresh' (Kd.R_lt (rx_ HO880.out)) k_ hk, Kd.fresh' (Kd.R_lt (rx_ HO907.out)) k_ hk⟩))
          (case aO => exact (rx_ HO903.out))
          (case aS => exact (bs_ HB))
          (case aL => have := LMc49.out; omega)
          intro v909 w67 ho hb hg hat
          rw [← Ny908.out] at ho
          have n0_ := Aside0.mk (blk_grown (g := gb872) (o := .cells #[.int .i64 a1_0, .slice A1_1 l1_1.length c1_1, .int .i64 a1_2, .int .i64 a1_3, .int .i64 a1_4] 67 (0, 0)) (kx_ BK872.out) hg (Kd.R_ne HO903.out BK872.out (by decide)))
          have n1_ := Aside0.mk (Kd.R_after (ok := (fun k_ => some k_ ≠ (.slice Ao68 y905.length co68 : Value).ownBlock)) (rx_ (Kd.R_mono HO880.out (fun _ hk => ⟨hk.2, hk.1⟩))) hg hat)
          have n2_ := Aside0.mk (Kd.R_after (ok := (fun k_ => some k_ ≠ (v879 : Value).ownBlock)) (rx_ HO907.out) hg hat)
          have n3_ := Aside0.mk (hb)
          have n4_ := Aside0.mk (ho)
          clear BK872
          clear HO880
          clear HO907
          clear HB
          clear HO903
          have BK872 := n0_
          have HO880 := n1_
          have HO907 := n2_
          have HB := n3_
          have HO910 := n4_
          clear n0_ n1_ n2_ n3_ n4_
          clear ho hb hg hat
          refine hK.out _ _ ⟨(blk_cell BK872.out 0).trans rfl, (blk_cell BK872.out 1).trans rfl, (blk_cell BK872.out 2).trans rfl, (blk_cell BK872.out 3).trans rfl, (blk_cell BK872.out 4).trans rfl, (ce_ HB hw904_0), (ce_ HB hw904_1)⟩ (fun hHeld => ?_)
          clear hK K
          refine norm_ (a' := ?_) ?_ ?_
          rotate_left
          ·show Act.put _ (some 81) _ = _
           simp only [Act.put, List.setIfInBounds_toArray, List.set_cons_zero, List.set_cons_succ, i64_w, i32_w]
           rfl
          refine pu_ 14 (some 7) (ba_ 15 32767) rfl rfl (any_of HT_.out (by kernel_rfl)) ?_
          refine done_ (done_of HT_.out (by kernel_rfl)) ?_
          try go_wp2_with (first | ((with_reducible refine gate_callee (f := 101) rfl ?_); refine gL_ (some 86) Try.func101 #[.slice (some ad904) l0.length c0, .int .i64 t882, .int .i64 t883, .int .i64 1] ?_; (with_reducible refine (spec_l13Shift.calls k _ _ l0 t882 t883 1 t911 _ (cx_ HR0 HB) HC0.out A50.out).mono ?_); rintro e w69 ⟨v912, rfl, ho0, hb⟩; refine ⟨_, rfl, ?_⟩; have HO913 := Aside0.mk (Kd.R_lower (Kd.R_new' (Kd.R_new' (Kd.R_new' ho0 (Kd.R_lt (rx_ HO880.out))) (Kd.R_lt (rx_ HO907.out))) (Kd.R_lt (rx_ HO910.out))) (bs_ HB)); replace HO880 := Aside0.mk (Kd.R_elder' (rx_ HO880.out) (Kd.R_base ho0) hb); replace HO907 := Aside0.mk (Kd.R_elder' (rx_ HO907.out) (Kd.R_base ho0) hb); replace HO910 := Aside0.mk (Kd.R_elder' (rx_ HO910.out) (Kd.R_base ho0) hb); replace BK872 := tK_ BK872 hb; replace HB := tB_ HB hb; (try clear hb); (try clear ho0); obtain ⟨Ao71, co71, eo71⟩ := Kd.R_slice HO913.out; subst eo71) | ((with_reducible refine gate_builtin (b := .append) (xs := #[.tmp 82, .tmp 86]) rfl ?_); at_builtin; refine Kd.R_append_rows k90 (w0 := w) w.heap.size rfl (.tmp 82) (.tmp 86) 34 90 (.agg #[(.int .i64 0), (.int .i64 0)]) 16 rfl Try.underlying34 info90 rfl (by decide) (by omega) v909 y908 t911 _ _ _ (fun k_ => some k_ ≠ (v879 : Value).ownBlock ∧ some k_ ≠ (.slice Ao68 y905.length co68 : Value).ownBlock ∧ some k_ ≠ (.slice Ao71 t911.length co71 : Value).ownBlock) (fun _ => False) rfl rfl ?aO ?aR (fun _ _ h => h) (fun _ h => h.elim) ?aF ?aB ?aS ?aL ?_; (case aR => exact cc_ (Kd.R_reads' HO913.out).2.2); (case aB => exact ((bl_ HB).out)); (case aF => exact (fun k_ hk => ⟨Kd.fresh' (Kd.R_lt (rx_ HO880.out)) k_ hk, Kd.fresh' (Kd.R_lt (rx_ HO907.out)) k_ hk, Kd.fresh' (Kd.R_lt (rx_ HO913.out)) k_ hk⟩)); (case aO => exact (rx_ (Kd.R_mono HO910.out (fun _ hk => ⟨hk.1.1, ⟨hk.1.2, hk.2⟩⟩)))); (case aS => exact (bs_ HB)); (case aL => have := LMc51.out; omega); intro v915 w70 ho hb hg hat; rw [← Ny914.out] at ho; replace BK872 := Aside0.mk (blk_grown (g := gb872) (o := .cells #[.int .i64 a1_0, .slice A1_1 l1_1.length c1_1, .int .i64 a1_2, .int .i64 a1_3, .int .i64 a1_4] 67 (0, 0)) (kx_ BK872.out) hg (Kd.R_ne HO910.out BK872.out (by decide))); replace HO880 := Aside0.mk (Kd.R_after (ok := (fun k_ => some k_ ≠ (.slice Ao68 y905.length co68 : Value).ownBlock ∧ some k_ ≠ (.slice Ao71 t911.length co71 : Value).ownBlock)) (rx_ (Kd.R_mono HO880.out (fun _ hk => ⟨⟨hk.1.1, hk.2⟩, hk.1.2⟩))) hg hat); replace HO907 := Aside0.mk (Kd.R_after (ok := (fun k_ => some k_ ≠ (v879 : Value).ownBlock ∧ some k_ ≠ (.slice Ao71 t911.length co71 : Value).ownBlock)) (rx_ (Kd.R_mono HO907.out (fun _ hk => ⟨⟨hk.1.1, hk.2⟩, hk.1.2⟩))) hg hat); replace HO913 := Aside0.mk (Kd.R_after (ok := (fun k_ => some k_ ≠ (v879 : Value).ownBlock ∧ some k_ ≠ (.slice Ao68 y905.length co68 : Value).ownBlock)) (rx_ (Kd.R_mono HO913.out (fun _ hk => ⟨⟨hk.1.1.2, hk.1.2⟩, hk.2⟩))) hg hat); replace HB := Aside0.mk (hb); have HO916 := Aside0.mk (ho); clear HO910; clear ho hb hg hat) | ((with_reducible refine gate_callee (f := 101) rfl ?_); refine gL_ (some 93) Try.func101 #[.slice (some ad904) l0.length c0, .int .i64 t883, .int .i64 (l0.length : Int), .int .i64 0] ?_; (with_reducible refine (spec_l13Shift.calls k _ _ l0 t883 (l0.length : Int) 0 t917 _ (cx_ HR0 HB) HC0.out A52.out).mono ?_); rintro e w72 ⟨v918, rfl, ho0, hb⟩; refine ⟨_, rfl, ?_⟩; have HO919 := Aside0.mk (Kd.R_lower (Kd.R_new' (Kd.R_new' (Kd.R_new' (Kd.R_new' ho0 (Kd.R_lt (rx_ HO880.out))) (Kd.R_lt (rx_ HO907.out))) (Kd.R_lt (rx_ HO913.out))) (Kd.R_lt (rx_ HO916.out))) (bs_ HB)); replace HO880 := Aside0.mk (Kd.R_elder' (rx_ HO880.out) (Kd.R_base ho0) hb); replace HO907 := Aside0.mk (Kd.R_elder' (rx_ HO907.out) (Kd.R_base ho0) hb); replace HO913 := Aside0.mk (Kd.R_elder' (rx_ HO913.out) (Kd.R_base ho0) hb); replace HO916 := Aside0.mk (Kd.R_elder' (rx_ HO916.out) (Kd.R_base ho0) hb); replace BK872 := tK_ BK872 hb; replace HB := tB_ HB hb; (try clear hb); (try clear ho0); obtain ⟨Ao74, co74, eo74⟩ := Kd.R_slice HO919.out; subst eo74) | ((with_reducible refine gate_builtin (b := .append) (xs := #[.tmp 88, .tmp 93]) rfl ?_); at_builtin; refine Kd.R_append_rows k90 (w0 := w) w.heap.size rfl (.tmp 88) (.tmp 93) 34 90 (.agg #[(.int .i64 0), (.int .i64 0)]) 16 rfl Try.underlying34 info90 rfl (by decide) (by omega) v915 y914 t917 _ _ _ (fun k_ => some k_ ≠ (v879 : Value).ownBlock ∧ some k_ ≠ (.slice Ao68 y905.length co68 : Value).ownBlock ∧ some k_ ≠ (.slice Ao71 t911.length co71 : Value).ownBlock ∧ some k_ ≠ (.slice Ao74 t917.length co74 : Value).ownBlock) (fun _ => False) rfl rfl ?aO ?aR (fun _ _ h => h) (fun _ h => h.elim) ?aF ?aB ?aS ?aL ?_; (case aR => exact cc_ (Kd.R_reads' HO919.out).2.2); (case aB => exact ((bl_ HB).out)); (case aF => exact (fun k_ hk => ⟨Kd.fresh' (Kd.R_lt (rx_ HO880.out)) k_ hk, Kd.fresh' (Kd.R_lt (rx_ HO907.out)) k_ hk, Kd.fresh' (Kd.R_lt (rx_ HO913.out)) k_ hk, Kd.fresh' (Kd.R_lt (rx_ HO919.out)) k_ hk⟩)); (case aO => exact (rx_ (Kd.R_mono HO916.out (fun _ hk => ⟨hk.1.1, ⟨hk.1.2.1, ⟨hk.1.2.2, hk.2⟩⟩⟩)))); (case aS => exact (bs_ HB)); (case aL => have := LMc53.out; omega); intro v921 w73 ho hb hg hat; rw [← Ny920.out] at ho; replace BK872 := Aside0.mk (blk_grown (g := gb872) (o := .cells #[.int .i64 a1_0, .slice A1_1 l1_1.length c1_1, .int .i64 a1_2, .int .i64 a1_3, .int .i64 a1_4] 67 (0, 0)) (kx_ BK872.out) hg (Kd.R_ne HO916.out BK872.out (by decide))); replace HO880 := Aside0.mk (Kd.R_after (ok := (fun k_ => some k_ ≠ (.slice Ao68 y905.length co68 : Value).ownBlock ∧ some k_ ≠ (.slice Ao71 t911.length co71 : Value).ownBlock ∧ some k_ ≠ (.slice Ao74 t917.length co74 : Value).ownBlock)) (rx_ (Kd.R_mono HO880.out (fun _ hk => ⟨⟨hk.1.1.1, ⟨hk.1.1.2, hk.2⟩⟩, hk.1.2⟩))) hg hat); replace HO907 := Aside0.mk (Kd.R_after (ok := (fun k_ => some k_ ≠ (v879 : Value).ownBlock ∧ some k_ ≠ (.slice Ao71 t911.length co71 : Value).ownBlock ∧ some k_ ≠ (.slice Ao74 t917.length co74 : Value).ownBlock)) (rx_ (Kd.R_mono HO907.out (fun _ hk => ⟨⟨hk.1.1.1, ⟨hk.1.1.2, hk.2⟩⟩, hk.1.2⟩))) hg hat); replace HO913 := Aside0.mk (Kd.R_after (ok := (fun k_ => some k_ ≠ (v879 : Value).ownBlock ∧ some k_ ≠ (.slice Ao68 y905.length co68 : Value).ownBlock ∧ some k_ ≠ (.slice Ao74 t917.length co74 : Value).ownBlock)) (rx_ (Kd.R_mono HO913.out (fun _ hk => ⟨⟨hk.1.1.1, ⟨hk.1.1.2, hk.2⟩⟩, hk.1.2⟩))) hg hat); replace HO919 := Aside0.mk (Kd.R_after (ok := (fun k_ => some k_ ≠ (v879 : Value).ownBlock ∧ some k_ ≠ (.slice Ao68 y905.length co68 : Value).ownBlock ∧ some k_ ≠ (.slice Ao71 t911.length co71 : Value).ownBlock)) (rx_ (Kd.R_mono HO919.out (fun _ hk => ⟨⟨hk.1.1.1.2, ⟨hk.1.1.2, hk.1.2⟩⟩, hk.2⟩))) hg hat); replace HB := Aside0.mk (hb); have HO922 := Aside0.mk (ho); clear HO916; clear ho hb hg hat))
          go_ret2
          exact ⟨_, ea_, rx_ (Kd.R_mono HO922.out (fun _ hk => trivial)), (bl_ HB).out⟩
         ·rw [if_neg c53] at H
          exact absurd H (by simp)
        ·rw [if_neg c51] at H
         exact absurd H (by simp)
       ·rw [if_neg c49] at H
        exact absurd H (by simp)
      ·rw [if_neg c48] at H
       exact absurd H (by simp)
     ·rw [if_neg c47] at H
      exact absurd H (by simp)
  ·rw [if_neg c8] at H
   have c8b0 : (t881 == 0) = false := beq_eq_false_iff_ne.mpr c8
   have c8b1 : (t881 != 0) = true := bne_iff_ne.mpr c8
   simp only [Option.some.injEq, Prod.mk.injEq] at H
   obtain ⟨rfl, rfl⟩ := H
   go_enter Try.func44, Try.ntmps44
   go_wp2_with (first | ((with_reducible refine gate_dst (N := 3) rfl ?_); refine bx_ 3 #[.int .i64 a1_0, .slice A1_1 l1_1.length c1_1, .int .i64 a1_2, .int .i64 a1_3, .int .i64 a1_4] 67 ?_; intro gb872 hg w75 hbox hb; have BK872 := Aside0.mk (hbox); have GW872 := Aside0.mk ((by rw [hg]; exact (bs_ HB) : w.heap.size ≤ gb872)); have GE872 := Aside0.mk ((by rw [hg]; exact (bs_ HB) : w.heap.size ≤ gb872)); replace HB := tB_ HB hb; clear hb hbox hg) | ((with_reducible refine gate_callee (f := 64) rfl ?_); refine gL_ (some 13) Try.func64 #[.slice A0 l0.length c0] ?_; (with_reducible refine (spec_TreeOk.calls k _ _ l0 true _ (cx_ HR0 HB) HC0.out A3.out).mono ?_); rintro e w76 ⟨rfl, hb⟩; refine ⟨_, rfl, ?_⟩; replace BK872 := tK_ BK872 hb; replace HB := tB_ HB hb; (try clear hb); obtain ⟨hcz77_0, hcz77_1, hcz77_2, hcz77_3, hcz77_4, hfz77_0, hfz77_1, hfz77_2, hfz77_3, hfz77_4⟩ := bk5_ BK872) | ((with_reducible refine gate_callee (f := 60) rfl ?_); refine gL_ (some 19) Try.func60 #[.slice A0 l0.length c0, .slice A1_1 l1_1.length c1_1] ?_; (with_reducible refine (spec_NodeAt.calls k _ _ l0 _ _ l1_1 t877 _ (cx_ HR0 HB) HC0.out (cx_ HR1_1 HB) HC1_1.out A5.out).mono ?_); rintro e w78 ⟨rfl, hb⟩; refine ⟨_, rfl, ?_⟩; replace BK872 := tK_ BK872 hb; replace HB := tB_ HB hb; (try clear hb)) | ((with_reducible refine gate_callee (f := 98) rfl ?_); refine gL_ (some 21) Try.func98 #[.slice A0 l0.length c0] ?_; (with_reducible refine (spec_l3Copy.calls _ _ l0 t878 _ (cx_ HR0 HB) HC0.out A6.out).mono ?_); rintro e w79 ⟨v879, rfl, ho0, hb⟩; refine ⟨_, rfl, ?_⟩; have HO880 := Aside0.mk (Kd.R_lower ho0 (bs_ HB)); replace BK872 := tK_ BK872 hb; replace HB := tB_ HB hb; (try clear hb); (try clear ho0); obtain ⟨hcz80_0, hcz80_1, hcz80_2, hcz80_3, hcz80_4, hfz80_0, hfz80_1, hfz80_2, hfz80_3, hfz80_4⟩ := bk5_ BK872) | ((with_reducible refine gate_callee (f := 99) rfl ?_); refine gL_ (some 26) Try.func99 #[.slice A0 l0.length c0, .agg #[.int .i64 a1_0, .slice A1_1 l1_1.length c1_1, .int .i64 a1_2, .int .i64 a1_3, .int .i64 a1_4], .int .i64 t877] ?_; (with_reducible refine (spec_l13Code.calls k _ _ l0 a1_0 _ _ l1_1 a1_2 a1_3 a1_4 t877 t881 t882 t883 _ (cx_ HR0 HB) HC0.out (cx_ HR1_1 HB) HC1_1.out A7.out).mono ?_); rintro e w81 ⟨rfl, hb⟩; refine ⟨_, rfl, ?_⟩; replace HO880 := tR_ HO880 hb; replace BK872 := tK_ BK872 hb; replace HB := tB_ HB hb; (try clear hb)))
   go_ret2
   exact ⟨_, ea_, rx_ HO880.out, (bl_ HB).out⟩
 ·replace c4 := Bool.eq_false_iff.mpr c4
  subst c4
  have H1 : (some ((([] : List (S90))), 2)) = some (r1, r2) := by rw [if_neg (show ¬ (false = true) by decide)] at H; exact H
  clear H
  have H := H1
  clear H1
  obtain ⟨y874, hy874⟩ : ∃ y_ : List (S90), y_ = (([] : List (S90))) := ⟨_, rfl⟩
  replace H : (some (y874, 2)) = some (r1, r2) := by first | (rw [hy874]; with_reducible exact H) | (have H2_ := (Option.bind_some _ _).symm.trans H; rw [hy874]; with_reducible exact H2_) | (have H2_ := (Option.bind_some _ _).symm.trans H; with_reducible exact H2_) | with_reducible exact H | (rw [hy874]; exact H) | exact H
  have Ny874 := Aside0.mk hy874
  clear hy874
  simp only [Option.some.injEq, Prod.mk.injEq] at H
  obtain ⟨rfl, rfl⟩ := H
  go_enter Try.func44, Try.ntmps44
  go_wp2_with (first | ((with_reducible refine gate_dst (N := 3) rfl ?_); refine bx_ 3 #[.int .i64 a1_0, .slice A1_1 l1_1.length c1_1, .int .i64 a1_2, .int .i64 a1_3, .int .i64 a1_4] 67 ?_; intro gb872 hg w82 hbox hb; have BK872 := Aside0.mk (hbox); have GW872 := Aside0.mk ((by rw [hg]; exact (bs_ HB) : w.heap.size ≤ gb872)); have GE872 := Aside0.mk ((by rw [hg]; exact (bs_ HB) : w.heap.size ≤ gb872)); replace HB := tB_ HB hb; clear hb hbox hg) | ((with_reducible refine gate_callee (f := 64) rfl ?_); refine gL_ (some 13) Try.func64 #[.slice A0 l0.length c0] ?_; (with_reducible refine (spec_TreeOk.calls k _ _ l0 false _ (cx_ HR0 HB) HC0.out A3.out).mono ?_); rintro e w83 ⟨rfl, hb⟩; refine ⟨_, rfl, ?_⟩; replace BK872 := tK_ BK872 hb; replace HB := tB_ HB hb; (try clear hb)) | ((with_reducible refine gate_dst (N := 15) rfl ?_); refine Kd.R_lit k90 _ 90 ?hg (N := 15) ?hd (xs := ([] : List (S90))) (inner := []) (ok := fun _ => True) (okp := fun _ => True) ?hr ?hp (fun _ hk => hk) trivial (Below.refl _ _) (Nat.le_refl _) (by simp) ?_; (case hd => rfl); (case hg => rfl); (case hr => first | (go_simp; done) | (go_simp; rfl)); (case hp => exact (Reps.none _ _)); intro v875 w84 ho85 hb hg_ hnew_; clear hg_ hnew_; (first | rw [← Ny874.out] at ho85 | (simp only [Int.reduceToNat] at ho85; rw [← Ny874.out] at ho85)); have HO876 := Aside0.mk (Kd.R_lower ho85 (bs_ HB)); replace BK872 := tK_ BK872 hb; replace HB := tB_ HB hb; clear hb ho85))
  go_ret2
  exact ⟨_, ea_, rx_ HO876.out, (bl_ HB).out⟩
end Go.Proofs.Ytbifdckfglejkaa.X
namespace Go.Proofs.Ytbifdckfglejkaa.X
open Go.RowKit Go.Proofs.YtbifdckfglejkaaW.PrintWords Go.Proofs.YtbifdckfglejkaaW.PrintLast Go.Proofs.YtbifdckfglejkaaW.PrintMore
attribute [local go_sem] max2_int min2_int max_two min_two max_three min_three max_four min_four   -- for this text's walks alone
set_option linter.unusedVariables false
set_option linter.unusedSimpArgs false
def spec_ApplyAll.l0 : Nat → List (S67) → List (S90) → Int → Option ((List (S90)) × Int × Int)
 | 0, _, _, _ => none
 | k + 1, x1, x7, x8 => if x8 < (x1.length : Int) then (if 0 ≤ x8 then ((spec_ApplyOp.f k x7 ((rd_T67 x1 x8).f0) ((rd_T67 x1 x8).f1) ((rd_T67 x1 x8).f2) ((rd_T67 x1 x8).f3) ((rd_T67 x1 x8).f4)).bind fun bt1051 => (if bt1051.2 = 0 then (spec_ApplyAll.l0 k x1 bt1051.1 (wrap64 (x8 + 1))) else (some (x7, x8, bt1051.2)))) else (none)) else (some (x7, (x1.length : Int), 0))
def spec_ApplyAll.f (k : Nat) (l0 : List (S90)) (l1 : List (S67)) : Option ((List (S90)) × Int × Int) := (spec_TreeOk.f k l0).bind fun t1043 => (if t1043 = true then ((spec_l3Copy.f l0).bind fun t1047 => (spec_ApplyAll.l0 k l1 t1047 0)) else (some ((([] : List (S90))), 0, 2)))
set_option maxHeartbeats 8000000 in
set_option maxRecDepth 100000 in
theorem spec_ApplyAll.calls (k : Nat) (A0 : Option Addr) (c0 : Nat) (l0 : List (S90)) (A1 : Option Addr) (c1 : Nat) (l1 : List (S67)) (r1 : List (S90)) (r2 : Int) (r3 : Int) (w : World) (hr0 : Kd.C k90 w A0 l0.length l0) (hc0 : l0.length ≤ c0) (hr1 : Kd.C k67 w A1 l1.length l1) (hc1 : l1.length ≤ c1) (h : spec_ApplyAll.f k l0 l1 = some (r1, r2, r3)) :
  Calls Try.prog 50 #[.slice A0 l0.length c0, .slice A1 l1.length c1] w fun e w' => ∃ v0_ : Value, e = .returned (.tuple #[v0_, .int .i64 r2, .int .i64 r3]) ∧ Kd.R k90 90 w' w.heap.size (fun _ => True) v0_ r1 ∧ Below w.heap.size w w' := by
 have hu67 := Try.underlying67
 have HR0 := Aside0.mk hr0
 have HC0 := Aside0.mk hc0
 clear hr0 hc0
 have HR1 := Aside0.mk hr1
 have HC1 := Aside0.mk hc1
 clear hr1 hc1
 have HB := Aside0.mk (Below.refl w.heap.size w)
 have H : ((spec_TreeOk.f k l0).bind fun t1043 => (if t1043 = true then ((spec_l3Copy.f l0).bind fun t1047 => (spec_ApplyAll.l0 k l1 t1047 0)) else (some ((([] : List (S90))), 0, 2)))) = some (r1, r2, r3) := h
 clear h
 replace H := Option.bind_eq_some_iff.mp H
 obtain ⟨t1043, A30, H⟩ := H
 try dsimp only at H
 have A3 := Aside0.mk A30
 clear A30
 by_cases c4 : t1043 = true
 ·subst c4
  have H1 : ((spec_l3Copy.f l0).bind fun t1047 => (spec_ApplyAll.l0 k l1 t1047 0)) = some (r1, r2, r3) := by rw [if_pos rfl] at H; exact H
  clear H
  have H := H1
  clear H1
  replace H := Option.bind_eq_some_iff.mp H
  obtain ⟨t1047, A50, H⟩ := H
  replace H : (spec_ApplyAll.l0 k l1 t1047 0) = some (r1, r2, r3) := H
  have A5 := Aside0.mk A50
  clear A50
  have H' := Aside0.mk H
  clear H
  go_enter Try.func50, Try.ntmps50
  go_wp2_with (first | ((with_reducible refine gate_callee (f := 64) rfl ?_); refine gL_ (some 12) Try.func64 #[.slice A0 l0.length c0] ?_; (with_reducible refine (spec_TreeOk.calls k _ _ l0 true _ (cc_ HR0.out) HC0.out A3.out).mono ?_); rintro e w6 ⟨rfl, hb⟩; refine ⟨_, rfl, ?_⟩; replace HB := tB_ HB hb; (try clear hb)) | ((with_reducible refine gate_callee (f := 98) rfl ?_); refine gL_ (some 16) Try.func98 #[.slice A0 l0.length c0] ?_; (with_reducible refine (spec_l3Copy.calls _ _ l0 t1047 _ (cx_ HR0 HB) HC0.out A5.out).mono ?_); rintro e w7 ⟨v1048, rfl, ho0, hb⟩; refine ⟨_, rfl, ?_⟩; have HO1049 := Aside0.mk (Kd.R_lower ho0 (bs_ HB)); replace HB := tB_ HB hb; (try clear hb); (try clear ho0)))
  go_loopg [7, 8] k (fun kq v7 v8 w' => ∃ (x7_1 : List (S90)) (x8_1 : Int), v8 = .int .i64 x8_1 ∧ Aside0 (spec_ApplyAll.l0 kq l1 x7_1 x8_1 = some (r1, r2, r3)) ∧ Aside0 (kq ≤ k) ∧ Aside0 (Kd.R k90 90 w' w.heap.size (fun _ => True) v7 x7_1) ∧ Aside0 (Below w.heap.size w w'))
  case atStart => exact ⟨(t1047), (0), eb_, H', ⟨Nat.le_refl _⟩, ⟨rx_ HO1049.out⟩, bl_ HB⟩
  case round =>
   clear H'
   try clear c1
   try clear p2
   try clear c4
   try clear c5
   try clear c6
   obtain ⟨x7_1, x8_1, rfl, HA, HK1, HO_7, HB⟩ := hrel
   cases gk with
   | zero => exact absurd HA.out (by simp [spec_ApplyAll.l0])
   | succ k1 =>
    have H := HA.out
    clear HA
    simp only [spec_ApplyAll.l0] at H
    by_cases c8 : x8_1 < (l1.length : Int)
    ·rw [if_pos c8] at H
     have c8b0 : decide (x8_1 < (l1.length : Int)) = true := decide_eq_true c8
     clear c8
     by_cases c9 : 0 ≤ x8_1
     ·rw [if_pos c9] at H
      have c9b0 : decide (0 ≤ x8_1) = true := decide_eq_true c9
      clear c9
      replace H := Option.bind_eq_some_iff.mp H
      obtain ⟨⟨t1051, t1054⟩, A100, H⟩ := H
      try dsimp only at H
      have A10 := Aside0.mk A100
      clear A100
      by_cases c11 : t1054 = 0
      ·rw [if_pos c11] at H
       have c11b0 : (t1054 == 0) = true := beq_iff_eq.mpr c11
       have c11b1 : (t1054 != 0) = false := bne_eq_false_iff_eq.mpr c11
       clear c11
       have H' := Aside0.mk H
       clear H
       have p1050 : 0 ≤ (x8_1 : Int) := od_
       have q1050 : x8_1 < (l1.length : Int) := od_
       obtain ⟨ad1050, A1050_1, c1050_1, e1050, hx1050_0, hx1050_1, hx1050_2, hx1050_3, hx1050_4, hl1050_1, hi1050_1⟩ := at_T67 HR1.out x8_1 p1050 q1050
       cases e1050
       replace hx1050_0 := ce_ HB hx1050_0
       replace hx1050_1 := ce_ HB hx1050_1
       replace hx1050_2 := ce_ HB hx1050_2
       replace hx1050_3 := ce_ HB hx1050_3
       replace hx1050_4 := ce_ HB hx1050_4
       have HR1050_1 := Aside0.mk hi1050_1
       have HC1050_1 := Aside0.mk hl1050_1
       clear hi1050_1 hl1050_1
       replace p1050 := eq_true p1050
       replace q1050 := eq_true q1050
       obtain ⟨Ao12, co12, eo12⟩ := Kd.R_slice HO_7.out
       subst eo12
       go_wp2_with (first | ((with_reducible refine gate_callee (f := 44) rfl ?_); refine gL_ (some 29) Try.func44 #[.slice Ao12 x7_1.length co12, .agg #[.int .i64 ((rd_T67 l1 x8_1).f0), .slice A1050_1 ((rd_T67 l1 x8_1).f1).length c1050_1, .int .i64 ((rd_T67 l1 x8_1).f2), .int .i64 ((rd_T67 l1 x8_1).f3), .int .i64 ((rd_T67 l1 x8_1).f4)]] ?_; (with_reducible refine (spec_ApplyOp.calls k1 _ _ x7_1 ((rd_T67 l1 x8_1).f0) _ _ ((rd_T67 l1 x8_1).f1) ((rd_T67 l1 x8_1).f2) ((rd_T67 l1 x8_1).f3) ((rd_T67 l1 x8_1).f4) t1051 t1054 _ (cc_ (Kd.R_reads' HO_7.out).2.2) ((Kd.R_reads' HO_7.out).2.1) (cx_ HR1050_1 HB) HC1050_1.out A10.out).mono ?_); rintro e w13 ⟨v1052, rfl, ho0, hb⟩; refine ⟨_, rfl, ?_⟩; have HO1053 := Aside0.mk (Kd.R_lower (Kd.R_new' ho0 (Kd.R_lt (rx_ HO_7.out))) (bs_ HB)); replace HO_7 := Aside0.mk (Kd.R_elder' (rx_ HO_7.out) (Kd.R_base ho0) hb); replace HB := tB_ HB hb; (try clear hb); (try clear ho0)))
       go_roundg k1
       case measure => have := HK1.out; omega
       case rel => exact ⟨(t1051), (wrap64 (x8_1 + 1)), eb_, H', ⟨by have := HK1.out; omega⟩, ⟨rx_ (Kd.R_mono HO1053.out (fun _ hk => trivial))⟩, bl_ HB⟩
      ·rw [if_neg c11] at H
       have c11b0 : (t1054 == 0) = false := beq_eq_false_iff_ne.mpr c11
       have c11b1 : (t1054 != 0) = true := bne_iff_ne.mpr c11
       simp only [Option.some.injEq, Prod.mk.injEq] at H
       obtain ⟨rfl, rfl, rfl⟩ := H
       have p1050 : 0 ≤ (x8_1 : Int) := od_
       have q1050 : x8_1 < (l1.length : Int) := od_
       obtain ⟨ad1050, A1050_1, c1050_1, e1050, hx1050_0, hx1050_1, hx1050_2, hx1050_3, hx1050_4, hl1050_1, hi1050_1⟩ := at_T67 HR1.out x8_1 p1050 q1050
       cases e1050
       replace hx1050_0 := ce_ HB hx1050_0
       replace hx1050_1 := ce_ HB hx1050_1
       replace hx1050_2 := ce_ HB hx1050_2
       replace hx1050_3 := ce_ HB hx1050_3
       replace hx1050_4 := ce_ HB hx1050_4
       have HR1050_1 := Aside0.mk hi1050_1
       have HC1050_1 := Aside0.mk hl1050_1
       clear hi1050_1 hl1050_1
       replace p1050 := eq_true p1050
       replace q1050 := eq_true q1050
       obtain ⟨Ao14, co14, eo14⟩ := Kd.R_slice HO_7.out
       subst eo14
       go_wp2_with (first | ((with_reducible refine gate_callee (f := 44) rfl ?_); refine gL_ (some 29) Try.func44 #[.slice Ao14 x7_1.length co14, .agg #[.int .i64 ((rd_T67 l1 x8_1).f0), .slice A1050_1 ((rd_T67 l1 x8_1).f1).length c1050_1, .int .i64 ((rd_T67 l1 x8_1).f2), .int .i64 ((rd_T67 l1 x8_1).f3), .int .i64 ((rd_T67 l1 x8_1).f4)]] ?_; (with_reducible refine (spec_ApplyOp.calls k1 _ _ x7_1 ((rd_T67 l1 x8_1).f0) _ _ ((rd_T67 l1 x8_1).f1) ((rd_T67 l1 x8_1).f2) ((rd_T67 l1 x8_1).f3) ((rd_T67 l1 x8_1).f4) t1051 t1054 _ (cc_ (Kd.R_reads' HO_7.out).2.2) ((Kd.R_reads' HO_7.out).2.1) (cx_ HR1050_1 HB) HC1050_1.out A10.out).mono ?_); rintro e w15 ⟨v1052, rfl, ho0, hb⟩; refine ⟨_, rfl, ?_⟩; have HO1053 := Aside0.mk (Kd.R_lower (Kd.R_new' ho0 (Kd.R_lt (rx_ HO_7.out))) (bs_ HB)); replace HO_7 := Aside0.mk (Kd.R_elder' (rx_ HO_7.out) (Kd.R_base ho0) hb); replace HB := tB_ HB hb; (try clear hb); (try clear ho0)))
       go_ret3
       exact ⟨_, ea_, rx_ (Kd.R_mono HO_7.out (fun _ hk => trivial)), (bl_ HB).out⟩
     ·rw [if_neg c9] at H
      exact absurd H (by simp)
    ·rw [if_neg c8] at H
     have c8b0 : decide (x8_1 < (l1.length : Int)) = false := decide_eq_false c8
     clear c8
     simp only [Option.some.injEq, Prod.mk.injEq] at H
     obtain ⟨rfl, rfl, rfl⟩ := H
     go_wp2
     go_ret3
     exact ⟨_, ea_, rx_ HO_7.out, (bl_ HB).out⟩
 ·replace c4 := Bool.eq_false_iff.mpr c4
  subst c4
  have H1 : (some ((([] : List (S90))), 0, 2)) = some (r1, r2, r3) := by rw [if_neg (show ¬ (false = true) by decide)] at H; exact H
  clear H
  have H := H1
  clear H1
  obtain ⟨y1044, hy1044⟩ : ∃ y_ : List (S90), y_ = (([] : List (S90))) := ⟨_, rfl⟩
  replace H : (some (y1044, 0, 2)) = some (r1, r2, r3) := by first | (rw [hy1044]; with_reducible exact H) | (have H2_ := (Option.bind_some _ _).symm.trans H; rw [hy1044]; with_reducible exact H2_) | (have H2_ := (Option.bind_some _ _).symm.trans H; with_reducible exact H2_) | with_reducible exact H | (rw [hy1044]; exact H) | exact H
  have Ny1044 := Aside0.mk hy1044
  clear hy1044
  simp only [Option.some.injEq, Prod.mk.injEq] at H
  obtain ⟨rfl, rfl, rfl⟩ := H
  go_enter Try.func50, Try.ntmps50
  go_wp2_with (first | ((with_reducible refine gate_callee (f := 64) rfl ?_); refine gL_ (some 12) Try.func64 #[.slice A0 l0.length c0] ?_; (with_reducible refine (spec_TreeOk.calls k _ _ l0 false _ (cc_ HR0.out) HC0.out A3.out).mono ?_); rintro e w16 ⟨rfl, hb⟩; refine ⟨_, rfl, ?_⟩; replace HB := tB_ HB hb; (try clear hb)) | ((with_reducible refine gate_dst (N := 14) rfl ?_); refine Kd.R_lit k90 _ 90 ?hg (N := 14) ?hd (xs := ([] : List (S90))) (inner := []) (ok := fun _ => True) (okp := fun _ => True) ?hr ?hp (fun _ hk => hk) trivial (Below.refl _ _) (Nat.le_refl _) (by simp) ?_; (case hd => rfl); (case hg => rfl); (case hr => first | (go_simp; done) | (go_simp; rfl)); (case hp => exact (Reps.none _ _)); intro v1045 w17 ho18 hb hg_ hnew_; clear hg_ hnew_; (first | rw [← Ny1044.out] at ho18 | (simp only [Int.reduceToNat] at ho18; rw [← Ny1044.out] at ho18)); have HO1046 := Aside0.mk (Kd.R_lower ho18 (bs_ HB)); replace HB := tB_ HB hb; clear hb ho18))
  go_ret3
  exact ⟨_, ea_, rx_ HO1046.out, (bl_ HB).out⟩
end Go.Proofs.Ytbifdckfglejkaa.X
namespace Go.Proofs.Ytbifdckfglejkaa.X
open Go.RowKit Go.Proofs.YtbifdckfglejkaaW.PrintWords Go.Proofs.YtbifdckfglejkaaW.PrintLast Go.Proofs.YtbifdckfglejkaaW.PrintMore
attribute [local go_sem] max2_int min2_int max_two min_two max_three min_three max_four min_four   -- for this text's walks alone
set_option linter.unusedVariables false
set_option linter.unusedSimpArgs false
def impl_within.f (a0 : Int) (a1 : Int) (a2 : Int) : Option (Bool) := if a1 ≤ a0 then (some (decide (a0 ≤ a2))) else (some false)
set_option maxHeartbeats 8000000 in
set_option maxRecDepth 100000 in
theorem impl_within.calls (a0 : Int) (a1 : Int) (a2 : Int) (r : Bool) (w : World) (h : impl_within.f a0 a1 a2 = some r) :
  Calls Try.prog 117 #[.int .i64 a0, .int .i64 a1, .int .i64 a2] w fun e w' => e = .returned (.bool r) ∧ Drawn0 w w' := by
 have H : (if a1 ≤ a0 then (some (decide (a0 ≤ a2))) else (some false)) = some r := h
 clear h
 by_cases c4 : a1 ≤ a0
 ·rw [if_pos c4] at H
  have c4b0 : decide (a1 ≤ a0) = true := decide_eq_true c4
  clear c4
  obtain rfl := Option.some.inj H
  go_enter Try.func117, Try.ntmps117
  go_wp2
  go_ret
  exact ⟨by first | rfl | (simp; done) | (simp [*]; done), by repeat (first | exact Drawn0.refl _ | apply Drawn0.step)⟩
 ·rw [if_neg c4] at H
  have c4b0 : decide (a1 ≤ a0) = false := decide_eq_false c4
  clear c4
  obtain rfl := Option.some.inj H
  go_enter Try.func117, Try.ntmps117
  go_wp2
  go_ret
  exact ⟨by first | rfl | (simp; done) | (simp [*]; done), by repeat (first | exact Drawn0.refl _ | apply Drawn0.step)⟩
end Go.Proofs.Ytbifdckfglejkaa.X
namespace Go.Proofs.Ytbifdckfglejkaa.X
open Go.RowKit Go.Proofs.YtbifdckfglejkaaW.PrintWords Go.Proofs.YtbifdckfglejkaaW.PrintLast Go.Proofs.YtbifdckfglejkaaW.PrintMore
attribute [local go_sem] max2_int min2_int max_two min_two max_three min_three max_four min_four   -- for this text's walks alone
set_option linter.unusedVariables false
set_option linter.unusedSimpArgs false
def impl_LabelOk.f (a0 : Int) : Option (Bool) := (impl_within.f a0 0 5).bind fun t199 => (some t199)
set_option maxHeartbeats 8000000 in
set_option maxRecDepth 100000 in
theorem impl_LabelOk.calls (a0 : Int) (r : Bool) (w : World) (h : impl_LabelOk.f a0 = some r) :
  Calls Try.prog 128 #[.int .i64 a0] w fun e w' => e = .returned (.bool r) ∧ Drawn0 w w' := by
 have H : ((impl_within.f a0 0 5).bind fun t199 => (some t199)) = some r := h
 clear h
 replace H := Option.bind_eq_some_iff.mp H
 obtain ⟨t199, A20, H⟩ := H
 replace H : (some t199) = some r := H
 have A2 := Aside0.mk A20
 clear A20
 obtain rfl := Option.some.inj H
 go_enter Try.func128, Try.ntmps128
 go_wp2_with (first | ((with_reducible refine gate_callee (f := 117) rfl ?_); refine gL_ (some 4) Try.func117 #[.int .i64 a0, .int .i64 0, .int .i64 5] ?_; (with_reducible refine (impl_within.calls a0 0 5 t199 _ A2.out).mono ?_); rintro e w' ⟨rfl, ⟨nd, rfl⟩⟩; refine ⟨_, rfl, ?_⟩))
 go_ret
 exact ⟨by first | rfl | (simp; done) | (simp [*]; done), by repeat (first | exact Drawn0.refl _ | apply Drawn0.step)⟩
end Go.Proofs.Ytbifdckfglejkaa.X
namespace Go.Proofs.Ytbifdckfglejkaa.X
open Go.RowKit Go.Proofs.YtbifdckfglejkaaW.PrintWords Go.Proofs.YtbifdckfglejkaaW.PrintLast Go.Proofs.YtbifdckfglejkaaW.PrintMore
attribute [local go_sem] max2_int min2_int max_two min_two max_three min_three max_four min_four   -- for this text's walks alone
set_option linter.unusedVariables false
set_option linter.unusedSimpArgs false
def impl_depthOk.f (l0 : List (S90)) (a1 : Int) : Option (Bool) := if a1 = 0 then (if 0 < (l0.length : Int) then (some (((rd_T90 l0 0).f1) == 0)) else (none)) else (if 0 ≤ a1 then (if a1 < (l0.length : Int) then (if 0 ≤ (wrap64 (a1 - 1)) then (if (wrap64 (a1 - 1)) < (l0.length : Int) then ((impl_within.f ((rd_T90 l0 a1).f1) 1 (wrap64 (((rd_T90 l0 (wrap64 (a1 - 1))).f1) + 1))).bind fun t394 => (some t394)) else (none)) else (none)) else (none)) else (none))
set_option maxHeartbeats 8000000 in
set_option maxRecDepth 100000 in
theorem impl_depthOk.calls (A0 : Option Addr) (c0 : Nat) (l0 : List (S90)) (a1 : Int) (r : Bool) (w : World) (hr0 : Kd.C k90 w A0 l0.length l0) (hc0 : l0.length ≤ c0) (h : impl_depthOk.f l0 a1 = some r) :
  Calls Try.prog 131 #[.slice A0 l0.length c0, .int .i64 a1] w fun e w' => e = .returned (.bool r) ∧ Drawn0 w w' := by
 have HR0 := Aside0.mk hr0
 have HC0 := Aside0.mk hc0
 clear hr0 hc0
 have H : (if a1 = 0 then (if 0 < (l0.length : Int) then (some (((rd_T90 l0 0).f1) == 0)) else (none)) else (if 0 ≤ a1 then (if a1 < (l0.length : Int) then (if 0 ≤ (wrap64 (a1 - 1)) then (if (wrap64 (a1 - 1)) < (l0.length : Int) then ((impl_within.f ((rd_T90 l0 a1).f1) 1 (wrap64 (((rd_T90 l0 (wrap64 (a1 - 1))).f1) + 1))).bind fun t394 => (some t394)) else (none)) else (none)) else (none)) else (none))) = some r := h
 clear h
 by_cases c3 : a1 = 0
 ·rw [if_pos c3] at H
  have c3b0 : (a1 == 0) = true := beq_iff_eq.mpr c3
  have c3b1 : (a1 != 0) = false := bne_eq_false_iff_eq.mpr c3
  clear c3
  by_cases c4 : 0 < (l0.length : Int)
  ·rw [if_pos c4] at H
   have c4b0 : decide (0 < (l0.length : Int)) = true := decide_eq_true c4
   have c4b1 : decide (0 < l0.length) = true := decide_eq_true (by omega)
   clear c4
   obtain rfl := Option.some.inj H
   have p391 : 0 ≤ (0 : Int) := (by omega)
   have q391 : 0 < (l0.length : Int) := od_
   obtain ⟨ad391, e391, hx391_0, hx391_1⟩ := at_T90 HR0.out 0 p391 q391
   cases e391
   have qi391 : (0 < l0.length) = True := eq_true (by omega)
   (try rw [show ((0 : Int)).toNat = 0 from rfl] at hx391_0)
   (try rw [show 0 * 2 = 0 from rfl] at hx391_0)
   (try rw [Addr.add_zero'] at hx391_0)
   (try rw [show ((0 : Int)).toNat = 0 from rfl] at hx391_1)
   (try rw [show 0 * 2 = 0 from rfl] at hx391_1)
   (try rw [Addr.add_zero'] at hx391_1)
   replace p391 := eq_true p391
   replace q391 := eq_true q391
   go_enter Try.func131, Try.ntmps131
   go_wp2
   repeat (go_quiet (fail); try go_wp2)
   go_ret
   exact ⟨by first | rfl | (simp; done) | (simp [*]; done), by repeat (first | exact Drawn0.refl _ | apply Drawn0.step)⟩
  ·rw [if_neg c4] at H
   exact absurd H (by simp)
 ·rw [if_neg c3] at H
  have c3b0 : (a1 == 0) = false := beq_eq_false_iff_ne.mpr c3
  have c3b1 : (a1 != 0) = true := bne_iff_ne.mpr c3
  by_cases c5 : 0 ≤ a1
  ·rw [if_pos c5] at H
   have c5b0 : decide (0 ≤ a1) = true := decide_eq_true c5
   clear c5
   by_cases c6 : a1 < (l0.length : Int)
   ·rw [if_pos c6] at H
    have c6b0 : decide (a1 < (l0.length : Int)) = true := decide_eq_true c6
    clear c6
    obtain ⟨ji7, hji7⟩ : ∃ j_ : Int, (wrap64 (a1 - 1)) = j_ := ⟨_, rfl⟩
    replace H : (if 0 ≤ (ji7) then (if (ji7) < (l0.length : Int) then ((impl_within.f ((rd_T90 l0 a1).f1) 1 (wrap64 (((rd_T90 l0 (ji7)).f1) + 1))).bind fun t394 => (some t394)) else (none)) else (none)) = some r := by first | (rw [hji7] at H; exact H) | (simp only [hji7] at H ⊢; exact H)
    have hji7w : (IntKind.i64.wrap (a1 - 1)) = ji7 := (i64_w _).trans hji7
    by_cases c8 : 0 ≤ (ji7)
    ·rw [if_pos c8] at H
     have c8b0 : decide (0 ≤ (ji7)) = true := decide_eq_true c8
     clear c8
     by_cases c9 : (ji7) < (l0.length : Int)
     ·rw [if_pos c9] at H
      have c9b0 : decide ((ji7) < (l0.length : Int)) = true := decide_eq_true c9
      clear c9
      replace H := Option.bind_eq_some_iff.mp H
      obtain ⟨t394, A100, H⟩ := H
      replace H : (some t394) = some r := H
      have A10 := Aside0.mk A100
      clear A100
      obtain rfl := Option.some.inj H
      have p392 : 0 ≤ (a1 : Int) := od_
      have q392 : a1 < (l0.length : Int) := od_
      obtain ⟨ad392, e392, hx392_0, hx392_1⟩ := at_T90 HR0.out a1 p392 q392
      cases e392
      replace p392 := eq_true p392
      replace q392 := eq_true q392
      have p393 : 0 ≤ ((ji7) : Int) := od_
      have q393 : (ji7) < (l0.length : Int) := od_
      obtain ⟨ad393, e393, hx393_0, hx393_1⟩ := at_T90 HR0.out (ji7) p393 q393
      obtain rfl : ad392 = ad393 := (by injection e393)
      replace p393 := eq_true p393
      replace q393 := eq_true q393
      go_enter Try.func131, Try.ntmps131
      go_wp2_with (first | (go_at_call 117; (with_reducible refine (impl_within.calls ((rd_T90 l0 a1).f1) 1 (wrap64 (((rd_T90 l0 (ji7)).f1) + 1)) t394 _ A10.out).mono ?_); rintro e w' ⟨rfl, ⟨nd, rfl⟩⟩; (try first | exact ⟨rfl, _, World.drewN_drewN _ _ _⟩ | exact ⟨rfl, _, Eq.trans (World.drewN_drewN _ _ _) (congrArg (World.drewN _) (Nat.add_assoc _ _ _))⟩)))
      repeat (go_quiet (first | (go_at_call 117; (with_reducible refine (impl_within.calls ((rd_T90 l0 a1).f1) 1 (wrap64 (((rd_T90 l0 (ji7)).f1) + 1)) t394 _ A10.out).mono ?_); rintro e w' ⟨rfl, ⟨nd, rfl⟩⟩; (try first | exact ⟨rfl, _, World.drewN_drewN _ _ _⟩ | exact ⟨rfl, _, Eq.trans (World.drewN_drewN _ _ _) (congrArg (World.drewN _) (Nat.add_assoc _ _ _))⟩))); try go_wp2_with (first | (go_at_call 117; (with_reducible refine (impl_within.calls ((rd_T90 l0 a1).f1) 1 (wrap64 (((rd_T90 l0 (ji7)).f1) + 1)) t394 _ A10.out).mono ?_); rintro e w' ⟨rfl, ⟨nd, rfl⟩⟩; (try first | exact ⟨rfl, _, World.drewN_drewN _ _ _⟩ | exact ⟨rfl, _, Eq.trans (World.drewN_drewN _ _ _) (congrArg (World.drewN _) (Nat.add_assoc _ _ _))⟩))))
      go_ret
      exact ⟨by first | rfl | (simp; done) | (simp only [← hji7] <;> (first | rfl | simp)) | (simp [*]; done), by repeat (first | exact Drawn0.refl _ | apply Drawn0.step)⟩
     ·rw [if_neg c9] at H
      exact absurd H (by simp)
    ·rw [if_neg c8] at H
     exact absurd H (by simp)
   ·rw [if_neg c6] at H
    exact absurd H (by simp)
  ·rw [if_neg c5] at H
   exact absurd H (by simp)
end Go.Proofs.Ytbifdckfglejkaa.X
