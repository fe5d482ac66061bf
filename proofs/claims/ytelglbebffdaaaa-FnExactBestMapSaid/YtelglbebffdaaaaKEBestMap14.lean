/- Part 14 of the proof of FnExactBestMap: what it needs. -/
import Derived.Deep.RegionHeld3
import Derived.Deep.DrawnRows
import Derived.Test.YtelglbebffdaaaaKEBestMap13
namespace Go.Proofs.Ytelglbebffdaaaa.X
open Go.RowKit Go.Proofs.YtelglbebffdaaaaW.PrintWords Go.Proofs.YtelglbebffdaaaaW.PrintLast Go.Proofs.YtelglbebffdaaaaW.PrintMore Go.Proofs.Ytelglbebffdaaaa.Q
set_option linter.unusedVariables false
set_option linter.unusedSimpArgs false
abbrev IX (w : World) (base : Nat) (v : Value) (l : List Int) : Prop:=Kd.R (Kd.int .i64) 3 w base (fun _ => True) v l
def Ap (v u : Value) : Prop:=∀ k,v.ownBlock = some k → u.ownBlock ≠ some k
theorem Ap.symm {v u : Value} (h : Ap v u) : Ap u v:=fun k hk he => h k he hk
theorem IX.grown {w w' : World} {base : Nat} {v u : Value} {l : List Int} (h : IX w base v l) (hg : w.grownBy w' u.ownBlock) (ha : Ap v u) : IX w' base v l:=by
 have h2 : Kd.R (Kd.int .i64) 3 w base (fun k => some k ≠ u.ownBlock) v l:=by
  refine Kd.R_of_own (Kd.own_of_R h) (fun k hk => fun e => ha k hk e.symm)
 exact Kd.R_mono (Kd.R_step h2 (fun k ho hlt => hg.block k hlt ho)) (fun _ _ => trivial)
structure C3 (w : World) (base : Nat) (v0 v1 v2 : Value) (d i r : List Int) : Prop where
 a : IX w base v0 d
 b : IX w base v1 i
 c : IX w base v2 r
 ab : Ap v0 v1
 ac : Ap v0 v2
 bc : Ap v1 v2
theorem C3.below {w w' : World} {base : Nat} {v0 v1 v2 : Value} {d i r : List Int} (h : C3 w base v0 v1 v2 d i r) (b : Below w.heap.size w w') : C3 w' base v0 v1 v2 d i r :=
 ⟨Kd.R_below h.a b,Kd.R_below h.b b,Kd.R_below h.c b,h.ab,h.ac,h.bc⟩
theorem ap_new {w : World} {base : Nat} {v v' u : Value} {l : List Int} (hu : IX w base u l) (ha : Ap v u) (hat : v'.ownBlock = v.ownBlock ∨ ∃ b,v'.ownBlock = some b ∧ w.heap.size ≤ b) : Ap v' u:=by
 intro k hk he
 rcases hat with e | ⟨b,e,hb⟩
 ·exact ha k (e.symm.trans hk) he
 ·rw [e] at hk
  cases hk
  have:=Kd.R_lt hu _ he
  omega
theorem C3.far {w : World} {base g t : Nat} {v0 v1 v2 : Value} {d i r : List Int} {cs : Array Value} (h : C3 w base v0 v1 v2 d i r) (hb : w.heap[g]? = some (.cells cs t (0,0))) (ht : t ≠ 3) (k : Nat) (u : Value) : C3 (w.setCell ⟨g,k,none⟩ u) base v0 v1 v2 d i r:=by
 have key : ∀ {v : Value} {l : List Int},IX w base v l → IX (w.setCell ⟨g,k,none⟩ u) base v l:=fun h =>
  Kd.R_mono (Kd.R_far (p:=⟨g,k,none⟩) (Kd.R_types h hb (fun q hq => by
   have : q = 3:=by simpa [Kd.int,Kd.scalar] using hq
   rw [this];exact fun e => ht e.symm)) (fun _ hk => hk.2) u) (fun _ _ => trivial)
 exact ⟨key h.a,key h.b,key h.c,h.ab,h.ac,h.bc⟩
section
variable {ops : Array Oper} {rest : List Oper} {o : Oper} {a : Act} {Q : Exit → Act → World → Prop} {w W : World} {base : Nat}
end
abbrev nl : Value:=.slice none 0 0
structure Ub (base kb kr : Nat) (u0 u1 u2 v0 v1 v2 : Value) (d i r : List Int) (w : World) : Prop where
 bk : w.heap[kb]? = some (.cells #[u0,u1,u2] 31 (0,0))
 br : w.heap[kr]? = some (.cells #[nl,nl,nl] 31 (0,0))
 c3 : C3 w base v0 v1 v2 d i r
 ne : kb ≠ kr
 gb : base ≤ kb
 gr : base ≤ kr
section
variable {base kb kr : Nat} {u0 u1 u2 v0 v1 v2 : Value} {d i r : List Int} {w : World}
theorem Ub.below {w' : World} (h : Ub base kb kr u0 u1 u2 v0 v1 v2 d i r w) (b : Below w.heap.size w w') : Ub base kb kr u0 u1 u2 v0 v1 v2 d i r w' :=
 ⟨blk_below h.bk b,blk_below h.br b,h.c3.below b,h.ne,h.gb,h.gr⟩
theorem Ub.ch {w' : World} (h : Ub base kb kr u0 u1 u2 v0 v1 v2 d i r w) [c : Ch w w'] : Ub base kb kr u0 u1 u2 v0 v1 v2 d i r w':=h.below c.out
structure Bx (w : World) (k : Nat) (u0 u1 u2 : Value) : Prop where
 c0 : w.cell? ⟨k,0,none⟩ = some u0
 c1 : w.cell? ⟨k,1,none⟩ = some u1
 c2 : w.cell? ⟨k,2,none⟩ = some u2
 f0 : w.frozen? ⟨k,0,none⟩ = false
 f1 : w.frozen? ⟨k,1,none⟩ = false
 f2 : w.frozen? ⟨k,2,none⟩ = false
theorem bx_of {k t : Nat} {u0 u1 u2 : Value} (h : w.heap[k]? = some (.cells #[u0,u1,u2] t (0,0))) : Bx w k u0 u1 u2 :=
 ⟨(blk_cell h 0).trans rfl,(blk_cell h 1).trans rfl,(blk_cell h 2).trans rfl,blk_frozen h 0,blk_frozen h 1,blk_frozen h 2⟩
end
end Go.Proofs.Ytelglbebffdaaaa.X
