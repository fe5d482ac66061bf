/- Part 13 of the proof of FnExactBestMap: what it needs. -/
import Derived.Test.YtelglbebffdaaaaKEBestMap6
import Derived.Test.YtelglbebffdaaaaKEBestMap12
namespace Go.Proofs.Ytelglbebffdaaaa.X
open Go.RowKit Go.Proofs.YtelglbebffdaaaaW.PrintWords Go.Proofs.YtelglbebffdaaaaW.PrintLast Go.Proofs.YtelglbebffdaaaaW.PrintMore Go.Proofs.Ytelglbebffdaaaa.Q
set_option linter.unusedVariables false
set_option linter.unusedSimpArgs false
abbrev NX (w : World) (base : Nat) (v : Value) (l : List NdI) : Prop:=Kd.R k53 53 w base (fun _ => True) v l
theorem NX.keep {w0 W : World} {g : Nat} {w w' : World} {base : Nat} {v : Value} {l : List NdI} (h : NX w base v l) (hs : St w0 W g w) (k : St w0 w g w') : NX w' base v l:=by
 obtain ⟨s0,s1,s2,h1,_⟩:=hs.cs
 exact Kd.R_mono (Kd.R_keep (IsS108.apart h1 h (by decide)) k.keep (fun _ h => h.2)) (fun _ h => h.1)
theorem NX.ch {w w' : World} {base : Nat} {v : Value} {l : List NdI} (h : NX w base v l) [c : Ch w w'] : NX w' base v l:=Kd.R_below h c.out
theorem NX.ne {w0 W : World} {g : Nat} {w : World} {base : Nat} {v : Value} {l : List NdI} (h : NX w base v l) (hs : St w0 W g w) : some g ≠ v.ownBlock:=by
 obtain ⟨s0,s1,s2,h1,_⟩:=hs.cs
 exact IsS108.own_ne h1 h (by decide)
section
variable {ops : Array Oper} {rest : List Oper} {o : Oper} {a : Act} {Q : Exit → Act → World → Prop} {w0 W0 w W : World} {g : Nat}
end
end Go.Proofs.Ytelglbebffdaaaa.X
namespace Go.Proofs.Ytelglbebffdaaaa.X
open Go.RowKit Go.Proofs.YtelglbebffdaaaaW.PrintWords Go.Proofs.YtelglbebffdaaaaW.PrintLast Go.Proofs.YtelglbebffdaaaaW.PrintMore Go.Proofs.Ytelglbebffdaaaa.Q
set_option linter.unusedVariables false
set_option linter.unusedSimpArgs false
abbrev NQ (w : World) (base : Nat) (v : Value) (l : List NdI) : Prop:=Kd.Q k53 53 w base (fun _ => True) v l
theorem NX.q {w : World} {base : Nat} {v : Value} {l : List NdI} (h : NX w base v l) : NQ w base v l:=Kd.Q_of_R h
theorem NQ.keep {w0 W : World} {g : Nat} {w w' : World} {base : Nat} {v : Value} {l : List NdI} (h : NQ w base v l) (hs : St w0 W g w) (k : St w0 w g w') : NQ w' base v l:=by
 obtain ⟨s0,s1,s2,h1,_⟩:=hs.cs
 exact Kd.Q_mono (Kd.Q_keep (IsS108.apartQ h1 h (by decide)) k.keep (fun _ h => h.2)) (fun _ h => h.1)
theorem NQ.ch {w w' : World} {base : Nat} {v : Value} {l : List NdI} (h : NQ w base v l) [c : Ch w w'] : NQ w' base v l:=Kd.Q_below h c.out
theorem grown_set (w : World) (b i : Nat) (v : Value) : w.grownBy (w.setCell ⟨b,i,none⟩ v) (some b) :=
 ⟨rfl,rfl,rfl,by simp [World.setCell],fun k _ hk => Below.heap_setCell w ⟨b,i,none⟩ v k (by simpa using hk)⟩
theorem St.set {w0 W w : World} {g b : Nat} (h : St w0 W g w) (hg : b ≠ g) (hb : W.heap.size ≤ b) (h0 : w0.heap.size ≤ W.heap.size) (i : Nat) (v : Value) : St w0 W g (w.setCell ⟨b,i,none⟩ v) :=
 h.grown (grown_set w b i v) (fun e => hg (Option.some.inj e).symm) (fun k hk => by cases hk;exact hb) h0
section
variable {ops : Array Oper} {rest : List Oper} {o : Oper} {a : Act} {Q : Exit → Act → World → Prop} {w0 W0 w W : World} {g : Nat}
end
end Go.Proofs.Ytelglbebffdaaaa.X
