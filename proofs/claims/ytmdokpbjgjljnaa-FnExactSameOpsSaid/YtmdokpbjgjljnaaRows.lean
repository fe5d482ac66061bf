/-
  No cell of these rows narrows 'for every input' (looked for: loops, veiled, ifaces, maps, wideKeys, modest, calm, conditions, laid).
  DERIVED. THE GIVEN ROWS OF THIS SEAT. 5 by the template 'for every input the law returns true; each argument reads behind the call as it read before'; 0 by the template 'total and deterministic' (their statements: YtmdokpbjgjljnaaTotals.lean).
  GIVEN WITH THE SEED: the statements are not yours to turn. If you find one false, say at which input.
  Laid BY PROGRAM, IN A SANDBOX (cutbox-rows.mjs): the forced cells as the released guide's own fill.sh prints them over the translation aa517043c51277f4… (all of the seat's roots in one cut). By AI agents, Wed Nov 11 2026. No macro, syntax, notation, axiom, sorry.
-/
import Derived.Test.YtmdokpbjgjljnaaChecked
import GoSem.Claim
import GoSem.ClaimJoined
import GoSem.ClaimMapViews
import Derived.JoinedTies
import Derived.KernelRfl
namespace Go.Proofs.Ytmdokpbjgjljnaa
/- THE CELL 'sum', in the pinned program and in every row, IS THE sha256 OF THE DUMP (.gsa) THAT YtmdokpbjgjljnaaProg.lean LOADS. Nothing in Lean hashes anything: it is a label: what it is worth is what the hold of that sum in a sandbox is worth. -/
noncomputable def Try.pinned : Pinned := { name := "ytmdokpbjgjljnaa", sum := "aa517043c51277f4e302e170a426d0a552eb9b4d94fd04caf8444fd058ab81ef", checked := Try.checked }
namespace Rows
def none {H : Type} : Left H := { results := [], args := [] }

/-- 'laws.FnExactSameOps': WHATEVER THE INPUT: true; the input reads as it did. -/
def fnExactSameOpsSpec : ChangeSpec := { name := "fnExactSameOps", fn := fun _ => fun
  | [d1, d2] => { results := [.lit (.bool true)], args := [d1, d2] }
  | _ => none }
def fnExactSameOpsRow : OpenClaim := { program := "ytmdokpbjgjljnaa", sum := "aa517043c51277f4e302e170a426d0a552eb9b4d94fd04caf8444fd058ab81ef", func := "loop.example/g01618/laws.FnExactSameOps", spec := "fnExactSameOps", unfollowed := true, recurses := true, apart := false }
def FnExactSameOpsSaid : Prop := fnExactSameOpsRow.holds Try.pinned (OpenSpec.ofChange fnExactSameOpsSpec)

/-- ITS FALSE NEIGHBOUR: 'it returns false'. Refute it at one input. -/
def fnExactSameOpsWrong : ChangeSpec := { name := "fnExactSameOps", fn := fun _ => fun
  | [d1, d2] => { results := [.lit (.bool false)], args := [d1, d2] }
  | _ => none }
def FnExactSameOpsWrongFalsely : Prop := fnExactSameOpsRow.holds Try.pinned (OpenSpec.ofChange fnExactSameOpsWrong)

/-- 'laws.FnExactGetScript': WHATEVER THE INPUT: true; the input reads as it did. -/
def fnExactGetScriptSpec : ChangeSpec := { name := "fnExactGetScript", fn := fun _ => fun
  | [d] => { results := [.lit (.bool true)], args := [d] }
  | _ => none }
def fnExactGetScriptRow : OpenClaim := { program := "ytmdokpbjgjljnaa", sum := "aa517043c51277f4e302e170a426d0a552eb9b4d94fd04caf8444fd058ab81ef", func := "loop.example/g01618/laws.FnExactGetScript", spec := "fnExactGetScript", apart := false }
def FnExactGetScriptSaid : Prop := fnExactGetScriptRow.holds Try.pinned (OpenSpec.ofChange fnExactGetScriptSpec)

/-- ITS FALSE NEIGHBOUR: 'it returns false'. Refute it at one input. -/
def fnExactGetScriptWrong : ChangeSpec := { name := "fnExactGetScript", fn := fun _ => fun
  | [d] => { results := [.lit (.bool false)], args := [d] }
  | _ => none }
def FnExactGetScriptWrongFalsely : Prop := fnExactGetScriptRow.holds Try.pinned (OpenSpec.ofChange fnExactGetScriptWrong)

/-- 'laws.FnExactMapsOf': WHATEVER THE INPUT: true; the input reads as it did. -/
def fnExactMapsOfSpec : ChangeSpec := { name := "fnExactMapsOf", fn := fun _ => fun
  | [d1, d2] => { results := [.lit (.bool true)], args := [d1, d2] }
  | _ => none }
def fnExactMapsOfRow : OpenClaim := { program := "ytmdokpbjgjljnaa", sum := "aa517043c51277f4e302e170a426d0a552eb9b4d94fd04caf8444fd058ab81ef", func := "loop.example/g01618/laws.FnExactMapsOf", spec := "fnExactMapsOf", recurses := true, apart := false }
def FnExactMapsOfSaid : Prop := fnExactMapsOfRow.holds Try.pinned (OpenSpec.ofChange fnExactMapsOfSpec)

/-- ITS FALSE NEIGHBOUR: 'it returns false'. Refute it at one input. -/
def fnExactMapsOfWrong : ChangeSpec := { name := "fnExactMapsOf", fn := fun _ => fun
  | [d1, d2] => { results := [.lit (.bool false)], args := [d1, d2] }
  | _ => none }
def FnExactMapsOfWrongFalsely : Prop := fnExactMapsOfRow.holds Try.pinned (OpenSpec.ofChange fnExactMapsOfWrong)

/-- 'laws.FnSplice': WHATEVER THE INPUT: true; the input reads as it did. -/
def fnSpliceSpec : ChangeSpec := { name := "fnSplice", fn := fun _ => fun
  | [d] => { results := [.lit (.bool true)], args := [d] }
  | _ => none }
def fnSpliceRow : OpenClaim := { program := "ytmdokpbjgjljnaa", sum := "aa517043c51277f4e302e170a426d0a552eb9b4d94fd04caf8444fd058ab81ef", func := "loop.example/g01618/laws.FnSplice", spec := "fnSplice", inPlace := ["slices.overlaps[loop.example/g01618/impl.Node]"], apart := false }
def FnSpliceSaid : Prop := fnSpliceRow.holds Try.pinned (OpenSpec.ofChange fnSpliceSpec)

/-- ITS FALSE NEIGHBOUR: 'it returns false'. Refute it at one input. -/
def fnSpliceWrong : ChangeSpec := { name := "fnSplice", fn := fun _ => fun
  | [d] => { results := [.lit (.bool false)], args := [d] }
  | _ => none }
def FnSpliceWrongFalsely : Prop := fnSpliceRow.holds Try.pinned (OpenSpec.ofChange fnSpliceWrong)

/-- 'laws.FnExactApplyAll': WHATEVER THE INPUT: true; the input reads as it did. -/
def fnExactApplyAllSpec : ChangeSpec := { name := "fnExactApplyAll", fn := fun _ => fun
  | [d1, d2] => { results := [.lit (.bool true)], args := [d1, d2] }
  | _ => none }
def fnExactApplyAllRow : OpenClaim := { program := "ytmdokpbjgjljnaa", sum := "aa517043c51277f4e302e170a426d0a552eb9b4d94fd04caf8444fd058ab81ef", func := "loop.example/g01618/laws.FnExactApplyAll", spec := "fnExactApplyAll", inPlace := ["slices.overlaps[loop.example/g01618/impl.Node]"], apart := false }
def FnExactApplyAllSaid : Prop := fnExactApplyAllRow.holds Try.pinned (OpenSpec.ofChange fnExactApplyAllSpec)

/-- ITS FALSE NEIGHBOUR: 'it returns false'. Refute it at one input. -/
def fnExactApplyAllWrong : ChangeSpec := { name := "fnExactApplyAll", fn := fun _ => fun
  | [d1, d2] => { results := [.lit (.bool false)], args := [d1, d2] }
  | _ => none }
def FnExactApplyAllWrongFalsely : Prop := fnExactApplyAllRow.holds Try.pinned (OpenSpec.ofChange fnExactApplyAllWrong)

/- THE SECOND FORM. 'bulk': how many values and letters a reading holds, each counted each time it is reached (what is shared counts as often as it is met; a slice's spare places count too). A statement '..UptoSaid' is the law's where the arguments, and the package variables that the reading takes, are together of bulk at most 1048576: NARROWER than '..Said'. Prove '..Said' where nothing that the law and all that it calls make is longer than what came in: it says more and counts as full. Else prove '..UptoSaid'. A law counts once. -/
mutual
def uptoBulk {H : Type} : DataW H → Nat
  | .lit (.string bytes) => bytes.length + 1
  | .lit _ => 1
  | .nil => 1
  | .ptr d => uptoBulk d + 1
  | .slice elems spare => uptoBulkAll elems + uptoBulkAll spare + 1
  | .agg parts => uptoBulkAll parts + 1
  | .iface _ d => uptoBulk d + 1
  | .map entries => uptoBulkEntries entries + 1
  | .held _ => 1
def uptoBulkAll {H : Type} : List (DataW H) → Nat
  | [] => 0
  | d :: r => uptoBulk d + uptoBulkAll r
def uptoBulkEntries {H : Type} : List (Lit × DataW H) → Nat
  | [] => 0
  | x :: r => uptoBulkEntry x + uptoBulkEntries r
def uptoBulkEntry {H : Type} : Lit × DataW H → Nat
  | (.string bytes, d) => bytes.length + uptoBulk d + 1
  | (_, d) => uptoBulk d + 1
 end
def uptoSmall : (H : Type) → List (DataW H) → Bool := fun _ ds => decide (uptoBulkAll ds ≤ 1048576)
def OpenSpec.upto (s : _root_.Go.ChangeSpec) : _root_.Go.OpenSpec := { _root_.Go.OpenSpec.ofChange s with cond := some uptoSmall }

/-- 'laws.FnExactSameOps', WHERE WHAT IT READS IS OF BULK AT MOST 1048576: true; the input reads as it did. -/
def fnExactSameOpsUptoRow : OpenClaim := { program := "ytmdokpbjgjljnaa", sum := "aa517043c51277f4e302e170a426d0a552eb9b4d94fd04caf8444fd058ab81ef", func := "loop.example/g01618/laws.FnExactSameOps", spec := "fnExactSameOps", unfollowed := true, recurses := true, apart := false, narrowed := true }
def FnExactSameOpsUptoSaid : Prop := fnExactSameOpsUptoRow.holds Try.pinned (OpenSpec.upto fnExactSameOpsSpec)

/-- 'laws.FnExactGetScript', WHERE WHAT IT READS IS OF BULK AT MOST 1048576: true; the input reads as it did. -/
def fnExactGetScriptUptoRow : OpenClaim := { program := "ytmdokpbjgjljnaa", sum := "aa517043c51277f4e302e170a426d0a552eb9b4d94fd04caf8444fd058ab81ef", func := "loop.example/g01618/laws.FnExactGetScript", spec := "fnExactGetScript", apart := false, narrowed := true }
def FnExactGetScriptUptoSaid : Prop := fnExactGetScriptUptoRow.holds Try.pinned (OpenSpec.upto fnExactGetScriptSpec)

/-- 'laws.FnExactMapsOf', WHERE WHAT IT READS IS OF BULK AT MOST 1048576: true; the input reads as it did. -/
def fnExactMapsOfUptoRow : OpenClaim := { program := "ytmdokpbjgjljnaa", sum := "aa517043c51277f4e302e170a426d0a552eb9b4d94fd04caf8444fd058ab81ef", func := "loop.example/g01618/laws.FnExactMapsOf", spec := "fnExactMapsOf", recurses := true, apart := false, narrowed := true }
def FnExactMapsOfUptoSaid : Prop := fnExactMapsOfUptoRow.holds Try.pinned (OpenSpec.upto fnExactMapsOfSpec)

/-- 'laws.FnSplice', WHERE WHAT IT READS IS OF BULK AT MOST 1048576: true; the input reads as it did. -/
def fnSpliceUptoRow : OpenClaim := { program := "ytmdokpbjgjljnaa", sum := "aa517043c51277f4e302e170a426d0a552eb9b4d94fd04caf8444fd058ab81ef", func := "loop.example/g01618/laws.FnSplice", spec := "fnSplice", inPlace := ["slices.overlaps[loop.example/g01618/impl.Node]"], apart := false, narrowed := true }
def FnSpliceUptoSaid : Prop := fnSpliceUptoRow.holds Try.pinned (OpenSpec.upto fnSpliceSpec)

/-- 'laws.FnExactApplyAll', WHERE WHAT IT READS IS OF BULK AT MOST 1048576: true; the input reads as it did. -/
def fnExactApplyAllUptoRow : OpenClaim := { program := "ytmdokpbjgjljnaa", sum := "aa517043c51277f4e302e170a426d0a552eb9b4d94fd04caf8444fd058ab81ef", func := "loop.example/g01618/laws.FnExactApplyAll", spec := "fnExactApplyAll", inPlace := ["slices.overlaps[loop.example/g01618/impl.Node]"], apart := false, narrowed := true }
def FnExactApplyAllUptoSaid : Prop := fnExactApplyAllUptoRow.holds Try.pinned (OpenSpec.upto fnExactApplyAllSpec)

end Rows
end Go.Proofs.Ytmdokpbjgjljnaa
