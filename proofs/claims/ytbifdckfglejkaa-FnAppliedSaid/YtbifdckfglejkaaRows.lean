/-
  No cell of these rows narrows 'for every input' (looked for: loops, veiled, ifaces, maps, wideKeys, modest, calm, conditions, laid).
  DERIVED. THE GIVEN ROWS OF THIS SEAT. 11 by the template 'for every input the law returns true; each argument reads behind the call as it read before'; 0 by the template 'total and deterministic' (their statements: YtbifdckfglejkaaTotals.lean).
  GIVEN WITH THE SEED: the statements are not yours to turn. If you find one false, say at which input.
  Laid BY PROGRAM, IN A SANDBOX (cutbox-rows.mjs): the forced cells as the released guide's own fill.sh prints them over the translation 04457a1a2ddf3188… (all of the seat's roots in one cut). By AI agents, Wed Nov 11 2026. No macro, syntax, notation, axiom, sorry.
-/
import Derived.Test.YtbifdckfglejkaaChecked
import GoSem.Claim
import GoSem.ClaimJoined
import GoSem.ClaimMapViews
import Derived.JoinedTies
import Derived.KernelRfl
namespace Go.Proofs.Ytbifdckfglejkaa
/- THE CELL 'sum', in the pinned program and in every row, IS THE sha256 OF THE DUMP (.gsa) THAT YtbifdckfglejkaaProg.lean LOADS. Nothing in Lean hashes anything: it is a label: what it is worth is what the hold of that sum in a sandbox is worth. -/
noncomputable def Try.pinned : Pinned := { name := "ytbifdckfglejkaa", sum := "04457a1a2ddf318862772ab5dac63bea97915d0844ad862d65adb59ee47837da", checked := Try.checked }
namespace Rows
def none {H : Type} : Left H := { results := [], args := [] }

/-- 'laws.FnExactDomOk': WHATEVER THE INPUT: true; the input reads as it did. -/
def fnExactDomOkSpec : ChangeSpec := { name := "fnExactDomOk", fn := fun _ => fun
  | [d] => { results := [.lit (.bool true)], args := [d] }
  | _ => none }
def fnExactDomOkRow : OpenClaim := { program := "ytbifdckfglejkaa", sum := "04457a1a2ddf318862772ab5dac63bea97915d0844ad862d65adb59ee47837da", func := "loop.example/g01618/laws.FnExactDomOk", spec := "fnExactDomOk", recurses := true, apart := false }
def FnExactDomOkSaid : Prop := fnExactDomOkRow.holds Try.pinned (OpenSpec.ofChange fnExactDomOkSpec)

/-- ITS FALSE NEIGHBOUR: 'it returns false'. Refute it at one input. -/
def fnExactDomOkWrong : ChangeSpec := { name := "fnExactDomOk", fn := fun _ => fun
  | [d] => { results := [.lit (.bool false)], args := [d] }
  | _ => none }
def FnExactDomOkWrongFalsely : Prop := fnExactDomOkRow.holds Try.pinned (OpenSpec.ofChange fnExactDomOkWrong)

/-- 'laws.FnExactDomSize': WHATEVER THE INPUT: true; the input reads as it did. -/
def fnExactDomSizeSpec : ChangeSpec := { name := "fnExactDomSize", fn := fun _ => fun
  | [d] => { results := [.lit (.bool true)], args := [d] }
  | _ => none }
def fnExactDomSizeRow : OpenClaim := { program := "ytbifdckfglejkaa", sum := "04457a1a2ddf318862772ab5dac63bea97915d0844ad862d65adb59ee47837da", func := "loop.example/g01618/laws.FnExactDomSize", spec := "fnExactDomSize", recurses := true, apart := false }
def FnExactDomSizeSaid : Prop := fnExactDomSizeRow.holds Try.pinned (OpenSpec.ofChange fnExactDomSizeSpec)

/-- ITS FALSE NEIGHBOUR: 'it returns false'. Refute it at one input. -/
def fnExactDomSizeWrong : ChangeSpec := { name := "fnExactDomSize", fn := fun _ => fun
  | [d] => { results := [.lit (.bool false)], args := [d] }
  | _ => none }
def FnExactDomSizeWrongFalsely : Prop := fnExactDomSizeRow.holds Try.pinned (OpenSpec.ofChange fnExactDomSizeWrong)

/-- 'laws.FnExactDomTree': WHATEVER THE INPUT: true; the input reads as it did. -/
def fnExactDomTreeSpec : ChangeSpec := { name := "fnExactDomTree", fn := fun _ => fun
  | [d] => { results := [.lit (.bool true)], args := [d] }
  | _ => none }
def fnExactDomTreeRow : OpenClaim := { program := "ytbifdckfglejkaa", sum := "04457a1a2ddf318862772ab5dac63bea97915d0844ad862d65adb59ee47837da", func := "loop.example/g01618/laws.FnExactDomTree", spec := "fnExactDomTree", recurses := true, apart := false }
def FnExactDomTreeSaid : Prop := fnExactDomTreeRow.holds Try.pinned (OpenSpec.ofChange fnExactDomTreeSpec)

/-- ITS FALSE NEIGHBOUR: 'it returns false'. Refute it at one input. -/
def fnExactDomTreeWrong : ChangeSpec := { name := "fnExactDomTree", fn := fun _ => fun
  | [d] => { results := [.lit (.bool false)], args := [d] }
  | _ => none }
def FnExactDomTreeWrongFalsely : Prop := fnExactDomTreeRow.holds Try.pinned (OpenSpec.ofChange fnExactDomTreeWrong)

/-- 'laws.FnExactDomFind': WHATEVER THE INPUT: true; the input reads as it did. -/
def fnExactDomFindSpec : ChangeSpec := { name := "fnExactDomFind", fn := fun _ => fun
  | [d1, d2] => { results := [.lit (.bool true)], args := [d1, d2] }
  | _ => none }
def fnExactDomFindRow : OpenClaim := { program := "ytbifdckfglejkaa", sum := "04457a1a2ddf318862772ab5dac63bea97915d0844ad862d65adb59ee47837da", func := "loop.example/g01618/laws.FnExactDomFind", spec := "fnExactDomFind", recurses := true, apart := false }
def FnExactDomFindSaid : Prop := fnExactDomFindRow.holds Try.pinned (OpenSpec.ofChange fnExactDomFindSpec)

/-- ITS FALSE NEIGHBOUR: 'it returns false'. Refute it at one input. -/
def fnExactDomFindWrong : ChangeSpec := { name := "fnExactDomFind", fn := fun _ => fun
  | [d1, d2] => { results := [.lit (.bool false)], args := [d1, d2] }
  | _ => none }
def FnExactDomFindWrongFalsely : Prop := fnExactDomFindRow.holds Try.pinned (OpenSpec.ofChange fnExactDomFindWrong)

/-- 'laws.FnExactMapCost': WHATEVER THE INPUT: true; the input reads as it did. -/
def fnExactMapCostSpec : ChangeSpec := { name := "fnExactMapCost", fn := fun _ => fun
  | [d1, d2, d3, d4] => { results := [.lit (.bool true)], args := [d1, d2, d3, d4] }
  | _ => none }
def fnExactMapCostRow : OpenClaim := { program := "ytbifdckfglejkaa", sum := "04457a1a2ddf318862772ab5dac63bea97915d0844ad862d65adb59ee47837da", func := "loop.example/g01618/laws.FnExactMapCost", spec := "fnExactMapCost", unfollowed := true, recurses := true, apart := false }
def FnExactMapCostSaid : Prop := fnExactMapCostRow.holds Try.pinned (OpenSpec.ofChange fnExactMapCostSpec)

/-- ITS FALSE NEIGHBOUR: 'it returns false'. Refute it at one input. -/
def fnExactMapCostWrong : ChangeSpec := { name := "fnExactMapCost", fn := fun _ => fun
  | [d1, d2, d3, d4] => { results := [.lit (.bool false)], args := [d1, d2, d3, d4] }
  | _ => none }
def FnExactMapCostWrongFalsely : Prop := fnExactMapCostRow.holds Try.pinned (OpenSpec.ofChange fnExactMapCostWrong)

/-- 'laws.FnExactLeastCost': WHATEVER THE INPUT: true; the input reads as it did. -/
def fnExactLeastCostSpec : ChangeSpec := { name := "fnExactLeastCost", fn := fun _ => fun
  | [d1, d2, d3] => { results := [.lit (.bool true)], args := [d1, d2, d3] }
  | _ => none }
def fnExactLeastCostRow : OpenClaim := { program := "ytbifdckfglejkaa", sum := "04457a1a2ddf318862772ab5dac63bea97915d0844ad862d65adb59ee47837da", func := "loop.example/g01618/laws.FnExactLeastCost", spec := "fnExactLeastCost", unfollowed := true, recurses := true, apart := false }
def FnExactLeastCostSaid : Prop := fnExactLeastCostRow.holds Try.pinned (OpenSpec.ofChange fnExactLeastCostSpec)

/-- ITS FALSE NEIGHBOUR: 'it returns false'. Refute it at one input. -/
def fnExactLeastCostWrong : ChangeSpec := { name := "fnExactLeastCost", fn := fun _ => fun
  | [d1, d2, d3] => { results := [.lit (.bool false)], args := [d1, d2, d3] }
  | _ => none }
def FnExactLeastCostWrongFalsely : Prop := fnExactLeastCostRow.holds Try.pinned (OpenSpec.ofChange fnExactLeastCostWrong)

/-- 'laws.FnExactApplyOp': WHATEVER THE INPUT: true; the input reads as it did. -/
def fnExactApplyOpSpec : ChangeSpec := { name := "fnExactApplyOp", fn := fun _ => fun
  | [d1, d2] => { results := [.lit (.bool true)], args := [d1, d2] }
  | _ => none }
def fnExactApplyOpRow : OpenClaim := { program := "ytbifdckfglejkaa", sum := "04457a1a2ddf318862772ab5dac63bea97915d0844ad862d65adb59ee47837da", func := "loop.example/g01618/laws.FnExactApplyOp", spec := "fnExactApplyOp", inPlace := ["slices.overlaps[loop.example/g01618/impl.Node]"], apart := false }
def FnExactApplyOpSaid : Prop := fnExactApplyOpRow.holds Try.pinned (OpenSpec.ofChange fnExactApplyOpSpec)

/-- ITS FALSE NEIGHBOUR: 'it returns false'. Refute it at one input. -/
def fnExactApplyOpWrong : ChangeSpec := { name := "fnExactApplyOp", fn := fun _ => fun
  | [d1, d2] => { results := [.lit (.bool false)], args := [d1, d2] }
  | _ => none }
def FnExactApplyOpWrongFalsely : Prop := fnExactApplyOpRow.holds Try.pinned (OpenSpec.ofChange fnExactApplyOpWrong)

/-- 'laws.FnExactApplyAll': WHATEVER THE INPUT: true; the input reads as it did. -/
def fnExactApplyAllSpec : ChangeSpec := { name := "fnExactApplyAll", fn := fun _ => fun
  | [d1, d2] => { results := [.lit (.bool true)], args := [d1, d2] }
  | _ => none }
def fnExactApplyAllRow : OpenClaim := { program := "ytbifdckfglejkaa", sum := "04457a1a2ddf318862772ab5dac63bea97915d0844ad862d65adb59ee47837da", func := "loop.example/g01618/laws.FnExactApplyAll", spec := "fnExactApplyAll", inPlace := ["slices.overlaps[loop.example/g01618/impl.Node]"], apart := false }
def FnExactApplyAllSaid : Prop := fnExactApplyAllRow.holds Try.pinned (OpenSpec.ofChange fnExactApplyAllSpec)

/-- ITS FALSE NEIGHBOUR: 'it returns false'. Refute it at one input. -/
def fnExactApplyAllWrong : ChangeSpec := { name := "fnExactApplyAll", fn := fun _ => fun
  | [d1, d2] => { results := [.lit (.bool false)], args := [d1, d2] }
  | _ => none }
def FnExactApplyAllWrongFalsely : Prop := fnExactApplyAllRow.holds Try.pinned (OpenSpec.ofChange fnExactApplyAllWrong)

/-- 'laws.FnExactScriptCost': WHATEVER THE INPUT: true; the input reads as it did. -/
def fnExactScriptCostSpec : ChangeSpec := { name := "fnExactScriptCost", fn := fun _ => fun
  | [d1, d2, d3] => { results := [.lit (.bool true)], args := [d1, d2, d3] }
  | _ => none }
def fnExactScriptCostRow : OpenClaim := { program := "ytbifdckfglejkaa", sum := "04457a1a2ddf318862772ab5dac63bea97915d0844ad862d65adb59ee47837da", func := "loop.example/g01618/laws.FnExactScriptCost", spec := "fnExactScriptCost", inPlace := ["slices.overlaps[loop.example/g01618/impl.Node]"], unfollowed := true, recurses := true, apart := false }
def FnExactScriptCostSaid : Prop := fnExactScriptCostRow.holds Try.pinned (OpenSpec.ofChange fnExactScriptCostSpec)

/-- ITS FALSE NEIGHBOUR: 'it returns false'. Refute it at one input. -/
def fnExactScriptCostWrong : ChangeSpec := { name := "fnExactScriptCost", fn := fun _ => fun
  | [d1, d2, d3] => { results := [.lit (.bool false)], args := [d1, d2, d3] }
  | _ => none }
def FnExactScriptCostWrongFalsely : Prop := fnExactScriptCostRow.holds Try.pinned (OpenSpec.ofChange fnExactScriptCostWrong)

/-- 'laws.FnSplice': WHATEVER THE INPUT: true; the input reads as it did. -/
def fnSpliceSpec : ChangeSpec := { name := "fnSplice", fn := fun _ => fun
  | [d] => { results := [.lit (.bool true)], args := [d] }
  | _ => none }
def fnSpliceRow : OpenClaim := { program := "ytbifdckfglejkaa", sum := "04457a1a2ddf318862772ab5dac63bea97915d0844ad862d65adb59ee47837da", func := "loop.example/g01618/laws.FnSplice", spec := "fnSplice", inPlace := ["slices.overlaps[loop.example/g01618/impl.Node]"], apart := false }
def FnSpliceSaid : Prop := fnSpliceRow.holds Try.pinned (OpenSpec.ofChange fnSpliceSpec)

/-- ITS FALSE NEIGHBOUR: 'it returns false'. Refute it at one input. -/
def fnSpliceWrong : ChangeSpec := { name := "fnSplice", fn := fun _ => fun
  | [d] => { results := [.lit (.bool false)], args := [d] }
  | _ => none }
def FnSpliceWrongFalsely : Prop := fnSpliceRow.holds Try.pinned (OpenSpec.ofChange fnSpliceWrong)

/-- 'laws.FnApplied': WHATEVER THE INPUT: true; the input reads as it did. -/
def fnAppliedSpec : ChangeSpec := { name := "fnApplied", fn := fun _ => fun
  | [d] => { results := [.lit (.bool true)], args := [d] }
  | _ => none }
def fnAppliedRow : OpenClaim := { program := "ytbifdckfglejkaa", sum := "04457a1a2ddf318862772ab5dac63bea97915d0844ad862d65adb59ee47837da", func := "loop.example/g01618/laws.FnApplied", spec := "fnApplied", inPlace := ["slices.overlaps[loop.example/g01618/impl.Node]"], apart := false }
def FnAppliedSaid : Prop := fnAppliedRow.holds Try.pinned (OpenSpec.ofChange fnAppliedSpec)

/-- ITS FALSE NEIGHBOUR: 'it returns false'. Refute it at one input. -/
def fnAppliedWrong : ChangeSpec := { name := "fnApplied", fn := fun _ => fun
  | [d] => { results := [.lit (.bool false)], args := [d] }
  | _ => none }
def FnAppliedWrongFalsely : Prop := fnAppliedRow.holds Try.pinned (OpenSpec.ofChange fnAppliedWrong)

/- THE SECOND FORM. 'bulk': how many values and letters a reading holds, each counted each time it is reached (what is shared counts as often as it is met; a slice's spare places count too). A statement '..UptoSaid' is the law's where the arguments, and the package variables that the reading takes, are together of bulk at most 1048576: NARROWER than '..Said'. Prove '..Said' where nothing that the law and all that it calls make is longer than what came in: it says more and counts as full. Else prove '..UptoSaid'. A law counts once. -/
mutual
def uptoBulk {H : Type} : DataW H → Nat
  | .lit (.string bytes) => bytes.length + 1
  | .lit _ => 1
  | .nil => 1
  | .ptr d => uptoBulk d + 1
  | .slice elems spare => uptoBulkAll elems + uptoBulkAll spare + 1
  | .agg parts => uptoBulkAll parts + 1
  | .iface _ d => uptoBulk d + 1
  | .map entries => uptoBulkEntries entries + 1
  | .held _ => 1
def uptoBulkAll {H : Type} : List (DataW H) → Nat
  | [] => 0
  | d :: r => uptoBulk d + uptoBulkAll r
def uptoBulkEntries {H : Type} : List (Lit × DataW H) → Nat
  | [] => 0
  | x :: r => uptoBulkEntry x + uptoBulkEntries r
def uptoBulkEntry {H : Type} : Lit × DataW H → Nat
  | (.string bytes, d) => bytes.length + uptoBulk d + 1
  | (_, d) => uptoBulk d + 1
 end
def uptoSmall : (H : Type) → List (DataW H) → Bool := fun _ ds => decide (uptoBulkAll ds ≤ 1048576)
def OpenSpec.upto (s : _root_.Go.ChangeSpec) : _root_.Go.OpenSpec := { _root_.Go.OpenSpec.ofChange s with cond := some uptoSmall }

/-- 'laws.FnExactDomOk', WHERE WHAT IT READS IS OF BULK AT MOST 1048576: true; the input reads as it did. -/
def fnExactDomOkUptoRow : OpenClaim := { program := "ytbifdckfglejkaa", sum := "04457a1a2ddf318862772ab5dac63bea97915d0844ad862d65adb59ee47837da", func := "loop.example/g01618/laws.FnExactDomOk", spec := "fnExactDomOk", recurses := true, apart := false, narrowed := true }
def FnExactDomOkUptoSaid : Prop := fnExactDomOkUptoRow.holds Try.pinned (OpenSpec.upto fnExactDomOkSpec)

/-- 'laws.FnExactDomSize', WHERE WHAT IT READS IS OF BULK AT MOST 1048576: true; the input reads as it did. -/
def fnExactDomSizeUptoRow : OpenClaim := { program := "ytbifdckfglejkaa", sum := "04457a1a2ddf318862772ab5dac63bea97915d0844ad862d65adb59ee47837da", func := "loop.example/g01618/laws.FnExactDomSize", spec := "fnExactDomSize", recurses := true, apart := false, narrowed := true }
def FnExactDomSizeUptoSaid : Prop := fnExactDomSizeUptoRow.holds Try.pinned (OpenSpec.upto fnExactDomSizeSpec)

/-- 'laws.FnExactDomTree', WHERE WHAT IT READS IS OF BULK AT MOST 1048576: true; the input reads as it did. -/
def fnExactDomTreeUptoRow : OpenClaim := { program := "ytbifdckfglejkaa", sum := "04457a1a2ddf318862772ab5dac63bea97915d0844ad862d65adb59ee47837da", func := "loop.example/g01618/laws.FnExactDomTree", spec := "fnExactDomTree", recurses := true, apart := false, narrowed := true }
def FnExactDomTreeUptoSaid : Prop := fnExactDomTreeUptoRow.holds Try.pinned (OpenSpec.upto fnExactDomTreeSpec)

/-- 'laws.FnExactDomFind', WHERE WHAT IT READS IS OF BULK AT MOST 1048576: true; the input reads as it did. -/
def fnExactDomFindUptoRow : OpenClaim := { program := "ytbifdckfglejkaa", sum := "04457a1a2ddf318862772ab5dac63bea97915d0844ad862d65adb59ee47837da", func := "loop.example/g01618/laws.FnExactDomFind", spec := "fnExactDomFind", recurses := true, apart := false, narrowed := true }
def FnExactDomFindUptoSaid : Prop := fnExactDomFindUptoRow.holds Try.pinned (OpenSpec.upto fnExactDomFindSpec)

/-- 'laws.FnExactMapCost', WHERE WHAT IT READS IS OF BULK AT MOST 1048576: true; the input reads as it did. -/
def fnExactMapCostUptoRow : OpenClaim := { program := "ytbifdckfglejkaa", sum := "04457a1a2ddf318862772ab5dac63bea97915d0844ad862d65adb59ee47837da", func := "loop.example/g01618/laws.FnExactMapCost", spec := "fnExactMapCost", unfollowed := true, recurses := true, apart := false, narrowed := true }
def FnExactMapCostUptoSaid : Prop := fnExactMapCostUptoRow.holds Try.pinned (OpenSpec.upto fnExactMapCostSpec)

/-- 'laws.FnExactLeastCost', WHERE WHAT IT READS IS OF BULK AT MOST 1048576: true; the input reads as it did. -/
def fnExactLeastCostUptoRow : OpenClaim := { program := "ytbifdckfglejkaa", sum := "04457a1a2ddf318862772ab5dac63bea97915d0844ad862d65adb59ee47837da", func := "loop.example/g01618/laws.FnExactLeastCost", spec := "fnExactLeastCost", unfollowed := true, recurses := true, apart := false, narrowed := true }
def FnExactLeastCostUptoSaid : Prop := fnExactLeastCostUptoRow.holds Try.pinned (OpenSpec.upto fnExactLeastCostSpec)

/-- 'laws.FnExactApplyOp', WHERE WHAT IT READS IS OF BULK AT MOST 1048576: true; the input reads as it did. -/
def fnExactApplyOpUptoRow : OpenClaim := { program := "ytbifdckfglejkaa", sum := "04457a1a2ddf318862772ab5dac63bea97915d0844ad862d65adb59ee47837da", func := "loop.example/g01618/laws.FnExactApplyOp", spec := "fnExactApplyOp", inPlace := ["slices.overlaps[loop.example/g01618/impl.Node]"], apart := false, narrowed := true }
def FnExactApplyOpUptoSaid : Prop := fnExactApplyOpUptoRow.holds Try.pinned (OpenSpec.upto fnExactApplyOpSpec)

/-- 'laws.FnExactApplyAll', WHERE WHAT IT READS IS OF BULK AT MOST 1048576: true; the input reads as it did. -/
def fnExactApplyAllUptoRow : OpenClaim := { program := "ytbifdckfglejkaa", sum := "04457a1a2ddf318862772ab5dac63bea97915d0844ad862d65adb59ee47837da", func := "loop.example/g01618/laws.FnExactApplyAll", spec := "fnExactApplyAll", inPlace := ["slices.overlaps[loop.example/g01618/impl.Node]"], apart := false, narrowed := true }
def FnExactApplyAllUptoSaid : Prop := fnExactApplyAllUptoRow.holds Try.pinned (OpenSpec.upto fnExactApplyAllSpec)

/-- 'laws.FnExactScriptCost', WHERE WHAT IT READS IS OF BULK AT MOST 1048576: true; the input reads as it did. -/
def fnExactScriptCostUptoRow : OpenClaim := { program := "ytbifdckfglejkaa", sum := "04457a1a2ddf318862772ab5dac63bea97915d0844ad862d65adb59ee47837da", func := "loop.example/g01618/laws.FnExactScriptCost", spec := "fnExactScriptCost", inPlace := ["slices.overlaps[loop.example/g01618/impl.Node]"], unfollowed := true, recurses := true, apart := false, narrowed := true }
def FnExactScriptCostUptoSaid : Prop := fnExactScriptCostUptoRow.holds Try.pinned (OpenSpec.upto fnExactScriptCostSpec)

/-- 'laws.FnSplice', WHERE WHAT IT READS IS OF BULK AT MOST 1048576: true; the input reads as it did. -/
def fnSpliceUptoRow : OpenClaim := { program := "ytbifdckfglejkaa", sum := "04457a1a2ddf318862772ab5dac63bea97915d0844ad862d65adb59ee47837da", func := "loop.example/g01618/laws.FnSplice", spec := "fnSplice", inPlace := ["slices.overlaps[loop.example/g01618/impl.Node]"], apart := false, narrowed := true }
def FnSpliceUptoSaid : Prop := fnSpliceUptoRow.holds Try.pinned (OpenSpec.upto fnSpliceSpec)

/-- 'laws.FnApplied', WHERE WHAT IT READS IS OF BULK AT MOST 1048576: true; the input reads as it did. -/
def fnAppliedUptoRow : OpenClaim := { program := "ytbifdckfglejkaa", sum := "04457a1a2ddf318862772ab5dac63bea97915d0844ad862d65adb59ee47837da", func := "loop.example/g01618/laws.FnApplied", spec := "fnApplied", inPlace := ["slices.overlaps[loop.example/g01618/impl.Node]"], apart := false, narrowed := true }
def FnAppliedUptoSaid : Prop := fnAppliedUptoRow.holds Try.pinned (OpenSpec.upto fnAppliedSpec)

end Rows
end Go.Proofs.Ytbifdckfglejkaa
