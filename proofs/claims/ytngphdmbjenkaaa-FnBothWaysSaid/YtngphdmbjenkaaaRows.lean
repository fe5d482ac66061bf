/-
  No cell of these rows narrows 'for every input' (looked for: loops, veiled, ifaces, maps, wideKeys, modest, calm, conditions, laid).
  DERIVED. THE GIVEN ROWS OF THIS SEAT. 9 by the template 'for every input the law returns true; each argument reads behind the call as it read before'; 0 by the template 'total and deterministic' (their statements: YtngphdmbjenkaaaTotals.lean).
  GIVEN WITH THE SEED: the statements are not yours to turn. If you find one false, say at which input.
  Laid BY PROGRAM, IN A SANDBOX (cutbox-rows.mjs): the forced cells as the released guide's own fill.sh prints them over the translation e3c963e7b237a7dd… (all of the seat's roots in one cut). By AI agents, Wed Nov 11 2026. No macro, syntax, notation, axiom, sorry.
-/
import Derived.Test.YtngphdmbjenkaaaChecked
import GoSem.Claim
import GoSem.ClaimJoined
import GoSem.ClaimMapViews
import Derived.JoinedTies
import Derived.KernelRfl
namespace Go.Proofs.Ytngphdmbjenkaaa
/- THE CELL 'sum', in the pinned program and in every row, IS THE sha256 OF THE DUMP (.gsa) THAT YtngphdmbjenkaaaProg.lean LOADS. Nothing in Lean hashes anything: it is a label: what it is worth is what the hold of that sum in a sandbox is worth. -/
noncomputable def Try.pinned : Pinned := { name := "ytngphdmbjenkaaa", sum := "e3c963e7b237a7dd6e1c13c080ff64b642cd59b5716e0958fa7a70a43173a222", checked := Try.checked }
namespace Rows
def none {H : Type} : Left H := { results := [], args := [] }

/-- 'laws.FnLeast': WHATEVER THE INPUT: true; the input reads as it did. -/
def fnLeastSpec : ChangeSpec := { name := "fnLeast", fn := fun _ => fun
  | [d] => { results := [.lit (.bool true)], args := [d] }
  | _ => none }
def fnLeastRow : OpenClaim := { program := "ytngphdmbjenkaaa", sum := "e3c963e7b237a7dd6e1c13c080ff64b642cd59b5716e0958fa7a70a43173a222", func := "loop.example/g01618/laws.FnLeast", spec := "fnLeast", unfollowed := true, recurses := true, plainKeys := false, apart := false }
def FnLeastSaid : Prop := fnLeastRow.holds Try.pinned (OpenSpec.ofChange fnLeastSpec)

/-- ITS FALSE NEIGHBOUR: 'it returns false'. Refute it at one input. -/
def fnLeastWrong : ChangeSpec := { name := "fnLeast", fn := fun _ => fun
  | [d] => { results := [.lit (.bool false)], args := [d] }
  | _ => none }
def FnLeastWrongFalsely : Prop := fnLeastRow.holds Try.pinned (OpenSpec.ofChange fnLeastWrong)

/-- 'laws.FnTriangle': WHATEVER THE INPUT: true; the input reads as it did. -/
def fnTriangleSpec : ChangeSpec := { name := "fnTriangle", fn := fun _ => fun
  | [d] => { results := [.lit (.bool true)], args := [d] }
  | _ => none }
def fnTriangleRow : OpenClaim := { program := "ytngphdmbjenkaaa", sum := "e3c963e7b237a7dd6e1c13c080ff64b642cd59b5716e0958fa7a70a43173a222", func := "loop.example/g01618/laws.FnTriangle", spec := "fnTriangle", unfollowed := true, recurses := true, plainKeys := false, apart := false }
def FnTriangleSaid : Prop := fnTriangleRow.holds Try.pinned (OpenSpec.ofChange fnTriangleSpec)

/-- ITS FALSE NEIGHBOUR: 'it returns false'. Refute it at one input. -/
def fnTriangleWrong : ChangeSpec := { name := "fnTriangle", fn := fun _ => fun
  | [d] => { results := [.lit (.bool false)], args := [d] }
  | _ => none }
def FnTriangleWrongFalsely : Prop := fnTriangleRow.holds Try.pinned (OpenSpec.ofChange fnTriangleWrong)

/-- 'laws.FnScaled': WHATEVER THE INPUT: true; the input reads as it did. -/
def fnScaledSpec : ChangeSpec := { name := "fnScaled", fn := fun _ => fun
  | [d] => { results := [.lit (.bool true)], args := [d] }
  | _ => none }
def fnScaledRow : OpenClaim := { program := "ytngphdmbjenkaaa", sum := "e3c963e7b237a7dd6e1c13c080ff64b642cd59b5716e0958fa7a70a43173a222", func := "loop.example/g01618/laws.FnScaled", spec := "fnScaled", unfollowed := true, recurses := true, plainKeys := false, apart := false }
def FnScaledSaid : Prop := fnScaledRow.holds Try.pinned (OpenSpec.ofChange fnScaledSpec)

/-- ITS FALSE NEIGHBOUR: 'it returns false'. Refute it at one input. -/
def fnScaledWrong : ChangeSpec := { name := "fnScaled", fn := fun _ => fun
  | [d] => { results := [.lit (.bool false)], args := [d] }
  | _ => none }
def FnScaledWrongFalsely : Prop := fnScaledRow.holds Try.pinned (OpenSpec.ofChange fnScaledWrong)

/-- 'laws.FnComposed': WHATEVER THE INPUT: true; the input reads as it did. -/
def fnComposedSpec : ChangeSpec := { name := "fnComposed", fn := fun _ => fun
  | [d] => { results := [.lit (.bool true)], args := [d] }
  | _ => none }
def fnComposedRow : OpenClaim := { program := "ytngphdmbjenkaaa", sum := "e3c963e7b237a7dd6e1c13c080ff64b642cd59b5716e0958fa7a70a43173a222", func := "loop.example/g01618/laws.FnComposed", spec := "fnComposed", unfollowed := true, recurses := true, plainKeys := false, apart := false }
def FnComposedSaid : Prop := fnComposedRow.holds Try.pinned (OpenSpec.ofChange fnComposedSpec)

/-- ITS FALSE NEIGHBOUR: 'it returns false'. Refute it at one input. -/
def fnComposedWrong : ChangeSpec := { name := "fnComposed", fn := fun _ => fun
  | [d] => { results := [.lit (.bool false)], args := [d] }
  | _ => none }
def FnComposedWrongFalsely : Prop := fnComposedRow.holds Try.pinned (OpenSpec.ofChange fnComposedWrong)

/-- 'laws.FnBothWays': WHATEVER THE INPUT: true; the input reads as it did. -/
def fnBothWaysSpec : ChangeSpec := { name := "fnBothWays", fn := fun _ => fun
  | [d] => { results := [.lit (.bool true)], args := [d] }
  | _ => none }
def fnBothWaysRow : OpenClaim := { program := "ytngphdmbjenkaaa", sum := "e3c963e7b237a7dd6e1c13c080ff64b642cd59b5716e0958fa7a70a43173a222", func := "loop.example/g01618/laws.FnBothWays", spec := "fnBothWays", unfollowed := true, recurses := true, plainKeys := false, apart := false }
def FnBothWaysSaid : Prop := fnBothWaysRow.holds Try.pinned (OpenSpec.ofChange fnBothWaysSpec)

/-- ITS FALSE NEIGHBOUR: 'it returns false'. Refute it at one input. -/
def fnBothWaysWrong : ChangeSpec := { name := "fnBothWays", fn := fun _ => fun
  | [d] => { results := [.lit (.bool false)], args := [d] }
  | _ => none }
def FnBothWaysWrongFalsely : Prop := fnBothWaysRow.holds Try.pinned (OpenSpec.ofChange fnBothWaysWrong)

/-- 'laws.FnOps': WHATEVER THE INPUT: true; the input reads as it did. -/
def fnOpsSpec : ChangeSpec := { name := "fnOps", fn := fun _ => fun
  | [d] => { results := [.lit (.bool true)], args := [d] }
  | _ => none }
def fnOpsRow : OpenClaim := { program := "ytngphdmbjenkaaa", sum := "e3c963e7b237a7dd6e1c13c080ff64b642cd59b5716e0958fa7a70a43173a222", func := "loop.example/g01618/laws.FnOps", spec := "fnOps", inPlace := ["slices.overlaps[loop.example/g01618/impl.Node]"], unfollowed := true, recurses := true, plainKeys := false, apart := false }
def FnOpsSaid : Prop := fnOpsRow.holds Try.pinned (OpenSpec.ofChange fnOpsSpec)

/-- ITS FALSE NEIGHBOUR: 'it returns false'. Refute it at one input. -/
def fnOpsWrong : ChangeSpec := { name := "fnOps", fn := fun _ => fun
  | [d] => { results := [.lit (.bool false)], args := [d] }
  | _ => none }
def FnOpsWrongFalsely : Prop := fnOpsRow.holds Try.pinned (OpenSpec.ofChange fnOpsWrong)

/-- 'laws.FnBest': WHATEVER THE INPUT: true; the input reads as it did. -/
def fnBestSpec : ChangeSpec := { name := "fnBest", fn := fun _ => fun
  | [d] => { results := [.lit (.bool true)], args := [d] }
  | _ => none }
def fnBestRow : OpenClaim := { program := "ytngphdmbjenkaaa", sum := "e3c963e7b237a7dd6e1c13c080ff64b642cd59b5716e0958fa7a70a43173a222", func := "loop.example/g01618/laws.FnBest", spec := "fnBest", unfollowed := true, recurses := true, plainKeys := false, apart := false }
def FnBestSaid : Prop := fnBestRow.holds Try.pinned (OpenSpec.ofChange fnBestSpec)

/-- ITS FALSE NEIGHBOUR: 'it returns false'. Refute it at one input. -/
def fnBestWrong : ChangeSpec := { name := "fnBest", fn := fun _ => fun
  | [d] => { results := [.lit (.bool false)], args := [d] }
  | _ => none }
def FnBestWrongFalsely : Prop := fnBestRow.holds Try.pinned (OpenSpec.ofChange fnBestWrong)

/-- 'laws.FnChain': WHATEVER THE INPUT: true; the input reads as it did. -/
def fnChainSpec : ChangeSpec := { name := "fnChain", fn := fun _ => fun
  | [d] => { results := [.lit (.bool true)], args := [d] }
  | _ => none }
def fnChainRow : OpenClaim := { program := "ytngphdmbjenkaaa", sum := "e3c963e7b237a7dd6e1c13c080ff64b642cd59b5716e0958fa7a70a43173a222", func := "loop.example/g01618/laws.FnChain", spec := "fnChain", inPlace := ["slices.overlaps[loop.example/g01618/impl.Node]"], unfollowed := true, recurses := true, plainKeys := false, apart := false }
def FnChainSaid : Prop := fnChainRow.holds Try.pinned (OpenSpec.ofChange fnChainSpec)

/-- ITS FALSE NEIGHBOUR: 'it returns false'. Refute it at one input. -/
def fnChainWrong : ChangeSpec := { name := "fnChain", fn := fun _ => fun
  | [d] => { results := [.lit (.bool false)], args := [d] }
  | _ => none }
def FnChainWrongFalsely : Prop := fnChainRow.holds Try.pinned (OpenSpec.ofChange fnChainWrong)

/-- 'laws.FnExactSameOps': WHATEVER THE INPUT: true; the input reads as it did. -/
def fnExactSameOpsSpec : ChangeSpec := { name := "fnExactSameOps", fn := fun _ => fun
  | [d1, d2] => { results := [.lit (.bool true)], args := [d1, d2] }
  | _ => none }
def fnExactSameOpsRow : OpenClaim := { program := "ytngphdmbjenkaaa", sum := "e3c963e7b237a7dd6e1c13c080ff64b642cd59b5716e0958fa7a70a43173a222", func := "loop.example/g01618/laws.FnExactSameOps", spec := "fnExactSameOps", unfollowed := true, recurses := true, plainKeys := false, apart := false }
def FnExactSameOpsSaid : Prop := fnExactSameOpsRow.holds Try.pinned (OpenSpec.ofChange fnExactSameOpsSpec)

/-- ITS FALSE NEIGHBOUR: 'it returns false'. Refute it at one input. -/
def fnExactSameOpsWrong : ChangeSpec := { name := "fnExactSameOps", fn := fun _ => fun
  | [d1, d2] => { results := [.lit (.bool false)], args := [d1, d2] }
  | _ => none }
def FnExactSameOpsWrongFalsely : Prop := fnExactSameOpsRow.holds Try.pinned (OpenSpec.ofChange fnExactSameOpsWrong)

/- THE SECOND FORM. 'bulk': how many values and letters a reading holds, each counted each time it is reached (what is shared counts as often as it is met; a slice's spare places count too). A statement '..UptoSaid' is the law's where the arguments, and the package variables that the reading takes, are together of bulk at most 1048576: NARROWER than '..Said'. Prove '..Said' where nothing that the law and all that it calls make is longer than what came in: it says more and counts as full. Else prove '..UptoSaid'. A law counts once. -/
mutual
def uptoBulk {H : Type} : DataW H → Nat
  | .lit (.string bytes) => bytes.length + 1
  | .lit _ => 1
  | .nil => 1
  | .ptr d => uptoBulk d + 1
  | .slice elems spare => uptoBulkAll elems + uptoBulkAll spare + 1
  | .agg parts => uptoBulkAll parts + 1
  | .iface _ d => uptoBulk d + 1
  | .map entries => uptoBulkEntries entries + 1
  | .held _ => 1
def uptoBulkAll {H : Type} : List (DataW H) → Nat
  | [] => 0
  | d :: r => uptoBulk d + uptoBulkAll r
def uptoBulkEntries {H : Type} : List (Lit × DataW H) → Nat
  | [] => 0
  | x :: r => uptoBulkEntry x + uptoBulkEntries r
def uptoBulkEntry {H : Type} : Lit × DataW H → Nat
  | (.string bytes, d) => bytes.length + uptoBulk d + 1
  | (_, d) => uptoBulk d + 1
 end
def uptoSmall : (H : Type) → List (DataW H) → Bool := fun _ ds => decide (uptoBulkAll ds ≤ 1048576)
def OpenSpec.upto (s : _root_.Go.ChangeSpec) : _root_.Go.OpenSpec := { _root_.Go.OpenSpec.ofChange s with cond := some uptoSmall }

/-- 'laws.FnLeast', WHERE WHAT IT READS IS OF BULK AT MOST 1048576: true; the input reads as it did. -/
def fnLeastUptoRow : OpenClaim := { program := "ytngphdmbjenkaaa", sum := "e3c963e7b237a7dd6e1c13c080ff64b642cd59b5716e0958fa7a70a43173a222", func := "loop.example/g01618/laws.FnLeast", spec := "fnLeast", unfollowed := true, recurses := true, plainKeys := false, apart := false, narrowed := true }
def FnLeastUptoSaid : Prop := fnLeastUptoRow.holds Try.pinned (OpenSpec.upto fnLeastSpec)

/-- 'laws.FnTriangle', WHERE WHAT IT READS IS OF BULK AT MOST 1048576: true; the input reads as it did. -/
def fnTriangleUptoRow : OpenClaim := { program := "ytngphdmbjenkaaa", sum := "e3c963e7b237a7dd6e1c13c080ff64b642cd59b5716e0958fa7a70a43173a222", func := "loop.example/g01618/laws.FnTriangle", spec := "fnTriangle", unfollowed := true, recurses := true, plainKeys := false, apart := false, narrowed := true }
def FnTriangleUptoSaid : Prop := fnTriangleUptoRow.holds Try.pinned (OpenSpec.upto fnTriangleSpec)

/-- 'laws.FnScaled', WHERE WHAT IT READS IS OF BULK AT MOST 1048576: true; the input reads as it did. -/
def fnScaledUptoRow : OpenClaim := { program := "ytngphdmbjenkaaa", sum := "e3c963e7b237a7dd6e1c13c080ff64b642cd59b5716e0958fa7a70a43173a222", func := "loop.example/g01618/laws.FnScaled", spec := "fnScaled", unfollowed := true, recurses := true, plainKeys := false, apart := false, narrowed := true }
def FnScaledUptoSaid : Prop := fnScaledUptoRow.holds Try.pinned (OpenSpec.upto fnScaledSpec)

/-- 'laws.FnComposed', WHERE WHAT IT READS IS OF BULK AT MOST 1048576: true; the input reads as it did. -/
def fnComposedUptoRow : OpenClaim := { program := "ytngphdmbjenkaaa", sum := "e3c963e7b237a7dd6e1c13c080ff64b642cd59b5716e0958fa7a70a43173a222", func := "loop.example/g01618/laws.FnComposed", spec := "fnComposed", unfollowed := true, recurses := true, plainKeys := false, apart := false, narrowed := true }
def FnComposedUptoSaid : Prop := fnComposedUptoRow.holds Try.pinned (OpenSpec.upto fnComposedSpec)

/-- 'laws.FnBothWays', WHERE WHAT IT READS IS OF BULK AT MOST 1048576: true; the input reads as it did. -/
def fnBothWaysUptoRow : OpenClaim := { program := "ytngphdmbjenkaaa", sum := "e3c963e7b237a7dd6e1c13c080ff64b642cd59b5716e0958fa7a70a43173a222", func := "loop.example/g01618/laws.FnBothWays", spec := "fnBothWays", unfollowed := true, recurses := true, plainKeys := false, apart := false, narrowed := true }
def FnBothWaysUptoSaid : Prop := fnBothWaysUptoRow.holds Try.pinned (OpenSpec.upto fnBothWaysSpec)

/-- 'laws.FnOps', WHERE WHAT IT READS IS OF BULK AT MOST 1048576: true; the input reads as it did. -/
def fnOpsUptoRow : OpenClaim := { program := "ytngphdmbjenkaaa", sum := "e3c963e7b237a7dd6e1c13c080ff64b642cd59b5716e0958fa7a70a43173a222", func := "loop.example/g01618/laws.FnOps", spec := "fnOps", inPlace := ["slices.overlaps[loop.example/g01618/impl.Node]"], unfollowed := true, recurses := true, plainKeys := false, apart := false, narrowed := true }
def FnOpsUptoSaid : Prop := fnOpsUptoRow.holds Try.pinned (OpenSpec.upto fnOpsSpec)

/-- 'laws.FnBest', WHERE WHAT IT READS IS OF BULK AT MOST 1048576: true; the input reads as it did. -/
def fnBestUptoRow : OpenClaim := { program := "ytngphdmbjenkaaa", sum := "e3c963e7b237a7dd6e1c13c080ff64b642cd59b5716e0958fa7a70a43173a222", func := "loop.example/g01618/laws.FnBest", spec := "fnBest", unfollowed := true, recurses := true, plainKeys := false, apart := false, narrowed := true }
def FnBestUptoSaid : Prop := fnBestUptoRow.holds Try.pinned (OpenSpec.upto fnBestSpec)

/-- 'laws.FnChain', WHERE WHAT IT READS IS OF BULK AT MOST 1048576: true; the input reads as it did. -/
def fnChainUptoRow : OpenClaim := { program := "ytngphdmbjenkaaa", sum := "e3c963e7b237a7dd6e1c13c080ff64b642cd59b5716e0958fa7a70a43173a222", func := "loop.example/g01618/laws.FnChain", spec := "fnChain", inPlace := ["slices.overlaps[loop.example/g01618/impl.Node]"], unfollowed := true, recurses := true, plainKeys := false, apart := false, narrowed := true }
def FnChainUptoSaid : Prop := fnChainUptoRow.holds Try.pinned (OpenSpec.upto fnChainSpec)

/-- 'laws.FnExactSameOps', WHERE WHAT IT READS IS OF BULK AT MOST 1048576: true; the input reads as it did. -/
def fnExactSameOpsUptoRow : OpenClaim := { program := "ytngphdmbjenkaaa", sum := "e3c963e7b237a7dd6e1c13c080ff64b642cd59b5716e0958fa7a70a43173a222", func := "loop.example/g01618/laws.FnExactSameOps", spec := "fnExactSameOps", unfollowed := true, recurses := true, plainKeys := false, apart := false, narrowed := true }
def FnExactSameOpsUptoSaid : Prop := fnExactSameOpsUptoRow.holds Try.pinned (OpenSpec.upto fnExactSameOpsSpec)

end Rows
end Go.Proofs.Ytngphdmbjenkaaa
