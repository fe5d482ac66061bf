/-
  No cell of these rows narrows 'for every input' (looked for: loops, veiled, ifaces, maps, wideKeys, modest, calm, conditions, laid).
  DERIVED. THE GIVEN ROWS OF THIS SEAT. 9 by the template 'for every input the law returns true; each argument reads behind the call as it read before'; 0 by the template 'total and deterministic' (their statements: YtelglbebffdaaaaTotals.lean).
  GIVEN WITH THE SEED: the statements are not yours to turn. If you find one false, say at which input.
  Laid BY PROGRAM, IN A SANDBOX (cutbox-rows.mjs): the forced cells as the released guide's own fill.sh prints them over the translation 2d5350bcdbfce2cc… (all of the seat's roots in one cut). By AI agents, Wed Nov 11 2026. No macro, syntax, notation, axiom, sorry.
-/
import Derived.Test.YtelglbebffdaaaaChecked
import GoSem.Claim
import GoSem.ClaimJoined
import GoSem.ClaimMapViews
import Derived.JoinedTies
import Derived.KernelRfl
namespace Go.Proofs.Ytelglbebffdaaaa
/- THE CELL 'sum', in the pinned program and in every row, IS THE sha256 OF THE DUMP (.gsa) THAT YtelglbebffdaaaaProg.lean LOADS. Nothing in Lean hashes anything: it is a label: what it is worth is what the hold of that sum in a sandbox is worth. -/
noncomputable def Try.pinned : Pinned := { name := "ytelglbebffdaaaa", sum := "2d5350bcdbfce2cce3cb4efa2b8a83a8476b377de749f25f02e204fdb423478e", checked := Try.checked }
namespace Rows
def none {H : Type} : Left H := { results := [], args := [] }

/-- 'laws.FnExactForestDist': WHATEVER THE INPUT: true; the input reads as it did. -/
def fnExactForestDistSpec : ChangeSpec := { name := "fnExactForestDist", fn := fun _ => fun
  | [d1, d2, d3, d4, d5, d6, d7] => { results := [.lit (.bool true)], args := [d1, d2, d3, d4, d5, d6, d7] }
  | _ => none }
def fnExactForestDistRow : OpenClaim := { program := "ytelglbebffdaaaa", sum := "2d5350bcdbfce2cce3cb4efa2b8a83a8476b377de749f25f02e204fdb423478e", func := "loop.example/g01618/laws.FnExactForestDist", spec := "fnExactForestDist", unfollowed := true, recurses := true, plainKeys := false, apart := false }
def FnExactForestDistSaid : Prop := fnExactForestDistRow.holds Try.pinned (OpenSpec.ofChange fnExactForestDistSpec)

/-- ITS FALSE NEIGHBOUR: 'it returns false'. Refute it at one input. -/
def fnExactForestDistWrong : ChangeSpec := { name := "fnExactForestDist", fn := fun _ => fun
  | [d1, d2, d3, d4, d5, d6, d7] => { results := [.lit (.bool false)], args := [d1, d2, d3, d4, d5, d6, d7] }
  | _ => none }
def FnExactForestDistWrongFalsely : Prop := fnExactForestDistRow.holds Try.pinned (OpenSpec.ofChange fnExactForestDistWrong)

/-- 'laws.FnExactSlowDist': WHATEVER THE INPUT: true; the input reads as it did. -/
def fnExactSlowDistSpec : ChangeSpec := { name := "fnExactSlowDist", fn := fun _ => fun
  | [d1, d2, d3] => { results := [.lit (.bool true)], args := [d1, d2, d3] }
  | _ => none }
def fnExactSlowDistRow : OpenClaim := { program := "ytelglbebffdaaaa", sum := "2d5350bcdbfce2cce3cb4efa2b8a83a8476b377de749f25f02e204fdb423478e", func := "loop.example/g01618/laws.FnExactSlowDist", spec := "fnExactSlowDist", unfollowed := true, recurses := true, plainKeys := false, apart := false }
def FnExactSlowDistSaid : Prop := fnExactSlowDistRow.holds Try.pinned (OpenSpec.ofChange fnExactSlowDistSpec)

/-- ITS FALSE NEIGHBOUR: 'it returns false'. Refute it at one input. -/
def fnExactSlowDistWrong : ChangeSpec := { name := "fnExactSlowDist", fn := fun _ => fun
  | [d1, d2, d3] => { results := [.lit (.bool false)], args := [d1, d2, d3] }
  | _ => none }
def FnExactSlowDistWrongFalsely : Prop := fnExactSlowDistRow.holds Try.pinned (OpenSpec.ofChange fnExactSlowDistWrong)

/-- 'laws.FnExactRootDist': WHATEVER THE INPUT: true; the input reads as it did. -/
def fnExactRootDistSpec : ChangeSpec := { name := "fnExactRootDist", fn := fun _ => fun
  | [d1, d2, d3] => { results := [.lit (.bool true)], args := [d1, d2, d3] }
  | _ => none }
def fnExactRootDistRow : OpenClaim := { program := "ytelglbebffdaaaa", sum := "2d5350bcdbfce2cce3cb4efa2b8a83a8476b377de749f25f02e204fdb423478e", func := "loop.example/g01618/laws.FnExactRootDist", spec := "fnExactRootDist", unfollowed := true, recurses := true, plainKeys := false, apart := false }
def FnExactRootDistSaid : Prop := fnExactRootDistRow.holds Try.pinned (OpenSpec.ofChange fnExactRootDistSpec)

/-- ITS FALSE NEIGHBOUR: 'it returns false'. Refute it at one input. -/
def fnExactRootDistWrong : ChangeSpec := { name := "fnExactRootDist", fn := fun _ => fun
  | [d1, d2, d3] => { results := [.lit (.bool false)], args := [d1, d2, d3] }
  | _ => none }
def FnExactRootDistWrongFalsely : Prop := fnExactRootDistRow.holds Try.pinned (OpenSpec.ofChange fnExactRootDistWrong)

/-- 'laws.FnExactTreeDist': WHATEVER THE INPUT: true; the input reads as it did. -/
def fnExactTreeDistSpec : ChangeSpec := { name := "fnExactTreeDist", fn := fun _ => fun
  | [d1, d2, d3] => { results := [.lit (.bool true)], args := [d1, d2, d3] }
  | _ => none }
def fnExactTreeDistRow : OpenClaim := { program := "ytelglbebffdaaaa", sum := "2d5350bcdbfce2cce3cb4efa2b8a83a8476b377de749f25f02e204fdb423478e", func := "loop.example/g01618/laws.FnExactTreeDist", spec := "fnExactTreeDist", unfollowed := true, recurses := true, plainKeys := false, apart := false }
def FnExactTreeDistSaid : Prop := fnExactTreeDistRow.holds Try.pinned (OpenSpec.ofChange fnExactTreeDistSpec)

/-- ITS FALSE NEIGHBOUR: 'it returns false'. Refute it at one input. -/
def fnExactTreeDistWrong : ChangeSpec := { name := "fnExactTreeDist", fn := fun _ => fun
  | [d1, d2, d3] => { results := [.lit (.bool false)], args := [d1, d2, d3] }
  | _ => none }
def FnExactTreeDistWrongFalsely : Prop := fnExactTreeDistRow.holds Try.pinned (OpenSpec.ofChange fnExactTreeDistWrong)

/-- 'laws.FnExactTreeDists': WHATEVER THE INPUT: true; the input reads as it did. -/
def fnExactTreeDistsSpec : ChangeSpec := { name := "fnExactTreeDists", fn := fun _ => fun
  | [d1, d2, d3] => { results := [.lit (.bool true)], args := [d1, d2, d3] }
  | _ => none }
def fnExactTreeDistsRow : OpenClaim := { program := "ytelglbebffdaaaa", sum := "2d5350bcdbfce2cce3cb4efa2b8a83a8476b377de749f25f02e204fdb423478e", func := "loop.example/g01618/laws.FnExactTreeDists", spec := "fnExactTreeDists", unfollowed := true, recurses := true, plainKeys := false, apart := false }
def FnExactTreeDistsSaid : Prop := fnExactTreeDistsRow.holds Try.pinned (OpenSpec.ofChange fnExactTreeDistsSpec)

/-- ITS FALSE NEIGHBOUR: 'it returns false'. Refute it at one input. -/
def fnExactTreeDistsWrong : ChangeSpec := { name := "fnExactTreeDists", fn := fun _ => fun
  | [d1, d2, d3] => { results := [.lit (.bool false)], args := [d1, d2, d3] }
  | _ => none }
def FnExactTreeDistsWrongFalsely : Prop := fnExactTreeDistsRow.holds Try.pinned (OpenSpec.ofChange fnExactTreeDistsWrong)

/-- 'laws.FnExactBestMap': WHATEVER THE INPUT: true; the input reads as it did. -/
def fnExactBestMapSpec : ChangeSpec := { name := "fnExactBestMap", fn := fun _ => fun
  | [d1, d2, d3] => { results := [.lit (.bool true)], args := [d1, d2, d3] }
  | _ => none }
def fnExactBestMapRow : OpenClaim := { program := "ytelglbebffdaaaa", sum := "2d5350bcdbfce2cce3cb4efa2b8a83a8476b377de749f25f02e204fdb423478e", func := "loop.example/g01618/laws.FnExactBestMap", spec := "fnExactBestMap", unfollowed := true, recurses := true, plainKeys := false, apart := false }
def FnExactBestMapSaid : Prop := fnExactBestMapRow.holds Try.pinned (OpenSpec.ofChange fnExactBestMapSpec)

/-- ITS FALSE NEIGHBOUR: 'it returns false'. Refute it at one input. -/
def fnExactBestMapWrong : ChangeSpec := { name := "fnExactBestMap", fn := fun _ => fun
  | [d1, d2, d3] => { results := [.lit (.bool false)], args := [d1, d2, d3] }
  | _ => none }
def FnExactBestMapWrongFalsely : Prop := fnExactBestMapRow.holds Try.pinned (OpenSpec.ofChange fnExactBestMapWrong)

/-- 'laws.FnForests': WHATEVER THE INPUT: true; the input reads as it did. -/
def fnForestsSpec : ChangeSpec := { name := "fnForests", fn := fun _ => fun
  | [d] => { results := [.lit (.bool true)], args := [d] }
  | _ => none }
def fnForestsRow : OpenClaim := { program := "ytelglbebffdaaaa", sum := "2d5350bcdbfce2cce3cb4efa2b8a83a8476b377de749f25f02e204fdb423478e", func := "loop.example/g01618/laws.FnForests", spec := "fnForests", unfollowed := true, recurses := true, plainKeys := false, apart := false }
def FnForestsSaid : Prop := fnForestsRow.holds Try.pinned (OpenSpec.ofChange fnForestsSpec)

/-- ITS FALSE NEIGHBOUR: 'it returns false'. Refute it at one input. -/
def fnForestsWrong : ChangeSpec := { name := "fnForests", fn := fun _ => fun
  | [d] => { results := [.lit (.bool false)], args := [d] }
  | _ => none }
def FnForestsWrongFalsely : Prop := fnForestsRow.holds Try.pinned (OpenSpec.ofChange fnForestsWrong)

/-- 'laws.FnSlow': WHATEVER THE INPUT: true; the input reads as it did. -/
def fnSlowSpec : ChangeSpec := { name := "fnSlow", fn := fun _ => fun
  | [d] => { results := [.lit (.bool true)], args := [d] }
  | _ => none }
def fnSlowRow : OpenClaim := { program := "ytelglbebffdaaaa", sum := "2d5350bcdbfce2cce3cb4efa2b8a83a8476b377de749f25f02e204fdb423478e", func := "loop.example/g01618/laws.FnSlow", spec := "fnSlow", unfollowed := true, recurses := true, plainKeys := false, apart := false }
def FnSlowSaid : Prop := fnSlowRow.holds Try.pinned (OpenSpec.ofChange fnSlowSpec)

/-- ITS FALSE NEIGHBOUR: 'it returns false'. Refute it at one input. -/
def fnSlowWrong : ChangeSpec := { name := "fnSlow", fn := fun _ => fun
  | [d] => { results := [.lit (.bool false)], args := [d] }
  | _ => none }
def FnSlowWrongFalsely : Prop := fnSlowRow.holds Try.pinned (OpenSpec.ofChange fnSlowWrong)

/-- 'laws.FnDists': WHATEVER THE INPUT: true; the input reads as it did. -/
def fnDistsSpec : ChangeSpec := { name := "fnDists", fn := fun _ => fun
  | [d] => { results := [.lit (.bool true)], args := [d] }
  | _ => none }
def fnDistsRow : OpenClaim := { program := "ytelglbebffdaaaa", sum := "2d5350bcdbfce2cce3cb4efa2b8a83a8476b377de749f25f02e204fdb423478e", func := "loop.example/g01618/laws.FnDists", spec := "fnDists", unfollowed := true, recurses := true, plainKeys := false, apart := false }
def FnDistsSaid : Prop := fnDistsRow.holds Try.pinned (OpenSpec.ofChange fnDistsSpec)

/-- ITS FALSE NEIGHBOUR: 'it returns false'. Refute it at one input. -/
def fnDistsWrong : ChangeSpec := { name := "fnDists", fn := fun _ => fun
  | [d] => { results := [.lit (.bool false)], args := [d] }
  | _ => none }
def FnDistsWrongFalsely : Prop := fnDistsRow.holds Try.pinned (OpenSpec.ofChange fnDistsWrong)

/- THE SECOND FORM. 'bulk': how many values and letters a reading holds, each counted each time it is reached (what is shared counts as often as it is met; a slice's spare places count too). A statement '..UptoSaid' is the law's where the arguments, and the package variables that the reading takes, are together of bulk at most 1048576: NARROWER than '..Said'. Prove '..Said' where nothing that the law and all that it calls make is longer than what came in: it says more and counts as full. Else prove '..UptoSaid'. A law counts once. -/
mutual
def uptoBulk {H : Type} : DataW H → Nat
  | .lit (.string bytes) => bytes.length + 1
  | .lit _ => 1
  | .nil => 1
  | .ptr d => uptoBulk d + 1
  | .slice elems spare => uptoBulkAll elems + uptoBulkAll spare + 1
  | .agg parts => uptoBulkAll parts + 1
  | .iface _ d => uptoBulk d + 1
  | .map entries => uptoBulkEntries entries + 1
  | .held _ => 1
def uptoBulkAll {H : Type} : List (DataW H) → Nat
  | [] => 0
  | d :: r => uptoBulk d + uptoBulkAll r
def uptoBulkEntries {H : Type} : List (Lit × DataW H) → Nat
  | [] => 0
  | x :: r => uptoBulkEntry x + uptoBulkEntries r
def uptoBulkEntry {H : Type} : Lit × DataW H → Nat
  | (.string bytes, d) => bytes.length + uptoBulk d + 1
  | (_, d) => uptoBulk d + 1
 end
def uptoSmall : (H : Type) → List (DataW H) → Bool := fun _ ds => decide (uptoBulkAll ds ≤ 1048576)
def OpenSpec.upto (s : _root_.Go.ChangeSpec) : _root_.Go.OpenSpec := { _root_.Go.OpenSpec.ofChange s with cond := some uptoSmall }

/-- 'laws.FnExactForestDist', WHERE WHAT IT READS IS OF BULK AT MOST 1048576: true; the input reads as it did. -/
def fnExactForestDistUptoRow : OpenClaim := { program := "ytelglbebffdaaaa", sum := "2d5350bcdbfce2cce3cb4efa2b8a83a8476b377de749f25f02e204fdb423478e", func := "loop.example/g01618/laws.FnExactForestDist", spec := "fnExactForestDist", unfollowed := true, recurses := true, plainKeys := false, apart := false, narrowed := true }
def FnExactForestDistUptoSaid : Prop := fnExactForestDistUptoRow.holds Try.pinned (OpenSpec.upto fnExactForestDistSpec)

/-- 'laws.FnExactSlowDist', WHERE WHAT IT READS IS OF BULK AT MOST 1048576: true; the input reads as it did. -/
def fnExactSlowDistUptoRow : OpenClaim := { program := "ytelglbebffdaaaa", sum := "2d5350bcdbfce2cce3cb4efa2b8a83a8476b377de749f25f02e204fdb423478e", func := "loop.example/g01618/laws.FnExactSlowDist", spec := "fnExactSlowDist", unfollowed := true, recurses := true, plainKeys := false, apart := false, narrowed := true }
def FnExactSlowDistUptoSaid : Prop := fnExactSlowDistUptoRow.holds Try.pinned (OpenSpec.upto fnExactSlowDistSpec)

/-- 'laws.FnExactRootDist', WHERE WHAT IT READS IS OF BULK AT MOST 1048576: true; the input reads as it did. -/
def fnExactRootDistUptoRow : OpenClaim := { program := "ytelglbebffdaaaa", sum := "2d5350bcdbfce2cce3cb4efa2b8a83a8476b377de749f25f02e204fdb423478e", func := "loop.example/g01618/laws.FnExactRootDist", spec := "fnExactRootDist", unfollowed := true, recurses := true, plainKeys := false, apart := false, narrowed := true }
def FnExactRootDistUptoSaid : Prop := fnExactRootDistUptoRow.holds Try.pinned (OpenSpec.upto fnExactRootDistSpec)

/-- 'laws.FnExactTreeDist', WHERE WHAT IT READS IS OF BULK AT MOST 1048576: true; the input reads as it did. -/
def fnExactTreeDistUptoRow : OpenClaim := { program := "ytelglbebffdaaaa", sum := "2d5350bcdbfce2cce3cb4efa2b8a83a8476b377de749f25f02e204fdb423478e", func := "loop.example/g01618/laws.FnExactTreeDist", spec := "fnExactTreeDist", unfollowed := true, recurses := true, plainKeys := false, apart := false, narrowed := true }
def FnExactTreeDistUptoSaid : Prop := fnExactTreeDistUptoRow.holds Try.pinned (OpenSpec.upto fnExactTreeDistSpec)

/-- 'laws.FnExactTreeDists', WHERE WHAT IT READS IS OF BULK AT MOST 1048576: true; the input reads as it did. -/
def fnExactTreeDistsUptoRow : OpenClaim := { program := "ytelglbebffdaaaa", sum := "2d5350bcdbfce2cce3cb4efa2b8a83a8476b377de749f25f02e204fdb423478e", func := "loop.example/g01618/laws.FnExactTreeDists", spec := "fnExactTreeDists", unfollowed := true, recurses := true, plainKeys := false, apart := false, narrowed := true }
def FnExactTreeDistsUptoSaid : Prop := fnExactTreeDistsUptoRow.holds Try.pinned (OpenSpec.upto fnExactTreeDistsSpec)

/-- 'laws.FnExactBestMap', WHERE WHAT IT READS IS OF BULK AT MOST 1048576: true; the input reads as it did. -/
def fnExactBestMapUptoRow : OpenClaim := { program := "ytelglbebffdaaaa", sum := "2d5350bcdbfce2cce3cb4efa2b8a83a8476b377de749f25f02e204fdb423478e", func := "loop.example/g01618/laws.FnExactBestMap", spec := "fnExactBestMap", unfollowed := true, recurses := true, plainKeys := false, apart := false, narrowed := true }
def FnExactBestMapUptoSaid : Prop := fnExactBestMapUptoRow.holds Try.pinned (OpenSpec.upto fnExactBestMapSpec)

/-- 'laws.FnForests', WHERE WHAT IT READS IS OF BULK AT MOST 1048576: true; the input reads as it did. -/
def fnForestsUptoRow : OpenClaim := { program := "ytelglbebffdaaaa", sum := "2d5350bcdbfce2cce3cb4efa2b8a83a8476b377de749f25f02e204fdb423478e", func := "loop.example/g01618/laws.FnForests", spec := "fnForests", unfollowed := true, recurses := true, plainKeys := false, apart := false, narrowed := true }
def FnForestsUptoSaid : Prop := fnForestsUptoRow.holds Try.pinned (OpenSpec.upto fnForestsSpec)

/-- 'laws.FnSlow', WHERE WHAT IT READS IS OF BULK AT MOST 1048576: true; the input reads as it did. -/
def fnSlowUptoRow : OpenClaim := { program := "ytelglbebffdaaaa", sum := "2d5350bcdbfce2cce3cb4efa2b8a83a8476b377de749f25f02e204fdb423478e", func := "loop.example/g01618/laws.FnSlow", spec := "fnSlow", unfollowed := true, recurses := true, plainKeys := false, apart := false, narrowed := true }
def FnSlowUptoSaid : Prop := fnSlowUptoRow.holds Try.pinned (OpenSpec.upto fnSlowSpec)

/-- 'laws.FnDists', WHERE WHAT IT READS IS OF BULK AT MOST 1048576: true; the input reads as it did. -/
def fnDistsUptoRow : OpenClaim := { program := "ytelglbebffdaaaa", sum := "2d5350bcdbfce2cce3cb4efa2b8a83a8476b377de749f25f02e204fdb423478e", func := "loop.example/g01618/laws.FnDists", spec := "fnDists", unfollowed := true, recurses := true, plainKeys := false, apart := false, narrowed := true }
def FnDistsUptoSaid : Prop := fnDistsUptoRow.holds Try.pinned (OpenSpec.upto fnDistsSpec)

end Rows
end Go.Proofs.Ytelglbebffdaaaa
