/-
  No cell of these rows narrows 'for every input' (looked for: loops, veiled, ifaces, maps, wideKeys, modest, calm, conditions, laid).
  DERIVED. THE GIVEN ROWS OF THIS SEAT. 10 by the template 'for every input the law returns true; each argument reads behind the call as it read before'; 0 by the template 'total and deterministic' (their statements: YtmipigipfmcneaaTotals.lean).
  GIVEN WITH THE SEED: the statements are not yours to turn. If you find one false, say at which input.
  Laid BY PROGRAM, IN A SANDBOX (cutbox-rows.mjs): the forced cells as the released guide's own fill.sh prints them over the translation 235690347a897587… (all of the seat's roots in one cut). By AI agents, Wed Nov 11 2026. No macro, syntax, notation, axiom, sorry.
-/
import Derived.Test.YtmipigipfmcneaaChecked
import GoSem.Claim
import GoSem.ClaimJoined
import GoSem.ClaimMapViews
import Derived.JoinedTies
import Derived.KernelRfl
namespace Go.Proofs.Ytmipigipfmcneaa
/- THE CELL 'sum', in the pinned program and in every row, IS THE sha256 OF THE DUMP (.gsa) THAT YtmipigipfmcneaaProg.lean LOADS. Nothing in Lean hashes anything: it is a label: what it is worth is what the hold of that sum in a sandbox is worth. -/
noncomputable def Try.pinned : Pinned := { name := "ytmipigipfmcneaa", sum := "235690347a897587a48cc93b757f97f77b3d5087af25a4f798a15a26200f4e67", checked := Try.checked }
namespace Rows
def none {H : Type} : Left H := { results := [], args := [] }

/-- 'laws.FnExactScriptOk': WHATEVER THE INPUT: true; the input reads as it did. -/
def fnExactScriptOkSpec : ChangeSpec := { name := "fnExactScriptOk", fn := fun _ => fun
  | [d] => { results := [.lit (.bool true)], args := [d] }
  | _ => none }
def fnExactScriptOkRow : OpenClaim := { program := "ytmipigipfmcneaa", sum := "235690347a897587a48cc93b757f97f77b3d5087af25a4f798a15a26200f4e67", func := "loop.example/g01618/laws.FnExactScriptOk", spec := "fnExactScriptOk", unfollowed := true, recurses := true, apart := false }
def FnExactScriptOkSaid : Prop := fnExactScriptOkRow.holds Try.pinned (OpenSpec.ofChange fnExactScriptOkSpec)

/-- ITS FALSE NEIGHBOUR: 'it returns false'. Refute it at one input. -/
def fnExactScriptOkWrong : ChangeSpec := { name := "fnExactScriptOk", fn := fun _ => fun
  | [d] => { results := [.lit (.bool false)], args := [d] }
  | _ => none }
def FnExactScriptOkWrongFalsely : Prop := fnExactScriptOkRow.holds Try.pinned (OpenSpec.ofChange fnExactScriptOkWrong)

/-- 'laws.FnExactNodeAt': WHATEVER THE INPUT: true; the input reads as it did. -/
def fnExactNodeAtSpec : ChangeSpec := { name := "fnExactNodeAt", fn := fun _ => fun
  | [d1, d2] => { results := [.lit (.bool true)], args := [d1, d2] }
  | _ => none }
def fnExactNodeAtRow : OpenClaim := { program := "ytmipigipfmcneaa", sum := "235690347a897587a48cc93b757f97f77b3d5087af25a4f798a15a26200f4e67", func := "loop.example/g01618/laws.FnExactNodeAt", spec := "fnExactNodeAt", apart := false }
def FnExactNodeAtSaid : Prop := fnExactNodeAtRow.holds Try.pinned (OpenSpec.ofChange fnExactNodeAtSpec)

/-- ITS FALSE NEIGHBOUR: 'it returns false'. Refute it at one input. -/
def fnExactNodeAtWrong : ChangeSpec := { name := "fnExactNodeAt", fn := fun _ => fun
  | [d1, d2] => { results := [.lit (.bool false)], args := [d1, d2] }
  | _ => none }
def FnExactNodeAtWrongFalsely : Prop := fnExactNodeAtRow.holds Try.pinned (OpenSpec.ofChange fnExactNodeAtWrong)

/-- 'laws.FnExactMapOk': WHATEVER THE INPUT: true; the input reads as it did. -/
def fnExactMapOkSpec : ChangeSpec := { name := "fnExactMapOk", fn := fun _ => fun
  | [d1, d2, d3] => { results := [.lit (.bool true)], args := [d1, d2, d3] }
  | _ => none }
def fnExactMapOkRow : OpenClaim := { program := "ytmipigipfmcneaa", sum := "235690347a897587a48cc93b757f97f77b3d5087af25a4f798a15a26200f4e67", func := "loop.example/g01618/laws.FnExactMapOk", spec := "fnExactMapOk", apart := false }
def FnExactMapOkSaid : Prop := fnExactMapOkRow.holds Try.pinned (OpenSpec.ofChange fnExactMapOkSpec)

/-- ITS FALSE NEIGHBOUR: 'it returns false'. Refute it at one input. -/
def fnExactMapOkWrong : ChangeSpec := { name := "fnExactMapOk", fn := fun _ => fun
  | [d1, d2, d3] => { results := [.lit (.bool false)], args := [d1, d2, d3] }
  | _ => none }
def FnExactMapOkWrongFalsely : Prop := fnExactMapOkRow.holds Try.pinned (OpenSpec.ofChange fnExactMapOkWrong)

/-- 'laws.FnExactUnmapped': WHATEVER THE INPUT: true; the input reads as it did. -/
def fnExactUnmappedSpec : ChangeSpec := { name := "fnExactUnmapped", fn := fun _ => fun
  | [d1, d2] => { results := [.lit (.bool true)], args := [d1, d2] }
  | _ => none }
def fnExactUnmappedRow : OpenClaim := { program := "ytmipigipfmcneaa", sum := "235690347a897587a48cc93b757f97f77b3d5087af25a4f798a15a26200f4e67", func := "loop.example/g01618/laws.FnExactUnmapped", spec := "fnExactUnmapped", unfollowed := true, recurses := true, apart := false }
def FnExactUnmappedSaid : Prop := fnExactUnmappedRow.holds Try.pinned (OpenSpec.ofChange fnExactUnmappedSpec)

/-- ITS FALSE NEIGHBOUR: 'it returns false'. Refute it at one input. -/
def fnExactUnmappedWrong : ChangeSpec := { name := "fnExactUnmapped", fn := fun _ => fun
  | [d1, d2] => { results := [.lit (.bool false)], args := [d1, d2] }
  | _ => none }
def FnExactUnmappedWrongFalsely : Prop := fnExactUnmappedRow.holds Try.pinned (OpenSpec.ofChange fnExactUnmappedWrong)

/-- 'laws.FnExactMissing': WHATEVER THE INPUT: true; the input reads as it did. -/
def fnExactMissingSpec : ChangeSpec := { name := "fnExactMissing", fn := fun _ => fun
  | [d1, d2] => { results := [.lit (.bool true)], args := [d1, d2] }
  | _ => none }
def fnExactMissingRow : OpenClaim := { program := "ytmipigipfmcneaa", sum := "235690347a897587a48cc93b757f97f77b3d5087af25a4f798a15a26200f4e67", func := "loop.example/g01618/laws.FnExactMissing", spec := "fnExactMissing", unfollowed := true, recurses := true, apart := false }
def FnExactMissingSaid : Prop := fnExactMissingRow.holds Try.pinned (OpenSpec.ofChange fnExactMissingSpec)

/-- ITS FALSE NEIGHBOUR: 'it returns false'. Refute it at one input. -/
def fnExactMissingWrong : ChangeSpec := { name := "fnExactMissing", fn := fun _ => fun
  | [d1, d2] => { results := [.lit (.bool false)], args := [d1, d2] }
  | _ => none }
def FnExactMissingWrongFalsely : Prop := fnExactMissingRow.holds Try.pinned (OpenSpec.ofChange fnExactMissingWrong)

/-- 'laws.FnExactPathOf': WHATEVER THE INPUT: true; the input reads as it did. -/
def fnExactPathOfSpec : ChangeSpec := { name := "fnExactPathOf", fn := fun _ => fun
  | [d1, d2] => { results := [.lit (.bool true)], args := [d1, d2] }
  | _ => none }
def fnExactPathOfRow : OpenClaim := { program := "ytmipigipfmcneaa", sum := "235690347a897587a48cc93b757f97f77b3d5087af25a4f798a15a26200f4e67", func := "loop.example/g01618/laws.FnExactPathOf", spec := "fnExactPathOf", apart := false }
def FnExactPathOfSaid : Prop := fnExactPathOfRow.holds Try.pinned (OpenSpec.ofChange fnExactPathOfSpec)

/-- ITS FALSE NEIGHBOUR: 'it returns false'. Refute it at one input. -/
def fnExactPathOfWrong : ChangeSpec := { name := "fnExactPathOf", fn := fun _ => fun
  | [d1, d2] => { results := [.lit (.bool false)], args := [d1, d2] }
  | _ => none }
def FnExactPathOfWrongFalsely : Prop := fnExactPathOfRow.holds Try.pinned (OpenSpec.ofChange fnExactPathOfWrong)

/-- 'laws.FnExactPutScript': WHATEVER THE INPUT: true; the input reads as it did. -/
def fnExactPutScriptSpec : ChangeSpec := { name := "fnExactPutScript", fn := fun _ => fun
  | [d] => { results := [.lit (.bool true)], args := [d] }
  | _ => none }
def fnExactPutScriptRow : OpenClaim := { program := "ytmipigipfmcneaa", sum := "235690347a897587a48cc93b757f97f77b3d5087af25a4f798a15a26200f4e67", func := "loop.example/g01618/laws.FnExactPutScript", spec := "fnExactPutScript", unfollowed := true, recurses := true, apart := false }
def FnExactPutScriptSaid : Prop := fnExactPutScriptRow.holds Try.pinned (OpenSpec.ofChange fnExactPutScriptSpec)

/-- ITS FALSE NEIGHBOUR: 'it returns false'. Refute it at one input. -/
def fnExactPutScriptWrong : ChangeSpec := { name := "fnExactPutScript", fn := fun _ => fun
  | [d] => { results := [.lit (.bool false)], args := [d] }
  | _ => none }
def FnExactPutScriptWrongFalsely : Prop := fnExactPutScriptRow.holds Try.pinned (OpenSpec.ofChange fnExactPutScriptWrong)

/-- 'laws.FnExactGetScript': WHATEVER THE INPUT: true; the input reads as it did. -/
def fnExactGetScriptSpec : ChangeSpec := { name := "fnExactGetScript", fn := fun _ => fun
  | [d] => { results := [.lit (.bool true)], args := [d] }
  | _ => none }
def fnExactGetScriptRow : OpenClaim := { program := "ytmipigipfmcneaa", sum := "235690347a897587a48cc93b757f97f77b3d5087af25a4f798a15a26200f4e67", func := "loop.example/g01618/laws.FnExactGetScript", spec := "fnExactGetScript", apart := false }
def FnExactGetScriptSaid : Prop := fnExactGetScriptRow.holds Try.pinned (OpenSpec.ofChange fnExactGetScriptSpec)

/-- ITS FALSE NEIGHBOUR: 'it returns false'. Refute it at one input. -/
def fnExactGetScriptWrong : ChangeSpec := { name := "fnExactGetScript", fn := fun _ => fun
  | [d] => { results := [.lit (.bool false)], args := [d] }
  | _ => none }
def FnExactGetScriptWrongFalsely : Prop := fnExactGetScriptRow.holds Try.pinned (OpenSpec.ofChange fnExactGetScriptWrong)

/-- 'laws.FnExactMapsOf': WHATEVER THE INPUT: true; the input reads as it did. -/
def fnExactMapsOfSpec : ChangeSpec := { name := "fnExactMapsOf", fn := fun _ => fun
  | [d1, d2] => { results := [.lit (.bool true)], args := [d1, d2] }
  | _ => none }
def fnExactMapsOfRow : OpenClaim := { program := "ytmipigipfmcneaa", sum := "235690347a897587a48cc93b757f97f77b3d5087af25a4f798a15a26200f4e67", func := "loop.example/g01618/laws.FnExactMapsOf", spec := "fnExactMapsOf", recurses := true, apart := false }
def FnExactMapsOfSaid : Prop := fnExactMapsOfRow.holds Try.pinned (OpenSpec.ofChange fnExactMapsOfSpec)

/-- ITS FALSE NEIGHBOUR: 'it returns false'. Refute it at one input. -/
def fnExactMapsOfWrong : ChangeSpec := { name := "fnExactMapsOf", fn := fun _ => fun
  | [d1, d2] => { results := [.lit (.bool false)], args := [d1, d2] }
  | _ => none }
def FnExactMapsOfWrongFalsely : Prop := fnExactMapsOfRow.holds Try.pinned (OpenSpec.ofChange fnExactMapsOfWrong)

/-- 'laws.FnExactKept': WHATEVER THE INPUT: true; the input reads as it did. -/
def fnExactKeptSpec : ChangeSpec := { name := "fnExactKept", fn := fun _ => fun
  | [d1, d2] => { results := [.lit (.bool true)], args := [d1, d2] }
  | _ => none }
def fnExactKeptRow : OpenClaim := { program := "ytmipigipfmcneaa", sum := "235690347a897587a48cc93b757f97f77b3d5087af25a4f798a15a26200f4e67", func := "loop.example/g01618/laws.FnExactKept", spec := "fnExactKept", unfollowed := true, recurses := true, apart := false }
def FnExactKeptSaid : Prop := fnExactKeptRow.holds Try.pinned (OpenSpec.ofChange fnExactKeptSpec)

/-- ITS FALSE NEIGHBOUR: 'it returns false'. Refute it at one input. -/
def fnExactKeptWrong : ChangeSpec := { name := "fnExactKept", fn := fun _ => fun
  | [d1, d2] => { results := [.lit (.bool false)], args := [d1, d2] }
  | _ => none }
def FnExactKeptWrongFalsely : Prop := fnExactKeptRow.holds Try.pinned (OpenSpec.ofChange fnExactKeptWrong)

/- THE SECOND FORM. 'bulk': how many values and letters a reading holds, each counted each time it is reached (what is shared counts as often as it is met; a slice's spare places count too). A statement '..UptoSaid' is the law's where the arguments, and the package variables that the reading takes, are together of bulk at most 1048576: NARROWER than '..Said'. Prove '..Said' where nothing that the law and all that it calls make is longer than what came in: it says more and counts as full. Else prove '..UptoSaid'. A law counts once. -/
mutual
def uptoBulk {H : Type} : DataW H → Nat
  | .lit (.string bytes) => bytes.length + 1
  | .lit _ => 1
  | .nil => 1
  | .ptr d => uptoBulk d + 1
  | .slice elems spare => uptoBulkAll elems + uptoBulkAll spare + 1
  | .agg parts => uptoBulkAll parts + 1
  | .iface _ d => uptoBulk d + 1
  | .map entries => uptoBulkEntries entries + 1
  | .held _ => 1
def uptoBulkAll {H : Type} : List (DataW H) → Nat
  | [] => 0
  | d :: r => uptoBulk d + uptoBulkAll r
def uptoBulkEntries {H : Type} : List (Lit × DataW H) → Nat
  | [] => 0
  | x :: r => uptoBulkEntry x + uptoBulkEntries r
def uptoBulkEntry {H : Type} : Lit × DataW H → Nat
  | (.string bytes, d) => bytes.length + uptoBulk d + 1
  | (_, d) => uptoBulk d + 1
 end
def uptoSmall : (H : Type) → List (DataW H) → Bool := fun _ ds => decide (uptoBulkAll ds ≤ 1048576)
def OpenSpec.upto (s : _root_.Go.ChangeSpec) : _root_.Go.OpenSpec := { _root_.Go.OpenSpec.ofChange s with cond := some uptoSmall }

/-- 'laws.FnExactScriptOk', WHERE WHAT IT READS IS OF BULK AT MOST 1048576: true; the input reads as it did. -/
def fnExactScriptOkUptoRow : OpenClaim := { program := "ytmipigipfmcneaa", sum := "235690347a897587a48cc93b757f97f77b3d5087af25a4f798a15a26200f4e67", func := "loop.example/g01618/laws.FnExactScriptOk", spec := "fnExactScriptOk", unfollowed := true, recurses := true, apart := false, narrowed := true }
def FnExactScriptOkUptoSaid : Prop := fnExactScriptOkUptoRow.holds Try.pinned (OpenSpec.upto fnExactScriptOkSpec)

/-- 'laws.FnExactNodeAt', WHERE WHAT IT READS IS OF BULK AT MOST 1048576: true; the input reads as it did. -/
def fnExactNodeAtUptoRow : OpenClaim := { program := "ytmipigipfmcneaa", sum := "235690347a897587a48cc93b757f97f77b3d5087af25a4f798a15a26200f4e67", func := "loop.example/g01618/laws.FnExactNodeAt", spec := "fnExactNodeAt", apart := false, narrowed := true }
def FnExactNodeAtUptoSaid : Prop := fnExactNodeAtUptoRow.holds Try.pinned (OpenSpec.upto fnExactNodeAtSpec)

/-- 'laws.FnExactMapOk', WHERE WHAT IT READS IS OF BULK AT MOST 1048576: true; the input reads as it did. -/
def fnExactMapOkUptoRow : OpenClaim := { program := "ytmipigipfmcneaa", sum := "235690347a897587a48cc93b757f97f77b3d5087af25a4f798a15a26200f4e67", func := "loop.example/g01618/laws.FnExactMapOk", spec := "fnExactMapOk", apart := false, narrowed := true }
def FnExactMapOkUptoSaid : Prop := fnExactMapOkUptoRow.holds Try.pinned (OpenSpec.upto fnExactMapOkSpec)

/-- 'laws.FnExactUnmapped', WHERE WHAT IT READS IS OF BULK AT MOST 1048576: true; the input reads as it did. -/
def fnExactUnmappedUptoRow : OpenClaim := { program := "ytmipigipfmcneaa", sum := "235690347a897587a48cc93b757f97f77b3d5087af25a4f798a15a26200f4e67", func := "loop.example/g01618/laws.FnExactUnmapped", spec := "fnExactUnmapped", unfollowed := true, recurses := true, apart := false, narrowed := true }
def FnExactUnmappedUptoSaid : Prop := fnExactUnmappedUptoRow.holds Try.pinned (OpenSpec.upto fnExactUnmappedSpec)

/-- 'laws.FnExactMissing', WHERE WHAT IT READS IS OF BULK AT MOST 1048576: true; the input reads as it did. -/
def fnExactMissingUptoRow : OpenClaim := { program := "ytmipigipfmcneaa", sum := "235690347a897587a48cc93b757f97f77b3d5087af25a4f798a15a26200f4e67", func := "loop.example/g01618/laws.FnExactMissing", spec := "fnExactMissing", unfollowed := true, recurses := true, apart := false, narrowed := true }
def FnExactMissingUptoSaid : Prop := fnExactMissingUptoRow.holds Try.pinned (OpenSpec.upto fnExactMissingSpec)

/-- 'laws.FnExactPathOf', WHERE WHAT IT READS IS OF BULK AT MOST 1048576: true; the input reads as it did. -/
def fnExactPathOfUptoRow : OpenClaim := { program := "ytmipigipfmcneaa", sum := "235690347a897587a48cc93b757f97f77b3d5087af25a4f798a15a26200f4e67", func := "loop.example/g01618/laws.FnExactPathOf", spec := "fnExactPathOf", apart := false, narrowed := true }
def FnExactPathOfUptoSaid : Prop := fnExactPathOfUptoRow.holds Try.pinned (OpenSpec.upto fnExactPathOfSpec)

/-- 'laws.FnExactPutScript', WHERE WHAT IT READS IS OF BULK AT MOST 1048576: true; the input reads as it did. -/
def fnExactPutScriptUptoRow : OpenClaim := { program := "ytmipigipfmcneaa", sum := "235690347a897587a48cc93b757f97f77b3d5087af25a4f798a15a26200f4e67", func := "loop.example/g01618/laws.FnExactPutScript", spec := "fnExactPutScript", unfollowed := true, recurses := true, apart := false, narrowed := true }
def FnExactPutScriptUptoSaid : Prop := fnExactPutScriptUptoRow.holds Try.pinned (OpenSpec.upto fnExactPutScriptSpec)

/-- 'laws.FnExactGetScript', WHERE WHAT IT READS IS OF BULK AT MOST 1048576: true; the input reads as it did. -/
def fnExactGetScriptUptoRow : OpenClaim := { program := "ytmipigipfmcneaa", sum := "235690347a897587a48cc93b757f97f77b3d5087af25a4f798a15a26200f4e67", func := "loop.example/g01618/laws.FnExactGetScript", spec := "fnExactGetScript", apart := false, narrowed := true }
def FnExactGetScriptUptoSaid : Prop := fnExactGetScriptUptoRow.holds Try.pinned (OpenSpec.upto fnExactGetScriptSpec)

/-- 'laws.FnExactMapsOf', WHERE WHAT IT READS IS OF BULK AT MOST 1048576: true; the input reads as it did. -/
def fnExactMapsOfUptoRow : OpenClaim := { program := "ytmipigipfmcneaa", sum := "235690347a897587a48cc93b757f97f77b3d5087af25a4f798a15a26200f4e67", func := "loop.example/g01618/laws.FnExactMapsOf", spec := "fnExactMapsOf", recurses := true, apart := false, narrowed := true }
def FnExactMapsOfUptoSaid : Prop := fnExactMapsOfUptoRow.holds Try.pinned (OpenSpec.upto fnExactMapsOfSpec)

/-- 'laws.FnExactKept', WHERE WHAT IT READS IS OF BULK AT MOST 1048576: true; the input reads as it did. -/
def fnExactKeptUptoRow : OpenClaim := { program := "ytmipigipfmcneaa", sum := "235690347a897587a48cc93b757f97f77b3d5087af25a4f798a15a26200f4e67", func := "loop.example/g01618/laws.FnExactKept", spec := "fnExactKept", unfollowed := true, recurses := true, apart := false, narrowed := true }
def FnExactKeptUptoSaid : Prop := fnExactKeptUptoRow.holds Try.pinned (OpenSpec.upto fnExactKeptSpec)

end Rows
end Go.Proofs.Ytmipigipfmcneaa
