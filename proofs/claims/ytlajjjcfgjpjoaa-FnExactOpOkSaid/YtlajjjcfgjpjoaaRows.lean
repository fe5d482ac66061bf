/-
  No cell of these rows narrows 'for every input' (looked for: loops, veiled, ifaces, maps, wideKeys, modest, calm, conditions, laid).
  DERIVED. THE GIVEN ROWS OF THIS SEAT. 12 by the template 'for every input the law returns true; each argument reads behind the call as it read before'; 0 by the template 'total and deterministic' (their statements: YtlajjjcfgjpjoaaTotals.lean).
  GIVEN WITH THE SEED: the statements are not yours to turn. If you find one false, say at which input.
  Laid BY PROGRAM, IN A SANDBOX (cutbox-rows.mjs): the forced cells as the released guide's own fill.sh prints them over the translation 86d34dac9f180610… (all of the seat's roots in one cut). By AI agents, Wed Nov 11 2026. No macro, syntax, notation, axiom, sorry.
-/
import Derived.Test.YtlajjjcfgjpjoaaChecked
import GoSem.Claim
import GoSem.ClaimJoined
import GoSem.ClaimMapViews
import Derived.JoinedTies
import Derived.KernelRfl
namespace Go.Proofs.Ytlajjjcfgjpjoaa
/- THE CELL 'sum', in the pinned program and in every row, IS THE sha256 OF THE DUMP (.gsa) THAT YtlajjjcfgjpjoaaProg.lean LOADS. Nothing in Lean hashes anything: it is a label: what it is worth is what the hold of that sum in a sandbox is worth. -/
noncomputable def Try.pinned : Pinned := { name := "ytlajjjcfgjpjoaa", sum := "86d34dac9f18061017b044e947f21407220cb87373bef8f041b3cf7c3ab70514", checked := Try.checked }
namespace Rows
def none {H : Type} : Left H := { results := [], args := [] }

/-- 'laws.FnExactCodeName': WHATEVER THE INPUT: true; the input reads as it did. -/
def fnExactCodeNameSpec : ChangeSpec := { name := "fnExactCodeName", fn := fun _ => fun
  | [d] => { results := [.lit (.bool true)], args := [d] }
  | _ => none }
def fnExactCodeNameRow : OpenClaim := { program := "ytlajjjcfgjpjoaa", sum := "86d34dac9f18061017b044e947f21407220cb87373bef8f041b3cf7c3ab70514", func := "loop.example/g01618/laws.FnExactCodeName", spec := "fnExactCodeName", plainKeys := false, apart := false }
def FnExactCodeNameSaid : Prop := fnExactCodeNameRow.holds Try.pinned (OpenSpec.ofChange fnExactCodeNameSpec)

/-- ITS FALSE NEIGHBOUR: 'it returns false'. Refute it at one input. -/
def fnExactCodeNameWrong : ChangeSpec := { name := "fnExactCodeName", fn := fun _ => fun
  | [d] => { results := [.lit (.bool false)], args := [d] }
  | _ => none }
def FnExactCodeNameWrongFalsely : Prop := fnExactCodeNameRow.holds Try.pinned (OpenSpec.ofChange fnExactCodeNameWrong)

/-- 'laws.FnExactScriptCode': WHATEVER THE INPUT: true; the input reads as it did. -/
def fnExactScriptCodeSpec : ChangeSpec := { name := "fnExactScriptCode", fn := fun _ => fun
  | [d] => { results := [.lit (.bool true)], args := [d] }
  | _ => none }
def fnExactScriptCodeRow : OpenClaim := { program := "ytlajjjcfgjpjoaa", sum := "86d34dac9f18061017b044e947f21407220cb87373bef8f041b3cf7c3ab70514", func := "loop.example/g01618/laws.FnExactScriptCode", spec := "fnExactScriptCode", plainKeys := false, apart := false }
def FnExactScriptCodeSaid : Prop := fnExactScriptCodeRow.holds Try.pinned (OpenSpec.ofChange fnExactScriptCodeSpec)

/-- ITS FALSE NEIGHBOUR: 'it returns false'. Refute it at one input. -/
def fnExactScriptCodeWrong : ChangeSpec := { name := "fnExactScriptCode", fn := fun _ => fun
  | [d] => { results := [.lit (.bool false)], args := [d] }
  | _ => none }
def FnExactScriptCodeWrongFalsely : Prop := fnExactScriptCodeRow.holds Try.pinned (OpenSpec.ofChange fnExactScriptCodeWrong)

/-- 'laws.FnExactRootsPaired': WHATEVER THE INPUT: true; the input reads as it did. -/
def fnExactRootsPairedSpec : ChangeSpec := { name := "fnExactRootsPaired", fn := fun _ => fun
  | [d] => { results := [.lit (.bool true)], args := [d] }
  | _ => none }
def fnExactRootsPairedRow : OpenClaim := { program := "ytlajjjcfgjpjoaa", sum := "86d34dac9f18061017b044e947f21407220cb87373bef8f041b3cf7c3ab70514", func := "loop.example/g01618/laws.FnExactRootsPaired", spec := "fnExactRootsPaired", plainKeys := false, apart := false }
def FnExactRootsPairedSaid : Prop := fnExactRootsPairedRow.holds Try.pinned (OpenSpec.ofChange fnExactRootsPairedSpec)

/-- ITS FALSE NEIGHBOUR: 'it returns false'. Refute it at one input. -/
def fnExactRootsPairedWrong : ChangeSpec := { name := "fnExactRootsPaired", fn := fun _ => fun
  | [d] => { results := [.lit (.bool false)], args := [d] }
  | _ => none }
def FnExactRootsPairedWrongFalsely : Prop := fnExactRootsPairedRow.holds Try.pinned (OpenSpec.ofChange fnExactRootsPairedWrong)

/-- 'laws.FnExactSameMap': WHATEVER THE INPUT: true; the input reads as it did. -/
def fnExactSameMapSpec : ChangeSpec := { name := "fnExactSameMap", fn := fun _ => fun
  | [d1, d2] => { results := [.lit (.bool true)], args := [d1, d2] }
  | _ => none }
def fnExactSameMapRow : OpenClaim := { program := "ytlajjjcfgjpjoaa", sum := "86d34dac9f18061017b044e947f21407220cb87373bef8f041b3cf7c3ab70514", func := "loop.example/g01618/laws.FnExactSameMap", spec := "fnExactSameMap", plainKeys := false, apart := false }
def FnExactSameMapSaid : Prop := fnExactSameMapRow.holds Try.pinned (OpenSpec.ofChange fnExactSameMapSpec)

/-- ITS FALSE NEIGHBOUR: 'it returns false'. Refute it at one input. -/
def fnExactSameMapWrong : ChangeSpec := { name := "fnExactSameMap", fn := fun _ => fun
  | [d1, d2] => { results := [.lit (.bool false)], args := [d1, d2] }
  | _ => none }
def FnExactSameMapWrongFalsely : Prop := fnExactSameMapRow.holds Try.pinned (OpenSpec.ofChange fnExactSameMapWrong)

/-- 'laws.FnExactTurned': WHATEVER THE INPUT: true; the input reads as it did. -/
def fnExactTurnedSpec : ChangeSpec := { name := "fnExactTurned", fn := fun _ => fun
  | [d] => { results := [.lit (.bool true)], args := [d] }
  | _ => none }
def fnExactTurnedRow : OpenClaim := { program := "ytlajjjcfgjpjoaa", sum := "86d34dac9f18061017b044e947f21407220cb87373bef8f041b3cf7c3ab70514", func := "loop.example/g01618/laws.FnExactTurned", spec := "fnExactTurned", plainKeys := false, apart := false }
def FnExactTurnedSaid : Prop := fnExactTurnedRow.holds Try.pinned (OpenSpec.ofChange fnExactTurnedSpec)

/-- ITS FALSE NEIGHBOUR: 'it returns false'. Refute it at one input. -/
def fnExactTurnedWrong : ChangeSpec := { name := "fnExactTurned", fn := fun _ => fun
  | [d] => { results := [.lit (.bool false)], args := [d] }
  | _ => none }
def FnExactTurnedWrongFalsely : Prop := fnExactTurnedRow.holds Try.pinned (OpenSpec.ofChange fnExactTurnedWrong)

/-- 'laws.FnLeast': WHATEVER THE INPUT: true; the input reads as it did. -/
def fnLeastSpec : ChangeSpec := { name := "fnLeast", fn := fun _ => fun
  | [d] => { results := [.lit (.bool true)], args := [d] }
  | _ => none }
def fnLeastRow : OpenClaim := { program := "ytlajjjcfgjpjoaa", sum := "86d34dac9f18061017b044e947f21407220cb87373bef8f041b3cf7c3ab70514", func := "loop.example/g01618/laws.FnLeast", spec := "fnLeast", unfollowed := true, recurses := true, plainKeys := false, apart := false }
def FnLeastSaid : Prop := fnLeastRow.holds Try.pinned (OpenSpec.ofChange fnLeastSpec)

/-- ITS FALSE NEIGHBOUR: 'it returns false'. Refute it at one input. -/
def fnLeastWrong : ChangeSpec := { name := "fnLeast", fn := fun _ => fun
  | [d] => { results := [.lit (.bool false)], args := [d] }
  | _ => none }
def FnLeastWrongFalsely : Prop := fnLeastRow.holds Try.pinned (OpenSpec.ofChange fnLeastWrong)

/-- 'laws.FnExactComposed': WHATEVER THE INPUT: true; the input reads as it did. -/
def fnExactComposedSpec : ChangeSpec := { name := "fnExactComposed", fn := fun _ => fun
  | [d1, d2] => { results := [.lit (.bool true)], args := [d1, d2] }
  | _ => none }
def fnExactComposedRow : OpenClaim := { program := "ytlajjjcfgjpjoaa", sum := "86d34dac9f18061017b044e947f21407220cb87373bef8f041b3cf7c3ab70514", func := "loop.example/g01618/laws.FnExactComposed", spec := "fnExactComposed", plainKeys := false, apart := false }
def FnExactComposedSaid : Prop := fnExactComposedRow.holds Try.pinned (OpenSpec.ofChange fnExactComposedSpec)

/-- ITS FALSE NEIGHBOUR: 'it returns false'. Refute it at one input. -/
def fnExactComposedWrong : ChangeSpec := { name := "fnExactComposed", fn := fun _ => fun
  | [d1, d2] => { results := [.lit (.bool false)], args := [d1, d2] }
  | _ => none }
def FnExactComposedWrongFalsely : Prop := fnExactComposedRow.holds Try.pinned (OpenSpec.ofChange fnExactComposedWrong)

/-- 'laws.FnExactSameDom': WHATEVER THE INPUT: true; the input reads as it did. -/
def fnExactSameDomSpec : ChangeSpec := { name := "fnExactSameDom", fn := fun _ => fun
  | [d1, d2] => { results := [.lit (.bool true)], args := [d1, d2] }
  | _ => none }
def fnExactSameDomRow : OpenClaim := { program := "ytlajjjcfgjpjoaa", sum := "86d34dac9f18061017b044e947f21407220cb87373bef8f041b3cf7c3ab70514", func := "loop.example/g01618/laws.FnExactSameDom", spec := "fnExactSameDom", plainKeys := false, apart := false }
def FnExactSameDomSaid : Prop := fnExactSameDomRow.holds Try.pinned (OpenSpec.ofChange fnExactSameDomSpec)

/-- ITS FALSE NEIGHBOUR: 'it returns false'. Refute it at one input. -/
def fnExactSameDomWrong : ChangeSpec := { name := "fnExactSameDom", fn := fun _ => fun
  | [d1, d2] => { results := [.lit (.bool false)], args := [d1, d2] }
  | _ => none }
def FnExactSameDomWrongFalsely : Prop := fnExactSameDomRow.holds Try.pinned (OpenSpec.ofChange fnExactSameDomWrong)

/-- 'laws.FnExactCountOps': WHATEVER THE INPUT: true; the input reads as it did. -/
def fnExactCountOpsSpec : ChangeSpec := { name := "fnExactCountOps", fn := fun _ => fun
  | [d1, d2] => { results := [.lit (.bool true)], args := [d1, d2] }
  | _ => none }
def fnExactCountOpsRow : OpenClaim := { program := "ytlajjjcfgjpjoaa", sum := "86d34dac9f18061017b044e947f21407220cb87373bef8f041b3cf7c3ab70514", func := "loop.example/g01618/laws.FnExactCountOps", spec := "fnExactCountOps", plainKeys := false, apart := false }
def FnExactCountOpsSaid : Prop := fnExactCountOpsRow.holds Try.pinned (OpenSpec.ofChange fnExactCountOpsSpec)

/-- ITS FALSE NEIGHBOUR: 'it returns false'. Refute it at one input. -/
def fnExactCountOpsWrong : ChangeSpec := { name := "fnExactCountOps", fn := fun _ => fun
  | [d1, d2] => { results := [.lit (.bool false)], args := [d1, d2] }
  | _ => none }
def FnExactCountOpsWrongFalsely : Prop := fnExactCountOpsRow.holds Try.pinned (OpenSpec.ofChange fnExactCountOpsWrong)

/-- 'laws.FnExactOpOk': WHATEVER THE INPUT: true; the input reads as it did. -/
def fnExactOpOkSpec : ChangeSpec := { name := "fnExactOpOk", fn := fun _ => fun
  | [d] => { results := [.lit (.bool true)], args := [d] }
  | _ => none }
def fnExactOpOkRow : OpenClaim := { program := "ytlajjjcfgjpjoaa", sum := "86d34dac9f18061017b044e947f21407220cb87373bef8f041b3cf7c3ab70514", func := "loop.example/g01618/laws.FnExactOpOk", spec := "fnExactOpOk", unfollowed := true, recurses := true, plainKeys := false, apart := false }
def FnExactOpOkSaid : Prop := fnExactOpOkRow.holds Try.pinned (OpenSpec.ofChange fnExactOpOkSpec)

/-- ITS FALSE NEIGHBOUR: 'it returns false'. Refute it at one input. -/
def fnExactOpOkWrong : ChangeSpec := { name := "fnExactOpOk", fn := fun _ => fun
  | [d] => { results := [.lit (.bool false)], args := [d] }
  | _ => none }
def FnExactOpOkWrongFalsely : Prop := fnExactOpOkRow.holds Try.pinned (OpenSpec.ofChange fnExactOpOkWrong)

/-- 'laws.FnExactSameOps': WHATEVER THE INPUT: true; the input reads as it did. -/
def fnExactSameOpsSpec : ChangeSpec := { name := "fnExactSameOps", fn := fun _ => fun
  | [d1, d2] => { results := [.lit (.bool true)], args := [d1, d2] }
  | _ => none }
def fnExactSameOpsRow : OpenClaim := { program := "ytlajjjcfgjpjoaa", sum := "86d34dac9f18061017b044e947f21407220cb87373bef8f041b3cf7c3ab70514", func := "loop.example/g01618/laws.FnExactSameOps", spec := "fnExactSameOps", unfollowed := true, recurses := true, plainKeys := false, apart := false }
def FnExactSameOpsSaid : Prop := fnExactSameOpsRow.holds Try.pinned (OpenSpec.ofChange fnExactSameOpsSpec)

/-- ITS FALSE NEIGHBOUR: 'it returns false'. Refute it at one input. -/
def fnExactSameOpsWrong : ChangeSpec := { name := "fnExactSameOps", fn := fun _ => fun
  | [d1, d2] => { results := [.lit (.bool false)], args := [d1, d2] }
  | _ => none }
def FnExactSameOpsWrongFalsely : Prop := fnExactSameOpsRow.holds Try.pinned (OpenSpec.ofChange fnExactSameOpsWrong)

/-- 'laws.FnDists': WHATEVER THE INPUT: true; the input reads as it did. -/
def fnDistsSpec : ChangeSpec := { name := "fnDists", fn := fun _ => fun
  | [d] => { results := [.lit (.bool true)], args := [d] }
  | _ => none }
def fnDistsRow : OpenClaim := { program := "ytlajjjcfgjpjoaa", sum := "86d34dac9f18061017b044e947f21407220cb87373bef8f041b3cf7c3ab70514", func := "loop.example/g01618/laws.FnDists", spec := "fnDists", unfollowed := true, recurses := true, plainKeys := false, apart := false }
def FnDistsSaid : Prop := fnDistsRow.holds Try.pinned (OpenSpec.ofChange fnDistsSpec)

/-- ITS FALSE NEIGHBOUR: 'it returns false'. Refute it at one input. -/
def fnDistsWrong : ChangeSpec := { name := "fnDists", fn := fun _ => fun
  | [d] => { results := [.lit (.bool false)], args := [d] }
  | _ => none }
def FnDistsWrongFalsely : Prop := fnDistsRow.holds Try.pinned (OpenSpec.ofChange fnDistsWrong)

/- THE SECOND FORM. 'bulk': how many values and letters a reading holds, each counted each time it is reached (what is shared counts as often as it is met; a slice's spare places count too). A statement '..UptoSaid' is the law's where the arguments, and the package variables that the reading takes, are together of bulk at most 1048576: NARROWER than '..Said'. Prove '..Said' where nothing that the law and all that it calls make is longer than what came in: it says more and counts as full. Else prove '..UptoSaid'. A law counts once. -/
mutual
def uptoBulk {H : Type} : DataW H → Nat
  | .lit (.string bytes) => bytes.length + 1
  | .lit _ => 1
  | .nil => 1
  | .ptr d => uptoBulk d + 1
  | .slice elems spare => uptoBulkAll elems + uptoBulkAll spare + 1
  | .agg parts => uptoBulkAll parts + 1
  | .iface _ d => uptoBulk d + 1
  | .map entries => uptoBulkEntries entries + 1
  | .held _ => 1
def uptoBulkAll {H : Type} : List (DataW H) → Nat
  | [] => 0
  | d :: r => uptoBulk d + uptoBulkAll r
def uptoBulkEntries {H : Type} : List (Lit × DataW H) → Nat
  | [] => 0
  | x :: r => uptoBulkEntry x + uptoBulkEntries r
def uptoBulkEntry {H : Type} : Lit × DataW H → Nat
  | (.string bytes, d) => bytes.length + uptoBulk d + 1
  | (_, d) => uptoBulk d + 1
 end
def uptoSmall : (H : Type) → List (DataW H) → Bool := fun _ ds => decide (uptoBulkAll ds ≤ 1048576)
def OpenSpec.upto (s : _root_.Go.ChangeSpec) : _root_.Go.OpenSpec := { _root_.Go.OpenSpec.ofChange s with cond := some uptoSmall }

/-- 'laws.FnExactCodeName', WHERE WHAT IT READS IS OF BULK AT MOST 1048576: true; the input reads as it did. -/
def fnExactCodeNameUptoRow : OpenClaim := { program := "ytlajjjcfgjpjoaa", sum := "86d34dac9f18061017b044e947f21407220cb87373bef8f041b3cf7c3ab70514", func := "loop.example/g01618/laws.FnExactCodeName", spec := "fnExactCodeName", plainKeys := false, apart := false, narrowed := true }
def FnExactCodeNameUptoSaid : Prop := fnExactCodeNameUptoRow.holds Try.pinned (OpenSpec.upto fnExactCodeNameSpec)

/-- 'laws.FnExactScriptCode', WHERE WHAT IT READS IS OF BULK AT MOST 1048576: true; the input reads as it did. -/
def fnExactScriptCodeUptoRow : OpenClaim := { program := "ytlajjjcfgjpjoaa", sum := "86d34dac9f18061017b044e947f21407220cb87373bef8f041b3cf7c3ab70514", func := "loop.example/g01618/laws.FnExactScriptCode", spec := "fnExactScriptCode", plainKeys := false, apart := false, narrowed := true }
def FnExactScriptCodeUptoSaid : Prop := fnExactScriptCodeUptoRow.holds Try.pinned (OpenSpec.upto fnExactScriptCodeSpec)

/-- 'laws.FnExactRootsPaired', WHERE WHAT IT READS IS OF BULK AT MOST 1048576: true; the input reads as it did. -/
def fnExactRootsPairedUptoRow : OpenClaim := { program := "ytlajjjcfgjpjoaa", sum := "86d34dac9f18061017b044e947f21407220cb87373bef8f041b3cf7c3ab70514", func := "loop.example/g01618/laws.FnExactRootsPaired", spec := "fnExactRootsPaired", plainKeys := false, apart := false, narrowed := true }
def FnExactRootsPairedUptoSaid : Prop := fnExactRootsPairedUptoRow.holds Try.pinned (OpenSpec.upto fnExactRootsPairedSpec)

/-- 'laws.FnExactSameMap', WHERE WHAT IT READS IS OF BULK AT MOST 1048576: true; the input reads as it did. -/
def fnExactSameMapUptoRow : OpenClaim := { program := "ytlajjjcfgjpjoaa", sum := "86d34dac9f18061017b044e947f21407220cb87373bef8f041b3cf7c3ab70514", func := "loop.example/g01618/laws.FnExactSameMap", spec := "fnExactSameMap", plainKeys := false, apart := false, narrowed := true }
def FnExactSameMapUptoSaid : Prop := fnExactSameMapUptoRow.holds Try.pinned (OpenSpec.upto fnExactSameMapSpec)

/-- 'laws.FnExactTurned', WHERE WHAT IT READS IS OF BULK AT MOST 1048576: true; the input reads as it did. -/
def fnExactTurnedUptoRow : OpenClaim := { program := "ytlajjjcfgjpjoaa", sum := "86d34dac9f18061017b044e947f21407220cb87373bef8f041b3cf7c3ab70514", func := "loop.example/g01618/laws.FnExactTurned", spec := "fnExactTurned", plainKeys := false, apart := false, narrowed := true }
def FnExactTurnedUptoSaid : Prop := fnExactTurnedUptoRow.holds Try.pinned (OpenSpec.upto fnExactTurnedSpec)

/-- 'laws.FnLeast', WHERE WHAT IT READS IS OF BULK AT MOST 1048576: true; the input reads as it did. -/
def fnLeastUptoRow : OpenClaim := { program := "ytlajjjcfgjpjoaa", sum := "86d34dac9f18061017b044e947f21407220cb87373bef8f041b3cf7c3ab70514", func := "loop.example/g01618/laws.FnLeast", spec := "fnLeast", unfollowed := true, recurses := true, plainKeys := false, apart := false, narrowed := true }
def FnLeastUptoSaid : Prop := fnLeastUptoRow.holds Try.pinned (OpenSpec.upto fnLeastSpec)

/-- 'laws.FnExactComposed', WHERE WHAT IT READS IS OF BULK AT MOST 1048576: true; the input reads as it did. -/
def fnExactComposedUptoRow : OpenClaim := { program := "ytlajjjcfgjpjoaa", sum := "86d34dac9f18061017b044e947f21407220cb87373bef8f041b3cf7c3ab70514", func := "loop.example/g01618/laws.FnExactComposed", spec := "fnExactComposed", plainKeys := false, apart := false, narrowed := true }
def FnExactComposedUptoSaid : Prop := fnExactComposedUptoRow.holds Try.pinned (OpenSpec.upto fnExactComposedSpec)

/-- 'laws.FnExactSameDom', WHERE WHAT IT READS IS OF BULK AT MOST 1048576: true; the input reads as it did. -/
def fnExactSameDomUptoRow : OpenClaim := { program := "ytlajjjcfgjpjoaa", sum := "86d34dac9f18061017b044e947f21407220cb87373bef8f041b3cf7c3ab70514", func := "loop.example/g01618/laws.FnExactSameDom", spec := "fnExactSameDom", plainKeys := false, apart := false, narrowed := true }
def FnExactSameDomUptoSaid : Prop := fnExactSameDomUptoRow.holds Try.pinned (OpenSpec.upto fnExactSameDomSpec)

/-- 'laws.FnExactCountOps', WHERE WHAT IT READS IS OF BULK AT MOST 1048576: true; the input reads as it did. -/
def fnExactCountOpsUptoRow : OpenClaim := { program := "ytlajjjcfgjpjoaa", sum := "86d34dac9f18061017b044e947f21407220cb87373bef8f041b3cf7c3ab70514", func := "loop.example/g01618/laws.FnExactCountOps", spec := "fnExactCountOps", plainKeys := false, apart := false, narrowed := true }
def FnExactCountOpsUptoSaid : Prop := fnExactCountOpsUptoRow.holds Try.pinned (OpenSpec.upto fnExactCountOpsSpec)

/-- 'laws.FnExactOpOk', WHERE WHAT IT READS IS OF BULK AT MOST 1048576: true; the input reads as it did. -/
def fnExactOpOkUptoRow : OpenClaim := { program := "ytlajjjcfgjpjoaa", sum := "86d34dac9f18061017b044e947f21407220cb87373bef8f041b3cf7c3ab70514", func := "loop.example/g01618/laws.FnExactOpOk", spec := "fnExactOpOk", unfollowed := true, recurses := true, plainKeys := false, apart := false, narrowed := true }
def FnExactOpOkUptoSaid : Prop := fnExactOpOkUptoRow.holds Try.pinned (OpenSpec.upto fnExactOpOkSpec)

/-- 'laws.FnExactSameOps', WHERE WHAT IT READS IS OF BULK AT MOST 1048576: true; the input reads as it did. -/
def fnExactSameOpsUptoRow : OpenClaim := { program := "ytlajjjcfgjpjoaa", sum := "86d34dac9f18061017b044e947f21407220cb87373bef8f041b3cf7c3ab70514", func := "loop.example/g01618/laws.FnExactSameOps", spec := "fnExactSameOps", unfollowed := true, recurses := true, plainKeys := false, apart := false, narrowed := true }
def FnExactSameOpsUptoSaid : Prop := fnExactSameOpsUptoRow.holds Try.pinned (OpenSpec.upto fnExactSameOpsSpec)

/-- 'laws.FnDists', WHERE WHAT IT READS IS OF BULK AT MOST 1048576: true; the input reads as it did. -/
def fnDistsUptoRow : OpenClaim := { program := "ytlajjjcfgjpjoaa", sum := "86d34dac9f18061017b044e947f21407220cb87373bef8f041b3cf7c3ab70514", func := "loop.example/g01618/laws.FnDists", spec := "fnDists", unfollowed := true, recurses := true, plainKeys := false, apart := false, narrowed := true }
def FnDistsUptoSaid : Prop := fnDistsUptoRow.holds Try.pinned (OpenSpec.upto fnDistsSpec)

end Rows
end Go.Proofs.Ytlajjjcfgjpjoaa
