/-
  No cell of these rows narrows 'for every input' (looked for: loops, veiled, ifaces, maps, wideKeys, modest, calm, conditions, laid).
  DERIVED. THE GIVEN ROWS OF THIS SEAT. 7 by the template 'for every input the law returns true; each argument reads behind the call as it read before'; 0 by the template 'total and deterministic' (their statements: YtkoojiplfbcalaaTotals.lean).
  GIVEN WITH THE SEED: the statements are not yours to turn. If you find one false, say at which input.
  Laid BY PROGRAM, IN A SANDBOX (cutbox-rows.mjs): the forced cells as the released guide's own fill.sh prints them over the translation 77ae366342869e3b… (all of the seat's roots in one cut). By AI agents, Wed Nov 11 2026. No macro, syntax, notation, axiom, sorry.
-/
import Derived.Test.YtkoojiplfbcalaaChecked
import GoSem.Claim
import GoSem.ClaimJoined
import GoSem.ClaimMapViews
import Derived.JoinedTies
import Derived.KernelRfl
namespace Go.Proofs.Ytkoojiplfbcalaa
/- THE CELL 'sum', in the pinned program and in every row, IS THE sha256 OF THE DUMP (.gsa) THAT YtkoojiplfbcalaaProg.lean LOADS. Nothing in Lean hashes anything: it is a label: what it is worth is what the hold of that sum in a sandbox is worth. -/
noncomputable def Try.pinned : Pinned := { name := "ytkoojiplfbcalaa", sum := "77ae366342869e3bc816b71c3f1680f7195381d04e885ffcec4bb69d1efe1962", checked := Try.checked }
namespace Rows
def none {H : Type} : Left H := { results := [], args := [] }

/-- 'laws.FnExactIsPassChoice': WHATEVER THE INPUT: true; the input reads as it did. -/
def fnExactIsPassChoiceSpec : ChangeSpec := { name := "fnExactIsPassChoice", fn := fun _ => fun
  | [d1, d2, d3, d4] => { results := [.lit (.bool true)], args := [d1, d2, d3, d4] }
  | _ => none }
def fnExactIsPassChoiceRow : OpenClaim := { program := "ytkoojiplfbcalaa", sum := "77ae366342869e3bc816b71c3f1680f7195381d04e885ffcec4bb69d1efe1962", func := "loop.example/g01116/laws.FnExactIsPassChoice", spec := "fnExactIsPassChoice", unfollowed := true, recurses := true, apart := false }
def FnExactIsPassChoiceSaid : Prop := fnExactIsPassChoiceRow.holds Try.pinned (OpenSpec.ofChange fnExactIsPassChoiceSpec)

/-- ITS FALSE NEIGHBOUR: 'it returns false'. Refute it at one input. -/
def fnExactIsPassChoiceWrong : ChangeSpec := { name := "fnExactIsPassChoice", fn := fun _ => fun
  | [d1, d2, d3, d4] => { results := [.lit (.bool false)], args := [d1, d2, d3, d4] }
  | _ => none }
def FnExactIsPassChoiceWrongFalsely : Prop := fnExactIsPassChoiceRow.holds Try.pinned (OpenSpec.ofChange fnExactIsPassChoiceWrong)

/-- 'laws.FnPassChoices': WHATEVER THE INPUT: true; the input reads as it did. -/
def fnPassChoicesSpec : ChangeSpec := { name := "fnPassChoices", fn := fun _ => fun
  | [d1, d2] => { results := [.lit (.bool true)], args := [d1, d2] }
  | _ => none }
def fnPassChoicesRow : OpenClaim := { program := "ytkoojiplfbcalaa", sum := "77ae366342869e3bc816b71c3f1680f7195381d04e885ffcec4bb69d1efe1962", func := "loop.example/g01116/laws.FnPassChoices", spec := "fnPassChoices", unfollowed := true, recurses := true, apart := false }
def FnPassChoicesSaid : Prop := fnPassChoicesRow.holds Try.pinned (OpenSpec.ofChange fnPassChoicesSpec)

/-- ITS FALSE NEIGHBOUR: 'it returns false'. Refute it at one input. -/
def fnPassChoicesWrong : ChangeSpec := { name := "fnPassChoices", fn := fun _ => fun
  | [d1, d2] => { results := [.lit (.bool false)], args := [d1, d2] }
  | _ => none }
def FnPassChoicesWrongFalsely : Prop := fnPassChoicesRow.holds Try.pinned (OpenSpec.ofChange fnPassChoicesWrong)

/-- 'laws.FnAccepted': WHATEVER THE INPUT: true; the input reads as it did. -/
def fnAcceptedSpec : ChangeSpec := { name := "fnAccepted", fn := fun _ => fun
  | [d1, d2] => { results := [.lit (.bool true)], args := [d1, d2] }
  | _ => none }
def fnAcceptedRow : OpenClaim := { program := "ytkoojiplfbcalaa", sum := "77ae366342869e3bc816b71c3f1680f7195381d04e885ffcec4bb69d1efe1962", func := "loop.example/g01116/laws.FnAccepted", spec := "fnAccepted", unfollowed := true, recurses := true, apart := false }
def FnAcceptedSaid : Prop := fnAcceptedRow.holds Try.pinned (OpenSpec.ofChange fnAcceptedSpec)

/-- ITS FALSE NEIGHBOUR: 'it returns false'. Refute it at one input. -/
def fnAcceptedWrong : ChangeSpec := { name := "fnAccepted", fn := fun _ => fun
  | [d1, d2] => { results := [.lit (.bool false)], args := [d1, d2] }
  | _ => none }
def FnAcceptedWrongFalsely : Prop := fnAcceptedRow.holds Try.pinned (OpenSpec.ofChange fnAcceptedWrong)

/-- 'laws.FnExactHaltValues': WHATEVER THE INPUT: true; the input reads as it did. -/
def fnExactHaltValuesSpec : ChangeSpec := { name := "fnExactHaltValues", fn := fun _ => fun
  | [d1, d2, d3] => { results := [.lit (.bool true)], args := [d1, d2, d3] }
  | _ => none }
def fnExactHaltValuesRow : OpenClaim := { program := "ytkoojiplfbcalaa", sum := "77ae366342869e3bc816b71c3f1680f7195381d04e885ffcec4bb69d1efe1962", func := "loop.example/g01116/laws.FnExactHaltValues", spec := "fnExactHaltValues", unfollowed := true, recurses := true, apart := false }
def FnExactHaltValuesSaid : Prop := fnExactHaltValuesRow.holds Try.pinned (OpenSpec.ofChange fnExactHaltValuesSpec)

/-- ITS FALSE NEIGHBOUR: 'it returns false'. Refute it at one input. -/
def fnExactHaltValuesWrong : ChangeSpec := { name := "fnExactHaltValues", fn := fun _ => fun
  | [d1, d2, d3] => { results := [.lit (.bool false)], args := [d1, d2, d3] }
  | _ => none }
def FnExactHaltValuesWrongFalsely : Prop := fnExactHaltValuesRow.holds Try.pinned (OpenSpec.ofChange fnExactHaltValuesWrong)

/-- 'laws.FnWays': WHATEVER THE INPUT: true; the input reads as it did. -/
def fnWaysSpec : ChangeSpec := { name := "fnWays", fn := fun _ => fun
  | [d1, d2] => { results := [.lit (.bool true)], args := [d1, d2] }
  | _ => none }
def fnWaysRow : OpenClaim := { program := "ytkoojiplfbcalaa", sum := "77ae366342869e3bc816b71c3f1680f7195381d04e885ffcec4bb69d1efe1962", func := "loop.example/g01116/laws.FnWays", spec := "fnWays", unfollowed := true, recurses := true, apart := false }
def FnWaysSaid : Prop := fnWaysRow.holds Try.pinned (OpenSpec.ofChange fnWaysSpec)

/-- ITS FALSE NEIGHBOUR: 'it returns false'. Refute it at one input. -/
def fnWaysWrong : ChangeSpec := { name := "fnWays", fn := fun _ => fun
  | [d1, d2] => { results := [.lit (.bool false)], args := [d1, d2] }
  | _ => none }
def FnWaysWrongFalsely : Prop := fnWaysRow.holds Try.pinned (OpenSpec.ofChange fnWaysWrong)

/-- 'laws.FnExactReversePassing': WHATEVER THE INPUT: true; the input reads as it did. -/
def fnExactReversePassingSpec : ChangeSpec := { name := "fnExactReversePassing", fn := fun _ => fun
  | [d] => { results := [.lit (.bool true)], args := [d] }
  | _ => none }
def fnExactReversePassingRow : OpenClaim := { program := "ytkoojiplfbcalaa", sum := "77ae366342869e3bc816b71c3f1680f7195381d04e885ffcec4bb69d1efe1962", func := "loop.example/g01116/laws.FnExactReversePassing", spec := "fnExactReversePassing", unfollowed := true, recurses := true, apart := false }
def FnExactReversePassingSaid : Prop := fnExactReversePassingRow.holds Try.pinned (OpenSpec.ofChange fnExactReversePassingSpec)

/-- ITS FALSE NEIGHBOUR: 'it returns false'. Refute it at one input. -/
def fnExactReversePassingWrong : ChangeSpec := { name := "fnExactReversePassing", fn := fun _ => fun
  | [d] => { results := [.lit (.bool false)], args := [d] }
  | _ => none }
def FnExactReversePassingWrongFalsely : Prop := fnExactReversePassingRow.holds Try.pinned (OpenSpec.ofChange fnExactReversePassingWrong)

/-- 'laws.FnExactFollowProgram': WHATEVER THE INPUT: true; the input reads as it did. -/
def fnExactFollowProgramSpec : ChangeSpec := { name := "fnExactFollowProgram", fn := fun _ => fun
  | [d1, d2, d3, d4] => { results := [.lit (.bool true)], args := [d1, d2, d3, d4] }
  | _ => none }
def fnExactFollowProgramRow : OpenClaim := { program := "ytkoojiplfbcalaa", sum := "77ae366342869e3bc816b71c3f1680f7195381d04e885ffcec4bb69d1efe1962", func := "loop.example/g01116/laws.FnExactFollowProgram", spec := "fnExactFollowProgram", unfollowed := true, recurses := true, apart := false }
def FnExactFollowProgramSaid : Prop := fnExactFollowProgramRow.holds Try.pinned (OpenSpec.ofChange fnExactFollowProgramSpec)

/-- ITS FALSE NEIGHBOUR: 'it returns false'. Refute it at one input. -/
def fnExactFollowProgramWrong : ChangeSpec := { name := "fnExactFollowProgram", fn := fun _ => fun
  | [d1, d2, d3, d4] => { results := [.lit (.bool false)], args := [d1, d2, d3, d4] }
  | _ => none }
def FnExactFollowProgramWrongFalsely : Prop := fnExactFollowProgramRow.holds Try.pinned (OpenSpec.ofChange fnExactFollowProgramWrong)

/- THE SECOND FORM. 'bulk': how many values and letters a reading holds, each counted each time it is reached (what is shared counts as often as it is met; a slice's spare places count too). A statement '..UptoSaid' is the law's where the arguments, and the package variables that the reading takes, are together of bulk at most 1048576: NARROWER than '..Said'. Prove '..Said' where nothing that the law and all that it calls make is longer than what came in: it says more and counts as full. Else prove '..UptoSaid'. A law counts once. -/
mutual
def uptoBulk {H : Type} : DataW H → Nat
  | .lit (.string bytes) => bytes.length + 1
  | .lit _ => 1
  | .nil => 1
  | .ptr d => uptoBulk d + 1
  | .slice elems spare => uptoBulkAll elems + uptoBulkAll spare + 1
  | .agg parts => uptoBulkAll parts + 1
  | .iface _ d => uptoBulk d + 1
  | .map entries => uptoBulkEntries entries + 1
  | .held _ => 1
def uptoBulkAll {H : Type} : List (DataW H) → Nat
  | [] => 0
  | d :: r => uptoBulk d + uptoBulkAll r
def uptoBulkEntries {H : Type} : List (Lit × DataW H) → Nat
  | [] => 0
  | x :: r => uptoBulkEntry x + uptoBulkEntries r
def uptoBulkEntry {H : Type} : Lit × DataW H → Nat
  | (.string bytes, d) => bytes.length + uptoBulk d + 1
  | (_, d) => uptoBulk d + 1
 end
def uptoSmall : (H : Type) → List (DataW H) → Bool := fun _ ds => decide (uptoBulkAll ds ≤ 1048576)
def OpenSpec.upto (s : _root_.Go.ChangeSpec) : _root_.Go.OpenSpec := { _root_.Go.OpenSpec.ofChange s with cond := some uptoSmall }

/-- 'laws.FnExactIsPassChoice', WHERE WHAT IT READS IS OF BULK AT MOST 1048576: true; the input reads as it did. -/
def fnExactIsPassChoiceUptoRow : OpenClaim := { program := "ytkoojiplfbcalaa", sum := "77ae366342869e3bc816b71c3f1680f7195381d04e885ffcec4bb69d1efe1962", func := "loop.example/g01116/laws.FnExactIsPassChoice", spec := "fnExactIsPassChoice", unfollowed := true, recurses := true, apart := false, narrowed := true }
def FnExactIsPassChoiceUptoSaid : Prop := fnExactIsPassChoiceUptoRow.holds Try.pinned (OpenSpec.upto fnExactIsPassChoiceSpec)

/-- 'laws.FnPassChoices', WHERE WHAT IT READS IS OF BULK AT MOST 1048576: true; the input reads as it did. -/
def fnPassChoicesUptoRow : OpenClaim := { program := "ytkoojiplfbcalaa", sum := "77ae366342869e3bc816b71c3f1680f7195381d04e885ffcec4bb69d1efe1962", func := "loop.example/g01116/laws.FnPassChoices", spec := "fnPassChoices", unfollowed := true, recurses := true, apart := false, narrowed := true }
def FnPassChoicesUptoSaid : Prop := fnPassChoicesUptoRow.holds Try.pinned (OpenSpec.upto fnPassChoicesSpec)

/-- 'laws.FnAccepted', WHERE WHAT IT READS IS OF BULK AT MOST 1048576: true; the input reads as it did. -/
def fnAcceptedUptoRow : OpenClaim := { program := "ytkoojiplfbcalaa", sum := "77ae366342869e3bc816b71c3f1680f7195381d04e885ffcec4bb69d1efe1962", func := "loop.example/g01116/laws.FnAccepted", spec := "fnAccepted", unfollowed := true, recurses := true, apart := false, narrowed := true }
def FnAcceptedUptoSaid : Prop := fnAcceptedUptoRow.holds Try.pinned (OpenSpec.upto fnAcceptedSpec)

/-- 'laws.FnExactHaltValues', WHERE WHAT IT READS IS OF BULK AT MOST 1048576: true; the input reads as it did. -/
def fnExactHaltValuesUptoRow : OpenClaim := { program := "ytkoojiplfbcalaa", sum := "77ae366342869e3bc816b71c3f1680f7195381d04e885ffcec4bb69d1efe1962", func := "loop.example/g01116/laws.FnExactHaltValues", spec := "fnExactHaltValues", unfollowed := true, recurses := true, apart := false, narrowed := true }
def FnExactHaltValuesUptoSaid : Prop := fnExactHaltValuesUptoRow.holds Try.pinned (OpenSpec.upto fnExactHaltValuesSpec)

/-- 'laws.FnWays', WHERE WHAT IT READS IS OF BULK AT MOST 1048576: true; the input reads as it did. -/
def fnWaysUptoRow : OpenClaim := { program := "ytkoojiplfbcalaa", sum := "77ae366342869e3bc816b71c3f1680f7195381d04e885ffcec4bb69d1efe1962", func := "loop.example/g01116/laws.FnWays", spec := "fnWays", unfollowed := true, recurses := true, apart := false, narrowed := true }
def FnWaysUptoSaid : Prop := fnWaysUptoRow.holds Try.pinned (OpenSpec.upto fnWaysSpec)

/-- 'laws.FnExactReversePassing', WHERE WHAT IT READS IS OF BULK AT MOST 1048576: true; the input reads as it did. -/
def fnExactReversePassingUptoRow : OpenClaim := { program := "ytkoojiplfbcalaa", sum := "77ae366342869e3bc816b71c3f1680f7195381d04e885ffcec4bb69d1efe1962", func := "loop.example/g01116/laws.FnExactReversePassing", spec := "fnExactReversePassing", unfollowed := true, recurses := true, apart := false, narrowed := true }
def FnExactReversePassingUptoSaid : Prop := fnExactReversePassingUptoRow.holds Try.pinned (OpenSpec.upto fnExactReversePassingSpec)

/-- 'laws.FnExactFollowProgram', WHERE WHAT IT READS IS OF BULK AT MOST 1048576: true; the input reads as it did. -/
def fnExactFollowProgramUptoRow : OpenClaim := { program := "ytkoojiplfbcalaa", sum := "77ae366342869e3bc816b71c3f1680f7195381d04e885ffcec4bb69d1efe1962", func := "loop.example/g01116/laws.FnExactFollowProgram", spec := "fnExactFollowProgram", unfollowed := true, recurses := true, apart := false, narrowed := true }
def FnExactFollowProgramUptoSaid : Prop := fnExactFollowProgramUptoRow.holds Try.pinned (OpenSpec.upto fnExactFollowProgramSpec)

end Rows
end Go.Proofs.Ytkoojiplfbcalaa
