/-
  No cell of these rows narrows 'for every input' (looked for: loops, veiled, ifaces, maps, wideKeys, modest, calm, conditions, laid).
  DERIVED. THE GIVEN ROWS OF THIS SEAT. 10 by the template 'for every input the law returns true; each argument reads behind the call as it read before'; 0 by the template 'total and deterministic' (their statements: YthlbogmnnenkoaaTotals.lean).
  GIVEN WITH THE SEED: the statements are not yours to turn. If you find one false, say at which input.
  Laid BY PROGRAM, IN A SANDBOX (cutbox-rows.mjs): the forced cells as the released guide's own fill.sh prints them over the translation 33f7677b754f2138… (all of the seat's roots in one cut). By AI agents, Wed Nov 11 2026. No macro, syntax, notation, axiom, sorry.
-/
import Derived.Test.YthlbogmnnenkoaaChecked
import GoSem.Claim
import GoSem.ClaimJoined
import GoSem.ClaimMapViews
import Derived.JoinedTies
import Derived.KernelRfl
namespace Go.Proofs.Ythlbogmnnenkoaa
/- THE CELL 'sum', in the pinned program and in every row, IS THE sha256 OF THE DUMP (.gsa) THAT YthlbogmnnenkoaaProg.lean LOADS. Nothing in Lean hashes anything: it is a label: what it is worth is what the hold of that sum in a sandbox is worth. -/
noncomputable def Try.pinned : Pinned := { name := "ythlbogmnnenkoaa", sum := "33f7677b754f2138e821a7001d2c7b4c0888f152018af88a292b3f1a790dd6be", checked := Try.checked }
namespace Rows
def none {H : Type} : Left H := { results := [], args := [] }

/-- 'laws.FnExactProgramKinds': WHATEVER THE INPUT: true; the input reads as it did. -/
def fnExactProgramKindsSpec : ChangeSpec := { name := "fnExactProgramKinds", fn := fun _ => fun
  | [d1, d2] => { results := [.lit (.bool true)], args := [d1, d2] }
  | _ => none }
def fnExactProgramKindsRow : OpenClaim := { program := "ythlbogmnnenkoaa", sum := "33f7677b754f2138e821a7001d2c7b4c0888f152018af88a292b3f1a790dd6be", func := "loop.example/g01116/laws.FnExactProgramKinds", spec := "fnExactProgramKinds", unfollowed := true, recurses := true, apart := false }
def FnExactProgramKindsSaid : Prop := fnExactProgramKindsRow.holds Try.pinned (OpenSpec.ofChange fnExactProgramKindsSpec)

/-- ITS FALSE NEIGHBOUR: 'it returns false'. Refute it at one input. -/
def fnExactProgramKindsWrong : ChangeSpec := { name := "fnExactProgramKinds", fn := fun _ => fun
  | [d1, d2] => { results := [.lit (.bool false)], args := [d1, d2] }
  | _ => none }
def FnExactProgramKindsWrongFalsely : Prop := fnExactProgramKindsRow.holds Try.pinned (OpenSpec.ofChange fnExactProgramKindsWrong)

/-- 'laws.FnExactIsPassChoice': WHATEVER THE INPUT: true; the input reads as it did. -/
def fnExactIsPassChoiceSpec : ChangeSpec := { name := "fnExactIsPassChoice", fn := fun _ => fun
  | [d1, d2, d3, d4] => { results := [.lit (.bool true)], args := [d1, d2, d3, d4] }
  | _ => none }
def fnExactIsPassChoiceRow : OpenClaim := { program := "ythlbogmnnenkoaa", sum := "33f7677b754f2138e821a7001d2c7b4c0888f152018af88a292b3f1a790dd6be", func := "loop.example/g01116/laws.FnExactIsPassChoice", spec := "fnExactIsPassChoice", unfollowed := true, recurses := true, apart := false }
def FnExactIsPassChoiceSaid : Prop := fnExactIsPassChoiceRow.holds Try.pinned (OpenSpec.ofChange fnExactIsPassChoiceSpec)

/-- ITS FALSE NEIGHBOUR: 'it returns false'. Refute it at one input. -/
def fnExactIsPassChoiceWrong : ChangeSpec := { name := "fnExactIsPassChoice", fn := fun _ => fun
  | [d1, d2, d3, d4] => { results := [.lit (.bool false)], args := [d1, d2, d3, d4] }
  | _ => none }
def FnExactIsPassChoiceWrongFalsely : Prop := fnExactIsPassChoiceRow.holds Try.pinned (OpenSpec.ofChange fnExactIsPassChoiceWrong)

/-- 'laws.FnExactDecodeState': WHATEVER THE INPUT: true; the input reads as it did. -/
def fnExactDecodeStateSpec : ChangeSpec := { name := "fnExactDecodeState", fn := fun _ => fun
  | [d1, d2, d3] => { results := [.lit (.bool true)], args := [d1, d2, d3] }
  | _ => none }
def fnExactDecodeStateRow : OpenClaim := { program := "ythlbogmnnenkoaa", sum := "33f7677b754f2138e821a7001d2c7b4c0888f152018af88a292b3f1a790dd6be", func := "loop.example/g01116/laws.FnExactDecodeState", spec := "fnExactDecodeState", unfollowed := true, recurses := true, apart := false }
def FnExactDecodeStateSaid : Prop := fnExactDecodeStateRow.holds Try.pinned (OpenSpec.ofChange fnExactDecodeStateSpec)

/-- ITS FALSE NEIGHBOUR: 'it returns false'. Refute it at one input. -/
def fnExactDecodeStateWrong : ChangeSpec := { name := "fnExactDecodeState", fn := fun _ => fun
  | [d1, d2, d3] => { results := [.lit (.bool false)], args := [d1, d2, d3] }
  | _ => none }
def FnExactDecodeStateWrongFalsely : Prop := fnExactDecodeStateRow.holds Try.pinned (OpenSpec.ofChange fnExactDecodeStateWrong)

/-- 'laws.FnExactHaltValues': WHATEVER THE INPUT: true; the input reads as it did. -/
def fnExactHaltValuesSpec : ChangeSpec := { name := "fnExactHaltValues", fn := fun _ => fun
  | [d1, d2, d3] => { results := [.lit (.bool true)], args := [d1, d2, d3] }
  | _ => none }
def fnExactHaltValuesRow : OpenClaim := { program := "ythlbogmnnenkoaa", sum := "33f7677b754f2138e821a7001d2c7b4c0888f152018af88a292b3f1a790dd6be", func := "loop.example/g01116/laws.FnExactHaltValues", spec := "fnExactHaltValues", unfollowed := true, recurses := true, apart := false }
def FnExactHaltValuesSaid : Prop := fnExactHaltValuesRow.holds Try.pinned (OpenSpec.ofChange fnExactHaltValuesSpec)

/-- ITS FALSE NEIGHBOUR: 'it returns false'. Refute it at one input. -/
def fnExactHaltValuesWrong : ChangeSpec := { name := "fnExactHaltValues", fn := fun _ => fun
  | [d1, d2, d3] => { results := [.lit (.bool false)], args := [d1, d2, d3] }
  | _ => none }
def FnExactHaltValuesWrongFalsely : Prop := fnExactHaltValuesRow.holds Try.pinned (OpenSpec.ofChange fnExactHaltValuesWrong)

/-- 'laws.FnBagSums': WHATEVER THE INPUT: true; the input reads as it did. -/
def fnBagSumsSpec : ChangeSpec := { name := "fnBagSums", fn := fun _ => fun
  | [d1, d2] => { results := [.lit (.bool true)], args := [d1, d2] }
  | _ => none }
def fnBagSumsRow : OpenClaim := { program := "ythlbogmnnenkoaa", sum := "33f7677b754f2138e821a7001d2c7b4c0888f152018af88a292b3f1a790dd6be", func := "loop.example/g01116/laws.FnBagSums", spec := "fnBagSums", unfollowed := true, recurses := true, apart := false }
def FnBagSumsSaid : Prop := fnBagSumsRow.holds Try.pinned (OpenSpec.ofChange fnBagSumsSpec)

/-- ITS FALSE NEIGHBOUR: 'it returns false'. Refute it at one input. -/
def fnBagSumsWrong : ChangeSpec := { name := "fnBagSums", fn := fun _ => fun
  | [d1, d2] => { results := [.lit (.bool false)], args := [d1, d2] }
  | _ => none }
def FnBagSumsWrongFalsely : Prop := fnBagSumsRow.holds Try.pinned (OpenSpec.ofChange fnBagSumsWrong)

/-- 'laws.FnBagLists': WHATEVER THE INPUT: true; the input reads as it did. -/
def fnBagListsSpec : ChangeSpec := { name := "fnBagLists", fn := fun _ => fun
  | [d1, d2] => { results := [.lit (.bool true)], args := [d1, d2] }
  | _ => none }
def fnBagListsRow : OpenClaim := { program := "ythlbogmnnenkoaa", sum := "33f7677b754f2138e821a7001d2c7b4c0888f152018af88a292b3f1a790dd6be", func := "loop.example/g01116/laws.FnBagLists", spec := "fnBagLists", unfollowed := true, recurses := true, apart := false }
def FnBagListsSaid : Prop := fnBagListsRow.holds Try.pinned (OpenSpec.ofChange fnBagListsSpec)

/-- ITS FALSE NEIGHBOUR: 'it returns false'. Refute it at one input. -/
def fnBagListsWrong : ChangeSpec := { name := "fnBagLists", fn := fun _ => fun
  | [d1, d2] => { results := [.lit (.bool false)], args := [d1, d2] }
  | _ => none }
def FnBagListsWrongFalsely : Prop := fnBagListsRow.holds Try.pinned (OpenSpec.ofChange fnBagListsWrong)

/-- 'laws.FnPackings': WHATEVER THE INPUT: true; the input reads as it did. -/
def fnPackingsSpec : ChangeSpec := { name := "fnPackings", fn := fun _ => fun
  | [d1, d2] => { results := [.lit (.bool true)], args := [d1, d2] }
  | _ => none }
def fnPackingsRow : OpenClaim := { program := "ythlbogmnnenkoaa", sum := "33f7677b754f2138e821a7001d2c7b4c0888f152018af88a292b3f1a790dd6be", func := "loop.example/g01116/laws.FnPackings", spec := "fnPackings", unfollowed := true, recurses := true, apart := false }
def FnPackingsSaid : Prop := fnPackingsRow.holds Try.pinned (OpenSpec.ofChange fnPackingsSpec)

/-- ITS FALSE NEIGHBOUR: 'it returns false'. Refute it at one input. -/
def fnPackingsWrong : ChangeSpec := { name := "fnPackings", fn := fun _ => fun
  | [d1, d2] => { results := [.lit (.bool false)], args := [d1, d2] }
  | _ => none }
def FnPackingsWrongFalsely : Prop := fnPackingsRow.holds Try.pinned (OpenSpec.ofChange fnPackingsWrong)

/-- 'laws.FnAccepted': WHATEVER THE INPUT: true; the input reads as it did. -/
def fnAcceptedSpec : ChangeSpec := { name := "fnAccepted", fn := fun _ => fun
  | [d1, d2] => { results := [.lit (.bool true)], args := [d1, d2] }
  | _ => none }
def fnAcceptedRow : OpenClaim := { program := "ythlbogmnnenkoaa", sum := "33f7677b754f2138e821a7001d2c7b4c0888f152018af88a292b3f1a790dd6be", func := "loop.example/g01116/laws.FnAccepted", spec := "fnAccepted", unfollowed := true, recurses := true, apart := false }
def FnAcceptedSaid : Prop := fnAcceptedRow.holds Try.pinned (OpenSpec.ofChange fnAcceptedSpec)

/-- ITS FALSE NEIGHBOUR: 'it returns false'. Refute it at one input. -/
def fnAcceptedWrong : ChangeSpec := { name := "fnAccepted", fn := fun _ => fun
  | [d1, d2] => { results := [.lit (.bool false)], args := [d1, d2] }
  | _ => none }
def FnAcceptedWrongFalsely : Prop := fnAcceptedRow.holds Try.pinned (OpenSpec.ofChange fnAcceptedWrong)

/-- 'laws.FnWays': WHATEVER THE INPUT: true; the input reads as it did. -/
def fnWaysSpec : ChangeSpec := { name := "fnWays", fn := fun _ => fun
  | [d1, d2] => { results := [.lit (.bool true)], args := [d1, d2] }
  | _ => none }
def fnWaysRow : OpenClaim := { program := "ythlbogmnnenkoaa", sum := "33f7677b754f2138e821a7001d2c7b4c0888f152018af88a292b3f1a790dd6be", func := "loop.example/g01116/laws.FnWays", spec := "fnWays", unfollowed := true, recurses := true, apart := false }
def FnWaysSaid : Prop := fnWaysRow.holds Try.pinned (OpenSpec.ofChange fnWaysSpec)

/-- ITS FALSE NEIGHBOUR: 'it returns false'. Refute it at one input. -/
def fnWaysWrong : ChangeSpec := { name := "fnWays", fn := fun _ => fun
  | [d1, d2] => { results := [.lit (.bool false)], args := [d1, d2] }
  | _ => none }
def FnWaysWrongFalsely : Prop := fnWaysRow.holds Try.pinned (OpenSpec.ofChange fnWaysWrong)

/-- 'laws.FnPassChoices': WHATEVER THE INPUT: true; the input reads as it did. -/
def fnPassChoicesSpec : ChangeSpec := { name := "fnPassChoices", fn := fun _ => fun
  | [d1, d2] => { results := [.lit (.bool true)], args := [d1, d2] }
  | _ => none }
def fnPassChoicesRow : OpenClaim := { program := "ythlbogmnnenkoaa", sum := "33f7677b754f2138e821a7001d2c7b4c0888f152018af88a292b3f1a790dd6be", func := "loop.example/g01116/laws.FnPassChoices", spec := "fnPassChoices", unfollowed := true, recurses := true, apart := false }
def FnPassChoicesSaid : Prop := fnPassChoicesRow.holds Try.pinned (OpenSpec.ofChange fnPassChoicesSpec)

/-- ITS FALSE NEIGHBOUR: 'it returns false'. Refute it at one input. -/
def fnPassChoicesWrong : ChangeSpec := { name := "fnPassChoices", fn := fun _ => fun
  | [d1, d2] => { results := [.lit (.bool false)], args := [d1, d2] }
  | _ => none }
def FnPassChoicesWrongFalsely : Prop := fnPassChoicesRow.holds Try.pinned (OpenSpec.ofChange fnPassChoicesWrong)

/- THE SECOND FORM. 'bulk': how many values and letters a reading holds, each counted each time it is reached (what is shared counts as often as it is met; a slice's spare places count too). A statement '..UptoSaid' is the law's where the arguments, and the package variables that the reading takes, are together of bulk at most 1048576: NARROWER than '..Said'. Prove '..Said' where nothing that the law and all that it calls make is longer than what came in: it says more and counts as full. Else prove '..UptoSaid'. A law counts once. -/
mutual
def uptoBulk {H : Type} : DataW H → Nat
  | .lit (.string bytes) => bytes.length + 1
  | .lit _ => 1
  | .nil => 1
  | .ptr d => uptoBulk d + 1
  | .slice elems spare => uptoBulkAll elems + uptoBulkAll spare + 1
  | .agg parts => uptoBulkAll parts + 1
  | .iface _ d => uptoBulk d + 1
  | .map entries => uptoBulkEntries entries + 1
  | .held _ => 1
def uptoBulkAll {H : Type} : List (DataW H) → Nat
  | [] => 0
  | d :: r => uptoBulk d + uptoBulkAll r
def uptoBulkEntries {H : Type} : List (Lit × DataW H) → Nat
  | [] => 0
  | x :: r => uptoBulkEntry x + uptoBulkEntries r
def uptoBulkEntry {H : Type} : Lit × DataW H → Nat
  | (.string bytes, d) => bytes.length + uptoBulk d + 1
  | (_, d) => uptoBulk d + 1
 end
def uptoSmall : (H : Type) → List (DataW H) → Bool := fun _ ds => decide (uptoBulkAll ds ≤ 1048576)
def OpenSpec.upto (s : _root_.Go.ChangeSpec) : _root_.Go.OpenSpec := { _root_.Go.OpenSpec.ofChange s with cond := some uptoSmall }

/-- 'laws.FnExactProgramKinds', WHERE WHAT IT READS IS OF BULK AT MOST 1048576: true; the input reads as it did. -/
def fnExactProgramKindsUptoRow : OpenClaim := { program := "ythlbogmnnenkoaa", sum := "33f7677b754f2138e821a7001d2c7b4c0888f152018af88a292b3f1a790dd6be", func := "loop.example/g01116/laws.FnExactProgramKinds", spec := "fnExactProgramKinds", unfollowed := true, recurses := true, apart := false, narrowed := true }
def FnExactProgramKindsUptoSaid : Prop := fnExactProgramKindsUptoRow.holds Try.pinned (OpenSpec.upto fnExactProgramKindsSpec)

/-- 'laws.FnExactIsPassChoice', WHERE WHAT IT READS IS OF BULK AT MOST 1048576: true; the input reads as it did. -/
def fnExactIsPassChoiceUptoRow : OpenClaim := { program := "ythlbogmnnenkoaa", sum := "33f7677b754f2138e821a7001d2c7b4c0888f152018af88a292b3f1a790dd6be", func := "loop.example/g01116/laws.FnExactIsPassChoice", spec := "fnExactIsPassChoice", unfollowed := true, recurses := true, apart := false, narrowed := true }
def FnExactIsPassChoiceUptoSaid : Prop := fnExactIsPassChoiceUptoRow.holds Try.pinned (OpenSpec.upto fnExactIsPassChoiceSpec)

/-- 'laws.FnExactDecodeState', WHERE WHAT IT READS IS OF BULK AT MOST 1048576: true; the input reads as it did. -/
def fnExactDecodeStateUptoRow : OpenClaim := { program := "ythlbogmnnenkoaa", sum := "33f7677b754f2138e821a7001d2c7b4c0888f152018af88a292b3f1a790dd6be", func := "loop.example/g01116/laws.FnExactDecodeState", spec := "fnExactDecodeState", unfollowed := true, recurses := true, apart := false, narrowed := true }
def FnExactDecodeStateUptoSaid : Prop := fnExactDecodeStateUptoRow.holds Try.pinned (OpenSpec.upto fnExactDecodeStateSpec)

/-- 'laws.FnExactHaltValues', WHERE WHAT IT READS IS OF BULK AT MOST 1048576: true; the input reads as it did. -/
def fnExactHaltValuesUptoRow : OpenClaim := { program := "ythlbogmnnenkoaa", sum := "33f7677b754f2138e821a7001d2c7b4c0888f152018af88a292b3f1a790dd6be", func := "loop.example/g01116/laws.FnExactHaltValues", spec := "fnExactHaltValues", unfollowed := true, recurses := true, apart := false, narrowed := true }
def FnExactHaltValuesUptoSaid : Prop := fnExactHaltValuesUptoRow.holds Try.pinned (OpenSpec.upto fnExactHaltValuesSpec)

/-- 'laws.FnBagSums', WHERE WHAT IT READS IS OF BULK AT MOST 1048576: true; the input reads as it did. -/
def fnBagSumsUptoRow : OpenClaim := { program := "ythlbogmnnenkoaa", sum := "33f7677b754f2138e821a7001d2c7b4c0888f152018af88a292b3f1a790dd6be", func := "loop.example/g01116/laws.FnBagSums", spec := "fnBagSums", unfollowed := true, recurses := true, apart := false, narrowed := true }
def FnBagSumsUptoSaid : Prop := fnBagSumsUptoRow.holds Try.pinned (OpenSpec.upto fnBagSumsSpec)

/-- 'laws.FnBagLists', WHERE WHAT IT READS IS OF BULK AT MOST 1048576: true; the input reads as it did. -/
def fnBagListsUptoRow : OpenClaim := { program := "ythlbogmnnenkoaa", sum := "33f7677b754f2138e821a7001d2c7b4c0888f152018af88a292b3f1a790dd6be", func := "loop.example/g01116/laws.FnBagLists", spec := "fnBagLists", unfollowed := true, recurses := true, apart := false, narrowed := true }
def FnBagListsUptoSaid : Prop := fnBagListsUptoRow.holds Try.pinned (OpenSpec.upto fnBagListsSpec)

/-- 'laws.FnPackings', WHERE WHAT IT READS IS OF BULK AT MOST 1048576: true; the input reads as it did. -/
def fnPackingsUptoRow : OpenClaim := { program := "ythlbogmnnenkoaa", sum := "33f7677b754f2138e821a7001d2c7b4c0888f152018af88a292b3f1a790dd6be", func := "loop.example/g01116/laws.FnPackings", spec := "fnPackings", unfollowed := true, recurses := true, apart := false, narrowed := true }
def FnPackingsUptoSaid : Prop := fnPackingsUptoRow.holds Try.pinned (OpenSpec.upto fnPackingsSpec)

/-- 'laws.FnAccepted', WHERE WHAT IT READS IS OF BULK AT MOST 1048576: true; the input reads as it did. -/
def fnAcceptedUptoRow : OpenClaim := { program := "ythlbogmnnenkoaa", sum := "33f7677b754f2138e821a7001d2c7b4c0888f152018af88a292b3f1a790dd6be", func := "loop.example/g01116/laws.FnAccepted", spec := "fnAccepted", unfollowed := true, recurses := true, apart := false, narrowed := true }
def FnAcceptedUptoSaid : Prop := fnAcceptedUptoRow.holds Try.pinned (OpenSpec.upto fnAcceptedSpec)

/-- 'laws.FnWays', WHERE WHAT IT READS IS OF BULK AT MOST 1048576: true; the input reads as it did. -/
def fnWaysUptoRow : OpenClaim := { program := "ythlbogmnnenkoaa", sum := "33f7677b754f2138e821a7001d2c7b4c0888f152018af88a292b3f1a790dd6be", func := "loop.example/g01116/laws.FnWays", spec := "fnWays", unfollowed := true, recurses := true, apart := false, narrowed := true }
def FnWaysUptoSaid : Prop := fnWaysUptoRow.holds Try.pinned (OpenSpec.upto fnWaysSpec)

/-- 'laws.FnPassChoices', WHERE WHAT IT READS IS OF BULK AT MOST 1048576: true; the input reads as it did. -/
def fnPassChoicesUptoRow : OpenClaim := { program := "ythlbogmnnenkoaa", sum := "33f7677b754f2138e821a7001d2c7b4c0888f152018af88a292b3f1a790dd6be", func := "loop.example/g01116/laws.FnPassChoices", spec := "fnPassChoices", unfollowed := true, recurses := true, apart := false, narrowed := true }
def FnPassChoicesUptoSaid : Prop := fnPassChoicesUptoRow.holds Try.pinned (OpenSpec.upto fnPassChoicesSpec)

end Rows
end Go.Proofs.Ythlbogmnnenkoaa
