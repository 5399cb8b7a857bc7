/-
  No cell of these rows narrows 'for every input' (looked for: loops, veiled, ifaces, maps, wideKeys, modest, calm, conditions, laid).
  DERIVED. THE GIVEN ROWS OF THIS SEAT. 4 by the template 'for every input the law returns true; each argument reads behind the call as it read before'; 0 by the template 'total and deterministic' (their statements: YtncndnholheemaaTotals.lean).
  GIVEN WITH THE SEED: the statements are not yours to turn. If you find one false, say at which input.
  Laid BY PROGRAM, IN A SANDBOX (cutbox-rows.mjs): the forced cells as the released guide's own fill.sh prints them over the translation aebdb4812f7072d0… (all of the seat's roots in one cut). By AI agents, Wed Nov 11 2026. No macro, syntax, notation, axiom, sorry.
-/
import Derived.Test.YtncndnholheemaaChecked
import GoSem.Claim
import GoSem.ClaimJoined
import GoSem.ClaimMapViews
import Derived.JoinedTies
import Derived.KernelRfl
namespace Go.Proofs.Ytncndnholheemaa
/- THE CELL 'sum', in the pinned program and in every row, IS THE sha256 OF THE DUMP (.gsa) THAT YtncndnholheemaaProg.lean LOADS. Nothing in Lean hashes anything: it is a label: what it is worth is what the hold of that sum in a sandbox is worth. -/
noncomputable def Try.pinned : Pinned := { name := "ytncndnholheemaa", sum := "aebdb4812f7072d094e39e836fa1d41799cef1d61caffa8a9f4ed3d43fdf3570", checked := Try.checked }
namespace Rows
def none {H : Type} : Left H := { results := [], args := [] }

/-- 'laws.FnPassChoices': WHATEVER THE INPUT: true; the input reads as it did. -/
def fnPassChoicesSpec : ChangeSpec := { name := "fnPassChoices", fn := fun _ => fun
  | [d1, d2] => { results := [.lit (.bool true)], args := [d1, d2] }
  | _ => none }
def fnPassChoicesRow : OpenClaim := { program := "ytncndnholheemaa", sum := "aebdb4812f7072d094e39e836fa1d41799cef1d61caffa8a9f4ed3d43fdf3570", func := "loop.example/g01116/laws.FnPassChoices", spec := "fnPassChoices", unfollowed := true, recurses := true, apart := false }
def FnPassChoicesSaid : Prop := fnPassChoicesRow.holds Try.pinned (OpenSpec.ofChange fnPassChoicesSpec)

/-- ITS FALSE NEIGHBOUR: 'it returns false'. Refute it at one input. -/
def fnPassChoicesWrong : ChangeSpec := { name := "fnPassChoices", fn := fun _ => fun
  | [d1, d2] => { results := [.lit (.bool false)], args := [d1, d2] }
  | _ => none }
def FnPassChoicesWrongFalsely : Prop := fnPassChoicesRow.holds Try.pinned (OpenSpec.ofChange fnPassChoicesWrong)

/-- 'laws.FnExactHaltValues': WHATEVER THE INPUT: true; the input reads as it did. -/
def fnExactHaltValuesSpec : ChangeSpec := { name := "fnExactHaltValues", fn := fun _ => fun
  | [d1, d2, d3] => { results := [.lit (.bool true)], args := [d1, d2, d3] }
  | _ => none }
def fnExactHaltValuesRow : OpenClaim := { program := "ytncndnholheemaa", sum := "aebdb4812f7072d094e39e836fa1d41799cef1d61caffa8a9f4ed3d43fdf3570", func := "loop.example/g01116/laws.FnExactHaltValues", spec := "fnExactHaltValues", unfollowed := true, recurses := true, apart := false }
def FnExactHaltValuesSaid : Prop := fnExactHaltValuesRow.holds Try.pinned (OpenSpec.ofChange fnExactHaltValuesSpec)

/-- ITS FALSE NEIGHBOUR: 'it returns false'. Refute it at one input. -/
def fnExactHaltValuesWrong : ChangeSpec := { name := "fnExactHaltValues", fn := fun _ => fun
  | [d1, d2, d3] => { results := [.lit (.bool false)], args := [d1, d2, d3] }
  | _ => none }
def FnExactHaltValuesWrongFalsely : Prop := fnExactHaltValuesRow.holds Try.pinned (OpenSpec.ofChange fnExactHaltValuesWrong)

/-- 'laws.FnWays': WHATEVER THE INPUT: true; the input reads as it did. -/
def fnWaysSpec : ChangeSpec := { name := "fnWays", fn := fun _ => fun
  | [d1, d2] => { results := [.lit (.bool true)], args := [d1, d2] }
  | _ => none }
def fnWaysRow : OpenClaim := { program := "ytncndnholheemaa", sum := "aebdb4812f7072d094e39e836fa1d41799cef1d61caffa8a9f4ed3d43fdf3570", func := "loop.example/g01116/laws.FnWays", spec := "fnWays", unfollowed := true, recurses := true, apart := false }
def FnWaysSaid : Prop := fnWaysRow.holds Try.pinned (OpenSpec.ofChange fnWaysSpec)

/-- ITS FALSE NEIGHBOUR: 'it returns false'. Refute it at one input. -/
def fnWaysWrong : ChangeSpec := { name := "fnWays", fn := fun _ => fun
  | [d1, d2] => { results := [.lit (.bool false)], args := [d1, d2] }
  | _ => none }
def FnWaysWrongFalsely : Prop := fnWaysRow.holds Try.pinned (OpenSpec.ofChange fnWaysWrong)

/-- 'laws.FnExactFollowProgram': WHATEVER THE INPUT: true; the input reads as it did. -/
def fnExactFollowProgramSpec : ChangeSpec := { name := "fnExactFollowProgram", fn := fun _ => fun
  | [d1, d2, d3, d4] => { results := [.lit (.bool true)], args := [d1, d2, d3, d4] }
  | _ => none }
def fnExactFollowProgramRow : OpenClaim := { program := "ytncndnholheemaa", sum := "aebdb4812f7072d094e39e836fa1d41799cef1d61caffa8a9f4ed3d43fdf3570", func := "loop.example/g01116/laws.FnExactFollowProgram", spec := "fnExactFollowProgram", unfollowed := true, recurses := true, apart := false }
def FnExactFollowProgramSaid : Prop := fnExactFollowProgramRow.holds Try.pinned (OpenSpec.ofChange fnExactFollowProgramSpec)

/-- ITS FALSE NEIGHBOUR: 'it returns false'. Refute it at one input. -/
def fnExactFollowProgramWrong : ChangeSpec := { name := "fnExactFollowProgram", fn := fun _ => fun
  | [d1, d2, d3, d4] => { results := [.lit (.bool false)], args := [d1, d2, d3, d4] }
  | _ => none }
def FnExactFollowProgramWrongFalsely : Prop := fnExactFollowProgramRow.holds Try.pinned (OpenSpec.ofChange fnExactFollowProgramWrong)

/- THE SECOND FORM. 'bulk': how many values and letters a reading holds, each counted each time it is reached (what is shared counts as often as it is met; a slice's spare places count too). A statement '..UptoSaid' is the law's where the arguments, and the package variables that the reading takes, are together of bulk at most 1048576: NARROWER than '..Said'. Prove '..Said' where nothing that the law and all that it calls make is longer than what came in: it says more and counts as full. Else prove '..UptoSaid'. A law counts once. -/
mutual
def uptoBulk {H : Type} : DataW H → Nat
  | .lit (.string bytes) => bytes.length + 1
  | .lit _ => 1
  | .nil => 1
  | .ptr d => uptoBulk d + 1
  | .slice elems spare => uptoBulkAll elems + uptoBulkAll spare + 1
  | .agg parts => uptoBulkAll parts + 1
  | .iface _ d => uptoBulk d + 1
  | .map entries => uptoBulkEntries entries + 1
  | .held _ => 1
def uptoBulkAll {H : Type} : List (DataW H) → Nat
  | [] => 0
  | d :: r => uptoBulk d + uptoBulkAll r
def uptoBulkEntries {H : Type} : List (Lit × DataW H) → Nat
  | [] => 0
  | x :: r => uptoBulkEntry x + uptoBulkEntries r
def uptoBulkEntry {H : Type} : Lit × DataW H → Nat
  | (.string bytes, d) => bytes.length + uptoBulk d + 1
  | (_, d) => uptoBulk d + 1
 end
def uptoSmall : (H : Type) → List (DataW H) → Bool := fun _ ds => decide (uptoBulkAll ds ≤ 1048576)
def OpenSpec.upto (s : _root_.Go.ChangeSpec) : _root_.Go.OpenSpec := { _root_.Go.OpenSpec.ofChange s with cond := some uptoSmall }

/-- 'laws.FnPassChoices', WHERE WHAT IT READS IS OF BULK AT MOST 1048576: true; the input reads as it did. -/
def fnPassChoicesUptoRow : OpenClaim := { program := "ytncndnholheemaa", sum := "aebdb4812f7072d094e39e836fa1d41799cef1d61caffa8a9f4ed3d43fdf3570", func := "loop.example/g01116/laws.FnPassChoices", spec := "fnPassChoices", unfollowed := true, recurses := true, apart := false, narrowed := true }
def FnPassChoicesUptoSaid : Prop := fnPassChoicesUptoRow.holds Try.pinned (OpenSpec.upto fnPassChoicesSpec)

/-- 'laws.FnExactHaltValues', WHERE WHAT IT READS IS OF BULK AT MOST 1048576: true; the input reads as it did. -/
def fnExactHaltValuesUptoRow : OpenClaim := { program := "ytncndnholheemaa", sum := "aebdb4812f7072d094e39e836fa1d41799cef1d61caffa8a9f4ed3d43fdf3570", func := "loop.example/g01116/laws.FnExactHaltValues", spec := "fnExactHaltValues", unfollowed := true, recurses := true, apart := false, narrowed := true }
def FnExactHaltValuesUptoSaid : Prop := fnExactHaltValuesUptoRow.holds Try.pinned (OpenSpec.upto fnExactHaltValuesSpec)

/-- 'laws.FnWays', WHERE WHAT IT READS IS OF BULK AT MOST 1048576: true; the input reads as it did. -/
def fnWaysUptoRow : OpenClaim := { program := "ytncndnholheemaa", sum := "aebdb4812f7072d094e39e836fa1d41799cef1d61caffa8a9f4ed3d43fdf3570", func := "loop.example/g01116/laws.FnWays", spec := "fnWays", unfollowed := true, recurses := true, apart := false, narrowed := true }
def FnWaysUptoSaid : Prop := fnWaysUptoRow.holds Try.pinned (OpenSpec.upto fnWaysSpec)

/-- 'laws.FnExactFollowProgram', WHERE WHAT IT READS IS OF BULK AT MOST 1048576: true; the input reads as it did. -/
def fnExactFollowProgramUptoRow : OpenClaim := { program := "ytncndnholheemaa", sum := "aebdb4812f7072d094e39e836fa1d41799cef1d61caffa8a9f4ed3d43fdf3570", func := "loop.example/g01116/laws.FnExactFollowProgram", spec := "fnExactFollowProgram", unfollowed := true, recurses := true, apart := false, narrowed := true }
def FnExactFollowProgramUptoSaid : Prop := fnExactFollowProgramUptoRow.holds Try.pinned (OpenSpec.upto fnExactFollowProgramSpec)

end Rows
end Go.Proofs.Ytncndnholheemaa
