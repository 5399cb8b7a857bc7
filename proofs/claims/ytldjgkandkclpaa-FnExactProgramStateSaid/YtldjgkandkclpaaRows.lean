/-
  No cell of these rows narrows 'for every input' (looked for: loops, veiled, ifaces, maps, wideKeys, modest, calm, conditions, laid).
  DERIVED. THE GIVEN ROWS OF THIS SEAT. 10 by the template 'for every input the law returns true; each argument reads behind the call as it read before'; 0 by the template 'total and deterministic' (their statements: YtldjgkandkclpaaTotals.lean).
  GIVEN WITH THE SEED: the statements are not yours to turn. If you find one false, say at which input.
  Laid BY PROGRAM, IN A SANDBOX (cutbox-rows.mjs): the forced cells as the released guide's own fill.sh prints them over the translation e560e6d844573593… (all of the seat's roots in one cut). By AI agents, Wed Nov 11 2026. No macro, syntax, notation, axiom, sorry.
-/
import Derived.Test.YtldjgkandkclpaaChecked
import GoSem.Claim
import GoSem.ClaimJoined
import GoSem.ClaimMapViews
import Derived.JoinedTies
import Derived.KernelRfl
namespace Go.Proofs.Ytldjgkandkclpaa
/- THE CELL 'sum', in the pinned program and in every row, IS THE sha256 OF THE DUMP (.gsa) THAT YtldjgkandkclpaaProg.lean LOADS. Nothing in Lean hashes anything: it is a label: what it is worth is what the hold of that sum in a sandbox is worth. -/
noncomputable def Try.pinned : Pinned := { name := "ytldjgkandkclpaa", sum := "e560e6d8445735931d3105e2cec0784a89ce5f8b629e4faf93643926fce9f79a", checked := Try.checked }
namespace Rows
def none {H : Type} : Left H := { results := [], args := [] }

/-- 'laws.FnExactReversePassing': WHATEVER THE INPUT: true; the input reads as it did. -/
def fnExactReversePassingSpec : ChangeSpec := { name := "fnExactReversePassing", fn := fun _ => fun
  | [d] => { results := [.lit (.bool true)], args := [d] }
  | _ => none }
def fnExactReversePassingRow : OpenClaim := { program := "ytldjgkandkclpaa", sum := "e560e6d8445735931d3105e2cec0784a89ce5f8b629e4faf93643926fce9f79a", func := "loop.example/g01116/laws.FnExactReversePassing", spec := "fnExactReversePassing", unfollowed := true, recurses := true, apart := false }
def FnExactReversePassingSaid : Prop := fnExactReversePassingRow.holds Try.pinned (OpenSpec.ofChange fnExactReversePassingSpec)

/-- ITS FALSE NEIGHBOUR: 'it returns false'. Refute it at one input. -/
def fnExactReversePassingWrong : ChangeSpec := { name := "fnExactReversePassing", fn := fun _ => fun
  | [d] => { results := [.lit (.bool false)], args := [d] }
  | _ => none }
def FnExactReversePassingWrongFalsely : Prop := fnExactReversePassingRow.holds Try.pinned (OpenSpec.ofChange fnExactReversePassingWrong)

/-- 'laws.FnExactIsPassInvariant': WHATEVER THE INPUT: true; the input reads as it did. -/
def fnExactIsPassInvariantSpec : ChangeSpec := { name := "fnExactIsPassInvariant", fn := fun _ => fun
  | [d1, d2] => { results := [.lit (.bool true)], args := [d1, d2] }
  | _ => none }
def fnExactIsPassInvariantRow : OpenClaim := { program := "ytldjgkandkclpaa", sum := "e560e6d8445735931d3105e2cec0784a89ce5f8b629e4faf93643926fce9f79a", func := "loop.example/g01116/laws.FnExactIsPassInvariant", spec := "fnExactIsPassInvariant", unfollowed := true, recurses := true, apart := false }
def FnExactIsPassInvariantSaid : Prop := fnExactIsPassInvariantRow.holds Try.pinned (OpenSpec.ofChange fnExactIsPassInvariantSpec)

/-- ITS FALSE NEIGHBOUR: 'it returns false'. Refute it at one input. -/
def fnExactIsPassInvariantWrong : ChangeSpec := { name := "fnExactIsPassInvariant", fn := fun _ => fun
  | [d1, d2] => { results := [.lit (.bool false)], args := [d1, d2] }
  | _ => none }
def FnExactIsPassInvariantWrongFalsely : Prop := fnExactIsPassInvariantRow.holds Try.pinned (OpenSpec.ofChange fnExactIsPassInvariantWrong)

/-- 'laws.FnExactIsTrapped': WHATEVER THE INPUT: true; the input reads as it did. -/
def fnExactIsTrappedSpec : ChangeSpec := { name := "fnExactIsTrapped", fn := fun _ => fun
  | [d1, d2] => { results := [.lit (.bool true)], args := [d1, d2] }
  | _ => none }
def fnExactIsTrappedRow : OpenClaim := { program := "ytldjgkandkclpaa", sum := "e560e6d8445735931d3105e2cec0784a89ce5f8b629e4faf93643926fce9f79a", func := "loop.example/g01116/laws.FnExactIsTrapped", spec := "fnExactIsTrapped", unfollowed := true, recurses := true, apart := false }
def FnExactIsTrappedSaid : Prop := fnExactIsTrappedRow.holds Try.pinned (OpenSpec.ofChange fnExactIsTrappedSpec)

/-- ITS FALSE NEIGHBOUR: 'it returns false'. Refute it at one input. -/
def fnExactIsTrappedWrong : ChangeSpec := { name := "fnExactIsTrapped", fn := fun _ => fun
  | [d1, d2] => { results := [.lit (.bool false)], args := [d1, d2] }
  | _ => none }
def FnExactIsTrappedWrongFalsely : Prop := fnExactIsTrappedRow.holds Try.pinned (OpenSpec.ofChange fnExactIsTrappedWrong)

/-- 'laws.FnExactPassInvariant': WHATEVER THE INPUT: true; the input reads as it did. -/
def fnExactPassInvariantSpec : ChangeSpec := { name := "fnExactPassInvariant", fn := fun _ => fun
  | [d1, d2, d3] => { results := [.lit (.bool true)], args := [d1, d2, d3] }
  | _ => none }
def fnExactPassInvariantRow : OpenClaim := { program := "ytldjgkandkclpaa", sum := "e560e6d8445735931d3105e2cec0784a89ce5f8b629e4faf93643926fce9f79a", func := "loop.example/g01116/laws.FnExactPassInvariant", spec := "fnExactPassInvariant", unfollowed := true, recurses := true, apart := false }
def FnExactPassInvariantSaid : Prop := fnExactPassInvariantRow.holds Try.pinned (OpenSpec.ofChange fnExactPassInvariantSpec)

/-- ITS FALSE NEIGHBOUR: 'it returns false'. Refute it at one input. -/
def fnExactPassInvariantWrong : ChangeSpec := { name := "fnExactPassInvariant", fn := fun _ => fun
  | [d1, d2, d3] => { results := [.lit (.bool false)], args := [d1, d2, d3] }
  | _ => none }
def FnExactPassInvariantWrongFalsely : Prop := fnExactPassInvariantRow.holds Try.pinned (OpenSpec.ofChange fnExactPassInvariantWrong)

/-- 'laws.FnExactStockTotal': WHATEVER THE INPUT: true; the input reads as it did. -/
def fnExactStockTotalSpec : ChangeSpec := { name := "fnExactStockTotal", fn := fun _ => fun
  | [d1, d2] => { results := [.lit (.bool true)], args := [d1, d2] }
  | _ => none }
def fnExactStockTotalRow : OpenClaim := { program := "ytldjgkandkclpaa", sum := "e560e6d8445735931d3105e2cec0784a89ce5f8b629e4faf93643926fce9f79a", func := "loop.example/g01116/laws.FnExactStockTotal", spec := "fnExactStockTotal", unfollowed := true, recurses := true, apart := false }
def FnExactStockTotalSaid : Prop := fnExactStockTotalRow.holds Try.pinned (OpenSpec.ofChange fnExactStockTotalSpec)

/-- ITS FALSE NEIGHBOUR: 'it returns false'. Refute it at one input. -/
def fnExactStockTotalWrong : ChangeSpec := { name := "fnExactStockTotal", fn := fun _ => fun
  | [d1, d2] => { results := [.lit (.bool false)], args := [d1, d2] }
  | _ => none }
def FnExactStockTotalWrongFalsely : Prop := fnExactStockTotalRow.holds Try.pinned (OpenSpec.ofChange fnExactStockTotalWrong)

/-- 'laws.FnExactCanPass': WHATEVER THE INPUT: true; the input reads as it did. -/
def fnExactCanPassSpec : ChangeSpec := { name := "fnExactCanPass", fn := fun _ => fun
  | [d1, d2, d3] => { results := [.lit (.bool true)], args := [d1, d2, d3] }
  | _ => none }
def fnExactCanPassRow : OpenClaim := { program := "ytldjgkandkclpaa", sum := "e560e6d8445735931d3105e2cec0784a89ce5f8b629e4faf93643926fce9f79a", func := "loop.example/g01116/laws.FnExactCanPass", spec := "fnExactCanPass", unfollowed := true, recurses := true, apart := false }
def FnExactCanPassSaid : Prop := fnExactCanPassRow.holds Try.pinned (OpenSpec.ofChange fnExactCanPassSpec)

/-- ITS FALSE NEIGHBOUR: 'it returns false'. Refute it at one input. -/
def fnExactCanPassWrong : ChangeSpec := { name := "fnExactCanPass", fn := fun _ => fun
  | [d1, d2, d3] => { results := [.lit (.bool false)], args := [d1, d2, d3] }
  | _ => none }
def FnExactCanPassWrongFalsely : Prop := fnExactCanPassRow.holds Try.pinned (OpenSpec.ofChange fnExactCanPassWrong)

/-- 'laws.FnExactPassFits': WHATEVER THE INPUT: true; the input reads as it did. -/
def fnExactPassFitsSpec : ChangeSpec := { name := "fnExactPassFits", fn := fun _ => fun
  | [d1, d2, d3] => { results := [.lit (.bool true)], args := [d1, d2, d3] }
  | _ => none }
def fnExactPassFitsRow : OpenClaim := { program := "ytldjgkandkclpaa", sum := "e560e6d8445735931d3105e2cec0784a89ce5f8b629e4faf93643926fce9f79a", func := "loop.example/g01116/laws.FnExactPassFits", spec := "fnExactPassFits", unfollowed := true, recurses := true, apart := false }
def FnExactPassFitsSaid : Prop := fnExactPassFitsRow.holds Try.pinned (OpenSpec.ofChange fnExactPassFitsSpec)

/-- ITS FALSE NEIGHBOUR: 'it returns false'. Refute it at one input. -/
def fnExactPassFitsWrong : ChangeSpec := { name := "fnExactPassFits", fn := fun _ => fun
  | [d1, d2, d3] => { results := [.lit (.bool false)], args := [d1, d2, d3] }
  | _ => none }
def FnExactPassFitsWrongFalsely : Prop := fnExactPassFitsRow.holds Try.pinned (OpenSpec.ofChange fnExactPassFitsWrong)

/-- 'laws.FnExactProgramState': WHATEVER THE INPUT: true; the input reads as it did. -/
def fnExactProgramStateSpec : ChangeSpec := { name := "fnExactProgramState", fn := fun _ => fun
  | [d1, d2, d3] => { results := [.lit (.bool true)], args := [d1, d2, d3] }
  | _ => none }
def fnExactProgramStateRow : OpenClaim := { program := "ytldjgkandkclpaa", sum := "e560e6d8445735931d3105e2cec0784a89ce5f8b629e4faf93643926fce9f79a", func := "loop.example/g01116/laws.FnExactProgramState", spec := "fnExactProgramState", unfollowed := true, recurses := true, apart := false }
def FnExactProgramStateSaid : Prop := fnExactProgramStateRow.holds Try.pinned (OpenSpec.ofChange fnExactProgramStateSpec)

/-- ITS FALSE NEIGHBOUR: 'it returns false'. Refute it at one input. -/
def fnExactProgramStateWrong : ChangeSpec := { name := "fnExactProgramState", fn := fun _ => fun
  | [d1, d2, d3] => { results := [.lit (.bool false)], args := [d1, d2, d3] }
  | _ => none }
def FnExactProgramStateWrongFalsely : Prop := fnExactProgramStateRow.holds Try.pinned (OpenSpec.ofChange fnExactProgramStateWrong)

/-- 'laws.FnExactProgramSystem': WHATEVER THE INPUT: true; the input reads as it did. -/
def fnExactProgramSystemSpec : ChangeSpec := { name := "fnExactProgramSystem", fn := fun _ => fun
  | [d1, d2] => { results := [.lit (.bool true)], args := [d1, d2] }
  | _ => none }
def fnExactProgramSystemRow : OpenClaim := { program := "ytldjgkandkclpaa", sum := "e560e6d8445735931d3105e2cec0784a89ce5f8b629e4faf93643926fce9f79a", func := "loop.example/g01116/laws.FnExactProgramSystem", spec := "fnExactProgramSystem", unfollowed := true, recurses := true, apart := false }
def FnExactProgramSystemSaid : Prop := fnExactProgramSystemRow.holds Try.pinned (OpenSpec.ofChange fnExactProgramSystemSpec)

/-- ITS FALSE NEIGHBOUR: 'it returns false'. Refute it at one input. -/
def fnExactProgramSystemWrong : ChangeSpec := { name := "fnExactProgramSystem", fn := fun _ => fun
  | [d1, d2] => { results := [.lit (.bool false)], args := [d1, d2] }
  | _ => none }
def FnExactProgramSystemWrongFalsely : Prop := fnExactProgramSystemRow.holds Try.pinned (OpenSpec.ofChange fnExactProgramSystemWrong)

/-- 'laws.FnExactFollowProgram': WHATEVER THE INPUT: true; the input reads as it did. -/
def fnExactFollowProgramSpec : ChangeSpec := { name := "fnExactFollowProgram", fn := fun _ => fun
  | [d1, d2, d3, d4] => { results := [.lit (.bool true)], args := [d1, d2, d3, d4] }
  | _ => none }
def fnExactFollowProgramRow : OpenClaim := { program := "ytldjgkandkclpaa", sum := "e560e6d8445735931d3105e2cec0784a89ce5f8b629e4faf93643926fce9f79a", func := "loop.example/g01116/laws.FnExactFollowProgram", spec := "fnExactFollowProgram", unfollowed := true, recurses := true, apart := false }
def FnExactFollowProgramSaid : Prop := fnExactFollowProgramRow.holds Try.pinned (OpenSpec.ofChange fnExactFollowProgramSpec)

/-- ITS FALSE NEIGHBOUR: 'it returns false'. Refute it at one input. -/
def fnExactFollowProgramWrong : ChangeSpec := { name := "fnExactFollowProgram", fn := fun _ => fun
  | [d1, d2, d3, d4] => { results := [.lit (.bool false)], args := [d1, d2, d3, d4] }
  | _ => none }
def FnExactFollowProgramWrongFalsely : Prop := fnExactFollowProgramRow.holds Try.pinned (OpenSpec.ofChange fnExactFollowProgramWrong)

/- THE SECOND FORM. 'bulk': how many values and letters a reading holds, each counted each time it is reached (what is shared counts as often as it is met; a slice's spare places count too). A statement '..UptoSaid' is the law's where the arguments, and the package variables that the reading takes, are together of bulk at most 1048576: NARROWER than '..Said'. Prove '..Said' where nothing that the law and all that it calls make is longer than what came in: it says more and counts as full. Else prove '..UptoSaid'. A law counts once. -/
mutual
def uptoBulk {H : Type} : DataW H → Nat
  | .lit (.string bytes) => bytes.length + 1
  | .lit _ => 1
  | .nil => 1
  | .ptr d => uptoBulk d + 1
  | .slice elems spare => uptoBulkAll elems + uptoBulkAll spare + 1
  | .agg parts => uptoBulkAll parts + 1
  | .iface _ d => uptoBulk d + 1
  | .map entries => uptoBulkEntries entries + 1
  | .held _ => 1
def uptoBulkAll {H : Type} : List (DataW H) → Nat
  | [] => 0
  | d :: r => uptoBulk d + uptoBulkAll r
def uptoBulkEntries {H : Type} : List (Lit × DataW H) → Nat
  | [] => 0
  | x :: r => uptoBulkEntry x + uptoBulkEntries r
def uptoBulkEntry {H : Type} : Lit × DataW H → Nat
  | (.string bytes, d) => bytes.length + uptoBulk d + 1
  | (_, d) => uptoBulk d + 1
 end
def uptoSmall : (H : Type) → List (DataW H) → Bool := fun _ ds => decide (uptoBulkAll ds ≤ 1048576)
def OpenSpec.upto (s : _root_.Go.ChangeSpec) : _root_.Go.OpenSpec := { _root_.Go.OpenSpec.ofChange s with cond := some uptoSmall }

/-- 'laws.FnExactReversePassing', WHERE WHAT IT READS IS OF BULK AT MOST 1048576: true; the input reads as it did. -/
def fnExactReversePassingUptoRow : OpenClaim := { program := "ytldjgkandkclpaa", sum := "e560e6d8445735931d3105e2cec0784a89ce5f8b629e4faf93643926fce9f79a", func := "loop.example/g01116/laws.FnExactReversePassing", spec := "fnExactReversePassing", unfollowed := true, recurses := true, apart := false, narrowed := true }
def FnExactReversePassingUptoSaid : Prop := fnExactReversePassingUptoRow.holds Try.pinned (OpenSpec.upto fnExactReversePassingSpec)

/-- 'laws.FnExactIsPassInvariant', WHERE WHAT IT READS IS OF BULK AT MOST 1048576: true; the input reads as it did. -/
def fnExactIsPassInvariantUptoRow : OpenClaim := { program := "ytldjgkandkclpaa", sum := "e560e6d8445735931d3105e2cec0784a89ce5f8b629e4faf93643926fce9f79a", func := "loop.example/g01116/laws.FnExactIsPassInvariant", spec := "fnExactIsPassInvariant", unfollowed := true, recurses := true, apart := false, narrowed := true }
def FnExactIsPassInvariantUptoSaid : Prop := fnExactIsPassInvariantUptoRow.holds Try.pinned (OpenSpec.upto fnExactIsPassInvariantSpec)

/-- 'laws.FnExactIsTrapped', WHERE WHAT IT READS IS OF BULK AT MOST 1048576: true; the input reads as it did. -/
def fnExactIsTrappedUptoRow : OpenClaim := { program := "ytldjgkandkclpaa", sum := "e560e6d8445735931d3105e2cec0784a89ce5f8b629e4faf93643926fce9f79a", func := "loop.example/g01116/laws.FnExactIsTrapped", spec := "fnExactIsTrapped", unfollowed := true, recurses := true, apart := false, narrowed := true }
def FnExactIsTrappedUptoSaid : Prop := fnExactIsTrappedUptoRow.holds Try.pinned (OpenSpec.upto fnExactIsTrappedSpec)

/-- 'laws.FnExactPassInvariant', WHERE WHAT IT READS IS OF BULK AT MOST 1048576: true; the input reads as it did. -/
def fnExactPassInvariantUptoRow : OpenClaim := { program := "ytldjgkandkclpaa", sum := "e560e6d8445735931d3105e2cec0784a89ce5f8b629e4faf93643926fce9f79a", func := "loop.example/g01116/laws.FnExactPassInvariant", spec := "fnExactPassInvariant", unfollowed := true, recurses := true, apart := false, narrowed := true }
def FnExactPassInvariantUptoSaid : Prop := fnExactPassInvariantUptoRow.holds Try.pinned (OpenSpec.upto fnExactPassInvariantSpec)

/-- 'laws.FnExactStockTotal', WHERE WHAT IT READS IS OF BULK AT MOST 1048576: true; the input reads as it did. -/
def fnExactStockTotalUptoRow : OpenClaim := { program := "ytldjgkandkclpaa", sum := "e560e6d8445735931d3105e2cec0784a89ce5f8b629e4faf93643926fce9f79a", func := "loop.example/g01116/laws.FnExactStockTotal", spec := "fnExactStockTotal", unfollowed := true, recurses := true, apart := false, narrowed := true }
def FnExactStockTotalUptoSaid : Prop := fnExactStockTotalUptoRow.holds Try.pinned (OpenSpec.upto fnExactStockTotalSpec)

/-- 'laws.FnExactCanPass', WHERE WHAT IT READS IS OF BULK AT MOST 1048576: true; the input reads as it did. -/
def fnExactCanPassUptoRow : OpenClaim := { program := "ytldjgkandkclpaa", sum := "e560e6d8445735931d3105e2cec0784a89ce5f8b629e4faf93643926fce9f79a", func := "loop.example/g01116/laws.FnExactCanPass", spec := "fnExactCanPass", unfollowed := true, recurses := true, apart := false, narrowed := true }
def FnExactCanPassUptoSaid : Prop := fnExactCanPassUptoRow.holds Try.pinned (OpenSpec.upto fnExactCanPassSpec)

/-- 'laws.FnExactPassFits', WHERE WHAT IT READS IS OF BULK AT MOST 1048576: true; the input reads as it did. -/
def fnExactPassFitsUptoRow : OpenClaim := { program := "ytldjgkandkclpaa", sum := "e560e6d8445735931d3105e2cec0784a89ce5f8b629e4faf93643926fce9f79a", func := "loop.example/g01116/laws.FnExactPassFits", spec := "fnExactPassFits", unfollowed := true, recurses := true, apart := false, narrowed := true }
def FnExactPassFitsUptoSaid : Prop := fnExactPassFitsUptoRow.holds Try.pinned (OpenSpec.upto fnExactPassFitsSpec)

/-- 'laws.FnExactProgramState', WHERE WHAT IT READS IS OF BULK AT MOST 1048576: true; the input reads as it did. -/
def fnExactProgramStateUptoRow : OpenClaim := { program := "ytldjgkandkclpaa", sum := "e560e6d8445735931d3105e2cec0784a89ce5f8b629e4faf93643926fce9f79a", func := "loop.example/g01116/laws.FnExactProgramState", spec := "fnExactProgramState", unfollowed := true, recurses := true, apart := false, narrowed := true }
def FnExactProgramStateUptoSaid : Prop := fnExactProgramStateUptoRow.holds Try.pinned (OpenSpec.upto fnExactProgramStateSpec)

/-- 'laws.FnExactProgramSystem', WHERE WHAT IT READS IS OF BULK AT MOST 1048576: true; the input reads as it did. -/
def fnExactProgramSystemUptoRow : OpenClaim := { program := "ytldjgkandkclpaa", sum := "e560e6d8445735931d3105e2cec0784a89ce5f8b629e4faf93643926fce9f79a", func := "loop.example/g01116/laws.FnExactProgramSystem", spec := "fnExactProgramSystem", unfollowed := true, recurses := true, apart := false, narrowed := true }
def FnExactProgramSystemUptoSaid : Prop := fnExactProgramSystemUptoRow.holds Try.pinned (OpenSpec.upto fnExactProgramSystemSpec)

/-- 'laws.FnExactFollowProgram', WHERE WHAT IT READS IS OF BULK AT MOST 1048576: true; the input reads as it did. -/
def fnExactFollowProgramUptoRow : OpenClaim := { program := "ytldjgkandkclpaa", sum := "e560e6d8445735931d3105e2cec0784a89ce5f8b629e4faf93643926fce9f79a", func := "loop.example/g01116/laws.FnExactFollowProgram", spec := "fnExactFollowProgram", unfollowed := true, recurses := true, apart := false, narrowed := true }
def FnExactFollowProgramUptoSaid : Prop := fnExactFollowProgramUptoRow.holds Try.pinned (OpenSpec.upto fnExactFollowProgramSpec)

end Rows
end Go.Proofs.Ytldjgkandkclpaa
