/-
  No cell of these rows narrows 'for every input' (looked for: loops, veiled, ifaces, maps, wideKeys, modest, calm, conditions, laid).
  DERIVED. THE GIVEN ROWS OF THIS SEAT. 12 by the template 'for every input the law returns true; each argument reads behind the call as it read before'; 0 by the template 'total and deterministic' (their statements: YtkeoidapcajlbaaTotals.lean).
  GIVEN WITH THE SEED: the statements are not yours to turn. If you find one false, say at which input.
  Laid BY PROGRAM, IN A SANDBOX (cutbox-rows.mjs): the forced cells as the released guide's own fill.sh prints them over the translation 5834ece4a25f7701… (all of the seat's roots in one cut). By AI agents, Wed Nov 11 2026. No macro, syntax, notation, axiom, sorry.
-/
import Derived.Test.YtkeoidapcajlbaaChecked
import GoSem.Claim
import GoSem.ClaimJoined
import GoSem.ClaimMapViews
import Derived.JoinedTies
import Derived.KernelRfl
namespace Go.Proofs.Ytkeoidapcajlbaa
/- THE CELL 'sum', in the pinned program and in every row, IS THE sha256 OF THE DUMP (.gsa) THAT YtkeoidapcajlbaaProg.lean LOADS. Nothing in Lean hashes anything: it is a label: what it is worth is what the hold of that sum in a sandbox is worth. -/
noncomputable def Try.pinned : Pinned := { name := "ytkeoidapcajlbaa", sum := "5834ece4a25f7701b38e8187d3c6d4c93f8fdeb4ca89ef8189a4d195e0f405cb", checked := Try.checked }
namespace Rows
def none {H : Type} : Left H := { results := [], args := [] }

/-- 'laws.FnExactConstants': WHATEVER THE INPUT: true; the input reads as it did. -/
def fnExactConstantsSpec : ChangeSpec := { name := "fnExactConstants", fn := fun _ => fun
  | [] => { results := [.lit (.bool true)], args := [] }
  | _ => none }
def fnExactConstantsRow : OpenClaim := { program := "ytkeoidapcajlbaa", sum := "5834ece4a25f7701b38e8187d3c6d4c93f8fdeb4ca89ef8189a4d195e0f405cb", func := "loop.example/g01116/laws.FnExactConstants", spec := "fnExactConstants", apart := false }
def FnExactConstantsSaid : Prop := fnExactConstantsRow.holds Try.pinned (OpenSpec.ofChange fnExactConstantsSpec)

/-- ITS FALSE NEIGHBOUR: 'it returns false'. Refute it at one input. -/
def fnExactConstantsWrong : ChangeSpec := { name := "fnExactConstants", fn := fun _ => fun
  | [] => { results := [.lit (.bool false)], args := [] }
  | _ => none }
def FnExactConstantsWrongFalsely : Prop := fnExactConstantsRow.holds Try.pinned (OpenSpec.ofChange fnExactConstantsWrong)

/-- 'laws.FnExactCodeName': WHATEVER THE INPUT: true; the input reads as it did. -/
def fnExactCodeNameSpec : ChangeSpec := { name := "fnExactCodeName", fn := fun _ => fun
  | [d] => { results := [.lit (.bool true)], args := [d] }
  | _ => none }
def fnExactCodeNameRow : OpenClaim := { program := "ytkeoidapcajlbaa", sum := "5834ece4a25f7701b38e8187d3c6d4c93f8fdeb4ca89ef8189a4d195e0f405cb", func := "loop.example/g01116/laws.FnExactCodeName", spec := "fnExactCodeName", apart := false }
def FnExactCodeNameSaid : Prop := fnExactCodeNameRow.holds Try.pinned (OpenSpec.ofChange fnExactCodeNameSpec)

/-- ITS FALSE NEIGHBOUR: 'it returns false'. Refute it at one input. -/
def fnExactCodeNameWrong : ChangeSpec := { name := "fnExactCodeName", fn := fun _ => fun
  | [d] => { results := [.lit (.bool false)], args := [d] }
  | _ => none }
def FnExactCodeNameWrongFalsely : Prop := fnExactCodeNameRow.holds Try.pinned (OpenSpec.ofChange fnExactCodeNameWrong)

/-- 'laws.FnExactValidBag': WHATEVER THE INPUT: true; the input reads as it did. -/
def fnExactValidBagSpec : ChangeSpec := { name := "fnExactValidBag", fn := fun _ => fun
  | [d1, d2] => { results := [.lit (.bool true)], args := [d1, d2] }
  | _ => none }
def fnExactValidBagRow : OpenClaim := { program := "ytkeoidapcajlbaa", sum := "5834ece4a25f7701b38e8187d3c6d4c93f8fdeb4ca89ef8189a4d195e0f405cb", func := "loop.example/g01116/laws.FnExactValidBag", spec := "fnExactValidBag", unfollowed := true, recurses := true, apart := false }
def FnExactValidBagSaid : Prop := fnExactValidBagRow.holds Try.pinned (OpenSpec.ofChange fnExactValidBagSpec)

/-- ITS FALSE NEIGHBOUR: 'it returns false'. Refute it at one input. -/
def fnExactValidBagWrong : ChangeSpec := { name := "fnExactValidBag", fn := fun _ => fun
  | [d1, d2] => { results := [.lit (.bool false)], args := [d1, d2] }
  | _ => none }
def FnExactValidBagWrongFalsely : Prop := fnExactValidBagRow.holds Try.pinned (OpenSpec.ofChange fnExactValidBagWrong)

/-- 'laws.FnExactBagSize': WHATEVER THE INPUT: true; the input reads as it did. -/
def fnExactBagSizeSpec : ChangeSpec := { name := "fnExactBagSize", fn := fun _ => fun
  | [d] => { results := [.lit (.bool true)], args := [d] }
  | _ => none }
def fnExactBagSizeRow : OpenClaim := { program := "ytkeoidapcajlbaa", sum := "5834ece4a25f7701b38e8187d3c6d4c93f8fdeb4ca89ef8189a4d195e0f405cb", func := "loop.example/g01116/laws.FnExactBagSize", spec := "fnExactBagSize", unfollowed := true, recurses := true, apart := false }
def FnExactBagSizeSaid : Prop := fnExactBagSizeRow.holds Try.pinned (OpenSpec.ofChange fnExactBagSizeSpec)

/-- ITS FALSE NEIGHBOUR: 'it returns false'. Refute it at one input. -/
def fnExactBagSizeWrong : ChangeSpec := { name := "fnExactBagSize", fn := fun _ => fun
  | [d] => { results := [.lit (.bool false)], args := [d] }
  | _ => none }
def FnExactBagSizeWrongFalsely : Prop := fnExactBagSizeRow.holds Try.pinned (OpenSpec.ofChange fnExactBagSizeWrong)

/-- 'laws.FnExactWeighBag': WHATEVER THE INPUT: true; the input reads as it did. -/
def fnExactWeighBagSpec : ChangeSpec := { name := "fnExactWeighBag", fn := fun _ => fun
  | [d1, d2] => { results := [.lit (.bool true)], args := [d1, d2] }
  | _ => none }
def fnExactWeighBagRow : OpenClaim := { program := "ytkeoidapcajlbaa", sum := "5834ece4a25f7701b38e8187d3c6d4c93f8fdeb4ca89ef8189a4d195e0f405cb", func := "loop.example/g01116/laws.FnExactWeighBag", spec := "fnExactWeighBag", unfollowed := true, recurses := true, apart := false }
def FnExactWeighBagSaid : Prop := fnExactWeighBagRow.holds Try.pinned (OpenSpec.ofChange fnExactWeighBagSpec)

/-- ITS FALSE NEIGHBOUR: 'it returns false'. Refute it at one input. -/
def fnExactWeighBagWrong : ChangeSpec := { name := "fnExactWeighBag", fn := fun _ => fun
  | [d1, d2] => { results := [.lit (.bool false)], args := [d1, d2] }
  | _ => none }
def FnExactWeighBagWrongFalsely : Prop := fnExactWeighBagRow.holds Try.pinned (OpenSpec.ofChange fnExactWeighBagWrong)

/-- 'laws.FnExactSameProgram': WHATEVER THE INPUT: true; the input reads as it did. -/
def fnExactSameProgramSpec : ChangeSpec := { name := "fnExactSameProgram", fn := fun _ => fun
  | [d1, d2] => { results := [.lit (.bool true)], args := [d1, d2] }
  | _ => none }
def fnExactSameProgramRow : OpenClaim := { program := "ytkeoidapcajlbaa", sum := "5834ece4a25f7701b38e8187d3c6d4c93f8fdeb4ca89ef8189a4d195e0f405cb", func := "loop.example/g01116/laws.FnExactSameProgram", spec := "fnExactSameProgram", apart := false }
def FnExactSameProgramSaid : Prop := fnExactSameProgramRow.holds Try.pinned (OpenSpec.ofChange fnExactSameProgramSpec)

/-- ITS FALSE NEIGHBOUR: 'it returns false'. Refute it at one input. -/
def fnExactSameProgramWrong : ChangeSpec := { name := "fnExactSameProgram", fn := fun _ => fun
  | [d1, d2] => { results := [.lit (.bool false)], args := [d1, d2] }
  | _ => none }
def FnExactSameProgramWrongFalsely : Prop := fnExactSameProgramRow.holds Try.pinned (OpenSpec.ofChange fnExactSameProgramWrong)

/-- 'laws.FnPackings': WHATEVER THE INPUT: true; the input reads as it did. -/
def fnPackingsSpec : ChangeSpec := { name := "fnPackings", fn := fun _ => fun
  | [d1, d2] => { results := [.lit (.bool true)], args := [d1, d2] }
  | _ => none }
def fnPackingsRow : OpenClaim := { program := "ytkeoidapcajlbaa", sum := "5834ece4a25f7701b38e8187d3c6d4c93f8fdeb4ca89ef8189a4d195e0f405cb", func := "loop.example/g01116/laws.FnPackings", spec := "fnPackings", unfollowed := true, recurses := true, apart := false }
def FnPackingsSaid : Prop := fnPackingsRow.holds Try.pinned (OpenSpec.ofChange fnPackingsSpec)

/-- ITS FALSE NEIGHBOUR: 'it returns false'. Refute it at one input. -/
def fnPackingsWrong : ChangeSpec := { name := "fnPackings", fn := fun _ => fun
  | [d1, d2] => { results := [.lit (.bool false)], args := [d1, d2] }
  | _ => none }
def FnPackingsWrongFalsely : Prop := fnPackingsRow.holds Try.pinned (OpenSpec.ofChange fnPackingsWrong)

/-- 'laws.FnExactIsWithin': WHATEVER THE INPUT: true; the input reads as it did. -/
def fnExactIsWithinSpec : ChangeSpec := { name := "fnExactIsWithin", fn := fun _ => fun
  | [d1, d2] => { results := [.lit (.bool true)], args := [d1, d2] }
  | _ => none }
def fnExactIsWithinRow : OpenClaim := { program := "ytkeoidapcajlbaa", sum := "5834ece4a25f7701b38e8187d3c6d4c93f8fdeb4ca89ef8189a4d195e0f405cb", func := "loop.example/g01116/laws.FnExactIsWithin", spec := "fnExactIsWithin", unfollowed := true, recurses := true, apart := false }
def FnExactIsWithinSaid : Prop := fnExactIsWithinRow.holds Try.pinned (OpenSpec.ofChange fnExactIsWithinSpec)

/-- ITS FALSE NEIGHBOUR: 'it returns false'. Refute it at one input. -/
def fnExactIsWithinWrong : ChangeSpec := { name := "fnExactIsWithin", fn := fun _ => fun
  | [d1, d2] => { results := [.lit (.bool false)], args := [d1, d2] }
  | _ => none }
def FnExactIsWithinWrongFalsely : Prop := fnExactIsWithinRow.holds Try.pinned (OpenSpec.ofChange fnExactIsWithinWrong)

/-- 'laws.FnExactJoinBags': WHATEVER THE INPUT: true; the input reads as it did. -/
def fnExactJoinBagsSpec : ChangeSpec := { name := "fnExactJoinBags", fn := fun _ => fun
  | [d1, d2] => { results := [.lit (.bool true)], args := [d1, d2] }
  | _ => none }
def fnExactJoinBagsRow : OpenClaim := { program := "ytkeoidapcajlbaa", sum := "5834ece4a25f7701b38e8187d3c6d4c93f8fdeb4ca89ef8189a4d195e0f405cb", func := "loop.example/g01116/laws.FnExactJoinBags", spec := "fnExactJoinBags", unfollowed := true, recurses := true, apart := false }
def FnExactJoinBagsSaid : Prop := fnExactJoinBagsRow.holds Try.pinned (OpenSpec.ofChange fnExactJoinBagsSpec)

/-- ITS FALSE NEIGHBOUR: 'it returns false'. Refute it at one input. -/
def fnExactJoinBagsWrong : ChangeSpec := { name := "fnExactJoinBags", fn := fun _ => fun
  | [d1, d2] => { results := [.lit (.bool false)], args := [d1, d2] }
  | _ => none }
def FnExactJoinBagsWrongFalsely : Prop := fnExactJoinBagsRow.holds Try.pinned (OpenSpec.ofChange fnExactJoinBagsWrong)

/-- 'laws.FnExactMeetBags': WHATEVER THE INPUT: true; the input reads as it did. -/
def fnExactMeetBagsSpec : ChangeSpec := { name := "fnExactMeetBags", fn := fun _ => fun
  | [d1, d2] => { results := [.lit (.bool true)], args := [d1, d2] }
  | _ => none }
def fnExactMeetBagsRow : OpenClaim := { program := "ytkeoidapcajlbaa", sum := "5834ece4a25f7701b38e8187d3c6d4c93f8fdeb4ca89ef8189a4d195e0f405cb", func := "loop.example/g01116/laws.FnExactMeetBags", spec := "fnExactMeetBags", unfollowed := true, recurses := true, apart := false }
def FnExactMeetBagsSaid : Prop := fnExactMeetBagsRow.holds Try.pinned (OpenSpec.ofChange fnExactMeetBagsSpec)

/-- ITS FALSE NEIGHBOUR: 'it returns false'. Refute it at one input. -/
def fnExactMeetBagsWrong : ChangeSpec := { name := "fnExactMeetBags", fn := fun _ => fun
  | [d1, d2] => { results := [.lit (.bool false)], args := [d1, d2] }
  | _ => none }
def FnExactMeetBagsWrongFalsely : Prop := fnExactMeetBagsRow.holds Try.pinned (OpenSpec.ofChange fnExactMeetBagsWrong)

/-- 'laws.FnExactScaleBag': WHATEVER THE INPUT: true; the input reads as it did. -/
def fnExactScaleBagSpec : ChangeSpec := { name := "fnExactScaleBag", fn := fun _ => fun
  | [d1, d2] => { results := [.lit (.bool true)], args := [d1, d2] }
  | _ => none }
def fnExactScaleBagRow : OpenClaim := { program := "ytkeoidapcajlbaa", sum := "5834ece4a25f7701b38e8187d3c6d4c93f8fdeb4ca89ef8189a4d195e0f405cb", func := "loop.example/g01116/laws.FnExactScaleBag", spec := "fnExactScaleBag", unfollowed := true, recurses := true, apart := false }
def FnExactScaleBagSaid : Prop := fnExactScaleBagRow.holds Try.pinned (OpenSpec.ofChange fnExactScaleBagSpec)

/-- ITS FALSE NEIGHBOUR: 'it returns false'. Refute it at one input. -/
def fnExactScaleBagWrong : ChangeSpec := { name := "fnExactScaleBag", fn := fun _ => fun
  | [d1, d2] => { results := [.lit (.bool false)], args := [d1, d2] }
  | _ => none }
def FnExactScaleBagWrongFalsely : Prop := fnExactScaleBagRow.holds Try.pinned (OpenSpec.ofChange fnExactScaleBagWrong)

/-- 'laws.FnExactValidProgram': WHATEVER THE INPUT: true; the input reads as it did. -/
def fnExactValidProgramSpec : ChangeSpec := { name := "fnExactValidProgram", fn := fun _ => fun
  | [d] => { results := [.lit (.bool true)], args := [d] }
  | _ => none }
def fnExactValidProgramRow : OpenClaim := { program := "ytkeoidapcajlbaa", sum := "5834ece4a25f7701b38e8187d3c6d4c93f8fdeb4ca89ef8189a4d195e0f405cb", func := "loop.example/g01116/laws.FnExactValidProgram", spec := "fnExactValidProgram", unfollowed := true, recurses := true, apart := false }
def FnExactValidProgramSaid : Prop := fnExactValidProgramRow.holds Try.pinned (OpenSpec.ofChange fnExactValidProgramSpec)

/-- ITS FALSE NEIGHBOUR: 'it returns false'. Refute it at one input. -/
def fnExactValidProgramWrong : ChangeSpec := { name := "fnExactValidProgram", fn := fun _ => fun
  | [d] => { results := [.lit (.bool false)], args := [d] }
  | _ => none }
def FnExactValidProgramWrongFalsely : Prop := fnExactValidProgramRow.holds Try.pinned (OpenSpec.ofChange fnExactValidProgramWrong)

/- THE SECOND FORM. 'bulk': how many values and letters a reading holds, each counted each time it is reached (what is shared counts as often as it is met; a slice's spare places count too). A statement '..UptoSaid' is the law's where the arguments, and the package variables that the reading takes, are together of bulk at most 1048576: NARROWER than '..Said'. Prove '..Said' where nothing that the law and all that it calls make is longer than what came in: it says more and counts as full. Else prove '..UptoSaid'. A law counts once. -/
mutual
def uptoBulk {H : Type} : DataW H → Nat
  | .lit (.string bytes) => bytes.length + 1
  | .lit _ => 1
  | .nil => 1
  | .ptr d => uptoBulk d + 1
  | .slice elems spare => uptoBulkAll elems + uptoBulkAll spare + 1
  | .agg parts => uptoBulkAll parts + 1
  | .iface _ d => uptoBulk d + 1
  | .map entries => uptoBulkEntries entries + 1
  | .held _ => 1
def uptoBulkAll {H : Type} : List (DataW H) → Nat
  | [] => 0
  | d :: r => uptoBulk d + uptoBulkAll r
def uptoBulkEntries {H : Type} : List (Lit × DataW H) → Nat
  | [] => 0
  | x :: r => uptoBulkEntry x + uptoBulkEntries r
def uptoBulkEntry {H : Type} : Lit × DataW H → Nat
  | (.string bytes, d) => bytes.length + uptoBulk d + 1
  | (_, d) => uptoBulk d + 1
 end
def uptoSmall : (H : Type) → List (DataW H) → Bool := fun _ ds => decide (uptoBulkAll ds ≤ 1048576)
def OpenSpec.upto (s : _root_.Go.ChangeSpec) : _root_.Go.OpenSpec := { _root_.Go.OpenSpec.ofChange s with cond := some uptoSmall }

/-- 'laws.FnExactConstants', WHERE WHAT IT READS IS OF BULK AT MOST 1048576: true; the input reads as it did. -/
def fnExactConstantsUptoRow : OpenClaim := { program := "ytkeoidapcajlbaa", sum := "5834ece4a25f7701b38e8187d3c6d4c93f8fdeb4ca89ef8189a4d195e0f405cb", func := "loop.example/g01116/laws.FnExactConstants", spec := "fnExactConstants", apart := false, narrowed := true }
def FnExactConstantsUptoSaid : Prop := fnExactConstantsUptoRow.holds Try.pinned (OpenSpec.upto fnExactConstantsSpec)

/-- 'laws.FnExactCodeName', WHERE WHAT IT READS IS OF BULK AT MOST 1048576: true; the input reads as it did. -/
def fnExactCodeNameUptoRow : OpenClaim := { program := "ytkeoidapcajlbaa", sum := "5834ece4a25f7701b38e8187d3c6d4c93f8fdeb4ca89ef8189a4d195e0f405cb", func := "loop.example/g01116/laws.FnExactCodeName", spec := "fnExactCodeName", apart := false, narrowed := true }
def FnExactCodeNameUptoSaid : Prop := fnExactCodeNameUptoRow.holds Try.pinned (OpenSpec.upto fnExactCodeNameSpec)

/-- 'laws.FnExactValidBag', WHERE WHAT IT READS IS OF BULK AT MOST 1048576: true; the input reads as it did. -/
def fnExactValidBagUptoRow : OpenClaim := { program := "ytkeoidapcajlbaa", sum := "5834ece4a25f7701b38e8187d3c6d4c93f8fdeb4ca89ef8189a4d195e0f405cb", func := "loop.example/g01116/laws.FnExactValidBag", spec := "fnExactValidBag", unfollowed := true, recurses := true, apart := false, narrowed := true }
def FnExactValidBagUptoSaid : Prop := fnExactValidBagUptoRow.holds Try.pinned (OpenSpec.upto fnExactValidBagSpec)

/-- 'laws.FnExactBagSize', WHERE WHAT IT READS IS OF BULK AT MOST 1048576: true; the input reads as it did. -/
def fnExactBagSizeUptoRow : OpenClaim := { program := "ytkeoidapcajlbaa", sum := "5834ece4a25f7701b38e8187d3c6d4c93f8fdeb4ca89ef8189a4d195e0f405cb", func := "loop.example/g01116/laws.FnExactBagSize", spec := "fnExactBagSize", unfollowed := true, recurses := true, apart := false, narrowed := true }
def FnExactBagSizeUptoSaid : Prop := fnExactBagSizeUptoRow.holds Try.pinned (OpenSpec.upto fnExactBagSizeSpec)

/-- 'laws.FnExactWeighBag', WHERE WHAT IT READS IS OF BULK AT MOST 1048576: true; the input reads as it did. -/
def fnExactWeighBagUptoRow : OpenClaim := { program := "ytkeoidapcajlbaa", sum := "5834ece4a25f7701b38e8187d3c6d4c93f8fdeb4ca89ef8189a4d195e0f405cb", func := "loop.example/g01116/laws.FnExactWeighBag", spec := "fnExactWeighBag", unfollowed := true, recurses := true, apart := false, narrowed := true }
def FnExactWeighBagUptoSaid : Prop := fnExactWeighBagUptoRow.holds Try.pinned (OpenSpec.upto fnExactWeighBagSpec)

/-- 'laws.FnExactSameProgram', WHERE WHAT IT READS IS OF BULK AT MOST 1048576: true; the input reads as it did. -/
def fnExactSameProgramUptoRow : OpenClaim := { program := "ytkeoidapcajlbaa", sum := "5834ece4a25f7701b38e8187d3c6d4c93f8fdeb4ca89ef8189a4d195e0f405cb", func := "loop.example/g01116/laws.FnExactSameProgram", spec := "fnExactSameProgram", apart := false, narrowed := true }
def FnExactSameProgramUptoSaid : Prop := fnExactSameProgramUptoRow.holds Try.pinned (OpenSpec.upto fnExactSameProgramSpec)

/-- 'laws.FnPackings', WHERE WHAT IT READS IS OF BULK AT MOST 1048576: true; the input reads as it did. -/
def fnPackingsUptoRow : OpenClaim := { program := "ytkeoidapcajlbaa", sum := "5834ece4a25f7701b38e8187d3c6d4c93f8fdeb4ca89ef8189a4d195e0f405cb", func := "loop.example/g01116/laws.FnPackings", spec := "fnPackings", unfollowed := true, recurses := true, apart := false, narrowed := true }
def FnPackingsUptoSaid : Prop := fnPackingsUptoRow.holds Try.pinned (OpenSpec.upto fnPackingsSpec)

/-- 'laws.FnExactIsWithin', WHERE WHAT IT READS IS OF BULK AT MOST 1048576: true; the input reads as it did. -/
def fnExactIsWithinUptoRow : OpenClaim := { program := "ytkeoidapcajlbaa", sum := "5834ece4a25f7701b38e8187d3c6d4c93f8fdeb4ca89ef8189a4d195e0f405cb", func := "loop.example/g01116/laws.FnExactIsWithin", spec := "fnExactIsWithin", unfollowed := true, recurses := true, apart := false, narrowed := true }
def FnExactIsWithinUptoSaid : Prop := fnExactIsWithinUptoRow.holds Try.pinned (OpenSpec.upto fnExactIsWithinSpec)

/-- 'laws.FnExactJoinBags', WHERE WHAT IT READS IS OF BULK AT MOST 1048576: true; the input reads as it did. -/
def fnExactJoinBagsUptoRow : OpenClaim := { program := "ytkeoidapcajlbaa", sum := "5834ece4a25f7701b38e8187d3c6d4c93f8fdeb4ca89ef8189a4d195e0f405cb", func := "loop.example/g01116/laws.FnExactJoinBags", spec := "fnExactJoinBags", unfollowed := true, recurses := true, apart := false, narrowed := true }
def FnExactJoinBagsUptoSaid : Prop := fnExactJoinBagsUptoRow.holds Try.pinned (OpenSpec.upto fnExactJoinBagsSpec)

/-- 'laws.FnExactMeetBags', WHERE WHAT IT READS IS OF BULK AT MOST 1048576: true; the input reads as it did. -/
def fnExactMeetBagsUptoRow : OpenClaim := { program := "ytkeoidapcajlbaa", sum := "5834ece4a25f7701b38e8187d3c6d4c93f8fdeb4ca89ef8189a4d195e0f405cb", func := "loop.example/g01116/laws.FnExactMeetBags", spec := "fnExactMeetBags", unfollowed := true, recurses := true, apart := false, narrowed := true }
def FnExactMeetBagsUptoSaid : Prop := fnExactMeetBagsUptoRow.holds Try.pinned (OpenSpec.upto fnExactMeetBagsSpec)

/-- 'laws.FnExactScaleBag', WHERE WHAT IT READS IS OF BULK AT MOST 1048576: true; the input reads as it did. -/
def fnExactScaleBagUptoRow : OpenClaim := { program := "ytkeoidapcajlbaa", sum := "5834ece4a25f7701b38e8187d3c6d4c93f8fdeb4ca89ef8189a4d195e0f405cb", func := "loop.example/g01116/laws.FnExactScaleBag", spec := "fnExactScaleBag", unfollowed := true, recurses := true, apart := false, narrowed := true }
def FnExactScaleBagUptoSaid : Prop := fnExactScaleBagUptoRow.holds Try.pinned (OpenSpec.upto fnExactScaleBagSpec)

/-- 'laws.FnExactValidProgram', WHERE WHAT IT READS IS OF BULK AT MOST 1048576: true; the input reads as it did. -/
def fnExactValidProgramUptoRow : OpenClaim := { program := "ytkeoidapcajlbaa", sum := "5834ece4a25f7701b38e8187d3c6d4c93f8fdeb4ca89ef8189a4d195e0f405cb", func := "loop.example/g01116/laws.FnExactValidProgram", spec := "fnExactValidProgram", unfollowed := true, recurses := true, apart := false, narrowed := true }
def FnExactValidProgramUptoSaid : Prop := fnExactValidProgramUptoRow.holds Try.pinned (OpenSpec.upto fnExactValidProgramSpec)

end Rows
end Go.Proofs.Ytkeoidapcajlbaa
