/-
  No cell of these rows narrows 'for every input' (looked for: loops, veiled, ifaces, maps, wideKeys, modest, calm, conditions, laid).
  DERIVED. THE GIVEN ROWS OF THIS SEAT. 12 by the template 'for every input the law returns true; each argument reads behind the call as it read before'; 0 by the template 'total and deterministic' (their statements: YtdcpdipakglnnaaTotals.lean).
  GIVEN WITH THE SEED: the statements are not yours to turn. If you find one false, say at which input.
  Laid BY PROGRAM, IN A SANDBOX (cutbox-rows.mjs): the forced cells as the released guide's own fill.sh prints them over the translation 2132673ef345c865… (all of the seat's roots in one cut). By AI agents, Wed Nov 11 2026. No macro, syntax, notation, axiom, sorry.
-/
import Derived.Test.YtdcpdipakglnnaaChecked
import GoSem.Claim
import GoSem.ClaimJoined
import GoSem.ClaimMapViews
import Derived.JoinedTies
import Derived.KernelRfl
namespace Go.Proofs.Ytdcpdipakglnnaa
/- THE CELL 'sum', in the pinned program and in every row, IS THE sha256 OF THE DUMP (.gsa) THAT YtdcpdipakglnnaaProg.lean LOADS. Nothing in Lean hashes anything: it is a label: what it is worth is what the hold of that sum in a sandbox is worth. -/
noncomputable def Try.pinned : Pinned := { name := "ytdcpdipakglnnaa", sum := "2132673ef345c8651cf877f6e9384757904b1c0676a90a0c3b04675a6a1ad13f", checked := Try.checked }
namespace Rows
def none {H : Type} : Left H := { results := [], args := [] }

/-- 'laws.FnExactPackedBag': WHATEVER THE INPUT: true; the input reads as it did. -/
def fnExactPackedBagSpec : ChangeSpec := { name := "fnExactPackedBag", fn := fun _ => fun
  | [d1, d2] => { results := [.lit (.bool true)], args := [d1, d2] }
  | _ => none }
def fnExactPackedBagRow : OpenClaim := { program := "ytdcpdipakglnnaa", sum := "2132673ef345c8651cf877f6e9384757904b1c0676a90a0c3b04675a6a1ad13f", func := "loop.example/g01116/laws.FnExactPackedBag", spec := "fnExactPackedBag", unfollowed := true, recurses := true, apart := false }
def FnExactPackedBagSaid : Prop := fnExactPackedBagRow.holds Try.pinned (OpenSpec.ofChange fnExactPackedBagSpec)

/-- ITS FALSE NEIGHBOUR: 'it returns false'. Refute it at one input. -/
def fnExactPackedBagWrong : ChangeSpec := { name := "fnExactPackedBag", fn := fun _ => fun
  | [d1, d2] => { results := [.lit (.bool false)], args := [d1, d2] }
  | _ => none }
def FnExactPackedBagWrongFalsely : Prop := fnExactPackedBagRow.holds Try.pinned (OpenSpec.ofChange fnExactPackedBagWrong)

/-- 'laws.FnExactGreedyPacking': WHATEVER THE INPUT: true; the input reads as it did. -/
def fnExactGreedyPackingSpec : ChangeSpec := { name := "fnExactGreedyPacking", fn := fun _ => fun
  | [d1, d2] => { results := [.lit (.bool true)], args := [d1, d2] }
  | _ => none }
def fnExactGreedyPackingRow : OpenClaim := { program := "ytdcpdipakglnnaa", sum := "2132673ef345c8651cf877f6e9384757904b1c0676a90a0c3b04675a6a1ad13f", func := "loop.example/g01116/laws.FnExactGreedyPacking", spec := "fnExactGreedyPacking", unfollowed := true, recurses := true, apart := false }
def FnExactGreedyPackingSaid : Prop := fnExactGreedyPackingRow.holds Try.pinned (OpenSpec.ofChange fnExactGreedyPackingSpec)

/-- ITS FALSE NEIGHBOUR: 'it returns false'. Refute it at one input. -/
def fnExactGreedyPackingWrong : ChangeSpec := { name := "fnExactGreedyPacking", fn := fun _ => fun
  | [d1, d2] => { results := [.lit (.bool false)], args := [d1, d2] }
  | _ => none }
def FnExactGreedyPackingWrongFalsely : Prop := fnExactGreedyPackingRow.holds Try.pinned (OpenSpec.ofChange fnExactGreedyPackingWrong)

/-- 'laws.FnExactValidPassing': WHATEVER THE INPUT: true; the input reads as it did. -/
def fnExactValidPassingSpec : ChangeSpec := { name := "fnExactValidPassing", fn := fun _ => fun
  | [d] => { results := [.lit (.bool true)], args := [d] }
  | _ => none }
def fnExactValidPassingRow : OpenClaim := { program := "ytdcpdipakglnnaa", sum := "2132673ef345c8651cf877f6e9384757904b1c0676a90a0c3b04675a6a1ad13f", func := "loop.example/g01116/laws.FnExactValidPassing", spec := "fnExactValidPassing", unfollowed := true, recurses := true, apart := false }
def FnExactValidPassingSaid : Prop := fnExactValidPassingRow.holds Try.pinned (OpenSpec.ofChange fnExactValidPassingSpec)

/-- ITS FALSE NEIGHBOUR: 'it returns false'. Refute it at one input. -/
def fnExactValidPassingWrong : ChangeSpec := { name := "fnExactValidPassing", fn := fun _ => fun
  | [d] => { results := [.lit (.bool false)], args := [d] }
  | _ => none }
def FnExactValidPassingWrongFalsely : Prop := fnExactValidPassingRow.holds Try.pinned (OpenSpec.ofChange fnExactValidPassingWrong)

/-- 'laws.FnExactSameSystem': WHATEVER THE INPUT: true; the input reads as it did. -/
def fnExactSameSystemSpec : ChangeSpec := { name := "fnExactSameSystem", fn := fun _ => fun
  | [d1, d2] => { results := [.lit (.bool true)], args := [d1, d2] }
  | _ => none }
def fnExactSameSystemRow : OpenClaim := { program := "ytdcpdipakglnnaa", sum := "2132673ef345c8651cf877f6e9384757904b1c0676a90a0c3b04675a6a1ad13f", func := "loop.example/g01116/laws.FnExactSameSystem", spec := "fnExactSameSystem", unfollowed := true, recurses := true, apart := false }
def FnExactSameSystemSaid : Prop := fnExactSameSystemRow.holds Try.pinned (OpenSpec.ofChange fnExactSameSystemSpec)

/-- ITS FALSE NEIGHBOUR: 'it returns false'. Refute it at one input. -/
def fnExactSameSystemWrong : ChangeSpec := { name := "fnExactSameSystem", fn := fun _ => fun
  | [d1, d2] => { results := [.lit (.bool false)], args := [d1, d2] }
  | _ => none }
def FnExactSameSystemWrongFalsely : Prop := fnExactSameSystemRow.holds Try.pinned (OpenSpec.ofChange fnExactSameSystemWrong)

/-- 'laws.FnExactProgramKinds': WHATEVER THE INPUT: true; the input reads as it did. -/
def fnExactProgramKindsSpec : ChangeSpec := { name := "fnExactProgramKinds", fn := fun _ => fun
  | [d1, d2] => { results := [.lit (.bool true)], args := [d1, d2] }
  | _ => none }
def fnExactProgramKindsRow : OpenClaim := { program := "ytdcpdipakglnnaa", sum := "2132673ef345c8651cf877f6e9384757904b1c0676a90a0c3b04675a6a1ad13f", func := "loop.example/g01116/laws.FnExactProgramKinds", spec := "fnExactProgramKinds", unfollowed := true, recurses := true, apart := false }
def FnExactProgramKindsSaid : Prop := fnExactProgramKindsRow.holds Try.pinned (OpenSpec.ofChange fnExactProgramKindsSpec)

/-- ITS FALSE NEIGHBOUR: 'it returns false'. Refute it at one input. -/
def fnExactProgramKindsWrong : ChangeSpec := { name := "fnExactProgramKinds", fn := fun _ => fun
  | [d1, d2] => { results := [.lit (.bool false)], args := [d1, d2] }
  | _ => none }
def FnExactProgramKindsWrongFalsely : Prop := fnExactProgramKindsRow.holds Try.pinned (OpenSpec.ofChange fnExactProgramKindsWrong)

/-- 'laws.FnExactExactPackings': WHATEVER THE INPUT: true; the input reads as it did. -/
def fnExactExactPackingsSpec : ChangeSpec := { name := "fnExactExactPackings", fn := fun _ => fun
  | [d1, d2] => { results := [.lit (.bool true)], args := [d1, d2] }
  | _ => none }
def fnExactExactPackingsRow : OpenClaim := { program := "ytdcpdipakglnnaa", sum := "2132673ef345c8651cf877f6e9384757904b1c0676a90a0c3b04675a6a1ad13f", func := "loop.example/g01116/laws.FnExactExactPackings", spec := "fnExactExactPackings", unfollowed := true, recurses := true, apart := false }
def FnExactExactPackingsSaid : Prop := fnExactExactPackingsRow.holds Try.pinned (OpenSpec.ofChange fnExactExactPackingsSpec)

/-- ITS FALSE NEIGHBOUR: 'it returns false'. Refute it at one input. -/
def fnExactExactPackingsWrong : ChangeSpec := { name := "fnExactExactPackings", fn := fun _ => fun
  | [d1, d2] => { results := [.lit (.bool false)], args := [d1, d2] }
  | _ => none }
def FnExactExactPackingsWrongFalsely : Prop := fnExactExactPackingsRow.holds Try.pinned (OpenSpec.ofChange fnExactExactPackingsWrong)

/-- 'laws.FnAccepted': WHATEVER THE INPUT: true; the input reads as it did. -/
def fnAcceptedSpec : ChangeSpec := { name := "fnAccepted", fn := fun _ => fun
  | [d1, d2] => { results := [.lit (.bool true)], args := [d1, d2] }
  | _ => none }
def fnAcceptedRow : OpenClaim := { program := "ytdcpdipakglnnaa", sum := "2132673ef345c8651cf877f6e9384757904b1c0676a90a0c3b04675a6a1ad13f", func := "loop.example/g01116/laws.FnAccepted", spec := "fnAccepted", unfollowed := true, recurses := true, apart := false }
def FnAcceptedSaid : Prop := fnAcceptedRow.holds Try.pinned (OpenSpec.ofChange fnAcceptedSpec)

/-- ITS FALSE NEIGHBOUR: 'it returns false'. Refute it at one input. -/
def fnAcceptedWrong : ChangeSpec := { name := "fnAccepted", fn := fun _ => fun
  | [d1, d2] => { results := [.lit (.bool false)], args := [d1, d2] }
  | _ => none }
def FnAcceptedWrongFalsely : Prop := fnAcceptedRow.holds Try.pinned (OpenSpec.ofChange fnAcceptedWrong)

/-- 'laws.FnExactMaximalPackings': WHATEVER THE INPUT: true; the input reads as it did. -/
def fnExactMaximalPackingsSpec : ChangeSpec := { name := "fnExactMaximalPackings", fn := fun _ => fun
  | [d1, d2] => { results := [.lit (.bool true)], args := [d1, d2] }
  | _ => none }
def fnExactMaximalPackingsRow : OpenClaim := { program := "ytdcpdipakglnnaa", sum := "2132673ef345c8651cf877f6e9384757904b1c0676a90a0c3b04675a6a1ad13f", func := "loop.example/g01116/laws.FnExactMaximalPackings", spec := "fnExactMaximalPackings", unfollowed := true, recurses := true, apart := false }
def FnExactMaximalPackingsSaid : Prop := fnExactMaximalPackingsRow.holds Try.pinned (OpenSpec.ofChange fnExactMaximalPackingsSpec)

/-- ITS FALSE NEIGHBOUR: 'it returns false'. Refute it at one input. -/
def fnExactMaximalPackingsWrong : ChangeSpec := { name := "fnExactMaximalPackings", fn := fun _ => fun
  | [d1, d2] => { results := [.lit (.bool false)], args := [d1, d2] }
  | _ => none }
def FnExactMaximalPackingsWrongFalsely : Prop := fnExactMaximalPackingsRow.holds Try.pinned (OpenSpec.ofChange fnExactMaximalPackingsWrong)

/-- 'laws.FnExactAcceptedUpTo': WHATEVER THE INPUT: true; the input reads as it did. -/
def fnExactAcceptedUpToSpec : ChangeSpec := { name := "fnExactAcceptedUpTo", fn := fun _ => fun
  | [d1, d2, d3] => { results := [.lit (.bool true)], args := [d1, d2, d3] }
  | _ => none }
def fnExactAcceptedUpToRow : OpenClaim := { program := "ytdcpdipakglnnaa", sum := "2132673ef345c8651cf877f6e9384757904b1c0676a90a0c3b04675a6a1ad13f", func := "loop.example/g01116/laws.FnExactAcceptedUpTo", spec := "fnExactAcceptedUpTo", unfollowed := true, recurses := true, apart := false }
def FnExactAcceptedUpToSaid : Prop := fnExactAcceptedUpToRow.holds Try.pinned (OpenSpec.ofChange fnExactAcceptedUpToSpec)

/-- ITS FALSE NEIGHBOUR: 'it returns false'. Refute it at one input. -/
def fnExactAcceptedUpToWrong : ChangeSpec := { name := "fnExactAcceptedUpTo", fn := fun _ => fun
  | [d1, d2, d3] => { results := [.lit (.bool false)], args := [d1, d2, d3] }
  | _ => none }
def FnExactAcceptedUpToWrongFalsely : Prop := fnExactAcceptedUpToRow.holds Try.pinned (OpenSpec.ofChange fnExactAcceptedUpToWrong)

/-- 'laws.FnExactValidStock': WHATEVER THE INPUT: true; the input reads as it did. -/
def fnExactValidStockSpec : ChangeSpec := { name := "fnExactValidStock", fn := fun _ => fun
  | [d1, d2] => { results := [.lit (.bool true)], args := [d1, d2] }
  | _ => none }
def fnExactValidStockRow : OpenClaim := { program := "ytdcpdipakglnnaa", sum := "2132673ef345c8651cf877f6e9384757904b1c0676a90a0c3b04675a6a1ad13f", func := "loop.example/g01116/laws.FnExactValidStock", spec := "fnExactValidStock", unfollowed := true, recurses := true, apart := false }
def FnExactValidStockSaid : Prop := fnExactValidStockRow.holds Try.pinned (OpenSpec.ofChange fnExactValidStockSpec)

/-- ITS FALSE NEIGHBOUR: 'it returns false'. Refute it at one input. -/
def fnExactValidStockWrong : ChangeSpec := { name := "fnExactValidStock", fn := fun _ => fun
  | [d1, d2] => { results := [.lit (.bool false)], args := [d1, d2] }
  | _ => none }
def FnExactValidStockWrongFalsely : Prop := fnExactValidStockRow.holds Try.pinned (OpenSpec.ofChange fnExactValidStockWrong)

/-- 'laws.FnExactRunProgram': WHATEVER THE INPUT: true; the input reads as it did. -/
def fnExactRunProgramSpec : ChangeSpec := { name := "fnExactRunProgram", fn := fun _ => fun
  | [d1, d2, d3] => { results := [.lit (.bool true)], args := [d1, d2, d3] }
  | _ => none }
def fnExactRunProgramRow : OpenClaim := { program := "ytdcpdipakglnnaa", sum := "2132673ef345c8651cf877f6e9384757904b1c0676a90a0c3b04675a6a1ad13f", func := "loop.example/g01116/laws.FnExactRunProgram", spec := "fnExactRunProgram", unfollowed := true, recurses := true, apart := false }
def FnExactRunProgramSaid : Prop := fnExactRunProgramRow.holds Try.pinned (OpenSpec.ofChange fnExactRunProgramSpec)

/-- ITS FALSE NEIGHBOUR: 'it returns false'. Refute it at one input. -/
def fnExactRunProgramWrong : ChangeSpec := { name := "fnExactRunProgram", fn := fun _ => fun
  | [d1, d2, d3] => { results := [.lit (.bool false)], args := [d1, d2, d3] }
  | _ => none }
def FnExactRunProgramWrongFalsely : Prop := fnExactRunProgramRow.holds Try.pinned (OpenSpec.ofChange fnExactRunProgramWrong)

/-- 'laws.FnExactNextConfigs': WHATEVER THE INPUT: true; the input reads as it did. -/
def fnExactNextConfigsSpec : ChangeSpec := { name := "fnExactNextConfigs", fn := fun _ => fun
  | [d1, d2] => { results := [.lit (.bool true)], args := [d1, d2] }
  | _ => none }
def fnExactNextConfigsRow : OpenClaim := { program := "ytdcpdipakglnnaa", sum := "2132673ef345c8651cf877f6e9384757904b1c0676a90a0c3b04675a6a1ad13f", func := "loop.example/g01116/laws.FnExactNextConfigs", spec := "fnExactNextConfigs", unfollowed := true, recurses := true, apart := false }
def FnExactNextConfigsSaid : Prop := fnExactNextConfigsRow.holds Try.pinned (OpenSpec.ofChange fnExactNextConfigsSpec)

/-- ITS FALSE NEIGHBOUR: 'it returns false'. Refute it at one input. -/
def fnExactNextConfigsWrong : ChangeSpec := { name := "fnExactNextConfigs", fn := fun _ => fun
  | [d1, d2] => { results := [.lit (.bool false)], args := [d1, d2] }
  | _ => none }
def FnExactNextConfigsWrongFalsely : Prop := fnExactNextConfigsRow.holds Try.pinned (OpenSpec.ofChange fnExactNextConfigsWrong)

/- THE SECOND FORM. 'bulk': how many values and letters a reading holds, each counted each time it is reached (what is shared counts as often as it is met; a slice's spare places count too). A statement '..UptoSaid' is the law's where the arguments, and the package variables that the reading takes, are together of bulk at most 1048576: NARROWER than '..Said'. Prove '..Said' where nothing that the law and all that it calls make is longer than what came in: it says more and counts as full. Else prove '..UptoSaid'. A law counts once. -/
mutual
def uptoBulk {H : Type} : DataW H → Nat
  | .lit (.string bytes) => bytes.length + 1
  | .lit _ => 1
  | .nil => 1
  | .ptr d => uptoBulk d + 1
  | .slice elems spare => uptoBulkAll elems + uptoBulkAll spare + 1
  | .agg parts => uptoBulkAll parts + 1
  | .iface _ d => uptoBulk d + 1
  | .map entries => uptoBulkEntries entries + 1
  | .held _ => 1
def uptoBulkAll {H : Type} : List (DataW H) → Nat
  | [] => 0
  | d :: r => uptoBulk d + uptoBulkAll r
def uptoBulkEntries {H : Type} : List (Lit × DataW H) → Nat
  | [] => 0
  | x :: r => uptoBulkEntry x + uptoBulkEntries r
def uptoBulkEntry {H : Type} : Lit × DataW H → Nat
  | (.string bytes, d) => bytes.length + uptoBulk d + 1
  | (_, d) => uptoBulk d + 1
 end
def uptoSmall : (H : Type) → List (DataW H) → Bool := fun _ ds => decide (uptoBulkAll ds ≤ 1048576)
def OpenSpec.upto (s : _root_.Go.ChangeSpec) : _root_.Go.OpenSpec := { _root_.Go.OpenSpec.ofChange s with cond := some uptoSmall }

/-- 'laws.FnExactPackedBag', WHERE WHAT IT READS IS OF BULK AT MOST 1048576: true; the input reads as it did. -/
def fnExactPackedBagUptoRow : OpenClaim := { program := "ytdcpdipakglnnaa", sum := "2132673ef345c8651cf877f6e9384757904b1c0676a90a0c3b04675a6a1ad13f", func := "loop.example/g01116/laws.FnExactPackedBag", spec := "fnExactPackedBag", unfollowed := true, recurses := true, apart := false, narrowed := true }
def FnExactPackedBagUptoSaid : Prop := fnExactPackedBagUptoRow.holds Try.pinned (OpenSpec.upto fnExactPackedBagSpec)

/-- 'laws.FnExactGreedyPacking', WHERE WHAT IT READS IS OF BULK AT MOST 1048576: true; the input reads as it did. -/
def fnExactGreedyPackingUptoRow : OpenClaim := { program := "ytdcpdipakglnnaa", sum := "2132673ef345c8651cf877f6e9384757904b1c0676a90a0c3b04675a6a1ad13f", func := "loop.example/g01116/laws.FnExactGreedyPacking", spec := "fnExactGreedyPacking", unfollowed := true, recurses := true, apart := false, narrowed := true }
def FnExactGreedyPackingUptoSaid : Prop := fnExactGreedyPackingUptoRow.holds Try.pinned (OpenSpec.upto fnExactGreedyPackingSpec)

/-- 'laws.FnExactValidPassing', WHERE WHAT IT READS IS OF BULK AT MOST 1048576: true; the input reads as it did. -/
def fnExactValidPassingUptoRow : OpenClaim := { program := "ytdcpdipakglnnaa", sum := "2132673ef345c8651cf877f6e9384757904b1c0676a90a0c3b04675a6a1ad13f", func := "loop.example/g01116/laws.FnExactValidPassing", spec := "fnExactValidPassing", unfollowed := true, recurses := true, apart := false, narrowed := true }
def FnExactValidPassingUptoSaid : Prop := fnExactValidPassingUptoRow.holds Try.pinned (OpenSpec.upto fnExactValidPassingSpec)

/-- 'laws.FnExactSameSystem', WHERE WHAT IT READS IS OF BULK AT MOST 1048576: true; the input reads as it did. -/
def fnExactSameSystemUptoRow : OpenClaim := { program := "ytdcpdipakglnnaa", sum := "2132673ef345c8651cf877f6e9384757904b1c0676a90a0c3b04675a6a1ad13f", func := "loop.example/g01116/laws.FnExactSameSystem", spec := "fnExactSameSystem", unfollowed := true, recurses := true, apart := false, narrowed := true }
def FnExactSameSystemUptoSaid : Prop := fnExactSameSystemUptoRow.holds Try.pinned (OpenSpec.upto fnExactSameSystemSpec)

/-- 'laws.FnExactProgramKinds', WHERE WHAT IT READS IS OF BULK AT MOST 1048576: true; the input reads as it did. -/
def fnExactProgramKindsUptoRow : OpenClaim := { program := "ytdcpdipakglnnaa", sum := "2132673ef345c8651cf877f6e9384757904b1c0676a90a0c3b04675a6a1ad13f", func := "loop.example/g01116/laws.FnExactProgramKinds", spec := "fnExactProgramKinds", unfollowed := true, recurses := true, apart := false, narrowed := true }
def FnExactProgramKindsUptoSaid : Prop := fnExactProgramKindsUptoRow.holds Try.pinned (OpenSpec.upto fnExactProgramKindsSpec)

/-- 'laws.FnExactExactPackings', WHERE WHAT IT READS IS OF BULK AT MOST 1048576: true; the input reads as it did. -/
def fnExactExactPackingsUptoRow : OpenClaim := { program := "ytdcpdipakglnnaa", sum := "2132673ef345c8651cf877f6e9384757904b1c0676a90a0c3b04675a6a1ad13f", func := "loop.example/g01116/laws.FnExactExactPackings", spec := "fnExactExactPackings", unfollowed := true, recurses := true, apart := false, narrowed := true }
def FnExactExactPackingsUptoSaid : Prop := fnExactExactPackingsUptoRow.holds Try.pinned (OpenSpec.upto fnExactExactPackingsSpec)

/-- 'laws.FnAccepted', WHERE WHAT IT READS IS OF BULK AT MOST 1048576: true; the input reads as it did. -/
def fnAcceptedUptoRow : OpenClaim := { program := "ytdcpdipakglnnaa", sum := "2132673ef345c8651cf877f6e9384757904b1c0676a90a0c3b04675a6a1ad13f", func := "loop.example/g01116/laws.FnAccepted", spec := "fnAccepted", unfollowed := true, recurses := true, apart := false, narrowed := true }
def FnAcceptedUptoSaid : Prop := fnAcceptedUptoRow.holds Try.pinned (OpenSpec.upto fnAcceptedSpec)

/-- 'laws.FnExactMaximalPackings', WHERE WHAT IT READS IS OF BULK AT MOST 1048576: true; the input reads as it did. -/
def fnExactMaximalPackingsUptoRow : OpenClaim := { program := "ytdcpdipakglnnaa", sum := "2132673ef345c8651cf877f6e9384757904b1c0676a90a0c3b04675a6a1ad13f", func := "loop.example/g01116/laws.FnExactMaximalPackings", spec := "fnExactMaximalPackings", unfollowed := true, recurses := true, apart := false, narrowed := true }
def FnExactMaximalPackingsUptoSaid : Prop := fnExactMaximalPackingsUptoRow.holds Try.pinned (OpenSpec.upto fnExactMaximalPackingsSpec)

/-- 'laws.FnExactAcceptedUpTo', WHERE WHAT IT READS IS OF BULK AT MOST 1048576: true; the input reads as it did. -/
def fnExactAcceptedUpToUptoRow : OpenClaim := { program := "ytdcpdipakglnnaa", sum := "2132673ef345c8651cf877f6e9384757904b1c0676a90a0c3b04675a6a1ad13f", func := "loop.example/g01116/laws.FnExactAcceptedUpTo", spec := "fnExactAcceptedUpTo", unfollowed := true, recurses := true, apart := false, narrowed := true }
def FnExactAcceptedUpToUptoSaid : Prop := fnExactAcceptedUpToUptoRow.holds Try.pinned (OpenSpec.upto fnExactAcceptedUpToSpec)

/-- 'laws.FnExactValidStock', WHERE WHAT IT READS IS OF BULK AT MOST 1048576: true; the input reads as it did. -/
def fnExactValidStockUptoRow : OpenClaim := { program := "ytdcpdipakglnnaa", sum := "2132673ef345c8651cf877f6e9384757904b1c0676a90a0c3b04675a6a1ad13f", func := "loop.example/g01116/laws.FnExactValidStock", spec := "fnExactValidStock", unfollowed := true, recurses := true, apart := false, narrowed := true }
def FnExactValidStockUptoSaid : Prop := fnExactValidStockUptoRow.holds Try.pinned (OpenSpec.upto fnExactValidStockSpec)

/-- 'laws.FnExactRunProgram', WHERE WHAT IT READS IS OF BULK AT MOST 1048576: true; the input reads as it did. -/
def fnExactRunProgramUptoRow : OpenClaim := { program := "ytdcpdipakglnnaa", sum := "2132673ef345c8651cf877f6e9384757904b1c0676a90a0c3b04675a6a1ad13f", func := "loop.example/g01116/laws.FnExactRunProgram", spec := "fnExactRunProgram", unfollowed := true, recurses := true, apart := false, narrowed := true }
def FnExactRunProgramUptoSaid : Prop := fnExactRunProgramUptoRow.holds Try.pinned (OpenSpec.upto fnExactRunProgramSpec)

/-- 'laws.FnExactNextConfigs', WHERE WHAT IT READS IS OF BULK AT MOST 1048576: true; the input reads as it did. -/
def fnExactNextConfigsUptoRow : OpenClaim := { program := "ytdcpdipakglnnaa", sum := "2132673ef345c8651cf877f6e9384757904b1c0676a90a0c3b04675a6a1ad13f", func := "loop.example/g01116/laws.FnExactNextConfigs", spec := "fnExactNextConfigs", unfollowed := true, recurses := true, apart := false, narrowed := true }
def FnExactNextConfigsUptoSaid : Prop := fnExactNextConfigsUptoRow.holds Try.pinned (OpenSpec.upto fnExactNextConfigsSpec)

end Rows
end Go.Proofs.Ytdcpdipakglnnaa
