/-
  No cell of these rows narrows 'for every input' (looked for: loops, veiled, ifaces, maps, wideKeys, modest, calm, conditions, laid).
  DERIVED. THE GIVEN ROWS OF THIS SEAT. 12 by the template 'for every input the law returns true; each argument reads behind the call as it read before'; 0 by the template 'total and deterministic' (their statements: YthfkhallnbcopaaTotals.lean).
  GIVEN WITH THE SEED: the statements are not yours to turn. If you find one false, say at which input.
  Laid BY PROGRAM, IN A SANDBOX (cutbox-rows.mjs): the forced cells as the released guide's own fill.sh prints them over the translation 4cf0cc2ce5bf0083… (all of the seat's roots in one cut). By AI agents, Wed Nov 11 2026. No macro, syntax, notation, axiom, sorry.
-/
import Derived.Test.YthfkhallnbcopaaChecked
import GoSem.Claim
import GoSem.ClaimJoined
import GoSem.ClaimMapViews
import Derived.JoinedTies
import Derived.KernelRfl
namespace Go.Proofs.Ythfkhallnbcopaa
/- THE CELL 'sum', in the pinned program and in every row, IS THE sha256 OF THE DUMP (.gsa) THAT YthfkhallnbcopaaProg.lean LOADS. Nothing in Lean hashes anything: it is a label: what it is worth is what the hold of that sum in a sandbox is worth. -/
noncomputable def Try.pinned : Pinned := { name := "ythfkhallnbcopaa", sum := "4cf0cc2ce5bf0083a42e7acbc90fae5b0883dc688f3327edaa82053108a766d3", checked := Try.checked }
namespace Rows
def none {H : Type} : Left H := { results := [], args := [] }

/-- 'laws.FnExactTimesIn': WHATEVER THE INPUT: true; the input reads as it did. -/
def fnExactTimesInSpec : ChangeSpec := { name := "fnExactTimesIn", fn := fun _ => fun
  | [d1, d2] => { results := [.lit (.bool true)], args := [d1, d2] }
  | _ => none }
def fnExactTimesInRow : OpenClaim := { program := "ythfkhallnbcopaa", sum := "4cf0cc2ce5bf0083a42e7acbc90fae5b0883dc688f3327edaa82053108a766d3", func := "loop.example/g01116/laws.FnExactTimesIn", spec := "fnExactTimesIn", unfollowed := true, recurses := true, apart := false }
def FnExactTimesInSaid : Prop := fnExactTimesInRow.holds Try.pinned (OpenSpec.ofChange fnExactTimesInSpec)

/-- ITS FALSE NEIGHBOUR: 'it returns false'. Refute it at one input. -/
def fnExactTimesInWrong : ChangeSpec := { name := "fnExactTimesIn", fn := fun _ => fun
  | [d1, d2] => { results := [.lit (.bool false)], args := [d1, d2] }
  | _ => none }
def FnExactTimesInWrongFalsely : Prop := fnExactTimesInRow.holds Try.pinned (OpenSpec.ofChange fnExactTimesInWrong)

/-- 'laws.FnExactBagsOfSize': WHATEVER THE INPUT: true; the input reads as it did. -/
def fnExactBagsOfSizeSpec : ChangeSpec := { name := "fnExactBagsOfSize", fn := fun _ => fun
  | [d1, d2] => { results := [.lit (.bool true)], args := [d1, d2] }
  | _ => none }
def fnExactBagsOfSizeRow : OpenClaim := { program := "ythfkhallnbcopaa", sum := "4cf0cc2ce5bf0083a42e7acbc90fae5b0883dc688f3327edaa82053108a766d3", func := "loop.example/g01116/laws.FnExactBagsOfSize", spec := "fnExactBagsOfSize", unfollowed := true, recurses := true, apart := false }
def FnExactBagsOfSizeSaid : Prop := fnExactBagsOfSizeRow.holds Try.pinned (OpenSpec.ofChange fnExactBagsOfSizeSpec)

/-- ITS FALSE NEIGHBOUR: 'it returns false'. Refute it at one input. -/
def fnExactBagsOfSizeWrong : ChangeSpec := { name := "fnExactBagsOfSize", fn := fun _ => fun
  | [d1, d2] => { results := [.lit (.bool false)], args := [d1, d2] }
  | _ => none }
def FnExactBagsOfSizeWrongFalsely : Prop := fnExactBagsOfSizeRow.holds Try.pinned (OpenSpec.ofChange fnExactBagsOfSizeWrong)

/-- 'laws.FnPassChoices': WHATEVER THE INPUT: true; the input reads as it did. -/
def fnPassChoicesSpec : ChangeSpec := { name := "fnPassChoices", fn := fun _ => fun
  | [d1, d2] => { results := [.lit (.bool true)], args := [d1, d2] }
  | _ => none }
def fnPassChoicesRow : OpenClaim := { program := "ythfkhallnbcopaa", sum := "4cf0cc2ce5bf0083a42e7acbc90fae5b0883dc688f3327edaa82053108a766d3", func := "loop.example/g01116/laws.FnPassChoices", spec := "fnPassChoices", unfollowed := true, recurses := true, apart := false }
def FnPassChoicesSaid : Prop := fnPassChoicesRow.holds Try.pinned (OpenSpec.ofChange fnPassChoicesSpec)

/-- ITS FALSE NEIGHBOUR: 'it returns false'. Refute it at one input. -/
def fnPassChoicesWrong : ChangeSpec := { name := "fnPassChoices", fn := fun _ => fun
  | [d1, d2] => { results := [.lit (.bool false)], args := [d1, d2] }
  | _ => none }
def FnPassChoicesWrongFalsely : Prop := fnPassChoicesRow.holds Try.pinned (OpenSpec.ofChange fnPassChoicesWrong)

/-- 'laws.FnExactAddBags': WHATEVER THE INPUT: true; the input reads as it did. -/
def fnExactAddBagsSpec : ChangeSpec := { name := "fnExactAddBags", fn := fun _ => fun
  | [d1, d2] => { results := [.lit (.bool true)], args := [d1, d2] }
  | _ => none }
def fnExactAddBagsRow : OpenClaim := { program := "ythfkhallnbcopaa", sum := "4cf0cc2ce5bf0083a42e7acbc90fae5b0883dc688f3327edaa82053108a766d3", func := "loop.example/g01116/laws.FnExactAddBags", spec := "fnExactAddBags", unfollowed := true, recurses := true, apart := false }
def FnExactAddBagsSaid : Prop := fnExactAddBagsRow.holds Try.pinned (OpenSpec.ofChange fnExactAddBagsSpec)

/-- ITS FALSE NEIGHBOUR: 'it returns false'. Refute it at one input. -/
def fnExactAddBagsWrong : ChangeSpec := { name := "fnExactAddBags", fn := fun _ => fun
  | [d1, d2] => { results := [.lit (.bool false)], args := [d1, d2] }
  | _ => none }
def FnExactAddBagsWrongFalsely : Prop := fnExactAddBagsRow.holds Try.pinned (OpenSpec.ofChange fnExactAddBagsWrong)

/-- 'laws.FnExactSameStock': WHATEVER THE INPUT: true; the input reads as it did. -/
def fnExactSameStockSpec : ChangeSpec := { name := "fnExactSameStock", fn := fun _ => fun
  | [d1, d2] => { results := [.lit (.bool true)], args := [d1, d2] }
  | _ => none }
def fnExactSameStockRow : OpenClaim := { program := "ythfkhallnbcopaa", sum := "4cf0cc2ce5bf0083a42e7acbc90fae5b0883dc688f3327edaa82053108a766d3", func := "loop.example/g01116/laws.FnExactSameStock", spec := "fnExactSameStock", unfollowed := true, recurses := true, apart := false }
def FnExactSameStockSaid : Prop := fnExactSameStockRow.holds Try.pinned (OpenSpec.ofChange fnExactSameStockSpec)

/-- ITS FALSE NEIGHBOUR: 'it returns false'. Refute it at one input. -/
def fnExactSameStockWrong : ChangeSpec := { name := "fnExactSameStock", fn := fun _ => fun
  | [d1, d2] => { results := [.lit (.bool false)], args := [d1, d2] }
  | _ => none }
def FnExactSameStockWrongFalsely : Prop := fnExactSameStockRow.holds Try.pinned (OpenSpec.ofChange fnExactSameStockWrong)

/-- 'laws.FnExactTakeBag': WHATEVER THE INPUT: true; the input reads as it did. -/
def fnExactTakeBagSpec : ChangeSpec := { name := "fnExactTakeBag", fn := fun _ => fun
  | [d1, d2] => { results := [.lit (.bool true)], args := [d1, d2] }
  | _ => none }
def fnExactTakeBagRow : OpenClaim := { program := "ythfkhallnbcopaa", sum := "4cf0cc2ce5bf0083a42e7acbc90fae5b0883dc688f3327edaa82053108a766d3", func := "loop.example/g01116/laws.FnExactTakeBag", spec := "fnExactTakeBag", unfollowed := true, recurses := true, apart := false }
def FnExactTakeBagSaid : Prop := fnExactTakeBagRow.holds Try.pinned (OpenSpec.ofChange fnExactTakeBagSpec)

/-- ITS FALSE NEIGHBOUR: 'it returns false'. Refute it at one input. -/
def fnExactTakeBagWrong : ChangeSpec := { name := "fnExactTakeBag", fn := fun _ => fun
  | [d1, d2] => { results := [.lit (.bool false)], args := [d1, d2] }
  | _ => none }
def FnExactTakeBagWrongFalsely : Prop := fnExactTakeBagRow.holds Try.pinned (OpenSpec.ofChange fnExactTakeBagWrong)

/-- 'laws.FnExactPartsOf': WHATEVER THE INPUT: true; the input reads as it did. -/
def fnExactPartsOfSpec : ChangeSpec := { name := "fnExactPartsOf", fn := fun _ => fun
  | [d] => { results := [.lit (.bool true)], args := [d] }
  | _ => none }
def fnExactPartsOfRow : OpenClaim := { program := "ythfkhallnbcopaa", sum := "4cf0cc2ce5bf0083a42e7acbc90fae5b0883dc688f3327edaa82053108a766d3", func := "loop.example/g01116/laws.FnExactPartsOf", spec := "fnExactPartsOf", unfollowed := true, recurses := true, apart := false }
def FnExactPartsOfSaid : Prop := fnExactPartsOfRow.holds Try.pinned (OpenSpec.ofChange fnExactPartsOfSpec)

/-- ITS FALSE NEIGHBOUR: 'it returns false'. Refute it at one input. -/
def fnExactPartsOfWrong : ChangeSpec := { name := "fnExactPartsOf", fn := fun _ => fun
  | [d] => { results := [.lit (.bool false)], args := [d] }
  | _ => none }
def FnExactPartsOfWrongFalsely : Prop := fnExactPartsOfRow.holds Try.pinned (OpenSpec.ofChange fnExactPartsOfWrong)

/-- 'laws.FnExactSameState': WHATEVER THE INPUT: true; the input reads as it did. -/
def fnExactSameStateSpec : ChangeSpec := { name := "fnExactSameState", fn := fun _ => fun
  | [d1, d2] => { results := [.lit (.bool true)], args := [d1, d2] }
  | _ => none }
def fnExactSameStateRow : OpenClaim := { program := "ythfkhallnbcopaa", sum := "4cf0cc2ce5bf0083a42e7acbc90fae5b0883dc688f3327edaa82053108a766d3", func := "loop.example/g01116/laws.FnExactSameState", spec := "fnExactSameState", unfollowed := true, recurses := true, apart := false }
def FnExactSameStateSaid : Prop := fnExactSameStateRow.holds Try.pinned (OpenSpec.ofChange fnExactSameStateSpec)

/-- ITS FALSE NEIGHBOUR: 'it returns false'. Refute it at one input. -/
def fnExactSameStateWrong : ChangeSpec := { name := "fnExactSameState", fn := fun _ => fun
  | [d1, d2] => { results := [.lit (.bool false)], args := [d1, d2] }
  | _ => none }
def FnExactSameStateWrongFalsely : Prop := fnExactSameStateRow.holds Try.pinned (OpenSpec.ofChange fnExactSameStateWrong)

/-- 'laws.FnExactSamePassing': WHATEVER THE INPUT: true; the input reads as it did. -/
def fnExactSamePassingSpec : ChangeSpec := { name := "fnExactSamePassing", fn := fun _ => fun
  | [d1, d2] => { results := [.lit (.bool true)], args := [d1, d2] }
  | _ => none }
def fnExactSamePassingRow : OpenClaim := { program := "ythfkhallnbcopaa", sum := "4cf0cc2ce5bf0083a42e7acbc90fae5b0883dc688f3327edaa82053108a766d3", func := "loop.example/g01116/laws.FnExactSamePassing", spec := "fnExactSamePassing", unfollowed := true, recurses := true, apart := false }
def FnExactSamePassingSaid : Prop := fnExactSamePassingRow.holds Try.pinned (OpenSpec.ofChange fnExactSamePassingSpec)

/-- ITS FALSE NEIGHBOUR: 'it returns false'. Refute it at one input. -/
def fnExactSamePassingWrong : ChangeSpec := { name := "fnExactSamePassing", fn := fun _ => fun
  | [d1, d2] => { results := [.lit (.bool false)], args := [d1, d2] }
  | _ => none }
def FnExactSamePassingWrongFalsely : Prop := fnExactSamePassingRow.holds Try.pinned (OpenSpec.ofChange fnExactSamePassingWrong)

/-- 'laws.FnBagSums': WHATEVER THE INPUT: true; the input reads as it did. -/
def fnBagSumsSpec : ChangeSpec := { name := "fnBagSums", fn := fun _ => fun
  | [d1, d2] => { results := [.lit (.bool true)], args := [d1, d2] }
  | _ => none }
def fnBagSumsRow : OpenClaim := { program := "ythfkhallnbcopaa", sum := "4cf0cc2ce5bf0083a42e7acbc90fae5b0883dc688f3327edaa82053108a766d3", func := "loop.example/g01116/laws.FnBagSums", spec := "fnBagSums", unfollowed := true, recurses := true, apart := false }
def FnBagSumsSaid : Prop := fnBagSumsRow.holds Try.pinned (OpenSpec.ofChange fnBagSumsSpec)

/-- ITS FALSE NEIGHBOUR: 'it returns false'. Refute it at one input. -/
def fnBagSumsWrong : ChangeSpec := { name := "fnBagSums", fn := fun _ => fun
  | [d1, d2] => { results := [.lit (.bool false)], args := [d1, d2] }
  | _ => none }
def FnBagSumsWrongFalsely : Prop := fnBagSumsRow.holds Try.pinned (OpenSpec.ofChange fnBagSumsWrong)

/-- 'laws.FnBagLists': WHATEVER THE INPUT: true; the input reads as it did. -/
def fnBagListsSpec : ChangeSpec := { name := "fnBagLists", fn := fun _ => fun
  | [d1, d2] => { results := [.lit (.bool true)], args := [d1, d2] }
  | _ => none }
def fnBagListsRow : OpenClaim := { program := "ythfkhallnbcopaa", sum := "4cf0cc2ce5bf0083a42e7acbc90fae5b0883dc688f3327edaa82053108a766d3", func := "loop.example/g01116/laws.FnBagLists", spec := "fnBagLists", unfollowed := true, recurses := true, apart := false }
def FnBagListsSaid : Prop := fnBagListsRow.holds Try.pinned (OpenSpec.ofChange fnBagListsSpec)

/-- ITS FALSE NEIGHBOUR: 'it returns false'. Refute it at one input. -/
def fnBagListsWrong : ChangeSpec := { name := "fnBagLists", fn := fun _ => fun
  | [d1, d2] => { results := [.lit (.bool false)], args := [d1, d2] }
  | _ => none }
def FnBagListsWrongFalsely : Prop := fnBagListsRow.holds Try.pinned (OpenSpec.ofChange fnBagListsWrong)

/-- 'laws.FnExactIsPacking': WHATEVER THE INPUT: true; the input reads as it did. -/
def fnExactIsPackingSpec : ChangeSpec := { name := "fnExactIsPacking", fn := fun _ => fun
  | [d1, d2, d3] => { results := [.lit (.bool true)], args := [d1, d2, d3] }
  | _ => none }
def fnExactIsPackingRow : OpenClaim := { program := "ythfkhallnbcopaa", sum := "4cf0cc2ce5bf0083a42e7acbc90fae5b0883dc688f3327edaa82053108a766d3", func := "loop.example/g01116/laws.FnExactIsPacking", spec := "fnExactIsPacking", unfollowed := true, recurses := true, apart := false }
def FnExactIsPackingSaid : Prop := fnExactIsPackingRow.holds Try.pinned (OpenSpec.ofChange fnExactIsPackingSpec)

/-- ITS FALSE NEIGHBOUR: 'it returns false'. Refute it at one input. -/
def fnExactIsPackingWrong : ChangeSpec := { name := "fnExactIsPacking", fn := fun _ => fun
  | [d1, d2, d3] => { results := [.lit (.bool false)], args := [d1, d2, d3] }
  | _ => none }
def FnExactIsPackingWrongFalsely : Prop := fnExactIsPackingRow.holds Try.pinned (OpenSpec.ofChange fnExactIsPackingWrong)

/- THE SECOND FORM. 'bulk': how many values and letters a reading holds, each counted each time it is reached (what is shared counts as often as it is met; a slice's spare places count too). A statement '..UptoSaid' is the law's where the arguments, and the package variables that the reading takes, are together of bulk at most 1048576: NARROWER than '..Said'. Prove '..Said' where nothing that the law and all that it calls make is longer than what came in: it says more and counts as full. Else prove '..UptoSaid'. A law counts once. -/
mutual
def uptoBulk {H : Type} : DataW H → Nat
  | .lit (.string bytes) => bytes.length + 1
  | .lit _ => 1
  | .nil => 1
  | .ptr d => uptoBulk d + 1
  | .slice elems spare => uptoBulkAll elems + uptoBulkAll spare + 1
  | .agg parts => uptoBulkAll parts + 1
  | .iface _ d => uptoBulk d + 1
  | .map entries => uptoBulkEntries entries + 1
  | .held _ => 1
def uptoBulkAll {H : Type} : List (DataW H) → Nat
  | [] => 0
  | d :: r => uptoBulk d + uptoBulkAll r
def uptoBulkEntries {H : Type} : List (Lit × DataW H) → Nat
  | [] => 0
  | x :: r => uptoBulkEntry x + uptoBulkEntries r
def uptoBulkEntry {H : Type} : Lit × DataW H → Nat
  | (.string bytes, d) => bytes.length + uptoBulk d + 1
  | (_, d) => uptoBulk d + 1
 end
def uptoSmall : (H : Type) → List (DataW H) → Bool := fun _ ds => decide (uptoBulkAll ds ≤ 1048576)
def OpenSpec.upto (s : _root_.Go.ChangeSpec) : _root_.Go.OpenSpec := { _root_.Go.OpenSpec.ofChange s with cond := some uptoSmall }

/-- 'laws.FnExactTimesIn', WHERE WHAT IT READS IS OF BULK AT MOST 1048576: true; the input reads as it did. -/
def fnExactTimesInUptoRow : OpenClaim := { program := "ythfkhallnbcopaa", sum := "4cf0cc2ce5bf0083a42e7acbc90fae5b0883dc688f3327edaa82053108a766d3", func := "loop.example/g01116/laws.FnExactTimesIn", spec := "fnExactTimesIn", unfollowed := true, recurses := true, apart := false, narrowed := true }
def FnExactTimesInUptoSaid : Prop := fnExactTimesInUptoRow.holds Try.pinned (OpenSpec.upto fnExactTimesInSpec)

/-- 'laws.FnExactBagsOfSize', WHERE WHAT IT READS IS OF BULK AT MOST 1048576: true; the input reads as it did. -/
def fnExactBagsOfSizeUptoRow : OpenClaim := { program := "ythfkhallnbcopaa", sum := "4cf0cc2ce5bf0083a42e7acbc90fae5b0883dc688f3327edaa82053108a766d3", func := "loop.example/g01116/laws.FnExactBagsOfSize", spec := "fnExactBagsOfSize", unfollowed := true, recurses := true, apart := false, narrowed := true }
def FnExactBagsOfSizeUptoSaid : Prop := fnExactBagsOfSizeUptoRow.holds Try.pinned (OpenSpec.upto fnExactBagsOfSizeSpec)

/-- 'laws.FnPassChoices', WHERE WHAT IT READS IS OF BULK AT MOST 1048576: true; the input reads as it did. -/
def fnPassChoicesUptoRow : OpenClaim := { program := "ythfkhallnbcopaa", sum := "4cf0cc2ce5bf0083a42e7acbc90fae5b0883dc688f3327edaa82053108a766d3", func := "loop.example/g01116/laws.FnPassChoices", spec := "fnPassChoices", unfollowed := true, recurses := true, apart := false, narrowed := true }
def FnPassChoicesUptoSaid : Prop := fnPassChoicesUptoRow.holds Try.pinned (OpenSpec.upto fnPassChoicesSpec)

/-- 'laws.FnExactAddBags', WHERE WHAT IT READS IS OF BULK AT MOST 1048576: true; the input reads as it did. -/
def fnExactAddBagsUptoRow : OpenClaim := { program := "ythfkhallnbcopaa", sum := "4cf0cc2ce5bf0083a42e7acbc90fae5b0883dc688f3327edaa82053108a766d3", func := "loop.example/g01116/laws.FnExactAddBags", spec := "fnExactAddBags", unfollowed := true, recurses := true, apart := false, narrowed := true }
def FnExactAddBagsUptoSaid : Prop := fnExactAddBagsUptoRow.holds Try.pinned (OpenSpec.upto fnExactAddBagsSpec)

/-- 'laws.FnExactSameStock', WHERE WHAT IT READS IS OF BULK AT MOST 1048576: true; the input reads as it did. -/
def fnExactSameStockUptoRow : OpenClaim := { program := "ythfkhallnbcopaa", sum := "4cf0cc2ce5bf0083a42e7acbc90fae5b0883dc688f3327edaa82053108a766d3", func := "loop.example/g01116/laws.FnExactSameStock", spec := "fnExactSameStock", unfollowed := true, recurses := true, apart := false, narrowed := true }
def FnExactSameStockUptoSaid : Prop := fnExactSameStockUptoRow.holds Try.pinned (OpenSpec.upto fnExactSameStockSpec)

/-- 'laws.FnExactTakeBag', WHERE WHAT IT READS IS OF BULK AT MOST 1048576: true; the input reads as it did. -/
def fnExactTakeBagUptoRow : OpenClaim := { program := "ythfkhallnbcopaa", sum := "4cf0cc2ce5bf0083a42e7acbc90fae5b0883dc688f3327edaa82053108a766d3", func := "loop.example/g01116/laws.FnExactTakeBag", spec := "fnExactTakeBag", unfollowed := true, recurses := true, apart := false, narrowed := true }
def FnExactTakeBagUptoSaid : Prop := fnExactTakeBagUptoRow.holds Try.pinned (OpenSpec.upto fnExactTakeBagSpec)

/-- 'laws.FnExactPartsOf', WHERE WHAT IT READS IS OF BULK AT MOST 1048576: true; the input reads as it did. -/
def fnExactPartsOfUptoRow : OpenClaim := { program := "ythfkhallnbcopaa", sum := "4cf0cc2ce5bf0083a42e7acbc90fae5b0883dc688f3327edaa82053108a766d3", func := "loop.example/g01116/laws.FnExactPartsOf", spec := "fnExactPartsOf", unfollowed := true, recurses := true, apart := false, narrowed := true }
def FnExactPartsOfUptoSaid : Prop := fnExactPartsOfUptoRow.holds Try.pinned (OpenSpec.upto fnExactPartsOfSpec)

/-- 'laws.FnExactSameState', WHERE WHAT IT READS IS OF BULK AT MOST 1048576: true; the input reads as it did. -/
def fnExactSameStateUptoRow : OpenClaim := { program := "ythfkhallnbcopaa", sum := "4cf0cc2ce5bf0083a42e7acbc90fae5b0883dc688f3327edaa82053108a766d3", func := "loop.example/g01116/laws.FnExactSameState", spec := "fnExactSameState", unfollowed := true, recurses := true, apart := false, narrowed := true }
def FnExactSameStateUptoSaid : Prop := fnExactSameStateUptoRow.holds Try.pinned (OpenSpec.upto fnExactSameStateSpec)

/-- 'laws.FnExactSamePassing', WHERE WHAT IT READS IS OF BULK AT MOST 1048576: true; the input reads as it did. -/
def fnExactSamePassingUptoRow : OpenClaim := { program := "ythfkhallnbcopaa", sum := "4cf0cc2ce5bf0083a42e7acbc90fae5b0883dc688f3327edaa82053108a766d3", func := "loop.example/g01116/laws.FnExactSamePassing", spec := "fnExactSamePassing", unfollowed := true, recurses := true, apart := false, narrowed := true }
def FnExactSamePassingUptoSaid : Prop := fnExactSamePassingUptoRow.holds Try.pinned (OpenSpec.upto fnExactSamePassingSpec)

/-- 'laws.FnBagSums', WHERE WHAT IT READS IS OF BULK AT MOST 1048576: true; the input reads as it did. -/
def fnBagSumsUptoRow : OpenClaim := { program := "ythfkhallnbcopaa", sum := "4cf0cc2ce5bf0083a42e7acbc90fae5b0883dc688f3327edaa82053108a766d3", func := "loop.example/g01116/laws.FnBagSums", spec := "fnBagSums", unfollowed := true, recurses := true, apart := false, narrowed := true }
def FnBagSumsUptoSaid : Prop := fnBagSumsUptoRow.holds Try.pinned (OpenSpec.upto fnBagSumsSpec)

/-- 'laws.FnBagLists', WHERE WHAT IT READS IS OF BULK AT MOST 1048576: true; the input reads as it did. -/
def fnBagListsUptoRow : OpenClaim := { program := "ythfkhallnbcopaa", sum := "4cf0cc2ce5bf0083a42e7acbc90fae5b0883dc688f3327edaa82053108a766d3", func := "loop.example/g01116/laws.FnBagLists", spec := "fnBagLists", unfollowed := true, recurses := true, apart := false, narrowed := true }
def FnBagListsUptoSaid : Prop := fnBagListsUptoRow.holds Try.pinned (OpenSpec.upto fnBagListsSpec)

/-- 'laws.FnExactIsPacking', WHERE WHAT IT READS IS OF BULK AT MOST 1048576: true; the input reads as it did. -/
def fnExactIsPackingUptoRow : OpenClaim := { program := "ythfkhallnbcopaa", sum := "4cf0cc2ce5bf0083a42e7acbc90fae5b0883dc688f3327edaa82053108a766d3", func := "loop.example/g01116/laws.FnExactIsPacking", spec := "fnExactIsPacking", unfollowed := true, recurses := true, apart := false, narrowed := true }
def FnExactIsPackingUptoSaid : Prop := fnExactIsPackingUptoRow.holds Try.pinned (OpenSpec.upto fnExactIsPackingSpec)

end Rows
end Go.Proofs.Ythfkhallnbcopaa
