/-
  DERIVED. GIVEN WITH THE SEED: THE CARDS: each row of YtkbhdpkheincoaaDoorRows.lean that lists a variable, with what it lists TIED to the program's text (the seventh form; the later family's looks); each row that meets fmt, with fmt's text TOLD by the authors' own Lean function (tested against real Go, not proved from fmt's source: count such statements apart). THE CARD IS WHAT COUNTS. Prove the row's statement (the work); the ties are given (YtkbhdpkheincoaaDoorTie.lean); close each card by the builder's one call (the guide's Derived/Test/ToyasCard.lean, 'card_holds'). Laid BY PROGRAM, IN A SANDBOX (cutbox-door.mjs). By AI agents, Wed Nov 11 2026. No macro, syntax, notation, axiom, sorry.
-/
import Derived.Test.YtkbhdpkheincoaaDoorRows
import GoSem.ClaimSeven
namespace Go.Proofs.YtkbhdpkheincoaaDoor
namespace Rows

/-- THE TIED CARD OF 'laws.FnExactPassingText'. -/
def fnExactPassingTextCard : Claim7 := { stood := { row := fnExactPassingTextRow, standIns := [], harness := (true, "1a3467c945b726d03456d978d164165f65cd43c3fd94f4aba4c18ef9cd620604"), looks := false }, kinds := [], alts := [], laidByText := true, laidKinds := [.data, .data, .data], laidTests := true, laidLooks := .later }
def FnExactPassingTextCardSaid : Prop := Claim7.holds Tryd.pinned (.plain (OpenSpec.ofChange fnExactPassingTextSpec)) fnExactPassingTextCard

/-- THE SECOND FORM's CARD OF 'laws.FnExactPassingText'. -/
def fnExactPassingTextUptoCard : Claim7 := { stood := { row := fnExactPassingTextUptoRow, standIns := [], harness := (true, "1a3467c945b726d03456d978d164165f65cd43c3fd94f4aba4c18ef9cd620604"), looks := false }, kinds := [], alts := [], laidByText := true, laidKinds := [.data, .data, .data], laidTests := true, laidLooks := .later }
def FnExactPassingTextUptoCardSaid : Prop := Claim7.holds Tryd.pinned (.plain (OpenSpec.upto fnExactPassingTextSpec)) fnExactPassingTextUptoCard
end Rows
end Go.Proofs.YtkbhdpkheincoaaDoor
