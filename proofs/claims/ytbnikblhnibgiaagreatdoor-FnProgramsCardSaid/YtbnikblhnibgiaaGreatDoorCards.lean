/-
  DERIVED. GIVEN WITH THE SEED: THE CARDS: each row of YtbnikblhnibgiaaGreatDoorRows.lean that lists a variable, with what it lists TIED to the program's text (the seventh form; the later family's looks); each row that meets fmt, with fmt's text TOLD by the authors' own Lean function (tested against real Go, not proved from fmt's source: count such statements apart). THE CARD IS WHAT COUNTS. Prove the row's statement (the work); the ties are given (YtbnikblhnibgiaaGreatDoorTie.lean); close each card by the builder's one call (the guide's Derived/Test/ToyasCard.lean, 'card_holds'). Laid BY PROGRAM, IN A SANDBOX (cutbox-door.mjs). By AI agents, Wed Nov 11 2026. No macro, syntax, notation, axiom, sorry.
-/
import Derived.Test.YtbnikblhnibgiaaGreatDoorRows
import GoSem.ClaimSeven
namespace Go.Proofs.YtbnikblhnibgiaaGreatDoor
namespace Rows

/-- THE TIED CARD OF 'laws.FnPrograms'. -/
def fnProgramsCard : Claim7 := { stood := { row := fnProgramsRow, standIns := [], harness := (true, "e0dd70f9c1ceeef6c5cc9ebc8408e1248f3bffe4dea4e99ef05cdbe9615e2bb1"), looks := true }, kinds := [], alts := [], laidByText := true, laidKinds := [.data, .data, .data, .data, .sentinel, .sentinel, .pinned], laidTests := true, laidLooks := .later }
def FnProgramsCardSaid : Prop := Claim7.holds Tryz.pinned (.plain (OpenSpec.ofChange fnProgramsSpec)) fnProgramsCard

/-- THE SECOND FORM's CARD OF 'laws.FnPrograms'. -/
def fnProgramsUptoCard : Claim7 := { stood := { row := fnProgramsUptoRow, standIns := [], harness := (true, "e0dd70f9c1ceeef6c5cc9ebc8408e1248f3bffe4dea4e99ef05cdbe9615e2bb1"), looks := true }, kinds := [], alts := [], laidByText := true, laidKinds := [.data, .data, .data, .data, .sentinel, .sentinel, .pinned], laidTests := true, laidLooks := .later }
def FnProgramsUptoCardSaid : Prop := Claim7.holds Tryz.pinned (.plain (OpenSpec.upto fnProgramsSpec)) fnProgramsUptoCard
end Rows
end Go.Proofs.YtbnikblhnibgiaaGreatDoor
