/-
  DERIVED. GIVEN WITH THE SEED: THE CARDS: each row of YtbnikblhnibgiaaDoorRows.lean that lists a variable, with what it lists TIED to the program's text (the seventh form; the later family's looks); each row that meets fmt, with fmt's text TOLD by the authors' own Lean function (tested against real Go, not proved from fmt's source: count such statements apart). THE CARD IS WHAT COUNTS. Prove the row's statement (the work); the ties are given (YtbnikblhnibgiaaDoorTie.lean); close each card by the builder's one call (the guide's Derived/Test/ToyasCard.lean, 'card_holds'). Laid BY PROGRAM, IN A SANDBOX (cutbox-door.mjs). By AI agents, Wed Nov 11 2026. No macro, syntax, notation, axiom, sorry.
-/
import Derived.Test.YtbnikblhnibgiaaDoorRows
import GoSem.ClaimSeven
namespace Go.Proofs.YtbnikblhnibgiaaDoor
namespace Rows

/-- THE TIED CARD OF 'laws.FnExactReadBag'. -/
def fnExactReadBagCard : Claim7 := { stood := { row := fnExactReadBagRow, standIns := [], harness := (true, "beef3332be4a2088880f600eecda8ddd92d763010ff9bd1baf11f25c4d39eb1d"), looks := true }, kinds := [], alts := [], laidByText := true, laidKinds := [.data, .data, .data, .data, .sentinel, .sentinel, .pinned], laidTests := true, laidLooks := .later }
def FnExactReadBagCardSaid : Prop := Claim7.holds Tryd.pinned (.plain (OpenSpec.ofChange fnExactReadBagSpec)) fnExactReadBagCard

/-- THE TIED CARD OF 'laws.FnBagText'. -/
def fnBagTextCard : Claim7 := { stood := { row := fnBagTextRow, standIns := [], harness := (true, "beef3332be4a2088880f600eecda8ddd92d763010ff9bd1baf11f25c4d39eb1d"), looks := true }, kinds := [], alts := [], laidByText := true, laidKinds := [.data, .data, .data, .data, .sentinel, .sentinel, .pinned], laidTests := true, laidLooks := .later }
def FnBagTextCardSaid : Prop := Claim7.holds Tryd.pinned (.plain (OpenSpec.ofChange fnBagTextSpec)) fnBagTextCard

/-- THE TIED CARD OF 'laws.FnExactReadProgram'. -/
def fnExactReadProgramCard : Claim7 := { stood := { row := fnExactReadProgramRow, standIns := [], harness := (true, "beef3332be4a2088880f600eecda8ddd92d763010ff9bd1baf11f25c4d39eb1d"), looks := true }, kinds := [], alts := [], laidByText := true, laidKinds := [.data, .data, .data, .data, .sentinel, .sentinel, .pinned], laidTests := true, laidLooks := .later }
def FnExactReadProgramCardSaid : Prop := Claim7.holds Tryd.pinned (.plain (OpenSpec.ofChange fnExactReadProgramSpec)) fnExactReadProgramCard

/-- THE SECOND FORM's CARD OF 'laws.FnExactReadBag'. -/
def fnExactReadBagUptoCard : Claim7 := { stood := { row := fnExactReadBagUptoRow, standIns := [], harness := (true, "beef3332be4a2088880f600eecda8ddd92d763010ff9bd1baf11f25c4d39eb1d"), looks := true }, kinds := [], alts := [], laidByText := true, laidKinds := [.data, .data, .data, .data, .sentinel, .sentinel, .pinned], laidTests := true, laidLooks := .later }
def FnExactReadBagUptoCardSaid : Prop := Claim7.holds Tryd.pinned (.plain (OpenSpec.upto fnExactReadBagSpec)) fnExactReadBagUptoCard

/-- THE SECOND FORM's CARD OF 'laws.FnBagText'. -/
def fnBagTextUptoCard : Claim7 := { stood := { row := fnBagTextUptoRow, standIns := [], harness := (true, "beef3332be4a2088880f600eecda8ddd92d763010ff9bd1baf11f25c4d39eb1d"), looks := true }, kinds := [], alts := [], laidByText := true, laidKinds := [.data, .data, .data, .data, .sentinel, .sentinel, .pinned], laidTests := true, laidLooks := .later }
def FnBagTextUptoCardSaid : Prop := Claim7.holds Tryd.pinned (.plain (OpenSpec.upto fnBagTextSpec)) fnBagTextUptoCard

/-- THE SECOND FORM's CARD OF 'laws.FnExactReadProgram'. -/
def fnExactReadProgramUptoCard : Claim7 := { stood := { row := fnExactReadProgramUptoRow, standIns := [], harness := (true, "beef3332be4a2088880f600eecda8ddd92d763010ff9bd1baf11f25c4d39eb1d"), looks := true }, kinds := [], alts := [], laidByText := true, laidKinds := [.data, .data, .data, .data, .sentinel, .sentinel, .pinned], laidTests := true, laidLooks := .later }
def FnExactReadProgramUptoCardSaid : Prop := Claim7.holds Tryd.pinned (.plain (OpenSpec.upto fnExactReadProgramSpec)) fnExactReadProgramUptoCard
end Rows
end Go.Proofs.YtbnikblhnibgiaaDoor
