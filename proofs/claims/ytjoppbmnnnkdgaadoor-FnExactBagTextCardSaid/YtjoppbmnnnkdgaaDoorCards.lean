/-
  DERIVED. GIVEN WITH THE SEED: THE CARDS: each row of YtjoppbmnnnkdgaaDoorRows.lean that lists a variable, with what it lists TIED to the program's text (the seventh form; the later family's looks); each row that meets fmt, with fmt's text TOLD by the authors' own Lean function (tested against real Go, not proved from fmt's source: count such statements apart). THE CARD IS WHAT COUNTS. Prove the row's statement (the work); the ties are given (YtjoppbmnnnkdgaaDoorTie.lean); close each card by the builder's one call (the guide's Derived/Test/ToyasCard.lean, 'card_holds'). Laid BY PROGRAM, IN A SANDBOX (cutbox-door.mjs). By AI agents, Wed Nov 11 2026. No macro, syntax, notation, axiom, sorry.
-/
import Derived.Test.YtjoppbmnnnkdgaaDoorRows
import GoSem.ClaimSeven
namespace Go.Proofs.YtjoppbmnnnkdgaaDoor
namespace Rows

/-- THE TIED CARD OF 'laws.FnExactProgramText'. -/
def fnExactProgramTextCard : Claim7 := { stood := { row := fnExactProgramTextRow, standIns := [], harness := (true, "948e082f86aa69ec8878addc480163e2f3460483427b64d0730fd5be6374d356"), looks := false }, kinds := [], alts := [], laidByText := true, laidKinds := [.data, .data, .data], laidTests := true, laidLooks := .later }
def FnExactProgramTextCardSaid : Prop := Claim7.holds Tryd.pinned (.plain (OpenSpec.ofChange fnExactProgramTextSpec)) fnExactProgramTextCard

/-- THE TIED CARD OF 'laws.FnExactBagText'. -/
def fnExactBagTextCard : Claim7 := { stood := { row := fnExactBagTextRow, standIns := [], harness := (true, "948e082f86aa69ec8878addc480163e2f3460483427b64d0730fd5be6374d356"), looks := false }, kinds := [], alts := [], laidByText := true, laidKinds := [.data, .data, .data], laidTests := true, laidLooks := .later }
def FnExactBagTextCardSaid : Prop := Claim7.holds Tryd.pinned (.plain (OpenSpec.ofChange fnExactBagTextSpec)) fnExactBagTextCard

/-- THE SECOND FORM's CARD OF 'laws.FnExactProgramText'. -/
def fnExactProgramTextUptoCard : Claim7 := { stood := { row := fnExactProgramTextUptoRow, standIns := [], harness := (true, "948e082f86aa69ec8878addc480163e2f3460483427b64d0730fd5be6374d356"), looks := false }, kinds := [], alts := [], laidByText := true, laidKinds := [.data, .data, .data], laidTests := true, laidLooks := .later }
def FnExactProgramTextUptoCardSaid : Prop := Claim7.holds Tryd.pinned (.plain (OpenSpec.upto fnExactProgramTextSpec)) fnExactProgramTextUptoCard

/-- THE SECOND FORM's CARD OF 'laws.FnExactBagText'. -/
def fnExactBagTextUptoCard : Claim7 := { stood := { row := fnExactBagTextUptoRow, standIns := [], harness := (true, "948e082f86aa69ec8878addc480163e2f3460483427b64d0730fd5be6374d356"), looks := false }, kinds := [], alts := [], laidByText := true, laidKinds := [.data, .data, .data], laidTests := true, laidLooks := .later }
def FnExactBagTextUptoCardSaid : Prop := Claim7.holds Tryd.pinned (.plain (OpenSpec.upto fnExactBagTextSpec)) fnExactBagTextUptoCard
end Rows
end Go.Proofs.YtjoppbmnnnkdgaaDoor
