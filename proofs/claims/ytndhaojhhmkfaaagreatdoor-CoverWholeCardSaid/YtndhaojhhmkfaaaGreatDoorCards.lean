/-
  DERIVED. GIVEN WITH THE SEED: THE CARDS: each row of YtndhaojhhmkfaaaGreatDoorRows.lean that lists a variable, with what it lists TIED to the program's text (the seventh form; the later family's looks); each row that meets fmt, with fmt's text TOLD by the authors' own Lean function (tested against real Go, not proved from fmt's source: count such statements apart). THE CARD IS WHAT COUNTS. Prove the row's statement (the work); the ties are given (YtndhaojhhmkfaaaGreatDoorTie.lean); close each card by the builder's one call (the guide's Derived/Test/ToyasCard.lean, 'card_holds'). Laid BY PROGRAM, IN A SANDBOX (cutbox-door.mjs). By AI agents, Wed Nov 11 2026. No macro, syntax, notation, axiom, sorry.
-/
import Derived.Test.YtndhaojhhmkfaaaGreatDoorRows
import GoSem.ClaimSeven
namespace Go.Proofs.YtndhaojhhmkfaaaGreatDoor
namespace Rows

/-- THE TIED CARD OF 'roadkeep2.CoverValues'. -/
def coverValuesCard : Claim7 := { stood := { row := coverValuesRow, standIns := [], harness := (true, "04000f577585633ed44a302f53b0742a3907e75d579b1a89edfd49c04bdc18a8"), looks := true }, kinds := [], alts := [], laidByText := true, laidKinds := [.data, .data, .data, .data, .sentinel, .sentinel, .pinned], laidTests := true, laidLooks := .later }
def CoverValuesCardSaid : Prop := Claim7.holds Tryz.pinned (.plain (OpenSpec.ofChange coverValuesSpec)) coverValuesCard

/-- THE TIED CARD OF 'roadkeep2.CoverMore'. -/
def coverMoreCard : Claim7 := { stood := { row := coverMoreRow, standIns := [], harness := (true, "04000f577585633ed44a302f53b0742a3907e75d579b1a89edfd49c04bdc18a8"), looks := true }, kinds := [], alts := [], laidByText := true, laidKinds := [.data, .data, .data, .data, .sentinel, .sentinel, .pinned], laidTests := true, laidLooks := .later }
def CoverMoreCardSaid : Prop := Claim7.holds Tryz.pinned (.plain (OpenSpec.ofChange coverMoreSpec)) coverMoreCard

/-- THE TIED CARD OF 'roadkeep2.CoverWhole'. -/
def coverWholeCard : Claim7 := { stood := { row := coverWholeRow, standIns := [], harness := (true, "04000f577585633ed44a302f53b0742a3907e75d579b1a89edfd49c04bdc18a8"), looks := true }, kinds := [], alts := [], laidByText := true, laidKinds := [.data, .data, .data, .data, .sentinel, .sentinel, .pinned], laidTests := true, laidLooks := .later }
def CoverWholeCardSaid : Prop := Claim7.holds Tryz.pinned (.plain (OpenSpec.ofChange coverWholeSpec)) coverWholeCard

/-- THE SECOND FORM's CARD OF 'roadkeep2.CoverValues'. -/
def coverValuesUptoCard : Claim7 := { stood := { row := coverValuesUptoRow, standIns := [], harness := (true, "04000f577585633ed44a302f53b0742a3907e75d579b1a89edfd49c04bdc18a8"), looks := true }, kinds := [], alts := [], laidByText := true, laidKinds := [.data, .data, .data, .data, .sentinel, .sentinel, .pinned], laidTests := true, laidLooks := .later }
def CoverValuesUptoCardSaid : Prop := Claim7.holds Tryz.pinned (.plain (OpenSpec.upto coverValuesSpec)) coverValuesUptoCard

/-- THE SECOND FORM's CARD OF 'roadkeep2.CoverMore'. -/
def coverMoreUptoCard : Claim7 := { stood := { row := coverMoreUptoRow, standIns := [], harness := (true, "04000f577585633ed44a302f53b0742a3907e75d579b1a89edfd49c04bdc18a8"), looks := true }, kinds := [], alts := [], laidByText := true, laidKinds := [.data, .data, .data, .data, .sentinel, .sentinel, .pinned], laidTests := true, laidLooks := .later }
def CoverMoreUptoCardSaid : Prop := Claim7.holds Tryz.pinned (.plain (OpenSpec.upto coverMoreSpec)) coverMoreUptoCard

/-- THE SECOND FORM's CARD OF 'roadkeep2.CoverWhole'. -/
def coverWholeUptoCard : Claim7 := { stood := { row := coverWholeUptoRow, standIns := [], harness := (true, "04000f577585633ed44a302f53b0742a3907e75d579b1a89edfd49c04bdc18a8"), looks := true }, kinds := [], alts := [], laidByText := true, laidKinds := [.data, .data, .data, .data, .sentinel, .sentinel, .pinned], laidTests := true, laidLooks := .later }
def CoverWholeUptoCardSaid : Prop := Claim7.holds Tryz.pinned (.plain (OpenSpec.upto coverWholeSpec)) coverWholeUptoCard
end Rows
end Go.Proofs.YtndhaojhhmkfaaaGreatDoor
