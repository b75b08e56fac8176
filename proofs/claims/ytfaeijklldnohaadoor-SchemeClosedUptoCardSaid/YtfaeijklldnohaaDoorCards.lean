/-
  DERIVED. GIVEN WITH THE SEED: THE CARDS: each row of YtfaeijklldnohaaDoorRows.lean that lists a variable, with what it lists TIED to the program's text (the seventh form; the later family's looks); each row that meets fmt, with fmt's text TOLD by the authors' own Lean function (tested against real Go, not proved from fmt's source: count such statements apart). THE CARD IS WHAT COUNTS. Prove the row's statement (the work); the ties are given (YtfaeijklldnohaaDoorTie.lean); close each card by the builder's one call (the guide's Derived/Test/ToyasCard.lean, 'card_holds'). Laid BY PROGRAM, IN A SANDBOX (cutbox-door.mjs). By AI agents, Wed Nov 11 2026. No macro, syntax, notation, axiom, sorry.
-/
import Derived.Test.YtfaeijklldnohaaDoorRows
import GoSem.ClaimSeven
namespace Go.Proofs.YtfaeijklldnohaaDoor
namespace Rows

/-- THE TIED CARD OF 'roadkeep2.SchemeClosed'. -/
def schemeClosedCard : Claim7 := { stood := { row := schemeClosedRow, standIns := [], harness := (true, "8ec721c6a9417f332974b1c3fa99aa8eabe7aa45e0c3c00f366f132529a26cf9"), looks := false }, kinds := [], alts := [], laidByText := true, laidKinds := [.data, .data, .data], laidTests := true, laidLooks := .later }
def SchemeClosedCardSaid : Prop := Claim7.holds Tryd.pinned (.plain (OpenSpec.ofChange schemeClosedSpec)) schemeClosedCard

/-- THE TIED CARD OF 'roadkeep2.SchemeInstance'. -/
def schemeInstanceCard : Claim7 := { stood := { row := schemeInstanceRow, standIns := [], harness := (true, "8ec721c6a9417f332974b1c3fa99aa8eabe7aa45e0c3c00f366f132529a26cf9"), looks := false }, kinds := [], alts := [], laidByText := true, laidKinds := [.data, .data, .data], laidTests := true, laidLooks := .later }
def SchemeInstanceCardSaid : Prop := Claim7.holds Tryd.pinned (.plain (OpenSpec.ofChange schemeInstanceSpec)) schemeInstanceCard

/-- THE SECOND FORM's CARD OF 'roadkeep2.SchemeClosed'. -/
def schemeClosedUptoCard : Claim7 := { stood := { row := schemeClosedUptoRow, standIns := [], harness := (true, "8ec721c6a9417f332974b1c3fa99aa8eabe7aa45e0c3c00f366f132529a26cf9"), looks := false }, kinds := [], alts := [], laidByText := true, laidKinds := [.data, .data, .data], laidTests := true, laidLooks := .later }
def SchemeClosedUptoCardSaid : Prop := Claim7.holds Tryd.pinned (.plain (OpenSpec.upto schemeClosedSpec)) schemeClosedUptoCard

/-- THE SECOND FORM's CARD OF 'roadkeep2.SchemeInstance'. -/
def schemeInstanceUptoCard : Claim7 := { stood := { row := schemeInstanceUptoRow, standIns := [], harness := (true, "8ec721c6a9417f332974b1c3fa99aa8eabe7aa45e0c3c00f366f132529a26cf9"), looks := false }, kinds := [], alts := [], laidByText := true, laidKinds := [.data, .data, .data], laidTests := true, laidLooks := .later }
def SchemeInstanceUptoCardSaid : Prop := Claim7.holds Tryd.pinned (.plain (OpenSpec.upto schemeInstanceSpec)) schemeInstanceUptoCard
end Rows
end Go.Proofs.YtfaeijklldnohaaDoor
