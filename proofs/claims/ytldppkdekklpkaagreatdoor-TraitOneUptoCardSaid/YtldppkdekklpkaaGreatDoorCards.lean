/-
  DERIVED. GIVEN WITH THE SEED: THE CARDS: each row of YtldppkdekklpkaaGreatDoorRows.lean that lists a variable, with what it lists TIED to the program's text (the seventh form; the later family's looks); each row that meets fmt, with fmt's text TOLD by the authors' own Lean function (tested against real Go, not proved from fmt's source: count such statements apart). THE CARD IS WHAT COUNTS. Prove the row's statement (the work); the ties are given (YtldppkdekklpkaaGreatDoorTie.lean); close each card by the builder's one call (the guide's Derived/Test/ToyasCard.lean, 'card_holds'). Laid BY PROGRAM, IN A SANDBOX (cutbox-door.mjs). By AI agents, Wed Nov 11 2026. No macro, syntax, notation, axiom, sorry.
-/
import Derived.Test.YtldppkdekklpkaaGreatDoorRows
import GoSem.ClaimSeven
namespace Go.Proofs.YtldppkdekklpkaaGreatDoor
namespace Rows

/-- THE TIED CARD OF 'roadkeep2.TraitOne'. -/
def traitOneCard : Claim7 := { stood := { row := traitOneRow, standIns := [], harness := (true, "86a3516ae7bd355f75e6eb1189cc6c9ba3972390b0d5aeb300b7d519bb25e264"), looks := true }, kinds := [], alts := [], laidByText := true, laidKinds := [.data, .data, .data, .data, .sentinel, .sentinel, .pinned], laidTests := true, laidLooks := .later }
def TraitOneCardSaid : Prop := Claim7.holds Tryz.pinned (.plain (OpenSpec.ofChange traitOneSpec)) traitOneCard

/-- THE SECOND FORM's CARD OF 'roadkeep2.TraitOne'. -/
def traitOneUptoCard : Claim7 := { stood := { row := traitOneUptoRow, standIns := [], harness := (true, "86a3516ae7bd355f75e6eb1189cc6c9ba3972390b0d5aeb300b7d519bb25e264"), looks := true }, kinds := [], alts := [], laidByText := true, laidKinds := [.data, .data, .data, .data, .sentinel, .sentinel, .pinned], laidTests := true, laidLooks := .later }
def TraitOneUptoCardSaid : Prop := Claim7.holds Tryz.pinned (.plain (OpenSpec.upto traitOneSpec)) traitOneUptoCard
end Rows
end Go.Proofs.YtldppkdekklpkaaGreatDoor
