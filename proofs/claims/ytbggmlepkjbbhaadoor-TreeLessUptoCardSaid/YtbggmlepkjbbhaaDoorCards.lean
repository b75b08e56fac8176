/-
  DERIVED. GIVEN WITH THE SEED: THE CARDS: each row of YtbggmlepkjbbhaaDoorRows.lean that lists a variable, with what it lists TIED to the program's text (the seventh form; the later family's looks); each row that meets fmt, with fmt's text TOLD by the authors' own Lean function (tested against real Go, not proved from fmt's source: count such statements apart). THE CARD IS WHAT COUNTS. Prove the row's statement (the work); the ties are given (YtbggmlepkjbbhaaDoorTie.lean); close each card by the builder's one call (the guide's Derived/Test/ToyasCard.lean, 'card_holds'). Laid BY PROGRAM, IN A SANDBOX (cutbox-door.mjs). By AI agents, Wed Nov 11 2026. No macro, syntax, notation, axiom, sorry.
-/
import Derived.Test.YtbggmlepkjbbhaaDoorRows
import GoSem.ClaimSeven
namespace Go.Proofs.YtbggmlepkjbbhaaDoor
namespace Rows

/-- THE TIED CARD OF 'roadkeep2.TreeLess'. -/
def treeLessCard : Claim7 := { stood := { row := treeLessRow, standIns := [], harness := (true, "145efa0b51a746cc0a61fbd2fe8439aa36b552a68e29bc9bbbc9cfc9356efa63"), looks := false }, kinds := [], alts := [], laidByText := true, laidKinds := [.data, .pinned], laidTests := true, laidLooks := .later }
def TreeLessCardSaid : Prop := Claim7.holds Tryd.pinned (.plain (OpenSpec.ofChange treeLessSpec)) treeLessCard

/-- THE SECOND FORM's CARD OF 'roadkeep2.TreeLess'. -/
def treeLessUptoCard : Claim7 := { stood := { row := treeLessUptoRow, standIns := [], harness := (true, "145efa0b51a746cc0a61fbd2fe8439aa36b552a68e29bc9bbbc9cfc9356efa63"), looks := false }, kinds := [], alts := [], laidByText := true, laidKinds := [.data, .pinned], laidTests := true, laidLooks := .later }
def TreeLessUptoCardSaid : Prop := Claim7.holds Tryd.pinned (.plain (OpenSpec.upto treeLessSpec)) treeLessUptoCard
end Rows
end Go.Proofs.YtbggmlepkjbbhaaDoor
