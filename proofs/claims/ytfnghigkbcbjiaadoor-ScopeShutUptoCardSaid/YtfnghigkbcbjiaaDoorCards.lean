/-
  DERIVED. GIVEN WITH THE SEED: THE CARDS: each row of YtfnghigkbcbjiaaDoorRows.lean that lists a variable, with what it lists TIED to the program's text (the seventh form; the later family's looks); each row that meets fmt, with fmt's text TOLD by the authors' own Lean function (tested against real Go, not proved from fmt's source: count such statements apart). THE CARD IS WHAT COUNTS. Prove the row's statement (the work); the ties are given (YtfnghigkbcbjiaaDoorTie.lean); close each card by the builder's one call (the guide's Derived/Test/ToyasCard.lean, 'card_holds'). Laid BY PROGRAM, IN A SANDBOX (cutbox-door.mjs). By AI agents, Wed Nov 11 2026. No macro, syntax, notation, axiom, sorry.
-/
import Derived.Test.YtfnghigkbcbjiaaDoorRows
import GoSem.ClaimSeven
namespace Go.Proofs.YtfnghigkbcbjiaaDoor
namespace Rows

/-- THE TIED CARD OF 'roadkeep2.CapableOnce'. -/
def capableOnceCard : Claim7 := { stood := { row := capableOnceRow, standIns := [], harness := (true, "0d1286552b6d94211f2673a1b42a0fb895eafd266736eea368c1c6b74f1156db"), looks := false }, kinds := [], alts := [], laidByText := true, laidKinds := [.data, .data, .data, .data, .listed, .data, .pinned], laidTests := true, laidLooks := .later }
def CapableOnceCardSaid : Prop := Claim7.holds Tryd.pinned (.plain (OpenSpec.ofChange capableOnceSpec)) capableOnceCard

/-- THE TIED CARD OF 'roadkeep2.ScopeShut'. -/
def scopeShutCard : Claim7 := { stood := { row := scopeShutRow, standIns := [], harness := (true, "0d1286552b6d94211f2673a1b42a0fb895eafd266736eea368c1c6b74f1156db"), looks := false }, kinds := [], alts := [], laidByText := true, laidKinds := [.data, .data, .data, .data, .listed, .data, .pinned], laidTests := true, laidLooks := .later }
def ScopeShutCardSaid : Prop := Claim7.holds Tryd.pinned (.plain (OpenSpec.ofChange scopeShutSpec)) scopeShutCard

/-- THE SECOND FORM's CARD OF 'roadkeep2.CapableOnce'. -/
def capableOnceUptoCard : Claim7 := { stood := { row := capableOnceUptoRow, standIns := [], harness := (true, "0d1286552b6d94211f2673a1b42a0fb895eafd266736eea368c1c6b74f1156db"), looks := false }, kinds := [], alts := [], laidByText := true, laidKinds := [.data, .data, .data, .data, .listed, .data, .pinned], laidTests := true, laidLooks := .later }
def CapableOnceUptoCardSaid : Prop := Claim7.holds Tryd.pinned (.plain (OpenSpec.upto capableOnceSpec)) capableOnceUptoCard

/-- THE SECOND FORM's CARD OF 'roadkeep2.ScopeShut'. -/
def scopeShutUptoCard : Claim7 := { stood := { row := scopeShutUptoRow, standIns := [], harness := (true, "0d1286552b6d94211f2673a1b42a0fb895eafd266736eea368c1c6b74f1156db"), looks := false }, kinds := [], alts := [], laidByText := true, laidKinds := [.data, .data, .data, .data, .listed, .data, .pinned], laidTests := true, laidLooks := .later }
def ScopeShutUptoCardSaid : Prop := Claim7.holds Tryd.pinned (.plain (OpenSpec.upto scopeShutSpec)) scopeShutUptoCard
end Rows
end Go.Proofs.YtfnghigkbcbjiaaDoor
