/-
  DERIVED. GIVEN WITH THE SEED: THE CARDS: each row of YtdmopjgjhfhfdaaGreatDoorRows.lean that lists a variable, with what it lists TIED to the program's text (the seventh form; the later family's looks); each row that meets fmt, with fmt's text TOLD by the authors' own Lean function (tested against real Go, not proved from fmt's source: count such statements apart). THE CARD IS WHAT COUNTS. Prove the row's statement (the work); the ties are given (YtdmopjgjhfhfdaaGreatDoorTie.lean); close each card by the builder's one call (the guide's Derived/Test/ToyasCard.lean, 'card_holds'). Laid BY PROGRAM, IN A SANDBOX (cutbox-door.mjs). By AI agents, Wed Nov 11 2026. No macro, syntax, notation, axiom, sorry.
-/
import Derived.Test.YtdmopjgjhfhfdaaGreatDoorRows
import GoSem.ClaimSeven
namespace Go.Proofs.YtdmopjgjhfhfdaaGreatDoor
namespace Rows

/-- THE TIED CARD OF 'roadkeep2.MeanCells'. -/
def meanCellsCard : Claim7 := { stood := { row := meanCellsRow, standIns := [], harness := (true, "c6553a72f36ea5ba03975062c1e7cd9e81c3c34acefa4bd018448155dca84d09"), looks := true }, kinds := [], alts := [], laidByText := true, laidKinds := [.data, .data, .data, .data, .sentinel, .sentinel, .pinned], laidTests := true, laidLooks := .later }
def MeanCellsCardSaid : Prop := Claim7.holds Tryz.pinned (.plain (OpenSpec.ofChange meanCellsSpec)) meanCellsCard

/-- THE TIED CARD OF 'roadkeep2.MeanOrder'. -/
def meanOrderCard : Claim7 := { stood := { row := meanOrderRow, standIns := [], harness := (true, "c6553a72f36ea5ba03975062c1e7cd9e81c3c34acefa4bd018448155dca84d09"), looks := true }, kinds := [], alts := [], laidByText := true, laidKinds := [.data, .data, .data, .data, .sentinel, .sentinel, .pinned], laidTests := true, laidLooks := .later }
def MeanOrderCardSaid : Prop := Claim7.holds Tryz.pinned (.plain (OpenSpec.ofChange meanOrderSpec)) meanOrderCard

/-- THE TIED CARD OF 'roadkeep2.MeanDeep'. -/
def meanDeepCard : Claim7 := { stood := { row := meanDeepRow, standIns := [], harness := (true, "c6553a72f36ea5ba03975062c1e7cd9e81c3c34acefa4bd018448155dca84d09"), looks := true }, kinds := [], alts := [], laidByText := true, laidKinds := [.data, .data, .data, .data, .sentinel, .sentinel, .pinned], laidTests := true, laidLooks := .later }
def MeanDeepCardSaid : Prop := Claim7.holds Tryz.pinned (.plain (OpenSpec.ofChange meanDeepSpec)) meanDeepCard

/-- THE TIED CARD OF 'roadkeep2.MeanTraits'. -/
def meanTraitsCard : Claim7 := { stood := { row := meanTraitsRow, standIns := [], harness := (true, "c6553a72f36ea5ba03975062c1e7cd9e81c3c34acefa4bd018448155dca84d09"), looks := true }, kinds := [], alts := [], laidByText := true, laidKinds := [.data, .data, .data, .data, .sentinel, .sentinel, .pinned], laidTests := true, laidLooks := .later }
def MeanTraitsCardSaid : Prop := Claim7.holds Tryz.pinned (.plain (OpenSpec.ofChange meanTraitsSpec)) meanTraitsCard

/-- THE TIED CARD OF 'roadkeep2.MeanFuel'. -/
def meanFuelCard : Claim7 := { stood := { row := meanFuelRow, standIns := [], harness := (true, "c6553a72f36ea5ba03975062c1e7cd9e81c3c34acefa4bd018448155dca84d09"), looks := true }, kinds := [], alts := [], laidByText := true, laidKinds := [.data, .data, .data, .data, .sentinel, .sentinel, .pinned], laidTests := true, laidLooks := .later }
def MeanFuelCardSaid : Prop := Claim7.holds Tryz.pinned (.plain (OpenSpec.ofChange meanFuelSpec)) meanFuelCard

/-- THE TIED CARD OF 'roadkeep2.MeanGone'. -/
def meanGoneCard : Claim7 := { stood := { row := meanGoneRow, standIns := [], harness := (true, "c6553a72f36ea5ba03975062c1e7cd9e81c3c34acefa4bd018448155dca84d09"), looks := true }, kinds := [], alts := [], laidByText := true, laidKinds := [.data, .data, .data, .data, .sentinel, .sentinel, .pinned], laidTests := true, laidLooks := .later }
def MeanGoneCardSaid : Prop := Claim7.holds Tryz.pinned (.plain (OpenSpec.ofChange meanGoneSpec)) meanGoneCard

/-- THE TIED CARD OF 'roadkeep2.MeanSame'. -/
def meanSameCard : Claim7 := { stood := { row := meanSameRow, standIns := [], harness := (true, "c6553a72f36ea5ba03975062c1e7cd9e81c3c34acefa4bd018448155dca84d09"), looks := true }, kinds := [], alts := [], laidByText := true, laidKinds := [.data, .data, .data, .data, .sentinel, .sentinel, .pinned], laidTests := true, laidLooks := .later }
def MeanSameCardSaid : Prop := Claim7.holds Tryz.pinned (.plain (OpenSpec.ofChange meanSameSpec)) meanSameCard

/-- THE TIED CARD OF 'roadkeep2.MeanTop'. -/
def meanTopCard : Claim7 := { stood := { row := meanTopRow, standIns := [], harness := (true, "c6553a72f36ea5ba03975062c1e7cd9e81c3c34acefa4bd018448155dca84d09"), looks := true }, kinds := [], alts := [], laidByText := true, laidKinds := [.data, .data, .data, .data, .sentinel, .sentinel, .pinned], laidTests := true, laidLooks := .later }
def MeanTopCardSaid : Prop := Claim7.holds Tryz.pinned (.plain (OpenSpec.ofChange meanTopSpec)) meanTopCard

/-- THE SECOND FORM's CARD OF 'roadkeep2.MeanCells'. -/
def meanCellsUptoCard : Claim7 := { stood := { row := meanCellsUptoRow, standIns := [], harness := (true, "c6553a72f36ea5ba03975062c1e7cd9e81c3c34acefa4bd018448155dca84d09"), looks := true }, kinds := [], alts := [], laidByText := true, laidKinds := [.data, .data, .data, .data, .sentinel, .sentinel, .pinned], laidTests := true, laidLooks := .later }
def MeanCellsUptoCardSaid : Prop := Claim7.holds Tryz.pinned (.plain (OpenSpec.upto meanCellsSpec)) meanCellsUptoCard

/-- THE SECOND FORM's CARD OF 'roadkeep2.MeanOrder'. -/
def meanOrderUptoCard : Claim7 := { stood := { row := meanOrderUptoRow, standIns := [], harness := (true, "c6553a72f36ea5ba03975062c1e7cd9e81c3c34acefa4bd018448155dca84d09"), looks := true }, kinds := [], alts := [], laidByText := true, laidKinds := [.data, .data, .data, .data, .sentinel, .sentinel, .pinned], laidTests := true, laidLooks := .later }
def MeanOrderUptoCardSaid : Prop := Claim7.holds Tryz.pinned (.plain (OpenSpec.upto meanOrderSpec)) meanOrderUptoCard

/-- THE SECOND FORM's CARD OF 'roadkeep2.MeanDeep'. -/
def meanDeepUptoCard : Claim7 := { stood := { row := meanDeepUptoRow, standIns := [], harness := (true, "c6553a72f36ea5ba03975062c1e7cd9e81c3c34acefa4bd018448155dca84d09"), looks := true }, kinds := [], alts := [], laidByText := true, laidKinds := [.data, .data, .data, .data, .sentinel, .sentinel, .pinned], laidTests := true, laidLooks := .later }
def MeanDeepUptoCardSaid : Prop := Claim7.holds Tryz.pinned (.plain (OpenSpec.upto meanDeepSpec)) meanDeepUptoCard

/-- THE SECOND FORM's CARD OF 'roadkeep2.MeanTraits'. -/
def meanTraitsUptoCard : Claim7 := { stood := { row := meanTraitsUptoRow, standIns := [], harness := (true, "c6553a72f36ea5ba03975062c1e7cd9e81c3c34acefa4bd018448155dca84d09"), looks := true }, kinds := [], alts := [], laidByText := true, laidKinds := [.data, .data, .data, .data, .sentinel, .sentinel, .pinned], laidTests := true, laidLooks := .later }
def MeanTraitsUptoCardSaid : Prop := Claim7.holds Tryz.pinned (.plain (OpenSpec.upto meanTraitsSpec)) meanTraitsUptoCard

/-- THE SECOND FORM's CARD OF 'roadkeep2.MeanFuel'. -/
def meanFuelUptoCard : Claim7 := { stood := { row := meanFuelUptoRow, standIns := [], harness := (true, "c6553a72f36ea5ba03975062c1e7cd9e81c3c34acefa4bd018448155dca84d09"), looks := true }, kinds := [], alts := [], laidByText := true, laidKinds := [.data, .data, .data, .data, .sentinel, .sentinel, .pinned], laidTests := true, laidLooks := .later }
def MeanFuelUptoCardSaid : Prop := Claim7.holds Tryz.pinned (.plain (OpenSpec.upto meanFuelSpec)) meanFuelUptoCard

/-- THE SECOND FORM's CARD OF 'roadkeep2.MeanGone'. -/
def meanGoneUptoCard : Claim7 := { stood := { row := meanGoneUptoRow, standIns := [], harness := (true, "c6553a72f36ea5ba03975062c1e7cd9e81c3c34acefa4bd018448155dca84d09"), looks := true }, kinds := [], alts := [], laidByText := true, laidKinds := [.data, .data, .data, .data, .sentinel, .sentinel, .pinned], laidTests := true, laidLooks := .later }
def MeanGoneUptoCardSaid : Prop := Claim7.holds Tryz.pinned (.plain (OpenSpec.upto meanGoneSpec)) meanGoneUptoCard

/-- THE SECOND FORM's CARD OF 'roadkeep2.MeanSame'. -/
def meanSameUptoCard : Claim7 := { stood := { row := meanSameUptoRow, standIns := [], harness := (true, "c6553a72f36ea5ba03975062c1e7cd9e81c3c34acefa4bd018448155dca84d09"), looks := true }, kinds := [], alts := [], laidByText := true, laidKinds := [.data, .data, .data, .data, .sentinel, .sentinel, .pinned], laidTests := true, laidLooks := .later }
def MeanSameUptoCardSaid : Prop := Claim7.holds Tryz.pinned (.plain (OpenSpec.upto meanSameSpec)) meanSameUptoCard

/-- THE SECOND FORM's CARD OF 'roadkeep2.MeanTop'. -/
def meanTopUptoCard : Claim7 := { stood := { row := meanTopUptoRow, standIns := [], harness := (true, "c6553a72f36ea5ba03975062c1e7cd9e81c3c34acefa4bd018448155dca84d09"), looks := true }, kinds := [], alts := [], laidByText := true, laidKinds := [.data, .data, .data, .data, .sentinel, .sentinel, .pinned], laidTests := true, laidLooks := .later }
def MeanTopUptoCardSaid : Prop := Claim7.holds Tryz.pinned (.plain (OpenSpec.upto meanTopSpec)) meanTopUptoCard
end Rows
end Go.Proofs.YtdmopjgjhfhfdaaGreatDoor
