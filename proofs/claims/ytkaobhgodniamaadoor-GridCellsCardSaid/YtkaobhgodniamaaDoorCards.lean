/-
  DERIVED. GIVEN WITH THE SEED: THE CARDS: each row of YtkaobhgodniamaaDoorRows.lean that lists a variable, with what it lists TIED to the program's text (the seventh form; the later family's looks); each row that meets fmt, with fmt's text TOLD by the authors' own Lean function (tested against real Go, not proved from fmt's source: count such statements apart). THE CARD IS WHAT COUNTS. Prove the row's statement (the work); the ties are given (YtkaobhgodniamaaDoorTie.lean); close each card by the builder's one call (the guide's Derived/Test/ToyasCard.lean, 'card_holds'). Laid BY PROGRAM, IN A SANDBOX (cutbox-door.mjs). By AI agents, Wed Nov 11 2026. No macro, syntax, notation, axiom, sorry.
-/
import Derived.Test.YtkaobhgodniamaaDoorRows
import GoSem.ClaimSeven
namespace Go.Proofs.YtkaobhgodniamaaDoor
namespace Rows

/-- THE TIED CARD OF 'roboticslaw43.GridRoundTrip'. -/
def gridRoundTripCard : Claim7 := { stood := { row := gridRoundTripRow, standIns := [], harness := (true, "f120b4a476bd6537c244655d5826bc0bae34d2e15e3e73a0d8f76cf09fa71866"), looks := false }, kinds := [], alts := [], laidByText := true, laidKinds := [.data, .data, .pinned], laidTests := true, laidLooks := .later }
def GridRoundTripCardSaid : Prop := Claim7.holds Tryd.pinned (.plain (OpenSpec.ofChange gridRoundTripSpec)) gridRoundTripCard

/-- THE TIED CARD OF 'roboticslaw43.GridParses'. -/
def gridParsesCard : Claim7 := { stood := { row := gridParsesRow, standIns := [], harness := (true, "f120b4a476bd6537c244655d5826bc0bae34d2e15e3e73a0d8f76cf09fa71866"), looks := false }, kinds := [], alts := [], laidByText := true, laidKinds := [.data, .data, .pinned], laidTests := true, laidLooks := .later }
def GridParsesCardSaid : Prop := Claim7.holds Tryd.pinned (.plain (OpenSpec.ofChange gridParsesSpec)) gridParsesCard

/-- THE TIED CARD OF 'roboticslaw43.GridCells'. -/
def gridCellsCard : Claim7 := { stood := { row := gridCellsRow, standIns := [], harness := (true, "f120b4a476bd6537c244655d5826bc0bae34d2e15e3e73a0d8f76cf09fa71866"), looks := false }, kinds := [], alts := [], laidByText := true, laidKinds := [.data, .data, .pinned], laidTests := true, laidLooks := .later }
def GridCellsCardSaid : Prop := Claim7.holds Tryd.pinned (.plain (OpenSpec.ofChange gridCellsSpec)) gridCellsCard

/-- THE TIED CARD OF 'roboticslaw43.GridSteps'. -/
def gridStepsCard : Claim7 := { stood := { row := gridStepsRow, standIns := [], harness := (true, "f120b4a476bd6537c244655d5826bc0bae34d2e15e3e73a0d8f76cf09fa71866"), looks := false }, kinds := [], alts := [], laidByText := true, laidKinds := [.data, .data, .pinned], laidTests := true, laidLooks := .later }
def GridStepsCardSaid : Prop := Claim7.holds Tryd.pinned (.plain (OpenSpec.ofChange gridStepsSpec)) gridStepsCard

/-- THE TIED CARD OF 'roboticslaw43.GridPositions'. -/
def gridPositionsCard : Claim7 := { stood := { row := gridPositionsRow, standIns := [], harness := (true, "f120b4a476bd6537c244655d5826bc0bae34d2e15e3e73a0d8f76cf09fa71866"), looks := false }, kinds := [], alts := [], laidByText := true, laidKinds := [.data, .data, .pinned], laidTests := true, laidLooks := .later }
def GridPositionsCardSaid : Prop := Claim7.holds Tryd.pinned (.plain (OpenSpec.ofChange gridPositionsSpec)) gridPositionsCard

/-- THE SECOND FORM's CARD OF 'roboticslaw43.GridRoundTrip'. -/
def gridRoundTripUptoCard : Claim7 := { stood := { row := gridRoundTripUptoRow, standIns := [], harness := (true, "f120b4a476bd6537c244655d5826bc0bae34d2e15e3e73a0d8f76cf09fa71866"), looks := false }, kinds := [], alts := [], laidByText := true, laidKinds := [.data, .data, .pinned], laidTests := true, laidLooks := .later }
def GridRoundTripUptoCardSaid : Prop := Claim7.holds Tryd.pinned (.plain (OpenSpec.upto gridRoundTripSpec)) gridRoundTripUptoCard

/-- THE SECOND FORM's CARD OF 'roboticslaw43.GridParses'. -/
def gridParsesUptoCard : Claim7 := { stood := { row := gridParsesUptoRow, standIns := [], harness := (true, "f120b4a476bd6537c244655d5826bc0bae34d2e15e3e73a0d8f76cf09fa71866"), looks := false }, kinds := [], alts := [], laidByText := true, laidKinds := [.data, .data, .pinned], laidTests := true, laidLooks := .later }
def GridParsesUptoCardSaid : Prop := Claim7.holds Tryd.pinned (.plain (OpenSpec.upto gridParsesSpec)) gridParsesUptoCard

/-- THE SECOND FORM's CARD OF 'roboticslaw43.GridCells'. -/
def gridCellsUptoCard : Claim7 := { stood := { row := gridCellsUptoRow, standIns := [], harness := (true, "f120b4a476bd6537c244655d5826bc0bae34d2e15e3e73a0d8f76cf09fa71866"), looks := false }, kinds := [], alts := [], laidByText := true, laidKinds := [.data, .data, .pinned], laidTests := true, laidLooks := .later }
def GridCellsUptoCardSaid : Prop := Claim7.holds Tryd.pinned (.plain (OpenSpec.upto gridCellsSpec)) gridCellsUptoCard

/-- THE SECOND FORM's CARD OF 'roboticslaw43.GridSteps'. -/
def gridStepsUptoCard : Claim7 := { stood := { row := gridStepsUptoRow, standIns := [], harness := (true, "f120b4a476bd6537c244655d5826bc0bae34d2e15e3e73a0d8f76cf09fa71866"), looks := false }, kinds := [], alts := [], laidByText := true, laidKinds := [.data, .data, .pinned], laidTests := true, laidLooks := .later }
def GridStepsUptoCardSaid : Prop := Claim7.holds Tryd.pinned (.plain (OpenSpec.upto gridStepsSpec)) gridStepsUptoCard

/-- THE SECOND FORM's CARD OF 'roboticslaw43.GridPositions'. -/
def gridPositionsUptoCard : Claim7 := { stood := { row := gridPositionsUptoRow, standIns := [], harness := (true, "f120b4a476bd6537c244655d5826bc0bae34d2e15e3e73a0d8f76cf09fa71866"), looks := false }, kinds := [], alts := [], laidByText := true, laidKinds := [.data, .data, .pinned], laidTests := true, laidLooks := .later }
def GridPositionsUptoCardSaid : Prop := Claim7.holds Tryd.pinned (.plain (OpenSpec.upto gridPositionsSpec)) gridPositionsUptoCard
end Rows
end Go.Proofs.YtkaobhgodniamaaDoor
