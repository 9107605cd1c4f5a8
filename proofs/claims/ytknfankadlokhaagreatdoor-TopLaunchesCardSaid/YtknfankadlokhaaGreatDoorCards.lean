/-
  DERIVED. GIVEN WITH THE SEED: THE CARDS: each row of YtknfankadlokhaaGreatDoorRows.lean that lists a variable, with what it lists TIED to the program's text (the seventh form; the later family's looks); each row that meets fmt, with fmt's text TOLD by the authors' own Lean function (tested against real Go, not proved from fmt's source: count such statements apart). THE CARD IS WHAT COUNTS. Prove the row's statement (the work); the ties are given (YtknfankadlokhaaGreatDoorTie.lean); close each card by the builder's one call (the guide's Derived/Test/ToyasCard.lean, 'card_holds'). Laid BY PROGRAM, IN A SANDBOX (cutbox-door.mjs). By AI agents, Wed Nov 11 2026. No macro, syntax, notation, axiom, sorry.
-/
import Derived.Test.YtknfankadlokhaaGreatDoorRows
import GoSem.ClaimSeven
namespace Go.Proofs.YtknfankadlokhaaGreatDoor
namespace Rows

/-- THE TIED CARD OF 'roboticstop.TopLaunches'. -/
def topLaunchesCard : Claim7 := { stood := { row := topLaunchesRow, standIns := [], harness := (true, "493d3527788b5922e5a10e16f541900b024728f799801ab8d028d80643bdc572"), looks := true }, kinds := [], alts := [], laidByText := true, laidKinds := [.data, .data, .pinned], laidTests := true, laidLooks := .later }
def TopLaunchesCardSaid : Prop := Claim7.holds Tryz.pinned (.plain (OpenSpec.ofChange topLaunchesSpec)) topLaunchesCard

/-- THE TIED CARD OF 'roboticslaw40.LaunchtextParses'. -/
def launchtextParsesCard : Claim7 := { stood := { row := launchtextParsesRow, standIns := [], harness := (true, "493d3527788b5922e5a10e16f541900b024728f799801ab8d028d80643bdc572"), looks := true }, kinds := [], alts := [], laidByText := true, laidKinds := [.data, .pinned], laidTests := true, laidLooks := .later }
def LaunchtextParsesCardSaid : Prop := Claim7.holds Tryz.pinned (.plain (OpenSpec.ofChange launchtextParsesSpec)) launchtextParsesCard

/-- THE TIED CARD OF 'roboticslaw40.LaunchtextSmall'. -/
def launchtextSmallCard : Claim7 := { stood := { row := launchtextSmallRow, standIns := [], harness := (true, "493d3527788b5922e5a10e16f541900b024728f799801ab8d028d80643bdc572"), looks := true }, kinds := [], alts := [], laidByText := true, laidKinds := [.data, .pinned], laidTests := true, laidLooks := .later }
def LaunchtextSmallCardSaid : Prop := Claim7.holds Tryz.pinned (.plain (OpenSpec.ofChange launchtextSmallSpec)) launchtextSmallCard

/-- THE TIED CARD OF 'roboticslaw40.LaunchtextRoundTrip'. -/
def launchtextRoundTripCard : Claim7 := { stood := { row := launchtextRoundTripRow, standIns := [], harness := (true, "493d3527788b5922e5a10e16f541900b024728f799801ab8d028d80643bdc572"), looks := true }, kinds := [], alts := [], laidByText := true, laidKinds := [.data, .pinned], laidTests := true, laidLooks := .later }
def LaunchtextRoundTripCardSaid : Prop := Claim7.holds Tryz.pinned (.plain (OpenSpec.ofChange launchtextRoundTripSpec)) launchtextRoundTripCard

/-- THE SECOND FORM's CARD OF 'roboticstop.TopLaunches'. -/
def topLaunchesUptoCard : Claim7 := { stood := { row := topLaunchesUptoRow, standIns := [], harness := (true, "493d3527788b5922e5a10e16f541900b024728f799801ab8d028d80643bdc572"), looks := true }, kinds := [], alts := [], laidByText := true, laidKinds := [.data, .data, .pinned], laidTests := true, laidLooks := .later }
def TopLaunchesUptoCardSaid : Prop := Claim7.holds Tryz.pinned (.plain (OpenSpec.upto topLaunchesSpec)) topLaunchesUptoCard

/-- THE SECOND FORM's CARD OF 'roboticslaw40.LaunchtextParses'. -/
def launchtextParsesUptoCard : Claim7 := { stood := { row := launchtextParsesUptoRow, standIns := [], harness := (true, "493d3527788b5922e5a10e16f541900b024728f799801ab8d028d80643bdc572"), looks := true }, kinds := [], alts := [], laidByText := true, laidKinds := [.data, .pinned], laidTests := true, laidLooks := .later }
def LaunchtextParsesUptoCardSaid : Prop := Claim7.holds Tryz.pinned (.plain (OpenSpec.upto launchtextParsesSpec)) launchtextParsesUptoCard

/-- THE SECOND FORM's CARD OF 'roboticslaw40.LaunchtextSmall'. -/
def launchtextSmallUptoCard : Claim7 := { stood := { row := launchtextSmallUptoRow, standIns := [], harness := (true, "493d3527788b5922e5a10e16f541900b024728f799801ab8d028d80643bdc572"), looks := true }, kinds := [], alts := [], laidByText := true, laidKinds := [.data, .pinned], laidTests := true, laidLooks := .later }
def LaunchtextSmallUptoCardSaid : Prop := Claim7.holds Tryz.pinned (.plain (OpenSpec.upto launchtextSmallSpec)) launchtextSmallUptoCard

/-- THE SECOND FORM's CARD OF 'roboticslaw40.LaunchtextRoundTrip'. -/
def launchtextRoundTripUptoCard : Claim7 := { stood := { row := launchtextRoundTripUptoRow, standIns := [], harness := (true, "493d3527788b5922e5a10e16f541900b024728f799801ab8d028d80643bdc572"), looks := true }, kinds := [], alts := [], laidByText := true, laidKinds := [.data, .pinned], laidTests := true, laidLooks := .later }
def LaunchtextRoundTripUptoCardSaid : Prop := Claim7.holds Tryz.pinned (.plain (OpenSpec.upto launchtextRoundTripSpec)) launchtextRoundTripUptoCard
end Rows
end Go.Proofs.YtknfankadlokhaaGreatDoor
