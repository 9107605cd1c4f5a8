/-
  DERIVED. GIVEN WITH THE SEED: THE CARDS: each row of YtndkifkaejmibaaGreatDoorRows.lean that lists a variable, with what it lists TIED to the program's text (the seventh form; the later family's looks); each row that meets fmt, with fmt's text TOLD by the authors' own Lean function (tested against real Go, not proved from fmt's source: count such statements apart). THE CARD IS WHAT COUNTS. Prove the row's statement (the work); the ties are given (YtndkifkaejmibaaGreatDoorTie.lean); close each card by the builder's one call (the guide's Derived/Test/ToyasCard.lean, 'card_holds'). Laid BY PROGRAM, IN A SANDBOX (cutbox-door.mjs). By AI agents, Wed Nov 11 2026. No macro, syntax, notation, axiom, sorry.
-/
import Derived.Test.YtndkifkaejmibaaGreatDoorRows
import GoSem.ClaimSeven
namespace Go.Proofs.YtndkifkaejmibaaGreatDoor
namespace Rows

/-- THE TIED CARD OF 'roboticslaw36.ActionserverQueues'. -/
def actionserverQueuesCard : Claim7 := { stood := { row := actionserverQueuesRow, standIns := [], harness := (true, "8fec1d125d22c50d5ea21e743e553b8e06f715c151e27edf4eee4ab7cf091b22"), looks := true }, kinds := [], alts := [], laidByText := true, laidKinds := [.data, .data, .data, .sentinel, .sentinel], laidTests := true, laidLooks := .later }
def ActionserverQueuesCardSaid : Prop := Claim7.holds Tryz.pinned (.plain (OpenSpec.ofChange actionserverQueuesSpec)) actionserverQueuesCard

/-- THE TIED CARD OF 'roboticslaw36.ActionserverPreempts'. -/
def actionserverPreemptsCard : Claim7 := { stood := { row := actionserverPreemptsRow, standIns := [], harness := (true, "8fec1d125d22c50d5ea21e743e553b8e06f715c151e27edf4eee4ab7cf091b22"), looks := true }, kinds := [], alts := [], laidByText := true, laidKinds := [.data, .data, .data, .sentinel, .sentinel], laidTests := true, laidLooks := .later }
def ActionserverPreemptsCardSaid : Prop := Claim7.holds Tryz.pinned (.plain (OpenSpec.ofChange actionserverPreemptsSpec)) actionserverPreemptsCard

/-- THE TIED CARD OF 'roboticslaw36.ActionserverOnce'. -/
def actionserverOnceCard : Claim7 := { stood := { row := actionserverOnceRow, standIns := [], harness := (true, "8fec1d125d22c50d5ea21e743e553b8e06f715c151e27edf4eee4ab7cf091b22"), looks := true }, kinds := [], alts := [], laidByText := true, laidKinds := [.data, .data, .data, .sentinel, .sentinel], laidTests := true, laidLooks := .later }
def ActionserverOnceCardSaid : Prop := Claim7.holds Tryz.pinned (.plain (OpenSpec.ofChange actionserverOnceSpec)) actionserverOnceCard

/-- THE TIED CARD OF 'roboticslaw36.ActionserverPlays'. -/
def actionserverPlaysCard : Claim7 := { stood := { row := actionserverPlaysRow, standIns := [], harness := (true, "8fec1d125d22c50d5ea21e743e553b8e06f715c151e27edf4eee4ab7cf091b22"), looks := true }, kinds := [], alts := [], laidByText := true, laidKinds := [.data, .data, .data, .sentinel, .sentinel], laidTests := true, laidLooks := .later }
def ActionserverPlaysCardSaid : Prop := Claim7.holds Tryz.pinned (.plain (OpenSpec.ofChange actionserverPlaysSpec)) actionserverPlaysCard

/-- THE SECOND FORM's CARD OF 'roboticslaw36.ActionserverQueues'. -/
def actionserverQueuesUptoCard : Claim7 := { stood := { row := actionserverQueuesUptoRow, standIns := [], harness := (true, "8fec1d125d22c50d5ea21e743e553b8e06f715c151e27edf4eee4ab7cf091b22"), looks := true }, kinds := [], alts := [], laidByText := true, laidKinds := [.data, .data, .data, .sentinel, .sentinel], laidTests := true, laidLooks := .later }
def ActionserverQueuesUptoCardSaid : Prop := Claim7.holds Tryz.pinned (.plain (OpenSpec.upto actionserverQueuesSpec)) actionserverQueuesUptoCard

/-- THE SECOND FORM's CARD OF 'roboticslaw36.ActionserverPreempts'. -/
def actionserverPreemptsUptoCard : Claim7 := { stood := { row := actionserverPreemptsUptoRow, standIns := [], harness := (true, "8fec1d125d22c50d5ea21e743e553b8e06f715c151e27edf4eee4ab7cf091b22"), looks := true }, kinds := [], alts := [], laidByText := true, laidKinds := [.data, .data, .data, .sentinel, .sentinel], laidTests := true, laidLooks := .later }
def ActionserverPreemptsUptoCardSaid : Prop := Claim7.holds Tryz.pinned (.plain (OpenSpec.upto actionserverPreemptsSpec)) actionserverPreemptsUptoCard

/-- THE SECOND FORM's CARD OF 'roboticslaw36.ActionserverOnce'. -/
def actionserverOnceUptoCard : Claim7 := { stood := { row := actionserverOnceUptoRow, standIns := [], harness := (true, "8fec1d125d22c50d5ea21e743e553b8e06f715c151e27edf4eee4ab7cf091b22"), looks := true }, kinds := [], alts := [], laidByText := true, laidKinds := [.data, .data, .data, .sentinel, .sentinel], laidTests := true, laidLooks := .later }
def ActionserverOnceUptoCardSaid : Prop := Claim7.holds Tryz.pinned (.plain (OpenSpec.upto actionserverOnceSpec)) actionserverOnceUptoCard

/-- THE SECOND FORM's CARD OF 'roboticslaw36.ActionserverPlays'. -/
def actionserverPlaysUptoCard : Claim7 := { stood := { row := actionserverPlaysUptoRow, standIns := [], harness := (true, "8fec1d125d22c50d5ea21e743e553b8e06f715c151e27edf4eee4ab7cf091b22"), looks := true }, kinds := [], alts := [], laidByText := true, laidKinds := [.data, .data, .data, .sentinel, .sentinel], laidTests := true, laidLooks := .later }
def ActionserverPlaysUptoCardSaid : Prop := Claim7.holds Tryz.pinned (.plain (OpenSpec.upto actionserverPlaysSpec)) actionserverPlaysUptoCard
end Rows
end Go.Proofs.YtndkifkaejmibaaGreatDoor
