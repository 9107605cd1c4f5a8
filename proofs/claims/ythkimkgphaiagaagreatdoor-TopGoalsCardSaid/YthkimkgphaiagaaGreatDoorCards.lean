/-
  DERIVED. GIVEN WITH THE SEED: THE CARDS: each row of YthkimkgphaiagaaGreatDoorRows.lean that lists a variable, with what it lists TIED to the program's text (the seventh form; the later family's looks); each row that meets fmt, with fmt's text TOLD by the authors' own Lean function (tested against real Go, not proved from fmt's source: count such statements apart). THE CARD IS WHAT COUNTS. Prove the row's statement (the work); the ties are given (YthkimkgphaiagaaGreatDoorTie.lean); close each card by the builder's one call (the guide's Derived/Test/ToyasCard.lean, 'card_holds'). Laid BY PROGRAM, IN A SANDBOX (cutbox-door.mjs). By AI agents, Wed Nov 11 2026. No macro, syntax, notation, axiom, sorry.
-/
import Derived.Test.YthkimkgphaiagaaGreatDoorRows
import GoSem.ClaimSeven
namespace Go.Proofs.YthkimkgphaiagaaGreatDoor
namespace Rows

/-- THE TIED CARD OF 'roboticstop.TopGoals'. -/
def topGoalsCard : Claim7 := { stood := { row := topGoalsRow, standIns := [], harness := (true, "b593c736dde425d74fcf4d223868a16dadede352f87f8240d91d7083f692e349"), looks := true }, kinds := [], alts := [], laidByText := true, laidKinds := [.data, .data, .data, .sentinel, .sentinel], laidTests := true, laidLooks := .later }
def TopGoalsCardSaid : Prop := Claim7.holds Tryz.pinned (.plain (OpenSpec.ofChange topGoalsSpec)) topGoalsCard

/-- THE TIED CARD OF 'roboticslaw37.ActionclientJoins'. -/
def actionclientJoinsCard : Claim7 := { stood := { row := actionclientJoinsRow, standIns := [], harness := (true, "b593c736dde425d74fcf4d223868a16dadede352f87f8240d91d7083f692e349"), looks := true }, kinds := [], alts := [], laidByText := true, laidKinds := [.data, .data, .data, .sentinel, .sentinel], laidTests := true, laidLooks := .later }
def ActionclientJoinsCardSaid : Prop := Claim7.holds Tryz.pinned (.plain (OpenSpec.ofChange actionclientJoinsSpec)) actionclientJoinsCard

/-- THE SECOND FORM's CARD OF 'roboticstop.TopGoals'. -/
def topGoalsUptoCard : Claim7 := { stood := { row := topGoalsUptoRow, standIns := [], harness := (true, "b593c736dde425d74fcf4d223868a16dadede352f87f8240d91d7083f692e349"), looks := true }, kinds := [], alts := [], laidByText := true, laidKinds := [.data, .data, .data, .sentinel, .sentinel], laidTests := true, laidLooks := .later }
def TopGoalsUptoCardSaid : Prop := Claim7.holds Tryz.pinned (.plain (OpenSpec.upto topGoalsSpec)) topGoalsUptoCard

/-- THE SECOND FORM's CARD OF 'roboticslaw37.ActionclientJoins'. -/
def actionclientJoinsUptoCard : Claim7 := { stood := { row := actionclientJoinsUptoRow, standIns := [], harness := (true, "b593c736dde425d74fcf4d223868a16dadede352f87f8240d91d7083f692e349"), looks := true }, kinds := [], alts := [], laidByText := true, laidKinds := [.data, .data, .data, .sentinel, .sentinel], laidTests := true, laidLooks := .later }
def ActionclientJoinsUptoCardSaid : Prop := Claim7.holds Tryz.pinned (.plain (OpenSpec.upto actionclientJoinsSpec)) actionclientJoinsUptoCard
end Rows
end Go.Proofs.YthkimkgphaiagaaGreatDoor
