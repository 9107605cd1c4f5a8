/-
  DERIVED. GIVEN WITH THE SEED: THE CARDS: each row of YtknfankadlokhaaDoorRows.lean that lists a variable, with what it lists TIED to the program's text (the seventh form; the later family's looks); each row that meets fmt, with fmt's text TOLD by the authors' own Lean function (tested against real Go, not proved from fmt's source: count such statements apart). THE CARD IS WHAT COUNTS. Prove the row's statement (the work); the ties are given (YtknfankadlokhaaDoorTie.lean); close each card by the builder's one call (the guide's Derived/Test/ToyasCard.lean, 'card_holds'). Laid BY PROGRAM, IN A SANDBOX (cutbox-door.mjs). By AI agents, Wed Nov 11 2026. No macro, syntax, notation, axiom, sorry.
-/
import Derived.Test.YtknfankadlokhaaDoorRows
import GoSem.ClaimSeven
namespace Go.Proofs.YtknfankadlokhaaDoor
namespace Rows

/-- THE TIED CARD OF 'roboticslaw40.LaunchtextConditions'. -/
def launchtextConditionsCard : Claim7 := { stood := { row := launchtextConditionsRow, standIns := [], harness := (true, "454e5c2c5ccc3cca44fa4455dd6044e2ffdc1c30fbb8d9ca5a62db181ebb4939"), looks := true }, kinds := [], alts := [], laidByText := true, laidKinds := [.data, .pinned], laidTests := true, laidLooks := .later }
def LaunchtextConditionsCardSaid : Prop := Claim7.holds Tryd.pinned (.plain (OpenSpec.ofChange launchtextConditionsSpec)) launchtextConditionsCard

/-- THE SECOND FORM's CARD OF 'roboticslaw40.LaunchtextConditions'. -/
def launchtextConditionsUptoCard : Claim7 := { stood := { row := launchtextConditionsUptoRow, standIns := [], harness := (true, "454e5c2c5ccc3cca44fa4455dd6044e2ffdc1c30fbb8d9ca5a62db181ebb4939"), looks := true }, kinds := [], alts := [], laidByText := true, laidKinds := [.data, .pinned], laidTests := true, laidLooks := .later }
def LaunchtextConditionsUptoCardSaid : Prop := Claim7.holds Tryd.pinned (.plain (OpenSpec.upto launchtextConditionsSpec)) launchtextConditionsUptoCard
end Rows
end Go.Proofs.YtknfankadlokhaaDoor
