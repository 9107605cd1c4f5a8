/-
  DERIVED. GIVEN WITH THE SEED: THE CARDS: each row of YtbajljfkbppocaaDoorRows.lean that lists a variable, with what it lists TIED to the program's text (the seventh form; the later family's looks); each row that meets fmt, with fmt's text TOLD by the authors' own Lean function (tested against real Go, not proved from fmt's source: count such statements apart). THE CARD IS WHAT COUNTS. Prove the row's statement (the work); the ties are given (YtbajljfkbppocaaDoorTie.lean); close each card by the builder's one call (the guide's Derived/Test/ToyasCard.lean, 'card_holds'). Laid BY PROGRAM, IN A SANDBOX (cutbox-door.mjs). By AI agents, Wed Nov 11 2026. No macro, syntax, notation, axiom, sorry.
-/
import Derived.Test.YtbajljfkbppocaaDoorRows
import GoSem.ClaimSeven
namespace Go.Proofs.YtbajljfkbppocaaDoor
namespace Rows

/-- THE TIED CARD OF 'roboticslaw33.GoalEncodes'. -/
def goalEncodesCard : Claim7 := { stood := { row := goalEncodesRow, standIns := [], harness := (true, "1ce9e275d43f1f4f66a787f8c311ebd36d02e5f84b1182bc830fbae3741bdbdb"), looks := true }, kinds := [], alts := [], laidByText := true, laidKinds := [.data, .data, .data, .sentinel, .sentinel], laidTests := true, laidLooks := .later }
def GoalEncodesCardSaid : Prop := Claim7.holds Tryd.pinned (.plain (OpenSpec.ofChange goalEncodesSpec)) goalEncodesCard

/-- THE TIED CARD OF 'roboticslaw33.GoalDecodes'. -/
def goalDecodesCard : Claim7 := { stood := { row := goalDecodesRow, standIns := [], harness := (true, "1ce9e275d43f1f4f66a787f8c311ebd36d02e5f84b1182bc830fbae3741bdbdb"), looks := true }, kinds := [], alts := [], laidByText := true, laidKinds := [.data, .data, .data, .sentinel, .sentinel], laidTests := true, laidLooks := .later }
def GoalDecodesCardSaid : Prop := Claim7.holds Tryd.pinned (.plain (OpenSpec.ofChange goalDecodesSpec)) goalDecodesCard

/-- THE TIED CARD OF 'roboticslaw33.GoalOrders'. -/
def goalOrdersCard : Claim7 := { stood := { row := goalOrdersRow, standIns := [], harness := (true, "1ce9e275d43f1f4f66a787f8c311ebd36d02e5f84b1182bc830fbae3741bdbdb"), looks := true }, kinds := [], alts := [], laidByText := true, laidKinds := [.data, .data, .data, .sentinel, .sentinel], laidTests := true, laidLooks := .later }
def GoalOrdersCardSaid : Prop := Claim7.holds Tryd.pinned (.plain (OpenSpec.ofChange goalOrdersSpec)) goalOrdersCard

/-- THE TIED CARD OF 'roboticslaw33.GoalTerminal'. -/
def goalTerminalCard : Claim7 := { stood := { row := goalTerminalRow, standIns := [], harness := (true, "1ce9e275d43f1f4f66a787f8c311ebd36d02e5f84b1182bc830fbae3741bdbdb"), looks := true }, kinds := [], alts := [], laidByText := true, laidKinds := [.data, .data, .data, .sentinel, .sentinel], laidTests := true, laidLooks := .later }
def GoalTerminalCardSaid : Prop := Claim7.holds Tryd.pinned (.plain (OpenSpec.ofChange goalTerminalSpec)) goalTerminalCard

/-- THE TIED CARD OF 'roboticslaw33.GoalSteps'. -/
def goalStepsCard : Claim7 := { stood := { row := goalStepsRow, standIns := [], harness := (true, "1ce9e275d43f1f4f66a787f8c311ebd36d02e5f84b1182bc830fbae3741bdbdb"), looks := true }, kinds := [], alts := [], laidByText := true, laidKinds := [.data, .data, .data, .sentinel, .sentinel], laidTests := true, laidLooks := .later }
def GoalStepsCardSaid : Prop := Claim7.holds Tryd.pinned (.plain (OpenSpec.ofChange goalStepsSpec)) goalStepsCard

/-- THE TIED CARD OF 'roboticslaw33.GoalHistories'. -/
def goalHistoriesCard : Claim7 := { stood := { row := goalHistoriesRow, standIns := [], harness := (true, "1ce9e275d43f1f4f66a787f8c311ebd36d02e5f84b1182bc830fbae3741bdbdb"), looks := true }, kinds := [], alts := [], laidByText := true, laidKinds := [.data, .data, .data, .sentinel, .sentinel], laidTests := true, laidLooks := .later }
def GoalHistoriesCardSaid : Prop := Claim7.holds Tryd.pinned (.plain (OpenSpec.ofChange goalHistoriesSpec)) goalHistoriesCard

/-- THE SECOND FORM's CARD OF 'roboticslaw33.GoalEncodes'. -/
def goalEncodesUptoCard : Claim7 := { stood := { row := goalEncodesUptoRow, standIns := [], harness := (true, "1ce9e275d43f1f4f66a787f8c311ebd36d02e5f84b1182bc830fbae3741bdbdb"), looks := true }, kinds := [], alts := [], laidByText := true, laidKinds := [.data, .data, .data, .sentinel, .sentinel], laidTests := true, laidLooks := .later }
def GoalEncodesUptoCardSaid : Prop := Claim7.holds Tryd.pinned (.plain (OpenSpec.upto goalEncodesSpec)) goalEncodesUptoCard

/-- THE SECOND FORM's CARD OF 'roboticslaw33.GoalDecodes'. -/
def goalDecodesUptoCard : Claim7 := { stood := { row := goalDecodesUptoRow, standIns := [], harness := (true, "1ce9e275d43f1f4f66a787f8c311ebd36d02e5f84b1182bc830fbae3741bdbdb"), looks := true }, kinds := [], alts := [], laidByText := true, laidKinds := [.data, .data, .data, .sentinel, .sentinel], laidTests := true, laidLooks := .later }
def GoalDecodesUptoCardSaid : Prop := Claim7.holds Tryd.pinned (.plain (OpenSpec.upto goalDecodesSpec)) goalDecodesUptoCard

/-- THE SECOND FORM's CARD OF 'roboticslaw33.GoalOrders'. -/
def goalOrdersUptoCard : Claim7 := { stood := { row := goalOrdersUptoRow, standIns := [], harness := (true, "1ce9e275d43f1f4f66a787f8c311ebd36d02e5f84b1182bc830fbae3741bdbdb"), looks := true }, kinds := [], alts := [], laidByText := true, laidKinds := [.data, .data, .data, .sentinel, .sentinel], laidTests := true, laidLooks := .later }
def GoalOrdersUptoCardSaid : Prop := Claim7.holds Tryd.pinned (.plain (OpenSpec.upto goalOrdersSpec)) goalOrdersUptoCard

/-- THE SECOND FORM's CARD OF 'roboticslaw33.GoalTerminal'. -/
def goalTerminalUptoCard : Claim7 := { stood := { row := goalTerminalUptoRow, standIns := [], harness := (true, "1ce9e275d43f1f4f66a787f8c311ebd36d02e5f84b1182bc830fbae3741bdbdb"), looks := true }, kinds := [], alts := [], laidByText := true, laidKinds := [.data, .data, .data, .sentinel, .sentinel], laidTests := true, laidLooks := .later }
def GoalTerminalUptoCardSaid : Prop := Claim7.holds Tryd.pinned (.plain (OpenSpec.upto goalTerminalSpec)) goalTerminalUptoCard

/-- THE SECOND FORM's CARD OF 'roboticslaw33.GoalSteps'. -/
def goalStepsUptoCard : Claim7 := { stood := { row := goalStepsUptoRow, standIns := [], harness := (true, "1ce9e275d43f1f4f66a787f8c311ebd36d02e5f84b1182bc830fbae3741bdbdb"), looks := true }, kinds := [], alts := [], laidByText := true, laidKinds := [.data, .data, .data, .sentinel, .sentinel], laidTests := true, laidLooks := .later }
def GoalStepsUptoCardSaid : Prop := Claim7.holds Tryd.pinned (.plain (OpenSpec.upto goalStepsSpec)) goalStepsUptoCard

/-- THE SECOND FORM's CARD OF 'roboticslaw33.GoalHistories'. -/
def goalHistoriesUptoCard : Claim7 := { stood := { row := goalHistoriesUptoRow, standIns := [], harness := (true, "1ce9e275d43f1f4f66a787f8c311ebd36d02e5f84b1182bc830fbae3741bdbdb"), looks := true }, kinds := [], alts := [], laidByText := true, laidKinds := [.data, .data, .data, .sentinel, .sentinel], laidTests := true, laidLooks := .later }
def GoalHistoriesUptoCardSaid : Prop := Claim7.holds Tryd.pinned (.plain (OpenSpec.upto goalHistoriesSpec)) goalHistoriesUptoCard
end Rows
end Go.Proofs.YtbajljfkbppocaaDoor
