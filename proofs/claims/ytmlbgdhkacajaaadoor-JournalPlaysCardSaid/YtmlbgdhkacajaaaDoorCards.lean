/-
  DERIVED. GIVEN WITH THE SEED: THE CARDS: each row of YtmlbgdhkacajaaaDoorRows.lean that lists a variable, with what it lists TIED to the program's text (the seventh form; the later family's looks); each row that meets fmt, with fmt's text TOLD by the authors' own Lean function (tested against real Go, not proved from fmt's source: count such statements apart). THE CARD IS WHAT COUNTS. Prove the row's statement (the work); the ties are given (YtmlbgdhkacajaaaDoorTie.lean); close each card by the builder's one call (the guide's Derived/Test/ToyasCard.lean, 'card_holds'). Laid BY PROGRAM, IN A SANDBOX (cutbox-door.mjs). By AI agents, Wed Nov 11 2026. No macro, syntax, notation, axiom, sorry.
-/
import Derived.Test.YtmlbgdhkacajaaaDoorRows
import GoSem.ClaimSeven
namespace Go.Proofs.YtmlbgdhkacajaaaDoor
namespace Rows

/-- THE TIED CARD OF 'roboticslaw35.JournalFrames'. -/
def journalFramesCard : Claim7 := { stood := { row := journalFramesRow, standIns := [], harness := (true, "4581b753fdb177aeb39185e1b98d29ae68b9f3110c8356e8e1c3f75203c72d71"), looks := false }, kinds := [], alts := [], laidByText := true, laidKinds := [.data, .data, .data], laidTests := true, laidLooks := .later }
def JournalFramesCardSaid : Prop := Claim7.holds Tryd.pinned (.plain (OpenSpec.ofChange journalFramesSpec)) journalFramesCard

/-- THE TIED CARD OF 'roboticslaw35.JournalVerifies'. -/
def journalVerifiesCard : Claim7 := { stood := { row := journalVerifiesRow, standIns := [], harness := (true, "4581b753fdb177aeb39185e1b98d29ae68b9f3110c8356e8e1c3f75203c72d71"), looks := false }, kinds := [], alts := [], laidByText := true, laidKinds := [.data, .data, .data], laidTests := true, laidLooks := .later }
def JournalVerifiesCardSaid : Prop := Claim7.holds Tryd.pinned (.plain (OpenSpec.ofChange journalVerifiesSpec)) journalVerifiesCard

/-- THE TIED CARD OF 'roboticslaw35.JournalNobody'. -/
def journalNobodyCard : Claim7 := { stood := { row := journalNobodyRow, standIns := [], harness := (true, "4581b753fdb177aeb39185e1b98d29ae68b9f3110c8356e8e1c3f75203c72d71"), looks := false }, kinds := [], alts := [], laidByText := true, laidKinds := [.data, .data, .data], laidTests := true, laidLooks := .later }
def JournalNobodyCardSaid : Prop := Claim7.holds Tryd.pinned (.plain (OpenSpec.ofChange journalNobodySpec)) journalNobodyCard

/-- THE TIED CARD OF 'roboticslaw35.JournalStops'. -/
def journalStopsCard : Claim7 := { stood := { row := journalStopsRow, standIns := [], harness := (true, "4581b753fdb177aeb39185e1b98d29ae68b9f3110c8356e8e1c3f75203c72d71"), looks := false }, kinds := [], alts := [], laidByText := true, laidKinds := [.data, .data, .data], laidTests := true, laidLooks := .later }
def JournalStopsCardSaid : Prop := Claim7.holds Tryd.pinned (.plain (OpenSpec.ofChange journalStopsSpec)) journalStopsCard

/-- THE TIED CARD OF 'roboticslaw35.JournalPrefix'. -/
def journalPrefixCard : Claim7 := { stood := { row := journalPrefixRow, standIns := [], harness := (true, "4581b753fdb177aeb39185e1b98d29ae68b9f3110c8356e8e1c3f75203c72d71"), looks := false }, kinds := [], alts := [], laidByText := true, laidKinds := [.data, .data, .data], laidTests := true, laidLooks := .later }
def JournalPrefixCardSaid : Prop := Claim7.holds Tryd.pinned (.plain (OpenSpec.ofChange journalPrefixSpec)) journalPrefixCard

/-- THE TIED CARD OF 'roboticslaw35.JournalPlays'. -/
def journalPlaysCard : Claim7 := { stood := { row := journalPlaysRow, standIns := [], harness := (true, "4581b753fdb177aeb39185e1b98d29ae68b9f3110c8356e8e1c3f75203c72d71"), looks := false }, kinds := [], alts := [], laidByText := true, laidKinds := [.data, .data, .data], laidTests := true, laidLooks := .later }
def JournalPlaysCardSaid : Prop := Claim7.holds Tryd.pinned (.plain (OpenSpec.ofChange journalPlaysSpec)) journalPlaysCard

/-- THE SECOND FORM's CARD OF 'roboticslaw35.JournalFrames'. -/
def journalFramesUptoCard : Claim7 := { stood := { row := journalFramesUptoRow, standIns := [], harness := (true, "4581b753fdb177aeb39185e1b98d29ae68b9f3110c8356e8e1c3f75203c72d71"), looks := false }, kinds := [], alts := [], laidByText := true, laidKinds := [.data, .data, .data], laidTests := true, laidLooks := .later }
def JournalFramesUptoCardSaid : Prop := Claim7.holds Tryd.pinned (.plain (OpenSpec.upto journalFramesSpec)) journalFramesUptoCard

/-- THE SECOND FORM's CARD OF 'roboticslaw35.JournalVerifies'. -/
def journalVerifiesUptoCard : Claim7 := { stood := { row := journalVerifiesUptoRow, standIns := [], harness := (true, "4581b753fdb177aeb39185e1b98d29ae68b9f3110c8356e8e1c3f75203c72d71"), looks := false }, kinds := [], alts := [], laidByText := true, laidKinds := [.data, .data, .data], laidTests := true, laidLooks := .later }
def JournalVerifiesUptoCardSaid : Prop := Claim7.holds Tryd.pinned (.plain (OpenSpec.upto journalVerifiesSpec)) journalVerifiesUptoCard

/-- THE SECOND FORM's CARD OF 'roboticslaw35.JournalNobody'. -/
def journalNobodyUptoCard : Claim7 := { stood := { row := journalNobodyUptoRow, standIns := [], harness := (true, "4581b753fdb177aeb39185e1b98d29ae68b9f3110c8356e8e1c3f75203c72d71"), looks := false }, kinds := [], alts := [], laidByText := true, laidKinds := [.data, .data, .data], laidTests := true, laidLooks := .later }
def JournalNobodyUptoCardSaid : Prop := Claim7.holds Tryd.pinned (.plain (OpenSpec.upto journalNobodySpec)) journalNobodyUptoCard

/-- THE SECOND FORM's CARD OF 'roboticslaw35.JournalStops'. -/
def journalStopsUptoCard : Claim7 := { stood := { row := journalStopsUptoRow, standIns := [], harness := (true, "4581b753fdb177aeb39185e1b98d29ae68b9f3110c8356e8e1c3f75203c72d71"), looks := false }, kinds := [], alts := [], laidByText := true, laidKinds := [.data, .data, .data], laidTests := true, laidLooks := .later }
def JournalStopsUptoCardSaid : Prop := Claim7.holds Tryd.pinned (.plain (OpenSpec.upto journalStopsSpec)) journalStopsUptoCard

/-- THE SECOND FORM's CARD OF 'roboticslaw35.JournalPrefix'. -/
def journalPrefixUptoCard : Claim7 := { stood := { row := journalPrefixUptoRow, standIns := [], harness := (true, "4581b753fdb177aeb39185e1b98d29ae68b9f3110c8356e8e1c3f75203c72d71"), looks := false }, kinds := [], alts := [], laidByText := true, laidKinds := [.data, .data, .data], laidTests := true, laidLooks := .later }
def JournalPrefixUptoCardSaid : Prop := Claim7.holds Tryd.pinned (.plain (OpenSpec.upto journalPrefixSpec)) journalPrefixUptoCard

/-- THE SECOND FORM's CARD OF 'roboticslaw35.JournalPlays'. -/
def journalPlaysUptoCard : Claim7 := { stood := { row := journalPlaysUptoRow, standIns := [], harness := (true, "4581b753fdb177aeb39185e1b98d29ae68b9f3110c8356e8e1c3f75203c72d71"), looks := false }, kinds := [], alts := [], laidByText := true, laidKinds := [.data, .data, .data], laidTests := true, laidLooks := .later }
def JournalPlaysUptoCardSaid : Prop := Claim7.holds Tryd.pinned (.plain (OpenSpec.upto journalPlaysSpec)) journalPlaysUptoCard
end Rows
end Go.Proofs.YtmlbgdhkacajaaaDoor
