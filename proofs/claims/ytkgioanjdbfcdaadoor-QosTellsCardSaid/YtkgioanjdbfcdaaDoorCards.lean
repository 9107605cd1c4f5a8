/-
  DERIVED. GIVEN WITH THE SEED: THE CARDS: each row of YtkgioanjdbfcdaaDoorRows.lean that lists a variable, with what it lists TIED to the program's text (the seventh form; the later family's looks); each row that meets fmt, with fmt's text TOLD by the authors' own Lean function (tested against real Go, not proved from fmt's source: count such statements apart). THE CARD IS WHAT COUNTS. Prove the row's statement (the work); the ties are given (YtkgioanjdbfcdaaDoorTie.lean); close each card by the builder's one call (the guide's Derived/Test/ToyasCard.lean, 'card_holds'). Laid BY PROGRAM, IN A SANDBOX (cutbox-door.mjs). By AI agents, Wed Nov 11 2026. No macro, syntax, notation, axiom, sorry.
-/
import Derived.Test.YtkgioanjdbfcdaaDoorRows
import GoSem.ClaimSeven
namespace Go.Proofs.YtkgioanjdbfcdaaDoor
namespace Rows

/-- THE TIED CARD OF 'roboticslaw16.QosTells'. -/
def qosTellsCard : Claim7 := { stood := { row := qosTellsRow, standIns := [], harness := (true, "2a71ed8c5fa25b525d3ce99b31115fe841bd55c32804fae6e4fe9413d79363be"), looks := false }, kinds := [], alts := [], laidByText := true, laidKinds := [.data, .data, .data, .data, .pinned], laidTests := true, laidLooks := .later }
def QosTellsCardSaid : Prop := Claim7.holds Tryd.pinned (.plain (OpenSpec.ofChange qosTellsSpec)) qosTellsCard

/-- THE TIED CARD OF 'roboticslaw16.QosTransitive'. -/
def qosTransitiveCard : Claim7 := { stood := { row := qosTransitiveRow, standIns := [], harness := (true, "2a71ed8c5fa25b525d3ce99b31115fe841bd55c32804fae6e4fe9413d79363be"), looks := false }, kinds := [], alts := [], laidByText := true, laidKinds := [.data, .data, .data, .data, .pinned], laidTests := true, laidLooks := .later }
def QosTransitiveCardSaid : Prop := Claim7.holds Tryd.pinned (.plain (OpenSpec.ofChange qosTransitiveSpec)) qosTransitiveCard

/-- THE TIED CARD OF 'roboticslaw16.QosStrongest'. -/
def qosStrongestCard : Claim7 := { stood := { row := qosStrongestRow, standIns := [], harness := (true, "2a71ed8c5fa25b525d3ce99b31115fe841bd55c32804fae6e4fe9413d79363be"), looks := false }, kinds := [], alts := [], laidByText := true, laidKinds := [.data, .data, .data, .data, .pinned], laidTests := true, laidLooks := .later }
def QosStrongestCardSaid : Prop := Claim7.holds Tryd.pinned (.plain (OpenSpec.ofChange qosStrongestSpec)) qosStrongestCard

/-- THE TIED CARD OF 'roboticslaw16.QosParses'. -/
def qosParsesCard : Claim7 := { stood := { row := qosParsesRow, standIns := [], harness := (true, "2a71ed8c5fa25b525d3ce99b31115fe841bd55c32804fae6e4fe9413d79363be"), looks := false }, kinds := [], alts := [], laidByText := true, laidKinds := [.data, .data, .data, .data, .pinned], laidTests := true, laidLooks := .later }
def QosParsesCardSaid : Prop := Claim7.holds Tryd.pinned (.plain (OpenSpec.ofChange qosParsesSpec)) qosParsesCard

/-- THE TIED CARD OF 'roboticslaw16.QosRoundTrip'. -/
def qosRoundTripCard : Claim7 := { stood := { row := qosRoundTripRow, standIns := [], harness := (true, "2a71ed8c5fa25b525d3ce99b31115fe841bd55c32804fae6e4fe9413d79363be"), looks := false }, kinds := [], alts := [], laidByText := true, laidKinds := [.data, .data, .data, .data, .pinned], laidTests := true, laidLooks := .later }
def QosRoundTripCardSaid : Prop := Claim7.holds Tryd.pinned (.plain (OpenSpec.ofChange qosRoundTripSpec)) qosRoundTripCard

/-- THE SECOND FORM's CARD OF 'roboticslaw16.QosTells'. -/
def qosTellsUptoCard : Claim7 := { stood := { row := qosTellsUptoRow, standIns := [], harness := (true, "2a71ed8c5fa25b525d3ce99b31115fe841bd55c32804fae6e4fe9413d79363be"), looks := false }, kinds := [], alts := [], laidByText := true, laidKinds := [.data, .data, .data, .data, .pinned], laidTests := true, laidLooks := .later }
def QosTellsUptoCardSaid : Prop := Claim7.holds Tryd.pinned (.plain (OpenSpec.upto qosTellsSpec)) qosTellsUptoCard

/-- THE SECOND FORM's CARD OF 'roboticslaw16.QosTransitive'. -/
def qosTransitiveUptoCard : Claim7 := { stood := { row := qosTransitiveUptoRow, standIns := [], harness := (true, "2a71ed8c5fa25b525d3ce99b31115fe841bd55c32804fae6e4fe9413d79363be"), looks := false }, kinds := [], alts := [], laidByText := true, laidKinds := [.data, .data, .data, .data, .pinned], laidTests := true, laidLooks := .later }
def QosTransitiveUptoCardSaid : Prop := Claim7.holds Tryd.pinned (.plain (OpenSpec.upto qosTransitiveSpec)) qosTransitiveUptoCard

/-- THE SECOND FORM's CARD OF 'roboticslaw16.QosStrongest'. -/
def qosStrongestUptoCard : Claim7 := { stood := { row := qosStrongestUptoRow, standIns := [], harness := (true, "2a71ed8c5fa25b525d3ce99b31115fe841bd55c32804fae6e4fe9413d79363be"), looks := false }, kinds := [], alts := [], laidByText := true, laidKinds := [.data, .data, .data, .data, .pinned], laidTests := true, laidLooks := .later }
def QosStrongestUptoCardSaid : Prop := Claim7.holds Tryd.pinned (.plain (OpenSpec.upto qosStrongestSpec)) qosStrongestUptoCard

/-- THE SECOND FORM's CARD OF 'roboticslaw16.QosParses'. -/
def qosParsesUptoCard : Claim7 := { stood := { row := qosParsesUptoRow, standIns := [], harness := (true, "2a71ed8c5fa25b525d3ce99b31115fe841bd55c32804fae6e4fe9413d79363be"), looks := false }, kinds := [], alts := [], laidByText := true, laidKinds := [.data, .data, .data, .data, .pinned], laidTests := true, laidLooks := .later }
def QosParsesUptoCardSaid : Prop := Claim7.holds Tryd.pinned (.plain (OpenSpec.upto qosParsesSpec)) qosParsesUptoCard

/-- THE SECOND FORM's CARD OF 'roboticslaw16.QosRoundTrip'. -/
def qosRoundTripUptoCard : Claim7 := { stood := { row := qosRoundTripUptoRow, standIns := [], harness := (true, "2a71ed8c5fa25b525d3ce99b31115fe841bd55c32804fae6e4fe9413d79363be"), looks := false }, kinds := [], alts := [], laidByText := true, laidKinds := [.data, .data, .data, .data, .pinned], laidTests := true, laidLooks := .later }
def QosRoundTripUptoCardSaid : Prop := Claim7.holds Tryd.pinned (.plain (OpenSpec.upto qosRoundTripSpec)) qosRoundTripUptoCard
end Rows
end Go.Proofs.YtkgioanjdbfcdaaDoor
