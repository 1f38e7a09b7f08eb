/-
  DERIVED. GIVEN WITH THE SEED: THE CARDS: each row of YtfhippofplmpdaaDoorRows.lean that lists a variable, with what it lists TIED to the program's text (the seventh form; the later family's looks); each row that meets fmt, with fmt's text TOLD by the authors' own Lean function (tested against real Go, not proved from fmt's source: count such statements apart). THE CARD IS WHAT COUNTS. Prove the row's statement (the work); the ties are given (YtfhippofplmpdaaDoorTie.lean); close each card by the builder's one call (the guide's Derived/Test/ToyasCard.lean, 'card_holds'). Laid BY PROGRAM, IN A SANDBOX (cutbox-door.mjs). By AI agents, Wed Nov 11 2026. No macro, syntax, notation, axiom, sorry.
-/
import Derived.Test.YtfhippofplmpdaaDoorRows
import GoSem.ClaimSeven
namespace Go.Proofs.YtfhippofplmpdaaDoor
namespace Rows

/-- THE TIED CARD OF 'duodecimolaw05.SkelSights'. -/
def skelSightsCard : Claim7 := { stood := { row := skelSightsRow, standIns := [], harness := (true, "9191a5c499a27fdfce44456470ee8aeace3e68c8f55d4c33dd56a3a7210a7e09"), looks := false }, kinds := [], alts := [], laidByText := true, laidKinds := [.data, .data], laidTests := true, laidLooks := .later }
def SkelSightsCardSaid : Prop := Claim7.holds Tryd.pinned (.plain (OpenSpec.ofChange skelSightsSpec)) skelSightsCard

/-- THE TIED CARD OF 'duodecimolaw05.SkelSkeletons'. -/
def skelSkeletonsCard : Claim7 := { stood := { row := skelSkeletonsRow, standIns := [], harness := (true, "9191a5c499a27fdfce44456470ee8aeace3e68c8f55d4c33dd56a3a7210a7e09"), looks := false }, kinds := [], alts := [], laidByText := true, laidKinds := [.data, .data], laidTests := true, laidLooks := .later }
def SkelSkeletonsCardSaid : Prop := Claim7.holds Tryd.pinned (.plain (OpenSpec.ofChange skelSkeletonsSpec)) skelSkeletonsCard

/-- THE TIED CARD OF 'duodecimolaw05.SkelRooms'. -/
def skelRoomsCard : Claim7 := { stood := { row := skelRoomsRow, standIns := [], harness := (true, "9191a5c499a27fdfce44456470ee8aeace3e68c8f55d4c33dd56a3a7210a7e09"), looks := false }, kinds := [], alts := [], laidByText := true, laidKinds := [.data, .data], laidTests := true, laidLooks := .later }
def SkelRoomsCardSaid : Prop := Claim7.holds Tryd.pinned (.plain (OpenSpec.ofChange skelRoomsSpec)) skelRoomsCard

/-- THE TIED CARD OF 'duodecimolaw05.SkelKnown'. -/
def skelKnownCard : Claim7 := { stood := { row := skelKnownRow, standIns := [], harness := (true, "9191a5c499a27fdfce44456470ee8aeace3e68c8f55d4c33dd56a3a7210a7e09"), looks := false }, kinds := [], alts := [], laidByText := true, laidKinds := [.data, .data], laidTests := true, laidLooks := .later }
def SkelKnownCardSaid : Prop := Claim7.holds Tryd.pinned (.plain (OpenSpec.ofChange skelKnownSpec)) skelKnownCard

/-- THE TIED CARD OF 'duodecimolaw05.SkelTrue'. -/
def skelTrueCard : Claim7 := { stood := { row := skelTrueRow, standIns := [], harness := (true, "9191a5c499a27fdfce44456470ee8aeace3e68c8f55d4c33dd56a3a7210a7e09"), looks := false }, kinds := [], alts := [], laidByText := true, laidKinds := [.data, .data], laidTests := true, laidLooks := .later }
def SkelTrueCardSaid : Prop := Claim7.holds Tryd.pinned (.plain (OpenSpec.ofChange skelTrueSpec)) skelTrueCard

/-- THE TIED CARD OF 'duodecimolaw05.SkelEnough'. -/
def skelEnoughCard : Claim7 := { stood := { row := skelEnoughRow, standIns := [], harness := (true, "9191a5c499a27fdfce44456470ee8aeace3e68c8f55d4c33dd56a3a7210a7e09"), looks := false }, kinds := [], alts := [], laidByText := true, laidKinds := [.data, .data], laidTests := true, laidLooks := .later }
def SkelEnoughCardSaid : Prop := Claim7.holds Tryd.pinned (.plain (OpenSpec.ofChange skelEnoughSpec)) skelEnoughCard

/-- THE TIED CARD OF 'duodecimolaw05.SkelFewer'. -/
def skelFewerCard : Claim7 := { stood := { row := skelFewerRow, standIns := [], harness := (true, "9191a5c499a27fdfce44456470ee8aeace3e68c8f55d4c33dd56a3a7210a7e09"), looks := false }, kinds := [], alts := [], laidByText := true, laidKinds := [.data, .data], laidTests := true, laidLooks := .later }
def SkelFewerCardSaid : Prop := Claim7.holds Tryd.pinned (.plain (OpenSpec.ofChange skelFewerSpec)) skelFewerCard

/-- THE TIED CARD OF 'duodecimolaw05.SkelDoubt'. -/
def skelDoubtCard : Claim7 := { stood := { row := skelDoubtRow, standIns := [], harness := (true, "9191a5c499a27fdfce44456470ee8aeace3e68c8f55d4c33dd56a3a7210a7e09"), looks := false }, kinds := [], alts := [], laidByText := true, laidKinds := [.data, .data], laidTests := true, laidLooks := .later }
def SkelDoubtCardSaid : Prop := Claim7.holds Tryd.pinned (.plain (OpenSpec.ofChange skelDoubtSpec)) skelDoubtCard

/-- THE TIED CARD OF 'duodecimolaw05.SkelStanding'. -/
def skelStandingCard : Claim7 := { stood := { row := skelStandingRow, standIns := [], harness := (true, "9191a5c499a27fdfce44456470ee8aeace3e68c8f55d4c33dd56a3a7210a7e09"), looks := false }, kinds := [], alts := [], laidByText := true, laidKinds := [.data, .data], laidTests := true, laidLooks := .later }
def SkelStandingCardSaid : Prop := Claim7.holds Tryd.pinned (.plain (OpenSpec.ofChange skelStandingSpec)) skelStandingCard

/-- THE TIED CARD OF 'duodecimolaw05.SkelShared'. -/
def skelSharedCard : Claim7 := { stood := { row := skelSharedRow, standIns := [], harness := (true, "9191a5c499a27fdfce44456470ee8aeace3e68c8f55d4c33dd56a3a7210a7e09"), looks := false }, kinds := [], alts := [], laidByText := true, laidKinds := [.data, .data], laidTests := true, laidLooks := .later }
def SkelSharedCardSaid : Prop := Claim7.holds Tryd.pinned (.plain (OpenSpec.ofChange skelSharedSpec)) skelSharedCard

/-- THE TIED CARD OF 'duodecimolaw05.SkelMore'. -/
def skelMoreCard : Claim7 := { stood := { row := skelMoreRow, standIns := [], harness := (true, "9191a5c499a27fdfce44456470ee8aeace3e68c8f55d4c33dd56a3a7210a7e09"), looks := false }, kinds := [], alts := [], laidByText := true, laidKinds := [.data, .data], laidTests := true, laidLooks := .later }
def SkelMoreCardSaid : Prop := Claim7.holds Tryd.pinned (.plain (OpenSpec.ofChange skelMoreSpec)) skelMoreCard

/-- THE TIED CARD OF 'duodecimolaw05.SkelRoom'. -/
def skelRoomCard : Claim7 := { stood := { row := skelRoomRow, standIns := [], harness := (true, "9191a5c499a27fdfce44456470ee8aeace3e68c8f55d4c33dd56a3a7210a7e09"), looks := false }, kinds := [], alts := [], laidByText := true, laidKinds := [.data, .data], laidTests := true, laidLooks := .later }
def SkelRoomCardSaid : Prop := Claim7.holds Tryd.pinned (.plain (OpenSpec.ofChange skelRoomSpec)) skelRoomCard

/-- THE TIED CARD OF 'duodecimolaw05.SkelMoved'. -/
def skelMovedCard : Claim7 := { stood := { row := skelMovedRow, standIns := [], harness := (true, "9191a5c499a27fdfce44456470ee8aeace3e68c8f55d4c33dd56a3a7210a7e09"), looks := false }, kinds := [], alts := [], laidByText := true, laidKinds := [.data, .data], laidTests := true, laidLooks := .later }
def SkelMovedCardSaid : Prop := Claim7.holds Tryd.pinned (.plain (OpenSpec.ofChange skelMovedSpec)) skelMovedCard

/-- THE SECOND FORM's CARD OF 'duodecimolaw05.SkelSights'. -/
def skelSightsUptoCard : Claim7 := { stood := { row := skelSightsUptoRow, standIns := [], harness := (true, "9191a5c499a27fdfce44456470ee8aeace3e68c8f55d4c33dd56a3a7210a7e09"), looks := false }, kinds := [], alts := [], laidByText := true, laidKinds := [.data, .data], laidTests := true, laidLooks := .later }
def SkelSightsUptoCardSaid : Prop := Claim7.holds Tryd.pinned (.plain (OpenSpec.upto skelSightsSpec)) skelSightsUptoCard

/-- THE SECOND FORM's CARD OF 'duodecimolaw05.SkelSkeletons'. -/
def skelSkeletonsUptoCard : Claim7 := { stood := { row := skelSkeletonsUptoRow, standIns := [], harness := (true, "9191a5c499a27fdfce44456470ee8aeace3e68c8f55d4c33dd56a3a7210a7e09"), looks := false }, kinds := [], alts := [], laidByText := true, laidKinds := [.data, .data], laidTests := true, laidLooks := .later }
def SkelSkeletonsUptoCardSaid : Prop := Claim7.holds Tryd.pinned (.plain (OpenSpec.upto skelSkeletonsSpec)) skelSkeletonsUptoCard

/-- THE SECOND FORM's CARD OF 'duodecimolaw05.SkelRooms'. -/
def skelRoomsUptoCard : Claim7 := { stood := { row := skelRoomsUptoRow, standIns := [], harness := (true, "9191a5c499a27fdfce44456470ee8aeace3e68c8f55d4c33dd56a3a7210a7e09"), looks := false }, kinds := [], alts := [], laidByText := true, laidKinds := [.data, .data], laidTests := true, laidLooks := .later }
def SkelRoomsUptoCardSaid : Prop := Claim7.holds Tryd.pinned (.plain (OpenSpec.upto skelRoomsSpec)) skelRoomsUptoCard

/-- THE SECOND FORM's CARD OF 'duodecimolaw05.SkelKnown'. -/
def skelKnownUptoCard : Claim7 := { stood := { row := skelKnownUptoRow, standIns := [], harness := (true, "9191a5c499a27fdfce44456470ee8aeace3e68c8f55d4c33dd56a3a7210a7e09"), looks := false }, kinds := [], alts := [], laidByText := true, laidKinds := [.data, .data], laidTests := true, laidLooks := .later }
def SkelKnownUptoCardSaid : Prop := Claim7.holds Tryd.pinned (.plain (OpenSpec.upto skelKnownSpec)) skelKnownUptoCard

/-- THE SECOND FORM's CARD OF 'duodecimolaw05.SkelTrue'. -/
def skelTrueUptoCard : Claim7 := { stood := { row := skelTrueUptoRow, standIns := [], harness := (true, "9191a5c499a27fdfce44456470ee8aeace3e68c8f55d4c33dd56a3a7210a7e09"), looks := false }, kinds := [], alts := [], laidByText := true, laidKinds := [.data, .data], laidTests := true, laidLooks := .later }
def SkelTrueUptoCardSaid : Prop := Claim7.holds Tryd.pinned (.plain (OpenSpec.upto skelTrueSpec)) skelTrueUptoCard

/-- THE SECOND FORM's CARD OF 'duodecimolaw05.SkelEnough'. -/
def skelEnoughUptoCard : Claim7 := { stood := { row := skelEnoughUptoRow, standIns := [], harness := (true, "9191a5c499a27fdfce44456470ee8aeace3e68c8f55d4c33dd56a3a7210a7e09"), looks := false }, kinds := [], alts := [], laidByText := true, laidKinds := [.data, .data], laidTests := true, laidLooks := .later }
def SkelEnoughUptoCardSaid : Prop := Claim7.holds Tryd.pinned (.plain (OpenSpec.upto skelEnoughSpec)) skelEnoughUptoCard

/-- THE SECOND FORM's CARD OF 'duodecimolaw05.SkelFewer'. -/
def skelFewerUptoCard : Claim7 := { stood := { row := skelFewerUptoRow, standIns := [], harness := (true, "9191a5c499a27fdfce44456470ee8aeace3e68c8f55d4c33dd56a3a7210a7e09"), looks := false }, kinds := [], alts := [], laidByText := true, laidKinds := [.data, .data], laidTests := true, laidLooks := .later }
def SkelFewerUptoCardSaid : Prop := Claim7.holds Tryd.pinned (.plain (OpenSpec.upto skelFewerSpec)) skelFewerUptoCard

/-- THE SECOND FORM's CARD OF 'duodecimolaw05.SkelDoubt'. -/
def skelDoubtUptoCard : Claim7 := { stood := { row := skelDoubtUptoRow, standIns := [], harness := (true, "9191a5c499a27fdfce44456470ee8aeace3e68c8f55d4c33dd56a3a7210a7e09"), looks := false }, kinds := [], alts := [], laidByText := true, laidKinds := [.data, .data], laidTests := true, laidLooks := .later }
def SkelDoubtUptoCardSaid : Prop := Claim7.holds Tryd.pinned (.plain (OpenSpec.upto skelDoubtSpec)) skelDoubtUptoCard

/-- THE SECOND FORM's CARD OF 'duodecimolaw05.SkelStanding'. -/
def skelStandingUptoCard : Claim7 := { stood := { row := skelStandingUptoRow, standIns := [], harness := (true, "9191a5c499a27fdfce44456470ee8aeace3e68c8f55d4c33dd56a3a7210a7e09"), looks := false }, kinds := [], alts := [], laidByText := true, laidKinds := [.data, .data], laidTests := true, laidLooks := .later }
def SkelStandingUptoCardSaid : Prop := Claim7.holds Tryd.pinned (.plain (OpenSpec.upto skelStandingSpec)) skelStandingUptoCard

/-- THE SECOND FORM's CARD OF 'duodecimolaw05.SkelShared'. -/
def skelSharedUptoCard : Claim7 := { stood := { row := skelSharedUptoRow, standIns := [], harness := (true, "9191a5c499a27fdfce44456470ee8aeace3e68c8f55d4c33dd56a3a7210a7e09"), looks := false }, kinds := [], alts := [], laidByText := true, laidKinds := [.data, .data], laidTests := true, laidLooks := .later }
def SkelSharedUptoCardSaid : Prop := Claim7.holds Tryd.pinned (.plain (OpenSpec.upto skelSharedSpec)) skelSharedUptoCard

/-- THE SECOND FORM's CARD OF 'duodecimolaw05.SkelMore'. -/
def skelMoreUptoCard : Claim7 := { stood := { row := skelMoreUptoRow, standIns := [], harness := (true, "9191a5c499a27fdfce44456470ee8aeace3e68c8f55d4c33dd56a3a7210a7e09"), looks := false }, kinds := [], alts := [], laidByText := true, laidKinds := [.data, .data], laidTests := true, laidLooks := .later }
def SkelMoreUptoCardSaid : Prop := Claim7.holds Tryd.pinned (.plain (OpenSpec.upto skelMoreSpec)) skelMoreUptoCard

/-- THE SECOND FORM's CARD OF 'duodecimolaw05.SkelRoom'. -/
def skelRoomUptoCard : Claim7 := { stood := { row := skelRoomUptoRow, standIns := [], harness := (true, "9191a5c499a27fdfce44456470ee8aeace3e68c8f55d4c33dd56a3a7210a7e09"), looks := false }, kinds := [], alts := [], laidByText := true, laidKinds := [.data, .data], laidTests := true, laidLooks := .later }
def SkelRoomUptoCardSaid : Prop := Claim7.holds Tryd.pinned (.plain (OpenSpec.upto skelRoomSpec)) skelRoomUptoCard

/-- THE SECOND FORM's CARD OF 'duodecimolaw05.SkelMoved'. -/
def skelMovedUptoCard : Claim7 := { stood := { row := skelMovedUptoRow, standIns := [], harness := (true, "9191a5c499a27fdfce44456470ee8aeace3e68c8f55d4c33dd56a3a7210a7e09"), looks := false }, kinds := [], alts := [], laidByText := true, laidKinds := [.data, .data], laidTests := true, laidLooks := .later }
def SkelMovedUptoCardSaid : Prop := Claim7.holds Tryd.pinned (.plain (OpenSpec.upto skelMovedSpec)) skelMovedUptoCard
end Rows
end Go.Proofs.YtfhippofplmpdaaDoor
