/-
  DERIVED. GIVEN WITH THE SEED: THE CARDS: each row of YtmhbchljhnfahaaDoorRows.lean that lists a variable, with what it lists TIED to the program's text (the seventh form; the later family's looks); each row that meets fmt, with fmt's text TOLD by the authors' own Lean function (tested against real Go, not proved from fmt's source: count such statements apart). THE CARD IS WHAT COUNTS. Prove the row's statement (the work); the ties are given (YtmhbchljhnfahaaDoorTie.lean); close each card by the builder's one call (the guide's Derived/Test/ToyasCard.lean, 'card_holds'). Laid BY PROGRAM, IN A SANDBOX (cutbox-door.mjs). By AI agents, Wed Nov 11 2026. No macro, syntax, notation, axiom, sorry.
-/
import Derived.Test.YtmhbchljhnfahaaDoorRows
import GoSem.ClaimSeven
namespace Go.Proofs.YtmhbchljhnfahaaDoor
namespace Rows

/-- THE TIED CARD OF 'duodecimolaw03.StateOrders'. -/
def stateOrdersCard : Claim7 := { stood := { row := stateOrdersRow, standIns := [], harness := (true, "0e3ae156ca2e81bd8dcdfd7602c3b0370c0b186e911fa637989f9b4a6f3f5eaa"), looks := false }, kinds := [], alts := [], laidByText := true, laidKinds := [.data, .data], laidTests := true, laidLooks := .later }
def StateOrdersCardSaid : Prop := Claim7.holds Tryd.pinned (.plain (OpenSpec.ofChange stateOrdersSpec)) stateOrdersCard

/-- THE TIED CARD OF 'duodecimolaw03.StateLoci'. -/
def stateLociCard : Claim7 := { stood := { row := stateLociRow, standIns := [], harness := (true, "0e3ae156ca2e81bd8dcdfd7602c3b0370c0b186e911fa637989f9b4a6f3f5eaa"), looks := false }, kinds := [], alts := [], laidByText := true, laidKinds := [.data, .data], laidTests := true, laidLooks := .later }
def StateLociCardSaid : Prop := Claim7.holds Tryd.pinned (.plain (OpenSpec.ofChange stateLociSpec)) stateLociCard

/-- THE TIED CARD OF 'duodecimolaw03.StateCopies'. -/
def stateCopiesCard : Claim7 := { stood := { row := stateCopiesRow, standIns := [], harness := (true, "0e3ae156ca2e81bd8dcdfd7602c3b0370c0b186e911fa637989f9b4a6f3f5eaa"), looks := false }, kinds := [], alts := [], laidByText := true, laidKinds := [.data, .data], laidTests := true, laidLooks := .later }
def StateCopiesCardSaid : Prop := Claim7.holds Tryd.pinned (.plain (OpenSpec.ofChange stateCopiesSpec)) stateCopiesCard

/-- THE TIED CARD OF 'duodecimolaw03.StateWrongs'. -/
def stateWrongsCard : Claim7 := { stood := { row := stateWrongsRow, standIns := [], harness := (true, "0e3ae156ca2e81bd8dcdfd7602c3b0370c0b186e911fa637989f9b4a6f3f5eaa"), looks := false }, kinds := [], alts := [], laidByText := true, laidKinds := [.data, .data], laidTests := true, laidLooks := .later }
def StateWrongsCardSaid : Prop := Claim7.holds Tryd.pinned (.plain (OpenSpec.ofChange stateWrongsSpec)) stateWrongsCard

/-- THE TIED CARD OF 'duodecimolaw03.StateKnown'. -/
def stateKnownCard : Claim7 := { stood := { row := stateKnownRow, standIns := [], harness := (true, "0e3ae156ca2e81bd8dcdfd7602c3b0370c0b186e911fa637989f9b4a6f3f5eaa"), looks := false }, kinds := [], alts := [], laidByText := true, laidKinds := [.data, .data], laidTests := true, laidLooks := .later }
def StateKnownCardSaid : Prop := Claim7.holds Tryd.pinned (.plain (OpenSpec.ofChange stateKnownSpec)) stateKnownCard

/-- THE TIED CARD OF 'duodecimolaw03.StateTrue'. -/
def stateTrueCard : Claim7 := { stood := { row := stateTrueRow, standIns := [], harness := (true, "0e3ae156ca2e81bd8dcdfd7602c3b0370c0b186e911fa637989f9b4a6f3f5eaa"), looks := false }, kinds := [], alts := [], laidByText := true, laidKinds := [.data, .data], laidTests := true, laidLooks := .later }
def StateTrueCardSaid : Prop := Claim7.holds Tryd.pinned (.plain (OpenSpec.ofChange stateTrueSpec)) stateTrueCard

/-- THE TIED CARD OF 'duodecimolaw03.StateJust'. -/
def stateJustCard : Claim7 := { stood := { row := stateJustRow, standIns := [], harness := (true, "0e3ae156ca2e81bd8dcdfd7602c3b0370c0b186e911fa637989f9b4a6f3f5eaa"), looks := false }, kinds := [], alts := [], laidByText := true, laidKinds := [.data, .data], laidTests := true, laidLooks := .later }
def StateJustCardSaid : Prop := Claim7.holds Tryd.pinned (.plain (OpenSpec.ofChange stateJustSpec)) stateJustCard

/-- THE TIED CARD OF 'duodecimolaw03.StateProof'. -/
def stateProofCard : Claim7 := { stood := { row := stateProofRow, standIns := [], harness := (true, "0e3ae156ca2e81bd8dcdfd7602c3b0370c0b186e911fa637989f9b4a6f3f5eaa"), looks := false }, kinds := [], alts := [], laidByText := true, laidKinds := [.data, .data], laidTests := true, laidLooks := .later }
def StateProofCardSaid : Prop := Claim7.holds Tryd.pinned (.plain (OpenSpec.ofChange stateProofSpec)) stateProofCard

/-- THE TIED CARD OF 'duodecimolaw03.StateFewest'. -/
def stateFewestCard : Claim7 := { stood := { row := stateFewestRow, standIns := [], harness := (true, "0e3ae156ca2e81bd8dcdfd7602c3b0370c0b186e911fa637989f9b4a6f3f5eaa"), looks := false }, kinds := [], alts := [], laidByText := true, laidKinds := [.data, .data], laidTests := true, laidLooks := .later }
def StateFewestCardSaid : Prop := Claim7.holds Tryd.pinned (.plain (OpenSpec.ofChange stateFewestSpec)) stateFewestCard

/-- THE TIED CARD OF 'duodecimolaw03.StateMore'. -/
def stateMoreCard : Claim7 := { stood := { row := stateMoreRow, standIns := [], harness := (true, "0e3ae156ca2e81bd8dcdfd7602c3b0370c0b186e911fa637989f9b4a6f3f5eaa"), looks := false }, kinds := [], alts := [], laidByText := true, laidKinds := [.data, .data], laidTests := true, laidLooks := .later }
def StateMoreCardSaid : Prop := Claim7.holds Tryd.pinned (.plain (OpenSpec.ofChange stateMoreSpec)) stateMoreCard

/-- THE TIED CARD OF 'duodecimolaw03.StateTurned'. -/
def stateTurnedCard : Claim7 := { stood := { row := stateTurnedRow, standIns := [], harness := (true, "0e3ae156ca2e81bd8dcdfd7602c3b0370c0b186e911fa637989f9b4a6f3f5eaa"), looks := false }, kinds := [], alts := [], laidByText := true, laidKinds := [.data, .data], laidTests := true, laidLooks := .later }
def StateTurnedCardSaid : Prop := Claim7.holds Tryd.pinned (.plain (OpenSpec.ofChange stateTurnedSpec)) stateTurnedCard

/-- THE TIED CARD OF 'duodecimolaw03.StateInOrder'. -/
def stateInOrderCard : Claim7 := { stood := { row := stateInOrderRow, standIns := [], harness := (true, "0e3ae156ca2e81bd8dcdfd7602c3b0370c0b186e911fa637989f9b4a6f3f5eaa"), looks := false }, kinds := [], alts := [], laidByText := true, laidKinds := [.data, .data], laidTests := true, laidLooks := .later }
def StateInOrderCardSaid : Prop := Claim7.holds Tryd.pinned (.plain (OpenSpec.ofChange stateInOrderSpec)) stateInOrderCard

/-- THE TIED CARD OF 'duodecimolaw03.StateAgain'. -/
def stateAgainCard : Claim7 := { stood := { row := stateAgainRow, standIns := [], harness := (true, "0e3ae156ca2e81bd8dcdfd7602c3b0370c0b186e911fa637989f9b4a6f3f5eaa"), looks := false }, kinds := [], alts := [], laidByText := true, laidKinds := [.data, .data], laidTests := true, laidLooks := .later }
def StateAgainCardSaid : Prop := Claim7.holds Tryd.pinned (.plain (OpenSpec.ofChange stateAgainSpec)) stateAgainCard

/-- THE SECOND FORM's CARD OF 'duodecimolaw03.StateOrders'. -/
def stateOrdersUptoCard : Claim7 := { stood := { row := stateOrdersUptoRow, standIns := [], harness := (true, "0e3ae156ca2e81bd8dcdfd7602c3b0370c0b186e911fa637989f9b4a6f3f5eaa"), looks := false }, kinds := [], alts := [], laidByText := true, laidKinds := [.data, .data], laidTests := true, laidLooks := .later }
def StateOrdersUptoCardSaid : Prop := Claim7.holds Tryd.pinned (.plain (OpenSpec.upto stateOrdersSpec)) stateOrdersUptoCard

/-- THE SECOND FORM's CARD OF 'duodecimolaw03.StateLoci'. -/
def stateLociUptoCard : Claim7 := { stood := { row := stateLociUptoRow, standIns := [], harness := (true, "0e3ae156ca2e81bd8dcdfd7602c3b0370c0b186e911fa637989f9b4a6f3f5eaa"), looks := false }, kinds := [], alts := [], laidByText := true, laidKinds := [.data, .data], laidTests := true, laidLooks := .later }
def StateLociUptoCardSaid : Prop := Claim7.holds Tryd.pinned (.plain (OpenSpec.upto stateLociSpec)) stateLociUptoCard

/-- THE SECOND FORM's CARD OF 'duodecimolaw03.StateCopies'. -/
def stateCopiesUptoCard : Claim7 := { stood := { row := stateCopiesUptoRow, standIns := [], harness := (true, "0e3ae156ca2e81bd8dcdfd7602c3b0370c0b186e911fa637989f9b4a6f3f5eaa"), looks := false }, kinds := [], alts := [], laidByText := true, laidKinds := [.data, .data], laidTests := true, laidLooks := .later }
def StateCopiesUptoCardSaid : Prop := Claim7.holds Tryd.pinned (.plain (OpenSpec.upto stateCopiesSpec)) stateCopiesUptoCard

/-- THE SECOND FORM's CARD OF 'duodecimolaw03.StateWrongs'. -/
def stateWrongsUptoCard : Claim7 := { stood := { row := stateWrongsUptoRow, standIns := [], harness := (true, "0e3ae156ca2e81bd8dcdfd7602c3b0370c0b186e911fa637989f9b4a6f3f5eaa"), looks := false }, kinds := [], alts := [], laidByText := true, laidKinds := [.data, .data], laidTests := true, laidLooks := .later }
def StateWrongsUptoCardSaid : Prop := Claim7.holds Tryd.pinned (.plain (OpenSpec.upto stateWrongsSpec)) stateWrongsUptoCard

/-- THE SECOND FORM's CARD OF 'duodecimolaw03.StateKnown'. -/
def stateKnownUptoCard : Claim7 := { stood := { row := stateKnownUptoRow, standIns := [], harness := (true, "0e3ae156ca2e81bd8dcdfd7602c3b0370c0b186e911fa637989f9b4a6f3f5eaa"), looks := false }, kinds := [], alts := [], laidByText := true, laidKinds := [.data, .data], laidTests := true, laidLooks := .later }
def StateKnownUptoCardSaid : Prop := Claim7.holds Tryd.pinned (.plain (OpenSpec.upto stateKnownSpec)) stateKnownUptoCard

/-- THE SECOND FORM's CARD OF 'duodecimolaw03.StateTrue'. -/
def stateTrueUptoCard : Claim7 := { stood := { row := stateTrueUptoRow, standIns := [], harness := (true, "0e3ae156ca2e81bd8dcdfd7602c3b0370c0b186e911fa637989f9b4a6f3f5eaa"), looks := false }, kinds := [], alts := [], laidByText := true, laidKinds := [.data, .data], laidTests := true, laidLooks := .later }
def StateTrueUptoCardSaid : Prop := Claim7.holds Tryd.pinned (.plain (OpenSpec.upto stateTrueSpec)) stateTrueUptoCard

/-- THE SECOND FORM's CARD OF 'duodecimolaw03.StateJust'. -/
def stateJustUptoCard : Claim7 := { stood := { row := stateJustUptoRow, standIns := [], harness := (true, "0e3ae156ca2e81bd8dcdfd7602c3b0370c0b186e911fa637989f9b4a6f3f5eaa"), looks := false }, kinds := [], alts := [], laidByText := true, laidKinds := [.data, .data], laidTests := true, laidLooks := .later }
def StateJustUptoCardSaid : Prop := Claim7.holds Tryd.pinned (.plain (OpenSpec.upto stateJustSpec)) stateJustUptoCard

/-- THE SECOND FORM's CARD OF 'duodecimolaw03.StateProof'. -/
def stateProofUptoCard : Claim7 := { stood := { row := stateProofUptoRow, standIns := [], harness := (true, "0e3ae156ca2e81bd8dcdfd7602c3b0370c0b186e911fa637989f9b4a6f3f5eaa"), looks := false }, kinds := [], alts := [], laidByText := true, laidKinds := [.data, .data], laidTests := true, laidLooks := .later }
def StateProofUptoCardSaid : Prop := Claim7.holds Tryd.pinned (.plain (OpenSpec.upto stateProofSpec)) stateProofUptoCard

/-- THE SECOND FORM's CARD OF 'duodecimolaw03.StateFewest'. -/
def stateFewestUptoCard : Claim7 := { stood := { row := stateFewestUptoRow, standIns := [], harness := (true, "0e3ae156ca2e81bd8dcdfd7602c3b0370c0b186e911fa637989f9b4a6f3f5eaa"), looks := false }, kinds := [], alts := [], laidByText := true, laidKinds := [.data, .data], laidTests := true, laidLooks := .later }
def StateFewestUptoCardSaid : Prop := Claim7.holds Tryd.pinned (.plain (OpenSpec.upto stateFewestSpec)) stateFewestUptoCard

/-- THE SECOND FORM's CARD OF 'duodecimolaw03.StateMore'. -/
def stateMoreUptoCard : Claim7 := { stood := { row := stateMoreUptoRow, standIns := [], harness := (true, "0e3ae156ca2e81bd8dcdfd7602c3b0370c0b186e911fa637989f9b4a6f3f5eaa"), looks := false }, kinds := [], alts := [], laidByText := true, laidKinds := [.data, .data], laidTests := true, laidLooks := .later }
def StateMoreUptoCardSaid : Prop := Claim7.holds Tryd.pinned (.plain (OpenSpec.upto stateMoreSpec)) stateMoreUptoCard

/-- THE SECOND FORM's CARD OF 'duodecimolaw03.StateTurned'. -/
def stateTurnedUptoCard : Claim7 := { stood := { row := stateTurnedUptoRow, standIns := [], harness := (true, "0e3ae156ca2e81bd8dcdfd7602c3b0370c0b186e911fa637989f9b4a6f3f5eaa"), looks := false }, kinds := [], alts := [], laidByText := true, laidKinds := [.data, .data], laidTests := true, laidLooks := .later }
def StateTurnedUptoCardSaid : Prop := Claim7.holds Tryd.pinned (.plain (OpenSpec.upto stateTurnedSpec)) stateTurnedUptoCard

/-- THE SECOND FORM's CARD OF 'duodecimolaw03.StateInOrder'. -/
def stateInOrderUptoCard : Claim7 := { stood := { row := stateInOrderUptoRow, standIns := [], harness := (true, "0e3ae156ca2e81bd8dcdfd7602c3b0370c0b186e911fa637989f9b4a6f3f5eaa"), looks := false }, kinds := [], alts := [], laidByText := true, laidKinds := [.data, .data], laidTests := true, laidLooks := .later }
def StateInOrderUptoCardSaid : Prop := Claim7.holds Tryd.pinned (.plain (OpenSpec.upto stateInOrderSpec)) stateInOrderUptoCard

/-- THE SECOND FORM's CARD OF 'duodecimolaw03.StateAgain'. -/
def stateAgainUptoCard : Claim7 := { stood := { row := stateAgainUptoRow, standIns := [], harness := (true, "0e3ae156ca2e81bd8dcdfd7602c3b0370c0b186e911fa637989f9b4a6f3f5eaa"), looks := false }, kinds := [], alts := [], laidByText := true, laidKinds := [.data, .data], laidTests := true, laidLooks := .later }
def StateAgainUptoCardSaid : Prop := Claim7.holds Tryd.pinned (.plain (OpenSpec.upto stateAgainSpec)) stateAgainUptoCard
end Rows
end Go.Proofs.YtmhbchljhnfahaaDoor
