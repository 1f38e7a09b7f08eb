/-
  DERIVED. GIVEN WITH THE SEED: THE CARDS: each row of YtmchcpmkadhmjaaDoorRows.lean that lists a variable, with what it lists TIED to the program's text (the seventh form; the later family's looks); each row that meets fmt, with fmt's text TOLD by the authors' own Lean function (tested against real Go, not proved from fmt's source: count such statements apart). THE CARD IS WHAT COUNTS. Prove the row's statement (the work); the ties are given (YtmchcpmkadhmjaaDoorTie.lean); close each card by the builder's one call (the guide's Derived/Test/ToyasCard.lean, 'card_holds'). Laid BY PROGRAM, IN A SANDBOX (cutbox-door.mjs). By AI agents, Wed Nov 11 2026. No macro, syntax, notation, axiom, sorry.
-/
import Derived.Test.YtmchcpmkadhmjaaDoorRows
import GoSem.ClaimSeven
namespace Go.Proofs.YtmchcpmkadhmjaaDoor
namespace Rows

/-- THE TIED CARD OF 'duodecimolaw11.MadeSets'. -/
def madeSetsCard : Claim7 := { stood := { row := madeSetsRow, standIns := [], harness := (true, "dedbc0d85653039a4f10100619076d0ca0a586c5f913d06d9cd99e7a999da59e"), looks := false }, kinds := [], alts := [], laidByText := true, laidKinds := [.data, .data], laidTests := true, laidLooks := .later }
def MadeSetsCardSaid : Prop := Claim7.holds Tryd.pinned (.plain (OpenSpec.ofChange madeSetsSpec)) madeSetsCard

/-- THE TIED CARD OF 'duodecimolaw11.MadeWhole'. -/
def madeWholeCard : Claim7 := { stood := { row := madeWholeRow, standIns := [], harness := (true, "dedbc0d85653039a4f10100619076d0ca0a586c5f913d06d9cd99e7a999da59e"), looks := false }, kinds := [], alts := [], laidByText := true, laidKinds := [.data, .data], laidTests := true, laidLooks := .later }
def MadeWholeCardSaid : Prop := Claim7.holds Tryd.pinned (.plain (OpenSpec.ofChange madeWholeSpec)) madeWholeCard

/-- THE TIED CARD OF 'duodecimolaw11.MadeHands'. -/
def madeHandsCard : Claim7 := { stood := { row := madeHandsRow, standIns := [], harness := (true, "dedbc0d85653039a4f10100619076d0ca0a586c5f913d06d9cd99e7a999da59e"), looks := false }, kinds := [], alts := [], laidByText := true, laidKinds := [.data, .data], laidTests := true, laidLooks := .later }
def MadeHandsCardSaid : Prop := Claim7.holds Tryd.pinned (.plain (OpenSpec.ofChange madeHandsSpec)) madeHandsCard

/-- THE TIED CARD OF 'duodecimolaw11.MadeProofs'. -/
def madeProofsCard : Claim7 := { stood := { row := madeProofsRow, standIns := [], harness := (true, "dedbc0d85653039a4f10100619076d0ca0a586c5f913d06d9cd99e7a999da59e"), looks := false }, kinds := [], alts := [], laidByText := true, laidKinds := [.data, .data], laidTests := true, laidLooks := .later }
def MadeProofsCardSaid : Prop := Claim7.holds Tryd.pinned (.plain (OpenSpec.ofChange madeProofsSpec)) madeProofsCard

/-- THE TIED CARD OF 'duodecimolaw11.MadeKnown'. -/
def madeKnownCard : Claim7 := { stood := { row := madeKnownRow, standIns := [], harness := (true, "dedbc0d85653039a4f10100619076d0ca0a586c5f913d06d9cd99e7a999da59e"), looks := false }, kinds := [], alts := [], laidByText := true, laidKinds := [.data, .data], laidTests := true, laidLooks := .later }
def MadeKnownCardSaid : Prop := Claim7.holds Tryd.pinned (.plain (OpenSpec.ofChange madeKnownSpec)) madeKnownCard

/-- THE TIED CARD OF 'duodecimolaw11.MadeMore'. -/
def madeMoreCard : Claim7 := { stood := { row := madeMoreRow, standIns := [], harness := (true, "dedbc0d85653039a4f10100619076d0ca0a586c5f913d06d9cd99e7a999da59e"), looks := false }, kinds := [], alts := [], laidByText := true, laidKinds := [.data, .data], laidTests := true, laidLooks := .later }
def MadeMoreCardSaid : Prop := Claim7.holds Tryd.pinned (.plain (OpenSpec.ofChange madeMoreSpec)) madeMoreCard

/-- THE TIED CARD OF 'duodecimolaw11.MadeTold'. -/
def madeToldCard : Claim7 := { stood := { row := madeToldRow, standIns := [], harness := (true, "dedbc0d85653039a4f10100619076d0ca0a586c5f913d06d9cd99e7a999da59e"), looks := false }, kinds := [], alts := [], laidByText := true, laidKinds := [.data, .data], laidTests := true, laidLooks := .later }
def MadeToldCardSaid : Prop := Claim7.holds Tryd.pinned (.plain (OpenSpec.ofChange madeToldSpec)) madeToldCard

/-- THE TIED CARD OF 'duodecimolaw11.MadeFewest'. -/
def madeFewestCard : Claim7 := { stood := { row := madeFewestRow, standIns := [], harness := (true, "dedbc0d85653039a4f10100619076d0ca0a586c5f913d06d9cd99e7a999da59e"), looks := false }, kinds := [], alts := [], laidByText := true, laidKinds := [.data, .data], laidTests := true, laidLooks := .later }
def MadeFewestCardSaid : Prop := Claim7.holds Tryd.pinned (.plain (OpenSpec.ofChange madeFewestSpec)) madeFewestCard

/-- THE TIED CARD OF 'duodecimolaw11.MadeProved'. -/
def madeProvedCard : Claim7 := { stood := { row := madeProvedRow, standIns := [], harness := (true, "dedbc0d85653039a4f10100619076d0ca0a586c5f913d06d9cd99e7a999da59e"), looks := false }, kinds := [], alts := [], laidByText := true, laidKinds := [.data, .data], laidTests := true, laidLooks := .later }
def MadeProvedCardSaid : Prop := Claim7.holds Tryd.pinned (.plain (OpenSpec.ofChange madeProvedSpec)) madeProvedCard

/-- THE TIED CARD OF 'duodecimolaw11.MadeWorth'. -/
def madeWorthCard : Claim7 := { stood := { row := madeWorthRow, standIns := [], harness := (true, "dedbc0d85653039a4f10100619076d0ca0a586c5f913d06d9cd99e7a999da59e"), looks := false }, kinds := [], alts := [], laidByText := true, laidKinds := [.data, .data], laidTests := true, laidLooks := .later }
def MadeWorthCardSaid : Prop := Claim7.holds Tryd.pinned (.plain (OpenSpec.ofChange madeWorthSpec)) madeWorthCard

/-- THE TIED CARD OF 'duodecimolaw11.MadeLeaf'. -/
def madeLeafCard : Claim7 := { stood := { row := madeLeafRow, standIns := [], harness := (true, "dedbc0d85653039a4f10100619076d0ca0a586c5f913d06d9cd99e7a999da59e"), looks := false }, kinds := [], alts := [], laidByText := true, laidKinds := [.data, .data], laidTests := true, laidLooks := .later }
def MadeLeafCardSaid : Prop := Claim7.holds Tryd.pinned (.plain (OpenSpec.ofChange madeLeafSpec)) madeLeafCard

/-- THE TIED CARD OF 'duodecimolaw11.MadeExchanged'. -/
def madeExchangedCard : Claim7 := { stood := { row := madeExchangedRow, standIns := [], harness := (true, "dedbc0d85653039a4f10100619076d0ca0a586c5f913d06d9cd99e7a999da59e"), looks := false }, kinds := [], alts := [], laidByText := true, laidKinds := [.data, .data], laidTests := true, laidLooks := .later }
def MadeExchangedCardSaid : Prop := Claim7.holds Tryd.pinned (.plain (OpenSpec.ofChange madeExchangedSpec)) madeExchangedCard

/-- THE TIED CARD OF 'duodecimolaw11.MadeAgain'. -/
def madeAgainCard : Claim7 := { stood := { row := madeAgainRow, standIns := [], harness := (true, "dedbc0d85653039a4f10100619076d0ca0a586c5f913d06d9cd99e7a999da59e"), looks := false }, kinds := [], alts := [], laidByText := true, laidKinds := [.data, .data], laidTests := true, laidLooks := .later }
def MadeAgainCardSaid : Prop := Claim7.holds Tryd.pinned (.plain (OpenSpec.ofChange madeAgainSpec)) madeAgainCard

/-- THE SECOND FORM's CARD OF 'duodecimolaw11.MadeSets'. -/
def madeSetsUptoCard : Claim7 := { stood := { row := madeSetsUptoRow, standIns := [], harness := (true, "dedbc0d85653039a4f10100619076d0ca0a586c5f913d06d9cd99e7a999da59e"), looks := false }, kinds := [], alts := [], laidByText := true, laidKinds := [.data, .data], laidTests := true, laidLooks := .later }
def MadeSetsUptoCardSaid : Prop := Claim7.holds Tryd.pinned (.plain (OpenSpec.upto madeSetsSpec)) madeSetsUptoCard

/-- THE SECOND FORM's CARD OF 'duodecimolaw11.MadeWhole'. -/
def madeWholeUptoCard : Claim7 := { stood := { row := madeWholeUptoRow, standIns := [], harness := (true, "dedbc0d85653039a4f10100619076d0ca0a586c5f913d06d9cd99e7a999da59e"), looks := false }, kinds := [], alts := [], laidByText := true, laidKinds := [.data, .data], laidTests := true, laidLooks := .later }
def MadeWholeUptoCardSaid : Prop := Claim7.holds Tryd.pinned (.plain (OpenSpec.upto madeWholeSpec)) madeWholeUptoCard

/-- THE SECOND FORM's CARD OF 'duodecimolaw11.MadeHands'. -/
def madeHandsUptoCard : Claim7 := { stood := { row := madeHandsUptoRow, standIns := [], harness := (true, "dedbc0d85653039a4f10100619076d0ca0a586c5f913d06d9cd99e7a999da59e"), looks := false }, kinds := [], alts := [], laidByText := true, laidKinds := [.data, .data], laidTests := true, laidLooks := .later }
def MadeHandsUptoCardSaid : Prop := Claim7.holds Tryd.pinned (.plain (OpenSpec.upto madeHandsSpec)) madeHandsUptoCard

/-- THE SECOND FORM's CARD OF 'duodecimolaw11.MadeProofs'. -/
def madeProofsUptoCard : Claim7 := { stood := { row := madeProofsUptoRow, standIns := [], harness := (true, "dedbc0d85653039a4f10100619076d0ca0a586c5f913d06d9cd99e7a999da59e"), looks := false }, kinds := [], alts := [], laidByText := true, laidKinds := [.data, .data], laidTests := true, laidLooks := .later }
def MadeProofsUptoCardSaid : Prop := Claim7.holds Tryd.pinned (.plain (OpenSpec.upto madeProofsSpec)) madeProofsUptoCard

/-- THE SECOND FORM's CARD OF 'duodecimolaw11.MadeKnown'. -/
def madeKnownUptoCard : Claim7 := { stood := { row := madeKnownUptoRow, standIns := [], harness := (true, "dedbc0d85653039a4f10100619076d0ca0a586c5f913d06d9cd99e7a999da59e"), looks := false }, kinds := [], alts := [], laidByText := true, laidKinds := [.data, .data], laidTests := true, laidLooks := .later }
def MadeKnownUptoCardSaid : Prop := Claim7.holds Tryd.pinned (.plain (OpenSpec.upto madeKnownSpec)) madeKnownUptoCard

/-- THE SECOND FORM's CARD OF 'duodecimolaw11.MadeMore'. -/
def madeMoreUptoCard : Claim7 := { stood := { row := madeMoreUptoRow, standIns := [], harness := (true, "dedbc0d85653039a4f10100619076d0ca0a586c5f913d06d9cd99e7a999da59e"), looks := false }, kinds := [], alts := [], laidByText := true, laidKinds := [.data, .data], laidTests := true, laidLooks := .later }
def MadeMoreUptoCardSaid : Prop := Claim7.holds Tryd.pinned (.plain (OpenSpec.upto madeMoreSpec)) madeMoreUptoCard

/-- THE SECOND FORM's CARD OF 'duodecimolaw11.MadeTold'. -/
def madeToldUptoCard : Claim7 := { stood := { row := madeToldUptoRow, standIns := [], harness := (true, "dedbc0d85653039a4f10100619076d0ca0a586c5f913d06d9cd99e7a999da59e"), looks := false }, kinds := [], alts := [], laidByText := true, laidKinds := [.data, .data], laidTests := true, laidLooks := .later }
def MadeToldUptoCardSaid : Prop := Claim7.holds Tryd.pinned (.plain (OpenSpec.upto madeToldSpec)) madeToldUptoCard

/-- THE SECOND FORM's CARD OF 'duodecimolaw11.MadeFewest'. -/
def madeFewestUptoCard : Claim7 := { stood := { row := madeFewestUptoRow, standIns := [], harness := (true, "dedbc0d85653039a4f10100619076d0ca0a586c5f913d06d9cd99e7a999da59e"), looks := false }, kinds := [], alts := [], laidByText := true, laidKinds := [.data, .data], laidTests := true, laidLooks := .later }
def MadeFewestUptoCardSaid : Prop := Claim7.holds Tryd.pinned (.plain (OpenSpec.upto madeFewestSpec)) madeFewestUptoCard

/-- THE SECOND FORM's CARD OF 'duodecimolaw11.MadeProved'. -/
def madeProvedUptoCard : Claim7 := { stood := { row := madeProvedUptoRow, standIns := [], harness := (true, "dedbc0d85653039a4f10100619076d0ca0a586c5f913d06d9cd99e7a999da59e"), looks := false }, kinds := [], alts := [], laidByText := true, laidKinds := [.data, .data], laidTests := true, laidLooks := .later }
def MadeProvedUptoCardSaid : Prop := Claim7.holds Tryd.pinned (.plain (OpenSpec.upto madeProvedSpec)) madeProvedUptoCard

/-- THE SECOND FORM's CARD OF 'duodecimolaw11.MadeWorth'. -/
def madeWorthUptoCard : Claim7 := { stood := { row := madeWorthUptoRow, standIns := [], harness := (true, "dedbc0d85653039a4f10100619076d0ca0a586c5f913d06d9cd99e7a999da59e"), looks := false }, kinds := [], alts := [], laidByText := true, laidKinds := [.data, .data], laidTests := true, laidLooks := .later }
def MadeWorthUptoCardSaid : Prop := Claim7.holds Tryd.pinned (.plain (OpenSpec.upto madeWorthSpec)) madeWorthUptoCard

/-- THE SECOND FORM's CARD OF 'duodecimolaw11.MadeLeaf'. -/
def madeLeafUptoCard : Claim7 := { stood := { row := madeLeafUptoRow, standIns := [], harness := (true, "dedbc0d85653039a4f10100619076d0ca0a586c5f913d06d9cd99e7a999da59e"), looks := false }, kinds := [], alts := [], laidByText := true, laidKinds := [.data, .data], laidTests := true, laidLooks := .later }
def MadeLeafUptoCardSaid : Prop := Claim7.holds Tryd.pinned (.plain (OpenSpec.upto madeLeafSpec)) madeLeafUptoCard

/-- THE SECOND FORM's CARD OF 'duodecimolaw11.MadeExchanged'. -/
def madeExchangedUptoCard : Claim7 := { stood := { row := madeExchangedUptoRow, standIns := [], harness := (true, "dedbc0d85653039a4f10100619076d0ca0a586c5f913d06d9cd99e7a999da59e"), looks := false }, kinds := [], alts := [], laidByText := true, laidKinds := [.data, .data], laidTests := true, laidLooks := .later }
def MadeExchangedUptoCardSaid : Prop := Claim7.holds Tryd.pinned (.plain (OpenSpec.upto madeExchangedSpec)) madeExchangedUptoCard

/-- THE SECOND FORM's CARD OF 'duodecimolaw11.MadeAgain'. -/
def madeAgainUptoCard : Claim7 := { stood := { row := madeAgainUptoRow, standIns := [], harness := (true, "dedbc0d85653039a4f10100619076d0ca0a586c5f913d06d9cd99e7a999da59e"), looks := false }, kinds := [], alts := [], laidByText := true, laidKinds := [.data, .data], laidTests := true, laidLooks := .later }
def MadeAgainUptoCardSaid : Prop := Claim7.holds Tryd.pinned (.plain (OpenSpec.upto madeAgainSpec)) madeAgainUptoCard
end Rows
end Go.Proofs.YtmchcpmkadhmjaaDoor
