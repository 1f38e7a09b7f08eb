/-
  NARROWER THAN 'FOR EVERY INPUT', by the rows' own cells (each row's printed sentence says how): MadeSets: laid · MadeWhole: laid · MadeHands: laid · MadeProofs: laid · MadeKnown: laid · MadeMore: laid · MadeTold: laid · MadeFewest: laid · MadeProved: laid · MadeWorth: laid · MadeLeaf: laid · MadeExchanged: laid · MadeAgain: laid.
  DERIVED. THE GIVEN ROWS OF THIS SEAT. 13 by the template 'for every input the law returns true; each argument reads behind the call as it read before'; 0 by the template 'total and deterministic' (their statements: YtmchcpmkadhmjaaDoorTotals.lean).
  GIVEN WITH THE SEED: the statements are not yours to turn. If you find one false, say at which input.
  Laid BY PROGRAM, IN A SANDBOX (cutbox-rows.mjs): the forced cells as the released guide's own fill.sh prints them over the translation 5f182e50c66beaa9… (all of the seat's roots in one cut). By AI agents, Wed Nov 11 2026. No macro, syntax, notation, axiom, sorry.
-/
import Derived.Test.YtmchcpmkadhmjaaDoorChecked
import GoSem.Claim
import GoSem.ClaimJoined
import GoSem.ClaimMapViews
import Derived.JoinedTies
import Derived.KernelRfl
namespace Go.Proofs.YtmchcpmkadhmjaaDoor
/- THE CELL 'sum', in the pinned program and in every row, IS THE sha256 OF THE DUMP (.gsa) THAT YtmchcpmkadhmjaaDoorProg.lean LOADS. Nothing in Lean hashes anything: it is a label: what it is worth is what the hold of that sum in a sandbox is worth. -/
noncomputable def Tryd.pinned : Pinned := { name := "ytmchcpmkadhmjaadoor", sum := "5f182e50c66beaa9aaff205030ea3e3886858104961284024fc4129584ea4ead", checked := Tryd.checked }
namespace Rows
def none {H : Type} : Left H := { results := [], args := [] }

/- WHAT THE LISTED PACKAGE-LEVEL VARIABLES READ AS WHEN THE CALL BEGINS. Each datum BY PROGRAM (the guide's laid-datum.mjs) off the statement by which the dump's own 'gosem.cut.vars' lays the variable. In a bare row this is a premise. The card (YtmchcpmkadhmjaaDoorCards.lean) ties it to the program's text. -/
def laid_math_bits_deBruijn32tab {H : Type} : DataW H := .agg [.lit (.int .u8 0), .lit (.int .u8 1), .lit (.int .u8 28), .lit (.int .u8 2), .lit (.int .u8 29), .lit (.int .u8 14), .lit (.int .u8 24), .lit (.int .u8 3), .lit (.int .u8 30), .lit (.int .u8 22), .lit (.int .u8 20), .lit (.int .u8 15), .lit (.int .u8 25), .lit (.int .u8 17), .lit (.int .u8 4), .lit (.int .u8 8), .lit (.int .u8 31), .lit (.int .u8 27), .lit (.int .u8 13), .lit (.int .u8 23), .lit (.int .u8 21), .lit (.int .u8 19), .lit (.int .u8 16), .lit (.int .u8 7), .lit (.int .u8 26), .lit (.int .u8 12), .lit (.int .u8 18), .lit (.int .u8 6), .lit (.int .u8 11), .lit (.int .u8 5), .lit (.int .u8 10), .lit (.int .u8 9)]
def laid_math_bits_deBruijn64tab {H : Type} : DataW H := .agg [.lit (.int .u8 0), .lit (.int .u8 1), .lit (.int .u8 56), .lit (.int .u8 2), .lit (.int .u8 57), .lit (.int .u8 49), .lit (.int .u8 28), .lit (.int .u8 3), .lit (.int .u8 61), .lit (.int .u8 58), .lit (.int .u8 42), .lit (.int .u8 50), .lit (.int .u8 38), .lit (.int .u8 29), .lit (.int .u8 17), .lit (.int .u8 4), .lit (.int .u8 62), .lit (.int .u8 47), .lit (.int .u8 59), .lit (.int .u8 36), .lit (.int .u8 45), .lit (.int .u8 43), .lit (.int .u8 51), .lit (.int .u8 22), .lit (.int .u8 53), .lit (.int .u8 39), .lit (.int .u8 33), .lit (.int .u8 30), .lit (.int .u8 24), .lit (.int .u8 18), .lit (.int .u8 12), .lit (.int .u8 5), .lit (.int .u8 63), .lit (.int .u8 55), .lit (.int .u8 48), .lit (.int .u8 27), .lit (.int .u8 60), .lit (.int .u8 41), .lit (.int .u8 37), .lit (.int .u8 16), .lit (.int .u8 46), .lit (.int .u8 35), .lit (.int .u8 44), .lit (.int .u8 21), .lit (.int .u8 52), .lit (.int .u8 32), .lit (.int .u8 23), .lit (.int .u8 11), .lit (.int .u8 54), .lit (.int .u8 26), .lit (.int .u8 40), .lit (.int .u8 15), .lit (.int .u8 34), .lit (.int .u8 20), .lit (.int .u8 31), .lit (.int .u8 10), .lit (.int .u8 25), .lit (.int .u8 14), .lit (.int .u8 19), .lit (.int .u8 9), .lit (.int .u8 13), .lit (.int .u8 8), .lit (.int .u8 7), .lit (.int .u8 6)]

/-- 'duodecimolaw11.MadeSets': WHATEVER THE INPUT: true; the input reads as it did. -/
def madeSetsSpec : ChangeSpec := { name := "madeSets", fn := fun _ => fun
  | [d1, d2] => { results := [.lit (.bool true)], args := [d1, d2] }
  | _ => none }
def madeSetsRow : OpenClaim := { program := "ytmchcpmkadhmjaadoor", sum := "5f182e50c66beaa9aaff205030ea3e3886858104961284024fc4129584ea4ead", func := "duodecimo/duodecimolaw11.MadeSets", spec := "madeSets", unfollowed := true, recurses := true, named := ["math/bits.deBruijn32tab", "math/bits.deBruijn64tab"], plainKeys := false, apart := false, laid := [("math/bits.deBruijn32tab", laid_math_bits_deBruijn32tab), ("math/bits.deBruijn64tab", laid_math_bits_deBruijn64tab)] }
def MadeSetsSaid : Prop := madeSetsRow.holds Tryd.pinned (OpenSpec.ofChange madeSetsSpec)

/-- ITS FALSE NEIGHBOUR: 'it returns false'. Refute it at one input. -/
def madeSetsWrong : ChangeSpec := { name := "madeSets", fn := fun _ => fun
  | [d1, d2] => { results := [.lit (.bool false)], args := [d1, d2] }
  | _ => none }
def MadeSetsWrongFalsely : Prop := madeSetsRow.holds Tryd.pinned (OpenSpec.ofChange madeSetsWrong)

/-- 'duodecimolaw11.MadeWhole': WHATEVER THE INPUT: true; the input reads as it did. -/
def madeWholeSpec : ChangeSpec := { name := "madeWhole", fn := fun _ => fun
  | [d] => { results := [.lit (.bool true)], args := [d] }
  | _ => none }
def madeWholeRow : OpenClaim := { program := "ytmchcpmkadhmjaadoor", sum := "5f182e50c66beaa9aaff205030ea3e3886858104961284024fc4129584ea4ead", func := "duodecimo/duodecimolaw11.MadeWhole", spec := "madeWhole", unfollowed := true, recurses := true, named := ["math/bits.deBruijn32tab", "math/bits.deBruijn64tab"], plainKeys := false, apart := false, laid := [("math/bits.deBruijn32tab", laid_math_bits_deBruijn32tab), ("math/bits.deBruijn64tab", laid_math_bits_deBruijn64tab)] }
def MadeWholeSaid : Prop := madeWholeRow.holds Tryd.pinned (OpenSpec.ofChange madeWholeSpec)

/-- ITS FALSE NEIGHBOUR: 'it returns false'. Refute it at one input. -/
def madeWholeWrong : ChangeSpec := { name := "madeWhole", fn := fun _ => fun
  | [d] => { results := [.lit (.bool false)], args := [d] }
  | _ => none }
def MadeWholeWrongFalsely : Prop := madeWholeRow.holds Tryd.pinned (OpenSpec.ofChange madeWholeWrong)

/-- 'duodecimolaw11.MadeHands': WHATEVER THE INPUT: true; the input reads as it did. -/
def madeHandsSpec : ChangeSpec := { name := "madeHands", fn := fun _ => fun
  | [d] => { results := [.lit (.bool true)], args := [d] }
  | _ => none }
def madeHandsRow : OpenClaim := { program := "ytmchcpmkadhmjaadoor", sum := "5f182e50c66beaa9aaff205030ea3e3886858104961284024fc4129584ea4ead", func := "duodecimo/duodecimolaw11.MadeHands", spec := "madeHands", unfollowed := true, recurses := true, named := ["math/bits.deBruijn32tab", "math/bits.deBruijn64tab"], plainKeys := false, apart := false, laid := [("math/bits.deBruijn32tab", laid_math_bits_deBruijn32tab), ("math/bits.deBruijn64tab", laid_math_bits_deBruijn64tab)] }
def MadeHandsSaid : Prop := madeHandsRow.holds Tryd.pinned (OpenSpec.ofChange madeHandsSpec)

/-- ITS FALSE NEIGHBOUR: 'it returns false'. Refute it at one input. -/
def madeHandsWrong : ChangeSpec := { name := "madeHands", fn := fun _ => fun
  | [d] => { results := [.lit (.bool false)], args := [d] }
  | _ => none }
def MadeHandsWrongFalsely : Prop := madeHandsRow.holds Tryd.pinned (OpenSpec.ofChange madeHandsWrong)

/-- 'duodecimolaw11.MadeProofs': WHATEVER THE INPUT: true; the input reads as it did. -/
def madeProofsSpec : ChangeSpec := { name := "madeProofs", fn := fun _ => fun
  | [d1, d2] => { results := [.lit (.bool true)], args := [d1, d2] }
  | _ => none }
def madeProofsRow : OpenClaim := { program := "ytmchcpmkadhmjaadoor", sum := "5f182e50c66beaa9aaff205030ea3e3886858104961284024fc4129584ea4ead", func := "duodecimo/duodecimolaw11.MadeProofs", spec := "madeProofs", unfollowed := true, recurses := true, named := ["math/bits.deBruijn32tab", "math/bits.deBruijn64tab"], plainKeys := false, apart := false, laid := [("math/bits.deBruijn32tab", laid_math_bits_deBruijn32tab), ("math/bits.deBruijn64tab", laid_math_bits_deBruijn64tab)] }
def MadeProofsSaid : Prop := madeProofsRow.holds Tryd.pinned (OpenSpec.ofChange madeProofsSpec)

/-- ITS FALSE NEIGHBOUR: 'it returns false'. Refute it at one input. -/
def madeProofsWrong : ChangeSpec := { name := "madeProofs", fn := fun _ => fun
  | [d1, d2] => { results := [.lit (.bool false)], args := [d1, d2] }
  | _ => none }
def MadeProofsWrongFalsely : Prop := madeProofsRow.holds Tryd.pinned (OpenSpec.ofChange madeProofsWrong)

/-- 'duodecimolaw11.MadeKnown': WHATEVER THE INPUT: true; the input reads as it did. -/
def madeKnownSpec : ChangeSpec := { name := "madeKnown", fn := fun _ => fun
  | [] => { results := [.lit (.bool true)], args := [] }
  | _ => none }
def madeKnownRow : OpenClaim := { program := "ytmchcpmkadhmjaadoor", sum := "5f182e50c66beaa9aaff205030ea3e3886858104961284024fc4129584ea4ead", func := "duodecimo/duodecimolaw11.MadeKnown", spec := "madeKnown", unfollowed := true, recurses := true, named := ["math/bits.deBruijn32tab", "math/bits.deBruijn64tab"], plainKeys := false, apart := false, laid := [("math/bits.deBruijn32tab", laid_math_bits_deBruijn32tab), ("math/bits.deBruijn64tab", laid_math_bits_deBruijn64tab)] }
def MadeKnownSaid : Prop := madeKnownRow.holds Tryd.pinned (OpenSpec.ofChange madeKnownSpec)

/-- ITS FALSE NEIGHBOUR: 'it returns false'. Refute it at one input. -/
def madeKnownWrong : ChangeSpec := { name := "madeKnown", fn := fun _ => fun
  | [] => { results := [.lit (.bool false)], args := [] }
  | _ => none }
def MadeKnownWrongFalsely : Prop := madeKnownRow.holds Tryd.pinned (OpenSpec.ofChange madeKnownWrong)

/-- 'duodecimolaw11.MadeMore': WHATEVER THE INPUT: true; the input reads as it did. -/
def madeMoreSpec : ChangeSpec := { name := "madeMore", fn := fun _ => fun
  | [d1, d2] => { results := [.lit (.bool true)], args := [d1, d2] }
  | _ => none }
def madeMoreRow : OpenClaim := { program := "ytmchcpmkadhmjaadoor", sum := "5f182e50c66beaa9aaff205030ea3e3886858104961284024fc4129584ea4ead", func := "duodecimo/duodecimolaw11.MadeMore", spec := "madeMore", unfollowed := true, recurses := true, named := ["math/bits.deBruijn32tab", "math/bits.deBruijn64tab"], plainKeys := false, apart := false, laid := [("math/bits.deBruijn32tab", laid_math_bits_deBruijn32tab), ("math/bits.deBruijn64tab", laid_math_bits_deBruijn64tab)] }
def MadeMoreSaid : Prop := madeMoreRow.holds Tryd.pinned (OpenSpec.ofChange madeMoreSpec)

/-- ITS FALSE NEIGHBOUR: 'it returns false'. Refute it at one input. -/
def madeMoreWrong : ChangeSpec := { name := "madeMore", fn := fun _ => fun
  | [d1, d2] => { results := [.lit (.bool false)], args := [d1, d2] }
  | _ => none }
def MadeMoreWrongFalsely : Prop := madeMoreRow.holds Tryd.pinned (OpenSpec.ofChange madeMoreWrong)

/-- 'duodecimolaw11.MadeTold': WHATEVER THE INPUT: true; the input reads as it did. -/
def madeToldSpec : ChangeSpec := { name := "madeTold", fn := fun _ => fun
  | [d1, d2, d3] => { results := [.lit (.bool true)], args := [d1, d2, d3] }
  | _ => none }
def madeToldRow : OpenClaim := { program := "ytmchcpmkadhmjaadoor", sum := "5f182e50c66beaa9aaff205030ea3e3886858104961284024fc4129584ea4ead", func := "duodecimo/duodecimolaw11.MadeTold", spec := "madeTold", unfollowed := true, recurses := true, named := ["math/bits.deBruijn32tab", "math/bits.deBruijn64tab"], plainKeys := false, apart := false, laid := [("math/bits.deBruijn32tab", laid_math_bits_deBruijn32tab), ("math/bits.deBruijn64tab", laid_math_bits_deBruijn64tab)] }
def MadeToldSaid : Prop := madeToldRow.holds Tryd.pinned (OpenSpec.ofChange madeToldSpec)

/-- ITS FALSE NEIGHBOUR: 'it returns false'. Refute it at one input. -/
def madeToldWrong : ChangeSpec := { name := "madeTold", fn := fun _ => fun
  | [d1, d2, d3] => { results := [.lit (.bool false)], args := [d1, d2, d3] }
  | _ => none }
def MadeToldWrongFalsely : Prop := madeToldRow.holds Tryd.pinned (OpenSpec.ofChange madeToldWrong)

/-- 'duodecimolaw11.MadeFewest': WHATEVER THE INPUT: true; the input reads as it did. -/
def madeFewestSpec : ChangeSpec := { name := "madeFewest", fn := fun _ => fun
  | [d1, d2] => { results := [.lit (.bool true)], args := [d1, d2] }
  | _ => none }
def madeFewestRow : OpenClaim := { program := "ytmchcpmkadhmjaadoor", sum := "5f182e50c66beaa9aaff205030ea3e3886858104961284024fc4129584ea4ead", func := "duodecimo/duodecimolaw11.MadeFewest", spec := "madeFewest", unfollowed := true, recurses := true, named := ["math/bits.deBruijn32tab", "math/bits.deBruijn64tab"], plainKeys := false, apart := false, laid := [("math/bits.deBruijn32tab", laid_math_bits_deBruijn32tab), ("math/bits.deBruijn64tab", laid_math_bits_deBruijn64tab)] }
def MadeFewestSaid : Prop := madeFewestRow.holds Tryd.pinned (OpenSpec.ofChange madeFewestSpec)

/-- ITS FALSE NEIGHBOUR: 'it returns false'. Refute it at one input. -/
def madeFewestWrong : ChangeSpec := { name := "madeFewest", fn := fun _ => fun
  | [d1, d2] => { results := [.lit (.bool false)], args := [d1, d2] }
  | _ => none }
def MadeFewestWrongFalsely : Prop := madeFewestRow.holds Tryd.pinned (OpenSpec.ofChange madeFewestWrong)

/-- 'duodecimolaw11.MadeProved': WHATEVER THE INPUT: true; the input reads as it did. -/
def madeProvedSpec : ChangeSpec := { name := "madeProved", fn := fun _ => fun
  | [d1, d2, d3] => { results := [.lit (.bool true)], args := [d1, d2, d3] }
  | _ => none }
def madeProvedRow : OpenClaim := { program := "ytmchcpmkadhmjaadoor", sum := "5f182e50c66beaa9aaff205030ea3e3886858104961284024fc4129584ea4ead", func := "duodecimo/duodecimolaw11.MadeProved", spec := "madeProved", unfollowed := true, recurses := true, named := ["math/bits.deBruijn32tab", "math/bits.deBruijn64tab"], plainKeys := false, apart := false, laid := [("math/bits.deBruijn32tab", laid_math_bits_deBruijn32tab), ("math/bits.deBruijn64tab", laid_math_bits_deBruijn64tab)] }
def MadeProvedSaid : Prop := madeProvedRow.holds Tryd.pinned (OpenSpec.ofChange madeProvedSpec)

/-- ITS FALSE NEIGHBOUR: 'it returns false'. Refute it at one input. -/
def madeProvedWrong : ChangeSpec := { name := "madeProved", fn := fun _ => fun
  | [d1, d2, d3] => { results := [.lit (.bool false)], args := [d1, d2, d3] }
  | _ => none }
def MadeProvedWrongFalsely : Prop := madeProvedRow.holds Tryd.pinned (OpenSpec.ofChange madeProvedWrong)

/-- 'duodecimolaw11.MadeWorth': WHATEVER THE INPUT: true; the input reads as it did. -/
def madeWorthSpec : ChangeSpec := { name := "madeWorth", fn := fun _ => fun
  | [d1, d2] => { results := [.lit (.bool true)], args := [d1, d2] }
  | _ => none }
def madeWorthRow : OpenClaim := { program := "ytmchcpmkadhmjaadoor", sum := "5f182e50c66beaa9aaff205030ea3e3886858104961284024fc4129584ea4ead", func := "duodecimo/duodecimolaw11.MadeWorth", spec := "madeWorth", unfollowed := true, recurses := true, named := ["math/bits.deBruijn32tab", "math/bits.deBruijn64tab"], plainKeys := false, apart := false, laid := [("math/bits.deBruijn32tab", laid_math_bits_deBruijn32tab), ("math/bits.deBruijn64tab", laid_math_bits_deBruijn64tab)] }
def MadeWorthSaid : Prop := madeWorthRow.holds Tryd.pinned (OpenSpec.ofChange madeWorthSpec)

/-- ITS FALSE NEIGHBOUR: 'it returns false'. Refute it at one input. -/
def madeWorthWrong : ChangeSpec := { name := "madeWorth", fn := fun _ => fun
  | [d1, d2] => { results := [.lit (.bool false)], args := [d1, d2] }
  | _ => none }
def MadeWorthWrongFalsely : Prop := madeWorthRow.holds Tryd.pinned (OpenSpec.ofChange madeWorthWrong)

/-- 'duodecimolaw11.MadeLeaf': WHATEVER THE INPUT: true; the input reads as it did. -/
def madeLeafSpec : ChangeSpec := { name := "madeLeaf", fn := fun _ => fun
  | [d1, d2, d3] => { results := [.lit (.bool true)], args := [d1, d2, d3] }
  | _ => none }
def madeLeafRow : OpenClaim := { program := "ytmchcpmkadhmjaadoor", sum := "5f182e50c66beaa9aaff205030ea3e3886858104961284024fc4129584ea4ead", func := "duodecimo/duodecimolaw11.MadeLeaf", spec := "madeLeaf", unfollowed := true, recurses := true, named := ["math/bits.deBruijn32tab", "math/bits.deBruijn64tab"], plainKeys := false, apart := false, laid := [("math/bits.deBruijn32tab", laid_math_bits_deBruijn32tab), ("math/bits.deBruijn64tab", laid_math_bits_deBruijn64tab)] }
def MadeLeafSaid : Prop := madeLeafRow.holds Tryd.pinned (OpenSpec.ofChange madeLeafSpec)

/-- ITS FALSE NEIGHBOUR: 'it returns false'. Refute it at one input. -/
def madeLeafWrong : ChangeSpec := { name := "madeLeaf", fn := fun _ => fun
  | [d1, d2, d3] => { results := [.lit (.bool false)], args := [d1, d2, d3] }
  | _ => none }
def MadeLeafWrongFalsely : Prop := madeLeafRow.holds Tryd.pinned (OpenSpec.ofChange madeLeafWrong)

/-- 'duodecimolaw11.MadeExchanged': WHATEVER THE INPUT: true; the input reads as it did. -/
def madeExchangedSpec : ChangeSpec := { name := "madeExchanged", fn := fun _ => fun
  | [d] => { results := [.lit (.bool true)], args := [d] }
  | _ => none }
def madeExchangedRow : OpenClaim := { program := "ytmchcpmkadhmjaadoor", sum := "5f182e50c66beaa9aaff205030ea3e3886858104961284024fc4129584ea4ead", func := "duodecimo/duodecimolaw11.MadeExchanged", spec := "madeExchanged", unfollowed := true, recurses := true, named := ["math/bits.deBruijn32tab", "math/bits.deBruijn64tab"], plainKeys := false, apart := false, laid := [("math/bits.deBruijn32tab", laid_math_bits_deBruijn32tab), ("math/bits.deBruijn64tab", laid_math_bits_deBruijn64tab)] }
def MadeExchangedSaid : Prop := madeExchangedRow.holds Tryd.pinned (OpenSpec.ofChange madeExchangedSpec)

/-- ITS FALSE NEIGHBOUR: 'it returns false'. Refute it at one input. -/
def madeExchangedWrong : ChangeSpec := { name := "madeExchanged", fn := fun _ => fun
  | [d] => { results := [.lit (.bool false)], args := [d] }
  | _ => none }
def MadeExchangedWrongFalsely : Prop := madeExchangedRow.holds Tryd.pinned (OpenSpec.ofChange madeExchangedWrong)

/-- 'duodecimolaw11.MadeAgain': WHATEVER THE INPUT: true; the input reads as it did. -/
def madeAgainSpec : ChangeSpec := { name := "madeAgain", fn := fun _ => fun
  | [d] => { results := [.lit (.bool true)], args := [d] }
  | _ => none }
def madeAgainRow : OpenClaim := { program := "ytmchcpmkadhmjaadoor", sum := "5f182e50c66beaa9aaff205030ea3e3886858104961284024fc4129584ea4ead", func := "duodecimo/duodecimolaw11.MadeAgain", spec := "madeAgain", unfollowed := true, recurses := true, named := ["math/bits.deBruijn32tab", "math/bits.deBruijn64tab"], plainKeys := false, apart := false, laid := [("math/bits.deBruijn32tab", laid_math_bits_deBruijn32tab), ("math/bits.deBruijn64tab", laid_math_bits_deBruijn64tab)] }
def MadeAgainSaid : Prop := madeAgainRow.holds Tryd.pinned (OpenSpec.ofChange madeAgainSpec)

/-- ITS FALSE NEIGHBOUR: 'it returns false'. Refute it at one input. -/
def madeAgainWrong : ChangeSpec := { name := "madeAgain", fn := fun _ => fun
  | [d] => { results := [.lit (.bool false)], args := [d] }
  | _ => none }
def MadeAgainWrongFalsely : Prop := madeAgainRow.holds Tryd.pinned (OpenSpec.ofChange madeAgainWrong)

/- THE SECOND FORM. 'bulk': how many values and letters a reading holds, each counted each time it is reached (what is shared counts as often as it is met; a slice's spare places count too). A statement '..UptoSaid' is the law's where the arguments, and the package variables that the reading takes, are together of bulk at most 1048576: NARROWER than '..Said'. Prove '..Said' where nothing that the law and all that it calls make is longer than what came in: it says more and counts as full. Else prove '..UptoSaid'. A law counts once. -/
mutual
def uptoBulk {H : Type} : DataW H → Nat
  | .lit (.string bytes) => bytes.length + 1
  | .lit _ => 1
  | .nil => 1
  | .ptr d => uptoBulk d + 1
  | .slice elems spare => uptoBulkAll elems + uptoBulkAll spare + 1
  | .agg parts => uptoBulkAll parts + 1
  | .iface _ d => uptoBulk d + 1
  | .map entries => uptoBulkEntries entries + 1
  | .held _ => 1
def uptoBulkAll {H : Type} : List (DataW H) → Nat
  | [] => 0
  | d :: r => uptoBulk d + uptoBulkAll r
def uptoBulkEntries {H : Type} : List (Lit × DataW H) → Nat
  | [] => 0
  | x :: r => uptoBulkEntry x + uptoBulkEntries r
def uptoBulkEntry {H : Type} : Lit × DataW H → Nat
  | (.string bytes, d) => bytes.length + uptoBulk d + 1
  | (_, d) => uptoBulk d + 1
 end
def uptoSmall : (H : Type) → List (DataW H) → Bool := fun _ ds => decide (uptoBulkAll ds ≤ 1048576)
def OpenSpec.upto (s : _root_.Go.ChangeSpec) : _root_.Go.OpenSpec := { _root_.Go.OpenSpec.ofChange s with cond := some uptoSmall }

/-- 'duodecimolaw11.MadeSets', WHERE WHAT IT READS IS OF BULK AT MOST 1048576: true; the input reads as it did. -/
def madeSetsUptoRow : OpenClaim := { program := "ytmchcpmkadhmjaadoor", sum := "5f182e50c66beaa9aaff205030ea3e3886858104961284024fc4129584ea4ead", func := "duodecimo/duodecimolaw11.MadeSets", spec := "madeSets", unfollowed := true, recurses := true, named := ["math/bits.deBruijn32tab", "math/bits.deBruijn64tab"], plainKeys := false, apart := false, laid := [("math/bits.deBruijn32tab", laid_math_bits_deBruijn32tab), ("math/bits.deBruijn64tab", laid_math_bits_deBruijn64tab)], narrowed := true }
def MadeSetsUptoSaid : Prop := madeSetsUptoRow.holds Tryd.pinned (OpenSpec.upto madeSetsSpec)

/-- 'duodecimolaw11.MadeWhole', WHERE WHAT IT READS IS OF BULK AT MOST 1048576: true; the input reads as it did. -/
def madeWholeUptoRow : OpenClaim := { program := "ytmchcpmkadhmjaadoor", sum := "5f182e50c66beaa9aaff205030ea3e3886858104961284024fc4129584ea4ead", func := "duodecimo/duodecimolaw11.MadeWhole", spec := "madeWhole", unfollowed := true, recurses := true, named := ["math/bits.deBruijn32tab", "math/bits.deBruijn64tab"], plainKeys := false, apart := false, laid := [("math/bits.deBruijn32tab", laid_math_bits_deBruijn32tab), ("math/bits.deBruijn64tab", laid_math_bits_deBruijn64tab)], narrowed := true }
def MadeWholeUptoSaid : Prop := madeWholeUptoRow.holds Tryd.pinned (OpenSpec.upto madeWholeSpec)

/-- 'duodecimolaw11.MadeHands', WHERE WHAT IT READS IS OF BULK AT MOST 1048576: true; the input reads as it did. -/
def madeHandsUptoRow : OpenClaim := { program := "ytmchcpmkadhmjaadoor", sum := "5f182e50c66beaa9aaff205030ea3e3886858104961284024fc4129584ea4ead", func := "duodecimo/duodecimolaw11.MadeHands", spec := "madeHands", unfollowed := true, recurses := true, named := ["math/bits.deBruijn32tab", "math/bits.deBruijn64tab"], plainKeys := false, apart := false, laid := [("math/bits.deBruijn32tab", laid_math_bits_deBruijn32tab), ("math/bits.deBruijn64tab", laid_math_bits_deBruijn64tab)], narrowed := true }
def MadeHandsUptoSaid : Prop := madeHandsUptoRow.holds Tryd.pinned (OpenSpec.upto madeHandsSpec)

/-- 'duodecimolaw11.MadeProofs', WHERE WHAT IT READS IS OF BULK AT MOST 1048576: true; the input reads as it did. -/
def madeProofsUptoRow : OpenClaim := { program := "ytmchcpmkadhmjaadoor", sum := "5f182e50c66beaa9aaff205030ea3e3886858104961284024fc4129584ea4ead", func := "duodecimo/duodecimolaw11.MadeProofs", spec := "madeProofs", unfollowed := true, recurses := true, named := ["math/bits.deBruijn32tab", "math/bits.deBruijn64tab"], plainKeys := false, apart := false, laid := [("math/bits.deBruijn32tab", laid_math_bits_deBruijn32tab), ("math/bits.deBruijn64tab", laid_math_bits_deBruijn64tab)], narrowed := true }
def MadeProofsUptoSaid : Prop := madeProofsUptoRow.holds Tryd.pinned (OpenSpec.upto madeProofsSpec)

/-- 'duodecimolaw11.MadeKnown', WHERE WHAT IT READS IS OF BULK AT MOST 1048576: true; the input reads as it did. -/
def madeKnownUptoRow : OpenClaim := { program := "ytmchcpmkadhmjaadoor", sum := "5f182e50c66beaa9aaff205030ea3e3886858104961284024fc4129584ea4ead", func := "duodecimo/duodecimolaw11.MadeKnown", spec := "madeKnown", unfollowed := true, recurses := true, named := ["math/bits.deBruijn32tab", "math/bits.deBruijn64tab"], plainKeys := false, apart := false, laid := [("math/bits.deBruijn32tab", laid_math_bits_deBruijn32tab), ("math/bits.deBruijn64tab", laid_math_bits_deBruijn64tab)], narrowed := true }
def MadeKnownUptoSaid : Prop := madeKnownUptoRow.holds Tryd.pinned (OpenSpec.upto madeKnownSpec)

/-- 'duodecimolaw11.MadeMore', WHERE WHAT IT READS IS OF BULK AT MOST 1048576: true; the input reads as it did. -/
def madeMoreUptoRow : OpenClaim := { program := "ytmchcpmkadhmjaadoor", sum := "5f182e50c66beaa9aaff205030ea3e3886858104961284024fc4129584ea4ead", func := "duodecimo/duodecimolaw11.MadeMore", spec := "madeMore", unfollowed := true, recurses := true, named := ["math/bits.deBruijn32tab", "math/bits.deBruijn64tab"], plainKeys := false, apart := false, laid := [("math/bits.deBruijn32tab", laid_math_bits_deBruijn32tab), ("math/bits.deBruijn64tab", laid_math_bits_deBruijn64tab)], narrowed := true }
def MadeMoreUptoSaid : Prop := madeMoreUptoRow.holds Tryd.pinned (OpenSpec.upto madeMoreSpec)

/-- 'duodecimolaw11.MadeTold', WHERE WHAT IT READS IS OF BULK AT MOST 1048576: true; the input reads as it did. -/
def madeToldUptoRow : OpenClaim := { program := "ytmchcpmkadhmjaadoor", sum := "5f182e50c66beaa9aaff205030ea3e3886858104961284024fc4129584ea4ead", func := "duodecimo/duodecimolaw11.MadeTold", spec := "madeTold", unfollowed := true, recurses := true, named := ["math/bits.deBruijn32tab", "math/bits.deBruijn64tab"], plainKeys := false, apart := false, laid := [("math/bits.deBruijn32tab", laid_math_bits_deBruijn32tab), ("math/bits.deBruijn64tab", laid_math_bits_deBruijn64tab)], narrowed := true }
def MadeToldUptoSaid : Prop := madeToldUptoRow.holds Tryd.pinned (OpenSpec.upto madeToldSpec)

/-- 'duodecimolaw11.MadeFewest', WHERE WHAT IT READS IS OF BULK AT MOST 1048576: true; the input reads as it did. -/
def madeFewestUptoRow : OpenClaim := { program := "ytmchcpmkadhmjaadoor", sum := "5f182e50c66beaa9aaff205030ea3e3886858104961284024fc4129584ea4ead", func := "duodecimo/duodecimolaw11.MadeFewest", spec := "madeFewest", unfollowed := true, recurses := true, named := ["math/bits.deBruijn32tab", "math/bits.deBruijn64tab"], plainKeys := false, apart := false, laid := [("math/bits.deBruijn32tab", laid_math_bits_deBruijn32tab), ("math/bits.deBruijn64tab", laid_math_bits_deBruijn64tab)], narrowed := true }
def MadeFewestUptoSaid : Prop := madeFewestUptoRow.holds Tryd.pinned (OpenSpec.upto madeFewestSpec)

/-- 'duodecimolaw11.MadeProved', WHERE WHAT IT READS IS OF BULK AT MOST 1048576: true; the input reads as it did. -/
def madeProvedUptoRow : OpenClaim := { program := "ytmchcpmkadhmjaadoor", sum := "5f182e50c66beaa9aaff205030ea3e3886858104961284024fc4129584ea4ead", func := "duodecimo/duodecimolaw11.MadeProved", spec := "madeProved", unfollowed := true, recurses := true, named := ["math/bits.deBruijn32tab", "math/bits.deBruijn64tab"], plainKeys := false, apart := false, laid := [("math/bits.deBruijn32tab", laid_math_bits_deBruijn32tab), ("math/bits.deBruijn64tab", laid_math_bits_deBruijn64tab)], narrowed := true }
def MadeProvedUptoSaid : Prop := madeProvedUptoRow.holds Tryd.pinned (OpenSpec.upto madeProvedSpec)

/-- 'duodecimolaw11.MadeWorth', WHERE WHAT IT READS IS OF BULK AT MOST 1048576: true; the input reads as it did. -/
def madeWorthUptoRow : OpenClaim := { program := "ytmchcpmkadhmjaadoor", sum := "5f182e50c66beaa9aaff205030ea3e3886858104961284024fc4129584ea4ead", func := "duodecimo/duodecimolaw11.MadeWorth", spec := "madeWorth", unfollowed := true, recurses := true, named := ["math/bits.deBruijn32tab", "math/bits.deBruijn64tab"], plainKeys := false, apart := false, laid := [("math/bits.deBruijn32tab", laid_math_bits_deBruijn32tab), ("math/bits.deBruijn64tab", laid_math_bits_deBruijn64tab)], narrowed := true }
def MadeWorthUptoSaid : Prop := madeWorthUptoRow.holds Tryd.pinned (OpenSpec.upto madeWorthSpec)

/-- 'duodecimolaw11.MadeLeaf', WHERE WHAT IT READS IS OF BULK AT MOST 1048576: true; the input reads as it did. -/
def madeLeafUptoRow : OpenClaim := { program := "ytmchcpmkadhmjaadoor", sum := "5f182e50c66beaa9aaff205030ea3e3886858104961284024fc4129584ea4ead", func := "duodecimo/duodecimolaw11.MadeLeaf", spec := "madeLeaf", unfollowed := true, recurses := true, named := ["math/bits.deBruijn32tab", "math/bits.deBruijn64tab"], plainKeys := false, apart := false, laid := [("math/bits.deBruijn32tab", laid_math_bits_deBruijn32tab), ("math/bits.deBruijn64tab", laid_math_bits_deBruijn64tab)], narrowed := true }
def MadeLeafUptoSaid : Prop := madeLeafUptoRow.holds Tryd.pinned (OpenSpec.upto madeLeafSpec)

/-- 'duodecimolaw11.MadeExchanged', WHERE WHAT IT READS IS OF BULK AT MOST 1048576: true; the input reads as it did. -/
def madeExchangedUptoRow : OpenClaim := { program := "ytmchcpmkadhmjaadoor", sum := "5f182e50c66beaa9aaff205030ea3e3886858104961284024fc4129584ea4ead", func := "duodecimo/duodecimolaw11.MadeExchanged", spec := "madeExchanged", unfollowed := true, recurses := true, named := ["math/bits.deBruijn32tab", "math/bits.deBruijn64tab"], plainKeys := false, apart := false, laid := [("math/bits.deBruijn32tab", laid_math_bits_deBruijn32tab), ("math/bits.deBruijn64tab", laid_math_bits_deBruijn64tab)], narrowed := true }
def MadeExchangedUptoSaid : Prop := madeExchangedUptoRow.holds Tryd.pinned (OpenSpec.upto madeExchangedSpec)

/-- 'duodecimolaw11.MadeAgain', WHERE WHAT IT READS IS OF BULK AT MOST 1048576: true; the input reads as it did. -/
def madeAgainUptoRow : OpenClaim := { program := "ytmchcpmkadhmjaadoor", sum := "5f182e50c66beaa9aaff205030ea3e3886858104961284024fc4129584ea4ead", func := "duodecimo/duodecimolaw11.MadeAgain", spec := "madeAgain", unfollowed := true, recurses := true, named := ["math/bits.deBruijn32tab", "math/bits.deBruijn64tab"], plainKeys := false, apart := false, laid := [("math/bits.deBruijn32tab", laid_math_bits_deBruijn32tab), ("math/bits.deBruijn64tab", laid_math_bits_deBruijn64tab)], narrowed := true }
def MadeAgainUptoSaid : Prop := madeAgainUptoRow.holds Tryd.pinned (OpenSpec.upto madeAgainSpec)

end Rows
end Go.Proofs.YtmchcpmkadhmjaaDoor
