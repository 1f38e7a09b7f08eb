/-
  NARROWER THAN 'FOR EVERY INPUT', by the rows' own cells (each row's printed sentence says how): StateOrders: laid · StateLoci: laid · StateCopies: laid · StateWrongs: laid · StateKnown: laid · StateTrue: laid · StateJust: laid · StateProof: laid · StateFewest: laid · StateMore: laid · StateTurned: laid · StateInOrder: laid · StateAgain: laid.
  DERIVED. THE GIVEN ROWS OF THIS SEAT. 13 by the template 'for every input the law returns true; each argument reads behind the call as it read before'; 0 by the template 'total and deterministic' (their statements: YtmhbchljhnfahaaDoorTotals.lean).
  GIVEN WITH THE SEED: the statements are not yours to turn. If you find one false, say at which input.
  Laid BY PROGRAM, IN A SANDBOX (cutbox-rows.mjs): the forced cells as the released guide's own fill.sh prints them over the translation a0762a0686da7eae… (all of the seat's roots in one cut). By AI agents, Wed Nov 11 2026. No macro, syntax, notation, axiom, sorry.
-/
import Derived.Test.YtmhbchljhnfahaaDoorChecked
import GoSem.Claim
import GoSem.ClaimJoined
import GoSem.ClaimMapViews
import Derived.JoinedTies
import Derived.KernelRfl
namespace Go.Proofs.YtmhbchljhnfahaaDoor
/- THE CELL 'sum', in the pinned program and in every row, IS THE sha256 OF THE DUMP (.gsa) THAT YtmhbchljhnfahaaDoorProg.lean LOADS. Nothing in Lean hashes anything: it is a label: what it is worth is what the hold of that sum in a sandbox is worth. -/
noncomputable def Tryd.pinned : Pinned := { name := "ytmhbchljhnfahaadoor", sum := "a0762a0686da7eae77d14913d4635996d2cb47a34f3f3c929f21bfe6837768da", checked := Tryd.checked }
namespace Rows
def none {H : Type} : Left H := { results := [], args := [] }

/- WHAT THE LISTED PACKAGE-LEVEL VARIABLES READ AS WHEN THE CALL BEGINS. Each datum BY PROGRAM (the guide's laid-datum.mjs) off the statement by which the dump's own 'gosem.cut.vars' lays the variable. In a bare row this is a premise. The card (YtmhbchljhnfahaaDoorCards.lean) ties it to the program's text. -/
def laid_math_bits_deBruijn32tab {H : Type} : DataW H := .agg [.lit (.int .u8 0), .lit (.int .u8 1), .lit (.int .u8 28), .lit (.int .u8 2), .lit (.int .u8 29), .lit (.int .u8 14), .lit (.int .u8 24), .lit (.int .u8 3), .lit (.int .u8 30), .lit (.int .u8 22), .lit (.int .u8 20), .lit (.int .u8 15), .lit (.int .u8 25), .lit (.int .u8 17), .lit (.int .u8 4), .lit (.int .u8 8), .lit (.int .u8 31), .lit (.int .u8 27), .lit (.int .u8 13), .lit (.int .u8 23), .lit (.int .u8 21), .lit (.int .u8 19), .lit (.int .u8 16), .lit (.int .u8 7), .lit (.int .u8 26), .lit (.int .u8 12), .lit (.int .u8 18), .lit (.int .u8 6), .lit (.int .u8 11), .lit (.int .u8 5), .lit (.int .u8 10), .lit (.int .u8 9)]
def laid_math_bits_deBruijn64tab {H : Type} : DataW H := .agg [.lit (.int .u8 0), .lit (.int .u8 1), .lit (.int .u8 56), .lit (.int .u8 2), .lit (.int .u8 57), .lit (.int .u8 49), .lit (.int .u8 28), .lit (.int .u8 3), .lit (.int .u8 61), .lit (.int .u8 58), .lit (.int .u8 42), .lit (.int .u8 50), .lit (.int .u8 38), .lit (.int .u8 29), .lit (.int .u8 17), .lit (.int .u8 4), .lit (.int .u8 62), .lit (.int .u8 47), .lit (.int .u8 59), .lit (.int .u8 36), .lit (.int .u8 45), .lit (.int .u8 43), .lit (.int .u8 51), .lit (.int .u8 22), .lit (.int .u8 53), .lit (.int .u8 39), .lit (.int .u8 33), .lit (.int .u8 30), .lit (.int .u8 24), .lit (.int .u8 18), .lit (.int .u8 12), .lit (.int .u8 5), .lit (.int .u8 63), .lit (.int .u8 55), .lit (.int .u8 48), .lit (.int .u8 27), .lit (.int .u8 60), .lit (.int .u8 41), .lit (.int .u8 37), .lit (.int .u8 16), .lit (.int .u8 46), .lit (.int .u8 35), .lit (.int .u8 44), .lit (.int .u8 21), .lit (.int .u8 52), .lit (.int .u8 32), .lit (.int .u8 23), .lit (.int .u8 11), .lit (.int .u8 54), .lit (.int .u8 26), .lit (.int .u8 40), .lit (.int .u8 15), .lit (.int .u8 34), .lit (.int .u8 20), .lit (.int .u8 31), .lit (.int .u8 10), .lit (.int .u8 25), .lit (.int .u8 14), .lit (.int .u8 19), .lit (.int .u8 9), .lit (.int .u8 13), .lit (.int .u8 8), .lit (.int .u8 7), .lit (.int .u8 6)]

/-- 'duodecimolaw03.StateOrders': WHATEVER THE INPUT: true; the input reads as it did. -/
def stateOrdersSpec : ChangeSpec := { name := "stateOrders", fn := fun _ => fun
  | [d1, d2] => { results := [.lit (.bool true)], args := [d1, d2] }
  | _ => none }
def stateOrdersRow : OpenClaim := { program := "ytmhbchljhnfahaadoor", sum := "a0762a0686da7eae77d14913d4635996d2cb47a34f3f3c929f21bfe6837768da", func := "duodecimo/duodecimolaw03.StateOrders", spec := "stateOrders", unfollowed := true, recurses := true, named := ["math/bits.deBruijn32tab", "math/bits.deBruijn64tab"], plainKeys := false, apart := false, laid := [("math/bits.deBruijn32tab", laid_math_bits_deBruijn32tab), ("math/bits.deBruijn64tab", laid_math_bits_deBruijn64tab)] }
def StateOrdersSaid : Prop := stateOrdersRow.holds Tryd.pinned (OpenSpec.ofChange stateOrdersSpec)

/-- ITS FALSE NEIGHBOUR: 'it returns false'. Refute it at one input. -/
def stateOrdersWrong : ChangeSpec := { name := "stateOrders", fn := fun _ => fun
  | [d1, d2] => { results := [.lit (.bool false)], args := [d1, d2] }
  | _ => none }
def StateOrdersWrongFalsely : Prop := stateOrdersRow.holds Tryd.pinned (OpenSpec.ofChange stateOrdersWrong)

/-- 'duodecimolaw03.StateLoci': WHATEVER THE INPUT: true; the input reads as it did. -/
def stateLociSpec : ChangeSpec := { name := "stateLoci", fn := fun _ => fun
  | [d1, d2] => { results := [.lit (.bool true)], args := [d1, d2] }
  | _ => none }
def stateLociRow : OpenClaim := { program := "ytmhbchljhnfahaadoor", sum := "a0762a0686da7eae77d14913d4635996d2cb47a34f3f3c929f21bfe6837768da", func := "duodecimo/duodecimolaw03.StateLoci", spec := "stateLoci", unfollowed := true, recurses := true, named := ["math/bits.deBruijn32tab", "math/bits.deBruijn64tab"], plainKeys := false, apart := false, laid := [("math/bits.deBruijn32tab", laid_math_bits_deBruijn32tab), ("math/bits.deBruijn64tab", laid_math_bits_deBruijn64tab)] }
def StateLociSaid : Prop := stateLociRow.holds Tryd.pinned (OpenSpec.ofChange stateLociSpec)

/-- ITS FALSE NEIGHBOUR: 'it returns false'. Refute it at one input. -/
def stateLociWrong : ChangeSpec := { name := "stateLoci", fn := fun _ => fun
  | [d1, d2] => { results := [.lit (.bool false)], args := [d1, d2] }
  | _ => none }
def StateLociWrongFalsely : Prop := stateLociRow.holds Tryd.pinned (OpenSpec.ofChange stateLociWrong)

/-- 'duodecimolaw03.StateCopies': WHATEVER THE INPUT: true; the input reads as it did. -/
def stateCopiesSpec : ChangeSpec := { name := "stateCopies", fn := fun _ => fun
  | [d1, d2] => { results := [.lit (.bool true)], args := [d1, d2] }
  | _ => none }
def stateCopiesRow : OpenClaim := { program := "ytmhbchljhnfahaadoor", sum := "a0762a0686da7eae77d14913d4635996d2cb47a34f3f3c929f21bfe6837768da", func := "duodecimo/duodecimolaw03.StateCopies", spec := "stateCopies", unfollowed := true, recurses := true, named := ["math/bits.deBruijn32tab", "math/bits.deBruijn64tab"], plainKeys := false, apart := false, laid := [("math/bits.deBruijn32tab", laid_math_bits_deBruijn32tab), ("math/bits.deBruijn64tab", laid_math_bits_deBruijn64tab)] }
def StateCopiesSaid : Prop := stateCopiesRow.holds Tryd.pinned (OpenSpec.ofChange stateCopiesSpec)

/-- ITS FALSE NEIGHBOUR: 'it returns false'. Refute it at one input. -/
def stateCopiesWrong : ChangeSpec := { name := "stateCopies", fn := fun _ => fun
  | [d1, d2] => { results := [.lit (.bool false)], args := [d1, d2] }
  | _ => none }
def StateCopiesWrongFalsely : Prop := stateCopiesRow.holds Tryd.pinned (OpenSpec.ofChange stateCopiesWrong)

/-- 'duodecimolaw03.StateWrongs': WHATEVER THE INPUT: true; the input reads as it did. -/
def stateWrongsSpec : ChangeSpec := { name := "stateWrongs", fn := fun _ => fun
  | [d] => { results := [.lit (.bool true)], args := [d] }
  | _ => none }
def stateWrongsRow : OpenClaim := { program := "ytmhbchljhnfahaadoor", sum := "a0762a0686da7eae77d14913d4635996d2cb47a34f3f3c929f21bfe6837768da", func := "duodecimo/duodecimolaw03.StateWrongs", spec := "stateWrongs", unfollowed := true, recurses := true, named := ["math/bits.deBruijn32tab", "math/bits.deBruijn64tab"], plainKeys := false, apart := false, laid := [("math/bits.deBruijn32tab", laid_math_bits_deBruijn32tab), ("math/bits.deBruijn64tab", laid_math_bits_deBruijn64tab)] }
def StateWrongsSaid : Prop := stateWrongsRow.holds Tryd.pinned (OpenSpec.ofChange stateWrongsSpec)

/-- ITS FALSE NEIGHBOUR: 'it returns false'. Refute it at one input. -/
def stateWrongsWrong : ChangeSpec := { name := "stateWrongs", fn := fun _ => fun
  | [d] => { results := [.lit (.bool false)], args := [d] }
  | _ => none }
def StateWrongsWrongFalsely : Prop := stateWrongsRow.holds Tryd.pinned (OpenSpec.ofChange stateWrongsWrong)

/-- 'duodecimolaw03.StateKnown': WHATEVER THE INPUT: true; the input reads as it did. -/
def stateKnownSpec : ChangeSpec := { name := "stateKnown", fn := fun _ => fun
  | [] => { results := [.lit (.bool true)], args := [] }
  | _ => none }
def stateKnownRow : OpenClaim := { program := "ytmhbchljhnfahaadoor", sum := "a0762a0686da7eae77d14913d4635996d2cb47a34f3f3c929f21bfe6837768da", func := "duodecimo/duodecimolaw03.StateKnown", spec := "stateKnown", unfollowed := true, recurses := true, named := ["math/bits.deBruijn32tab", "math/bits.deBruijn64tab"], plainKeys := false, apart := false, laid := [("math/bits.deBruijn32tab", laid_math_bits_deBruijn32tab), ("math/bits.deBruijn64tab", laid_math_bits_deBruijn64tab)] }
def StateKnownSaid : Prop := stateKnownRow.holds Tryd.pinned (OpenSpec.ofChange stateKnownSpec)

/-- ITS FALSE NEIGHBOUR: 'it returns false'. Refute it at one input. -/
def stateKnownWrong : ChangeSpec := { name := "stateKnown", fn := fun _ => fun
  | [] => { results := [.lit (.bool false)], args := [] }
  | _ => none }
def StateKnownWrongFalsely : Prop := stateKnownRow.holds Tryd.pinned (OpenSpec.ofChange stateKnownWrong)

/-- 'duodecimolaw03.StateTrue': WHATEVER THE INPUT: true; the input reads as it did. -/
def stateTrueSpec : ChangeSpec := { name := "stateTrue", fn := fun _ => fun
  | [d1, d2, d3] => { results := [.lit (.bool true)], args := [d1, d2, d3] }
  | _ => none }
def stateTrueRow : OpenClaim := { program := "ytmhbchljhnfahaadoor", sum := "a0762a0686da7eae77d14913d4635996d2cb47a34f3f3c929f21bfe6837768da", func := "duodecimo/duodecimolaw03.StateTrue", spec := "stateTrue", unfollowed := true, recurses := true, named := ["math/bits.deBruijn32tab", "math/bits.deBruijn64tab"], plainKeys := false, apart := false, laid := [("math/bits.deBruijn32tab", laid_math_bits_deBruijn32tab), ("math/bits.deBruijn64tab", laid_math_bits_deBruijn64tab)] }
def StateTrueSaid : Prop := stateTrueRow.holds Tryd.pinned (OpenSpec.ofChange stateTrueSpec)

/-- ITS FALSE NEIGHBOUR: 'it returns false'. Refute it at one input. -/
def stateTrueWrong : ChangeSpec := { name := "stateTrue", fn := fun _ => fun
  | [d1, d2, d3] => { results := [.lit (.bool false)], args := [d1, d2, d3] }
  | _ => none }
def StateTrueWrongFalsely : Prop := stateTrueRow.holds Tryd.pinned (OpenSpec.ofChange stateTrueWrong)

/-- 'duodecimolaw03.StateJust': WHATEVER THE INPUT: true; the input reads as it did. -/
def stateJustSpec : ChangeSpec := { name := "stateJust", fn := fun _ => fun
  | [d1, d2] => { results := [.lit (.bool true)], args := [d1, d2] }
  | _ => none }
def stateJustRow : OpenClaim := { program := "ytmhbchljhnfahaadoor", sum := "a0762a0686da7eae77d14913d4635996d2cb47a34f3f3c929f21bfe6837768da", func := "duodecimo/duodecimolaw03.StateJust", spec := "stateJust", unfollowed := true, recurses := true, named := ["math/bits.deBruijn32tab", "math/bits.deBruijn64tab"], plainKeys := false, apart := false, laid := [("math/bits.deBruijn32tab", laid_math_bits_deBruijn32tab), ("math/bits.deBruijn64tab", laid_math_bits_deBruijn64tab)] }
def StateJustSaid : Prop := stateJustRow.holds Tryd.pinned (OpenSpec.ofChange stateJustSpec)

/-- ITS FALSE NEIGHBOUR: 'it returns false'. Refute it at one input. -/
def stateJustWrong : ChangeSpec := { name := "stateJust", fn := fun _ => fun
  | [d1, d2] => { results := [.lit (.bool false)], args := [d1, d2] }
  | _ => none }
def StateJustWrongFalsely : Prop := stateJustRow.holds Tryd.pinned (OpenSpec.ofChange stateJustWrong)

/-- 'duodecimolaw03.StateProof': WHATEVER THE INPUT: true; the input reads as it did. -/
def stateProofSpec : ChangeSpec := { name := "stateProof", fn := fun _ => fun
  | [d1, d2] => { results := [.lit (.bool true)], args := [d1, d2] }
  | _ => none }
def stateProofRow : OpenClaim := { program := "ytmhbchljhnfahaadoor", sum := "a0762a0686da7eae77d14913d4635996d2cb47a34f3f3c929f21bfe6837768da", func := "duodecimo/duodecimolaw03.StateProof", spec := "stateProof", unfollowed := true, recurses := true, named := ["math/bits.deBruijn32tab", "math/bits.deBruijn64tab"], plainKeys := false, apart := false, laid := [("math/bits.deBruijn32tab", laid_math_bits_deBruijn32tab), ("math/bits.deBruijn64tab", laid_math_bits_deBruijn64tab)] }
def StateProofSaid : Prop := stateProofRow.holds Tryd.pinned (OpenSpec.ofChange stateProofSpec)

/-- ITS FALSE NEIGHBOUR: 'it returns false'. Refute it at one input. -/
def stateProofWrong : ChangeSpec := { name := "stateProof", fn := fun _ => fun
  | [d1, d2] => { results := [.lit (.bool false)], args := [d1, d2] }
  | _ => none }
def StateProofWrongFalsely : Prop := stateProofRow.holds Tryd.pinned (OpenSpec.ofChange stateProofWrong)

/-- 'duodecimolaw03.StateFewest': WHATEVER THE INPUT: true; the input reads as it did. -/
def stateFewestSpec : ChangeSpec := { name := "stateFewest", fn := fun _ => fun
  | [d1, d2, d3] => { results := [.lit (.bool true)], args := [d1, d2, d3] }
  | _ => none }
def stateFewestRow : OpenClaim := { program := "ytmhbchljhnfahaadoor", sum := "a0762a0686da7eae77d14913d4635996d2cb47a34f3f3c929f21bfe6837768da", func := "duodecimo/duodecimolaw03.StateFewest", spec := "stateFewest", unfollowed := true, recurses := true, named := ["math/bits.deBruijn32tab", "math/bits.deBruijn64tab"], plainKeys := false, apart := false, laid := [("math/bits.deBruijn32tab", laid_math_bits_deBruijn32tab), ("math/bits.deBruijn64tab", laid_math_bits_deBruijn64tab)] }
def StateFewestSaid : Prop := stateFewestRow.holds Tryd.pinned (OpenSpec.ofChange stateFewestSpec)

/-- ITS FALSE NEIGHBOUR: 'it returns false'. Refute it at one input. -/
def stateFewestWrong : ChangeSpec := { name := "stateFewest", fn := fun _ => fun
  | [d1, d2, d3] => { results := [.lit (.bool false)], args := [d1, d2, d3] }
  | _ => none }
def StateFewestWrongFalsely : Prop := stateFewestRow.holds Tryd.pinned (OpenSpec.ofChange stateFewestWrong)

/-- 'duodecimolaw03.StateMore': WHATEVER THE INPUT: true; the input reads as it did. -/
def stateMoreSpec : ChangeSpec := { name := "stateMore", fn := fun _ => fun
  | [d1, d2, d3] => { results := [.lit (.bool true)], args := [d1, d2, d3] }
  | _ => none }
def stateMoreRow : OpenClaim := { program := "ytmhbchljhnfahaadoor", sum := "a0762a0686da7eae77d14913d4635996d2cb47a34f3f3c929f21bfe6837768da", func := "duodecimo/duodecimolaw03.StateMore", spec := "stateMore", unfollowed := true, recurses := true, named := ["math/bits.deBruijn32tab", "math/bits.deBruijn64tab"], plainKeys := false, apart := false, laid := [("math/bits.deBruijn32tab", laid_math_bits_deBruijn32tab), ("math/bits.deBruijn64tab", laid_math_bits_deBruijn64tab)] }
def StateMoreSaid : Prop := stateMoreRow.holds Tryd.pinned (OpenSpec.ofChange stateMoreSpec)

/-- ITS FALSE NEIGHBOUR: 'it returns false'. Refute it at one input. -/
def stateMoreWrong : ChangeSpec := { name := "stateMore", fn := fun _ => fun
  | [d1, d2, d3] => { results := [.lit (.bool false)], args := [d1, d2, d3] }
  | _ => none }
def StateMoreWrongFalsely : Prop := stateMoreRow.holds Tryd.pinned (OpenSpec.ofChange stateMoreWrong)

/-- 'duodecimolaw03.StateTurned': WHATEVER THE INPUT: true; the input reads as it did. -/
def stateTurnedSpec : ChangeSpec := { name := "stateTurned", fn := fun _ => fun
  | [d1, d2] => { results := [.lit (.bool true)], args := [d1, d2] }
  | _ => none }
def stateTurnedRow : OpenClaim := { program := "ytmhbchljhnfahaadoor", sum := "a0762a0686da7eae77d14913d4635996d2cb47a34f3f3c929f21bfe6837768da", func := "duodecimo/duodecimolaw03.StateTurned", spec := "stateTurned", unfollowed := true, recurses := true, named := ["math/bits.deBruijn32tab", "math/bits.deBruijn64tab"], plainKeys := false, apart := false, laid := [("math/bits.deBruijn32tab", laid_math_bits_deBruijn32tab), ("math/bits.deBruijn64tab", laid_math_bits_deBruijn64tab)] }
def StateTurnedSaid : Prop := stateTurnedRow.holds Tryd.pinned (OpenSpec.ofChange stateTurnedSpec)

/-- ITS FALSE NEIGHBOUR: 'it returns false'. Refute it at one input. -/
def stateTurnedWrong : ChangeSpec := { name := "stateTurned", fn := fun _ => fun
  | [d1, d2] => { results := [.lit (.bool false)], args := [d1, d2] }
  | _ => none }
def StateTurnedWrongFalsely : Prop := stateTurnedRow.holds Tryd.pinned (OpenSpec.ofChange stateTurnedWrong)

/-- 'duodecimolaw03.StateInOrder': WHATEVER THE INPUT: true; the input reads as it did. -/
def stateInOrderSpec : ChangeSpec := { name := "stateInOrder", fn := fun _ => fun
  | [d1, d2] => { results := [.lit (.bool true)], args := [d1, d2] }
  | _ => none }
def stateInOrderRow : OpenClaim := { program := "ytmhbchljhnfahaadoor", sum := "a0762a0686da7eae77d14913d4635996d2cb47a34f3f3c929f21bfe6837768da", func := "duodecimo/duodecimolaw03.StateInOrder", spec := "stateInOrder", unfollowed := true, recurses := true, named := ["math/bits.deBruijn32tab", "math/bits.deBruijn64tab"], plainKeys := false, apart := false, laid := [("math/bits.deBruijn32tab", laid_math_bits_deBruijn32tab), ("math/bits.deBruijn64tab", laid_math_bits_deBruijn64tab)] }
def StateInOrderSaid : Prop := stateInOrderRow.holds Tryd.pinned (OpenSpec.ofChange stateInOrderSpec)

/-- ITS FALSE NEIGHBOUR: 'it returns false'. Refute it at one input. -/
def stateInOrderWrong : ChangeSpec := { name := "stateInOrder", fn := fun _ => fun
  | [d1, d2] => { results := [.lit (.bool false)], args := [d1, d2] }
  | _ => none }
def StateInOrderWrongFalsely : Prop := stateInOrderRow.holds Tryd.pinned (OpenSpec.ofChange stateInOrderWrong)

/-- 'duodecimolaw03.StateAgain': WHATEVER THE INPUT: true; the input reads as it did. -/
def stateAgainSpec : ChangeSpec := { name := "stateAgain", fn := fun _ => fun
  | [d1, d2, d3] => { results := [.lit (.bool true)], args := [d1, d2, d3] }
  | _ => none }
def stateAgainRow : OpenClaim := { program := "ytmhbchljhnfahaadoor", sum := "a0762a0686da7eae77d14913d4635996d2cb47a34f3f3c929f21bfe6837768da", func := "duodecimo/duodecimolaw03.StateAgain", spec := "stateAgain", unfollowed := true, recurses := true, named := ["math/bits.deBruijn32tab", "math/bits.deBruijn64tab"], plainKeys := false, apart := false, laid := [("math/bits.deBruijn32tab", laid_math_bits_deBruijn32tab), ("math/bits.deBruijn64tab", laid_math_bits_deBruijn64tab)] }
def StateAgainSaid : Prop := stateAgainRow.holds Tryd.pinned (OpenSpec.ofChange stateAgainSpec)

/-- ITS FALSE NEIGHBOUR: 'it returns false'. Refute it at one input. -/
def stateAgainWrong : ChangeSpec := { name := "stateAgain", fn := fun _ => fun
  | [d1, d2, d3] => { results := [.lit (.bool false)], args := [d1, d2, d3] }
  | _ => none }
def StateAgainWrongFalsely : Prop := stateAgainRow.holds Tryd.pinned (OpenSpec.ofChange stateAgainWrong)

/- THE SECOND FORM. 'bulk': how many values and letters a reading holds, each counted each time it is reached (what is shared counts as often as it is met; a slice's spare places count too). A statement '..UptoSaid' is the law's where the arguments, and the package variables that the reading takes, are together of bulk at most 1048576: NARROWER than '..Said'. Prove '..Said' where nothing that the law and all that it calls make is longer than what came in: it says more and counts as full. Else prove '..UptoSaid'. A law counts once. -/
mutual
def uptoBulk {H : Type} : DataW H → Nat
  | .lit (.string bytes) => bytes.length + 1
  | .lit _ => 1
  | .nil => 1
  | .ptr d => uptoBulk d + 1
  | .slice elems spare => uptoBulkAll elems + uptoBulkAll spare + 1
  | .agg parts => uptoBulkAll parts + 1
  | .iface _ d => uptoBulk d + 1
  | .map entries => uptoBulkEntries entries + 1
  | .held _ => 1
def uptoBulkAll {H : Type} : List (DataW H) → Nat
  | [] => 0
  | d :: r => uptoBulk d + uptoBulkAll r
def uptoBulkEntries {H : Type} : List (Lit × DataW H) → Nat
  | [] => 0
  | x :: r => uptoBulkEntry x + uptoBulkEntries r
def uptoBulkEntry {H : Type} : Lit × DataW H → Nat
  | (.string bytes, d) => bytes.length + uptoBulk d + 1
  | (_, d) => uptoBulk d + 1
 end
def uptoSmall : (H : Type) → List (DataW H) → Bool := fun _ ds => decide (uptoBulkAll ds ≤ 1048576)
def OpenSpec.upto (s : _root_.Go.ChangeSpec) : _root_.Go.OpenSpec := { _root_.Go.OpenSpec.ofChange s with cond := some uptoSmall }

/-- 'duodecimolaw03.StateOrders', WHERE WHAT IT READS IS OF BULK AT MOST 1048576: true; the input reads as it did. -/
def stateOrdersUptoRow : OpenClaim := { program := "ytmhbchljhnfahaadoor", sum := "a0762a0686da7eae77d14913d4635996d2cb47a34f3f3c929f21bfe6837768da", func := "duodecimo/duodecimolaw03.StateOrders", spec := "stateOrders", unfollowed := true, recurses := true, named := ["math/bits.deBruijn32tab", "math/bits.deBruijn64tab"], plainKeys := false, apart := false, laid := [("math/bits.deBruijn32tab", laid_math_bits_deBruijn32tab), ("math/bits.deBruijn64tab", laid_math_bits_deBruijn64tab)], narrowed := true }
def StateOrdersUptoSaid : Prop := stateOrdersUptoRow.holds Tryd.pinned (OpenSpec.upto stateOrdersSpec)

/-- 'duodecimolaw03.StateLoci', WHERE WHAT IT READS IS OF BULK AT MOST 1048576: true; the input reads as it did. -/
def stateLociUptoRow : OpenClaim := { program := "ytmhbchljhnfahaadoor", sum := "a0762a0686da7eae77d14913d4635996d2cb47a34f3f3c929f21bfe6837768da", func := "duodecimo/duodecimolaw03.StateLoci", spec := "stateLoci", unfollowed := true, recurses := true, named := ["math/bits.deBruijn32tab", "math/bits.deBruijn64tab"], plainKeys := false, apart := false, laid := [("math/bits.deBruijn32tab", laid_math_bits_deBruijn32tab), ("math/bits.deBruijn64tab", laid_math_bits_deBruijn64tab)], narrowed := true }
def StateLociUptoSaid : Prop := stateLociUptoRow.holds Tryd.pinned (OpenSpec.upto stateLociSpec)

/-- 'duodecimolaw03.StateCopies', WHERE WHAT IT READS IS OF BULK AT MOST 1048576: true; the input reads as it did. -/
def stateCopiesUptoRow : OpenClaim := { program := "ytmhbchljhnfahaadoor", sum := "a0762a0686da7eae77d14913d4635996d2cb47a34f3f3c929f21bfe6837768da", func := "duodecimo/duodecimolaw03.StateCopies", spec := "stateCopies", unfollowed := true, recurses := true, named := ["math/bits.deBruijn32tab", "math/bits.deBruijn64tab"], plainKeys := false, apart := false, laid := [("math/bits.deBruijn32tab", laid_math_bits_deBruijn32tab), ("math/bits.deBruijn64tab", laid_math_bits_deBruijn64tab)], narrowed := true }
def StateCopiesUptoSaid : Prop := stateCopiesUptoRow.holds Tryd.pinned (OpenSpec.upto stateCopiesSpec)

/-- 'duodecimolaw03.StateWrongs', WHERE WHAT IT READS IS OF BULK AT MOST 1048576: true; the input reads as it did. -/
def stateWrongsUptoRow : OpenClaim := { program := "ytmhbchljhnfahaadoor", sum := "a0762a0686da7eae77d14913d4635996d2cb47a34f3f3c929f21bfe6837768da", func := "duodecimo/duodecimolaw03.StateWrongs", spec := "stateWrongs", unfollowed := true, recurses := true, named := ["math/bits.deBruijn32tab", "math/bits.deBruijn64tab"], plainKeys := false, apart := false, laid := [("math/bits.deBruijn32tab", laid_math_bits_deBruijn32tab), ("math/bits.deBruijn64tab", laid_math_bits_deBruijn64tab)], narrowed := true }
def StateWrongsUptoSaid : Prop := stateWrongsUptoRow.holds Tryd.pinned (OpenSpec.upto stateWrongsSpec)

/-- 'duodecimolaw03.StateKnown', WHERE WHAT IT READS IS OF BULK AT MOST 1048576: true; the input reads as it did. -/
def stateKnownUptoRow : OpenClaim := { program := "ytmhbchljhnfahaadoor", sum := "a0762a0686da7eae77d14913d4635996d2cb47a34f3f3c929f21bfe6837768da", func := "duodecimo/duodecimolaw03.StateKnown", spec := "stateKnown", unfollowed := true, recurses := true, named := ["math/bits.deBruijn32tab", "math/bits.deBruijn64tab"], plainKeys := false, apart := false, laid := [("math/bits.deBruijn32tab", laid_math_bits_deBruijn32tab), ("math/bits.deBruijn64tab", laid_math_bits_deBruijn64tab)], narrowed := true }
def StateKnownUptoSaid : Prop := stateKnownUptoRow.holds Tryd.pinned (OpenSpec.upto stateKnownSpec)

/-- 'duodecimolaw03.StateTrue', WHERE WHAT IT READS IS OF BULK AT MOST 1048576: true; the input reads as it did. -/
def stateTrueUptoRow : OpenClaim := { program := "ytmhbchljhnfahaadoor", sum := "a0762a0686da7eae77d14913d4635996d2cb47a34f3f3c929f21bfe6837768da", func := "duodecimo/duodecimolaw03.StateTrue", spec := "stateTrue", unfollowed := true, recurses := true, named := ["math/bits.deBruijn32tab", "math/bits.deBruijn64tab"], plainKeys := false, apart := false, laid := [("math/bits.deBruijn32tab", laid_math_bits_deBruijn32tab), ("math/bits.deBruijn64tab", laid_math_bits_deBruijn64tab)], narrowed := true }
def StateTrueUptoSaid : Prop := stateTrueUptoRow.holds Tryd.pinned (OpenSpec.upto stateTrueSpec)

/-- 'duodecimolaw03.StateJust', WHERE WHAT IT READS IS OF BULK AT MOST 1048576: true; the input reads as it did. -/
def stateJustUptoRow : OpenClaim := { program := "ytmhbchljhnfahaadoor", sum := "a0762a0686da7eae77d14913d4635996d2cb47a34f3f3c929f21bfe6837768da", func := "duodecimo/duodecimolaw03.StateJust", spec := "stateJust", unfollowed := true, recurses := true, named := ["math/bits.deBruijn32tab", "math/bits.deBruijn64tab"], plainKeys := false, apart := false, laid := [("math/bits.deBruijn32tab", laid_math_bits_deBruijn32tab), ("math/bits.deBruijn64tab", laid_math_bits_deBruijn64tab)], narrowed := true }
def StateJustUptoSaid : Prop := stateJustUptoRow.holds Tryd.pinned (OpenSpec.upto stateJustSpec)

/-- 'duodecimolaw03.StateProof', WHERE WHAT IT READS IS OF BULK AT MOST 1048576: true; the input reads as it did. -/
def stateProofUptoRow : OpenClaim := { program := "ytmhbchljhnfahaadoor", sum := "a0762a0686da7eae77d14913d4635996d2cb47a34f3f3c929f21bfe6837768da", func := "duodecimo/duodecimolaw03.StateProof", spec := "stateProof", unfollowed := true, recurses := true, named := ["math/bits.deBruijn32tab", "math/bits.deBruijn64tab"], plainKeys := false, apart := false, laid := [("math/bits.deBruijn32tab", laid_math_bits_deBruijn32tab), ("math/bits.deBruijn64tab", laid_math_bits_deBruijn64tab)], narrowed := true }
def StateProofUptoSaid : Prop := stateProofUptoRow.holds Tryd.pinned (OpenSpec.upto stateProofSpec)

/-- 'duodecimolaw03.StateFewest', WHERE WHAT IT READS IS OF BULK AT MOST 1048576: true; the input reads as it did. -/
def stateFewestUptoRow : OpenClaim := { program := "ytmhbchljhnfahaadoor", sum := "a0762a0686da7eae77d14913d4635996d2cb47a34f3f3c929f21bfe6837768da", func := "duodecimo/duodecimolaw03.StateFewest", spec := "stateFewest", unfollowed := true, recurses := true, named := ["math/bits.deBruijn32tab", "math/bits.deBruijn64tab"], plainKeys := false, apart := false, laid := [("math/bits.deBruijn32tab", laid_math_bits_deBruijn32tab), ("math/bits.deBruijn64tab", laid_math_bits_deBruijn64tab)], narrowed := true }
def StateFewestUptoSaid : Prop := stateFewestUptoRow.holds Tryd.pinned (OpenSpec.upto stateFewestSpec)

/-- 'duodecimolaw03.StateMore', WHERE WHAT IT READS IS OF BULK AT MOST 1048576: true; the input reads as it did. -/
def stateMoreUptoRow : OpenClaim := { program := "ytmhbchljhnfahaadoor", sum := "a0762a0686da7eae77d14913d4635996d2cb47a34f3f3c929f21bfe6837768da", func := "duodecimo/duodecimolaw03.StateMore", spec := "stateMore", unfollowed := true, recurses := true, named := ["math/bits.deBruijn32tab", "math/bits.deBruijn64tab"], plainKeys := false, apart := false, laid := [("math/bits.deBruijn32tab", laid_math_bits_deBruijn32tab), ("math/bits.deBruijn64tab", laid_math_bits_deBruijn64tab)], narrowed := true }
def StateMoreUptoSaid : Prop := stateMoreUptoRow.holds Tryd.pinned (OpenSpec.upto stateMoreSpec)

/-- 'duodecimolaw03.StateTurned', WHERE WHAT IT READS IS OF BULK AT MOST 1048576: true; the input reads as it did. -/
def stateTurnedUptoRow : OpenClaim := { program := "ytmhbchljhnfahaadoor", sum := "a0762a0686da7eae77d14913d4635996d2cb47a34f3f3c929f21bfe6837768da", func := "duodecimo/duodecimolaw03.StateTurned", spec := "stateTurned", unfollowed := true, recurses := true, named := ["math/bits.deBruijn32tab", "math/bits.deBruijn64tab"], plainKeys := false, apart := false, laid := [("math/bits.deBruijn32tab", laid_math_bits_deBruijn32tab), ("math/bits.deBruijn64tab", laid_math_bits_deBruijn64tab)], narrowed := true }
def StateTurnedUptoSaid : Prop := stateTurnedUptoRow.holds Tryd.pinned (OpenSpec.upto stateTurnedSpec)

/-- 'duodecimolaw03.StateInOrder', WHERE WHAT IT READS IS OF BULK AT MOST 1048576: true; the input reads as it did. -/
def stateInOrderUptoRow : OpenClaim := { program := "ytmhbchljhnfahaadoor", sum := "a0762a0686da7eae77d14913d4635996d2cb47a34f3f3c929f21bfe6837768da", func := "duodecimo/duodecimolaw03.StateInOrder", spec := "stateInOrder", unfollowed := true, recurses := true, named := ["math/bits.deBruijn32tab", "math/bits.deBruijn64tab"], plainKeys := false, apart := false, laid := [("math/bits.deBruijn32tab", laid_math_bits_deBruijn32tab), ("math/bits.deBruijn64tab", laid_math_bits_deBruijn64tab)], narrowed := true }
def StateInOrderUptoSaid : Prop := stateInOrderUptoRow.holds Tryd.pinned (OpenSpec.upto stateInOrderSpec)

/-- 'duodecimolaw03.StateAgain', WHERE WHAT IT READS IS OF BULK AT MOST 1048576: true; the input reads as it did. -/
def stateAgainUptoRow : OpenClaim := { program := "ytmhbchljhnfahaadoor", sum := "a0762a0686da7eae77d14913d4635996d2cb47a34f3f3c929f21bfe6837768da", func := "duodecimo/duodecimolaw03.StateAgain", spec := "stateAgain", unfollowed := true, recurses := true, named := ["math/bits.deBruijn32tab", "math/bits.deBruijn64tab"], plainKeys := false, apart := false, laid := [("math/bits.deBruijn32tab", laid_math_bits_deBruijn32tab), ("math/bits.deBruijn64tab", laid_math_bits_deBruijn64tab)], narrowed := true }
def StateAgainUptoSaid : Prop := stateAgainUptoRow.holds Tryd.pinned (OpenSpec.upto stateAgainSpec)

end Rows
end Go.Proofs.YtmhbchljhnfahaaDoor
