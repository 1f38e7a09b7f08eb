/-
  NARROWER THAN 'FOR EVERY INPUT', by the rows' own cells (each row's printed sentence says how): SkelSights: laid · SkelSkeletons: laid · SkelRooms: laid · SkelKnown: laid · SkelTrue: laid · SkelEnough: laid · SkelFewer: laid · SkelDoubt: laid · SkelStanding: laid · SkelShared: laid · SkelMore: laid · SkelRoom: laid · SkelMoved: laid.
  DERIVED. THE GIVEN ROWS OF THIS SEAT. 13 by the template 'for every input the law returns true; each argument reads behind the call as it read before'; 0 by the template 'total and deterministic' (their statements: YtfhippofplmpdaaDoorTotals.lean).
  GIVEN WITH THE SEED: the statements are not yours to turn. If you find one false, say at which input.
  Laid BY PROGRAM, IN A SANDBOX (cutbox-rows.mjs): the forced cells as the released guide's own fill.sh prints them over the translation 404bff5a1b866760… (all of the seat's roots in one cut). By AI agents, Wed Nov 11 2026. No macro, syntax, notation, axiom, sorry.
-/
import Derived.Test.YtfhippofplmpdaaDoorChecked
import GoSem.Claim
import GoSem.ClaimJoined
import GoSem.ClaimMapViews
import Derived.JoinedTies
import Derived.KernelRfl
namespace Go.Proofs.YtfhippofplmpdaaDoor
/- THE CELL 'sum', in the pinned program and in every row, IS THE sha256 OF THE DUMP (.gsa) THAT YtfhippofplmpdaaDoorProg.lean LOADS. Nothing in Lean hashes anything: it is a label: what it is worth is what the hold of that sum in a sandbox is worth. -/
noncomputable def Tryd.pinned : Pinned := { name := "ytfhippofplmpdaadoor", sum := "404bff5a1b86676078eca42f738833b2177b2d886713422050d2c3f54bd4f3d2", checked := Tryd.checked }
namespace Rows
def none {H : Type} : Left H := { results := [], args := [] }

/- WHAT THE LISTED PACKAGE-LEVEL VARIABLES READ AS WHEN THE CALL BEGINS. Each datum BY PROGRAM (the guide's laid-datum.mjs) off the statement by which the dump's own 'gosem.cut.vars' lays the variable. In a bare row this is a premise. The card (YtfhippofplmpdaaDoorCards.lean) ties it to the program's text. -/
def laid_math_bits_deBruijn32tab {H : Type} : DataW H := .agg [.lit (.int .u8 0), .lit (.int .u8 1), .lit (.int .u8 28), .lit (.int .u8 2), .lit (.int .u8 29), .lit (.int .u8 14), .lit (.int .u8 24), .lit (.int .u8 3), .lit (.int .u8 30), .lit (.int .u8 22), .lit (.int .u8 20), .lit (.int .u8 15), .lit (.int .u8 25), .lit (.int .u8 17), .lit (.int .u8 4), .lit (.int .u8 8), .lit (.int .u8 31), .lit (.int .u8 27), .lit (.int .u8 13), .lit (.int .u8 23), .lit (.int .u8 21), .lit (.int .u8 19), .lit (.int .u8 16), .lit (.int .u8 7), .lit (.int .u8 26), .lit (.int .u8 12), .lit (.int .u8 18), .lit (.int .u8 6), .lit (.int .u8 11), .lit (.int .u8 5), .lit (.int .u8 10), .lit (.int .u8 9)]
def laid_math_bits_deBruijn64tab {H : Type} : DataW H := .agg [.lit (.int .u8 0), .lit (.int .u8 1), .lit (.int .u8 56), .lit (.int .u8 2), .lit (.int .u8 57), .lit (.int .u8 49), .lit (.int .u8 28), .lit (.int .u8 3), .lit (.int .u8 61), .lit (.int .u8 58), .lit (.int .u8 42), .lit (.int .u8 50), .lit (.int .u8 38), .lit (.int .u8 29), .lit (.int .u8 17), .lit (.int .u8 4), .lit (.int .u8 62), .lit (.int .u8 47), .lit (.int .u8 59), .lit (.int .u8 36), .lit (.int .u8 45), .lit (.int .u8 43), .lit (.int .u8 51), .lit (.int .u8 22), .lit (.int .u8 53), .lit (.int .u8 39), .lit (.int .u8 33), .lit (.int .u8 30), .lit (.int .u8 24), .lit (.int .u8 18), .lit (.int .u8 12), .lit (.int .u8 5), .lit (.int .u8 63), .lit (.int .u8 55), .lit (.int .u8 48), .lit (.int .u8 27), .lit (.int .u8 60), .lit (.int .u8 41), .lit (.int .u8 37), .lit (.int .u8 16), .lit (.int .u8 46), .lit (.int .u8 35), .lit (.int .u8 44), .lit (.int .u8 21), .lit (.int .u8 52), .lit (.int .u8 32), .lit (.int .u8 23), .lit (.int .u8 11), .lit (.int .u8 54), .lit (.int .u8 26), .lit (.int .u8 40), .lit (.int .u8 15), .lit (.int .u8 34), .lit (.int .u8 20), .lit (.int .u8 31), .lit (.int .u8 10), .lit (.int .u8 25), .lit (.int .u8 14), .lit (.int .u8 19), .lit (.int .u8 9), .lit (.int .u8 13), .lit (.int .u8 8), .lit (.int .u8 7), .lit (.int .u8 6)]

/-- 'duodecimolaw05.SkelSights': WHATEVER THE INPUT: true; the input reads as it did. -/
def skelSightsSpec : ChangeSpec := { name := "skelSights", fn := fun _ => fun
  | [d1, d2] => { results := [.lit (.bool true)], args := [d1, d2] }
  | _ => none }
def skelSightsRow : OpenClaim := { program := "ytfhippofplmpdaadoor", sum := "404bff5a1b86676078eca42f738833b2177b2d886713422050d2c3f54bd4f3d2", func := "duodecimo/duodecimolaw05.SkelSights", spec := "skelSights", unfollowed := true, recurses := true, named := ["math/bits.deBruijn32tab", "math/bits.deBruijn64tab"], apart := false, laid := [("math/bits.deBruijn32tab", laid_math_bits_deBruijn32tab), ("math/bits.deBruijn64tab", laid_math_bits_deBruijn64tab)] }
def SkelSightsSaid : Prop := skelSightsRow.holds Tryd.pinned (OpenSpec.ofChange skelSightsSpec)

/-- ITS FALSE NEIGHBOUR: 'it returns false'. Refute it at one input. -/
def skelSightsWrong : ChangeSpec := { name := "skelSights", fn := fun _ => fun
  | [d1, d2] => { results := [.lit (.bool false)], args := [d1, d2] }
  | _ => none }
def SkelSightsWrongFalsely : Prop := skelSightsRow.holds Tryd.pinned (OpenSpec.ofChange skelSightsWrong)

/-- 'duodecimolaw05.SkelSkeletons': WHATEVER THE INPUT: true; the input reads as it did. -/
def skelSkeletonsSpec : ChangeSpec := { name := "skelSkeletons", fn := fun _ => fun
  | [d1, d2] => { results := [.lit (.bool true)], args := [d1, d2] }
  | _ => none }
def skelSkeletonsRow : OpenClaim := { program := "ytfhippofplmpdaadoor", sum := "404bff5a1b86676078eca42f738833b2177b2d886713422050d2c3f54bd4f3d2", func := "duodecimo/duodecimolaw05.SkelSkeletons", spec := "skelSkeletons", unfollowed := true, recurses := true, named := ["math/bits.deBruijn32tab", "math/bits.deBruijn64tab"], apart := false, laid := [("math/bits.deBruijn32tab", laid_math_bits_deBruijn32tab), ("math/bits.deBruijn64tab", laid_math_bits_deBruijn64tab)] }
def SkelSkeletonsSaid : Prop := skelSkeletonsRow.holds Tryd.pinned (OpenSpec.ofChange skelSkeletonsSpec)

/-- ITS FALSE NEIGHBOUR: 'it returns false'. Refute it at one input. -/
def skelSkeletonsWrong : ChangeSpec := { name := "skelSkeletons", fn := fun _ => fun
  | [d1, d2] => { results := [.lit (.bool false)], args := [d1, d2] }
  | _ => none }
def SkelSkeletonsWrongFalsely : Prop := skelSkeletonsRow.holds Tryd.pinned (OpenSpec.ofChange skelSkeletonsWrong)

/-- 'duodecimolaw05.SkelRooms': WHATEVER THE INPUT: true; the input reads as it did. -/
def skelRoomsSpec : ChangeSpec := { name := "skelRooms", fn := fun _ => fun
  | [d1, d2, d3] => { results := [.lit (.bool true)], args := [d1, d2, d3] }
  | _ => none }
def skelRoomsRow : OpenClaim := { program := "ytfhippofplmpdaadoor", sum := "404bff5a1b86676078eca42f738833b2177b2d886713422050d2c3f54bd4f3d2", func := "duodecimo/duodecimolaw05.SkelRooms", spec := "skelRooms", unfollowed := true, recurses := true, named := ["math/bits.deBruijn32tab", "math/bits.deBruijn64tab"], apart := false, laid := [("math/bits.deBruijn32tab", laid_math_bits_deBruijn32tab), ("math/bits.deBruijn64tab", laid_math_bits_deBruijn64tab)] }
def SkelRoomsSaid : Prop := skelRoomsRow.holds Tryd.pinned (OpenSpec.ofChange skelRoomsSpec)

/-- ITS FALSE NEIGHBOUR: 'it returns false'. Refute it at one input. -/
def skelRoomsWrong : ChangeSpec := { name := "skelRooms", fn := fun _ => fun
  | [d1, d2, d3] => { results := [.lit (.bool false)], args := [d1, d2, d3] }
  | _ => none }
def SkelRoomsWrongFalsely : Prop := skelRoomsRow.holds Tryd.pinned (OpenSpec.ofChange skelRoomsWrong)

/-- 'duodecimolaw05.SkelKnown': WHATEVER THE INPUT: true; the input reads as it did. -/
def skelKnownSpec : ChangeSpec := { name := "skelKnown", fn := fun _ => fun
  | [] => { results := [.lit (.bool true)], args := [] }
  | _ => none }
def skelKnownRow : OpenClaim := { program := "ytfhippofplmpdaadoor", sum := "404bff5a1b86676078eca42f738833b2177b2d886713422050d2c3f54bd4f3d2", func := "duodecimo/duodecimolaw05.SkelKnown", spec := "skelKnown", unfollowed := true, recurses := true, named := ["math/bits.deBruijn32tab", "math/bits.deBruijn64tab"], apart := false, laid := [("math/bits.deBruijn32tab", laid_math_bits_deBruijn32tab), ("math/bits.deBruijn64tab", laid_math_bits_deBruijn64tab)] }
def SkelKnownSaid : Prop := skelKnownRow.holds Tryd.pinned (OpenSpec.ofChange skelKnownSpec)

/-- ITS FALSE NEIGHBOUR: 'it returns false'. Refute it at one input. -/
def skelKnownWrong : ChangeSpec := { name := "skelKnown", fn := fun _ => fun
  | [] => { results := [.lit (.bool false)], args := [] }
  | _ => none }
def SkelKnownWrongFalsely : Prop := skelKnownRow.holds Tryd.pinned (OpenSpec.ofChange skelKnownWrong)

/-- 'duodecimolaw05.SkelTrue': WHATEVER THE INPUT: true; the input reads as it did. -/
def skelTrueSpec : ChangeSpec := { name := "skelTrue", fn := fun _ => fun
  | [d1, d2] => { results := [.lit (.bool true)], args := [d1, d2] }
  | _ => none }
def skelTrueRow : OpenClaim := { program := "ytfhippofplmpdaadoor", sum := "404bff5a1b86676078eca42f738833b2177b2d886713422050d2c3f54bd4f3d2", func := "duodecimo/duodecimolaw05.SkelTrue", spec := "skelTrue", unfollowed := true, recurses := true, named := ["math/bits.deBruijn32tab", "math/bits.deBruijn64tab"], apart := false, laid := [("math/bits.deBruijn32tab", laid_math_bits_deBruijn32tab), ("math/bits.deBruijn64tab", laid_math_bits_deBruijn64tab)] }
def SkelTrueSaid : Prop := skelTrueRow.holds Tryd.pinned (OpenSpec.ofChange skelTrueSpec)

/-- ITS FALSE NEIGHBOUR: 'it returns false'. Refute it at one input. -/
def skelTrueWrong : ChangeSpec := { name := "skelTrue", fn := fun _ => fun
  | [d1, d2] => { results := [.lit (.bool false)], args := [d1, d2] }
  | _ => none }
def SkelTrueWrongFalsely : Prop := skelTrueRow.holds Tryd.pinned (OpenSpec.ofChange skelTrueWrong)

/-- 'duodecimolaw05.SkelEnough': WHATEVER THE INPUT: true; the input reads as it did. -/
def skelEnoughSpec : ChangeSpec := { name := "skelEnough", fn := fun _ => fun
  | [d] => { results := [.lit (.bool true)], args := [d] }
  | _ => none }
def skelEnoughRow : OpenClaim := { program := "ytfhippofplmpdaadoor", sum := "404bff5a1b86676078eca42f738833b2177b2d886713422050d2c3f54bd4f3d2", func := "duodecimo/duodecimolaw05.SkelEnough", spec := "skelEnough", unfollowed := true, recurses := true, named := ["math/bits.deBruijn32tab", "math/bits.deBruijn64tab"], apart := false, laid := [("math/bits.deBruijn32tab", laid_math_bits_deBruijn32tab), ("math/bits.deBruijn64tab", laid_math_bits_deBruijn64tab)] }
def SkelEnoughSaid : Prop := skelEnoughRow.holds Tryd.pinned (OpenSpec.ofChange skelEnoughSpec)

/-- ITS FALSE NEIGHBOUR: 'it returns false'. Refute it at one input. -/
def skelEnoughWrong : ChangeSpec := { name := "skelEnough", fn := fun _ => fun
  | [d] => { results := [.lit (.bool false)], args := [d] }
  | _ => none }
def SkelEnoughWrongFalsely : Prop := skelEnoughRow.holds Tryd.pinned (OpenSpec.ofChange skelEnoughWrong)

/-- 'duodecimolaw05.SkelFewer': WHATEVER THE INPUT: true; the input reads as it did. -/
def skelFewerSpec : ChangeSpec := { name := "skelFewer", fn := fun _ => fun
  | [d1, d2] => { results := [.lit (.bool true)], args := [d1, d2] }
  | _ => none }
def skelFewerRow : OpenClaim := { program := "ytfhippofplmpdaadoor", sum := "404bff5a1b86676078eca42f738833b2177b2d886713422050d2c3f54bd4f3d2", func := "duodecimo/duodecimolaw05.SkelFewer", spec := "skelFewer", unfollowed := true, recurses := true, named := ["math/bits.deBruijn32tab", "math/bits.deBruijn64tab"], apart := false, laid := [("math/bits.deBruijn32tab", laid_math_bits_deBruijn32tab), ("math/bits.deBruijn64tab", laid_math_bits_deBruijn64tab)] }
def SkelFewerSaid : Prop := skelFewerRow.holds Tryd.pinned (OpenSpec.ofChange skelFewerSpec)

/-- ITS FALSE NEIGHBOUR: 'it returns false'. Refute it at one input. -/
def skelFewerWrong : ChangeSpec := { name := "skelFewer", fn := fun _ => fun
  | [d1, d2] => { results := [.lit (.bool false)], args := [d1, d2] }
  | _ => none }
def SkelFewerWrongFalsely : Prop := skelFewerRow.holds Tryd.pinned (OpenSpec.ofChange skelFewerWrong)

/-- 'duodecimolaw05.SkelDoubt': WHATEVER THE INPUT: true; the input reads as it did. -/
def skelDoubtSpec : ChangeSpec := { name := "skelDoubt", fn := fun _ => fun
  | [d1, d2] => { results := [.lit (.bool true)], args := [d1, d2] }
  | _ => none }
def skelDoubtRow : OpenClaim := { program := "ytfhippofplmpdaadoor", sum := "404bff5a1b86676078eca42f738833b2177b2d886713422050d2c3f54bd4f3d2", func := "duodecimo/duodecimolaw05.SkelDoubt", spec := "skelDoubt", unfollowed := true, recurses := true, named := ["math/bits.deBruijn32tab", "math/bits.deBruijn64tab"], apart := false, laid := [("math/bits.deBruijn32tab", laid_math_bits_deBruijn32tab), ("math/bits.deBruijn64tab", laid_math_bits_deBruijn64tab)] }
def SkelDoubtSaid : Prop := skelDoubtRow.holds Tryd.pinned (OpenSpec.ofChange skelDoubtSpec)

/-- ITS FALSE NEIGHBOUR: 'it returns false'. Refute it at one input. -/
def skelDoubtWrong : ChangeSpec := { name := "skelDoubt", fn := fun _ => fun
  | [d1, d2] => { results := [.lit (.bool false)], args := [d1, d2] }
  | _ => none }
def SkelDoubtWrongFalsely : Prop := skelDoubtRow.holds Tryd.pinned (OpenSpec.ofChange skelDoubtWrong)

/-- 'duodecimolaw05.SkelStanding': WHATEVER THE INPUT: true; the input reads as it did. -/
def skelStandingSpec : ChangeSpec := { name := "skelStanding", fn := fun _ => fun
  | [d1, d2] => { results := [.lit (.bool true)], args := [d1, d2] }
  | _ => none }
def skelStandingRow : OpenClaim := { program := "ytfhippofplmpdaadoor", sum := "404bff5a1b86676078eca42f738833b2177b2d886713422050d2c3f54bd4f3d2", func := "duodecimo/duodecimolaw05.SkelStanding", spec := "skelStanding", unfollowed := true, recurses := true, named := ["math/bits.deBruijn32tab", "math/bits.deBruijn64tab"], apart := false, laid := [("math/bits.deBruijn32tab", laid_math_bits_deBruijn32tab), ("math/bits.deBruijn64tab", laid_math_bits_deBruijn64tab)] }
def SkelStandingSaid : Prop := skelStandingRow.holds Tryd.pinned (OpenSpec.ofChange skelStandingSpec)

/-- ITS FALSE NEIGHBOUR: 'it returns false'. Refute it at one input. -/
def skelStandingWrong : ChangeSpec := { name := "skelStanding", fn := fun _ => fun
  | [d1, d2] => { results := [.lit (.bool false)], args := [d1, d2] }
  | _ => none }
def SkelStandingWrongFalsely : Prop := skelStandingRow.holds Tryd.pinned (OpenSpec.ofChange skelStandingWrong)

/-- 'duodecimolaw05.SkelShared': WHATEVER THE INPUT: true; the input reads as it did. -/
def skelSharedSpec : ChangeSpec := { name := "skelShared", fn := fun _ => fun
  | [d1, d2] => { results := [.lit (.bool true)], args := [d1, d2] }
  | _ => none }
def skelSharedRow : OpenClaim := { program := "ytfhippofplmpdaadoor", sum := "404bff5a1b86676078eca42f738833b2177b2d886713422050d2c3f54bd4f3d2", func := "duodecimo/duodecimolaw05.SkelShared", spec := "skelShared", unfollowed := true, recurses := true, named := ["math/bits.deBruijn32tab", "math/bits.deBruijn64tab"], apart := false, laid := [("math/bits.deBruijn32tab", laid_math_bits_deBruijn32tab), ("math/bits.deBruijn64tab", laid_math_bits_deBruijn64tab)] }
def SkelSharedSaid : Prop := skelSharedRow.holds Tryd.pinned (OpenSpec.ofChange skelSharedSpec)

/-- ITS FALSE NEIGHBOUR: 'it returns false'. Refute it at one input. -/
def skelSharedWrong : ChangeSpec := { name := "skelShared", fn := fun _ => fun
  | [d1, d2] => { results := [.lit (.bool false)], args := [d1, d2] }
  | _ => none }
def SkelSharedWrongFalsely : Prop := skelSharedRow.holds Tryd.pinned (OpenSpec.ofChange skelSharedWrong)

/-- 'duodecimolaw05.SkelMore': WHATEVER THE INPUT: true; the input reads as it did. -/
def skelMoreSpec : ChangeSpec := { name := "skelMore", fn := fun _ => fun
  | [d1, d2, d3] => { results := [.lit (.bool true)], args := [d1, d2, d3] }
  | _ => none }
def skelMoreRow : OpenClaim := { program := "ytfhippofplmpdaadoor", sum := "404bff5a1b86676078eca42f738833b2177b2d886713422050d2c3f54bd4f3d2", func := "duodecimo/duodecimolaw05.SkelMore", spec := "skelMore", unfollowed := true, recurses := true, named := ["math/bits.deBruijn32tab", "math/bits.deBruijn64tab"], apart := false, laid := [("math/bits.deBruijn32tab", laid_math_bits_deBruijn32tab), ("math/bits.deBruijn64tab", laid_math_bits_deBruijn64tab)] }
def SkelMoreSaid : Prop := skelMoreRow.holds Tryd.pinned (OpenSpec.ofChange skelMoreSpec)

/-- ITS FALSE NEIGHBOUR: 'it returns false'. Refute it at one input. -/
def skelMoreWrong : ChangeSpec := { name := "skelMore", fn := fun _ => fun
  | [d1, d2, d3] => { results := [.lit (.bool false)], args := [d1, d2, d3] }
  | _ => none }
def SkelMoreWrongFalsely : Prop := skelMoreRow.holds Tryd.pinned (OpenSpec.ofChange skelMoreWrong)

/-- 'duodecimolaw05.SkelRoom': WHATEVER THE INPUT: true; the input reads as it did. -/
def skelRoomSpec : ChangeSpec := { name := "skelRoom", fn := fun _ => fun
  | [d1, d2, d3] => { results := [.lit (.bool true)], args := [d1, d2, d3] }
  | _ => none }
def skelRoomRow : OpenClaim := { program := "ytfhippofplmpdaadoor", sum := "404bff5a1b86676078eca42f738833b2177b2d886713422050d2c3f54bd4f3d2", func := "duodecimo/duodecimolaw05.SkelRoom", spec := "skelRoom", unfollowed := true, recurses := true, named := ["math/bits.deBruijn32tab", "math/bits.deBruijn64tab"], apart := false, laid := [("math/bits.deBruijn32tab", laid_math_bits_deBruijn32tab), ("math/bits.deBruijn64tab", laid_math_bits_deBruijn64tab)] }
def SkelRoomSaid : Prop := skelRoomRow.holds Tryd.pinned (OpenSpec.ofChange skelRoomSpec)

/-- ITS FALSE NEIGHBOUR: 'it returns false'. Refute it at one input. -/
def skelRoomWrong : ChangeSpec := { name := "skelRoom", fn := fun _ => fun
  | [d1, d2, d3] => { results := [.lit (.bool false)], args := [d1, d2, d3] }
  | _ => none }
def SkelRoomWrongFalsely : Prop := skelRoomRow.holds Tryd.pinned (OpenSpec.ofChange skelRoomWrong)

/-- 'duodecimolaw05.SkelMoved': WHATEVER THE INPUT: true; the input reads as it did. -/
def skelMovedSpec : ChangeSpec := { name := "skelMoved", fn := fun _ => fun
  | [d1, d2, d3] => { results := [.lit (.bool true)], args := [d1, d2, d3] }
  | _ => none }
def skelMovedRow : OpenClaim := { program := "ytfhippofplmpdaadoor", sum := "404bff5a1b86676078eca42f738833b2177b2d886713422050d2c3f54bd4f3d2", func := "duodecimo/duodecimolaw05.SkelMoved", spec := "skelMoved", unfollowed := true, recurses := true, named := ["math/bits.deBruijn32tab", "math/bits.deBruijn64tab"], apart := false, laid := [("math/bits.deBruijn32tab", laid_math_bits_deBruijn32tab), ("math/bits.deBruijn64tab", laid_math_bits_deBruijn64tab)] }
def SkelMovedSaid : Prop := skelMovedRow.holds Tryd.pinned (OpenSpec.ofChange skelMovedSpec)

/-- ITS FALSE NEIGHBOUR: 'it returns false'. Refute it at one input. -/
def skelMovedWrong : ChangeSpec := { name := "skelMoved", fn := fun _ => fun
  | [d1, d2, d3] => { results := [.lit (.bool false)], args := [d1, d2, d3] }
  | _ => none }
def SkelMovedWrongFalsely : Prop := skelMovedRow.holds Tryd.pinned (OpenSpec.ofChange skelMovedWrong)

/- THE SECOND FORM. 'bulk': how many values and letters a reading holds, each counted each time it is reached (what is shared counts as often as it is met; a slice's spare places count too). A statement '..UptoSaid' is the law's where the arguments, and the package variables that the reading takes, are together of bulk at most 1048576: NARROWER than '..Said'. Prove '..Said' where nothing that the law and all that it calls make is longer than what came in: it says more and counts as full. Else prove '..UptoSaid'. A law counts once. -/
mutual
def uptoBulk {H : Type} : DataW H → Nat
  | .lit (.string bytes) => bytes.length + 1
  | .lit _ => 1
  | .nil => 1
  | .ptr d => uptoBulk d + 1
  | .slice elems spare => uptoBulkAll elems + uptoBulkAll spare + 1
  | .agg parts => uptoBulkAll parts + 1
  | .iface _ d => uptoBulk d + 1
  | .map entries => uptoBulkEntries entries + 1
  | .held _ => 1
def uptoBulkAll {H : Type} : List (DataW H) → Nat
  | [] => 0
  | d :: r => uptoBulk d + uptoBulkAll r
def uptoBulkEntries {H : Type} : List (Lit × DataW H) → Nat
  | [] => 0
  | x :: r => uptoBulkEntry x + uptoBulkEntries r
def uptoBulkEntry {H : Type} : Lit × DataW H → Nat
  | (.string bytes, d) => bytes.length + uptoBulk d + 1
  | (_, d) => uptoBulk d + 1
 end
def uptoSmall : (H : Type) → List (DataW H) → Bool := fun _ ds => decide (uptoBulkAll ds ≤ 1048576)
def OpenSpec.upto (s : _root_.Go.ChangeSpec) : _root_.Go.OpenSpec := { _root_.Go.OpenSpec.ofChange s with cond := some uptoSmall }

/-- 'duodecimolaw05.SkelSights', WHERE WHAT IT READS IS OF BULK AT MOST 1048576: true; the input reads as it did. -/
def skelSightsUptoRow : OpenClaim := { program := "ytfhippofplmpdaadoor", sum := "404bff5a1b86676078eca42f738833b2177b2d886713422050d2c3f54bd4f3d2", func := "duodecimo/duodecimolaw05.SkelSights", spec := "skelSights", unfollowed := true, recurses := true, named := ["math/bits.deBruijn32tab", "math/bits.deBruijn64tab"], apart := false, laid := [("math/bits.deBruijn32tab", laid_math_bits_deBruijn32tab), ("math/bits.deBruijn64tab", laid_math_bits_deBruijn64tab)], narrowed := true }
def SkelSightsUptoSaid : Prop := skelSightsUptoRow.holds Tryd.pinned (OpenSpec.upto skelSightsSpec)

/-- 'duodecimolaw05.SkelSkeletons', WHERE WHAT IT READS IS OF BULK AT MOST 1048576: true; the input reads as it did. -/
def skelSkeletonsUptoRow : OpenClaim := { program := "ytfhippofplmpdaadoor", sum := "404bff5a1b86676078eca42f738833b2177b2d886713422050d2c3f54bd4f3d2", func := "duodecimo/duodecimolaw05.SkelSkeletons", spec := "skelSkeletons", unfollowed := true, recurses := true, named := ["math/bits.deBruijn32tab", "math/bits.deBruijn64tab"], apart := false, laid := [("math/bits.deBruijn32tab", laid_math_bits_deBruijn32tab), ("math/bits.deBruijn64tab", laid_math_bits_deBruijn64tab)], narrowed := true }
def SkelSkeletonsUptoSaid : Prop := skelSkeletonsUptoRow.holds Tryd.pinned (OpenSpec.upto skelSkeletonsSpec)

/-- 'duodecimolaw05.SkelRooms', WHERE WHAT IT READS IS OF BULK AT MOST 1048576: true; the input reads as it did. -/
def skelRoomsUptoRow : OpenClaim := { program := "ytfhippofplmpdaadoor", sum := "404bff5a1b86676078eca42f738833b2177b2d886713422050d2c3f54bd4f3d2", func := "duodecimo/duodecimolaw05.SkelRooms", spec := "skelRooms", unfollowed := true, recurses := true, named := ["math/bits.deBruijn32tab", "math/bits.deBruijn64tab"], apart := false, laid := [("math/bits.deBruijn32tab", laid_math_bits_deBruijn32tab), ("math/bits.deBruijn64tab", laid_math_bits_deBruijn64tab)], narrowed := true }
def SkelRoomsUptoSaid : Prop := skelRoomsUptoRow.holds Tryd.pinned (OpenSpec.upto skelRoomsSpec)

/-- 'duodecimolaw05.SkelKnown', WHERE WHAT IT READS IS OF BULK AT MOST 1048576: true; the input reads as it did. -/
def skelKnownUptoRow : OpenClaim := { program := "ytfhippofplmpdaadoor", sum := "404bff5a1b86676078eca42f738833b2177b2d886713422050d2c3f54bd4f3d2", func := "duodecimo/duodecimolaw05.SkelKnown", spec := "skelKnown", unfollowed := true, recurses := true, named := ["math/bits.deBruijn32tab", "math/bits.deBruijn64tab"], apart := false, laid := [("math/bits.deBruijn32tab", laid_math_bits_deBruijn32tab), ("math/bits.deBruijn64tab", laid_math_bits_deBruijn64tab)], narrowed := true }
def SkelKnownUptoSaid : Prop := skelKnownUptoRow.holds Tryd.pinned (OpenSpec.upto skelKnownSpec)

/-- 'duodecimolaw05.SkelTrue', WHERE WHAT IT READS IS OF BULK AT MOST 1048576: true; the input reads as it did. -/
def skelTrueUptoRow : OpenClaim := { program := "ytfhippofplmpdaadoor", sum := "404bff5a1b86676078eca42f738833b2177b2d886713422050d2c3f54bd4f3d2", func := "duodecimo/duodecimolaw05.SkelTrue", spec := "skelTrue", unfollowed := true, recurses := true, named := ["math/bits.deBruijn32tab", "math/bits.deBruijn64tab"], apart := false, laid := [("math/bits.deBruijn32tab", laid_math_bits_deBruijn32tab), ("math/bits.deBruijn64tab", laid_math_bits_deBruijn64tab)], narrowed := true }
def SkelTrueUptoSaid : Prop := skelTrueUptoRow.holds Tryd.pinned (OpenSpec.upto skelTrueSpec)

/-- 'duodecimolaw05.SkelEnough', WHERE WHAT IT READS IS OF BULK AT MOST 1048576: true; the input reads as it did. -/
def skelEnoughUptoRow : OpenClaim := { program := "ytfhippofplmpdaadoor", sum := "404bff5a1b86676078eca42f738833b2177b2d886713422050d2c3f54bd4f3d2", func := "duodecimo/duodecimolaw05.SkelEnough", spec := "skelEnough", unfollowed := true, recurses := true, named := ["math/bits.deBruijn32tab", "math/bits.deBruijn64tab"], apart := false, laid := [("math/bits.deBruijn32tab", laid_math_bits_deBruijn32tab), ("math/bits.deBruijn64tab", laid_math_bits_deBruijn64tab)], narrowed := true }
def SkelEnoughUptoSaid : Prop := skelEnoughUptoRow.holds Tryd.pinned (OpenSpec.upto skelEnoughSpec)

/-- 'duodecimolaw05.SkelFewer', WHERE WHAT IT READS IS OF BULK AT MOST 1048576: true; the input reads as it did. -/
def skelFewerUptoRow : OpenClaim := { program := "ytfhippofplmpdaadoor", sum := "404bff5a1b86676078eca42f738833b2177b2d886713422050d2c3f54bd4f3d2", func := "duodecimo/duodecimolaw05.SkelFewer", spec := "skelFewer", unfollowed := true, recurses := true, named := ["math/bits.deBruijn32tab", "math/bits.deBruijn64tab"], apart := false, laid := [("math/bits.deBruijn32tab", laid_math_bits_deBruijn32tab), ("math/bits.deBruijn64tab", laid_math_bits_deBruijn64tab)], narrowed := true }
def SkelFewerUptoSaid : Prop := skelFewerUptoRow.holds Tryd.pinned (OpenSpec.upto skelFewerSpec)

/-- 'duodecimolaw05.SkelDoubt', WHERE WHAT IT READS IS OF BULK AT MOST 1048576: true; the input reads as it did. -/
def skelDoubtUptoRow : OpenClaim := { program := "ytfhippofplmpdaadoor", sum := "404bff5a1b86676078eca42f738833b2177b2d886713422050d2c3f54bd4f3d2", func := "duodecimo/duodecimolaw05.SkelDoubt", spec := "skelDoubt", unfollowed := true, recurses := true, named := ["math/bits.deBruijn32tab", "math/bits.deBruijn64tab"], apart := false, laid := [("math/bits.deBruijn32tab", laid_math_bits_deBruijn32tab), ("math/bits.deBruijn64tab", laid_math_bits_deBruijn64tab)], narrowed := true }
def SkelDoubtUptoSaid : Prop := skelDoubtUptoRow.holds Tryd.pinned (OpenSpec.upto skelDoubtSpec)

/-- 'duodecimolaw05.SkelStanding', WHERE WHAT IT READS IS OF BULK AT MOST 1048576: true; the input reads as it did. -/
def skelStandingUptoRow : OpenClaim := { program := "ytfhippofplmpdaadoor", sum := "404bff5a1b86676078eca42f738833b2177b2d886713422050d2c3f54bd4f3d2", func := "duodecimo/duodecimolaw05.SkelStanding", spec := "skelStanding", unfollowed := true, recurses := true, named := ["math/bits.deBruijn32tab", "math/bits.deBruijn64tab"], apart := false, laid := [("math/bits.deBruijn32tab", laid_math_bits_deBruijn32tab), ("math/bits.deBruijn64tab", laid_math_bits_deBruijn64tab)], narrowed := true }
def SkelStandingUptoSaid : Prop := skelStandingUptoRow.holds Tryd.pinned (OpenSpec.upto skelStandingSpec)

/-- 'duodecimolaw05.SkelShared', WHERE WHAT IT READS IS OF BULK AT MOST 1048576: true; the input reads as it did. -/
def skelSharedUptoRow : OpenClaim := { program := "ytfhippofplmpdaadoor", sum := "404bff5a1b86676078eca42f738833b2177b2d886713422050d2c3f54bd4f3d2", func := "duodecimo/duodecimolaw05.SkelShared", spec := "skelShared", unfollowed := true, recurses := true, named := ["math/bits.deBruijn32tab", "math/bits.deBruijn64tab"], apart := false, laid := [("math/bits.deBruijn32tab", laid_math_bits_deBruijn32tab), ("math/bits.deBruijn64tab", laid_math_bits_deBruijn64tab)], narrowed := true }
def SkelSharedUptoSaid : Prop := skelSharedUptoRow.holds Tryd.pinned (OpenSpec.upto skelSharedSpec)

/-- 'duodecimolaw05.SkelMore', WHERE WHAT IT READS IS OF BULK AT MOST 1048576: true; the input reads as it did. -/
def skelMoreUptoRow : OpenClaim := { program := "ytfhippofplmpdaadoor", sum := "404bff5a1b86676078eca42f738833b2177b2d886713422050d2c3f54bd4f3d2", func := "duodecimo/duodecimolaw05.SkelMore", spec := "skelMore", unfollowed := true, recurses := true, named := ["math/bits.deBruijn32tab", "math/bits.deBruijn64tab"], apart := false, laid := [("math/bits.deBruijn32tab", laid_math_bits_deBruijn32tab), ("math/bits.deBruijn64tab", laid_math_bits_deBruijn64tab)], narrowed := true }
def SkelMoreUptoSaid : Prop := skelMoreUptoRow.holds Tryd.pinned (OpenSpec.upto skelMoreSpec)

/-- 'duodecimolaw05.SkelRoom', WHERE WHAT IT READS IS OF BULK AT MOST 1048576: true; the input reads as it did. -/
def skelRoomUptoRow : OpenClaim := { program := "ytfhippofplmpdaadoor", sum := "404bff5a1b86676078eca42f738833b2177b2d886713422050d2c3f54bd4f3d2", func := "duodecimo/duodecimolaw05.SkelRoom", spec := "skelRoom", unfollowed := true, recurses := true, named := ["math/bits.deBruijn32tab", "math/bits.deBruijn64tab"], apart := false, laid := [("math/bits.deBruijn32tab", laid_math_bits_deBruijn32tab), ("math/bits.deBruijn64tab", laid_math_bits_deBruijn64tab)], narrowed := true }
def SkelRoomUptoSaid : Prop := skelRoomUptoRow.holds Tryd.pinned (OpenSpec.upto skelRoomSpec)

/-- 'duodecimolaw05.SkelMoved', WHERE WHAT IT READS IS OF BULK AT MOST 1048576: true; the input reads as it did. -/
def skelMovedUptoRow : OpenClaim := { program := "ytfhippofplmpdaadoor", sum := "404bff5a1b86676078eca42f738833b2177b2d886713422050d2c3f54bd4f3d2", func := "duodecimo/duodecimolaw05.SkelMoved", spec := "skelMoved", unfollowed := true, recurses := true, named := ["math/bits.deBruijn32tab", "math/bits.deBruijn64tab"], apart := false, laid := [("math/bits.deBruijn32tab", laid_math_bits_deBruijn32tab), ("math/bits.deBruijn64tab", laid_math_bits_deBruijn64tab)], narrowed := true }
def SkelMovedUptoSaid : Prop := skelMovedUptoRow.holds Tryd.pinned (OpenSpec.upto skelMovedSpec)

end Rows
end Go.Proofs.YtfhippofplmpdaaDoor
