/-
  THE SKELETON FAMILY, PART PR: rooms, presses and days of the reference: plain.
  THE SKELETON FAMILY, PART RF: rooms, presses, days: of the reference; the law SkelRooms.
-/
import Derived.Test.YtfhippofplmpdaaDoorRefD
namespace Go.Ab.SkF
open Go Go.Ab Go.Ab.Pln

/-- The error of a job and types, up to one of them. -/
def rmA (c nt : Int) (tys : List Int) (i : Nat) : Int := if c ≠ 0 then c else if (tys.take i).any (outB 0 (nt - 1)) then 4 else 0
/-- The same, of types that are there twice. -/
def rmB (c : Int) (tys : List Int) (i : Nat) : Int := if c ≠ 0 then c else if (List.range i).any (dupB tys) then 5 else 0
/-- Does a forme stand on a day? -/
def onB (fs : Fms) (d : Int) (k : Nat) : Bool := decide (setOf fs k ≤ d) && decide (d ≤ offOf fs k)
end Go.Ab.SkF

namespace Go.Ab.SkF
open Go Go.Ab Go.Ab.Pln Go.Proofs
set_option maxHeartbeats 1000000
set_option maxRecDepth 100000

end Go.Ab.SkF
