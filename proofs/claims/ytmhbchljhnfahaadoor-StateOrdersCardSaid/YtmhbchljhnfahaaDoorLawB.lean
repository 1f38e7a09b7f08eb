/-
  THE STATE FAMILY, PART OA: small functions of the outright laws.
  THE STATE FAMILY, PART OH: what is asked of a valid forme, as calls give it.
-/
import Derived.Test.YtmhbchljhnfahaaDoorPlainC
import Derived.Test.YtmhbchljhnfahaaDoorRefB
import Derived.Test.YtmhbchljhnfahaaDoorStateW
import Derived.Test.YtmhbchljhnfahaaDoorRefL
namespace Go.Ab.StF
open Go Go.Ab Go.Proofs
set_option maxHeartbeats 1000000
set_option maxRecDepth 100000

def saysB (v : Int) (a b : Bool) : Bool := v == 0 || (v == 1 && a) || (v == 2 && b)

/-- The numbers below another one whose bits are set, or not set. -/
def someP (bits : Int) (set : Nat) (i : Nat) : Bool := decide (bits.toNat / 2 ^ i % 2 = set)
/-- Ascending indices of so many. -/
def ascB (m : Int) (l : List Int) (i : Nat) : Bool := (List.range i).all fun j => !(decide (l.getD j 0 < 0) || decide (l.getD j 0 ≥ m) || (decide (j > 0) && decide (l.getD j 0 ≤ l.getD (j - 1) 0)))
end Go.Ab.StF

namespace Go.Ab.StF
open Go Go.Ab Go.Proofs
set_option maxHeartbeats 1000000
set_option maxRecDepth 100000

section
variable {xs : List (ByteArray × Int)} {cs : List (ByteArray × List Int)} {A B : Int} {a b : Nat}
theorem join {T G : Prop} (main : T → G) (tail : T) : G := main tail
end

end Go.Ab.StF
