/-
  THE STATE FAMILY, PART OF: StateOrders; the reference's Last.
-/
import Derived.Test.YtmhbchljhnfahaaDoorLawB
import Derived.Test.YtmhbchljhnfahaaDoorRefB
import Derived.Test.YtmhbchljhnfahaaDoorEngC
namespace Go.Ab.StF
open Go Go.Ab Go.Proofs
set_option maxHeartbeats 1000000
set_option maxRecDepth 100000

/-- The last readings, of the first orders: some of the loci have one order more. -/
def lasU (n : Nat) (L : List (List Int × List Int)) (i k : Nat) : List Int := (List.range n).map fun j => sameL 0 ((L.take (if j < k then i + 1 else i)).map fun o => atV o.1 o.2 n j)
theorem bne_sf {a : Int} (h : (a != a) = true) : False := by simp at h
end Go.Ab.StF
