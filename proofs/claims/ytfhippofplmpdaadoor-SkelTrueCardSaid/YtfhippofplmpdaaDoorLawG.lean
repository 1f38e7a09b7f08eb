/-
  THE SKELETON FAMILY, PART PX: a job with one more sighting: plain.
  THE SKELETON FAMILY, PART LJ: the law SkelMore.
-/
import Derived.Test.YtfhippofplmpdaaDoorLawF
namespace Go.Ab.SkF
open Go Go.Ab Go.Ab.Pln

/-- What holds of a job of which one with one more sighting is valid. -/
structure MoreF (ts : List ByteArray) (fs : Fms) (ss : Sgs) (s : Sg) : Prop where
  valid : Valid ts fs ss
  types : 0 < ts.length
  same : ∀ a b, a < fs.length → b < fs.length → lab fs.length ss a = lab fs.length ss b → lab fs.length (ss ++ [s]) a = lab fs.length (ss ++ [s]) b
  free : clashJ fs (ss ++ [s]) = none → clashJ fs ss = none
  few : ∀ {x u y w}, Skel fs ss x u → Skel fs (ss ++ [s]) y w → u ≤ w
end Go.Ab.SkF

namespace Go.Ab.SkF
open Go Go.Ab Go.Ab.Pln Go.Proofs
set_option maxHeartbeats 1000000
set_option maxRecDepth 100000

end Go.Ab.SkF
