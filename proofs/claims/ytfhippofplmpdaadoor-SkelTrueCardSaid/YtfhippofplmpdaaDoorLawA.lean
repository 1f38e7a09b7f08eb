/-
  THE SKELETON FAMILY, PART LA: the law SkelSights.
-/
import Derived.Test.YtfhippofplmpdaaDoorRefB
namespace Go.Ab.SkF
open Go Go.Ab Go.Ab.Pln Go.Proofs
set_option maxHeartbeats 1000000
set_option maxRecDepth 100000

end Go.Ab.SkF
