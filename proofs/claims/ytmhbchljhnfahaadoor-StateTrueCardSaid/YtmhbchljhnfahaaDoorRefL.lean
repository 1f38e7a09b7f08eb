/-
  THE STATE FAMILY, PART NJ: lists compared.
-/
import Derived.Test.YtmhbchljhnfahaaDoorRefA
import Derived.Test.YtmhbchljhnfahaaDoorPlainB
namespace Go.Ab.StF
open Go Go.Ab Go.Proofs
set_option maxHeartbeats 1000000
set_option maxRecDepth 100000

end Go.Ab.StF
