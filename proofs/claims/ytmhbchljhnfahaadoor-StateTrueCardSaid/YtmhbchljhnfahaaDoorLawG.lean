/-
  THE STATE FAMILY, PART OG: a forme without some readings.
-/
import Derived.Test.YtmhbchljhnfahaaDoorLawB
import Derived.Test.YtmhbchljhnfahaaDoorPlainD
namespace Go.Ab.StF
open Go Go.Ab Go.Proofs
set_option maxHeartbeats 1000000
set_option maxRecDepth 100000

end Go.Ab.StF
