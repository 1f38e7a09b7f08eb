/-
  THE STATE FAMILY: the arguments of its outright laws, read as ours.
-/
import Derived.Test.YtmhbchljhnfahaaDoorArgs
namespace Go.Ab.StF
open Go Go.Ab Go.Proofs
set_option maxRecDepth 100000

section
variable {H : Type} {enc : TypeId × Value → H} {w : World}
end
end Go.Ab.StF
