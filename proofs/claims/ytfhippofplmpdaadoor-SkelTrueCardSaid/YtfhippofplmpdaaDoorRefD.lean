/-
  THE SKELETON FAMILY, PART PQ: parts of jobs, and what two formes have the same, of the reference: plain.
  THE SKELETON FAMILY, PART RE: parts of jobs, Proof and Share: of the reference; the law SkelSkeletons.
-/
import Derived.Test.YtfhippofplmpdaaDoorRefC
import Derived.Test.YtfhippofplmpdaaDoorLawA
namespace Go.Ab.SkF
open Go Go.Ab Go.Ab.Pln

/-- What is seen in some formes, by sightings: up to one of them, and up to a forme of the next. -/
def subX (l : List Nat) (x : Sg) (k : Nat) : Sgs := ((List.range k).filter fun k => ((l.getD k 0 : Nat) : Int) == x.1).map fun (k : Nat) => ((k : Int), x.2)
/-! ### Whether two formes have the same -/
def sameC (W : List (List Nat)) (a b : Nat) : Nat := (W.filter fun x => x.getD a 0 == x.getD b 0).length
end Go.Ab.SkF

namespace Go.Ab.SkF
open Go Go.Ab Go.Ab.Pln Go.Proofs
set_option maxHeartbeats 1000000
set_option maxRecDepth 100000

end Go.Ab.SkF
