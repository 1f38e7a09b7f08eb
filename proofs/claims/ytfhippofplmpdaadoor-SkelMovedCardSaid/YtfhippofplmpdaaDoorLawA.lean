/-
  THE SKELETON FAMILY, PART LA: the law SkelSights.
-/
import Derived.Test.YtfhippofplmpdaaDoorRefB
namespace Go.Ab.SkF
open Go Go.Ab Go.Ab.Pln Go.Proofs
set_option maxHeartbeats 1000000
set_option maxRecDepth 100000

theorem neqX {a : Int} {P : Prop} (h : (a != a) = true) : P := by simp at h
theorem decX {α : Type} [DecidableEq α] {a : α} {P : Prop} (h : (!decide (a = a)) = true) : P := by simp at h
end Go.Ab.SkF
