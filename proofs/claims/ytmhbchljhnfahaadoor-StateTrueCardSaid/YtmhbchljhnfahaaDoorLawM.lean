/-
  THE STATE FAMILY, PART OI: StateMore.
-/
import Derived.Test.YtmhbchljhnfahaaDoorLawG
namespace Go.Ab.StF
open Go Go.Ab Go.Proofs
set_option maxHeartbeats 1000000
set_option maxRecDepth 100000

theorem sure_ne {x y : Int} (h : x = 0 ∨ x = y) (h1 : (x != 0) = true) (h2 : (x != y) = true) : False := by
  rcases h with h | h <;> rw [h] at h1 h2 <;> simp at h1 h2
end Go.Ab.StF
