/-
  THE SKELETON FAMILY, PART PU: how many stand, and how many presses there are: plain.
  THE SKELETON FAMILY, PART LG: the law SkelStanding.
-/
import Derived.Test.YtfhippofplmpdaaDoorLawC
namespace Go.Ab.SkF
open Go Go.Ab Go.Ab.Pln

theorem job_days {nt : Nat} {fs : Fms} {ss : Sgs} (hj : Job nt fs ss) {i : Nat} (hi : i < fs.length) : 0 ≤ setOf fs i ∧ setOf fs i ≤ onOf fs i ∧ onOf fs i ≤ offOf fs i ∧ offOf fs i ≤ 60 := by
  unfold setOf onOf offOf
  rw [getD_at hi]
  exact hj.f _ (List.getElem_mem hi)
/-- The greatest of some numbers. -/
def maxU (f : Nat → Nat) : Nat → Nat
  | 0 => 0
  | t + 1 => max (maxU f t) (f t)
/-- How many formes are printed on a day. -/
def prC (fs : Fms) (t : Nat) : Nat := (onP (onOf fs) (offOf fs) fs.length t).length
def prU (fs : Fms) (t i : Nat) : Nat := (onP (onOf fs) (offOf fs) i t).length
end Go.Ab.SkF

namespace Go.Ab.SkF
open Go Go.Ab Go.Ab.Pln Go.Proofs
set_option maxHeartbeats 1000000
set_option maxRecDepth 100000

end Go.Ab.SkF
