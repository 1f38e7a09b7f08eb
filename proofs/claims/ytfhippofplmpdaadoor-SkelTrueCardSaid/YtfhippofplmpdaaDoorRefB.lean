/-
  THE SKELETON FAMILY, PART PN: days on which types crack, and what is in doubt, of the reference: plain.
  THE SKELETON FAMILY, PART RC: days on which types crack, and what is in doubt: of the reference.
-/
import Derived.Test.YtfhippofplmpdaaDoorRefA
namespace Go.Ab.SkF
open Go Go.Ab Go.Ab.Pln

/-- What the reference looks for among the days of a forme. -/
def cndB (day look d : Int) : Bool := decide (d ≥ day) == (look == 2)
/-- The days of Cracks. -/
def crkP (fs : Fms) (ss : Sgs) (t : Int) (d : Nat) : Bool := ss.all (saidB fs t d)
def crkL (fs : Fms) (ss : Sgs) (t : Int) : List Nat := (List.range 62).filter (crkP fs ss t)
/-! ### Lists that are gone through -/
theorem has_nats (l : List Nat) (i : Nat) : ((natsV l).any fun x => x == (i : Int)) = l.contains i := by
  rw [Bool.eq_iff_iff, List.any_eq_true, List.contains_iff_mem]
  constructor
  · rintro ⟨x, hx, he⟩
    obtain ⟨k, hk, rfl⟩ := List.mem_map.1 hx
    have : (k : Int) = i := by simpa using he
    obtain rfl : k = i := by omega
    exact hk
  · intro h; exact ⟨(i : Int), List.mem_map.2 ⟨i, h, rfl⟩, by simp⟩
end Go.Ab.SkF

namespace Go.Ab.SkF
open Go Go.Ab Go.Ab.Pln Go.Proofs
set_option maxHeartbeats 1000000
set_option maxRecDepth 100000

end Go.Ab.SkF
