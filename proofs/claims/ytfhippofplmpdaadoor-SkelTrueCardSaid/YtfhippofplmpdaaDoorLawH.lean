/-
  THE SKELETON FAMILY, PART PY: a job of which all days are later by as many: plain.
  THE SKELETON FAMILY, PART PZ: a job with its formes and sightings in the other order: plain.
  THE SKELETON FAMILY, PART LK: the law SkelMoved.
-/
import Derived.Test.YtfhippofplmpdaaDoorLawG
namespace Go.Ab.SkF
open Go Go.Ab Go.Ab.Pln

def shF (b : Nat) (fs : Fms) : Fms := fs.map fun f => (f.1, f.2.1 + (b : Int), f.2.2.1 + (b : Int), f.2.2.2 + (b : Int))
/-- Days on which a type cracks, and those later by as many. -/
structure Lat (b : Nat) (p q : Int × Int) : Prop where
  lo : (p.1 = 0 ∧ q.1 = 0) ∨ (1 ≤ p.1 ∧ p.1 + b ≤ 61 ∧ q.1 = p.1 + b)
  hi : (p.2 = 61 ∧ q.2 = 61) ∨ (0 ≤ p.2 ∧ p.2 + b ≤ 60 ∧ q.2 = p.2 + b)
theorem Lat.same {b : Nat} {p q : Int × Int} (h : Lat b p q) : p.1 > p.2 ↔ q.1 > q.2 := by
  have h1 := h.lo
  have h2 := h.hi
  omega
end Go.Ab.SkF

namespace Go.Ab.SkF
open Go Go.Ab Go.Ab.Pln

/-- The sightings, of formes counted from the end, in the other order. -/
def rvS (n : Nat) (ss : Sgs) : Sgs := (ss.map fun s => ((n : Int) - 1 - s.1, s.2)).reverse
end Go.Ab.SkF

namespace Go.Ab.SkF
open Go Go.Ab Go.Ab.Pln Go.Proofs
set_option maxHeartbeats 1000000
set_option maxRecDepth 100000

theorem few_len {ts : List ByteArray} {fs : Fms} {ss : Sgs} (h : fs.length ≤ 100) : (fewR ts fs ss).1.length ≤ 100 := by
  rcases job3 ts fs ss with ⟨e, _, _, hR⟩ | ⟨_, _, _, _, hR⟩ | ⟨_, _, x, u, hsk, hR⟩ <;> rw [hR]
  · simp
  · simp
  · show (natsV x).length ≤ 100
    rw [natsV_length, hsk.few.way.len]; exact h

end Go.Ab.SkF
