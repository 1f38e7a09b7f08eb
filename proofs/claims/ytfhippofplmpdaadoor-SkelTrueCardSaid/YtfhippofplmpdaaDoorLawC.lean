/-
  THE SKELETON FAMILY, PART PT: whether two formes have the same skeleton: plain.
  THE SKELETON FAMILY, PART LF: the law SkelShared.
-/
import Derived.Test.YtfhippofplmpdaaDoorLawB
namespace Go.Ab.SkF
open Go Go.Ab Go.Ab.Pln

structure ShareF (fs : Fms) (ss : Sgs) (x : List Nat) (a b : Nat) (v : Int) : Prop where
  lo : 0 ≤ v
  hi : v ≤ 2
  same : lab fs.length ss a = lab fs.length ss b → v = 1
  never : stN fs a b = true → v = 2
  eq : v = 1 → x.getD a 0 = x.getD b 0
  ne : v = 2 → x.getD a 0 ≠ x.getD b 0
theorem groupsS_ok {ts : List ByteArray} {fs : Fms} {ss : Sgs} (hk : chE ts fs ss = 0) : groupsS ts fs ss = (natsV (labL fs.length ss), 0) := by unfold groupsS; rw [if_neg (fun h => h hk)]; rfl
end Go.Ab.SkF

namespace Go.Ab.SkF
open Go Go.Ab Go.Ab.Pln Go.Proofs
set_option maxHeartbeats 1000000
set_option maxRecDepth 100000

end Go.Ab.SkF
