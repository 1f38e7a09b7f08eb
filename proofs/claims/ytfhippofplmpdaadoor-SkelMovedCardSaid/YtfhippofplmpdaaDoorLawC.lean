/-
  THE SKELETON FAMILY, PART PT: whether two formes have the same skeleton: plain.
  THE SKELETON FAMILY, PART LF: the law SkelShared.
-/
import Derived.Test.YtfhippofplmpdaaDoorLawB
namespace Go.Ab.SkF
open Go Go.Ab Go.Ab.Pln

structure ShareF (fs : Fms) (ss : Sgs) (x : List Nat) (a b : Nat) (v : Int) : Prop where
  lo : 0 ≤ v
  hi : v ≤ 2
  same : lab fs.length ss a = lab fs.length ss b → v = 1
  never : stN fs a b = true → v = 2
  eq : v = 1 → x.getD a 0 = x.getD b 0
  ne : v = 2 → x.getD a 0 ≠ x.getD b 0
/-- A number of a byte, by turns. -/
theorem mod_byte {a : Int} (ha : 0 ≤ a ∧ a ≤ 255) (n : Nat) : (IntKind.i64.wrap a).tmod (n : Int) = ((a.toNat % n : Nat) : Int) := by
  rw [wrap_int (by omega) (by omega)]
  obtain ⟨k, rfl⟩ : ∃ k : Nat, a = k := ⟨a.toNat, by omega⟩
  rw [Int.tmod_eq_emod_of_nonneg (by omega)]; rfl
end Go.Ab.SkF

namespace Go.Ab.SkF
open Go Go.Ab Go.Ab.Pln Go.Proofs
set_option maxHeartbeats 1000000
set_option maxRecDepth 100000

end Go.Ab.SkF
