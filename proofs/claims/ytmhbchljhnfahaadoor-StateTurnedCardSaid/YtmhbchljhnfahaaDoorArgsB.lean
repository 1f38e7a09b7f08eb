/-
  THE STATE FAMILY: the arguments of its outright laws, read as ours.
-/
import Derived.Test.YtmhbchljhnfahaaDoorArgs
namespace Go.Ab.StF
open Go Go.Ab Go.Proofs
set_option maxRecDepth 100000

section
variable {H : Type} {enc : TypeId × Value → H} {w : World}
theorem byte_ok {n : Int} (h : IntKind.u8.min ≤ n ∧ n ≤ IntKind.u8.max) : 0 ≤ n ∧ n ≤ 255 := h
theorem oTri : OpA S enc Tryd.prog w 85 fun cl => ∃ p q r : Int, cl = [.arr (S := S) U.u8 3 [p, q, r]] ∧ (0 ≤ p ∧ p ≤ 255) ∧ (0 ≤ q ∧ q ≤ 255) ∧ (0 ≤ r ∧ r ≤ 255) := by
  refine (OpA.array (S := S) (u := U.u8) Tryd.underlying85 (by rw [z85, z5]) oByte).mono ?_
  rintro cl ⟨ys, rfl, hl, hb⟩
  match ys, hl, hb with
  | [p, q, r], _, hb => exact ⟨p, q, r, rfl, byte_ok (hb p (by simp)), byte_ok (hb q (by simp)), byte_ok (hb r (by simp))⟩
end
end Go.Ab.StF
