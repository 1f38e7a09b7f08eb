/-
  THE STATE FAMILY: the arguments of its outright laws, read as ours.
-/
import Derived.Test.YtmhbchljhnfahaaDoorArgs
namespace Go.Ab.StF
open Go Go.Ab Go.Proofs
set_option maxRecDepth 100000

section
variable {H : Type} {enc : TypeId × Value → H} {w : World}
theorem byte_ok {n : Int} (h : IntKind.u8.min ≤ n ∧ n ≤ IntKind.u8.max) : 0 ≤ n ∧ n ≤ 255 := h
theorem oQuad : OpA S enc Tryd.prog w 61 fun cl => ∃ p q r s : Int, cl = [.arr (S := S) U.u8 4 [p, q, r, s]] ∧ (0 ≤ p ∧ p ≤ 255) ∧ (0 ≤ q ∧ q ≤ 255) ∧ (0 ≤ r ∧ r ≤ 255) ∧ (0 ≤ s ∧ s ≤ 255) := by
  refine (OpA.array (S := S) (u := U.u8) Tryd.underlying61 (by rw [z61, z5]) oByte).mono ?_
  rintro cl ⟨ys, rfl, hl, hb⟩
  match ys, hl, hb with
  | [p, q, r, s], _, hb => exact ⟨p, q, r, s, rfl, byte_ok (hb p (by simp)), byte_ok (hb q (by simp)), byte_ok (hb r (by simp)), byte_ok (hb s (by simp))⟩
theorem oBytesV : OpA S enc Tryd.prog w 58 fun cl => ∃ l : List Int, cl = [.sl (S := S) U.u8 l none] ∧ l.length ≤ 9223372036854775807 ∧ ∀ v ∈ l, 0 ≤ v ∧ v ≤ 255 := oBytes.mono fun _ ⟨l, h, h1, h2⟩ => ⟨l, h, h1, fun v hv => byte_ok (h2 v hv)⟩
theorem oPast : OpA S enc Tryd.prog w 60 fun cl => ∃ a b c : List Int, cl = [.sl (S := S) U.u8 a none, .sl (S := S) U.u8 b none, .sl (S := S) U.u8 c none] ∧ (a.length ≤ 9223372036854775807 ∧ ∀ v ∈ a, 0 ≤ v ∧ v ≤ 255) ∧ (b.length ≤ 9223372036854775807 ∧ ∀ v ∈ b, 0 ≤ v ∧ v ≤ 255) ∧ c.length ≤ 9223372036854775807 ∧ ∀ v ∈ c, 0 ≤ v ∧ v ≤ 255 := by
  refine (OpA.struct (Rs := [_, _, _]) Tryd.underlying60 ⟨rfl, _, _, rfl, oBytesV, by rw [z58], _, _, rfl, oBytesV, by rw [z58], _, _, rfl, oBytesV, by rw [z58, z60], rfl⟩).mono ?_
  rintro cl ⟨a, b, rfl, ⟨x, rfl, h1, h2⟩, c, d, rfl, ⟨y, rfl, h3, h4⟩, e, f, rfl, ⟨z, rfl, h5, h6⟩, rfl⟩
  exact ⟨x, y, z, rfl, ⟨h1, h2⟩, ⟨h3, h4⟩, h5, h6⟩
end
end Go.Ab.StF
