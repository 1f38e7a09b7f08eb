/-
  THE STATE FAMILY: the arguments of its outright laws, read as ours.
-/
import Derived.Test.YtmhbchljhnfahaaDoorArgs
namespace Go.Ab.StF
open Go Go.Ab Go.Proofs
set_option maxRecDepth 100000

section
variable {H : Type} {enc : TypeId × Value → H} {w : World}
theorem byte_ok {n : Int} (h : IntKind.u8.min ≤ n ∧ n ≤ IntKind.u8.max) : 0 ≤ n ∧ n ≤ 255 := h
theorem oByteV : OpA S enc Tryd.prog w 5 fun cl => ∃ n : Int, cl = [.int .u8 n] ∧ (0 ≤ n ∧ n ≤ 255) := oByte.mono fun _ ⟨n, h, h1⟩ => ⟨n, h, byte_ok h1⟩
theorem oStr : OpA S enc Tryd.prog w 9 fun cl => ∃ s : ByteArray, cl = [.str s] ∧ s.size ≤ 9223372036854775807 := OpA.str Tryd.underlying9
end
end Go.Ab.StF
