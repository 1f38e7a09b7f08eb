/-
  THE STATE FAMILY, PART OA: small functions of the outright laws.
  THE STATE FAMILY, PART OH: what is asked of a valid forme, as calls give it.
-/
import Derived.Test.YtmhbchljhnfahaaDoorPlainC
import Derived.Test.YtmhbchljhnfahaaDoorRefB
import Derived.Test.YtmhbchljhnfahaaDoorStateW
import Derived.Test.YtmhbchljhnfahaaDoorRefL
namespace Go.Ab.StF
open Go Go.Ab Go.Proofs
set_option maxHeartbeats 1000000
set_option maxRecDepth 100000

theorem getI_at {α : Type} {l : List α} {m : Int} {k : Nat} (e : m = (k : Int)) (h : k < l.length) : getI l m = some l[k] := by rw [e]; exact getI_nat h

theorem c44 (gl : Gl) (xs : List (ByteArray × Int)) (cs : List (ByteArray × List Int)) (hN : LensN xs cs) : PCalls PR gl 44 [.agg [lociV xs, copsV cs]] fun r => r = vB ((chk xs cs).2.2 == 0) := by
  refine fnW_sound (par_ok gl) Tryd.func44 ?_
  conv => whnf
  refine byC (c17 gl xs cs hN) op17 ?_
  -- R:
  conv => whnf

theorem op44 : Opens PR 44 := ⟨_, Tryd.func44, rfl, rfl⟩

def saysB (v : Int) (a b : Bool) : Bool := v == 0 || (v == 1 && a) || (v == 2 && b)

/-- The numbers below another one whose bits are set, or not set. -/
def someP (bits : Int) (set : Nat) (i : Nat) : Bool := decide (bits.toNat / 2 ^ i % 2 = set)
/-- Ascending indices of so many. -/
def ascB (m : Int) (l : List Int) (i : Nat) : Bool := (List.range i).all fun j => !(decide (l.getD j 0 < 0) || decide (l.getD j 0 ≥ m) || (decide (j > 0) && decide (l.getD j 0 ≤ l.getD (j - 1) 0)))
end Go.Ab.StF

namespace Go.Ab.StF
open Go Go.Ab Go.Proofs
set_option maxHeartbeats 1000000
set_option maxRecDepth 100000

theorem idx_of {p : Int} (hp : 0 ≤ p ∧ p ≤ 255) {n : Nat} (hn : 1 ≤ n) : ∃ a : Nat, (IntKind.i64.wrap p).tmod (n : Int) = a ∧ a < n := by
  obtain ⟨q, rfl⟩ : ∃ q : Nat, p = q := ⟨p.toNat, by omega⟩
  refine ⟨q % n, ?_, Nat.mod_lt _ (by omega)⟩
  rw [wrap_int (n := (q : Int)) (by omega) (by omega), Int.tmod_eq_emod_of_nonneg (by omega)]; omega

section
variable {xs : List (ByteArray × Int)} {cs : List (ByteArray × List Int)} {A B : Int} {a b : Nat}
theorem join {T G : Prop} (main : T → G) (tail : T) : G := main tail
theorem is_chk {c : Int} (h : (!(c == 0)) = false) : c = 0 := by simpa using h
end

end Go.Ab.StF
