/-
  THE SKELETON FAMILY, PART PS: what the outright laws need: plain.
  THE SKELETON FAMILY, PART LE: the law SkelEnough.
-/
import Derived.Test.YtfhippofplmpdaaDoorRefE
namespace Go.Ab.SkF
open Go Go.Ab Go.Ab.Pln

theorem clashR_some {ts : List ByteArray} {fs : Fms} {ss : Sgs} (h : chE ts fs ss = 0) {a b : Nat} (hJ : clashJ fs ss = some (a, b)) : clashR ts fs ss = ((a : Int), (b : Int), 0) := by unfold clashR; rw [if_neg (fun g => g h), hJ]
theorem clashR_none {ts : List ByteArray} {fs : Fms} {ss : Sgs} (h : chE ts fs ss = 0) (hJ : clashJ fs ss = none) : clashR ts fs ss = (0, 0, 4) := by unfold clashR; rw [if_neg (fun g => g h), hJ]
end Go.Ab.SkF

namespace Go.Ab.SkF
open Go Go.Ab Go.Ab.Pln Go.Proofs
set_option maxHeartbeats 1000000
set_option maxRecDepth 100000

theorem c41 (gl : Gl) (ts : List ByteArray) (fs : Fms) (ss : Sgs) (hL : LensJ ts fs ss) : PCalls PR gl 41 [.agg [strsV ts, fmsV fs, sgsV ss]] fun r => r = vB (chE ts fs ss == 0) := by
  refine fnW_sound (par_ok gl) Tryd.func41 ?_
  conv => whnf
  refine byC (c17 gl ts fs ss hL) op17 ?_
  -- R:
  conv => whnf

theorem op41 : Opens PR 41 := ⟨_, Tryd.func41, rfl, rfl⟩

theorem c41t (gl : Gl) (ts : List ByteArray) (fs : Fms) (ss : Sgs) (hL : LensJ ts fs ss) (h : chE ts fs ss = 0) : PCalls PR gl 41 [jobV ts fs ss] fun r => r = vB true := by
  have hc := c41 gl ts fs ss hL
  rw [show (chE ts fs ss == 0) = true by rw [h]; rfl] at hc
  exact hc
theorem c41f (gl : Gl) (ts : List ByteArray) (fs : Fms) (ss : Sgs) (hL : LensJ ts fs ss) (h : chE ts fs ss ≠ 0) : PCalls PR gl 41 [jobV ts fs ss] fun r => r = vB false := by
  have hc := c41 gl ts fs ss hL
  rw [show (chE ts fs ss == 0) = false by simpa using h] at hc
  exact hc
theorem eN {a b : Nat} {c : Bool} (h : (((a : Nat) : Int) == ((b : Nat) : Int)) = c) : (a == b) = c := by rw [eqN] at h; exact h
theorem nN {a b : Nat} {c : Bool} (h : (((a : Nat) : Int) != ((b : Nat) : Int)) = c) : (a != b) = c := by rw [neN] at h; exact h

end Go.Ab.SkF
