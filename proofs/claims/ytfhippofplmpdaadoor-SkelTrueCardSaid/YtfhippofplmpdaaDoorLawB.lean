/-
  THE SKELETON FAMILY, PART PS: what the outright laws need: plain.
  THE SKELETON FAMILY, PART LE: the law SkelEnough.
-/
import Derived.Test.YtfhippofplmpdaaDoorRefE
namespace Go.Ab.SkF
open Go Go.Ab Go.Ab.Pln

/-- A job is not valid, or two of its formes clash, or it has skeletons. -/
theorem job3 (ts : List ByteArray) (fs : Fms) (ss : Sgs) : (∃ e, e ≠ 0 ∧ chE ts fs ss = e ∧ fewR ts fs ss = ([], 0, e)) ∨ (chE ts fs ss = 0 ∧ ∃ a b, clashJ fs ss = some (a, b) ∧ fewR ts fs ss = ([], 0, 9)) ∨
    (chE ts fs ss = 0 ∧ clashJ fs ss = none ∧ ∃ x u, Skel fs ss x u ∧ fewR ts fs ss = (natsV x, (u : Int), 0)) := by
  by_cases hk : chE ts fs ss = 0
  · right
    rcases hJ : clashJ fs ss with _ | ⟨a, b⟩
    · right
      have hv := (chk_valid.1 hk).job
      obtain ⟨x, u, hsk⟩ := skel_of hv.n0 hv.n8 hv.s6 hJ
      exact ⟨hk, rfl, x, u, hsk, by unfold fewR; rw [if_neg (fun h => h (ask_ok hk hJ)), hsk.eq]⟩
    · left
      exact ⟨hk, a, b, rfl, by unfold fewR; rw [ask_cl hk hJ, if_pos (by decide)]⟩
  · exact .inl ⟨_, hk, rfl, by unfold fewR; rw [ask_no hk, if_pos hk]⟩
end Go.Ab.SkF

namespace Go.Ab.SkF
open Go Go.Ab Go.Ab.Pln Go.Proofs
set_option maxHeartbeats 1000000
set_option maxRecDepth 100000

theorem c41 (gl : Gl) (ts : List ByteArray) (fs : Fms) (ss : Sgs) (hL : LensJ ts fs ss) : PCalls PR gl 41 [.agg [strsV ts, fmsV fs, sgsV ss]] fun r => r = vB (chE ts fs ss == 0) := by
  refine fnW_sound (par_ok gl) Tryd.func41 ?_
  conv => whnf
  refine byC (c17 gl ts fs ss hL) op17 ?_
  -- R:
  conv => whnf

theorem op41 : Opens PR 41 := ⟨_, Tryd.func41, rfl, rfl⟩

theorem c41t (gl : Gl) (ts : List ByteArray) (fs : Fms) (ss : Sgs) (hL : LensJ ts fs ss) (h : chE ts fs ss = 0) : PCalls PR gl 41 [jobV ts fs ss] fun r => r = vB true := by
  have hc := c41 gl ts fs ss hL
  rw [show (chE ts fs ss == 0) = true by rw [h]; rfl] at hc
  exact hc
theorem c41f (gl : Gl) (ts : List ByteArray) (fs : Fms) (ss : Sgs) (hL : LensJ ts fs ss) (h : chE ts fs ss ≠ 0) : PCalls PR gl 41 [jobV ts fs ss] fun r => r = vB false := by
  have hc := c41 gl ts fs ss hL
  rw [show (chE ts fs ss == 0) = false by simpa using h] at hc
  exact hc
theorem nN {a b : Nat} {c : Bool} (h : (((a : Nat) : Int) != ((b : Nat) : Int)) = c) : (a != b) = c := by rw [neN] at h; exact h

end Go.Ab.SkF
