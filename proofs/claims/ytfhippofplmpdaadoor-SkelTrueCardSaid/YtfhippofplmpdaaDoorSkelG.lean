/-
  THE SKELETON FAMILY, PART PL: the examples of the document: plain.
  THE SKELETON FAMILY, PART WO: the examples of the document: of the program; the law SkelKnown.
-/
import Derived.Test.YtfhippofplmpdaaDoorSkelF
namespace Go.Ab.SkF
open Go Go.Ab Go.Ab.Pln
set_option maxRecDepth 100000

def TSJ : List ByteArray := [⟨#[101]⟩, ⟨#[102]⟩]
def FSJ : Fms := [(⟨#[112]⟩, 0, 1, 3), (⟨#[113]⟩, 2, 4, 5), (⟨#[114]⟩, 4, 6, 8), (⟨#[115]⟩, 6, 9, 10), (⟨#[116]⟩, 9, 11, 12)]
def SSJ (further : Bool) : Sgs := match further with
  | true => [(0, 0, 1), (2, 0, 2), (1, 1, 0), (4, 1, 1), (1, 0, 0)]
  | false => [(0, 0, 1), (2, 0, 2), (1, 1, 0), (4, 1, 1)]

theorem exG : groupsS TSJ FSJ (SSJ false) = ([0, 1, 0, 3, 1], 0) := by decide +kernel
theorem exC1 : clashR TSJ FSJ (SSJ true) = (0, 1, 0) := by decide +kernel
theorem exK0 : crackR TSJ FSJ (SSJ false) 0 = (2, 8, 0) := by decide +kernel
theorem exD1 : doubtR TSJ FSJ (SSJ true) = ([4], 0) := by decide +kernel
theorem exF0 : fewR TSJ FSJ (SSJ false) = ([0, 1, 0, 2, 1], 3, 0) := by decide +kernel
theorem exP : proofR TSJ FSJ (SSJ false) = ([1, 2, 3, 4], 0) := by decide +kernel
theorem exS3 : shareR TSJ FSJ (SSJ false) 0 3 = (2, 0) := by decide +kernel
theorem exR1 : roomR TSJ FSJ (SSJ false) [0] 2 = (9, 0) := by decide +kernel
theorem exR2 : roomR TSJ FSJ (SSJ false) [0, 1] 1 = (0, 9) := by decide +kernel
theorem exQ : pressR TSJ FSJ (SSJ false) = ([0, 0, 0, 0, 0], 1, 0) := by decide +kernel
theorem exT : standR TSJ FSJ (SSJ false) = (2, [0, 1], 0) := by decide +kernel
end Go.Ab.SkF

namespace Go.Ab.SkF
open Go Go.Ab Go.Ab.Pln Go.Proofs
set_option maxHeartbeats 1000000
set_option maxRecDepth 100000

theorem lensE (b : Bool) : LensJ TSJ FSJ (SSJ b) := by cases b <;> exact ⟨by decide, by decide, by decide, by decide, by decide⟩

theorem c98 (gl : Gl) (nm : ByteArray) (a b c : Int) : PCalls PR gl 98 [.str nm, vI a, vI b, vI c] fun r => r = .agg [.str nm, vI a, vI b, vI c] := by
  refine fnW_sound (par_ok gl) Tryd.func98 ?_
  -- R:
  conv => whnf

theorem op98 : Opens PR 98 := ⟨_, Tryd.func98, rfl, rfl⟩

theorem c40f (gl : Gl) : PCalls PR gl 40 [vB false] fun r => r = jobV TSJ FSJ (SSJ false) := by
  refine fnW_sound (par_ok gl) Tryd.func40 ?_
  conv => whnf
  refine ⟨_, rfl, ?_⟩
  conv => whnf
  refine ⟨_, rfl, ?_⟩
  conv => whnf
  refine byC (c98 gl _ _ _ _) op98 ?_
  conv => whnf
  refine byC (c98 gl _ _ _ _) op98 ?_
  conv => whnf
  refine byC (c98 gl _ _ _ _) op98 ?_
  conv => whnf
  refine byC (c98 gl _ _ _ _) op98 ?_
  conv => whnf
  refine byC (c98 gl _ _ _ _) op98 ?_
  conv => whnf
  refine ⟨_, rfl, ?_⟩
  conv => whnf
  refine ⟨_, rfl, ?_⟩
  conv => whnf
  refine ⟨_, rfl, ?_⟩
  conv => whnf
  refine ⟨_, rfl, ?_⟩
  conv => whnf
  refine ⟨_, rfl, ?_⟩
  conv => whnf
  refine ⟨_, rfl, ?_⟩
  conv => whnf
  refine ⟨_, rfl, ?_⟩
  conv => whnf
  refine ⟨_, rfl, ?_⟩
  conv => whnf
  refine ⟨_, rfl, ?_⟩
  -- R:
  conv => whnf
  rfl

theorem op40 : Opens PR 40 := ⟨_, Tryd.func40, rfl, rfl⟩

theorem c40t (gl : Gl) : PCalls PR gl 40 [vB true] fun r => r = jobV TSJ FSJ (SSJ true) := by
  refine fnW_sound (par_ok gl) Tryd.func40 ?_
  conv => whnf
  refine ⟨_, rfl, ?_⟩
  conv => whnf
  refine ⟨_, rfl, ?_⟩
  conv => whnf
  refine byC (c98 gl _ _ _ _) op98 ?_
  conv => whnf
  refine byC (c98 gl _ _ _ _) op98 ?_
  conv => whnf
  refine byC (c98 gl _ _ _ _) op98 ?_
  conv => whnf
  refine byC (c98 gl _ _ _ _) op98 ?_
  conv => whnf
  refine byC (c98 gl _ _ _ _) op98 ?_
  conv => whnf
  refine ⟨_, rfl, ?_⟩
  conv => whnf
  refine ⟨_, rfl, ?_⟩
  conv => whnf
  refine ⟨_, rfl, ?_⟩
  conv => whnf
  refine ⟨_, rfl, ?_⟩
  conv => whnf
  refine ⟨_, rfl, ?_⟩
  conv => whnf
  refine ⟨_, rfl, ?_⟩
  conv => whnf
  refine ⟨_, rfl, ?_⟩
  conv => whnf
  refine ⟨_, rfl, ?_⟩
  conv => whnf
  refine ⟨_, rfl, ?_⟩
  conv => whnf
  refine ⟨_, rfl, ?_⟩
  conv => whnf
  refine ⟨lim (by decide), ?_⟩
  -- R:
  conv => whnf
  rfl

theorem c27 : PCalls PR glT 27 [] fun r => r = vB true := by
  have h18 : PCalls PR glT 18 [jobV TSJ FSJ (SSJ false)] fun r => r = .tup [vL [0, 1, 0, 3, 1], vI 0] := by
    have h := c18 TSJ FSJ (SSJ false) (lensE false)
    rw [exG] at h; exact h
  have h21 : PCalls PR glT 21 [jobV TSJ FSJ (SSJ true)] fun r => r = .tup [vI 0, vI 1, vI 0] := by
    have h := c21 TSJ FSJ (SSJ true) (lensE true)
    rw [exC1] at h; exact h
  have h23 : PCalls PR glT 23 [jobV TSJ FSJ (SSJ false), vI 0] fun r => r = .tup [.agg [vI 2, vI 8], vI 0] := by
    have h := c23 glT TSJ FSJ (SSJ false) (lensE false) 0
    rw [exK0] at h; exact h
  have h25 : PCalls PR glT 25 [jobV TSJ FSJ (SSJ true)] fun r => r = .tup [vL [4], vI 0] := by
    have h := c25 TSJ FSJ (SSJ true) (lensE true)
    rw [exD1] at h; exact h
  have h28 : PCalls PR glT 28 [jobV TSJ FSJ (SSJ false)] fun r => r = .tup [vL [0, 1, 0, 2, 1], vI 3, vI 0] := by
    have h := c28 TSJ FSJ (SSJ false) (lensE false)
    rw [exF0] at h; exact h
  have h30 : PCalls PR glT 30 [jobV TSJ FSJ (SSJ false)] fun r => r = .tup [vL [1, 2, 3, 4], vI 0] := by
    have h := c30 TSJ FSJ (SSJ false) (lensE false)
    rw [exP] at h; exact h
  have h32 : PCalls PR glT 32 [jobV TSJ FSJ (SSJ false), vI 0, vI 3] fun r => r = .tup [vI 2, vI 0] := by
    have h := c32 TSJ FSJ (SSJ false) (lensE false) 0 3
    rw [exS3] at h; exact h
  have h34 : PCalls PR glT 34 [jobV TSJ FSJ (SSJ false), vL [0], vI 2] fun r => r = .tup [vI 9, vI 0] := by
    have h := c34 TSJ FSJ (SSJ false) (lensE false) [0] (by decide) 2
    rw [exR1] at h; exact h
  have h34b : PCalls PR glT 34 [jobV TSJ FSJ (SSJ false), vL [0, 1], vI 1] fun r => r = .tup [vI 0, vI 9] := by
    have h := c34 TSJ FSJ (SSJ false) (lensE false) [0, 1] (by decide) 1
    rw [exR2] at h; exact h
  have h36 : PCalls PR glT 36 [jobV TSJ FSJ (SSJ false)] fun r => r = .tup [vL [0, 0, 0, 0, 0], vI 1, vI 0] := by
    have h := c36 TSJ FSJ (SSJ false) (lensE false)
    rw [exQ] at h; exact h
  have h38 : PCalls PR glT 38 [jobV TSJ FSJ (SSJ false)] fun r => r = .tup [vI 2, vL [0, 1], vI 0] := by
    have h := c38 glT TSJ FSJ (SSJ false) (lensE false)
    rw [exT] at h; exact h
  refine fnW_sound (par_ok glT) Tryd.func27 ?_
  conv => whnf
  refine byC (c40f glT) op40 ?_
  conv => whnf
  refine byC (c40t glT) op40 ?_
  conv => whnf
  refine byC h18 op18 ?_
  conv => whnf
  refine byC h21 op21 ?_
  conv => whnf
  refine byC h23 op23 ?_
  conv => whnf
  refine byC h25 op25 ?_
  conv => whnf
  refine byC h28 op28 ?_
  conv => whnf
  refine byC h30 op30 ?_
  conv => whnf
  refine byC h32 op32 ?_
  conv => whnf
  refine ⟨_, rfl, ?_⟩
  conv => whnf
  refine byC h34 op34 ?_
  conv => whnf
  refine ⟨_, rfl, ?_⟩
  conv => whnf
  refine ⟨_, rfl, ?_⟩
  conv => whnf
  refine byC h34b op34 ?_
  conv => whnf
  refine byC h36 op36 ?_
  conv => whnf
  refine byC h38 op38 ?_
  conv => whnf
  refine ⟨_, rfl, ?_⟩
  conv => whnf
  refine ⟨_, rfl, ?_⟩
  conv => whnf
  refine ⟨_, rfl, ?_⟩
  conv => whnf
  refine ⟨_, rfl, ?_⟩
  conv => whnf
  refine ⟨_, rfl, ?_⟩
  conv => whnf
  refine byC (c20 glT _ _ (by decide)) op20 ?_
  conv => whnf
  refine ⟨_, rfl, ?_⟩
  conv => whnf
  refine ⟨_, rfl, ?_⟩
  conv => whnf
  refine byC (c20 glT _ _ (by decide)) op20 ?_
  conv => whnf
  refine ⟨_, rfl, ?_⟩
  conv => whnf
  refine ⟨_, rfl, ?_⟩
  conv => whnf
  refine ⟨_, rfl, ?_⟩
  conv => whnf
  refine ⟨_, rfl, ?_⟩
  conv => whnf
  refine ⟨_, rfl, ?_⟩
  conv => whnf
  refine byC (c20 glT _ _ (by decide)) op20 ?_
  conv => whnf
  refine ⟨_, rfl, ?_⟩
  conv => whnf
  refine ⟨_, rfl, ?_⟩
  conv => whnf
  refine ⟨_, rfl, ?_⟩
  conv => whnf
  refine ⟨_, rfl, ?_⟩
  conv => whnf
  refine byC (c20 glT _ _ (by decide)) op20 ?_
  conv => whnf
  refine ⟨_, rfl, ?_⟩
  conv => whnf
  refine ⟨_, rfl, ?_⟩
  conv => whnf
  refine byC (c20 glT _ _ (by decide)) op20 ?_
  -- R:
  conv => whnf
  rfl

theorem op27 : Opens PR 27 := ⟨_, Tryd.func27, rfl, rfl⟩

end Go.Ab.SkF
