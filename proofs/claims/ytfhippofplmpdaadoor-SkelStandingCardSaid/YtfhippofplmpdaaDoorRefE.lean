/-
  THE SKELETON FAMILY, PART PR: rooms, presses and days of the reference: plain.
  THE SKELETON FAMILY, PART RF: rooms, presses, days: of the reference; the law SkelRooms.
-/
import Derived.Test.YtfhippofplmpdaaDoorRefD
namespace Go.Ab.SkF
open Go Go.Ab Go.Ab.Pln

/-- The error of a job and types, up to one of them. -/
def rmA (c nt : Int) (tys : List Int) (i : Nat) : Int := if c ≠ 0 then c else if (tys.take i).any (outB 0 (nt - 1)) then 4 else 0
/-- The same, of types that are there twice. -/
def rmB (c : Int) (tys : List Int) (i : Nat) : Int := if c ≠ 0 then c else if (List.range i).any (dupB tys) then 5 else 0
/-- Does a forme stand on a day? -/
def onB (fs : Fms) (d : Int) (k : Nat) : Bool := decide (setOf fs k ≤ d) && decide (d ≤ offOf fs k)
theorem onL_filter (fs : Fms) (d : Int) : onL fs d = (List.range fs.length).filter (onB fs d) := rfl
end Go.Ab.SkF

namespace Go.Ab.SkF
open Go Go.Ab Go.Ab.Pln Go.Proofs
set_option maxHeartbeats 1000000
set_option maxRecDepth 100000

theorem c52 (gl : Gl) (ts : List ByteArray) (fs : Fms) (ss : Sgs) (hf : fs.length ≤ 100) (day : Int) : PCalls PR gl 52 [.agg [strsV ts, fmsV fs, sgsV ss], vI day] fun r => r = vL (natsV (onL fs day)) := by
  refine fnW_sound (par_ok gl) Tryd.func52 ?_
  conv => whnf
  refine ⟨⟨102, [4], [4, 5]⟩, ?_⟩
  refine LoopW_ind _ (fun i : Nat => (({ tmps := [.undef, vI day, .own 2 [], .undef, .undef, .sl (S := S) U.int (natsV ((List.range i).filter (onB fs day))) (some 5), vI i, .undef, .undef, .undef, .undef, .undef, .undef, .undef, .undef, .undef, .undef, .undef, .undef, .undef, .undef, .undef, .undef, .undef, .undef, .undef, .undef, .undef, .undef, .undef, .undef, .undef, .undef], seg := [(2, .cells [strsV ts, fmsV fs, sgsV ss]), (5, .row U.int false)], up := [] } : St S))) (fun i : Nat => (i ≤ fs.length)) (fun i : Nat => (fs.length - i)) () ?_ 0 (Nat.zero_le _)
  intro i hi Z1 hZ1
  conv => whnf
  refine bcase_iff.2 ⟨fun h3 => ?_, fun h3 => ?_⟩
  · skip
    have hlt : i < fs.length := by have := of_decide_eq_true h3; omega
    have hw : IntKind.i64.wrap ((i : Int) + 1) = ((i + 1 : Nat) : Int) := wrap_nat (by omega)
    conv => whnf
    refine ⟨[0, 1, 2, 3, 4, 5, 6, 7, 8, 9, 10, 11, 12, 13], [], [], [], ⟨8589934591, [], []⟩, by decide +kernel, ?_⟩
    conv => whnf
    refine ⟨_, getI_nat hlt, ?_⟩
    conv => whnf
    refine ⟨_, getI_nat hlt, ?_⟩
    conv => whnf
    have hp : inB day fs[i].2.1 fs[i].2.2.2 = onB fs day i := by unfold inB onB setOf offOf; rw [getD_at hlt]
    conv => whnf
    have h68 := c68 gl day fs[i].2.1 fs[i].2.2.2
    conv => whnf
    rw [hp] at h68
    conv => whnf
    refine byC h68 op68 ?_
    conv => whnf
    refine bcase_iff.2 ⟨fun h5 => ?_, fun h5 => ?_⟩
    · skip
      have q : onB fs day i = true := h5
      conv => whnf
      refine ⟨_, rfl, ?_⟩
      conv => whnf
      have hfl := filt_len (onB fs day) i
      conv => whnf
      refine ⟨Pln.lim (by show (natsV ((List.range i).filter (onB fs day))).length + 1 ≤ _; omega), ?_⟩
      -- Z3:TT
      conv => whnf
      refine ⟨⟨102, [30, 31], []⟩, ?_⟩
      conv => whnf
      rw [hw, filt_T q]
      exact hZ1 (i + 1) (by omega) (by omega)
    · skip
      have q : onB fs day i = false := h5
      -- Z3:TF
      conv => whnf
      refine ⟨⟨102, [30, 31], []⟩, ?_⟩
      conv => whnf
      rw [hw, filt_F q]
      exact hZ1 (i + 1) (by omega) (by omega)
  · skip
    have hge : i = fs.length := by have := of_decide_eq_false h3; omega
    -- R:F
    conv => whnf
    rw [hge, onL_filter]

theorem op52 : Opens PR 52 := ⟨_, Tryd.func52, rfl, rfl⟩

end Go.Ab.SkF
