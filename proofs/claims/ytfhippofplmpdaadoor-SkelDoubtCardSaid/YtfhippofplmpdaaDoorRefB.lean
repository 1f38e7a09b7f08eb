/-
  THE SKELETON FAMILY, PART PN: days on which types crack, and what is in doubt, of the reference: plain.
  THE SKELETON FAMILY, PART RC: days on which types crack, and what is in doubt: of the reference.
-/
import Derived.Test.YtfhippofplmpdaaDoorRefA
namespace Go.Ab.SkF
open Go Go.Ab Go.Ab.Pln

/-- What the reference looks for among the days of a forme. -/
def cndB (day look d : Int) : Bool := decide (d ≥ day) == (look == 2)
/-- The days of Cracks. -/
def crkP (fs : Fms) (ss : Sgs) (t : Int) (d : Nat) : Bool := ss.all (saidB fs t d)
def crkL (fs : Fms) (ss : Sgs) (t : Int) : List Nat := (List.range 62).filter (crkP fs ss t)
/-! ### Lists that are gone through -/
theorem has_nats (l : List Nat) (i : Nat) : ((natsV l).any fun x => x == (i : Int)) = l.contains i := by
  rw [Bool.eq_iff_iff, List.any_eq_true, List.contains_iff_mem]
  constructor
  · rintro ⟨x, hx, he⟩
    obtain ⟨k, hk, rfl⟩ := List.mem_map.1 hx
    have : (k : Int) = i := by simpa using he
    obtain rfl : k = i := by omega
    exact hk
  · intro h; exact ⟨(i : Int), List.mem_map.2 ⟨i, h, rfl⟩, by simp⟩
theorem agree_cl {nt : Nat} {fs : Fms} {ss : Sgs} {p : Nat × Nat} (h : clashJ fs ss = some p) : agreeB nt fs ss = false := by unfold agreeB; rw [h]; rfl
end Go.Ab.SkF

namespace Go.Ab.SkF
open Go Go.Ab Go.Ab.Pln Go.Proofs
set_option maxHeartbeats 1000000
set_option maxRecDepth 100000

theorem filt_T {p : Nat → Bool} {i : Nat} (h : p i = true) : natsV ((List.range i).filter p) ++ [((i : Nat) : Int)] = natsV ((List.range (i + 1)).filter p) := by
  rw [List.range_succ, List.filter_append]; simp [natsV, h]
theorem filt_F {p : Nat → Bool} {i : Nat} (h : p i = false) : (List.range i).filter p = (List.range (i + 1)).filter p := by
  rw [List.range_succ, List.filter_append]; simp [h]
theorem filt_len (p : Nat → Bool) (i : Nat) : (natsV ((List.range i).filter p)).length ≤ i := by
  rw [natsV_length]; have := List.length_filter_le p (List.range i); simpa using this

theorem c51 (gl : Gl) (ts : List ByteArray) (fs : Fms) (ss : Sgs) (hsl : ss.length ≤ 100) (l : List Nat) (hl : l.length ≤ 9223372036854775807) : PCalls PR gl 51 [.agg [strsV ts, fmsV fs, sgsV ss], vL (natsV l)] fun r => r = jobV ts fs (pickS ss (fun i => !l.contains i)) := by
  refine fnW_sound (par_ok gl) Tryd.func51 ?_
  conv => whnf
  refine ⟨⟨118, [1004, 2004, 3004], [5, 1004, 2004, 3004]⟩, ?_⟩
  refine LoopW_ind _ (fun i : Nat => (({ tmps := [.undef, vL (natsV l), .own 2 [], .undef, .own 4 [], .sl (S := S) U.sight (pickU ss (fun i => !l.contains i) i) (some 5), vI i, .undef, .undef, .undef, .undef, .undef, .undef, .undef, .undef, .undef, .undef, .undef, .undef, .undef, .undef, .undef, .undef, .undef, .undef, .undef, .undef, .undef, .undef], seg := [(2, .cells [strsV ts, fmsV fs, sgsV ss]), (4, .cells [strsV [], fmsV [], sgsV []]), (5, .row U.sight false)], up := [] } : St S))) (fun i : Nat => (i ≤ ss.length)) (fun i : Nat => (ss.length - i)) () ?_ 0 (Nat.zero_le _)
  intro i hi Z1 hZ1
  conv => whnf
  refine bcase_iff.2 ⟨fun h3 => ?_, fun h3 => ?_⟩
  · skip
    have hlt : i < ss.length := by have := of_decide_eq_true h3; omega
    have hw : IntKind.i64.wrap ((i : Int) + 1) = ((i + 1 : Nat) : Int) := wrap_nat (by omega)
    conv => whnf
    refine byC (c99 gl (natsV l) (by rw [natsV_length]; exact hl) i) op99 ?_
    conv => whnf
    refine bcase_iff.2 ⟨fun h5 => ?_, fun h5 => ?_⟩
    · skip
      have q : (!l.contains i) = true := by have g : (!(natsV l).any fun x => x == (i : Int)) = true := h5; rw [has_nats] at g; exact g
      conv => whnf
      refine ⟨_, getI_nat hlt, ?_⟩
      conv => whnf
      refine ⟨_, rfl, ?_⟩
      conv => whnf
      have hpl : (pickU ss (fun i => !l.contains i) i).length ≤ i := by unfold pickU; have := List.length_filter_le (fun i => !l.contains i) (List.range i); simpa using this
      conv => whnf
      refine ⟨lim (by show (pickU ss (fun i => !l.contains i) i).length + 1 ≤ _; omega), ?_⟩
      -- Z3:TT
      conv => whnf
      refine ⟨⟨118, [24, 25], []⟩, ?_⟩
      conv => whnf
      rw [hw]
      have hz := hZ1 (i + 1) hlt (by omega)
      rw [pickU_succ, if_pos q, getD_at hlt] at hz
      exact hz
    · skip
      have q : (!l.contains i) = false := by have g : (!(natsV l).any fun x => x == (i : Int)) = false := h5; rw [has_nats] at g; exact g
      -- Z3:TF
      conv => whnf
      refine ⟨⟨118, [24, 25], []⟩, ?_⟩
      conv => whnf
      rw [hw]
      have hz := hZ1 (i + 1) hlt (by omega)
      rw [pickU_succ, if_neg (by rw [q]; simp), List.append_nil] at hz
      exact hz
  · skip
    have hge : i = ss.length := by have := of_decide_eq_false h3; omega
    subst hge
    -- R:F
    conv => whnf

theorem op51 : Opens PR 51 := ⟨_, Tryd.func51, rfl, rfl⟩

end Go.Ab.SkF
