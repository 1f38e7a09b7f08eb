/-
  THE STATE FAMILY, PART OA: small functions of the outright laws.
  THE STATE FAMILY, PART OH: what is asked of a valid forme, as calls give it.
-/
import Derived.Test.YtmhbchljhnfahaaDoorPlainC
import Derived.Test.YtmhbchljhnfahaaDoorRefB
import Derived.Test.YtmhbchljhnfahaaDoorStateW
import Derived.Test.YtmhbchljhnfahaaDoorRefL
namespace Go.Ab.StF
open Go Go.Ab Go.Proofs
set_option maxHeartbeats 1000000
set_option maxRecDepth 100000

theorem getI_at {α : Type} {l : List α} {m : Int} {k : Nat} (e : m = (k : Int)) (h : k < l.length) : getI l m = some l[k] := by rw [e]; exact getI_nat h

theorem c44 (gl : Gl) (xs : List (ByteArray × Int)) (cs : List (ByteArray × List Int)) (hN : LensN xs cs) : PCalls PR gl 44 [.agg [lociV xs, copsV cs]] fun r => r = vB ((chk xs cs).2.2 == 0) := by
  refine fnW_sound (par_ok gl) Tryd.func44 ?_
  conv => whnf
  refine byC (c17 gl xs cs hN) op17 ?_
  -- R:
  conv => whnf

theorem op44 : Opens PR 44 := ⟨_, Tryd.func44, rfl, rfl⟩

def saysB (v : Int) (a b : Bool) : Bool := v == 0 || (v == 1 && a) || (v == 2 && b)

theorem c48 (gl : Gl) (v : Int) (a b : Bool) : PCalls PR gl 48 [vI v, vB a, vB b] fun r => r = vB (saysB v a b) := by
  refine fnW_sound (par_ok gl) Tryd.func48 ?_
  conv => whnf
  refine bcase_iff.2 ⟨fun g1_2 => ?_, fun g1_2 => ?_⟩
  · skip
    -- R:T
    conv => whnf
    unfold saysB
    simp_all
  · skip
    conv => whnf
    refine bcase_iff.2 ⟨fun g1_5 => ?_, fun g1_5 => ?_⟩
    · skip
      conv => whnf
      refine bcase_iff.2 ⟨fun g1_9 => ?_, fun g1_9 => ?_⟩
      · skip
        -- R:FTT
        conv => whnf
        unfold saysB
        simp_all
      · skip
        conv => whnf
        refine bcase_iff.2 ⟨fun g1_12 => ?_, fun g1_12 => ?_⟩
        · skip
          -- R:FTFT
          conv => whnf
          unfold saysB
          simp_all
        · skip
          -- R:FTFF
          conv => whnf
          unfold saysB
          simp_all
    · skip
      conv => whnf
      refine bcase_iff.2 ⟨fun g1_12 => ?_, fun g1_12 => ?_⟩
      · skip
        -- R:FFT
        conv => whnf
        unfold saysB
        simp_all
      · skip
        -- R:FFF
        conv => whnf
        unfold saysB
        simp_all

theorem op48 : Opens PR 48 := ⟨_, Tryd.func48, rfl, rfl⟩

theorem c105 (gl : Gl) (l : List Int) (hl : l.length ≤ 9223372036854775807) (hb : ∀ v ∈ l, 0 ≤ v ∧ v ≤ 255) (n : Nat) : PCalls PR gl 105 [.sl (S := S) U.u8 l none, vI n] fun r => r = vI (if l.length = 0 then 0 else l.getD (n % l.length) 0) := by
  refine fnW_sound (par_ok gl) Tryd.func105 ?_
  conv => whnf
  refine bcase_iff.2 ⟨fun h1 => ?_, fun h1 => ?_⟩
  · skip
    have h0 : l.length = 0 := by have := beq_iff_eq.1 h1; omega
    -- R:T
    conv => whnf
    rw [if_pos h0]
  · skip
    have h0 : l.length ≠ 0 := by have := beq_eq_false_iff_ne.1 h1; omega
    have hm : ((n : Int).tmod l.length) = ((n % l.length : Nat) : Int) := by rw [Int.tmod_eq_emod_of_nonneg (by omega)]; omega
    have hlt : n % l.length < l.length := Nat.mod_lt _ (by omega)
    have hv := hb _ (List.getElem_mem hlt)
    conv => whnf
    refine ⟨by omega, ?_⟩
    conv => whnf
    refine ⟨_, getI_at hm hlt, ?_⟩
    -- R:F
    conv => whnf
    rw [if_neg h0, getD_e hlt, wrap_int (by omega) (by omega)]

theorem op105 : Opens PR 105 := ⟨_, Tryd.func105, rfl, rfl⟩

theorem c49 (gl : Gl) (n lo hi : Int) : PCalls PR gl 49 [vI n, .agg [vI lo, vI hi]] fun r => r = vB (inB n lo hi) := by
  refine fnW_sound (par_ok gl) Tryd.func49 ?_
  conv => whnf
  refine byC (c106 gl _ _ _) op106 ?_
  -- R:
  conv => whnf

theorem op49 : Opens PR 49 := ⟨_, Tryd.func49, rfl, rfl⟩

theorem c47 (gl : Gl) (xs : List Int) (hx : xs.length ≤ 9223372036854775807) (n : Int) : PCalls PR gl 47 [vL xs, vI n] fun r => r = vI (plc xs n : Nat) := by
  refine fnW_sound (par_ok gl) Tryd.func47 ?_
  conv => whnf
  refine ⟨⟨35, [], []⟩, ?_⟩
  refine LoopW_ind _ (fun i : Nat => (({ tmps := [vL xs, vI n, .undef, .undef, .undef, vI i, .undef, .undef, .undef, .undef, .undef, .undef, .undef, .undef, .undef, .undef, .undef, .undef, .undef, .undef, .undef], seg := [], up := [] } : St S))) (fun i : Nat => (i ≤ xs.length ∧ n ∉ xs.take i)) (fun i : Nat => (xs.length - i)) () ?_ 0 ⟨Nat.zero_le _, by simp⟩
  intro i hinv Z1 hZ1
  obtain ⟨hi, hn⟩ := hinv
  conv => whnf
  refine bcase_iff.2 ⟨fun g2_4 => ?_, fun g2_4 => ?_⟩
  · skip
    have hlt : i < xs.length := by have := of_decide_eq_true g2_4; omega
    have hw : IntKind.i64.wrap ((i : Int) + 1) = ((i + 1 : Nat) : Int) := wrap_nat (by omega)
    conv => whnf
    refine ⟨_, getI_nat hlt, ?_⟩
    conv => whnf
    refine bcase_iff.2 ⟨fun h2 => ?_, fun h2 => ?_⟩
    · skip
      have h2 : xs[i] ≠ n := by have h2 : (xs[i] != n) = true := h2; simpa using h2
      -- Z2:TT
      conv => whnf
      refine ⟨⟨35, [], []⟩, ?_⟩
      conv => whnf
      rw [hw]
      exact hZ1 (i + 1) ⟨hlt, nmem_succ hlt hn h2⟩ (by omega)
    · skip
      have h2 : xs[i] = n := by have h2 : (xs[i] != n) = false := h2; simpa using h2
      -- R:TF
      conv => whnf
      rw [plc_at hlt hn h2]
  · skip
    have hge : i = xs.length := by have := of_decide_eq_false g2_4; omega
    -- R:F
    conv => whnf
    rw [plc_none (by rw [hge, List.take_length] at hn; exact hn), hge]

theorem op47 : Opens PR 47 := ⟨_, Tryd.func47, rfl, rfl⟩

/-- The numbers below another one whose bits are set, or not set. -/
def someP (bits : Int) (set : Nat) (i : Nat) : Bool := decide (bits.toNat / 2 ^ i % 2 = set)
/-- Ascending indices of so many. -/
def ascB (m : Int) (l : List Int) (i : Nat) : Bool := (List.range i).all fun j => !(decide (l.getD j 0 < 0) || decide (l.getD j 0 ≥ m) || (decide (j > 0) && decide (l.getD j 0 ≤ l.getD (j - 1) 0)))
end Go.Ab.StF

namespace Go.Ab.StF
open Go Go.Ab Go.Proofs
set_option maxHeartbeats 1000000
set_option maxRecDepth 100000

theorem idx_of {p : Int} (hp : 0 ≤ p ∧ p ≤ 255) {n : Nat} (hn : 1 ≤ n) : ∃ a : Nat, (IntKind.i64.wrap p).tmod (n : Int) = a ∧ a < n := by
  obtain ⟨q, rfl⟩ : ∃ q : Nat, p = q := ⟨p.toNat, by omega⟩
  refine ⟨q % n, ?_, Nat.mod_lt _ (by omega)⟩
  rw [wrap_int (n := (q : Int)) (by omega) (by omega), Int.tmod_eq_emod_of_nonneg (by omega)]; omega

section
variable {xs : List (ByteArray × Int)} {cs : List (ByteArray × List Int)} {A B : Int} {a b : Nat}
theorem bfV (hc : (chk xs cs).2.2 = 0) (ha : agrL xs cs ≠ []) (eA : A = a) (eB : B = b) (h : a < xs.length) (h' : b < xs.length) (hne : a ≠ b) : intV (befR xs cs A B) = .tup [vI (befS xs cs a b).1, vI 0] := by
  rw [eA, eB, bef_eq, ← bef_e hc ha h h' hne]
theorem erV (hc : (chk xs cs).2.2 = 0) (ha : agrL xs cs ≠ []) (eA : A = a) (eB : B = b) (h : a < cs.length) (h' : b < cs.length) : intV (earR xs cs A B) = .tup [vI (earS xs cs a b).1, vI 0] := by
  rw [eA, eB, ear_eq, ← ear_e hc ha h h']
theorem afV (hc : (chk xs cs).2.2 = 0) (ha : agrL xs cs ≠ []) (eA : A = a) (h : a < cs.length) : spanV (aftR xs cs A) = .tup [.agg [vI (aftS xs cs a).1.1, vI (aftS xs cs a).1.2], vI 0] := by
  rw [eA, aft_eq, ← (aft_fact hc ha h).1]
theorem rdVv (hc : (chk xs cs).2.2 = 0) (ha : agrL xs cs ≠ []) (eA : A = a) (h : a < xs.length) : intV (readR xs cs A) = .tup [vI (readS xs cs a).1, vI 0] := by
  rw [eA, read_eq, read_ok hc ha h]
theorem firstVy (hc : (chk xs cs).2.2 = 0) (ha : agrL xs cs ≠ []) : fstV (firstR xs cs) = .tup [.agg [vL ((agrL xs cs).headD ([], [])).1, vL ((agrL xs cs).headD ([], [])).2], vI ((agrL xs cs).length : Int), vI 0] := by
  rw [first_eq, first_ok hc ha]
theorem join {T G : Prop} (main : T → G) (tail : T) : G := main tail
theorem not_chk {c : Int} (h : (!(c == 0)) = true) : c ≠ 0 := by simpa using h
theorem is_chk {c : Int} (h : (!(c == 0)) = false) : c = 0 := by simpa using h
theorem ne_of {x y : Int} {a b : Nat} (eA : x = a) (eB : y = b) (h : (x != y) = true) : a ≠ b := fun e => by rw [eA, eB, e] at h; simp at h
end

end Go.Ab.StF
