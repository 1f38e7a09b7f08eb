/-
  THE STATE FAMILY, PART NJ: lists compared.
-/
import Derived.Test.YtmhbchljhnfahaaDoorRefA
import Derived.Test.YtmhbchljhnfahaaDoorPlainB
namespace Go.Ab.StF
open Go Go.Ab Go.Proofs
set_option maxHeartbeats 1000000
set_option maxRecDepth 100000

theorem c58 (gl : Gl) (a b : List Int) (ha : a.length ≤ 9223372036854775807) (_hb : b.length ≤ 9223372036854775807) : PCalls PR gl 58 [vL a, vL b] fun r => r = vB (befL a b) := by
  refine fnW_sound (par_ok gl) Tryd.func58 ?_
  conv => whnf
  refine ⟨⟨35, [], []⟩, ?_⟩
  refine LoopW_ind _ (fun i : Nat => (({ tmps := [vL a, vL b, .undef, .undef, .undef, vI i, .undef, .undef, .undef, .undef, .undef, .undef, .undef, .undef, .undef, .undef, .undef, .undef, .undef, .undef, .undef, .undef, .undef, .undef, .undef, .undef, .undef, .undef, .undef, .undef, .undef, .undef, .undef, .undef, .undef, .undef, .undef, .undef, .undef, .undef, .undef], seg := [], up := [] } : St S))) (fun i : Nat => (i ≤ a.length ∧ i ≤ b.length ∧ befL (a.drop i) (b.drop i) = befL a b)) (fun i : Nat => (a.length - i)) () ?_ 0 ⟨Nat.zero_le _, Nat.zero_le _, rfl⟩
  intro i hinv Z1 hZ1
  obtain ⟨hi, hib, hj⟩ := hinv
  conv => whnf
  refine bcase_iff.2 ⟨fun g2_4 => ?_, fun g2_4 => ?_⟩
  · skip
    have hlt : i < a.length := by have := of_decide_eq_true g2_4; omega
    have hw : IntKind.i64.wrap ((i : Int) + 1) = ((i + 1 : Nat) : Int) := wrap_nat (by omega)
    conv => whnf
    refine bcase_iff.2 ⟨fun h2 => ?_, fun h2 => ?_⟩
    · skip
      have hlb : i < b.length := by have := of_decide_eq_true h2; omega
      rw [List.drop_eq_getElem_cons hlt, List.drop_eq_getElem_cons hlb, befL] at hj
      conv => whnf
      refine ⟨[0, 1, 2, 3, 4, 5, 6, 7, 8], [], [], [], ⟨2199023255551, [], []⟩, by decide +kernel, ?_⟩
      conv => whnf
      refine ⟨_, getI_nat hlt, ?_⟩
      conv => whnf
      refine ⟨_, getI_nat hlb, ?_⟩
      conv => whnf
      refine bcase_iff.2 ⟨fun h4 => ?_, fun h4 => ?_⟩
      · skip
        have h4 : a[i] ≠ b[i] := by have h4 : (a[i] != b[i]) = true := h4; simpa using h4
        rw [if_neg h4] at hj
        conv => whnf
        refine ⟨[0, 1, 2, 3, 4, 5, 6, 7, 8, 9], [], [], [], ⟨2199023255551, [], []⟩, by decide +kernel, ?_⟩
        conv => whnf
        refine ⟨_, getI_nat hlt, ?_⟩
        conv => whnf
        refine ⟨_, getI_nat hlb, ?_⟩
        -- R:TTT
        conv => whnf
        rw [hj]
      · skip
        have h4 : a[i] = b[i] := by have h4 : (a[i] != b[i]) = false := h4; simpa using h4
        rw [if_pos h4] at hj
        -- Z2:TTF
        conv => whnf
        refine ⟨⟨35, [], []⟩, ?_⟩
        conv => whnf
        rw [hw]
        exact hZ1 (i + 1) ⟨hlt, hlb, hj⟩ (by omega)
    · skip
      have hgb : i = b.length := by have := of_decide_eq_false h2; omega
      -- R:TF
      conv => whnf
      rw [List.drop_eq_getElem_cons hlt, List.drop_eq_nil_of_le (show b.length ≤ i by omega), befL] at hj
      rw [← hj, decide_eq_false (by omega)]
  · skip
    have hge : i = a.length := by have := of_decide_eq_false g2_4; omega
    -- R:F
    conv => whnf
    rw [List.drop_eq_nil_of_le (show a.length ≤ i by omega)] at hj
    by_cases hlb : i < b.length
    · rw [List.drop_eq_getElem_cons hlb, befL] at hj
      rw [← hj, decide_eq_true (by omega)]
    · rw [List.drop_eq_nil_of_le (show b.length ≤ i by omega), befL] at hj
      rw [← hj, decide_eq_false (by omega)]

theorem op58 : Opens PR 58 := ⟨_, Tryd.func58, rfl, rfl⟩

end Go.Ab.StF
