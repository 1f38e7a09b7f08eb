/-
  THE STATE FAMILY, PART OA: small functions of the outright laws.
  THE STATE FAMILY, PART OH: what is asked of a valid forme, as calls give it.
-/
import Derived.Test.YtmhbchljhnfahaaDoorPlainC
import Derived.Test.YtmhbchljhnfahaaDoorRefB
import Derived.Test.YtmhbchljhnfahaaDoorStateW
import Derived.Test.YtmhbchljhnfahaaDoorRefL
namespace Go.Ab.StF
open Go Go.Ab Go.Proofs
set_option maxHeartbeats 1000000
set_option maxRecDepth 100000

theorem getI_at {α : Type} {l : List α} {m : Int} {k : Nat} (e : m = (k : Int)) (h : k < l.length) : getI l m = some l[k] := by rw [e]; exact getI_nat h

theorem c44 (gl : Gl) (xs : List (ByteArray × Int)) (cs : List (ByteArray × List Int)) (hN : LensN xs cs) : PCalls PR gl 44 [.agg [lociV xs, copsV cs]] fun r => r = vB ((chk xs cs).2.2 == 0) := by
  refine fnW_sound (par_ok gl) Tryd.func44 ?_
  conv => whnf
  refine byC (c17 gl xs cs hN) op17 ?_
  -- R:
  conv => whnf

theorem op44 : Opens PR 44 := ⟨_, Tryd.func44, rfl, rfl⟩

def saysB (v : Int) (a b : Bool) : Bool := v == 0 || (v == 1 && a) || (v == 2 && b)

/-- The numbers below another one whose bits are set, or not set. -/
def someP (bits : Int) (set : Nat) (i : Nat) : Bool := decide (bits.toNat / 2 ^ i % 2 = set)
theorem someP_val {bits : Int} (hb : 0 ≤ bits ∧ bits ≤ 255) {i : Nat} (hi : i ≤ 60) : (shrI .i64 (IntKind.i64.wrap bits) (i : Int)).tmod 2 = ((bits.toNat / 2 ^ i % 2 : Nat) : Int) := by
  obtain ⟨b, rfl⟩ : ∃ b : Nat, bits = b := ⟨bits.toNat, by omega⟩
  rw [wrap_int (n := (b : Int)) (by omega) (by omega)]
  unfold shrI
  rw [show min ((i : Int).toNat) (IntKind.i64.bits) = i by show min _ 64 = i; omega, Int.fdiv_eq_ediv_of_nonneg _ (Int.le_of_lt (Int.pow_pos (by decide))), show ((b : Int)).toNat = b from Int.toNat_natCast b]
  have : (b : Int) / 2 ^ i = ((b / 2 ^ i : Nat) : Int) := by rw [Int.natCast_ediv, Int.natCast_pow]; rfl
  rw [this]
  generalize b / 2 ^ i = q
  rw [Int.tmod_eq_emod_of_nonneg (by omega)]
  omega
theorem someP_T {bits : Int} (hb : 0 ≤ bits ∧ bits ≤ 255) {i s : Nat} (hi : i ≤ 60) (h : ((shrI .i64 (IntKind.i64.wrap bits) (i : Int)).tmod 2 == (s : Int)) = true) : someP bits s i = true := by
  rw [someP_val hb hi] at h
  have := beq_iff_eq.1 h
  exact decide_eq_true (by omega)
theorem someP_F {bits : Int} (hb : 0 ≤ bits ∧ bits ≤ 255) {i s : Nat} (hi : i ≤ 60) (h : ((shrI .i64 (IntKind.i64.wrap bits) (i : Int)).tmod 2 == (s : Int)) = false) : someP bits s i = false := by
  rw [someP_val hb hi] at h
  have := beq_eq_false_iff_ne.1 h
  exact decide_eq_false (by omega)

theorem c55 (gl : Gl) (bits : Int) (hb : 0 ≤ bits ∧ bits ≤ 255) (n s : Nat) (hn : n ≤ 60) : PCalls PR gl 55 [.int .u8 bits, vI n, vI s] fun r => r = vL (natsV ((List.range n).filter (someP bits s))) := by
  refine fnW_sound (par_ok gl) Tryd.func55 ?_
  conv => whnf
  refine ⟨⟨391, [6], [6, 7]⟩, ?_⟩
  refine LoopW_ind _ (fun i : Nat => (({ tmps := [.int .u8 bits, vI n, vI s, .undef, .undef, .undef, .undef, .sl (S := S) U.int (natsV ((List.range i).filter (someP bits s))) (some 7), vI i, .undef, .undef, .undef, .undef, .undef, .undef, .undef, .undef, .undef, .undef, .undef, .undef, .undef, .undef, .undef, .undef, .undef], seg := [(7, .row U.int false)], up := [] } : St S))) (fun i : Nat => (i ≤ n)) (fun i : Nat => (n - i)) () ?_ 0 (Nat.zero_le _)
  intro i hi Z1 hZ1
  conv => whnf
  refine bcase_iff.2 ⟨fun h3 => ?_, fun h3 => ?_⟩
  · skip
    have hlt : i < n := by have := of_decide_eq_true h3; omega
    have hw : IntKind.i64.wrap ((i : Int) + 1) = ((i + 1 : Nat) : Int) := wrap_nat (by omega)
    conv => whnf
    refine ⟨by omega, ?_⟩
    conv => whnf
    refine ⟨by omega, ?_⟩
    conv => whnf
    refine bcase_iff.2 ⟨fun h5 => ?_, fun h5 => ?_⟩
    · skip
      have hp : someP bits s i = true := someP_T hb (by omega) h5
      conv => whnf
      refine ⟨_, rfl, ?_⟩
      conv => whnf
      refine ⟨lim (by have := nf_len (someP bits s) i; show (natsV _).length + 1 ≤ _; omega), ?_⟩
      -- Z3:TT
      conv => whnf
      refine ⟨⟨391, [23, 24], []⟩, ?_⟩
      conv => whnf
      rw [hw, ← nf_T hp]
      exact hZ1 (i + 1) hlt (by omega)
    · skip
      have hp : someP bits s i = false := someP_F hb (by omega) h5
      -- Z3:TF
      conv => whnf
      refine ⟨⟨391, [23, 24], []⟩, ?_⟩
      conv => whnf
      rw [hw, ← nf_F hp]
      exact hZ1 (i + 1) hlt (by omega)
  · skip
    have hge : i = n := by have := of_decide_eq_false h3; omega
    -- R:F
    conv => whnf
    rw [hge]

theorem op55 : Opens PR 55 := ⟨_, Tryd.func55, rfl, rfl⟩

/-- Ascending indices of so many. -/
def ascB (m : Int) (l : List Int) (i : Nat) : Bool := (List.range i).all fun j => !(decide (l.getD j 0 < 0) || decide (l.getD j 0 ≥ m) || (decide (j > 0) && decide (l.getD j 0 ≤ l.getD (j - 1) 0)))
theorem ascB_succ (m : Int) (l : List Int) (i : Nat) : ascB m l (i + 1) = (ascB m l i && !(decide (l.getD i 0 < 0) || decide (l.getD i 0 ≥ m) || (decide (i > 0) && decide (l.getD i 0 ≤ l.getD (i - 1) 0)))) := by
  unfold ascB; rw [List.range_succ, List.all_append]; simp
theorem ascB_asc {c : Nat} {l : List Nat} (h : Asc 0 c l) : ascB c (natsV l) (natsV l).length = true := by
  unfold ascB
  rw [List.all_eq_true]
  intro j hj
  have hj : j < l.length := by have := List.mem_range.1 hj; simpa [natsV] using this
  have hg : ∀ k, k < l.length → (natsV l).getD k 0 = ((l.getD k 0 : Nat) : Int) := fun k hk => by
    rw [getD_e (by simpa [natsV] using hk), getD_e hk]; simp [natsV]
  rw [hg j hj, hg (j - 1) (by omega)]
  have h1 := (h.2 _ (List.getElem_mem hj)).2
  rw [getD_e hj, getD_e (show j - 1 < l.length by omega)]
  have h2 : 0 < j → l[j - 1] < l[j] := fun h0 => List.pairwise_iff_getElem.1 h.1 _ _ _ _ (by omega)
  simp
  omega

theorem c56 (gl : Gl) (l : List Int) (hl : l.length ≤ 9223372036854775807) (m : Int) : PCalls PR gl 56 [vL l, vI m] fun r => r = vB (ascB m l l.length) := by
  refine fnW_sound (par_ok gl) Tryd.func56 ?_
  conv => whnf
  refine ⟨⟨35, [], []⟩, ?_⟩
  refine LoopW_ind _ (fun i : Nat => (({ tmps := [vL l, vI m, .undef, .undef, .undef, vI i, .undef, .undef, .undef, .undef, .undef, .undef, .undef, .undef, .undef, .undef, .undef, .undef, .undef, .undef, .undef, .undef, .undef, .undef, .undef, .undef, .undef, .undef, .undef, .undef, .undef, .undef, .undef, .undef, .undef, .undef, .undef, .undef, .undef, .undef, .undef], seg := [], up := [] } : St S))) (fun i : Nat => (i ≤ l.length ∧ ascB m l i = true)) (fun i : Nat => (l.length - i)) () ?_ 0 ⟨Nat.zero_le _, rfl⟩
  intro i hinv Z1 hZ1
  obtain ⟨hi, ha⟩ := hinv
  conv => whnf
  refine bcase_iff.2 ⟨fun h2 => ?_, fun h2 => ?_⟩
  · skip
    have hlt : i < l.length := by have := of_decide_eq_true h2; omega
    have hw : IntKind.i64.wrap ((i : Int) + 1) = ((i + 1 : Nat) : Int) := wrap_nat (by omega)
    have hw1 : 0 < i → IntKind.i64.wrap ((i : Int) - 1) = ((i - 1 : Nat) : Int) := fun h => by rw [wrap_int (by omega) (by omega)]; omega
    have hs := ascB_succ m l i
    rw [ha, Bool.true_and, getD_e hlt] at hs
    have hno : ascB m l (i + 1) = false → ascB m l l.length = false := fun h => by
      rw [Bool.eq_false_iff] at h ⊢
      intro hh
      apply h
      unfold ascB at hh ⊢
      rw [List.all_eq_true] at hh ⊢
      exact fun j hj => hh j (List.mem_range.2 (by have := List.mem_range.1 hj; omega))
    conv => whnf
    refine ⟨[0, 1, 2, 3, 4, 5, 6, 7, 8, 9, 10, 11, 12, 13, 14, 15, 16, 17, 18, 19, 20, 21, 22, 23, 24, 25, 26, 27, 28], [], [], [], ⟨2199023255551, [], []⟩, by decide +kernel, ?_⟩
    conv => whnf
    refine ⟨_, getI_nat hlt, ?_⟩
    conv => whnf
    refine bcase_iff.2 ⟨fun g4_5 => ?_, fun g4_5 => ?_⟩
    · skip
      -- R:TT
      conv => whnf
      rw [hno (by rw [hs]; simp_all)]
    · skip
      conv => whnf
      refine ⟨_, getI_nat hlt, ?_⟩
      conv => whnf
      refine bcase_iff.2 ⟨fun g4_13 => ?_, fun g4_13 => ?_⟩
      · skip
        -- R:TFT
        conv => whnf
        rw [hno (by rw [hs]; simp_all)]
      · skip
        conv => whnf
        refine bcase_iff.2 ⟨fun g4_16 => ?_, fun g4_16 => ?_⟩
        · skip
          conv => whnf
          refine ⟨_, getI_nat hlt, ?_⟩
          conv => whnf
          have hi0 : 0 < i := by have := of_decide_eq_true g4_16; omega
          rw [getD_e (show i - 1 < l.length by omega)] at hs
          have hd0 : decide (i > 0) = true := decide_eq_true hi0
          conv => whnf
          refine ⟨_, getI_at (hw1 hi0) (show i - 1 < l.length by omega), ?_⟩
          conv => whnf
          refine bcase_iff.2 ⟨fun h4 => ?_, fun h4 => ?_⟩
          · skip
            -- R:TFFTT
            conv => whnf
            rw [hno (by rw [hs]; simp_all)]
          · skip
            -- Z2:TFFTF
            conv => whnf
            refine ⟨⟨35, [], []⟩, ?_⟩
            conv => whnf
            rw [hw]
            exact hZ1 (i + 1) ⟨hlt, by rw [hs]; simp_all⟩ (by omega)
        · skip
          -- Z2:TFFF
          conv => whnf
          refine ⟨⟨35, [], []⟩, ?_⟩
          conv => whnf
          rw [hw]
          exact hZ1 (i + 1) ⟨hlt, by rw [hs]; simp_all⟩ (by omega)
  · skip
    have hge : i = l.length := by have := of_decide_eq_false h2; omega
    -- R:F
    conv => whnf
    rw [← hge, ha]

theorem op56 : Opens PR 56 := ⟨_, Tryd.func56, rfl, rfl⟩

end Go.Ab.StF

namespace Go.Ab.StF
open Go Go.Ab Go.Proofs
set_option maxHeartbeats 1000000
set_option maxRecDepth 100000

theorem idx_of {p : Int} (hp : 0 ≤ p ∧ p ≤ 255) {n : Nat} (hn : 1 ≤ n) : ∃ a : Nat, (IntKind.i64.wrap p).tmod (n : Int) = a ∧ a < n := by
  obtain ⟨q, rfl⟩ : ∃ q : Nat, p = q := ⟨p.toNat, by omega⟩
  refine ⟨q % n, ?_, Nat.mod_lt _ (by omega)⟩
  rw [wrap_int (n := (q : Int)) (by omega) (by omega), Int.tmod_eq_emod_of_nonneg (by omega)]; omega

section
variable {xs : List (ByteArray × Int)} {cs : List (ByteArray × List Int)} {A B : Int} {a b : Nat}
theorem firstVy (hc : (chk xs cs).2.2 = 0) (ha : agrL xs cs ≠ []) : fstV (firstR xs cs) = .tup [.agg [vL ((agrL xs cs).headD ([], [])).1, vL ((agrL xs cs).headD ([], [])).2], vI ((agrL xs cs).length : Int), vI 0] := by
  rw [first_eq, first_ok hc ha]
theorem join {T G : Prop} (main : T → G) (tail : T) : G := main tail
theorem not_chk {c : Int} (h : (!(c == 0)) = true) : c ≠ 0 := by simpa using h
theorem is_chk {c : Int} (h : (!(c == 0)) = false) : c = 0 := by simpa using h
end

end Go.Ab.StF
