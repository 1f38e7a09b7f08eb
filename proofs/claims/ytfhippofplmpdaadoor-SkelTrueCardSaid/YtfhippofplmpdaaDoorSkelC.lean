/-
  THE SKELETON FAMILY, PART WA: Check.
  THE SKELETON FAMILY, PART WB: a job is looked at.
  THE SKELETON FAMILY, PART WC: a job is looked at, whole.
  THE SKELETON FAMILY, PART WD: groups, clashes, days on which types crack: of the program.
  THE SKELETON FAMILY, PART WE: Crack, askings that fail, Clone: of the program.
-/
import Derived.Test.YtfhippofplmpdaaDoorSkelB
namespace Go.Ab.SkF
open Go Go.Ab Go.Ab.Pln Go.Proofs
set_option maxHeartbeats 1000000
set_option maxRecDepth 100000

abbrev fmC (f : Fm) : List (AV S) := [.str f.1, vI f.2.1, vI f.2.2.1, vI f.2.2.2]
abbrev sgC (s : Sg) : List (AV S) := [vI s.1, vI s.2.1, vI s.2.2]
abbrev fmV (f : Fm) : AV S := .agg (fmC f)
abbrev sgV (s : Sg) : AV S := .agg (sgC s)
theorem idx_step {α : Type} {p : α → Bool} {xs : List α} {i : Nat} (h : i < xs.length) : idx p (xs.drop i) i = if p xs[i] then (i : Int) else idx p (xs.drop (i + 1)) (i + 1) := by
  rw [List.drop_eq_getElem_cons h, idx]
theorem idx_end {α : Type} {p : α → Bool} {xs : List α} {i : Nat} (h : i = xs.length) : idx p (xs.drop i) i = -1 := by
  rw [List.drop_eq_nil_of_le (by omega), idx]
theorem strEq_comm (a b : ByteArray) : strEq a b = strEq b a := by
  unfold strEq; rw [Bool.eq_iff_iff, beq_iff_eq, beq_iff_eq]; exact eq_comm
theorem any_comm {xs : List ByteArray} {w : ByteArray} : (xs.any fun x => strEq w x) = xs.any fun x => strEq x w := by
  congr 1; funext x; exact strEq_comm _ _

theorem c102 (gl : Gl) (xs : List ByteArray) (hx : xs.length ≤ 9223372036854775807) (v : ByteArray) : PCalls PR gl 102 [strsV xs, .str v] fun r => r = vI (idx (fun x => strEq v x) xs 0) := by
  refine fnW_sound (par_ok gl) Tryd.func102 ?_
  conv => whnf
  refine ⟨⟨387, [], []⟩, ?_⟩
  refine LoopW_ind _ (fun i : Nat => (({ tmps := [strsV xs, .str v, .undef, .undef, .undef, .undef, .undef, vI xs.length, vI i, .undef, .undef, .undef, .undef, .undef, .undef, .undef, .undef, .undef, .undef], seg := [], up := [] } : St S))) (fun i : Nat => (i ≤ xs.length ∧ idx (fun x => strEq v x) (xs.drop i) i = idx (fun x => strEq v x) xs 0)) (fun i : Nat => (xs.length - i)) () ?_ 0 ⟨Nat.zero_le _, rfl⟩
  intro i hinv Z1 hZ1
  obtain ⟨hi, hd⟩ := hinv
  conv => whnf
  refine bcase_iff.2 ⟨fun h2 => ?_, fun h2 => ?_⟩
  · skip
    have hlt : i < xs.length := by have := of_decide_eq_true h2; omega
    have hw : IntKind.i64.wrap ((i : Int) + 1) = ((i + 1 : Nat) : Int) := wrap_nat (by omega)
    conv => whnf
    refine ⟨_, getI_nat hlt, ?_⟩
    conv => whnf
    refine bcase_iff.2 ⟨fun h4 => ?_, fun h4 => ?_⟩
    · skip
      have h4 : strEq v xs[i] = true := h4
      rw [idx_step hlt, if_pos h4] at hd
      -- R:TT
      conv => whnf
      rw [← hd]
    · skip
      have h4 : strEq v xs[i] = false := h4
      rw [idx_step hlt, h4, if_neg (by simp)] at hd
      -- Z2:TF
      conv => whnf
      refine ⟨⟨387, [], []⟩, ?_⟩
      conv => whnf
      rw [hw]
      exact hZ1 (i + 1) ⟨hlt, hd⟩ (by omega)
  · skip
    have hge : i = xs.length := by have := of_decide_eq_false h2; omega
    -- R:F
    conv => whnf
    rw [idx_end hge] at hd
    rw [← hd]

theorem op102 : Opens PR 102 := ⟨_, Tryd.func102, rfl, rfl⟩

theorem c59 (gl : Gl) (xs : List ByteArray) (hx : xs.length ≤ 9223372036854775807) (v : ByteArray) : PCalls PR gl 59 [strsV xs, .str v] fun r => r = vB (xs.any fun x => strEq x v) := by
  refine fnW_sound (par_ok gl) Tryd.func59 ?_
  conv => whnf
  refine byC (c102 gl xs hx v) op102 ?_
  -- R:
  conv => whnf
  show vB (decide (idx _ xs 0 ≥ 0)) = _
  rw [idx_any, any_comm]

theorem op59 : Opens PR 59 := ⟨_, Tryd.func59, rfl, rfl⟩

theorem c64 (gl : Gl) (p q : Fm) : PCalls PR gl 64 [.agg [.str p.1, vI p.2.1, vI p.2.2.1, vI p.2.2.2], .ref (fmC q)] fun r => r = vB (strEq p.1 q.1) := by
  refine fnW_sound (par_ok gl) Tryd.func64 ?_
  -- R:
  conv => whnf

theorem op64 : Opens PR 64 := ⟨_, Tryd.func64, rfl, rfl⟩

theorem c105 (gl : Gl) (xs : List Fm) (hx : xs.length ≤ 9223372036854775807) (q : Fm) : PCalls PR gl 105 [fmsV xs, .clo (.func 64) [] [.ref (fmC q)]] fun r => r = vI (idx (fun p : Fm => strEq p.1 q.1) xs 0) := by
  refine fnW_sound (par_ok gl) Tryd.func105 ?_
  conv => whnf
  refine ⟨⟨387, [], []⟩, ?_⟩
  refine LoopW_ind _ (fun i : Nat => (({ tmps := [fmsV xs, .clo (.func 64) [] [.ref (fmC q)], .undef, .undef, .undef, .undef, .undef, vI xs.length, vI i, .undef, .undef, .undef, .undef, .undef, .undef, .undef, .undef, .undef, .undef], seg := [], up := [] } : St S))) (fun i : Nat => (i ≤ xs.length ∧ idx (fun p : Fm => strEq p.1 q.1) (xs.drop i) i = idx (fun p : Fm => strEq p.1 q.1) xs 0)) (fun i : Nat => (xs.length - i)) () ?_ 0 ⟨Nat.zero_le _, rfl⟩
  intro i hinv Z1 hZ1
  obtain ⟨hi, hd⟩ := hinv
  conv => whnf
  refine bcase_iff.2 ⟨fun h2 => ?_, fun h2 => ?_⟩
  · skip
    have hlt : i < xs.length := by have := of_decide_eq_true h2; omega
    have hw : IntKind.i64.wrap ((i : Int) + 1) = ((i + 1 : Nat) : Int) := wrap_nat (by omega)
    conv => whnf
    refine ⟨_, getI_nat hlt, ?_⟩
    conv => whnf
    refine byC (c64 gl xs[i] q) op64 ?_
    conv => whnf
    refine bcase_iff.2 ⟨fun h4 => ?_, fun h4 => ?_⟩
    · skip
      have h4 : strEq xs[i].1 q.1 = true := h4
      rw [idx_step hlt, if_pos h4] at hd
      -- R:TT
      conv => whnf
      rw [← hd]
    · skip
      have h4 : strEq xs[i].1 q.1 = false := h4
      rw [idx_step hlt, h4, if_neg (by simp)] at hd
      -- Z2:TF
      conv => whnf
      refine ⟨⟨387, [], []⟩, ?_⟩
      conv => whnf
      rw [hw]
      exact hZ1 (i + 1) ⟨hlt, hd⟩ (by omega)
  · skip
    have hge : i = xs.length := by have := of_decide_eq_false h2; omega
    -- R:F
    conv => whnf
    rw [idx_end hge] at hd
    rw [← hd]

theorem op105 : Opens PR 105 := ⟨_, Tryd.func105, rfl, rfl⟩

theorem c63 (gl : Gl) (xs : List Fm) (hx : xs.length ≤ 9223372036854775807) (q : Fm) : PCalls PR gl 63 [fmsV xs, .clo (.func 64) [] [.ref (fmC q)]] fun r => r = vB (xs.any (fun p : Fm => strEq p.1 q.1)) := by
  refine fnW_sound (par_ok gl) Tryd.func63 ?_
  conv => whnf
  refine byC (c105 gl xs hx q) op105 ?_
  -- R:
  conv => whnf
  show vB (decide (idx _ xs 0 ≥ 0)) = _
  rw [idx_any]

theorem op63 : Opens PR 63 := ⟨_, Tryd.func63, rfl, rfl⟩

theorem c57 (gl : Gl) (ts : List ByteArray) (fs : List Fm) (ss : List Sg) (i : Nat) (hi : i ≤ ts.length) (ht : ts.length ≤ 9223372036854775807) (s : ByteArray) : PCalls PR gl 57 [vI i, .str s, .ref (jobC ts fs ss)] fun r => r = vI (tyE (ts.take i) s) := by
  refine fnW_sound (par_ok gl) Tryd.func57 ?_
  conv => whnf
  refine byC (c58 gl _) op58 ?_
  conv => whnf
  refine bcase_iff.2 ⟨fun h1 => ?_, fun h1 => ?_⟩
  · skip
    have h1 : (!nameB s) = true := h1
    -- R:T
    conv => whnf
    unfold tyE
    rw [if_pos h1]
  · skip
    have h1 : (!nameB s) = false := h1
    conv => whnf
    refine ⟨Int.natCast_nonneg _, ?_⟩
    conv => whnf
    refine ⟨Nat.zero_le _, hi, ?_⟩
    conv => whnf
    refine byC (c59 gl (ts.take i) (by simp; omega) s) op59 ?_
    conv => whnf
    refine bcase_iff.2 ⟨fun h3 => ?_, fun h3 => ?_⟩
    · skip
      have h3 : ((ts.take i).any fun p => strEq p s) = true := h3
      -- R:FT
      conv => whnf
      unfold tyE
      rw [h1, if_neg (by simp), if_pos h3]
    · skip
      have h3 : ((ts.take i).any fun p => strEq p s) = false := h3
      -- R:FF
      conv => whnf
      unfold tyE
      rw [h1, if_neg (by simp), h3, if_neg (by simp)]

theorem op57 : Opens PR 57 := ⟨_, Tryd.func57, rfl, rfl⟩

theorem c56 (gl : Gl) (ts : List ByteArray) (fs : List Fm) (ss : List Sg) (ht : ts.length ≤ 9223372036854775807) : PCalls PR gl 56 [strsV ts, .clo (.func 57) [] [.ref (jobC ts fs ss)]] fun r => r = .tup [vI (firstR (tyF ts) ts.length).1, vI (firstR (tyF ts) ts.length).2] := by
  refine fnW_sound (par_ok gl) Tryd.func56 ?_
  conv => whnf
  refine ⟨⟨3586, [], []⟩, ?_⟩
  refine LoopW_ind _ (fun i : Nat => (({ tmps := [.undef, .clo (.func 57) [] [.ref (jobC ts fs ss)], .undef, .undef, .undef, .undef, .undef, .undef, .undef, strsV ts, vI ts.length, vI i, .undef, .undef, .undef, .undef, .undef, .undef, .undef, .undef, .undef, .undef, .undef, .undef, .undef], seg := [], up := [] } : St S))) (fun i : Nat => (i ≤ ts.length ∧ ∀ j, j < i → (tyF ts) j = 0)) (fun i : Nat => (ts.length - i)) () ?_ 0 ⟨Nat.zero_le _, fun j h => absurd h (Nat.not_lt_zero j)⟩
  intro i hinv Z1 hZ1
  obtain ⟨hi, hd⟩ := hinv
  conv => whnf
  refine bcase_iff.2 ⟨fun h2 => ?_, fun h2 => ?_⟩
  · skip
    have hlt : i < ts.length := by have := of_decide_eq_true h2; omega
    have hw : IntKind.i64.wrap ((i : Int) + 1) = ((i + 1 : Nat) : Int) := wrap_nat (by omega)
    conv => whnf
    refine ⟨_, getI_nat hlt, ?_⟩
    conv => whnf
    refine byC (to (c57 gl ts fs ss i hi (by omega) ts[i]) (show _ = vI ((tyF ts) i) by unfold tyF; rw [getD_at hlt])) op57 ?_
    conv => whnf
    refine bcase_iff.2 ⟨fun h5 => ?_, fun h5 => ?_⟩
    · skip
      have h5 : (tyF ts) i ≠ 0 := by have h5 : ((tyF ts) i != 0) = true := h5; simpa using h5
      -- R:TT
      conv => whnf
      rw [firstR_at hlt hd h5]
    · skip
      have h5 : (tyF ts) i = 0 := by have h5 : ((tyF ts) i != 0) = false := h5; simpa using h5
      -- Z2:TF
      conv => whnf
      refine ⟨⟨3586, [], []⟩, ?_⟩
      conv => whnf
      rw [hw]
      exact hZ1 (i + 1) ⟨hlt, up_succ hd h5⟩ (by omega)
  · skip
    have hge : i = ts.length := by have := of_decide_eq_false h2; omega
    -- R:F
    conv => whnf
    subst hge
    rw [firstR_no hd]

theorem op56 : Opens PR 56 := ⟨_, Tryd.func56, rfl, rfl⟩

theorem c62 (gl : Gl) (ts : List ByteArray) (fs : List Fm) (ss : List Sg) (i : Nat) (hi : i ≤ fs.length) (hf : fs.length ≤ 9223372036854775807) (f : Fm) : PCalls PR gl 62 [vI i, .agg [.str f.1, vI f.2.1, vI f.2.2.1, vI f.2.2.2], .ref (jobC ts fs ss)] fun r => r = vI (foE (fs.take i) f) := by
  refine fnW_sound (par_ok gl) Tryd.func62 ?_
  conv => whnf
  refine byC (c58 gl _) op58 ?_
  conv => whnf
  refine bcase_iff.2 ⟨fun h1 => ?_, fun h1 => ?_⟩
  · skip
    have h1 : (!nameB f.1) = true := h1
    -- R:T
    conv => whnf
    unfold foE
    rw [if_pos h1]
  · skip
    have h1 : (!nameB f.1) = false := h1
    conv => whnf
    refine ⟨Int.natCast_nonneg _, ?_⟩
    conv => whnf
    refine ⟨Nat.zero_le _, hi, ?_⟩
    conv => whnf
    refine byC (c63 gl (fs.take i) (by simp; omega) f) op63 ?_
    conv => whnf
    refine bcase_iff.2 ⟨fun h3 => ?_, fun h3 => ?_⟩
    · skip
      have h3 : ((fs.take i).any fun p => strEq p.1 f.1) = true := h3
      -- R:FT
      conv => whnf
      unfold foE
      rw [h1, if_neg (by simp), if_pos h3]
    · skip
      have h3 : ((fs.take i).any fun p => strEq p.1 f.1) = false := h3
      conv => whnf
      refine ⟨_, rfl, ?_⟩
      conv => whnf
      refine ⟨_, rfl, ?_⟩
      conv => whnf
      refine ⟨_, rfl, ?_⟩
      conv => whnf
      refine byC (c60 gl [f.2.1, f.2.2.1, f.2.2.2] (by simp) 0 60) op60 ?_
      conv => whnf
      refine bcase_iff.2 ⟨fun h5 => ?_, fun h5 => ?_⟩
      · skip
        have h5 : ([f.2.1, f.2.2.1, f.2.2.2].any (outB 0 60)) = true := h5
        -- R:FFT
        conv => whnf
        unfold foE
        rw [h1, if_neg (by simp), h3, if_neg (by simp), if_pos h5]
      · skip
        have h5 : ([f.2.1, f.2.2.1, f.2.2.2].any (outB 0 60)) = false := h5
        conv => whnf
        refine ⟨_, rfl, ?_⟩
        conv => whnf
        refine byC (c60 gl [f.2.2.1] (by simp) f.2.1 f.2.2.2) op60 ?_
        conv => whnf
        refine bcase_iff.2 ⟨fun h7 => ?_, fun h7 => ?_⟩
        · skip
          have h7 : ([f.2.2.1].any (outB f.2.1 f.2.2.2)) = true := h7
          -- R:FFFT
          conv => whnf
          unfold foE
          rw [h1, if_neg (by simp), h3, if_neg (by simp), h5, if_neg (by simp), if_pos h7]
        · skip
          have h7 : ([f.2.2.1].any (outB f.2.1 f.2.2.2)) = false := h7
          -- R:FFFF
          conv => whnf
          unfold foE
          rw [h1, if_neg (by simp), h3, if_neg (by simp), h5, if_neg (by simp), h7, if_neg (by simp)]

theorem op62 : Opens PR 62 := ⟨_, Tryd.func62, rfl, rfl⟩

theorem c61 (gl : Gl) (ts : List ByteArray) (fs : List Fm) (ss : List Sg) (hf : fs.length ≤ 9223372036854775807) : PCalls PR gl 61 [fmsV fs, .clo (.func 62) [] [.ref (jobC ts fs ss)]] fun r => r = .tup [vI (firstR (foF fs) fs.length).1, vI (firstR (foF fs) fs.length).2] := by
  refine fnW_sound (par_ok gl) Tryd.func61 ?_
  conv => whnf
  refine ⟨⟨3586, [], []⟩, ?_⟩
  refine LoopW_ind _ (fun i : Nat => (({ tmps := [.undef, .clo (.func 62) [] [.ref (jobC ts fs ss)], .undef, .undef, .undef, .undef, .undef, .undef, .undef, fmsV fs, vI fs.length, vI i, .undef, .undef, .undef, .undef, .undef, .undef, .undef, .undef, .undef, .undef, .undef, .undef, .undef], seg := [], up := [] } : St S))) (fun i : Nat => (i ≤ fs.length ∧ ∀ j, j < i → (foF fs) j = 0)) (fun i : Nat => (fs.length - i)) () ?_ 0 ⟨Nat.zero_le _, fun j h => absurd h (Nat.not_lt_zero j)⟩
  intro i hinv Z1 hZ1
  obtain ⟨hi, hd⟩ := hinv
  conv => whnf
  refine bcase_iff.2 ⟨fun h2 => ?_, fun h2 => ?_⟩
  · skip
    have hlt : i < fs.length := by have := of_decide_eq_true h2; omega
    have hw : IntKind.i64.wrap ((i : Int) + 1) = ((i + 1 : Nat) : Int) := wrap_nat (by omega)
    conv => whnf
    refine ⟨_, getI_nat hlt, ?_⟩
    conv => whnf
    refine byC (to (c62 gl ts fs ss i hi (by omega) fs[i]) (show _ = vI ((foF fs) i) by unfold foF; rw [getD_at hlt])) op62 ?_
    conv => whnf
    refine bcase_iff.2 ⟨fun h5 => ?_, fun h5 => ?_⟩
    · skip
      have h5 : (foF fs) i ≠ 0 := by have h5 : ((foF fs) i != 0) = true := h5; simpa using h5
      -- R:TT
      conv => whnf
      rw [firstR_at hlt hd h5]
    · skip
      have h5 : (foF fs) i = 0 := by have h5 : ((foF fs) i != 0) = false := h5; simpa using h5
      -- Z2:TF
      conv => whnf
      refine ⟨⟨3586, [7, 1007, 2007, 3007, 4007], []⟩, ?_⟩
      conv => whnf
      rw [hw]
      exact hZ1 (i + 1) ⟨hlt, up_succ hd h5⟩ (by omega)
  · skip
    have hge : i = fs.length := by have := of_decide_eq_false h2; omega
    -- R:F
    conv => whnf
    subst hge
    rw [firstR_no hd]

theorem op61 : Opens PR 61 := ⟨_, Tryd.func61, rfl, rfl⟩

theorem c66 (gl : Gl) (ts : List ByteArray) (fs : List Fm) (ss : List Sg) (i : Nat) (hi : i ≤ ss.length) (hl : ts.length ≤ 9223372036854775807 ∧ fs.length ≤ 9223372036854775807 ∧ ss.length ≤ 9223372036854775807) (s : Sg) : PCalls PR gl 66 [vI i, .agg [vI s.1, vI s.2.1, vI s.2.2], .ref (jobC ts fs ss)] fun r => r = vI (siE fs.length ts.length (ss.take i) s) := by
  obtain ⟨hl1, hl2, hl3⟩ := hl
  have hw1 : IntKind.i64.wrap ((fs.length : Int) - 1) = (fs.length : Int) - 1 := wrap_int (by omega) (by omega)
  have hw2 : IntKind.i64.wrap ((ts.length : Int) - 1) = (ts.length : Int) - 1 := wrap_int (by omega) (by omega)
  have htl : (ss.take i).length = i := by simp; omega
  refine fnW_sound (par_ok gl) Tryd.func66 ?_
  conv => whnf
  refine ⟨_, rfl, ?_⟩
  conv => whnf
  refine byC (c60 gl [s.1] (by simp) 0 _) op60 ?_
  conv => whnf
  refine bcase_iff.2 ⟨fun g1_8 => ?_, fun g1_8 => ?_⟩
  · skip
    have g1_8 : [s.1].any (outB 0 (IntKind.i64.wrap ((fs.length : Int) - 1))) = true := g1_8
    rw [hw1] at g1_8
    -- R:T
    conv => whnf
    unfold siE
    rw [g1_8, Bool.true_or, if_pos rfl]
  · skip
    have g1_8 : [s.1].any (outB 0 (IntKind.i64.wrap ((fs.length : Int) - 1))) = false := g1_8
    rw [hw1] at g1_8
    conv => whnf
    refine ⟨_, rfl, ?_⟩
    conv => whnf
    refine byC (c60 gl [s.2.1] (by simp) 0 _) op60 ?_
    conv => whnf
    refine bcase_iff.2 ⟨fun h1 => ?_, fun h1 => ?_⟩
    · skip
      have h1 : [s.2.1].any (outB 0 (IntKind.i64.wrap ((ts.length : Int) - 1))) = true := h1
      rw [hw2] at h1
      -- R:FT
      conv => whnf
      unfold siE
      rw [g1_8, h1, Bool.false_or, if_pos rfl]
    · skip
      have h1 : [s.2.1].any (outB 0 (IntKind.i64.wrap ((ts.length : Int) - 1))) = false := h1
      rw [hw2] at h1
      conv => whnf
      refine ⟨_, rfl, ?_⟩
      conv => whnf
      refine byC (c60 gl [s.2.2] (by simp) 0 2) op60 ?_
      conv => whnf
      refine bcase_iff.2 ⟨fun h3 => ?_, fun h3 => ?_⟩
      · skip
        have h3 : [s.2.2].any (outB 0 2) = true := h3
        -- R:FFT
        conv => whnf
        unfold siE
        rw [g1_8, h1, Bool.false_or, if_neg (by simp), if_pos h3]
      · skip
        have h3 : [s.2.2].any (outB 0 2) = false := h3
        conv => whnf
        refine ⟨Int.natCast_nonneg _, ?_⟩
        conv => whnf
        refine ⟨Nat.zero_le _, hi, ?_⟩
        conv => whnf
        refine ⟨⟨240518168592, [15, 24, 30], []⟩, ?_⟩
        refine LoopW_ind _ (fun s9 : List Sg × Int × Nat => match s9 with | (ys, m, k) => (({ tmps := [.undef, .undef, .undef, .undef, .own 4 [], .undef, .undef, .undef, .undef, .undef, .undef, .undef, .undef, .undef, .undef, .undef, .undef, .undef, .undef, .undef, .undef, .undef, .undef, .undef, .undef, .undef, .undef, .undef, .undef, .undef, .undef, .undef, .undef, .undef, .undef, sgsV ys, vI m, vI k, .undef, .undef, .undef, .undef, .undef, .undef, .undef, .undef, .undef, .undef], seg := [(4, .cells [vI s.1, vI s.2.1, vI s.2.2])], up := [] } : St S))) (fun s9 : List Sg × Int × Nat => match s9 with | (ys, m, k) => (ys = ss.take i ∧ m = (i : Int) ∧ k ≤ i ∧ ∀ j (hj : j < k) (h : j < ss.length), (ss[j].1 == s.1 && ss[j].2.1 == s.2.1) = false)) (fun s9 : List Sg × Int × Nat => match s9 with | (ys, m, k) => (i - k)) () ?_ (_, _, 0) ⟨by show List.drop 0 (List.take (i : Int).toNat ss) = ss.take i; simp, by show ((List.drop 0 (List.take (i : Int).toNat ss)).length : Int) = i; simp; omega, Nat.zero_le _, fun j h => absurd h (Nat.not_lt_zero j)⟩
        rintro ⟨ys, m, k⟩ hinv Z1 hZ1
        dsimp only at hinv hZ1
        obtain ⟨rfl, rfl, hk, hd⟩ := hinv
        conv => whnf
        refine bcase_iff.2 ⟨fun h6 => ?_, fun h6 => ?_⟩
        · skip
          have hlt : k < i := by have := of_decide_eq_true h6; omega
          have hw : IntKind.i64.wrap ((k : Int) + 1) = ((k + 1 : Nat) : Int) := wrap_nat (by omega)
          conv => whnf
          have hkt : k < (ss.take i).length := by omega
          conv => whnf
          have hks : k < ss.length := by omega
          conv => whnf
          refine ⟨_, getI_nat hkt, ?_⟩
          conv => whnf
          refine ⟨_, rfl, ?_⟩
          conv => whnf
          refine bcase_iff.2 ⟨fun h9 => ?_, fun h9 => ?_⟩
          · skip
            have h9 : (ss[k].1 == s.1 && ss[k].2.1 == s.2.1) = true := by
              have h9 : (s.1 == (ss.take i)[k].1 && (s.2.1 == (ss.take i)[k].2.1 && s.2.2 == s.2.2)) = true := h9
              rw [List.getElem_take] at h9
              simp at h9 ⊢
              exact ⟨h9.1.symm, h9.2.symm⟩
            have hany : ((ss.take i).any fun y => y.1 == s.1 && y.2.1 == s.2.1) = true := List.any_eq_true.2 ⟨ss[k], List.mem_take_iff_getElem.2 ⟨k, by omega, rfl⟩, h9⟩
            -- R:FFFTT
            conv => whnf
            unfold siE
            rw [g1_8, h1, Bool.false_or, if_neg (by simp), h3, if_neg (by simp), if_pos hany]
          · skip
            have h9 : (ss[k].1 == s.1 && ss[k].2.1 == s.2.1) = false := by
              have h9 : (s.1 == (ss.take i)[k].1 && (s.2.1 == (ss.take i)[k].2.1 && s.2.2 == s.2.2)) = false := h9
              rw [List.getElem_take] at h9
              rw [← h9, beq_self_eq_true, Bool.and_true]
              congr 1 <;> rw [Bool.eq_iff_iff, beq_iff_eq, beq_iff_eq] <;> exact eq_comm
            -- Z6:TF
            conv => whnf
            refine ⟨⟨240518168592, [7, 1007, 2007, 3007, 4007], []⟩, ?_⟩
            conv => whnf
            rw [hw]
            exact hZ1 (_, _, k + 1) ⟨rfl, rfl, hlt, fun j hj h => by have hj : j < k + 1 := hj; by_cases e : j = k; subst e; exact h9; exact hd j (by omega) h⟩ (by dsimp only; omega)
        · skip
          have hge : k = i := by have := of_decide_eq_false h6; omega
          -- R:FFFF
          conv => whnf
          subst hge
          have hany : ((ss.take k).any fun y => y.1 == s.1 && y.2.1 == s.2.1) = false := by
            rw [List.any_eq_false]
            intro y hy
            obtain ⟨j, hj, rfl⟩ := List.mem_take_iff_getElem.1 hy
            rw [hd j (by omega) (by omega)]; simp
          unfold siE
          rw [g1_8, h1, Bool.false_or, if_neg (by simp), h3, if_neg (by simp), hany, if_neg (by simp)]

theorem op66 : Opens PR 66 := ⟨_, Tryd.func66, rfl, rfl⟩

theorem c65 (gl : Gl) (ts : List ByteArray) (fs : List Fm) (ss : List Sg) (hl : ts.length ≤ 9223372036854775807 ∧ fs.length ≤ 9223372036854775807 ∧ ss.length ≤ 9223372036854775807) : PCalls PR gl 65 [sgsV ss, .clo (.func 66) [] [.ref (jobC ts fs ss)]] fun r => r = .tup [vI (firstR (siF fs.length ts.length ss) ss.length).1, vI (firstR (siF fs.length ts.length ss) ss.length).2] := by
  obtain ⟨hl1, hl2, hl3⟩ := hl
  refine fnW_sound (par_ok gl) Tryd.func65 ?_
  conv => whnf
  refine ⟨⟨3586, [], []⟩, ?_⟩
  refine LoopW_ind _ (fun i : Nat => (({ tmps := [.undef, .clo (.func 66) [] [.ref (jobC ts fs ss)], .undef, .undef, .undef, .undef, .undef, .undef, .undef, sgsV ss, vI ss.length, vI i, .undef, .undef, .undef, .undef, .undef, .undef, .undef, .undef, .undef, .undef, .undef, .undef, .undef], seg := [], up := [] } : St S))) (fun i : Nat => (i ≤ ss.length ∧ ∀ j, j < i → (siF fs.length ts.length ss) j = 0)) (fun i : Nat => (ss.length - i)) () ?_ 0 ⟨Nat.zero_le _, fun j h => absurd h (Nat.not_lt_zero j)⟩
  intro i hinv Z1 hZ1
  obtain ⟨hi, hd⟩ := hinv
  conv => whnf
  refine bcase_iff.2 ⟨fun h2 => ?_, fun h2 => ?_⟩
  · skip
    have hlt : i < ss.length := by have := of_decide_eq_true h2; omega
    have hw : IntKind.i64.wrap ((i : Int) + 1) = ((i + 1 : Nat) : Int) := wrap_nat (by omega)
    conv => whnf
    refine ⟨_, getI_nat hlt, ?_⟩
    conv => whnf
    refine byC (to (c66 gl ts fs ss i hi ⟨hl1, hl2, hl3⟩ ss[i]) (show _ = vI ((siF fs.length ts.length ss) i) by unfold siF; rw [getD_at hlt])) op66 ?_
    conv => whnf
    refine bcase_iff.2 ⟨fun h5 => ?_, fun h5 => ?_⟩
    · skip
      have h5 : (siF fs.length ts.length ss) i ≠ 0 := by have h5 : ((siF fs.length ts.length ss) i != 0) = true := h5; simpa using h5
      -- R:TT
      conv => whnf
      rw [firstR_at hlt hd h5]
    · skip
      have h5 : (siF fs.length ts.length ss) i = 0 := by have h5 : ((siF fs.length ts.length ss) i != 0) = false := h5; simpa using h5
      -- Z2:TF
      conv => whnf
      refine ⟨⟨3586, [7, 1007, 2007, 3007, 4007], []⟩, ?_⟩
      conv => whnf
      rw [hw]
      exact hZ1 (i + 1) ⟨hlt, up_succ hd h5⟩ (by omega)
  · skip
    have hge : i = ss.length := by have := of_decide_eq_false h2; omega
    -- R:F
    conv => whnf
    subst hge
    rw [firstR_no hd]

theorem op65 : Opens PR 65 := ⟨_, Tryd.func65, rfl, rfl⟩

theorem c16 (gl : Gl) (ts : List ByteArray) (fs : List Fm) (ss : List Sg) (hl : ts.length ≤ 9223372036854775807 ∧ fs.length ≤ 9223372036854775807 ∧ ss.length ≤ 9223372036854775807) : PCalls PR gl 16 [.agg [strsV ts, fmsV fs, sgsV ss]] fun r => r = .tup [vI (chk ts fs ss).1, vI (chk ts fs ss).2.1, vI (chk ts fs ss).2.2] := by
  obtain ⟨hl1, hl2, hl3⟩ := hl
  refine fnW_sound (par_ok gl) Tryd.func16 ?_
  conv => whnf
  refine bcase_iff.2 ⟨fun h1 => ?_, fun h1 => ?_⟩
  · skip
    have h1 : ts.length > 6 := by have := of_decide_eq_true h1; omega
    have hc : chk ts fs ss = (1, 0, 3) := by unfold chk; rw [if_pos h1]
    -- R:T
    conv => whnf
    rw [hc]
  · skip
    have h1 : ¬ ts.length > 6 := by have := of_decide_eq_false h1; omega
    conv => whnf
    refine byC (c56 gl ts fs ss (by omega)) op56 ?_
    conv => whnf
    refine bcase_iff.2 ⟨fun h4 => ?_, fun h4 => ?_⟩
    · skip
      have h4 : (firstR (tyF ts) ts.length).2 ≠ 0 := by have h4 : ((firstR (tyF ts) ts.length).2 != 0) = true := h4; simpa using h4
      have hc : chk ts fs ss = (1, (firstR (tyF ts) ts.length).1, (firstR (tyF ts) ts.length).2) := by unfold chk; rw [if_neg h1, if_pos h4]
      -- R:FT
      conv => whnf
      rw [hc]
    · skip
      have h4 : (firstR (tyF ts) ts.length).2 = 0 := by have h4 : ((firstR (tyF ts) ts.length).2 != 0) = false := h4; simpa using h4
      have hc : chk ts fs ss = chk2 ts.length fs ss := by unfold chk; rw [if_neg h1, if_neg (fun h => h h4)]
      conv => whnf
      refine ⟨_, rfl, ?_⟩
      conv => whnf
      refine byC (c60 gl [(fs.length : Int)] (by simp) 1 7) op60 ?_
      conv => whnf
      refine bcase_iff.2 ⟨fun h6 => ?_, fun h6 => ?_⟩
      · skip
        have h6 : [(fs.length : Int)].any (outB 1 7) = true := h6
        -- R:FFT
        conv => whnf
        rw [hc]
        unfold chk2
        rw [if_pos h6]
      · skip
        have h6 : [(fs.length : Int)].any (outB 1 7) = false := h6
        conv => whnf
        refine byC (c61 gl ts fs ss (by omega)) op61 ?_
        conv => whnf
        refine bcase_iff.2 ⟨fun h9 => ?_, fun h9 => ?_⟩
        · skip
          have h9 : (firstR (foF fs) fs.length).2 ≠ 0 := by have h9 : ((firstR (foF fs) fs.length).2 != 0) = true := h9; simpa using h9
          -- R:FFFT
          conv => whnf
          rw [hc]
          unfold chk2
          rw [h6, if_neg (by simp), if_pos h9]
        · skip
          have h9 : (firstR (foF fs) fs.length).2 = 0 := by have h9 : ((firstR (foF fs) fs.length).2 != 0) = false := h9; simpa using h9
          have hc3 : chk ts fs ss = chk3 ts.length fs.length ss := by rw [hc]; unfold chk2; rw [h6, if_neg (by simp), if_neg (fun h => h h9)]
          conv => whnf
          refine bcase_iff.2 ⟨fun h11 => ?_, fun h11 => ?_⟩
          · skip
            have h11 : ss.length > 12 := by have := of_decide_eq_true h11; omega
            -- R:FFFFT
            conv => whnf
            rw [hc3]
            unfold chk3
            rw [if_pos h11]
          · skip
            have h11 : ¬ ss.length > 12 := by have := of_decide_eq_false h11; omega
            conv => whnf
            refine byC (c65 gl ts fs ss ⟨hl1, hl2, hl3⟩) op65 ?_
            conv => whnf
            refine bcase_iff.2 ⟨fun h14 => ?_, fun h14 => ?_⟩
            · skip
              have h14 : (firstR (siF fs.length ts.length ss) ss.length).2 ≠ 0 := by have h14 : ((firstR (siF fs.length ts.length ss) ss.length).2 != 0) = true := h14; simpa using h14
              -- R:FFFFFT
              conv => whnf
              rw [hc3]
              unfold chk3
              rw [if_neg h11, if_pos h14]
            · skip
              have h14 : (firstR (siF fs.length ts.length ss) ss.length).2 = 0 := by have h14 : ((firstR (siF fs.length ts.length ss) ss.length).2 != 0) = false := h14; simpa using h14
              -- R:FFFFFF
              conv => whnf
              rw [hc3]
              unfold chk3
              rw [if_neg h11, if_neg (fun h => h h14)]

theorem op16 : Opens PR 16 := ⟨_, Tryd.func16, rfl, rfl⟩

end Go.Ab.SkF

namespace Go.Ab.SkF
open Go Go.Ab Go.Ab.Pln Go.Proofs
set_option maxHeartbeats 1000000
set_option maxRecDepth 100000

abbrev arr8 (l : List Nat) : AV S := .arr (S := S) U.int 8 (natsV l)
abbrev arr6 (l : List Nat) : AV S := .arr (S := S) U.int 6 (natsV l)
theorem bitsO_snoc (p : List Nat) (k : Nat) : bitsO (p ++ [k]) = bitsO p ||| 2 ^ k := by simp [bitsO]
theorem nats_set (l : List Nat) (t v : Nat) : setI (natsV l) (t : Int) (v : Int) = natsV (l.set t v) := by
  show (natsV l).set t v = _
  simp [natsV, List.map_set]
theorem set_same {l : List Nat} {i v : Nat} (h : l.getD i 0 = v) : l.set i v = l := by
  apply List.ext_getElem?
  intro j
  rw [List.getElem?_set]
  by_cases e : i = j
  · subst e
    by_cases hi : i < l.length
    · rw [if_pos rfl, if_pos hi, List.getElem?_eq_getElem hi, ← h, getD_at hi]
    · rw [if_pos rfl, if_neg hi, List.getElem?_eq_none (by omega)]
  · rw [if_neg e]
theorem natsV_length (l : List Nat) : (natsV l).length = l.length := by simp [natsV]

/-- Each forme alone, up to one. -/
def aloneU (i : Nat) : List Nat := (List.range 8).map fun k => if k < i then 2 ^ k else 0
theorem aloneU_full : aloneU 8 = aloneM := by decide +kernel
theorem aloneU_succ {i : Nat} (h : i < 8) : (aloneU i).set i (2 ^ i) = aloneU (i + 1) := by
  have : ∀ i, i < 8 → (aloneU i).set i (2 ^ i) = aloneU (i + 1) := by decide +kernel
  exact this i h

/-- Who counts with whom, as bits. -/
def meetM (R : Rel) (n : Nat) : List Nat := (List.range 8).map fun i => if i < n then bitsO ((List.range n).filter (R i)) else 0
def meetV (R : Rel) (n i k : Nat) : List Nat := (List.range 8).map fun a => if a < i then bitsO ((List.range n).filter (R a)) else if a = i then bitsO ((List.range k).filter (R a)) else 0

theorem meetV_full {R : Rel} {n : Nat} : meetV R n n 0 = meetM R n := by
  unfold meetV meetM
  apply List.map_congr_left
  intro a _
  by_cases h : a < n
  · rw [if_pos h, if_pos h]
  · rw [if_neg h, if_neg h]
    split <;> rfl
theorem meetV_zero {R : Rel} {n : Nat} : meetV R n 0 0 = List.replicate 8 0 := by
  unfold meetV
  apply List.ext_getElem
  · simp
  · intro i h1 h2
    simp only [List.getElem_map, List.getElem_range, List.getElem_replicate, Nat.not_lt_zero, if_false]
    split <;> rfl
theorem meetV_next {R : Rel} {n i : Nat} : meetV R n i n = meetV R n (i + 1) 0 := by
  unfold meetV
  apply List.map_congr_left
  intro a _
  by_cases h : a < i
  · rw [if_pos h, if_pos (by omega)]
  · rw [if_neg h]
    by_cases h2 : a = i
    · subst h2; rw [if_pos rfl, if_pos (by omega)]
    · rw [if_neg h2, if_neg (by omega)]
      split <;> rfl
theorem meetV_len (R : Rel) (n i k : Nat) : (meetV R n i k).length = 8 := by simp [meetV]
theorem meetV_get {R : Rel} {n i k : Nat} (h : i < 8) : (meetV R n i k).getD i 0 = bitsO ((List.range k).filter (R i)) := by
  simp [meetV, List.getD_eq_getElem?_getD, h]
theorem bits_lt8 {k : Nat} (h : k ≤ 8) (p : Nat → Bool) : bitsO ((List.range k).filter p) < 2 ^ 8 := bitsO_lt fun x hx => by
  have := List.mem_range.1 (List.mem_filter.1 hx).1; omega
theorem meetV_T {R : Rel} {n i k : Nat} (_h : i < 8) (hr : R i k = true) : (meetV R n i k).set i (bitsO ((List.range k).filter (R i)) ||| 2 ^ k) = meetV R n i (k + 1) := by
  apply List.ext_getElem
  · simp [meetV]
  · intro a h1 h2
    rw [List.getElem_set]
    by_cases e : i = a
    · subst e
      rw [if_pos rfl]
      simp only [meetV, List.getElem_map, List.getElem_range, Nat.lt_irrefl, if_false, if_true]
      rw [List.range_succ, List.filter_append, List.filter_cons, if_pos hr, List.filter_nil, bitsO_snoc]
    · rw [if_neg e]
      simp only [meetV, List.getElem_map, List.getElem_range, if_neg (Ne.symm e)]
theorem meetV_F {R : Rel} {n i k : Nat} (hr : R i k = false) : meetV R n i k = meetV R n i (k + 1) := by
  unfold meetV
  apply List.map_congr_left
  intro a _
  by_cases e : a = i
  · subst e; rw [List.range_succ, List.filter_append]; simp [hr]
  · rw [if_neg e, if_neg e]

/-! ### The types' formes -/

theorem typeM_snoc (ss : Sgs) (s : Sg) (t : Nat) : typeM (ss ++ [s]) t = if s.2.1 = (t : Int) then typeM ss t ||| 2 ^ s.1.toNat else typeM ss t := by
  unfold typeM; rw [List.foldl_append]; rfl
theorem typeM_lt {ss : Sgs} (h : ∀ s ∈ ss, s.1.toNat < 8) (t : Nat) : typeM ss t < 2 ^ 8 := by
  have : ∀ (ss : Sgs) (m : Nat), (∀ s ∈ ss, s.1.toNat < 8) → m < 2 ^ 8 → ss.foldl (fun m s => if s.2.1 = (t : Int) then m ||| 2 ^ s.1.toNat else m) m < 2 ^ 8 := fun ss => by
    induction ss with
    | nil => intro m _ hm; exact hm
    | cons s ss ih =>
      intro m hs hm
      rw [List.foldl_cons]
      refine ih _ (fun x hx => hs x (List.mem_cons_of_mem _ hx)) ?_
      split
      · exact Nat.or_lt_two_pow hm (Nat.pow_lt_pow_right (by omega) (hs s List.mem_cons_self))
      · exact hm
  exact this ss 0 h (by decide)
def typesN (ss : Sgs) (p : Nat → Bool) (i : Nat) : List Nat := (List.range 6).map fun t => typeM (pickU ss p i) t
theorem typesN_len (ss : Sgs) (p : Nat → Bool) (i : Nat) : (typesN ss p i).length = 6 := by simp [typesN]
theorem typesN_get {ss : Sgs} {p : Nat → Bool} {i t : Nat} (h : t < 6) : (typesN ss p i).getD t 0 = typeM (pickU ss p i) t := by simp [typesN, List.getD_eq_getElem?_getD, h]
theorem typesN_T {ss : Sgs} {p : Nat → Bool} {i t f : Nat} (h : i < ss.length) (hp : p i = true) (ht : ss[i].2.1 = (t : Int)) (hf : ss[i].1 = (f : Int)) : (typesN ss p i).set t (typeM (pickU ss p i) t ||| 2 ^ f) = typesN ss p (i + 1) := by
  apply List.ext_getElem
  · simp [typesN]
  · intro a h1 h2
    rw [List.getElem_set]
    have e : pickU ss p (i + 1) = pickU ss p i ++ [ss[i]] := by rw [pickU_succ, if_pos hp, getD_at h]
    by_cases e2 : t = a
    · subst e2
      rw [if_pos rfl]
      simp only [typesN, List.getElem_map, List.getElem_range]
      rw [e, typeM_snoc, if_pos ht, hf]
      rfl
    · rw [if_neg e2]
      simp only [typesN, List.getElem_map, List.getElem_range]
      rw [e, typeM_snoc, if_neg (by rw [ht]; omega)]
theorem typesN_F {ss : Sgs} {p : Nat → Bool} {i : Nat} (hp : p i = false) : typesN ss p (i + 1) = typesN ss p i := by
  unfold typesN; rw [pickU_succ, hp]; simp

/-! ### Groups -/

theorem allM_succ (n : Nat) (g : List Nat) (set : Nat) : allM (n + 1) g set = if set.testBit n then allM n g set ||| g.getD n 0 else allM n g set := by
  unfold allM; rw [List.range_succ, List.foldl_append]; rfl
theorem allM_lt {g : List Nat} (hg : ∀ x ∈ g, x < 2 ^ 8) {set : Nat} (hs : set < 2 ^ 8) : ∀ n, allM n g set < 2 ^ 8
  | 0 => hs
  | n + 1 => by
    rw [allM_succ]
    split
    · refine Nat.or_lt_two_pow (allM_lt hg hs n) ?_
      by_cases h : n < g.length
      · rw [getD_at h]; exact hg _ (List.getElem_mem h)
      · rw [List.getD_eq_getElem?_getD, List.getElem?_eq_none (by omega)]; decide
    · exact allM_lt hg hs n
def joinU (n : Nat) (g : List Nat) (set i : Nat) : List Nat := (List.range g.length).map fun k => if decide (k < i) && (set != 0 && decide (k < n) && (allM n g set).testBit k) then allM n g set else g.getD k 0
theorem joinU_zero (n : Nat) (g : List Nat) (set : Nat) : joinU n g set 0 = g := by
  apply List.ext_getElem
  · simp [joinU]
  · intro k h1 h2
    simp [joinU, List.getD_eq_getElem?_getD, h2]
theorem joinU_full (n : Nat) (g : List Nat) (set : Nat) : joinU n g set n = joinG n g set := by
  unfold joinU joinG
  apply List.map_congr_left
  intro k _
  by_cases h : k < n
  · simp [h]
  · simp [h]
theorem joinU_len (n : Nat) (g : List Nat) (set i : Nat) : (joinU n g set i).length = g.length := by simp [joinU]
theorem joinU_T {n : Nat} {g : List Nat} {set i : Nat} (hi : i < n) (hs : set ≠ 0) (ha : (allM n g set).testBit i = true) : (joinU n g set i).set i (allM n g set) = joinU n g set (i + 1) := by
  apply List.ext_getElem
  · simp [joinU]
  · intro k h1 h2
    rw [List.getElem_set]
    by_cases e : i = k
    · subst e
      rw [if_pos rfl]
      simp [joinU, hs, hi, ha]
    · rw [if_neg e]
      simp only [joinU, List.getElem_map, List.getElem_range]
      rw [show decide (k < i) = decide (k < i + 1) from decide_eq_decide.2 (by omega)]
theorem joinU_F {n : Nat} {g : List Nat} {set i : Nat} (h : (set != 0 && (allM n g set).testBit i) = false) : joinU n g set i = joinU n g set (i + 1) := by
  unfold joinU
  apply List.map_congr_left
  intro k _
  by_cases e : k = i
  · subst e
    have : (set != 0 && decide (k < n) && (allM n g set).testBit k) = false := by
      rw [Bool.and_right_comm, h, Bool.false_and]
    rw [this, Bool.and_false, Bool.and_false]
  · rw [show decide (k < i) = decide (k < i + 1) from decide_eq_decide.2 (by omega)]
theorem groupsT_lt {n T0 : Nat} {ss : Sgs} (h : ∀ s ∈ ss, s.1.toNat < 8) : ∀ T, ∀ x ∈ groupsT n ss T, x < 2 ^ 8
  | 0 => fun x hx => by
    have : ∀ x ∈ aloneM, x < 2 ^ 8 := by decide +kernel
    exact this x hx
  | T + 1 => fun x hx => by
    rw [groupsT_succ] at hx
    unfold joinG at hx
    obtain ⟨i, hi, rfl⟩ := List.mem_map.1 hx
    have hi := List.mem_range.1 hi
    split
    · exact allM_lt (groupsT_lt (T0 := T0) h T) (typeM_lt h T) n
    · rw [getD_at hi]; exact groupsT_lt (T0 := T0) h T _ (List.getElem_mem hi)

theorem getI_natsD {l : List Nat} {i : Nat} (h : i < l.length) : getI (natsV l) (i : Int) = some ((l.getD i 0 : Nat) : Int) := by rw [getI_nats h, getD_at h]
theorem lt63 {a : Nat} (h : a < 2 ^ 8) : a < 2 ^ 63 := Nat.lt_of_lt_of_le h (by decide)

/-- A job that is looked at, with some of its sightings. -/
abbrev lookC (ts : List ByteArray) (fs : Fms) (ss : Sgs) (p : Nat → Bool) : List (AV S) := [strsV ts, fmsV fs, sgsV ss, arr8 (groupsM fs.length (pickS ss p)), arr8 (meetM (stN fs) fs.length)]

theorem c94 (gl : Gl) : PCalls PR gl 94 [] fun r => r = .agg [arr8 aloneM] := by
  refine fnW_sound (par_ok gl) Tryd.func94 ?_
  conv => whnf
  refine ⟨⟨5, [], []⟩, ?_⟩
  refine LoopW_ind _ (fun i : Nat => (({ tmps := [.own 0 [], .undef, vI i, .undef, .undef, .undef, .undef, .undef, .undef, .undef, .undef], seg := [(0, .cells [arr8 (aloneU i)])], up := [] } : St S))) (fun i : Nat => (i ≤ 8)) (fun i : Nat => (8 - i)) () ?_ 0 (Nat.zero_le _)
  intro i hi Z1 hZ1
  conv => whnf
  refine bcase_iff.2 ⟨fun h2 => ?_, fun h2 => ?_⟩
  · skip
    have hlt : i < 8 := by have := of_decide_eq_true h2; omega
    have hw : IntKind.i64.wrap ((i : Int) + 1) = ((i + 1 : Nat) : Int) := wrap_nat (by omega)
    conv => whnf
    refine ⟨by omega, ?_⟩
    conv => whnf
    refine ⟨by omega, by omega, ?_⟩
    conv => whnf
    refine ⟨_, getI_natsD (l := aloneU i) (by simp [aloneU]; omega), _, rfl, ?_⟩
    -- Z2:T
    conv => whnf
    refine ⟨⟨5, [], []⟩, ?_⟩
    conv => whnf
    rw [hw, shl_one (by omega)]
    rw [nats_set, aloneU_succ hlt]
    exact hZ1 (i + 1) hlt (by omega)
  · skip
    have hge : i = 8 := by have := of_decide_eq_false h2; omega
    -- R:F
    conv => whnf
    rw [hge, aloneU_full]

theorem op94 : Opens PR 94 := ⟨_, Tryd.func94, rfl, rfl⟩

theorem c124 (gl : Gl) (f : Fm) : PCalls PR gl 124 [.agg [.str f.1, vI f.2.1, vI f.2.2.1, vI f.2.2.2]] fun r => r = vI f.2.1 := by
  refine fnW_sound (par_ok gl) Tryd.func124 ?_
  -- R:
  conv => whnf

theorem op124 : Opens PR 124 := ⟨_, Tryd.func124, rfl, rfl⟩

theorem c117 (gl : Gl) (f : Fm) : PCalls PR gl 117 [.agg [.str f.1, vI f.2.1, vI f.2.2.1, vI f.2.2.2]] fun r => r = vI f.2.2.1 := by
  refine fnW_sound (par_ok gl) Tryd.func117 ?_
  -- R:
  conv => whnf

theorem op117 : Opens PR 117 := ⟨_, Tryd.func117, rfl, rfl⟩

theorem c118 (gl : Gl) (f : Fm) : PCalls PR gl 118 [.agg [.str f.1, vI f.2.1, vI f.2.2.1, vI f.2.2.2]] fun r => r = vI f.2.2.2 := by
  refine fnW_sound (par_ok gl) Tryd.func118 ?_
  -- R:
  conv => whnf

theorem op118 : Opens PR 118 := ⟨_, Tryd.func118, rfl, rfl⟩

theorem c113 (gl : Gl) : PCalls PR gl 113 [] fun r => r = (.agg [.clo (.func 124) [] [], .clo (.func 118) [] []] : AV S) := by
  refine fnW_sound (par_ok gl) Tryd.func113 ?_
  -- R:
  conv => whnf

theorem op113 : Opens PR 113 := ⟨_, Tryd.func113, rfl, rfl⟩

theorem c96 (gl : Gl) : PCalls PR gl 96 [] fun r => r = (.agg [.clo (.func 117) [] [], .clo (.func 118) [] []] : AV S) := by
  refine fnW_sound (par_ok gl) Tryd.func96 ?_
  -- R:
  conv => whnf

theorem op96 : Opens PR 96 := ⟨_, Tryd.func96, rfl, rfl⟩

theorem c95s (gl : Gl) (fs : Fms) (h8 : fs.length ≤ 8) : PCalls PR gl 95 [fmsV fs, .agg [.clo (.func 124) [] [], .clo (.func 118) [] []]] fun r => r = .agg [arr8 (meetM (stN fs) fs.length)] := by
  refine fnW_sound (par_ok gl) Tryd.func95 ?_
  conv => whnf
  rw [show ([0, 0, 0, 0, 0, 0, 0, 0] : List Int) = natsV (meetV (stN fs) fs.length 0 0) by rw [meetV_zero]; rfl]
  refine loop_q fun Q1 hQ1 => ?_
  refine ⟨⟨3609, [], []⟩, ?_⟩
  refine LoopW_ind _ (fun i : Nat => (({ tmps := [fmsV fs, .undef, .undef, .own 3 [], .own 4 [], .undef, .undef, .undef, .undef, fmsV fs, vI fs.length, vI i, .undef, .undef, .undef, .undef, .undef, .undef, .undef, .undef, .undef, .undef, .undef, .undef, .undef, .undef, .undef, .undef, .undef, .undef, .undef, .undef, .undef, .undef, .undef, .undef, .undef, .undef, .undef, .undef, .undef, .undef, .undef, .undef, .undef, .undef, .undef, .undef, .undef, .undef, .undef, .undef, .undef, .undef, .undef, .undef, .undef, .undef], seg := [(3, .cells [.clo (.func 124) [] [], .clo (.func 118) [] []]), (4, .cells [arr8 (meetV (stN fs) fs.length i 0)])], up := [] } : St S))) (fun i : Nat => (i ≤ fs.length)) (fun i : Nat => (fs.length - i)) () ?_ 0 (Nat.zero_le _)
  intro i hi Z1 hZ1
  conv => whnf
  refine bcase_iff.2 ⟨fun h2 => ?_, fun h2 => ?_⟩
  · skip
    have hlt : i < fs.length := by have := of_decide_eq_true h2; omega
    have hw : IntKind.i64.wrap ((i : Int) + 1) = ((i + 1 : Nat) : Int) := wrap_nat (by omega)
    conv => whnf
    refine ⟨_, getI_nat hlt, ?_⟩
    conv => whnf
    refine ⟨⟨462457, [], []⟩, ?_⟩
    refine LoopW_ind _ (fun k : Nat => (({ tmps := [fmsV fs, .undef, .undef, .own 3 [], .own 4 [], vI i, .own 6 [], .undef, .undef, fmsV fs, vI fs.length, vI i, .undef, .undef, .undef, .undef, fmsV fs, vI fs.length, vI k, .undef, .undef, .undef, .undef, .undef, .undef, .undef, .undef, .undef, .undef, .undef, .undef, .undef, .undef, .undef, .undef, .undef, .undef, .undef, .undef, .undef, .undef, .undef, .undef, .undef, .undef, .undef, .undef, .undef, .undef, .undef, .undef, .undef, .undef, .undef, .undef, .undef, .undef, .undef], seg := [(3, .cells [.clo (.func 124) [] [], .clo (.func 118) [] []]), (4, .cells [arr8 (meetV (stN fs) fs.length i k)]), (6, .cells (fmC fs[i]))], up := [] } : St S))) (fun k : Nat => (k ≤ fs.length)) (fun k : Nat => (fs.length - k)) () ?_ 0 (Nat.zero_le _)
    intro k hk Z2 hZ2
    conv => whnf
    refine bcase_iff.2 ⟨fun h5 => ?_, fun h5 => ?_⟩
    · skip
      have hltk : k < fs.length := by have := of_decide_eq_true h5; omega
      have hwk : IntKind.i64.wrap ((k : Int) + 1) = ((k + 1 : Nat) : Int) := wrap_nat (by omega)
      conv => whnf
      refine ⟨_, getI_nat hltk, ?_⟩
      conv => whnf
      refine ⟨[0, 1, 2, 3, 4, 5, 6, 8, 9, 10, 7, 11, 12, 13, 14, 15, 16, 17, 19, 20, 21, 18, 22, 23, 24], [], [], [], ⟨288230376151711743, [], []⟩, by decide +kernel, ?_⟩
      conv => whnf
      refine bcase_iff.2 ⟨fun g7_3 => ?_, fun g7_3 => ?_⟩
      · skip
        have hne : i ≠ k := fun e => by have g7_3 : ((i : Int) != (k : Int)) = true := g7_3; rw [e] at g7_3; simp at g7_3
        conv => whnf
        refine byC (c124 gl fs[i]) op124 ?_
        conv => whnf
        refine byC (c118 gl fs[k]) op118 ?_
        conv => whnf
        refine bcase_iff.2 ⟨fun g7_14 => ?_, fun g7_14 => ?_⟩
        · skip
          have hle1 : decide (fs[i].2.1 ≤ fs[k].2.2.2) = true := g7_14
          conv => whnf
          refine byC (c124 gl fs[k]) op124 ?_
          conv => whnf
          refine byC (c118 gl fs[i]) op118 ?_
          conv => whnf
          refine bcase_iff.2 ⟨fun h7 => ?_, fun h7 => ?_⟩
          · skip
            have hle2 : decide (fs[k].2.1 ≤ fs[i].2.2.2) = true := h7
            have hR : stN fs i k = true := by unfold stN stB; rw [getD_at hlt, getD_at hltk, hle1, hle2]; simpa using hne
            have hb := bits_lt8 (show k ≤ 8 by omega) (stN fs i)
            conv => whnf
            refine ⟨[0, 1, 2, 3, 4, 5, 6, 7], [], [], [], ⟨288230376151711743, [], []⟩, by decide +kernel, ?_⟩
            conv => whnf
            refine ⟨by omega, by omega, ?_⟩
            conv => whnf
            refine ⟨_, getI_natsD (by rw [meetV_len]; omega), ?_⟩
            conv => whnf
            refine ⟨by omega, ?_⟩
            conv => whnf
            refine ⟨by omega, by omega, ?_⟩
            conv => whnf
            refine ⟨_, getI_natsD (by rw [meetV_len]; omega), _, rfl, ?_⟩
            -- Z5:TTTT
            conv => whnf
            refine ⟨⟨462457, [8, 1008, 2008, 3008, 4008], []⟩, ?_⟩
            conv => whnf
            rw [meetV_get (by omega), shl_one (by omega), or_nat (lt63 hb) (Nat.pow_lt_pow_right (by omega) (by omega)), nats_set, meetV_T (by omega) hR, hwk]
            exact hZ2 (k + 1) hltk (by omega)
          · skip
            have hle2 : decide (fs[k].2.1 ≤ fs[i].2.2.2) = false := h7
            have hR : stN fs i k = false := by unfold stN stB; rw [getD_at hlt, getD_at hltk, hle2, Bool.and_false, Bool.and_false]
            -- Z5:TTTF
            conv => whnf
            refine ⟨⟨462457, [8, 1008, 2008, 3008, 4008], []⟩, ?_⟩
            conv => whnf
            rw [hwk, meetV_F hR]
            exact hZ2 (k + 1) hltk (by omega)
        · skip
          have hle1 : decide (fs[i].2.1 ≤ fs[k].2.2.2) = false := g7_14
          have hR : stN fs i k = false := by unfold stN stB; rw [getD_at hlt, getD_at hltk, hle1, Bool.false_and, Bool.and_false]
          -- Z5:TTF
          conv => whnf
          refine ⟨⟨462457, [8, 1008, 2008, 3008, 4008], []⟩, ?_⟩
          conv => whnf
          rw [hwk, meetV_F hR]
          exact hZ2 (k + 1) hltk (by omega)
      · skip
        have hne : i = k := by have g7_3 : ((i : Int) != (k : Int)) = false := g7_3; simp at g7_3; omega
        have hR : stN fs i k = false := by subst hne; simp [stN]
        -- Z5:TF
        conv => whnf
        refine ⟨⟨462457, [8, 1008, 2008, 3008, 4008], []⟩, ?_⟩
        conv => whnf
        rw [hwk, meetV_F hR]
        exact hZ2 (k + 1) hltk (by omega)
    · skip
      have hgk : k = fs.length := by have := of_decide_eq_false h5; omega
      -- Z2:TF
      conv => whnf
      refine ⟨⟨3609, [6, 8, 1006, 1008, 2006, 2008, 3006, 3008, 4006, 4008], []⟩, ?_⟩
      conv => whnf
      rw [hw, hgk, meetV_next]
      exact hZ1 (i + 1) hlt (by omega)
  · skip
    have hge : i = fs.length := by have := of_decide_eq_false h2; omega
    conv => whnf
    refine (hQ1 _ _ _).mpr ?_
    -- R:F
    conv => whnf
    rw [hge, meetV_full]

theorem op95 : Opens PR 95 := ⟨_, Tryd.func95, rfl, rfl⟩

theorem c95p (gl : Gl) (fs : Fms) (h8 : fs.length ≤ 8) : PCalls PR gl 95 [fmsV fs, .agg [.clo (.func 117) [] [], .clo (.func 118) [] []]] fun r => r = .agg [arr8 (meetM (prN fs) fs.length)] := by
  refine fnW_sound (par_ok gl) Tryd.func95 ?_
  conv => whnf
  rw [show ([0, 0, 0, 0, 0, 0, 0, 0] : List Int) = natsV (meetV (prN fs) fs.length 0 0) by rw [meetV_zero]; rfl]
  refine loop_q fun Q1 hQ1 => ?_
  refine ⟨⟨3609, [], []⟩, ?_⟩
  refine LoopW_ind _ (fun i : Nat => (({ tmps := [fmsV fs, .undef, .undef, .own 3 [], .own 4 [], .undef, .undef, .undef, .undef, fmsV fs, vI fs.length, vI i, .undef, .undef, .undef, .undef, .undef, .undef, .undef, .undef, .undef, .undef, .undef, .undef, .undef, .undef, .undef, .undef, .undef, .undef, .undef, .undef, .undef, .undef, .undef, .undef, .undef, .undef, .undef, .undef, .undef, .undef, .undef, .undef, .undef, .undef, .undef, .undef, .undef, .undef, .undef, .undef, .undef, .undef, .undef, .undef, .undef, .undef], seg := [(3, .cells [.clo (.func 117) [] [], .clo (.func 118) [] []]), (4, .cells [arr8 (meetV (prN fs) fs.length i 0)])], up := [] } : St S))) (fun i : Nat => (i ≤ fs.length)) (fun i : Nat => (fs.length - i)) () ?_ 0 (Nat.zero_le _)
  intro i hi Z1 hZ1
  conv => whnf
  refine bcase_iff.2 ⟨fun h2 => ?_, fun h2 => ?_⟩
  · skip
    have hlt : i < fs.length := by have := of_decide_eq_true h2; omega
    have hw : IntKind.i64.wrap ((i : Int) + 1) = ((i + 1 : Nat) : Int) := wrap_nat (by omega)
    conv => whnf
    refine ⟨_, getI_nat hlt, ?_⟩
    conv => whnf
    refine ⟨⟨462457, [], []⟩, ?_⟩
    refine LoopW_ind _ (fun k : Nat => (({ tmps := [fmsV fs, .undef, .undef, .own 3 [], .own 4 [], vI i, .own 6 [], .undef, .undef, fmsV fs, vI fs.length, vI i, .undef, .undef, .undef, .undef, fmsV fs, vI fs.length, vI k, .undef, .undef, .undef, .undef, .undef, .undef, .undef, .undef, .undef, .undef, .undef, .undef, .undef, .undef, .undef, .undef, .undef, .undef, .undef, .undef, .undef, .undef, .undef, .undef, .undef, .undef, .undef, .undef, .undef, .undef, .undef, .undef, .undef, .undef, .undef, .undef, .undef, .undef, .undef], seg := [(3, .cells [.clo (.func 117) [] [], .clo (.func 118) [] []]), (4, .cells [arr8 (meetV (prN fs) fs.length i k)]), (6, .cells (fmC fs[i]))], up := [] } : St S))) (fun k : Nat => (k ≤ fs.length)) (fun k : Nat => (fs.length - k)) () ?_ 0 (Nat.zero_le _)
    intro k hk Z2 hZ2
    conv => whnf
    refine bcase_iff.2 ⟨fun h5 => ?_, fun h5 => ?_⟩
    · skip
      have hltk : k < fs.length := by have := of_decide_eq_true h5; omega
      have hwk : IntKind.i64.wrap ((k : Int) + 1) = ((k + 1 : Nat) : Int) := wrap_nat (by omega)
      conv => whnf
      refine ⟨_, getI_nat hltk, ?_⟩
      conv => whnf
      refine ⟨[0, 1, 2, 3, 4, 5, 6, 8, 9, 10, 7, 11, 12, 13, 14, 15, 16, 17, 19, 20, 21, 18, 22, 23, 24], [], [], [], ⟨288230376151711743, [], []⟩, by decide +kernel, ?_⟩
      conv => whnf
      refine bcase_iff.2 ⟨fun g7_3 => ?_, fun g7_3 => ?_⟩
      · skip
        have hne : i ≠ k := fun e => by have g7_3 : ((i : Int) != (k : Int)) = true := g7_3; rw [e] at g7_3; simp at g7_3
        conv => whnf
        refine byC (c117 gl fs[i]) op117 ?_
        conv => whnf
        refine byC (c118 gl fs[k]) op118 ?_
        conv => whnf
        refine bcase_iff.2 ⟨fun g7_14 => ?_, fun g7_14 => ?_⟩
        · skip
          have hle1 : decide (fs[i].2.2.1 ≤ fs[k].2.2.2) = true := g7_14
          conv => whnf
          refine byC (c117 gl fs[k]) op117 ?_
          conv => whnf
          refine byC (c118 gl fs[i]) op118 ?_
          conv => whnf
          refine bcase_iff.2 ⟨fun h7 => ?_, fun h7 => ?_⟩
          · skip
            have hle2 : decide (fs[k].2.2.1 ≤ fs[i].2.2.2) = true := h7
            have hR : prN fs i k = true := by unfold prN prB; rw [getD_at hlt, getD_at hltk, hle1, hle2]; simpa using hne
            have hb := bits_lt8 (show k ≤ 8 by omega) (prN fs i)
            conv => whnf
            refine ⟨[0, 1, 2, 3, 4, 5, 6, 7], [], [], [], ⟨288230376151711743, [], []⟩, by decide +kernel, ?_⟩
            conv => whnf
            refine ⟨by omega, by omega, ?_⟩
            conv => whnf
            refine ⟨_, getI_natsD (by rw [meetV_len]; omega), ?_⟩
            conv => whnf
            refine ⟨by omega, ?_⟩
            conv => whnf
            refine ⟨by omega, by omega, ?_⟩
            conv => whnf
            refine ⟨_, getI_natsD (by rw [meetV_len]; omega), _, rfl, ?_⟩
            -- Z5:TTTT
            conv => whnf
            refine ⟨⟨462457, [8, 1008, 2008, 3008, 4008], []⟩, ?_⟩
            conv => whnf
            rw [meetV_get (by omega), shl_one (by omega), or_nat (lt63 hb) (Nat.pow_lt_pow_right (by omega) (by omega)), nats_set, meetV_T (by omega) hR, hwk]
            exact hZ2 (k + 1) hltk (by omega)
          · skip
            have hle2 : decide (fs[k].2.2.1 ≤ fs[i].2.2.2) = false := h7
            have hR : prN fs i k = false := by unfold prN prB; rw [getD_at hlt, getD_at hltk, hle2, Bool.and_false, Bool.and_false]
            -- Z5:TTTF
            conv => whnf
            refine ⟨⟨462457, [8, 1008, 2008, 3008, 4008], []⟩, ?_⟩
            conv => whnf
            rw [hwk, meetV_F hR]
            exact hZ2 (k + 1) hltk (by omega)
        · skip
          have hle1 : decide (fs[i].2.2.1 ≤ fs[k].2.2.2) = false := g7_14
          have hR : prN fs i k = false := by unfold prN prB; rw [getD_at hlt, getD_at hltk, hle1, Bool.false_and, Bool.and_false]
          -- Z5:TTF
          conv => whnf
          refine ⟨⟨462457, [8, 1008, 2008, 3008, 4008], []⟩, ?_⟩
          conv => whnf
          rw [hwk, meetV_F hR]
          exact hZ2 (k + 1) hltk (by omega)
      · skip
        have hne : i = k := by have g7_3 : ((i : Int) != (k : Int)) = false := g7_3; simp at g7_3; omega
        have hR : prN fs i k = false := by subst hne; simp [prN]
        -- Z5:TF
        conv => whnf
        refine ⟨⟨462457, [8, 1008, 2008, 3008, 4008], []⟩, ?_⟩
        conv => whnf
        rw [hwk, meetV_F hR]
        exact hZ2 (k + 1) hltk (by omega)
    · skip
      have hgk : k = fs.length := by have := of_decide_eq_false h5; omega
      -- Z2:TF
      conv => whnf
      refine ⟨⟨3609, [6, 8, 1006, 1008, 2006, 2008, 3006, 3008, 4006, 4008], []⟩, ?_⟩
      conv => whnf
      rw [hw, hgk, meetV_next]
      exact hZ1 (i + 1) hlt (by omega)
  · skip
    have hge : i = fs.length := by have := of_decide_eq_false h2; omega
    conv => whnf
    refine (hQ1 _ _ _).mpr ?_
    -- R:F
    conv => whnf
    rw [hge, meetV_full]

end Go.Ab.SkF

namespace Go.Ab.SkF
open Go Go.Ab Go.Ab.Pln Go.Proofs
set_option maxHeartbeats 1000000
set_option maxRecDepth 100000

theorem bitN {a i : Nat} (ha : a < 2 ^ 63) (h : i < 64) : (bitsI .and .i64 (shrI .i64 (a : Int) (i : Int)) 1 == 1) = a.testBit i := bitB ha h
theorem nz {a : Nat} : (((a : Nat) : Int) != 0) = (a != 0) := by
  rw [Bool.eq_iff_iff, bne_iff_ne, bne_iff_ne]; omega

theorem c80 (gl : Gl) (ts : List ByteArray) (fs : List Fm) (ss : List Sg) (h8 : fs.length ≤ 8) (hs : SsOk fs.length 6 ss) (hsl : ss.length ≤ 60) (m : Nat) (hm : m < 2 ^ 63) : PCalls PR gl 80 [.agg [strsV ts, fmsV fs, sgsV ss], vI m] fun r => r = .ref (lookC ts fs ss m.testBit) := by
  have h0 : ∀ p : Nat → Bool, ∀ i, ∀ s ∈ pickU ss p i, i ≤ ss.length → s.1.toNat < 8 := fun p i s hi hil => by
    unfold pickU at hi
    obtain ⟨k, hk, rfl⟩ := List.mem_map.1 hi
    have hk := List.mem_range.1 (List.mem_filter.1 hk).1
    rw [getD_at (show k < ss.length by omega)]
    have := hs.f _ (List.getElem_mem (show k < ss.length by omega))
    omega
  have hty : ∀ i, i ≤ ss.length → ∀ t, typeM (pickU ss m.testBit i) t < 2 ^ 8 := fun i hi t => typeM_lt (fun s hsm => h0 _ i s hsm hi) t
  have hgr : ∀ T, ∀ x ∈ groupsT fs.length (pickS ss m.testBit) T, x < 2 ^ 8 := fun T => groupsT_lt (T0 := 6) (fun s hsm => h0 _ _ s hsm (Nat.le_refl _)) T
  have hgl := fun T => groupsT_len fs.length (pickS ss m.testBit) T
  refine fnW_sound (par_ok gl) Tryd.func80 ?_
  conv => whnf
  refine ⟨[0, 2, 3, 1, 4, 5, 6, 7, 8], [], [], [], ⟨10141204801825835211973625643007, [], []⟩, by decide +kernel, ?_⟩
  conv => whnf
  refine byC (c94 gl) op94 ?_
  conv => whnf
  refine byC (c113 gl) op113 ?_
  conv => whnf
  refine byC (c95s gl fs h8) op95 ?_
  conv => whnf
  refine ⟨⟨469762146, [2], []⟩, ?_⟩
  refine LoopW_ind _ (fun i : Nat => (({ tmps := [.undef, vI m, .undef, .undef, .undef, .own 21 [], .own 6 [], .undef, .undef, .undef, .undef, .undef, .undef, .undef, .undef, .undef, .undef, .undef, .undef, .undef, .undef, .undef, .undef, .undef, .undef, .undef, sgsV ss, vI ss.length, vI i, .undef, .undef, .undef, .undef, .undef, .undef, .undef, .undef, .undef, .undef, .undef, .undef, .undef, .undef, .undef, .undef, .undef, .undef, .undef, .undef, .undef, .undef, .undef, .undef, .undef, .undef, .undef, .undef, .undef, .undef, .undef, .undef, .undef, .undef, .undef, .undef, .undef, .undef, .undef, .undef, .undef, .undef, .undef, .undef, .undef, .undef, .undef, .undef, .undef, .undef, .undef, .undef, .undef, .undef, .undef, .undef, .undef, .undef, .undef, .undef, .undef, .undef, .undef, .undef, .undef, .undef, .undef, .undef, .undef, .undef, .undef, .undef, .undef, .undef], seg := [(6, .cells [arr6 (typesN ss m.testBit i)]), (21, .cells [strsV ts, fmsV fs, sgsV ss, arr8 (aloneM), arr8 (meetM (stN fs) fs.length)])], up := [] } : St S))) (fun i : Nat => (i ≤ ss.length)) (fun i : Nat => (ss.length - i)) () ?_ 0 (Nat.zero_le _)
  intro i hi Z1 hZ1
  conv => whnf
  refine bcase_iff.2 ⟨fun h4 => ?_, fun h4 => ?_⟩
  · skip
    have hlt : i < ss.length := by have := of_decide_eq_true h4; omega
    have hw : IntKind.i64.wrap ((i : Int) + 1) = ((i + 1 : Nat) : Int) := wrap_nat (by omega)
    conv => whnf
    refine ⟨_, getI_nat hlt, ?_⟩
    conv => whnf
    refine ⟨by omega, ?_⟩
    conv => whnf
    refine bcase_iff.2 ⟨fun h6 => ?_, fun h6 => ?_⟩
    · skip
      have h6 : m.testBit i = true := by rw [← bitN hm (show i < 64 by omega)]; exact h6
      obtain ⟨hf0, hf1⟩ := hs.f _ (List.getElem_mem hlt)
      obtain ⟨ht0, ht1⟩ := hs.t _ (List.getElem_mem hlt)
      obtain ⟨f, hf⟩ : ∃ f : Nat, ss[i].1 = (f : Int) := ⟨ss[i].1.toNat, by omega⟩
      obtain ⟨t, ht⟩ : ∃ t : Nat, ss[i].2.1 = (t : Int) := ⟨ss[i].2.1.toNat, by omega⟩
      have ht6 : t < 6 := by omega
      have hf8 : f < 8 := by omega
      have hgt : getI (natsV (typesN ss m.testBit i)) ss[i].2.1 = some ((typeM (pickU ss m.testBit i) t : Nat) : Int) := by rw [ht, getI_natsD (by rw [typesN_len]; omega), typesN_get ht6]
      conv => whnf
      refine ⟨[0, 1, 2, 3, 4, 5, 6, 7, 8, 9], [], [], [], ⟨10141204801825835211973625643007, [], []⟩, by decide +kernel, ?_⟩
      conv => whnf
      refine ⟨by omega, by omega, ?_⟩
      conv => whnf
      refine ⟨_, hgt, ?_⟩
      conv => whnf
      refine ⟨by omega, ?_⟩
      conv => whnf
      refine ⟨by omega, by omega, ?_⟩
      conv => whnf
      refine ⟨_, hgt, _, rfl, ?_⟩
      -- Z4:TT
      conv => whnf
      refine ⟨⟨469762146, [8, 1008, 2008, 3008, 4008], []⟩, ?_⟩
      conv => whnf
      rw [hf, ht, shl_one (by omega), or_nat (lt63 (hty i hi t)) (Nat.pow_lt_pow_right (by omega) (by omega)), nats_set, typesN_T hlt h6 ht hf, hw]
      exact hZ1 (i + 1) hlt (by omega)
    · skip
      have h6 : m.testBit i = false := by rw [← bitN hm (show i < 64 by omega)]; exact h6
      -- Z4:TF
      conv => whnf
      refine ⟨⟨469762146, [8, 1008, 2008, 3008, 4008], []⟩, ?_⟩
      conv => whnf
      rw [hw, ← typesN_F h6]
      exact hZ1 (i + 1) hlt (by omega)
  · skip
    have hge : i = ss.length := by have := of_decide_eq_false h4; omega
    subst hge
    conv => whnf
    refine loop_q fun Q2 hQ2 => ?_
    refine ⟨⟨844424930132000, [6], []⟩, ?_⟩
    refine LoopW_ind _ (fun t : Nat => (({ tmps := [.undef, .undef, .undef, .undef, .undef, .own 21 [], .undef, .undef, .undef, .undef, .undef, .undef, .undef, .undef, .undef, .undef, .undef, .undef, .undef, .undef, .undef, .undef, .undef, .undef, .undef, .undef, .undef, .undef, .undef, .undef, .undef, .undef, .undef, .undef, .undef, .undef, .undef, .undef, .undef, .undef, .undef, .undef, .undef, .undef, .undef, .undef, .undef, .undef, .agg [arr6 (typesN ss m.testBit ss.length)], vI t, .undef, .undef, .undef, .undef, .undef, .undef, .undef, .undef, .undef, .undef, .undef, .undef, .undef, .undef, .undef, .undef, .undef, .undef, .undef, .undef, .undef, .undef, .undef, .undef, .undef, .undef, .undef, .undef, .undef, .undef, .undef, .undef, .undef, .undef, .undef, .undef, .undef, .undef, .undef, .undef, .undef, .undef, .undef, .undef, .undef, .undef, .undef, .undef, .undef, .undef, .undef, .undef, .undef], seg := [(21, .cells [strsV ts, fmsV fs, sgsV ss, arr8 (groupsT fs.length (pickS ss m.testBit) t), arr8 (meetM (stN fs) fs.length)])], up := [] } : St S))) (fun t : Nat => (t ≤ 6)) (fun t : Nat => (6 - t)) () ?_ 0 (Nat.zero_le _)
    intro t ht Z2 hZ2
    conv => whnf
    refine bcase_iff.2 ⟨fun h10 => ?_, fun h10 => ?_⟩
    · skip
      have hlt6 : t < 6 := by have := of_decide_eq_true h10; omega
      have hwt : IntKind.i64.wrap ((t : Int) + 1) = ((t + 1 : Nat) : Int) := wrap_nat (by omega)
      conv => whnf
      refine ⟨_, getI_natsD (l := typesN ss m.testBit ss.length) (by rw [typesN_len]; exact hlt6), ?_⟩
      conv => whnf
      rw [typesN_get hlt6]
      conv => whnf
      have hset : typeM (pickU ss m.testBit ss.length) t < 2 ^ 8 := hty _ (Nat.le_refl _) t
      conv => whnf
      have hal := fun n => allM_lt (hgr t) hset n
      conv => whnf
      refine ⟨⟨865535553385270304, [], []⟩, ?_⟩
      refine LoopW_ind _ (fun a : Nat => (({ tmps := [.undef, .undef, .undef, .undef, .undef, .own 21 [], .undef, .undef, .undef, .undef, vI (typeM (pickU ss m.testBit ss.length) t), vI (allM a (groupsT fs.length (pickS ss m.testBit) t) (typeM (pickU ss m.testBit ss.length) t)), .undef, .undef, .undef, .undef, .undef, .undef, .undef, .undef, .undef, .undef, .undef, .undef, .undef, .undef, .undef, .undef, .undef, .undef, .undef, .undef, .undef, .undef, .undef, .undef, .undef, .undef, .undef, .undef, .undef, .undef, .undef, .undef, .undef, .undef, .undef, .undef, .agg [arr6 (typesN ss m.testBit ss.length)], vI t, .undef, .undef, .undef, .undef, .undef, .undef, .undef, .undef, vI fs.length, vI a, .undef, .undef, .undef, .undef, .undef, .undef, .undef, .undef, .undef, .undef, .undef, .undef, .undef, .undef, .undef, .undef, .undef, .undef, .undef, .undef, .undef, .undef, .undef, .undef, .undef, .undef, .undef, .undef, .undef, .undef, .undef, .undef, .undef, .undef, .undef, .undef, .undef, .undef, .undef, .undef, .undef, .undef, .undef], seg := [(21, .cells [strsV ts, fmsV fs, sgsV ss, arr8 (groupsT fs.length (pickS ss m.testBit) t), arr8 (meetM (stN fs) fs.length)])], up := [] } : St S))) (fun a : Nat => (a ≤ fs.length)) (fun a : Nat => (fs.length - a)) () ?_ 0 (Nat.zero_le _)
      intro a ha Z3 hZ3
      conv => whnf
      refine bcase_iff.2 ⟨fun h14 => ?_, fun h14 => ?_⟩
      · skip
        have hlta : a < fs.length := by have := of_decide_eq_true h14; omega
        have hwa : IntKind.i64.wrap ((a : Int) + 1) = ((a + 1 : Nat) : Int) := wrap_nat (by omega)
        conv => whnf
        refine ⟨by omega, ?_⟩
        conv => whnf
        refine bcase_iff.2 ⟨fun h16 => ?_, fun h16 => ?_⟩
        · skip
          have h16 : (typeM (pickU ss m.testBit ss.length) t).testBit a = true := by rw [← bitN (lt63 hset) (show a < 64 by omega)]; exact h16
          have hga2 : (groupsT fs.length (pickS ss m.testBit) t).getD a 0 < 2 ^ 8 := by rw [getD_at (by rw [hgl]; omega)]; exact hgr t _ (List.getElem_mem _)
          conv => whnf
          refine ⟨by omega, by omega, ?_⟩
          conv => whnf
          refine ⟨_, getI_natsD (by rw [hgl]; omega), ?_⟩
          -- Z14:TT
          conv => whnf
          refine ⟨⟨865535553385270304, [], []⟩, ?_⟩
          conv => whnf
          rw [or_nat (lt63 (hal a)) (lt63 hga2), hwa]
          have := hZ3 (a + 1) hlta (by omega)
          rw [allM_succ, if_pos h16] at this
          exact this
        · skip
          have h16 : (typeM (pickU ss m.testBit ss.length) t).testBit a = false := by rw [← bitN (lt63 hset) (show a < 64 by omega)]; exact h16
          -- Z14:TF
          conv => whnf
          refine ⟨⟨865535553385270304, [], []⟩, ?_⟩
          conv => whnf
          rw [hwa]
          have := hZ3 (a + 1) hlta (by omega)
          rw [allM_succ, h16, if_neg (by simp)] at this
          exact this
      · skip
        have hga : a = fs.length := by have := of_decide_eq_false h14; omega
        subst hga
        conv => whnf
        refine ⟨⟨7253554918532199978372128, [], []⟩, ?_⟩
        refine LoopW_ind _ (fun s9 : List Nat × Nat => match s9 with | (ys, b) => (({ tmps := [.undef, .undef, .undef, .undef, .undef, .own 21 [], .undef, .undef, .undef, .undef, vI (typeM (pickU ss m.testBit ss.length) t), vI (allM fs.length (groupsT fs.length (pickS ss m.testBit) t) (typeM (pickU ss m.testBit ss.length) t)), .undef, .undef, .undef, .undef, .undef, .undef, .undef, .undef, .undef, .undef, .undef, .undef, .undef, .undef, .undef, .undef, .undef, .undef, .undef, .undef, .undef, .undef, .undef, .undef, .undef, .undef, .undef, .undef, .undef, .undef, .undef, .undef, .undef, .undef, .undef, .undef, .agg [arr6 (typesN ss m.testBit ss.length)], vI t, .undef, .undef, .undef, .undef, .undef, .undef, .undef, .undef, .undef, .undef, .undef, .undef, .undef, .undef, .undef, .undef, .undef, .undef, .undef, .undef, .undef, .undef, .undef, .undef, .undef, .undef, .undef, .undef, .undef, .undef, .undef, vI fs.length, vI b, .undef, .undef, .undef, .undef, .undef, .undef, .undef, .undef, .undef, .undef, .undef, .undef, .undef, .undef, .undef, .undef, .undef, .undef, .undef, .undef], seg := [(21, .cells [strsV ts, fmsV fs, sgsV ss, arr8 (ys), arr8 (meetM (stN fs) fs.length)])], up := [] } : St S))) (fun s9 : List Nat × Nat => match s9 with | (ys, b) => (ys = joinU fs.length (groupsT fs.length (pickS ss m.testBit) t) (typeM (pickU ss m.testBit ss.length) t) b ∧ b ≤ fs.length)) (fun s9 : List Nat × Nat => match s9 with | (ys, b) => (fs.length - b)) () ?_ (_, 0) ⟨(joinU_zero _ _ _).symm, Nat.zero_le _⟩
        rintro ⟨ys, b⟩ hinv Z4 hZ4
        dsimp only at hinv hZ4
        obtain ⟨rfl, hb⟩ := hinv
        conv => whnf
        refine bcase_iff.2 ⟨fun h20 => ?_, fun h20 => ?_⟩
        · skip
          have hltb : b < fs.length := by have := of_decide_eq_true h20; omega
          have hwb : IntKind.i64.wrap ((b : Int) + 1) = ((b + 1 : Nat) : Int) := wrap_nat (by omega)
          conv => whnf
          refine bcase_iff.2 ⟨fun g22_2 => ?_, fun g22_2 => ?_⟩
          · skip
            have g22_2 : (typeM (pickU ss m.testBit ss.length) t != 0) = true := by rw [← nz]; exact g22_2
            conv => whnf
            refine ⟨by omega, ?_⟩
            conv => whnf
            refine bcase_iff.2 ⟨fun h22 => ?_, fun h22 => ?_⟩
            · skip
              have h22 : (allM fs.length (groupsT fs.length (pickS ss m.testBit) t) (typeM (pickU ss m.testBit ss.length) t)).testBit b = true := by rw [← bitN (lt63 (hal fs.length)) (show b < 64 by omega)]; exact h22
              conv => whnf
              refine ⟨by omega, by omega, ?_⟩
              conv => whnf
              refine ⟨_, getI_natsD (by rw [joinU_len, hgl]; omega), _, rfl, ?_⟩
              -- Z20:TTT
              conv => whnf
              refine ⟨⟨7253554918532199978372128, [], []⟩, ?_⟩
              conv => whnf
              rw [nats_set, hwb]
              exact hZ4 (_, b + 1) ⟨joinU_T hltb (by simpa using g22_2) h22, hltb⟩ (by dsimp only; omega)
            · skip
              have h22 : (allM fs.length (groupsT fs.length (pickS ss m.testBit) t) (typeM (pickU ss m.testBit ss.length) t)).testBit b = false := by rw [← bitN (lt63 (hal fs.length)) (show b < 64 by omega)]; exact h22
              -- Z20:TTF
              conv => whnf
              refine ⟨⟨7253554918532199978372128, [], []⟩, ?_⟩
              conv => whnf
              rw [hwb]
              exact hZ4 (_, b + 1) ⟨joinU_F (by rw [h22, Bool.and_false]), hltb⟩ (by dsimp only; omega)
          · skip
            have g22_2 : (typeM (pickU ss m.testBit ss.length) t != 0) = false := by rw [← nz]; exact g22_2
            -- Z20:TF
            conv => whnf
            refine ⟨⟨7253554918532199978372128, [], []⟩, ?_⟩
            conv => whnf
            rw [hwb]
            exact hZ4 (_, b + 1) ⟨joinU_F (by rw [g22_2, Bool.false_and]), hltb⟩ (by dsimp only; omega)
        · skip
          have hgb : b = fs.length := by have := of_decide_eq_false h20; omega
          subst hgb
          -- Z10:TFF
          conv => whnf
          refine ⟨⟨844424930132000, [], []⟩, ?_⟩
          conv => whnf
          rw [hwt, joinU_full, show typeM (pickU ss m.testBit ss.length) t = typeM (pickS ss m.testBit) t from rfl, ← groupsT_succ]
          exact hZ2 (t + 1) hlt6 (by omega)
    · skip
      have hgt : t = 6 := by have := of_decide_eq_false h10; omega
      conv => whnf
      refine (hQ2 _ _ _).mpr ?_
      -- R:FF
      conv => whnf
      rw [hgt]

theorem op80 : Opens PR 80 := ⟨_, Tryd.func80, rfl, rfl⟩

end Go.Ab.SkF

namespace Go.Ab.SkF
open Go Go.Ab Go.Ab.Pln Go.Proofs
set_option maxHeartbeats 1000000
set_option maxRecDepth 100000

/-- How long lists and names are, at most. -/
structure LensJ (ts : List ByteArray) (fs : Fms) (ss : Sgs) : Prop where
  t : ts.length ≤ 9223372036854775807
  f : fs.length ≤ 9223372036854775807
  s : ss.length ≤ 9223372036854775807
  tn : ∀ x ∈ ts, x.size ≤ 9223372036854775807
  fn : ∀ x ∈ fs, x.1.size ≤ 9223372036854775807
theorem LensJ.l {ts : List ByteArray} {fs : Fms} {ss : Sgs} (h : LensJ ts fs ss) : ts.length ≤ 9223372036854775807 ∧ fs.length ≤ 9223372036854775807 ∧ ss.length ≤ 9223372036854775807 := ⟨h.t, h.f, h.s⟩

/-- A job that is looked at. -/
abbrev jobL (ts : List ByteArray) (fs : Fms) (ss : Sgs) : List (AV S) := [strsV ts, fmsV fs, sgsV ss, arr8 (groupsM fs.length ss), arr8 (meetM (stN fs) fs.length)]
theorem mask_all {n : Nat} (h : n ≤ 60) : IntKind.i64.wrap (shlI .i64 1 (n : Int) - 1) = ((2 ^ n - 1 : Nat) : Int) := by
  have h1 : 2 ^ n < 2 ^ 63 := Nat.pow_lt_pow_right (by omega) (by omega)
  have h2 : 0 < 2 ^ n := Nat.two_pow_pos _
  rw [shl_one (by omega), show ((2 ^ n : Nat) : Int) - 1 = ((2 ^ n - 1 : Nat) : Int) by omega, wrap_lt (by omega)]
theorem mask_bit {n i : Nat} (h : i < n) : (2 ^ n - 1).testBit i = true := by simp [Nat.testBit_two_pow_sub_one, h]
theorem mask_lt {n : Nat} (h : n ≤ 60) : 2 ^ n - 1 < 2 ^ 63 := by
  have h1 : 2 ^ n < 2 ^ 63 := Nat.pow_lt_pow_right (by omega) (by omega)
  omega
theorem look_all (ts : List ByteArray) (fs : Fms) (ss : Sgs) : lookC ts fs ss (2 ^ ss.length - 1).testBit = jobL ts fs ss := by
  have h : pickS ss (2 ^ ss.length - 1).testBit = ss := pick_all (fun i hi => mask_bit hi)
  exact congrArg (fun l => [strsV ts, fmsV fs, sgsV ss, arr8 (groupsM fs.length l), arr8 (meetM (stN fs) fs.length)]) h
/-- All sightings. -/
theorem c80a (gl : Gl) (ts : List ByteArray) (fs : Fms) (ss : Sgs) (h8 : fs.length ≤ 8) (hs : SsOk fs.length 6 ss) (hsl : ss.length ≤ 60) :
    PCalls PR gl 80 [jobV ts fs ss, vI (IntKind.i64.wrap (shlI .i64 1 (ss.length : Int) - 1))] fun r => r = .ref (jobL ts fs ss) := by
  have h := c80 gl ts fs ss h8 hs hsl (2 ^ ss.length - 1) (mask_lt hsl)
  rw [look_all] at h
  rw [mask_all hsl]
  exact h

/-- What open returns. -/
def openV (ts : List ByteArray) (fs : Fms) (ss : Sgs) : AV S := if chE ts fs ss = 0 then .tup [.ref (jobL ts fs ss), vI 0] else .tup [.nilp, vI (chE ts fs ss)]
theorem openV_ok {ts : List ByteArray} {fs : Fms} {ss : Sgs} (h : chE ts fs ss = 0) : openV ts fs ss = .tup [.ref (jobL ts fs ss), vI 0] := by unfold openV; rw [if_pos h]
theorem openV_no {ts : List ByteArray} {fs : Fms} {ss : Sgs} (h : chE ts fs ss ≠ 0) : openV ts fs ss = .tup [.nilp, vI (chE ts fs ss)] := by unfold openV; rw [if_neg h]

theorem groups_len (fs : Fms) (ss : Sgs) : (groupsM fs.length ss).length = 8 := groupsT_len _ _ _
theorem groups_lt {fs : Fms} {ss : Sgs} (h8 : fs.length ≤ 8) (hs : SsOk fs.length 6 ss) {i : Nat} (h : i < 8) : (groupsM fs.length ss).getD i 0 < 2 ^ 8 := by
  rw [getD_at (by rw [groups_len]; exact h)]
  exact groupsT_lt (T0 := 6) (fun s hsm => by have := hs.f s hsm; omega) 6 _ (List.getElem_mem _)
theorem meetM_len (R : Rel) (n : Nat) : (meetM R n).length = 8 := by simp [meetM]
theorem meetM_get {R : Rel} {n i : Nat} (hn : n ≤ 8) (h : i < n) : (meetM R n).getD i 0 = bitsO ((List.range n).filter (R i)) := by
  simp [meetM, List.getD_eq_getElem?_getD, h, show i < 8 by omega]
theorem meetM_lt {R : Rel} {n i : Nat} (hn : n ≤ 8) (h : i < n) : (meetM R n).getD i 0 < 2 ^ 8 := by rw [meetM_get hn h]; exact bits_lt8 hn _
theorem meet_bit {R : Rel} {n i k : Nat} (hn : n ≤ 8) (h : i < n) : ((meetM R n).getD i 0).testBit k = (decide (k < n) && R i k) := by
  rw [meetM_get hn h, bitsO_test, Bool.eq_iff_iff, List.contains_iff_mem, List.mem_filter, List.mem_range]; simp

/-- The least bit. -/
theorem ctz_spec {a : Nat} (h0 : a ≠ 0) (hl : a < 2 ^ 64) : a.testBit (Lib.ctz 64 a) = true ∧ ∀ j, j < Lib.ctz 64 a → a.testBit j = false := by
  obtain ⟨m, hm, hk⟩ := Lib.ctzFrom_spec 64 a (by omega) hl
  have hc : Lib.ctz 64 a = Lib.ctzFrom 64 a := by unfold Lib.ctz; rw [if_neg h0]
  rw [hc]
  generalize Lib.ctzFrom 64 a = k at hm hk
  rw [hm]
  refine ⟨?_, fun j hj => ?_⟩
  · rw [low_test, if_neg (by omega), Nat.sub_self, Nat.testBit_zero]; simp
  · rw [low_test, if_pos hj]
theorem max_if (a b : Int) : (if b > a then b else a) = max a b := by split <;> omega
theorem min_if (a b : Int) : (if b < a then b else a) = min a b := by split <;> omega
theorem lt64 {a : Nat} (h : a < 2 ^ 8) : a < 2 ^ 64 := Nat.lt_of_lt_of_le h (by decide)
theorem ctz_lab {fs : Fms} {ss : Sgs} (h8 : fs.length ≤ 8) (hs : SsOk fs.length 6 ss) {i : Nat} (h : i < fs.length) : Lib.ctz 64 ((groupsM fs.length ss).getD i 0) = lab fs.length ss i := by
  have hi : ((groupsM fs.length ss).getD i 0).testBit i = true := (grp_iff h8 hs (by omega) i).2 (.refl i)
  have hlt := groups_lt h8 hs (show i < 8 by omega)
  have hne : (groupsM fs.length ss).getD i 0 ≠ 0 := fun e => by rw [e] at hi; simp at hi
  obtain ⟨h1, h2⟩ := ctz_spec hne (lt64 hlt)
  have hc : conn ss i (Lib.ctz 64 ((groupsM fs.length ss).getD i 0)) := (grp_iff h8 hs (by omega) _).1 h1
  obtain ⟨g1, g2⟩ := lab_spec h8 hs h
  refine Nat.le_antisymm ?_ (g2 _ hc)
  apply Classical.byContradiction
  intro hh
  have := h2 (lab fs.length ss i) (by omega)
  have h3 : ((groupsM fs.length ss).getD i 0).testBit (lab fs.length ss i) = true := (grp_iff h8 hs (by omega) _).2 g1
  rw [h3] at this; cases this
theorem conv_u64 {a : Nat} (h : a < 2 ^ 8) : IntKind.u64.wrap (a : Int) = (a : Int) := by
  rw [IntKind.wrap_u64]
  have : (2 : Nat) ^ 8 = 256 := rfl
  omega
theorem c72' {a : Nat} (h : a < 2 ^ 8) : PCalls PR glT 72 [.int .u64 (IntKind.u64.wrap (a : Int))] fun r => r = vI (Lib.ctz 64 a) := by
  rw [conv_u64 h]
  exact c72 a (lt64 h)

/-- A clash, as the program finds it. -/
def clashV (fs : Fms) (ss : Sgs) : AV S := match clashJ fs ss with
  | some (a, b) => .tup [vI a, vI b, vB true]
  | none => .tup [vI 0, vI 0, vB false]
theorem clash_find {fs : Fms} {ss : Sgs} (h8 : fs.length ≤ 8) (_hs : SsOk fs.length 6 ss) {i : Nat} (hi : i < fs.length) (hp : ∀ j, j < i → (groupsM fs.length ss).getD j 0 &&& (meetM (stN fs) fs.length).getD j 0 = 0)
    (hn : (groupsM fs.length ss).getD i 0 &&& (meetM (stN fs) fs.length).getD i 0 ≠ 0) : clashJ fs ss = some (i, Lib.ctz 64 ((groupsM fs.length ss).getD i 0 &&& (meetM (stN fs) fs.length).getD i 0)) := by
  have hlt : (groupsM fs.length ss).getD i 0 &&& (meetM (stN fs) fs.length).getD i 0 < 2 ^ 8 := Nat.and_lt_two_pow _ (meetM_lt h8 hi)
  obtain ⟨h1, h2⟩ := ctz_spec hn (lt64 hlt)
  rw [Nat.testBit_and, Bool.and_eq_true, meet_bit h8 hi, Bool.and_eq_true, decide_eq_true_eq] at h1
  refine clash_at hi h1.2.1 h1.1 h1.2.2 (fun a b ha hb hg hm => ?_) fun b hb hg hm => ?_
  · have h3 : ((groupsM fs.length ss).getD a 0 &&& (meetM (stN fs) fs.length).getD a 0).testBit b = true := by
      rw [Nat.testBit_and, meet_bit h8 (by omega)]
      have hg : ((groupsM fs.length ss).getD a 0).testBit b = true := hg
      rw [hg, hm]; simpa using hb
    rw [hp a ha] at h3; simp at h3
  · have h3 := h2 b hb
    rw [Nat.testBit_and, meet_bit h8 hi] at h3
    have hg : ((groupsM fs.length ss).getD i 0).testBit b = true := hg
    rw [hg, hm] at h3
    have hbn : b < fs.length := by have := h1.2.1; omega
    simp [hbn] at h3
theorem clash_no {fs : Fms} {ss : Sgs} (h8 : fs.length ≤ 8) (hp : ∀ j, j < fs.length → (groupsM fs.length ss).getD j 0 &&& (meetM (stN fs) fs.length).getD j 0 = 0) : clashJ fs ss = none := by
  unfold clashJ
  rw [clash_none]
  intro i k hi hk hg hm
  have h3 : ((groupsM fs.length ss).getD i 0 &&& (meetM (stN fs) fs.length).getD i 0).testBit k = true := by
    rw [Nat.testBit_and, meet_bit h8 hi]
    have hg : ((groupsM fs.length ss).getD i 0).testBit k = true := hg
    rw [hg, hm]; simpa using hk
  rw [hp i hi] at h3; simp at h3

theorem c71 (gl : Gl) (ts : List ByteArray) (fs : List Fm) (ss : List Sg) (hL : LensJ ts fs ss) : PCalls PR gl 71 [.agg [strsV ts, fmsV fs, sgsV ss]] fun r => r = openV ts fs ss := by
  refine fnW_sound (par_ok gl) Tryd.func71 ?_
  conv => whnf
  refine byC (c16 gl ts fs ss hL.l) op16 ?_
  conv => whnf
  refine bcase_iff.2 ⟨fun h2 => ?_, fun h2 => ?_⟩
  · skip
    have h2 : chE ts fs ss ≠ 0 := by have h2 : ((chk ts fs ss).2.2 != 0) = true := h2; simpa using h2
    -- R:T
    conv => whnf
    rw [openV_no h2]
  · skip
    have h2 : chE ts fs ss = 0 := by have h2 : ((chk ts fs ss).2.2 != 0) = false := h2; simpa using h2
    have hv := (chk_valid.1 h2).job
    have hv12 := (chk_valid.1 h2).s12
    conv => whnf
    refine ⟨[0, 1, 2, 3, 4, 5, 6, 7, 8], [], [], [], ⟨8388607, [], []⟩, by decide +kernel, ?_⟩
    conv => whnf
    refine ⟨by omega, ?_⟩
    conv => whnf
    refine byC (c80a gl ts fs ss hv.n8 hv.s6 (by omega)) op80 ?_
    -- R:F
    conv => whnf
    rw [openV_ok h2]

theorem op71 : Opens PR 71 := ⟨_, Tryd.func71, rfl, rfl⟩

theorem c18 (ts : List ByteArray) (fs : List Fm) (ss : List Sg) (hL : LensJ ts fs ss) : PCalls PR glT 18 [.agg [strsV ts, fmsV fs, sgsV ss]] fun r => r = .tup [vL (groupsS ts fs ss).1, vI (groupsS ts fs ss).2] := by
  refine fnW_sound (par_ok glT) Tryd.func18 ?_
  conv => whnf
  refine byC (c71 glT ts fs ss hL) op71 ?_
  rcases Classical.em (chE ts fs ss = 0) with hk | hk
  · skip
    rw [openV_ok hk]
    have hv := (chk_valid.1 hk).job
    have h8 := hv.n8
    have hs6 := hv.s6
    have hR : groupsS ts fs ss = (natsV ((List.range fs.length).map (lab fs.length ss)), 0) := by unfold groupsS; rw [if_neg (fun h => h hk)]
    conv => whnf
    refine ⟨⟨1572884, [1], [2]⟩, ?_⟩
    refine LoopW_ind _ (fun i : Nat => (({ tmps := [.undef, .undef, .sl (S := S) U.int (natsV ((List.range i).map (lab fs.length ss))) (some 2), .undef, .ref (jobL ts fs ss), .undef, .undef, .undef, .undef, .undef, .undef, .undef, .undef, .undef, .undef, .undef, .undef, .undef, .undef, vI fs.length, vI i, .undef, .undef, .undef, .undef, .undef, .undef, .undef, .undef, .undef, .undef, .undef, .undef, .undef, .undef, .undef], seg := [(2, .row U.int false)], up := [] } : St S))) (fun i : Nat => (i ≤ fs.length)) (fun i : Nat => (fs.length - i)) () ?_ 0 (Nat.zero_le _)
    intro i hi Z1 hZ1
    conv => whnf
    refine bcase_iff.2 ⟨fun h5 => ?_, fun h5 => ?_⟩
    · skip
      have hlt : i < fs.length := by have := of_decide_eq_true h5; omega
      have hw : IntKind.i64.wrap ((i : Int) + 1) = ((i + 1 : Nat) : Int) := wrap_nat (by omega)
      conv => whnf
      refine ⟨_, getI_natsD (by rw [groups_len]; omega), ?_⟩
      conv => whnf
      refine byC (c72' (groups_lt h8 hs6 (show i < 8 by omega))) op72 ?_
      conv => whnf
      refine ⟨_, rfl, ?_⟩
      conv => whnf
      refine ⟨lim (by show (natsV ((List.range i).map (lab fs.length ss))).length + 1 ≤ _; rw [natsV_length]; simp; omega), ?_⟩
      -- Z5:T
      conv => whnf
      refine ⟨⟨1572884, [32, 33], []⟩, ?_⟩
      conv => whnf
      rw [hw, ctz_lab h8 hs6 hlt]
      have := hZ1 (i + 1) hlt (by omega)
      rw [rm_succ, show natsV ((List.range i).map (lab fs.length ss) ++ [lab fs.length ss i]) = natsV ((List.range i).map (lab fs.length ss)) ++ [((lab fs.length ss i : Nat) : Int)] by simp [natsV]] at this
      exact this
    · skip
      have hge : i = fs.length := by have := of_decide_eq_false h5; omega
      -- R:aF
      conv => whnf
      rw [hR, hge]
  · skip
    rw [openV_no hk]
    conv => whnf
    refine bcase_iff.2 ⟨fun h2 => ?_, fun h2 => ?_⟩
    · skip
      -- R:bT
      conv => whnf
      unfold groupsS
      rw [if_pos hk]
    · skip
      exfalso
      have h2 : (chE ts fs ss != 0) = false := h2
      exact hk (by simpa using h2) --done

theorem op18 : Opens PR 18 := ⟨_, Tryd.func18, rfl, rfl⟩

theorem c74g (ts : List ByteArray) (fs : List Fm) (ss : List Sg) (sx : List Sg) (h8 : fs.length ≤ 8) (hs : SsOk fs.length 6 ss) : PCalls PR glT 74 [.ref [strsV ts, fmsV fs, sgsV sx, arr8 (groupsM fs.length ss), arr8 (meetM (stN fs) fs.length)]] fun r => r = clashV fs ss := by
  refine fnW_sound (par_ok glT) Tryd.func74 ?_
  conv => whnf
  refine ⟨⟨12289, [], []⟩, ?_⟩
  refine LoopW_ind _ (fun i : Nat => (({ tmps := [.ref [strsV ts, fmsV fs, sgsV sx, arr8 (groupsM fs.length ss), arr8 (meetM (stN fs) fs.length)], .undef, .undef, .undef, .undef, .undef, .undef, .undef, .undef, .undef, .undef, .undef, vI fs.length, vI i, .undef, .undef, .undef, .undef, .undef, .undef, .undef, .undef, .undef, .undef, .undef, .undef, .undef, .undef, .undef, .undef, .undef, .undef, .undef, .undef, .undef, .undef], seg := [], up := [] } : St S))) (fun i : Nat => (i ≤ fs.length ∧ ∀ j, j < i → (groupsM fs.length ss).getD j 0 &&& (meetM (stN fs) fs.length).getD j 0 = 0)) (fun i : Nat => (fs.length - i)) () ?_ 0 ⟨Nat.zero_le _, fun j h => absurd h (Nat.not_lt_zero j)⟩
  intro i hinv Z1 hZ1
  obtain ⟨hi, hd⟩ := hinv
  conv => whnf
  refine bcase_iff.2 ⟨fun h2 => ?_, fun h2 => ?_⟩
  · skip
    have hlt : i < fs.length := by have := of_decide_eq_true h2; omega
    have hw : IntKind.i64.wrap ((i : Int) + 1) = ((i + 1 : Nat) : Int) := wrap_nat (by omega)
    have hg8 := groups_lt h8 hs (show i < 8 by omega)
    have hm8 := meetM_lt (R := stN fs) h8 hlt
    have ha8 : (groupsM fs.length ss).getD i 0 &&& (meetM (stN fs) fs.length).getD i 0 < 2 ^ 8 := Nat.and_lt_two_pow _ hm8
    have hand := and_nat (lt63 hg8) (lt63 hm8)
    conv => whnf
    refine ⟨[0, 1, 2, 3, 4, 5, 6, 7, 8, 9, 10, 11, 12, 13], [], [], [], ⟨68719476735, [], []⟩, by decide +kernel, ?_⟩
    conv => whnf
    refine ⟨_, getI_natsD (by rw [groups_len]; omega), ?_⟩
    conv => whnf
    refine ⟨_, getI_natsD (by rw [meetM_len]; omega), ?_⟩
    conv => whnf
    refine bcase_iff.2 ⟨fun h5 => ?_, fun h5 => ?_⟩
    · skip
      have h5 : (groupsM fs.length ss).getD i 0 &&& (meetM (stN fs) fs.length).getD i 0 ≠ 0 := by
        have h5 : (bitsI .and .i64 (((groupsM fs.length ss).getD i 0 : Nat) : Int) (((meetM (stN fs) fs.length).getD i 0 : Nat) : Int) != 0) = true := h5
        rw [hand] at h5
        intro e; rw [e] at h5; cases h5
      have hC := clash_find h8 hs hlt hd h5
      conv => whnf
      refine byC (by have := c72' ha8; rw [← hand] at this; exact this) op72 ?_
      -- R:TT
      conv => whnf
      unfold clashV
      rw [hC]
    · skip
      have h5 : (groupsM fs.length ss).getD i 0 &&& (meetM (stN fs) fs.length).getD i 0 = 0 := by
        have h5 : (bitsI .and .i64 (((groupsM fs.length ss).getD i 0 : Nat) : Int) (((meetM (stN fs) fs.length).getD i 0 : Nat) : Int) != 0) = false := h5
        rw [hand] at h5
        simpa using h5
      -- Z2:TF
      conv => whnf
      refine ⟨⟨12289, [], []⟩, ?_⟩
      conv => whnf
      rw [hw]
      exact hZ1 (i + 1) ⟨hlt, up_succ hd h5⟩ (by omega)
  · skip
    have hge : i = fs.length := by have := of_decide_eq_false h2; omega
    -- R:F
    conv => whnf
    unfold clashV
    rw [clash_no h8 (by rw [hge] at hd; exact hd)]

theorem op74 : Opens PR 74 := ⟨_, Tryd.func74, rfl, rfl⟩

theorem c74 (ts : List ByteArray) (fs : List Fm) (ss : List Sg) (h8 : fs.length ≤ 8) (hs : SsOk fs.length 6 ss) : PCalls PR glT 74 [.ref (jobL ts fs ss)] fun r => r = clashV fs ss := c74g ts fs ss ss h8 hs

theorem c21 (ts : List ByteArray) (fs : List Fm) (ss : List Sg) (hL : LensJ ts fs ss) : PCalls PR glT 21 [.agg [strsV ts, fmsV fs, sgsV ss]] fun r => r = .tup [vI (clashR ts fs ss).1, vI (clashR ts fs ss).2.1, vI (clashR ts fs ss).2.2] := by
  refine fnW_sound (par_ok glT) Tryd.func21 ?_
  conv => whnf
  refine byC (c71 glT ts fs ss hL) op71 ?_
  rcases Classical.em (chE ts fs ss = 0) with hk | hk
  · skip
    rw [openV_ok hk]
    have hv := (chk_valid.1 hk).job
    have h8 := hv.n8
    have hs6 := hv.s6
    conv => whnf
    refine byC (c74 ts fs ss h8 hs6) op74 ?_
    unfold clashV
    rcases hJ : clashJ fs ss with _ | ⟨a, b⟩
    · skip
      -- R:aa
      conv => whnf
      unfold clashR
      rw [if_neg (fun h => h hk), hJ]
    · skip
      -- R:ab
      conv => whnf
      unfold clashR
      rw [if_neg (fun h => h hk), hJ]
  · skip
    rw [openV_no hk]
    conv => whnf
    refine bcase_iff.2 ⟨fun h2 => ?_, fun h2 => ?_⟩
    · skip
      -- R:bT
      conv => whnf
      unfold clashR
      rw [if_pos hk]
    · skip
      exfalso
      have h2 : (chE ts fs ss != 0) = false := h2
      exact hk (by simpa using h2) --done

theorem op21 : Opens PR 21 := ⟨_, Tryd.func21, rfl, rfl⟩

theorem c76 (gl : Gl) (ts : List ByteArray) (fs : List Fm) (ss : List Sg) (hs : SsOk fs.length 6 ss) (_hlk : ∀ s ∈ ss, 0 ≤ s.2.2 ∧ s.2.2 ≤ 2) (hf : ∀ f ∈ fs, 0 ≤ f.2.2.1 ∧ f.2.2.1 ≤ 60) (hsl : ss.length ≤ 60) (G M : List Int) (kind : Int) (m : Nat) (hm : m < 2 ^ 63) : PCalls PR gl 76 [.ref [strsV ts, fmsV fs, sgsV ss, .arr (S := S) U.int 8 G, .arr (S := S) U.int 8 M], vI kind, vI m] fun r => r = .agg [vI (crackS fs (pickS ss m.testBit) kind).1, vI (crackS fs (pickS ss m.testBit) kind).2] := by
  refine fnW_sound (par_ok gl) Tryd.func76 ?_
  conv => whnf
  refine ⟨⟨229575, [], []⟩, ?_⟩
  refine LoopW_ind _ (fun i : Nat => (({ tmps := [.ref [strsV ts, fmsV fs, sgsV ss, .arr (S := S) U.int 8 G, .arr (S := S) U.int 8 M], vI kind, vI m, .undef, .undef, .undef, .own 6 [], .own 7 [], .undef, .undef, .undef, .undef, .undef, .undef, .undef, sgsV ss, vI ss.length, vI i, .undef, .undef, .undef, .undef, .undef, .undef, .undef, .undef, .undef, .undef, .undef, .undef, .undef, .undef, .undef, .undef, .undef, .undef, .undef, .undef, .undef, .undef, .undef, .undef, .undef, .undef, .undef, .undef, .undef, .undef, .undef, .undef, .undef, .undef, .undef, .undef, .undef, .undef, .undef, .undef, .undef, .undef, .undef, .undef, .undef, .undef, .undef, .undef, .undef, .undef, .undef, .undef], seg := [(6, .cells [vI 0, vI 0]), (7, .cells [vI (crackS fs (pickU ss m.testBit i) kind).1, vI (crackS fs (pickU ss m.testBit i) kind).2])], up := [] } : St S))) (fun i : Nat => (i ≤ ss.length)) (fun i : Nat => (ss.length - i)) () ?_ 0 (Nat.zero_le _)
  intro i hi Z1 hZ1
  conv => whnf
  refine bcase_iff.2 ⟨fun h3 => ?_, fun h3 => ?_⟩
  · skip
    have hlt : i < ss.length := by have := of_decide_eq_true h3; omega
    have hw : IntKind.i64.wrap ((i : Int) + 1) = ((i + 1 : Nat) : Int) := wrap_nat (by omega)
    have hsf := hs.f _ (List.getElem_mem hlt)
    obtain ⟨f, hf1⟩ : ∃ f : Nat, ss[i].1 = (f : Int) := ⟨ss[i].1.toNat, by omega⟩
    have hfl : f < fs.length := by omega
    have hfo := hf _ (List.getElem_mem hfl)
    have hgf : getI fs ss[i].1 = some fs[f] := by rw [hf1]; exact getI_nat hfl
    have hgd : fs.getD ss[i].1.toNat f0 = fs[f] := by rw [hf1, Int.toNat_natCast, getD_at hfl]
    have hwo : IntKind.i64.wrap (fs[f].2.2.1 + 1) = fs[f].2.2.1 + 1 := wrap_int (by omega) (by omega)
    have hsN : m.testBit i = false → crackS fs (pickU ss m.testBit (i + 1)) kind = crackS fs (pickU ss m.testBit i) kind := fun h => by rw [pickU_succ, h, if_neg (by simp), List.append_nil]
    have hsY : m.testBit i = true → crackS fs (pickU ss m.testBit (i + 1)) kind = crackStep fs kind (crackS fs (pickU ss m.testBit i) kind) ss[i] := fun h => by rw [pickU_succ, h, if_pos rfl, getD_at hlt]; unfold crackS; rw [List.foldl_append]; rfl
    conv => whnf
    refine ⟨_, getI_nat hlt, ?_⟩
    conv => whnf
    refine bcase_iff.2 ⟨fun g5_4 => ?_, fun g5_4 => ?_⟩
    · skip
      have hk : ss[i].2.1 ≠ kind := by have g5_4 : (ss[i].2.1 != kind) = true := g5_4; simpa using g5_4
      have hst : crackS fs (pickU ss m.testBit (i + 1)) kind = crackS fs (pickU ss m.testBit i) kind := by
        cases hb : m.testBit i with
        | false => exact hsN hb
        | true => rw [hsY hb]; unfold crackStep; rw [if_pos hk]
      -- Z3:TT
      conv => whnf
      refine ⟨⟨229575, [9, 1009, 2009, 3009, 4009], []⟩, ?_⟩
      conv => whnf
      rw [hw, ← hst]
      exact hZ1 (i + 1) hlt (by omega)
    · skip
      have hk : ss[i].2.1 = kind := by have g5_4 : (ss[i].2.1 != kind) = false := g5_4; simpa using g5_4
      conv => whnf
      refine ⟨by omega, ?_⟩
      conv => whnf
      refine bcase_iff.2 ⟨fun h5 => ?_, fun h5 => ?_⟩
      · skip
        have h5 : m.testBit i = false := by have h5 : (bitsI .and .i64 (shrI .i64 (m : Int) (i : Int)) 1 == 0) = true := h5; rw [bitZ hm (by omega)] at h5; simpa using h5
        -- Z3:TFT
        conv => whnf
        refine ⟨⟨229575, [9, 1009, 2009, 3009, 4009], []⟩, ?_⟩
        conv => whnf
        rw [hw, ← hsN h5]
        exact hZ1 (i + 1) hlt (by omega)
      · skip
        have h5 : m.testBit i = true := by have h5 : (bitsI .and .i64 (shrI .i64 (m : Int) (i : Int)) 1 == 0) = false := h5; rw [bitZ hm (by omega)] at h5; simpa using h5
        have hst := hsY h5
        unfold crackStep at hst
        rw [if_neg (fun h => h hk), hgd] at hst
        conv => whnf
        refine bcase_iff.2 ⟨fun h7 => ?_, fun h7 => ?_⟩
        · skip
          have h7 : ss[i].2.2 = 1 := by have h7 : (ss[i].2.2 == 1) = true := h7; simpa using h7
          rw [if_pos h7] at hst
          conv => whnf
          refine ⟨[0, 1, 2, 3, 4, 5, 6, 7, 8, 9, 10, 11, 12, 13, 14, 15], [], [], [], ⟨1180591620717411303423, [], []⟩, by decide +kernel, ?_⟩
          conv => whnf
          refine ⟨_, hgf, ?_⟩
          -- Z3:TFFT
          conv => whnf
          refine ⟨⟨229575, [9, 1009, 2009, 3009, 4009], []⟩, ?_⟩
          conv => whnf
          rw [hw, hwo, max_if]
          have := hZ1 (i + 1) hlt (by omega)
          rw [hst] at this
          exact this
        · skip
          have h7 : ss[i].2.2 ≠ 1 := by have h7 : (ss[i].2.2 == 1) = false := h7; simpa using h7
          rw [if_neg h7] at hst
          conv => whnf
          refine bcase_iff.2 ⟨fun h9 => ?_, fun h9 => ?_⟩
          · skip
            have h9 : ss[i].2.2 = 2 := by have h9 : (ss[i].2.2 == 2) = true := h9; simpa using h9
            rw [if_pos h9] at hst
            conv => whnf
            refine ⟨[0, 1, 2, 3, 4, 5, 6, 7, 8, 9, 10, 11, 12, 13, 14], [], [], [], ⟨1180591620717411303423, [], []⟩, by decide +kernel, ?_⟩
            conv => whnf
            refine ⟨_, hgf, ?_⟩
            -- Z3:TFFFT
            conv => whnf
            refine ⟨⟨229575, [9, 1009, 2009, 3009, 4009], []⟩, ?_⟩
            conv => whnf
            rw [hw, min_if]
            have := hZ1 (i + 1) hlt (by omega)
            rw [hst] at this
            exact this
          · skip
            have h9 : ss[i].2.2 ≠ 2 := by have h9 : (ss[i].2.2 == 2) = false := h9; simpa using h9
            rw [if_neg h9] at hst
            -- Z3:TFFFF
            conv => whnf
            refine ⟨⟨229575, [9, 1009, 2009, 3009, 4009], []⟩, ?_⟩
            conv => whnf
            rw [hw]
            have := hZ1 (i + 1) hlt (by omega)
            rw [hst] at this
            exact this
  · skip
    have hge : i = ss.length := by have := of_decide_eq_false h3; omega
    subst hge
    -- R:F
    conv => whnf

theorem op76 : Opens PR 76 := ⟨_, Tryd.func76, rfl, rfl⟩

end Go.Ab.SkF

namespace Go.Ab.SkF
open Go Go.Ab Go.Ab.Pln Go.Proofs
set_option maxHeartbeats 1000000
set_option maxRecDepth 100000

/-- What enter returns. -/
def enterV (ts : List ByteArray) (fs : Fms) (ss : Sgs) : AV S := if askE ts fs ss = 0 then .tup [.ref (jobL ts fs ss), vI 0] else .tup [.nilp, vI (askE ts fs ss)]
theorem enterV_ok {ts : List ByteArray} {fs : Fms} {ss : Sgs} (h : askE ts fs ss = 0) : enterV ts fs ss = .tup [.ref (jobL ts fs ss), vI 0] := by unfold enterV; rw [if_pos h]
theorem enterV_no {ts : List ByteArray} {fs : Fms} {ss : Sgs} (h : askE ts fs ss ≠ 0) : enterV ts fs ss = .tup [.nilp, vI (askE ts fs ss)] := by unfold enterV; rw [if_neg h]
theorem ask_ch {ts : List ByteArray} {fs : Fms} {ss : Sgs} (h : askE ts fs ss = 0) : chE ts fs ss = 0 := by
  unfold askE at h
  split at h
  · exact absurd h (by assumption)
  · rename_i h'; exact Classical.byContradiction h'
theorem ask_clash {ts : List ByteArray} {fs : Fms} {ss : Sgs} (h : askE ts fs ss = 0) : clashJ fs ss = none := by
  have hc := ask_ch h
  unfold askE at h
  rw [if_neg (fun h' => h' hc)] at h
  cases hJ : clashJ fs ss with
  | none => rfl
  | some p => rw [hJ] at h; simp at h
theorem ask_valid {ts : List ByteArray} {fs : Fms} {ss : Sgs} (h : askE ts fs ss = 0) : Valid ts fs ss := chk_valid.1 (ask_ch h)

theorem c23 (gl : Gl) (ts : List ByteArray) (fs : List Fm) (ss : List Sg) (hL : LensJ ts fs ss) (t : Int) : PCalls PR gl 23 [.agg [strsV ts, fmsV fs, sgsV ss], vI t] fun r => r = .tup [.agg [vI (crackR ts fs ss t).1, vI (crackR ts fs ss t).2.1], vI (crackR ts fs ss t).2.2] := by
  refine fnW_sound (par_ok gl) Tryd.func23 ?_
  conv => whnf
  refine byC (c71 gl ts fs ss hL) op71 ?_
  rcases Classical.em (chE ts fs ss = 0) with hk | hk
  · skip
    rw [openV_ok hk]
    have hV := chk_valid.1 hk
    have hv12 := hV.s12
    have hv := (chk_valid.1 hk).job
    have h8 := hv.n8
    have hs6 := hv.s6
    have hm := mask_lt (n := ss.length) (by omega)
    have hpk : pickS ss (2 ^ ss.length - 1).testBit = ss := pick_all fun i hi => mask_bit hi
    have h6 : (ts.length : Int) ≤ 6 := by have := hv.t6; omega
    have hwr : IntKind.i64.wrap ((ts.length : Int) - 1) = (ts.length : Int) - 1 := wrap_int (by omega) (by omega)
    have h76 := c76 gl ts fs ss hs6 (fun s hs => by obtain ⟨i, hi, e⟩ := List.getElem_of_mem hs; have := hV.sight hi; rw [← e]; omega) (fun f hf => by obtain ⟨i, hi, e⟩ := List.getElem_of_mem hf; have := hV.forme hi; rw [← e]; omega) (by omega) (natsV (groupsM fs.length ss)) (natsV (meetM (stN fs) fs.length)) t (2 ^ ss.length - 1) hm
    rw [hpk, ← mask_all (by omega)] at h76
    conv => whnf
    refine ⟨_, rfl, ?_⟩
    conv => whnf
    refine byC (c60 gl [t] (by simp) 0 _) op60 ?_
    conv => whnf
    refine bcase_iff.2 ⟨fun h4 => ?_, fun h4 => ?_⟩
    · skip
      rw [hwr] at h4
      have h4 : [t].any (outB 0 ((ts.length : Int) - 1)) = true := h4
      -- R:aT
      conv => whnf
      unfold crackR
      rw [if_neg (fun h => h hk), if_pos h4]
    · skip
      rw [hwr] at h4
      have h4 : ¬ [t].any (outB 0 ((ts.length : Int) - 1)) = true := fun h => by rw [h] at h4; cases h4
      conv => whnf
      refine ⟨by omega, ?_⟩
      conv => whnf
      refine byC h76 op76 ?_
      conv => whnf
      refine bcase_iff.2 ⟨fun h7 => ?_, fun h7 => ?_⟩
      · skip
        have h7 : (crackS fs ss t).1 > (crackS fs ss t).2 := of_decide_eq_true h7
        -- R:aFT
        conv => whnf
        unfold crackR
        rw [if_neg (fun h => h hk), if_neg h4, if_pos h7]
      · skip
        have h7 : ¬ (crackS fs ss t).1 > (crackS fs ss t).2 := of_decide_eq_false h7
        -- R:aFF
        conv => whnf
        unfold crackR
        rw [if_neg (fun h => h hk), if_neg h4, if_neg h7]
  · skip
    rw [openV_no hk]
    conv => whnf
    refine bcase_iff.2 ⟨fun h2 => ?_, fun h2 => ?_⟩
    · skip
      -- R:bT
      conv => whnf
      unfold crackR
      rw [if_pos hk]
    · skip
      exfalso
      have h2 : (chE ts fs ss != 0) = false := h2
      exact hk (by simpa using h2) --done

theorem op23 : Opens PR 23 := ⟨_, Tryd.func23, rfl, rfl⟩

theorem c83 (ts : List ByteArray) (fs : List Fm) (ss : List Sg) (hL : LensJ ts fs ss) : PCalls PR glT 83 [.agg [strsV ts, fmsV fs, sgsV ss]] fun r => r = enterV ts fs ss := by
  refine fnW_sound (par_ok glT) Tryd.func83 ?_
  conv => whnf
  refine byC (c71 glT ts fs ss hL) op71 ?_
  rcases Classical.em (chE ts fs ss = 0) with hk | hk
  · skip
    rw [openV_ok hk]
    have hv := (chk_valid.1 hk).job
    have h8 := hv.n8
    have hs6 := hv.s6
    conv => whnf
    refine byC (c74 ts fs ss h8 hs6) op74 ?_
    unfold clashV
    rcases hJ : clashJ fs ss with _ | ⟨a, b⟩
    · skip
      have he : askE ts fs ss = 0 := by unfold askE; rw [if_neg (fun h => h hk), hJ]; rfl
      -- R:aa
      conv => whnf
      rw [enterV_ok he]
    · skip
      have he : askE ts fs ss = 9 := by unfold askE; rw [if_neg (fun h => h hk), hJ]; rfl
      -- R:ab
      conv => whnf
      rw [enterV_no (by rw [he]; decide), he]
  · skip
    rw [openV_no hk]
    conv => whnf
    refine bcase_iff.2 ⟨fun h2 => ?_, fun h2 => ?_⟩
    · skip
      -- R:bT
      conv => whnf
      have he : askE ts fs ss = chE ts fs ss := by unfold askE; rw [if_pos hk]
      rw [enterV_no (by rw [he]; exact hk), he]
    · skip
      exfalso
      have h2 : (chE ts fs ss != 0) = false := h2
      exact hk (by simpa using h2) --done

theorem op83 : Opens PR 83 := ⟨_, Tryd.func83, rfl, rfl⟩

theorem c85 (gl : Gl) (xs : List Int) (hx : xs ≠ []) (hl : xs.length ≤ 100000) : PCalls PR gl 85 [vL xs] fun r => r = vL xs := by
  refine fnW_sound (par_ok gl) Tryd.func85 ?_
  conv => whnf
  refine ⟨hx, ?_⟩
  conv => whnf
  refine ⟨lim (show xs.length ≤ 1000000000 by omega), false, ?_⟩
  -- R:
  conv => whnf

theorem op85 : Opens PR 85 := ⟨_, Tryd.func85, rfl, rfl⟩

end Go.Ab.SkF
