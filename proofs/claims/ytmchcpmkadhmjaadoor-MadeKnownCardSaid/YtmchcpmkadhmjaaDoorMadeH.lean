/-
  THE MADE FAMILY, PART YA: what the laws look at: the set and the hand.
  THE MADE FAMILY, PART YB: Awake.
-/
import Derived.Test.YtmchcpmkadhmjaaDoorMadeG
namespace Go.Ab.MkF
open Go Go.Ab Go.Ab.Pln Go.Proofs
set_option maxHeartbeats 1000000
set_option maxRecDepth 100000

def exL : List Lf := [(⟨#[97]⟩, 1, 300), (⟨#[98]⟩, 0, 100), (⟨#[99]⟩, 3, 100), (⟨#[100]⟩, 2, 100), (⟨#[101]⟩, -1, 55)]
def exC : List Cp := [(⟨#[112]⟩, [1, 1, 0, 0, 1]), (⟨#[113]⟩, [1, 1, 1, 1, 0]), (⟨#[114]⟩, [2, 2, 2, 2, 1])]
def exH : List Sn := [(1, 201, 203), (0, 202, 204), (2, 200, 202), (1, 198, 201), (1, 203, 205)]
def exB : List (List Int) := [[0, 0, -1, -1, -1], [1, 1, 1, 1, 0], [2, 2, 2, 2, 2]]
theorem ex_lens : LensS exL exC := ⟨⟨by decide, by decide⟩, by decide⟩
theorem same_ext {a b : List (List Int)} (hl : a.length = b.length) (h : ∀ j, j < a.length → a.getD j [] = b.getD j []) : a = b := by
  apply List.ext_getElem hl
  intro j h1 h2
  have := h j h1
  rw [getD_at h1, getD_at h2] at this
  exact this

theorem c117 (gl : Gl) (s : ByteArray) (a b : Int) : PCalls PR gl 117 [.str s, vI a, vI b] fun r => r = .agg [.str s, vI a, vI b] := by
  refine fnW_sound (par_ok gl) Tryd.func117 ?_
  -- R:
  conv => whnf

theorem op117 : Opens PR 117 := ⟨_, Tryd.func117, rfl, rfl⟩

theorem c118 (gl : Gl) (s : ByteArray) (a b c d e : Int) : PCalls PR gl 118 [.str s, vI a, vI b, vI c, vI d, vI e] fun r => r = .agg [.str s, vL [a, b, c, d, e]] := by
  refine fnW_sound (par_ok gl) Tryd.func118 ?_
  conv => whnf
  refine ⟨_, rfl, ?_⟩
  conv => whnf
  refine ⟨_, rfl, ?_⟩
  conv => whnf
  refine ⟨_, rfl, ?_⟩
  conv => whnf
  refine ⟨_, rfl, ?_⟩
  conv => whnf
  refine ⟨_, rfl, ?_⟩
  -- R:
  conv => whnf

theorem op118 : Opens PR 118 := ⟨_, Tryd.func118, rfl, rfl⟩

theorem c119 (gl : Gl) (a b c : Int) : PCalls PR gl 119 [vI a, vI b, vI c] fun r => r = .agg [vI a, vI b, vI c] := by
  refine fnW_sound (par_ok gl) Tryd.func119 ?_
  -- R:
  conv => whnf

theorem op119 : Opens PR 119 := ⟨_, Tryd.func119, rfl, rfl⟩

theorem c43 (gl : Gl) : PCalls PR gl 43 [] fun r => r = .agg (setC 1000 exL exC) := by
  refine fnW_sound (par_ok gl) Tryd.func43 ?_
  conv => whnf
  refine byC (c117 gl _ _ _) op117 ?_
  conv => whnf
  refine byC (c117 gl _ _ _) op117 ?_
  conv => whnf
  refine byC (c117 gl _ _ _) op117 ?_
  conv => whnf
  refine byC (c117 gl _ _ _) op117 ?_
  conv => whnf
  refine byC (c117 gl _ _ _) op117 ?_
  conv => whnf
  refine ⟨_, rfl, ?_⟩
  conv => whnf
  refine ⟨_, rfl, ?_⟩
  conv => whnf
  refine ⟨_, rfl, ?_⟩
  conv => whnf
  refine ⟨_, rfl, ?_⟩
  conv => whnf
  refine ⟨_, rfl, ?_⟩
  conv => whnf
  refine byC (c118 gl _ _ _ _ _ _) op118 ?_
  conv => whnf
  refine byC (c118 gl _ _ _ _ _ _) op118 ?_
  conv => whnf
  refine byC (c118 gl _ _ _ _ _ _) op118 ?_
  conv => whnf
  refine ⟨_, rfl, ?_⟩
  conv => whnf
  refine ⟨_, rfl, ?_⟩
  conv => whnf
  refine ⟨_, rfl, ?_⟩
  -- R:
  conv => whnf
  rfl

theorem op43 : Opens PR 43 := ⟨_, Tryd.func43, rfl, rfl⟩

theorem c44 (gl : Gl) : PCalls PR gl 44 [] fun r => r = .agg [snsV exH] := by
  refine fnW_sound (par_ok gl) Tryd.func44 ?_
  conv => whnf
  refine byC (c119 gl _ _ _) op119 ?_
  conv => whnf
  refine byC (c119 gl _ _ _) op119 ?_
  conv => whnf
  refine byC (c119 gl _ _ _) op119 ?_
  conv => whnf
  refine byC (c119 gl _ _ _) op119 ?_
  conv => whnf
  refine byC (c119 gl _ _ _) op119 ?_
  conv => whnf
  refine ⟨_, rfl, ?_⟩
  conv => whnf
  refine ⟨_, rfl, ?_⟩
  conv => whnf
  refine ⟨_, rfl, ?_⟩
  conv => whnf
  refine ⟨_, rfl, ?_⟩
  conv => whnf
  refine ⟨_, rfl, ?_⟩
  -- R:
  conv => whnf
  rfl

theorem op44 : Opens PR 44 := ⟨_, Tryd.func44, rfl, rfl⟩

theorem c85 (gl : Gl) : PCalls PR gl 85 [] fun r => r = intsV exB := by
  refine fnW_sound (par_ok gl) Tryd.func85 ?_
  conv => whnf
  refine ⟨_, rfl, ?_⟩
  conv => whnf
  refine ⟨_, rfl, ?_⟩
  conv => whnf
  refine ⟨_, rfl, ?_⟩
  conv => whnf
  refine ⟨_, rfl, ?_⟩
  conv => whnf
  refine ⟨_, rfl, ?_⟩
  conv => whnf
  refine ⟨_, rfl, ?_⟩
  conv => whnf
  refine ⟨_, rfl, ?_⟩
  conv => whnf
  refine ⟨_, rfl, ?_⟩
  conv => whnf
  refine ⟨_, rfl, ?_⟩
  conv => whnf
  refine ⟨_, rfl, ?_⟩
  conv => whnf
  refine ⟨_, rfl, ?_⟩
  conv => whnf
  refine ⟨_, rfl, ?_⟩
  conv => whnf
  refine ⟨_, rfl, ?_⟩
  conv => whnf
  refine ⟨_, rfl, ?_⟩
  conv => whnf
  refine ⟨_, rfl, ?_⟩
  conv => whnf
  refine ⟨_, rfl, ?_⟩
  conv => whnf
  refine ⟨_, rfl, ?_⟩
  conv => whnf
  refine ⟨_, rfl, ?_⟩
  -- R:
  conv => whnf
  rfl

theorem op85 : Opens PR 85 := ⟨_, Tryd.func85, rfl, rfl⟩

theorem c30 (gl : Gl) (a b : List (List Int)) (ha : a.length ≤ 9223372036854775807) (hx : ∀ x ∈ a, x.length ≤ 9223372036854775807) : PCalls PR gl 30 [intsV a, intsV b] fun r => r = vB (decide (a = b)) := by
  refine fnW_sound (par_ok gl) Tryd.func30 ?_
  conv => whnf
  refine bcase_iff.2 ⟨fun h1 => ?_, fun h1 => ?_⟩
  · skip
    have h1 : ((a.length : Int) != (b.length : Int)) = true := h1
    have hne : a ≠ b := fun e => by subst e; simp at h1
    -- R:T
    conv => whnf
    rw [decide_eq_false hne]
  · skip
    have hle : a.length = b.length := by
      have h1 : ((a.length : Int) != (b.length : Int)) = false := h1
      have : (a.length : Int) = (b.length : Int) := by simpa using h1
      omega
    conv => whnf
    refine ⟨⟨35, [], []⟩, ?_⟩
    refine LoopW_ind _ (fun i : Nat => (({ tmps := [intsV a, intsV b, .undef, .undef, .undef, vI i, .undef, .undef, .undef, .undef, .undef, .undef, .undef, .undef, .undef, .undef, .undef, .undef, .undef, .undef, .undef, .undef, .undef, .undef, .undef, .undef, .undef], seg := [], up := [] } : St S))) (fun i : Nat => (i ≤ a.length ∧ ∀ j, j < i → a.getD j [] = b.getD j [])) (fun i : Nat => (a.length - i)) () ?_ 0 ⟨Nat.zero_le _, fun j h => absurd h (Nat.not_lt_zero j)⟩
    intro i hinv Z1 hZ1
    obtain ⟨hi, hd⟩ := hinv
    conv => whnf
    refine bcase_iff.2 ⟨fun h4 => ?_, fun h4 => ?_⟩
    · skip
      have hlt : i < a.length := by have := of_decide_eq_true h4; omega
      have hw : IntKind.i64.wrap ((i : Int) + 1) = ((i + 1 : Nat) : Int) := wrap_nat (by omega)
      conv => whnf
      refine ⟨[0, 1, 2, 3, 4, 5, 6, 7, 8, 9], [], [], [], ⟨134217727, [], []⟩, by decide +kernel, ?_⟩
      conv => whnf
      have hlb : i < b.length := by omega
      conv => whnf
      refine ⟨_, getI_nat hlt, ?_⟩
      conv => whnf
      refine ⟨_, getI_nat hlb, ?_⟩
      conv => whnf
      refine byC (c20 gl a[i] b[i] (hx _ (List.getElem_mem hlt))) op20 ?_
      conv => whnf
      refine bcase_iff.2 ⟨fun h6 => ?_, fun h6 => ?_⟩
      · skip
        have hne : a[i] ≠ b[i] := by have h6 : (!decide (a[i] = b[i])) = true := h6; simpa using h6
        have hne : a ≠ b := fun e => hne (by subst e; rfl)
        -- R:FTT
        conv => whnf
        rw [decide_eq_false hne]
      · skip
        have heq : a.getD i [] = b.getD i [] := by rw [getD_at hlt, getD_at hlb]; have h6 : (!decide (a[i] = b[i])) = false := h6; simpa using h6
        -- Z4:TF
        conv => whnf
        refine ⟨⟨35, [], []⟩, ?_⟩
        conv => whnf
        rw [hw]
        exact hZ1 (i + 1) ⟨hlt, up_succ hd heq⟩ (by omega)
    · skip
      have hge : i = a.length := by have := of_decide_eq_false h4; omega
      -- R:FF
      conv => whnf
      rw [decide_eq_true (same_ext hle (by rw [← hge]; exact hd))]

theorem op30 : Opens PR 30 := ⟨_, Tryd.func30, rfl, rfl⟩

end Go.Ab.MkF

namespace Go.Ab.MkF
open Go Go.Ab Go.Ab.Pln Go.Proofs
set_option maxHeartbeats 1000000
set_option maxRecDepth 100000

theorem to' {gl : Gl} {f : FuncId} {args : List (AV S)} {v v' : AV S} (h : PCalls PR gl f args fun r => r = v) (e : v = v') : PCalls PR gl f args fun r => r = v' := by rw [← e]; exact h
theorem e18a : missV 1000 exL exC 0 = ([2, 3], 1, 0) := by decide +kernel
theorem e18b : missV 1000 exL exC 2 = ([], 2, 0) := by decide +kernel
theorem e21a : donV 1000 exL exC 0 2 = ([1], 0) := by decide +kernel
theorem e21b : donV 1000 exL exC 2 4 = ([], 0) := by decide +kernel
theorem e23a : mosV 1000 exL exC 1 = (1, 2, 0) := by decide +kernel
theorem e23b : mosV 1000 exL exC 2 = (0, 4, 0) := by decide +kernel
theorem e25a : worV 1000 exL exC 0 = (800, 0) := by decide +kernel
theorem e25b : worV 1000 exL exC 1 = (945, 0) := by decide +kernel
theorem e25c : worV 1000 exL exC 2 = (972, 0) := by decide +kernel
theorem e28 : whoV 1000 exL exC = (exB, 1, 1, 0, 0) := by decide +kernel
theorem e33 : forV exH = ([2, 3], 0) := by decide +kernel
theorem e35 : sureV exH = ([2, 3], [2, 3], 0) := by decide +kernel
theorem e37 : srcV exH = ([0, 0, 1, 2, 0], 3, 0) := by decide +kernel
theorem e39a : proV exH [2] = (1, 3, 0) := by decide +kernel
theorem e39b : proV exH [2, 3] = (0, 0, 8) := by decide +kernel
theorem e39c : proV exH [] = (0, 2, 0) := by decide +kernel
theorem e41 : talV exH [2, 3] = (203, 203, 0) := by decide +kernel

theorem c27 : PCalls PR glT 27 [] fun r => r = vB true := by
  refine fnW_sound (par_ok glT) Tryd.func27 ?_
  conv => whnf
  refine byC (c43 glT) op43 ?_
  conv => whnf
  refine byC (c44 glT) op44 ?_
  conv => whnf
  refine byC (to' (c18 1000 exL exC ex_lens 0) (by rw [e18a])) op18 ?_
  conv => whnf
  refine byC (to' (c21 1000 exL exC ex_lens 0 2) (by rw [e21a])) op21 ?_
  conv => whnf
  refine byC (to' (c23 glT 1000 exL exC ex_lens 1) (by rw [e23a])) op23 ?_
  conv => whnf
  refine byC (to' (c28 1000 exL exC ex_lens) (by rw [e28])) op28 ?_
  conv => whnf
  refine byC (to' (c25 glT 1000 exL exC ex_lens 2) (by rw [e25c])) op25 ?_
  conv => whnf
  refine byC (to' (c33 exH (by decide)) (by rw [e33])) op33 ?_
  conv => whnf
  refine byC (to' (c35 exH (by decide)) (by rw [e35])) op35 ?_
  conv => whnf
  refine byC (to' (c37 exH (by decide)) (by rw [e37])) op37 ?_
  conv => whnf
  refine ⟨_, rfl, ?_⟩
  conv => whnf
  refine byC (to' (c39 exH [2] (by decide) (by decide)) (by rw [e39a])) op39 ?_
  conv => whnf
  refine ⟨_, rfl, ?_⟩
  conv => whnf
  refine ⟨_, rfl, ?_⟩
  conv => whnf
  refine byC (to' (c39 exH [2, 3] (by decide) (by decide)) (by rw [e39b])) op39 ?_
  conv => whnf
  refine ⟨_, rfl, ?_⟩
  conv => whnf
  refine ⟨_, rfl, ?_⟩
  conv => whnf
  refine byC (to' (c41 exH [2, 3] (by decide) (by decide)) (by rw [e41])) op41 ?_
  conv => whnf
  refine ⟨_, rfl, ?_⟩
  conv => whnf
  refine ⟨_, rfl, ?_⟩
  conv => whnf
  refine byC (c20 glT _ _ (by decide)) op20 ?_
  conv => whnf
  refine ⟨_, rfl, ?_⟩
  conv => whnf
  refine byC (c20 glT _ _ (by decide)) op20 ?_
  conv => whnf
  refine byC (c85 glT) op85 ?_
  conv => whnf
  refine byC (to' (c30 glT exB exB (by decide) (by decide)) (show _ = vB true from rfl)) op30 ?_
  conv => whnf
  refine ⟨_, rfl, ?_⟩
  conv => whnf
  refine ⟨_, rfl, ?_⟩
  conv => whnf
  refine byC (c20 glT _ _ (by decide)) op20 ?_
  conv => whnf
  refine ⟨_, rfl, ?_⟩
  conv => whnf
  refine ⟨_, rfl, ?_⟩
  conv => whnf
  refine byC (c20 glT _ _ (by decide)) op20 ?_
  conv => whnf
  refine ⟨_, rfl, ?_⟩
  conv => whnf
  refine ⟨_, rfl, ?_⟩
  conv => whnf
  refine byC (c20 glT _ _ (by decide)) op20 ?_
  conv => whnf
  refine ⟨_, rfl, ?_⟩
  conv => whnf
  refine ⟨_, rfl, ?_⟩
  conv => whnf
  refine ⟨_, rfl, ?_⟩
  conv => whnf
  refine ⟨_, rfl, ?_⟩
  conv => whnf
  refine ⟨_, rfl, ?_⟩
  conv => whnf
  refine byC (c20 glT _ _ (by decide)) op20 ?_
  conv => whnf
  refine ⟨_, rfl, ?_⟩
  -- R:
  conv => whnf
  rfl

theorem op27 : Opens PR 27 := ⟨_, Tryd.func27, rfl, rfl⟩

end Go.Ab.MkF
