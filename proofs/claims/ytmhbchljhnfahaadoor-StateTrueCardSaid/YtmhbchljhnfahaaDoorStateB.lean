/-
  THE STATE FAMILY, PART R: whether some order agrees.
  THE STATE FAMILY, PART S: Reading, Before, After, Earlier, Last.
  THE STATE FAMILY, PART T: sets as lists; the smallest sets of copies.
  THE STATE FAMILY, PART U: readings compared; First.
  THE STATE FAMILY, PART V: Mistaken.
-/
import Derived.Lib.TrailingZeros
import Derived.Laws.Bits64b
import Derived.WalkKit
import Derived.Test.YtmhbchljhnfahaaDoorStateA
namespace Go.Ab.StF
open Go Go.Ab Go.Proofs
set_option maxHeartbeats 1000000
set_option maxRecDepth 100000

theorem op18 : Opens PR 18 := ⟨_, Tryd.func18, rfl, rfl⟩

def emptyB {α : Type} : List α → Bool
  | [] => true
  | _ => false

def askE (xs : List (ByteArray × Int)) (cs : List (ByteArray × List Int)) (many : Int) (ns : List Int) : Int :=
  if (chk xs cs).2.2 ≠ 0 then (chk xs cs).2.2 else if ns.any (outB 0 (many - 1)) then 4 else if emptyB (ordS xs cs (whl cs)) then 9 else 0

theorem c75 (gl : Gl) (xs : List (ByteArray × Int)) (cs : List (ByteArray × List Int)) (hL : Lens xs cs) (many : Int) (hm0 : 0 ≤ many) (hm1 : many ≤ 9223372036854775807) (ns : List Int) (hn : ns.length ≤ 9223372036854775807) :
    PCalls PR gl 75 [forV xs cs, vI many, vL ns] fun r => r = if askE xs cs many ns = 0 then .tup [FC xs cs, vI 0] else .tup [.nilp, vI (askE xs cs many ns)] := by
  refine fnW_sound (par_ok gl) Tryd.func75 ?_
  conv => whnf
  refine byC (cOpen gl hL) op71 ?_
  by_cases hk : (chk xs cs).2.2 = 0
  · have hv := chk_valid hk
    have hc8 := hv.c8
    rw [if_pos hk]
    have hR : askE xs cs many ns = if ns.any (outB 0 (many - 1)) then 4 else if emptyB (ordS xs cs (whl cs)) then 9 else 0 := by unfold askE; rw [if_neg (by rw [hk]; simp)]
    conv => whnf
    refine byC (c63 gl ns hn 0 (IntKind.i64.wrap (many - 1))) op63 ?_
    rw [show IntKind.i64.wrap (many - 1) = many - 1 from wrap_int (by omega) (by omega)]
    conv => whnf
    refine bcase_iff.2 ⟨fun h1 => ?_, fun h1 => ?_⟩
    · have h1 : ns.any (outB 0 (many - 1)) = true := h1
      rw [if_pos h1] at hR
      conv => whnf
      rw [hR]; rfl
    · have h1 : ns.any (outB 0 (many - 1)) = false := h1
      rw [h1, if_neg (by simp)] at hR
      conv => whnf
      refine ⟨[0, 1, 2, 3], [], [], [], ⟨1073741823, [], []⟩, by decide +kernel, ?_⟩
      conv => whnf
      refine byC (c77 gl xs cs (shL cs) (by omega)) op77 ?_
      conv => whnf
      refine byC (c76 gl _ (whl cs)) op76 ?_
      conv => whnf
      refine ⟨⟨134218176, [3], []⟩, ?_⟩
      conv => whnf
      refine ⟨(ordS xs cs (whl cs)).map fun p => [ordV p.1 p.2], ⟨itS gl hv (whl cs) (whl_lt hv), op115⟩, ?_⟩
      cases hO : ordS xs cs (whl cs) with
      | nil =>
        rw [hO] at hR
        conv => whnf
        rw [hR]; rfl
      | cons p l =>
        rw [hO] at hR
        conv => whnf
        rw [hR]; rfl
  · rw [if_neg hk]
    have hR : askE xs cs many ns = (chk xs cs).2.2 := by unfold askE; rw [if_pos hk]
    conv => whnf
    refine bcase_iff.2 ⟨fun h1 => ?_, fun h1 => ?_⟩
    · conv => whnf
      rw [hR, if_neg hk]
    · exfalso
      have : ((chk xs cs).2.2 != 0) = false := h1
      exact hk (by simpa using this)

theorem op75 : Opens PR 75 := ⟨_, Tryd.func75, rfl, rfl⟩

theorem c92 (gl : Gl) {xs : List (ByteArray × Int)} {cs : List (ByteArray × List Int)} (hv : Valid xs cs) (set : Nat) (hset : set < 2 ^ 63) : PCalls PR gl 92 [FC xs cs, vI set] fun r => r = vB (!emptyB (ordS xs cs set)) := by
  refine fnW_sound (par_ok gl) Tryd.func92 ?_
  conv => whnf
  refine byC (c76 gl _ set) op76 ?_
  conv => whnf
  refine ⟨⟨144, [], []⟩, ?_⟩
  conv => whnf
  refine ⟨(ordS xs cs set).map fun p => [ordV p.1 p.2], ⟨itS gl hv set hset, op115⟩, ?_⟩
  cases ordS xs cs set with
  | nil => conv => whnf
           rfl
  | cons p l => conv => whnf
                rfl

theorem op92 : Opens PR 92 := ⟨_, Tryd.func92, rfl, rfl⟩

/-! ### alike -/

def aliV (other : Int) : List Int → Option Int → Int
  | [], none => 0
  | [], some s => s
  | x :: l, none => aliV other l (some x)
  | x :: l, some s => if x != s then other else aliV other l (some x)

def metO (s : Int × Bool) : Option Int := if s.2 then some s.1 else none

def sg79 (other : Int) (fid : FuncId) (caps : List (AV S)) (s : Int × Bool) : List (Nat × AO S) :=
  [(4, .cells [vI other]), (5, .cells [.clo (.func fid) [] caps]), (6, .cells [vI s.1]), (7, .cells [vB s.2])]

def ts79 (xs : List (ByteArray × Int)) (cs : List (ByteArray × List Int)) : List (AV S) := [.undef, .undef, .undef, .undef, .own 4 [], .own 5 [], .own 6 [], .own 7 [], .undef, .undef, .undef, .undef, .undef, .clo (.func 115) [] [.ref [.ref (fcs xs cs (shL cs))], .ref [vI (whl cs)]], .undef, .undef, .undef, .undef, .undef, .undef, .undef, .undef, .undef, .undef, .undef, .undef, .undef]

theorem c79 (gl : Gl) {xs : List (ByteArray × Int)} {cs : List (ByteArray × List Int)} (hv : Valid xs cs) (other : Int) (fid : FuncId) (A : List (AV S)) (g : Nat × List Nat → Int)
    (hg : ∀ p ∈ ordS xs cs (whl cs), PCalls PR gl fid [ordV p.1 p.2, .ref A] fun r => r = vI (g p)) (ho : Opens PR fid) (hloc : locB fid = false) :
    PCalls PR gl 79 [FC xs cs, vI other, .clo (.func fid) [] [.ref A]] fun r => r = vI (aliV other ((ordS xs cs (whl cs)).map g) none) := by
  have hc8 := hv.c8
  refine fnW_sound (par_ok gl) Tryd.func79 ?_
  conv => whnf
  refine byC (c77 gl xs cs (shL cs) (by omega)) op77 ?_
  conv => whnf
  refine byC (c76 gl _ (whl cs)) op76 ?_
  conv => whnf
  refine ⟨⟨8432, [], []⟩, ?_⟩
  conv => whnf
  refine ⟨(ordS xs cs (whl cs)).map fun p => [ordV p.1 p.2], ⟨itS gl hv (whl cs) (whl_lt hv), op115⟩, ?_⟩
  refine eachW_indS (fun p : Nat × List Nat => [ordV p.1 p.2]) (ts79 xs cs) (sg79 other fid [.ref A]) [] (fun l s _ => (∀ p ∈ l, p ∈ ordS xs cs (whl cs)) ∧ (s.2 = false → s.1 = 0) ∧ aliV other (l.map g) (metO s) = aliV other ((ordS xs cs (whl cs)).map g) none) ?_ ?_ _ (0, false) () ⟨fun _ h => h, fun _ => rfl, rfl⟩
  · rintro ⟨a, b⟩ _ ⟨_, ha, h⟩
    conv => whnf
    rw [← h]
    cases b
    · show vI a = vI 0
      rw [show a = 0 from ha rfl]
    · rfl
  · rintro p l ⟨a, b⟩ _ ⟨hp, ha, h⟩ Z hZ
    conv => whnf
    rw [show (par gl).loc fid = false from hloc]
    conv => whnf
    refine byC (hg p (hp p (List.mem_cons_self ..))) ho ?_
    cases b
    · conv => whnf
      refine ⟨⟨0, [8], []⟩, ?_⟩
      conv => whnf
      exact hZ (g p, true) () ⟨fun q hq => hp q (List.mem_cons_of_mem _ hq), fun (h : true = false) => (Bool.noConfusion h), h⟩
    · conv => whnf
      refine bcase_iff.2 ⟨fun h1 => ?_, fun h1 => ?_⟩
      · have h1 : (g p != a) = true := h1
        have h : (if g p != a then other else aliV other (l.map g) (some (g p))) = aliV other ((ordS xs cs (whl cs)).map g) none := h
        rw [if_pos h1] at h
        conv => whnf
        rw [← h]
      · have h1 : (g p != a) = false := h1
        have h : (if g p != a then other else aliV other (l.map g) (some (g p))) = aliV other ((ordS xs cs (whl cs)).map g) none := h
        rw [h1, if_neg (by simp)] at h
        conv => whnf
        refine ⟨⟨0, [8], []⟩, ?_⟩
        conv => whnf
        exact hZ (g p, true) () ⟨fun q hq => hp q (List.mem_cons_of_mem _ hq), fun (h : true = false) => (Bool.noConfusion h), h⟩
theorem c79c (gl : Gl) {xs : List (ByteArray × Int)} {cs : List (ByteArray × List Int)} (hv : Valid xs cs) (other : Int) (fid : FuncId) (A B C : List (AV S)) (g : Nat × List Nat → Int)
    (hg : ∀ p ∈ ordS xs cs (whl cs), PCalls PR gl fid [ordV p.1 p.2, .ref A, .ref B, .ref C] fun r => r = vI (g p)) (ho : Opens PR fid) (hloc : locB fid = false) :
    PCalls PR gl 79 [FC xs cs, vI other, .clo (.func fid) [] [.ref A, .ref B, .ref C]] fun r => r = vI (aliV other ((ordS xs cs (whl cs)).map g) none) := by
  have hc8 := hv.c8
  refine fnW_sound (par_ok gl) Tryd.func79 ?_
  conv => whnf
  refine byC (c77 gl xs cs (shL cs) (by omega)) op77 ?_
  conv => whnf
  refine byC (c76 gl _ (whl cs)) op76 ?_
  conv => whnf
  refine ⟨⟨8432, [], []⟩, ?_⟩
  conv => whnf
  refine ⟨(ordS xs cs (whl cs)).map fun p => [ordV p.1 p.2], ⟨itS gl hv (whl cs) (whl_lt hv), op115⟩, ?_⟩
  refine eachW_indS (fun p : Nat × List Nat => [ordV p.1 p.2]) (ts79 xs cs) (sg79 other fid [.ref A, .ref B, .ref C]) [] (fun l s _ => (∀ p ∈ l, p ∈ ordS xs cs (whl cs)) ∧ (s.2 = false → s.1 = 0) ∧ aliV other (l.map g) (metO s) = aliV other ((ordS xs cs (whl cs)).map g) none) ?_ ?_ _ (0, false) () ⟨fun _ h => h, fun _ => rfl, rfl⟩
  · rintro ⟨a, b⟩ _ ⟨_, ha, h⟩
    conv => whnf
    rw [← h]
    cases b
    · show vI a = vI 0
      rw [show a = 0 from ha rfl]
    · rfl
  · rintro p l ⟨a, b⟩ _ ⟨hp, ha, h⟩ Z hZ
    conv => whnf
    rw [show (par gl).loc fid = false from hloc]
    conv => whnf
    refine byC (hg p (hp p (List.mem_cons_self ..))) ho ?_
    cases b
    · conv => whnf
      refine ⟨⟨0, [8], []⟩, ?_⟩
      conv => whnf
      exact hZ (g p, true) () ⟨fun q hq => hp q (List.mem_cons_of_mem _ hq), fun (h : true = false) => (Bool.noConfusion h), h⟩
    · conv => whnf
      refine bcase_iff.2 ⟨fun h1 => ?_, fun h1 => ?_⟩
      · have h1 : (g p != a) = true := h1
        have h : (if g p != a then other else aliV other (l.map g) (some (g p))) = aliV other ((ordS xs cs (whl cs)).map g) none := h
        rw [if_pos h1] at h
        conv => whnf
        rw [← h]
      · have h1 : (g p != a) = false := h1
        have h : (if g p != a then other else aliV other (l.map g) (some (g p))) = aliV other ((ordS xs cs (whl cs)).map g) none := h
        rw [h1, if_neg (by simp)] at h
        conv => whnf
        refine ⟨⟨0, [8], []⟩, ?_⟩
        conv => whnf
        exact hZ (g p, true) () ⟨fun q hq => hp q (List.mem_cons_of_mem _ hq), fun (h : true = false) => (Bool.noConfusion h), h⟩
theorem op79 : Opens PR 79 := ⟨_, Tryd.func79, rfl, rfl⟩
end Go.Ab.StF

namespace Go.Ab.StF
open Go Go.Ab Go.Proofs
set_option maxHeartbeats 1000000
set_option maxRecDepth 100000

theorem ford_ok {n : Nat} {ah : List Nat} : ∀ (m d : Nat) (path : List Nat), ∀ os ∈ ford n ah m d path, ∃ tl, os = path ++ tl ∧ tl.length = m ∧ ∀ k ∈ tl, k < n
  | 0, d, path, os, h => by
    simp only [ford, List.mem_singleton] at h
    exact ⟨[], by simp [h], rfl, fun k hk => by cases hk⟩
  | m + 1, d, path, os, h => by
    simp only [ford, List.mem_flatMap, List.mem_range] at h
    obtain ⟨k, hk, h⟩ := h
    split at h
    · cases h
    · obtain ⟨tl, rfl, h2, h3⟩ := ford_ok m _ _ os h
      exact ⟨k :: tl, by simp, by simp [h2], fun q hq => by
        rcases List.mem_cons.1 hq with rfl | hq
        · exact hk
        · exact h3 q hq⟩

theorem ordS_ok {xs : List (ByteArray × Int)} {cs : List (ByteArray × List Int)} (hv : Valid xs cs) {set : Nat} : ∀ p ∈ ordS xs cs set, p.1 < 2 ^ 63 ∧ p.2.length = 5 ∧ (∀ k ∈ p.2, k < 64) ∧ ∀ k ∈ p.2.take xs.length, k < xs.length := fun p hp => by
  have h5 := hv.l5
  simp only [ordS, ordersL, List.mem_flatMap, List.mem_map] at hp
  obtain ⟨f, hf, os, hos, rfl⟩ := hp
  obtain ⟨tl, rfl, h2, h3⟩ := ford_ok _ _ _ _ hos
  refine ⟨Nat.lt_of_lt_of_le (ffirst_lt _ 0 0 f (by decide) hf) (Nat.pow_le_pow_right (by omega) (by simp; omega)), by simp; omega, fun k hk => ?_, fun k hk => ?_⟩
  · rcases List.mem_append.1 hk with h | h
    · have := h3 k h; omega
    · rw [List.mem_replicate] at h; omega
  · have hk : k ∈ List.take xs.length (pad5 os) := hk
    rw [List.take_append_of_le_length (by omega), List.take_of_length_le (by omega)] at hk
    exact h3 k hk

/-! ### The first reading of a locus, and the last one -/

def rdV (i : Nat) (p : Nat × List Nat) : Int := if p.1.testBit i then 2 else 1
def lsV (i : Nat) (p : Nat × List Nat) : Int := if p.1.testBit i then 1 else 2

theorem c81 (gl : Gl) (p : Nat × List Nat) (hp : p.1 < 2 ^ 63) (i : Nat) (hi : i < 64) : PCalls PR gl 81 [ordV p.1 p.2, .ref [vI i]] fun r => r = vI (rdV i p) := by
  refine fnW_sound (par_ok gl) Tryd.func81 ?_
  conv => whnf
  refine ⟨Int.natCast_nonneg _, ?_⟩
  conv => whnf
  have h : IntKind.i64.wrap (1 + bitsI .and .i64 (shrI .i64 (p.1 : Int) (i : Int)) 1) = rdV i p := by
    rw [bit_eq hp hi]; unfold rdV; cases p.1.testBit i <;> rfl
  exact congrArg vI h

theorem c80 (gl : Gl) (p : Nat × List Nat) (hp : p.1 < 2 ^ 63) (i : Nat) (hi : i < 64) : PCalls PR gl 80 [ordV p.1 p.2, .ref [vI i]] fun r => r = vI (lsV i p) := by
  refine fnW_sound (par_ok gl) Tryd.func80 ?_
  conv => whnf
  refine ⟨Int.natCast_nonneg _, ?_⟩
  conv => whnf
  have h : IntKind.i64.wrap (2 - bitsI .and .i64 (shrI .i64 (p.1 : Int) (i : Int)) 1) = lsV i p := by
    rw [bit_eq hp hi]; unfold lsV; cases p.1.testBit i <;> rfl
  exact congrArg vI h

theorem op81 : Opens PR 81 := ⟨_, Tryd.func81, rfl, rfl⟩
theorem op80 : Opens PR 80 := ⟨_, Tryd.func80, rfl, rfl⟩

abbrev intV (p : Int × Int) : AV S := .tup [vI p.1, vI p.2]

def readR (xs : List (ByteArray × Int)) (cs : List (ByteArray × List Int)) (locus : Int) : Int × Int :=
  if askE xs cs xs.length [locus] ≠ 0 then (0, askE xs cs xs.length [locus]) else (aliV 0 ((ordS xs cs (whl cs)).map (rdV locus.toNat)) none, 0)

theorem ask0 {xs : List (ByteArray × Int)} {cs : List (ByteArray × List Int)} {many : Int} {ns : List Int} (h : askE xs cs many ns = 0) : Valid xs cs ∧ (∀ k ∈ ns, 0 ≤ k ∧ k < many) ∧ ordS xs cs (whl cs) ≠ [] := by
  unfold askE at h
  split at h
  · rename_i h1; exact absurd h h1
  · rename_i h1
    split at h
    · cases h
    · rename_i h2
      split at h
      · cases h
      · rename_i h3
        refine ⟨chk_valid (by simpa using h1), fun k hk => ?_, fun e => h3 (by rw [e]; rfl)⟩
        have h2 := Bool.eq_false_iff.2 h2
        have := List.any_eq_false.1 h2 k hk
        simp [outB] at this; omega

theorem c27 (gl : Gl) (xs : List (ByteArray × Int)) (cs : List (ByteArray × List Int)) (hL : Lens xs cs) (locus : Int) : PCalls PR gl 27 [forV xs cs, vI locus] fun r => r = intV (readR xs cs locus) := by
  have hx := hL.x
  refine fnW_sound (par_ok gl) Tryd.func27 ?_
  conv => whnf
  refine ⟨_, rfl, ?_⟩
  conv => whnf
  refine byC (c75 gl xs cs hL xs.length (by omega) (by omega) [locus] (by simp)) op75 ?_
  by_cases hk : askE xs cs xs.length [locus] = 0
  · obtain ⟨hv, hn, _⟩ := ask0 hk
    obtain ⟨h0, h1⟩ := hn locus (List.mem_singleton.2 rfl)
    have h5 := hv.l5
    obtain ⟨i, rfl⟩ : ∃ i : Nat, locus = i := ⟨locus.toNat, by omega⟩
    rw [if_pos hk]
    conv => whnf
    refine byC (c79 gl hv 0 81 [vI i] (rdV i) (fun p hp => c81 gl p (ordS_ok hv p hp).1 i (by omega)) op81 rfl) op79 ?_
    conv => whnf
    unfold readR; rw [if_neg (by rw [hk]; simp)]; rfl
  · rw [if_neg hk]
    conv => whnf
    refine bcase_iff.2 ⟨fun h1 => ?_, fun h1 => ?_⟩
    · conv => whnf
      unfold readR; rw [if_pos hk]
    · exfalso
      have : (askE xs cs xs.length [locus] != 0) = false := h1
      exact hk (by simpa using this)

/-! ### Last -/

def lastUp (xs : List (ByteArray × Int)) (cs : List (ByteArray × List Int)) (i : Nat) : List Int := (List.range i).map fun j => aliV 0 ((ordS xs cs (whl cs)).map (lsV j)) none

def lastR (xs : List (ByteArray × Int)) (cs : List (ByteArray × List Int)) : List Int × Int := if askE xs cs 0 [] ≠ 0 then ([], askE xs cs 0 []) else (lastUp xs cs xs.length, 0)

def fr24 (xs : List (ByteArray × Int)) (cs : List (ByteArray × List Int)) (m : Int) (i : Nat) (l : List Int) : St S :=
  { tmps := [.undef, .undef, .sl (S := S) U.int l (some 2), .undef, FC xs cs, .undef, .undef, .undef, .undef, .undef, .undef, .undef, .undef, .undef, .undef, .undef, vI m, vI i, .undef, .undef, .undef, .undef, .undef, .undef, .undef, .undef, .undef, .undef], seg := [(2, .row U.int false)], up := [] }

theorem c24 (gl : Gl) (xs : List (ByteArray × Int)) (cs : List (ByteArray × List Int)) (hL : Lens xs cs) : PCalls PR gl 24 [forV xs cs] fun r => r = lstV (lastR xs cs) := by
  refine fnW_sound (par_ok gl) Tryd.func24 ?_
  conv => whnf
  refine byC (c75 gl xs cs hL 0 (by omega) (by omega) [] (by simp)) op75 ?_
  by_cases hk : askE xs cs 0 [] = 0
  · obtain ⟨hv, _, _⟩ := ask0 hk
    have h5 := hv.l5
    rw [if_pos hk]
    conv => whnf
    refine ⟨⟨196628, [1], [2]⟩, ?_⟩
    refine LoopW_ind _ (fun i : Nat => fr24 xs cs xs.length i (lastUp xs cs i)) (fun i => i ≤ xs.length) (fun i => xs.length - i) () ?_ 0 (Nat.zero_le _)
    intro i hi Z hZ
    conv => whnf
    refine bcase_iff.2 ⟨fun h1 => ?_, fun h1 => ?_⟩
    · have hlt : i < xs.length := by have := of_decide_eq_true h1; omega
      have hw : IntKind.i64.wrap ((i : Int) + 1) = ((i + 1 : Nat) : Int) := wrap_nat (by omega)
      have hs : lastUp xs cs (i + 1) = lastUp xs cs i ++ [aliV 0 ((ordS xs cs (whl cs)).map (lsV i)) none] := by simp [lastUp, List.range_succ]
      conv => whnf
      refine byC (c79 gl hv 0 80 [vI i] (lsV i) (fun p hp => c80 gl p (ordS_ok hv p hp).1 i (by omega)) op80 rfl) op79 ?_
      conv => whnf
      refine ⟨_, rfl, ?_⟩
      conv => whnf
      refine ⟨?_, ?_⟩
      · show (lastUp xs cs i).length + 1 ≤ 1099511627776
        simp only [lastUp, List.length_map, List.length_range]; omega
      conv => whnf
      refine ⟨⟨196628, [5, 24], []⟩, ?_⟩
      have := hZ (i + 1) hlt (by omega)
      unfold fr24 at this
      rw [← hw, hs] at this
      exact this
    · have hge : i = xs.length := by have := of_decide_eq_false h1; omega
      subst hge
      conv => whnf
      unfold lastR; rw [if_neg (by rw [hk]; simp)]
  · rw [if_neg hk]
    conv => whnf
    refine bcase_iff.2 ⟨fun h1 => ?_, fun h1 => ?_⟩
    · conv => whnf
      unfold lastR; rw [if_pos hk]
    · exfalso
      have : (askE xs cs 0 [] != 0) = false := h1
      exact hk (by simpa using this)

/-! ### Before -/

theorem op84 : Opens PR 84 := ⟨_, Tryd.func84, rfl, rfl⟩

def befV (n : Nat) (a b : Int) (p : Nat × List Nat) : Int :=
  verd (decide (idx (fun x => a == x) (natsV (p.2.take n)) 0 < idx (fun x => b == x) (natsV (p.2.take n)) 0)) (decide (idx (fun x => b == x) (natsV (p.2.take n)) 0 < idx (fun x => a == x) (natsV (p.2.take n)) 0))

theorem c82 (gl : Gl) (xs : List (ByteArray × Int)) (cs : List (ByteArray × List Int)) (h5 : xs.length ≤ 5) (p : Nat × List Nat) (hp : p.2.length = 5) (a b : Int) :
    PCalls PR gl 82 [ordV p.1 p.2, .ref [lociV xs, copsV cs], .ref [vI a], .ref [vI b]] fun r => r = vI (befV xs.length a b p) := by
  refine fnW_sound (par_ok gl) Tryd.func82 ?_
  have ht : List.drop 0 (List.take (xs.length : Int).toNat (natsV p.2)) = natsV (p.2.take xs.length) := by simp [natsV]
  conv => whnf
  refine ⟨[0, 1, 2, 3, 4, 5, 7, 8, 9, 10, 11, 12, 6, 13, 14, 15], [], [], [], ⟨536870911, [], [4]⟩, by decide +kernel, ?_⟩
  conv => whnf
  refine ⟨Int.natCast_nonneg _, ?_⟩
  conv => whnf
  refine ⟨Nat.zero_le _, by simp; omega, ?_⟩
  conv => whnf
  refine ⟨Int.natCast_nonneg _, ?_⟩
  conv => whnf
  refine ⟨Nat.zero_le _, by simp; omega, ?_⟩
  conv => whnf
  refine byC (c83 gl (List.drop 0 (List.take (xs.length : Int).toNat (natsV p.2))) (by simp; omega) a) op83 ?_
  conv => whnf
  refine byC (c83 gl (List.drop 0 (List.take (xs.length : Int).toNat (natsV p.2))) (by simp; omega) b) op83 ?_
  conv => whnf
  refine byC (c84 gl _ _) op84 ?_
  conv => whnf
  unfold befV
  rw [← ht]

theorem op82 : Opens PR 82 := ⟨_, Tryd.func82, rfl, rfl⟩

def befR (xs : List (ByteArray × Int)) (cs : List (ByteArray × List Int)) (a b : Int) : Int × Int :=
  if (chk xs cs).2.2 ≠ 0 then (0, (chk xs cs).2.2) else if [a, b].any (outB 0 ((xs.length : Int) - 1)) then (0, 4) else if a == b then (0, 2) else
  if askE xs cs 0 [] ≠ 0 then (0, askE xs cs 0 []) else (aliV 0 ((ordS xs cs (whl cs)).map (befV xs.length a b)) none, 0)

theorem c29 (gl : Gl) (xs : List (ByteArray × Int)) (cs : List (ByteArray × List Int)) (hL : Lens xs cs) (a b : Int) : PCalls PR gl 29 [forV xs cs, vI a, vI b] fun r => r = intV (befR xs cs a b) := by
  have hx := hL.x
  refine fnW_sound (par_ok gl) Tryd.func29 ?_
  conv => whnf
  refine byC (cOpen gl hL) op71 ?_
  by_cases hk : (chk xs cs).2.2 = 0
  · have hv := chk_valid hk
    have h5 := hv.l5
    rw [if_pos hk]
    have hR : befR xs cs a b = if [a, b].any (outB 0 ((xs.length : Int) - 1)) then (0, 4) else if a == b then (0, 2) else
      if askE xs cs 0 [] ≠ 0 then (0, askE xs cs 0 []) else (aliV 0 ((ordS xs cs (whl cs)).map (befV xs.length a b)) none, 0) := by unfold befR; rw [if_neg (by rw [hk]; simp)]
    conv => whnf
    refine ⟨_, rfl, ?_⟩
    conv => whnf
    refine ⟨_, rfl, ?_⟩
    conv => whnf
    refine byC (c63 gl [a, b] (by simp) 0 (IntKind.i64.wrap ((xs.length : Int) - 1))) op63 ?_
    rw [show IntKind.i64.wrap ((xs.length : Int) - 1) = (xs.length : Int) - 1 from wrap_int (by omega) (by omega)]
    conv => whnf
    refine bcase_iff.2 ⟨fun h1 => ?_, fun h1 => ?_⟩
    · have h1 : [a, b].any (outB 0 ((xs.length : Int) - 1)) = true := h1
      conv => whnf
      rw [hR, if_pos h1]
    · have h1 : [a, b].any (outB 0 ((xs.length : Int) - 1)) = false := h1
      rw [h1, if_neg (by simp)] at hR
      conv => whnf
      refine bcase_iff.2 ⟨fun h2 => ?_, fun h2 => ?_⟩
      · have h2 : (a == b) = true := h2
        conv => whnf
        rw [hR, if_pos h2]
      · have h2 : (a == b) = false := h2
        rw [h2, if_neg (by simp)] at hR
        conv => whnf
        refine byC (c75 gl xs cs hL 0 (by omega) (by omega) [] (by simp)) op75 ?_
        by_cases hk2 : askE xs cs 0 [] = 0
        · rw [if_pos hk2]
          rw [if_neg (by rw [hk2]; simp)] at hR
          conv => whnf
          refine byC (c79c gl hv 0 82 [lociV xs, copsV cs] [vI a] [vI b] (befV xs.length a b) (fun p hp => c82 gl xs cs h5 p (ordS_ok hv p hp).2.1 a b) op82 rfl) op79 ?_
          conv => whnf
          rw [hR]
        · rw [if_neg hk2]
          rw [if_pos hk2] at hR
          conv => whnf
          refine bcase_iff.2 ⟨fun h1 => ?_, fun h1 => ?_⟩
          · conv => whnf
            rw [hR]
          · exfalso
            have : (askE xs cs 0 [] != 0) = false := h1
            exact hk2 (by simpa using this)
  · rw [if_neg hk]
    conv => whnf
    refine bcase_iff.2 ⟨fun h1 => ?_, fun h1 => ?_⟩
    · conv => whnf
      unfold befR; rw [if_pos hk]
    · exfalso
      have : ((chk xs cs).2.2 != 0) = false := h1
      exact hk (by simpa using this)

/-! ### Earlier -/

abbrev stS (xs : List (ByteArray × Int)) (cs : List (ByteArray × List Int)) (i : Nat) (p : Nat × List Nat) : Nat × Nat := stepsOf xs.length ((msL cs).getD i (0, 0)) p.1 p.2

def earV (xs : List (ByteArray × Int)) (cs : List (ByteArray × List Int)) (a b : Nat) (p : Nat × List Nat) : Int :=
  verd (decide ((stS xs cs a p).2 < (stS xs cs b p).1)) (decide ((stS xs cs b p).2 < (stS xs cs a p).1))

theorem c89 (gl : Gl) {xs : List (ByteArray × Int)} {cs : List (ByteArray × List Int)} (hv : Valid xs cs) (p : Nat × List Nat) (hp : p.1 < 2 ^ 63 ∧ p.2.length = 5 ∧ ∀ k ∈ p.2, k < 64) (a b : Nat) (ha : a < cs.length) (hb : b < cs.length) :
    PCalls PR gl 89 [ordV p.1 p.2, .ref [.clo (.func 73) [FC xs cs] []], .ref [vI a], .ref [vI b]] fun r => r = vI (earV xs cs a b p) := by
  obtain ⟨h1, h2, h3⟩ := hp
  refine fnW_sound (par_ok gl) Tryd.func89 ?_
  conv => whnf
  refine ⟨[0, 1, 2, 4, 5, 6, 3, 7, 8, 9, 10, 11], [8, 9], [], [], ⟨134217727, [], []⟩, by decide +kernel, ?_⟩
  conv => whnf
  refine byC (cSteps gl hv a p.1 ha h1 p.2 h2 h3) op73 ?_
  conv => whnf
  refine byC (cSteps gl hv b p.1 hb h1 p.2 h2 h3) op73 ?_
  conv => whnf
  refine byC (c84 gl _ _) op84 ?_
  conv => whnf
  have hc : ∀ x y : Nat, decide ((x : Int) < (y : Int)) = decide (x < y) := fun x y => by simp
  unfold earV
  rw [← hc, ← hc]

theorem op89 : Opens PR 89 := ⟨_, Tryd.func89, rfl, rfl⟩

def earR (xs : List (ByteArray × Int)) (cs : List (ByteArray × List Int)) (a b : Int) : Int × Int :=
  if askE xs cs cs.length [a, b] ≠ 0 then (0, askE xs cs cs.length [a, b]) else (aliV 0 ((ordS xs cs (whl cs)).map (earV xs cs a.toNat b.toNat)) none, 0)

theorem c33 (gl : Gl) (xs : List (ByteArray × Int)) (cs : List (ByteArray × List Int)) (hL : Lens xs cs) (a b : Int) : PCalls PR gl 33 [forV xs cs, vI a, vI b] fun r => r = intV (earR xs cs a b) := by
  have hx := hL.c
  refine fnW_sound (par_ok gl) Tryd.func33 ?_
  conv => whnf
  refine ⟨_, rfl, ?_⟩
  conv => whnf
  refine ⟨_, rfl, ?_⟩
  conv => whnf
  refine byC (c75 gl xs cs hL cs.length (by omega) (by omega) [a, b] (by simp)) op75 ?_
  by_cases hk : askE xs cs cs.length [a, b] = 0
  · obtain ⟨hv, hn, _⟩ := ask0 hk
    obtain ⟨h0, h1⟩ := hn a (by simp)
    obtain ⟨h2, h3⟩ := hn b (by simp)
    obtain ⟨i, rfl⟩ : ∃ i : Nat, a = i := ⟨a.toNat, by omega⟩
    obtain ⟨j, rfl⟩ : ∃ j : Nat, b = j := ⟨b.toNat, by omega⟩
    rw [if_pos hk]
    conv => whnf
    refine byC (c79c gl hv 0 89 [.clo (.func 73) [FC xs cs] []] [vI i] [vI j] (earV xs cs i j) (fun p hp => c89 gl hv p ⟨(ordS_ok hv p hp).1, (ordS_ok hv p hp).2.1, (ordS_ok hv p hp).2.2.1⟩ i j (by omega) (by omega)) op89 rfl) op79 ?_
    conv => whnf
    unfold earR; rw [if_neg (by rw [hk]; simp)]; rfl
  · rw [if_neg hk]
    conv => whnf
    refine bcase_iff.2 ⟨fun h1 => ?_, fun h1 => ?_⟩
    · conv => whnf
      unfold earR; rw [if_pos hk]
    · exfalso
      have : (askE xs cs cs.length [a, b] != 0) = false := h1
      exact hk (by simpa using this)

/-! ### After -/

def aftV (xs : List (ByteArray × Int)) (cs : List (ByteArray × List Int)) (i : Nat) : List (Nat × List Nat) → Nat × Nat → Nat × Nat
  | [], s => s
  | p :: l, s => aftV xs cs i l (min s.1 (stS xs cs i p).1, max s.2 (stS xs cs i p).2)

def aftR (xs : List (ByteArray × Int)) (cs : List (ByteArray × List Int)) (i : Int) : (Int × Int) × Int :=
  if askE xs cs cs.length [i] ≠ 0 then ((0, 0), askE xs cs cs.length [i]) else (((aftV xs cs i.toNat (ordS xs cs (whl cs)) (xs.length, 0)).1, (aftV xs cs i.toNat (ordS xs cs (whl cs)) (xs.length, 0)).2), 0)

abbrev spanV (p : (Int × Int) × Int) : AV S := .tup [.agg [vI p.1.1, vI p.1.2], vI p.2]

def ts31 (xs : List (ByteArray × Int)) (cs : List (ByteArray × List Int)) : List (AV S) := [.undef, .undef, .undef, .own 3 [], .own 4 [], .undef, .own 6 [], .undef, .undef, .undef, .undef, .undef, .undef, .undef, .undef, .undef, .undef, .undef, .undef, .undef, .undef, .undef, .undef, .undef, .undef, .undef, .undef, .undef, .undef, .undef, .clo (.func 115) [] [.ref [.ref (fcs xs cs (shL cs))], .ref [vI (whl cs)]], .undef, .undef, .undef, .undef, .undef, .undef, .undef, .undef, .undef, .undef, .undef, .undef, .undef, .undef, .undef, .undef, .undef]

def sg31 (xs : List (ByteArray × Int)) (cs : List (ByteArray × List Int)) (i : Nat) (s : Nat × Nat) : List (Nat × AO S) := [(3, .cells [vI i]), (4, .cells [vI s.1, vI s.2]), (6, .cells [FC xs cs])]

theorem c31 (gl : Gl) (xs : List (ByteArray × Int)) (cs : List (ByteArray × List Int)) (hL : Lens xs cs) (i : Int) : PCalls PR gl 31 [forV xs cs, vI i] fun r => r = spanV (aftR xs cs i) := by
  have hx := hL.c
  refine fnW_sound (par_ok gl) Tryd.func31 ?_
  conv => whnf
  refine ⟨_, rfl, ?_⟩
  conv => whnf
  refine byC (c75 gl xs cs hL cs.length (by omega) (by omega) [i] (by simp)) op75 ?_
  by_cases hk : askE xs cs cs.length [i] = 0
  · obtain ⟨hv, hn, _⟩ := ask0 hk
    obtain ⟨h0, h1⟩ := hn i (by simp)
    have hc8 := hv.c8
    obtain ⟨i, rfl⟩ : ∃ j : Nat, i = j := ⟨i.toNat, by omega⟩
    have hR : aftR xs cs i = (((((aftV xs cs i (ordS xs cs (whl cs)) (xs.length, 0)).1 : Nat) : Int), (((aftV xs cs i (ordS xs cs (whl cs)) (xs.length, 0)).2 : Nat) : Int)), 0) := by unfold aftR; rw [if_neg (by rw [hk]; simp)]; rfl
    rw [if_pos hk]
    conv => whnf
    refine ⟨[0, 1, 2, 3], [], [], [], ⟨281474976710655, [], []⟩, by decide +kernel, ?_⟩
    conv => whnf
    refine byC (c77 gl xs cs (shL cs) (by omega)) op77 ?_
    conv => whnf
    refine byC (c76 gl _ (whl cs)) op76 ?_
    conv => whnf
    refine ⟨⟨1073741912, [2, 15], []⟩, ?_⟩
    conv => whnf
    refine ⟨(ordS xs cs (whl cs)).map fun p => [ordV p.1 p.2], ⟨itS gl hv (whl cs) (whl_lt hv), op115⟩, ?_⟩
    refine eachW_indS (fun p : Nat × List Nat => [ordV p.1 p.2]) (ts31 xs cs) (sg31 xs cs i) [] (fun l s _ => (∀ p ∈ l, p ∈ ordS xs cs (whl cs)) ∧ aftV xs cs i l s = aftV xs cs i (ordS xs cs (whl cs)) (xs.length, 0)) ?_ ?_ _ (xs.length, 0) () ⟨fun _ h => h, rfl⟩
    · rintro s _ ⟨_, h⟩
      conv => whnf
      rw [hR, ← h]
      rfl
    · rintro p l s _ ⟨hp, h⟩ Z hZ
      obtain ⟨g1, g2, g3, _⟩ := ordS_ok hv p (hp p (List.mem_cons_self ..))
      conv => whnf
      refine byC (cSteps gl hv i p.1 (by omega) g1 p.2 g2 g3) op73 ?_
      conv => whnf
      refine ⟨⟨0, [7, 8], []⟩, ?_⟩
      conv => whnf
      have := hZ (min s.1 (stS xs cs i p).1, max s.2 (stS xs cs i p).2) () ⟨fun q hq => hp q (List.mem_cons_of_mem _ hq), h⟩
      have hmin : ∀ x y : Nat, (if (y : Int) < (x : Int) then (y : Int) else x) = ((min x y : Nat) : Int) := fun x y => by split <;> omega
      have hmax : ∀ x y : Nat, (if (y : Int) > (x : Int) then (y : Int) else x) = ((max x y : Nat) : Int) := fun x y => by split <;> omega
      unfold sg31 at this
      simp only at this
      rw [← hmin, ← hmax] at this
      exact this
  · rw [if_neg hk]
    conv => whnf
    refine bcase_iff.2 ⟨fun h1 => ?_, fun h1 => ?_⟩
    · conv => whnf
      unfold aftR; rw [if_pos hk]
    · exfalso
      have : (askE xs cs cs.length [i] != 0) = false := h1
      exact hk (by simpa using this)
end Go.Ab.StF

namespace Go.Ab.StF
open Go Go.Ab Go.Proofs
set_option maxHeartbeats 1000000
set_option maxRecDepth 100000

/-- The table in its variable. -/
def TabAt (g : Nat) (tab : List Nat) (w : World) : Prop := ∀ j, j < tab.length → w.cell? ⟨g, j, none⟩ = some (.int .u8 (tab.getD j 0))

/-- What the program's variables hold. -/
def glT : Gl where
  g0 := 2
  G w := 2 ≤ w.heap.size ∧ TabAt 1 Lib.deBruijn64tab w
  le _ h := h.1
  st w w' h hs hc := ⟨Nat.le_trans h.1 hs, fun j hj => (hc 1 (by decide) j).trans (h.2 j hj)⟩

theorem tz_core (x k idx : Nat) (w : World) (hx0 : ((x : Int) == 0) = false)
    (key : IntKind.u64.wrap (bits BinOp.and IntKind.u64 (x : Int) (IntKind.u64.wrap (-(x : Int))) * 285870213051353865) / 288230376151711744 = (idx : Int))
    (hi : idx < 64) (hk : k < 64) (hcell : w.cell? ⟨1, idx, none⟩ = some (.int .u8 k)) :
    Calls Tryd.prog 130 #[.int .u64 x] w fun e w' => e = .returned (.int .i64 k) ∧ w' = w := by
  go_enter Tryd.func130, Tryd.ntmps130
  go_wp2_with (simp only [key])
  go_ret
  exact ⟨rfl, rfl⟩

theorem tz_zero (w : World) : Calls Tryd.prog 130 #[.int .u64 0] w fun e w' => e = .returned (.int .i64 64) ∧ w' = w := by
  go_enter Tryd.func130, Tryd.ntmps130
  go_wp2
  go_ret
  exact ⟨rfl, rfl⟩

theorem tz_key (x a : Nat) (hx : x < 18446744073709551616) (hx0 : x ≠ 0) (hlow : x &&& (18446744073709551616 - x) = a) :
    IntKind.u64.wrap (bits BinOp.and IntKind.u64 (x : Int) (IntKind.u64.wrap (-(x : Int))) * 285870213051353865) / 288230376151711744 = ((a * 285870213051353865 % 18446744073709551616 / 288230376151711744 : Nat) : Int) := by
  have e1 : IntKind.u64.wrap (-(x : Int)) = ((18446744073709551616 - x : Nat) : Int) := by rw [IntKind.wrap_u64]; omega
  rw [e1, bits_and_u64_nat x _ hx (by omega), hlow, IntKind.wrap_u64]
  omega

theorem c130 (x : Nat) (hx : x < 18446744073709551616) : PCalls PR glT 130 [.int .u64 x] fun r => r = vI (Lib.ctz 64 x) := by
  intro w V vs hG hlt hr
  have hvs : vs = [.int .u64 x] := by
    cases hr with
    | flat h t => rw [t.nil_inv, show _ = _ from h]
  rw [hvs]
  have h : Calls Tryd.prog 130 #[.int .u64 x] w fun e w' => e = .returned (.int .i64 (Lib.ctz 64 x)) ∧ w' = w := by
    by_cases hx0 : x = 0
    · subst hx0; exact tz_zero w
    · obtain ⟨hlow, hk⟩ := Lib.lowest_bit 64 x hx0 hx
      obtain ⟨hi, htab⟩ := Lib.deBruijn64_at _ hk
      have hcell := hG.2 _ hi
      rw [htab] at hcell
      exact tz_core x _ _ w (by simp; omega) (tz_key x _ hx hx0 hlow) hi hk hcell
  refine h.mono ?_
  rintro e w' ⟨he, rfl⟩
  exact ⟨_, he, _, rfl, Keep.refl _ _, Rep.flat1 rfl⟩

theorem op130 : Opens PR 130 := ⟨_, Tryd.func130, rfl, rfl⟩

theorem c122 (x : Nat) (hx : x < 18446744073709551616) : PCalls PR glT 122 [.int .u64 x] fun r => r = vI (Lib.ctz 64 x) := by
  refine fnW_sound (par_ok glT) Tryd.func122 ?_
  conv => whnf
  refine byC (c130 x hx) op130 ?_
  conv => whnf

theorem op122 : Opens PR 122 := ⟨_, Tryd.func122, rfl, rfl⟩

/-! ### list -/

def listGo : Nat → Nat → List Nat
  | 0, _ => []
  | f + 1, n => if n = 0 then [] else Lib.ctz 64 n :: listGo f (n &&& (n - 1))

theorem and_pred_lt {n : Nat} (h : n ≠ 0) : n &&& (n - 1) < n := Nat.lt_of_le_of_lt Nat.and_le_right (by omega)

theorem listGo_fuel : ∀ (f n : Nat), n ≤ f → listGo f n = listGo n n
  | 0, n, h => by have : n = 0 := by omega
                  subst this; rfl
  | f + 1, n, h => by
    by_cases hn : n = 0
    · subst hn; rfl
    · have hl := and_pred_lt hn
      obtain ⟨m, rfl⟩ : ∃ m, n = m + 1 := ⟨n - 1, by omega⟩
      simp only [listGo, if_neg hn]
      rw [listGo_fuel f _ (by omega), listGo_fuel m _ (by omega)]
termination_by f => f

def bitsL (n : Nat) : List Nat := listGo n n

theorem bitsL_zero : bitsL 0 = [] := rfl
theorem bitsL_pos {n : Nat} (h : n ≠ 0) : bitsL n = Lib.ctz 64 n :: bitsL (n &&& (n - 1)) := by
  unfold bitsL
  have hl := and_pred_lt h
  obtain ⟨m, rfl⟩ : ∃ m, n = m + 1 := ⟨n - 1, by omega⟩
  conv => lhs; rw [listGo, if_neg h]
  rw [listGo_fuel m _ (by omega)]

theorem bitsL_len : ∀ (n : Nat), (bitsL n).length ≤ n := by
  have : ∀ f n, (listGo f n).length ≤ f := fun f => by
    induction f with
    | zero => exact fun n => Nat.le_refl _
    | succ f ih =>
      intro n
      simp only [listGo]
      split
      · simp
      · have := ih (n &&& (n - 1)); simp; omega
  exact fun n => this n n

def fr97 (n : Nat) (l : List Int) : St S := { tmps := [vI n, .undef, .sl (S := S) U.int l (some 2), .undef, .undef, .undef, .undef, .undef, .undef, .undef, .undef, .undef, .undef, .undef, .undef, .undef], seg := [(2, .row U.int false)], up := [] }

theorem c97 (n : Nat) (hn : n < 1099511627776) : PCalls PR glT 97 [vI n] fun r => r = vL (natsV (bitsL n)) := by
  refine fnW_sound (par_ok glT) Tryd.func97 ?_
  conv => whnf
  refine ⟨⟨5, [], [2]⟩, ?_⟩
  refine LoopW_ind _ (fun s : Nat × List Int => fr97 s.1 s.2) (fun s => s.1 ≤ n ∧ s.2.length + s.1 ≤ n ∧ s.2 ++ natsV (bitsL s.1) = natsV (bitsL n)) (fun s => s.1) () ?_ (n, []) ⟨Nat.le_refl _, by simp, rfl⟩
  rintro ⟨m, l⟩ ⟨hm, hl, h⟩ Z hZ
  simp only at hm hl h
  conv => whnf
  refine bcase_iff.2 ⟨fun h1 => ?_, fun h1 => ?_⟩
  · have h1 : m ≠ 0 := by
      have : ((m : Int) != 0) = true := h1
      intro e; subst e; simp at this
    have hlt := and_pred_lt h1
    have hm63 : m < 2 ^ 63 := by omega
    rw [bitsL_pos h1] at h
    have hwr : IntKind.u64.wrap (m : Int) = m := by rw [IntKind.wrap_u64]; omega
    have hand : bitsI .and .i64 (m : Int) (IntKind.i64.wrap ((m : Int) - 1)) = ((m &&& (m - 1) : Nat) : Int) := by
      rw [wrap_sub1 (by omega) (by omega), and_nat hm63 (by omega)]
    conv => whnf
    rw [hwr]
    refine byC (c122 m (by omega)) op122 ?_
    conv => whnf
    refine ⟨_, rfl, ?_⟩
    conv => whnf
    refine ⟨?_, ?_⟩
    · show l.length + 1 ≤ 1099511627776
      omega
    conv => whnf
    refine ⟨⟨5, [13], []⟩, ?_⟩
    have := hZ (m &&& (m - 1), l ++ [((Lib.ctz 64 m : Nat) : Int)]) ⟨by omega, by simp; omega, by rw [List.append_assoc]; exact h⟩ hlt
    unfold fr97 at this
    simp only at this
    rw [← hand] at this
    exact this
  · have h1 : m = 0 := by
      have : ((m : Int) != 0) = false := h1
      simpa using this
    subst h1
    rw [bitsL_zero] at h
    conv => whnf
    rw [← h]; simp

theorem op97 : Opens PR 97 := ⟨_, Tryd.func97, rfl, rfl⟩

/-! ### Which of two lists comes first -/

def cmpI (a b : Int) : Int := if a < b then -1 else if a > b then 1 else 0

theorem c131 (gl : Gl) (x : Int) : PCalls PR gl 131 [vI x] fun r => r = vB false := by
  refine fnW_sound (par_ok gl) Tryd.func131 ?_
  conv => whnf
  have : (x != x) = false := by simp
  rw [this]

theorem op131 : Opens PR 131 := ⟨_, Tryd.func131, rfl, rfl⟩

theorem c123 (gl : Gl) (a b : Int) : PCalls PR gl 123 [vI a, vI b] fun r => r = vI (cmpI a b) := by
  refine fnW_sound (par_ok gl) Tryd.func123 ?_
  conv => whnf
  refine byC (c131 gl a) op131 ?_
  conv => whnf
  refine byC (c131 gl b) op131 ?_
  conv => whnf
  refine bcase_iff.2 ⟨fun h => ?_, fun h => ?_⟩
  · have h : a < b := of_decide_eq_true h
    conv => whnf
    unfold cmpI; rw [if_pos h]
  · have h : ¬ a < b := of_decide_eq_false h
    conv => whnf
    refine bcase_iff.2 ⟨fun h2 => ?_, fun h2 => ?_⟩
    · have h2 : a > b := of_decide_eq_true h2
      conv => whnf
      unfold cmpI; rw [if_neg h, if_pos h2]
    · have h2 : ¬ a > b := of_decide_eq_false h2
      conv => whnf
      unfold cmpI; rw [if_neg h, if_neg h2]

theorem op123 : Opens PR 123 := ⟨_, Tryd.func123, rfl, rfl⟩

def cmpL {α : Type} (c : α → α → Int) : List α → List α → Int
  | [], [] => 0
  | [], _ :: _ => -1
  | _ :: _, [] => 1
  | x :: xs, y :: ys => if c x y ≠ 0 then c x y else cmpL c xs ys

def fr100 (xs ys : List Int) (m : Int) (i : Nat) : St S := { tmps := [vL xs, vL ys, .undef, .undef, .undef, .undef, .undef, .undef, .undef, vL xs, vI m, vI i, .undef, .undef, .undef, .undef, .undef, .undef, .undef, .undef, .undef, .undef, .undef, .undef, .undef, .undef, .undef, .undef, .undef, .undef, .undef, .undef, .undef, .undef, .undef, .undef], seg := [], up := [] }

theorem c100 (gl : Gl) (xs ys : List Int) (hx : xs.length ≤ 9223372036854775807) (_hy : ys.length ≤ 9223372036854775807) : PCalls PR gl 100 [vL xs, vL ys] fun r => r = vI (cmpL cmpI xs ys) := by
  refine fnW_sound (par_ok gl) Tryd.func100 ?_
  conv => whnf
  refine ⟨⟨3587, [], []⟩, ?_⟩
  refine LoopW_ind _ (fun i : Nat => fr100 xs ys xs.length i) (fun i => i ≤ xs.length ∧ i ≤ ys.length ∧ cmpL cmpI (xs.drop i) (ys.drop i) = cmpL cmpI xs ys) (fun i => xs.length - i) () ?_ 0 ⟨Nat.zero_le _, Nat.zero_le _, rfl⟩
  rintro i ⟨hi, hiy, h⟩ Z hZ
  conv => whnf
  refine bcase_iff.2 ⟨fun h1 => ?_, fun h1 => ?_⟩
  · have hlt : i < xs.length := by have := of_decide_eq_true h1; omega
    have hw : IntKind.i64.wrap ((i : Int) + 1) = ((i + 1 : Nat) : Int) := wrap_nat (by omega)
    rw [List.drop_eq_getElem_cons hlt] at h
    conv => whnf
    refine ⟨_, getI_nat hlt, ?_⟩
    conv => whnf
    refine bcase_iff.2 ⟨fun h2 => ?_, fun h2 => ?_⟩
    · have h2 : i ≥ ys.length := by have := of_decide_eq_true h2; omega
      rw [List.drop_eq_nil_of_le h2, cmpL] at h
      conv => whnf
      rw [← h]
    · have h2 : i < ys.length := by have := of_decide_eq_false h2; omega
      rw [List.drop_eq_getElem_cons h2, cmpL] at h
      conv => whnf
      refine ⟨_, getI_nat h2, ?_⟩
      conv => whnf
      refine byC (c123 gl xs[i] ys[i]) op123 ?_
      conv => whnf
      refine bcase_iff.2 ⟨fun h3 => ?_, fun h3 => ?_⟩
      · have h3 : cmpI xs[i] ys[i] ≠ 0 := by
          have : (cmpI xs[i] ys[i] != 0) = true := h3
          simpa using this
        rw [if_pos h3] at h
        conv => whnf
        rw [← h]
      · have h3 : cmpI xs[i] ys[i] = 0 := by
          have : (cmpI xs[i] ys[i] != 0) = false := h3
          simpa using this
        rw [if_neg (by rw [h3]; simp)] at h
        conv => whnf
        refine ⟨⟨3587, [], []⟩, ?_⟩
        have := hZ (i + 1) ⟨hlt, h2, h⟩ (by omega)
        unfold fr100 at this
        rw [← hw] at this
        exact this
  · have hge : i = xs.length := by have := of_decide_eq_false h1; omega
    rw [List.drop_eq_nil_of_le (by omega)] at h
    conv => whnf
    refine bcase_iff.2 ⟨fun h2 => ?_, fun h2 => ?_⟩
    · have h2 : xs.length < ys.length := by have := of_decide_eq_true h2; omega
      rw [List.drop_eq_getElem_cons (by omega : i < ys.length), cmpL] at h
      conv => whnf
      rw [← h]
    · have h2 : ¬ xs.length < ys.length := by have := of_decide_eq_false h2; omega
      rw [List.drop_eq_nil_of_le (by omega), cmpL] at h
      conv => whnf
      rw [← h]

theorem op100 : Opens PR 100 := ⟨_, Tryd.func100, rfl, rfl⟩

/-! ### The smallest set that does -/

def skipB (s : List Int × Bool) (l : List Int) : Bool := s.2 && (decide ((l.length : Int) > s.1.length) || ((l.length : Int) == s.1.length && decide (cmpL cmpI l s.1 > 0)))

def fewStep (does : Nat → Bool) (s : List Int × Bool) (set : Nat) : List Int × Bool :=
  if skipB s (natsV (bitsL set)) then s else if does set then (natsV (bitsL set), true) else s

def few (does : Nat → Bool) (n : Nat) : List Int × Bool := (List.range n).foldl (fewStep does) ([], false)

theorem few_succ (does : Nat → Bool) (n : Nat) : few does (n + 1) = fewStep does (few does n) n := by simp [few, List.range_succ]

theorem few_len (does : Nat → Bool) : ∀ n, n ≤ 9223372036854775807 → (few does n).1.length ≤ 9223372036854775807
  | 0, _ => by simp [few]
  | n + 1, h => by
    rw [few_succ, fewStep]
    have h1 := few_len does n (by omega)
    have h2 := bitsL_len n
    split
    · exact h1
    · split
      · simp; omega
      · exact h1

def fr90 (fid : FuncId) (A : List (AV S)) (s : List Int × Bool) (m : Int) (i : Nat) : St S :=
  { tmps := [.undef, .clo (.func fid) [] [.ref A], .undef, .undef, vL s.1, vB s.2, .undef, .undef, .undef, .undef, .undef, .undef, .undef, .undef, vI m, vI i, .undef, .undef, .undef, .undef, .undef, .undef, .undef, .undef, .undef, .undef, .undef, .undef, .undef, .undef, .undef, .undef, .undef, .undef, .undef, .undef, .undef, .undef, .undef, .undef, .undef, .undef, .undef, .undef, .undef, .undef, .undef, .undef], seg := [], up := [] }

theorem c90 {xs : List (ByteArray × Int)} {cs : List (ByteArray × List Int)} (hv : Valid xs cs) (fid : FuncId) (A : List (AV S)) (does : Nat → Bool)
    (hd : ∀ n : Nat, n < 2 ^ cs.length → PCalls PR glT fid [vI n, .ref A] fun r => r = vB (does n)) (ho : Opens PR fid) (hloc : locB fid = false) :
    PCalls PR glT 90 [FC xs cs, .clo (.func fid) [] [.ref A]] fun r => r = .tup [vL (few does (2 ^ cs.length)).1, vB (few does (2 ^ cs.length)).2] := by
  have hc8 := hv.c8
  have h256 : 2 ^ cs.length ≤ 256 := Nat.pow_le_pow_right (n := 2) (by omega) hc8
  refine fnW_sound (par_ok glT) Tryd.func90 ?_
  conv => whnf
  refine ⟨Int.natCast_nonneg _, ?_⟩
  have hshl : shlI .i64 1 (cs.length : Int) = ((2 ^ cs.length : Nat) : Int) := shl_one (by omega)
  conv => whnf
  refine ⟨⟨49202, [4], [4]⟩, ?_⟩
  refine LoopW_ind _ (fun i : Nat => fr90 fid A (few does i) (shlI .i64 1 (cs.length : Int)) i) (fun i => i ≤ 2 ^ cs.length) (fun i => 2 ^ cs.length - i) () ?_ 0 (Nat.zero_le _)
  intro i hi Z hZ
  have hfl := few_len does i (by omega)
  have hbl := bitsL_len i
  have hst : few does (i + 1) = fewStep does (few does i) i := few_succ does i
  generalize hq : few does i = s at *
  obtain ⟨best, is⟩ := s
  simp only at hfl
  conv => whnf
  refine bcase_iff.2 ⟨fun h1 => ?_, fun h1 => ?_⟩
  · have hlt : i < 2 ^ cs.length := by
      have h1 : decide ((i : Int) < shlI .i64 1 (cs.length : Int)) = true := h1
      rw [hshl] at h1
      have := of_decide_eq_true h1; omega
    have hw : IntKind.i64.wrap ((i : Int) + 1) = ((i + 1 : Nat) : Int) := wrap_nat (by omega)
    have hgo : skipB (best, is) (natsV (bitsL i)) = false → few does (i + 1) = if does i then (natsV (bitsL i), true) else (best, is) := fun h => by rw [hst, fewStep, h]; rfl
    have hno : skipB (best, is) (natsV (bitsL i)) = true → few does (i + 1) = (best, is) := fun h => by rw [hst, fewStep, if_pos h]
    conv => whnf
    refine byC (c97 i (by omega)) op97 ?_
    have hdo := hd i hlt
    cases is
    · have hs := hgo rfl
      conv => whnf
      rw [show (par glT).loc fid = false from hloc]
      conv => whnf
      refine byC hdo ho ?_
      conv => whnf
      refine bcase_iff.2 ⟨fun h2 => ?_, fun h2 => ?_⟩
      · rw [if_pos h2] at hs
        conv => whnf
        refine ⟨⟨49202, [], []⟩, ?_⟩
        have := hZ (i + 1) hlt (by omega)
        unfold fr90 at this
        rw [← hw, hs] at this
        exact this
      · rw [if_neg (by rw [h2]; simp)] at hs
        conv => whnf
        refine ⟨⟨49202, [], []⟩, ?_⟩
        have := hZ (i + 1) hlt (by omega)
        unfold fr90 at this
        rw [← hw, hs] at this
        exact this
    · conv => whnf
      refine bcase_iff.2 ⟨fun h3 => ?_, fun h3 => ?_⟩
      · have hs := hno (by unfold skipB; rw [show decide (((natsV (bitsL i)).length : Int) > best.length) = true from h3]; rfl)
        conv => whnf
        refine ⟨⟨49202, [], []⟩, ?_⟩
        have := hZ (i + 1) hlt (by omega)
        unfold fr90 at this
        rw [← hw, hs] at this
        exact this
      · have h3 : decide (((natsV (bitsL i)).length : Int) > best.length) = false := h3
        conv => whnf
        refine bcase_iff.2 ⟨fun h4 => ?_, fun h4 => ?_⟩
        · have h4 : (((natsV (bitsL i)).length : Int) == best.length) = true := h4
          conv => whnf
          refine byC (c100 glT (natsV (bitsL i)) best (by simp; omega) hfl) op100 ?_
          conv => whnf
          refine bcase_iff.2 ⟨fun h5 => ?_, fun h5 => ?_⟩
          · have hs := hno (by unfold skipB; rw [h3, h4, show decide (cmpL cmpI (natsV (bitsL i)) best > 0) = true from h5]; rfl)
            conv => whnf
            refine ⟨⟨49202, [], []⟩, ?_⟩
            have := hZ (i + 1) hlt (by omega)
            unfold fr90 at this
            rw [← hw, hs] at this
            exact this
          · have hs := hgo (by unfold skipB; rw [h3, h4, show decide (cmpL cmpI (natsV (bitsL i)) best > 0) = false from h5]; rfl)
            conv => whnf
            rw [show (par glT).loc fid = false from hloc]
            conv => whnf
            refine byC hdo ho ?_
            conv => whnf
            refine bcase_iff.2 ⟨fun h2 => ?_, fun h2 => ?_⟩
            · rw [if_pos h2] at hs
              conv => whnf
              refine ⟨⟨49202, [], []⟩, ?_⟩
              have := hZ (i + 1) hlt (by omega)
              unfold fr90 at this
              rw [← hw, hs] at this
              exact this
            · rw [if_neg (by rw [h2]; simp)] at hs
              conv => whnf
              refine ⟨⟨49202, [], []⟩, ?_⟩
              have := hZ (i + 1) hlt (by omega)
              unfold fr90 at this
              rw [← hw, hs] at this
              exact this
        · have h4 : (((natsV (bitsL i)).length : Int) == best.length) = false := h4
          have hs := hgo (by unfold skipB; rw [h3, h4]; rfl)
          conv => whnf
          rw [show (par glT).loc fid = false from hloc]
          conv => whnf
          refine byC hdo ho ?_
          conv => whnf
          refine bcase_iff.2 ⟨fun h2 => ?_, fun h2 => ?_⟩
          · rw [if_pos h2] at hs
            conv => whnf
            refine ⟨⟨49202, [], []⟩, ?_⟩
            have := hZ (i + 1) hlt (by omega)
            unfold fr90 at this
            rw [← hw, hs] at this
            exact this
          · rw [if_neg (by rw [h2]; simp)] at hs
            conv => whnf
            refine ⟨⟨49202, [], []⟩, ?_⟩
            have := hZ (i + 1) hlt (by omega)
            unfold fr90 at this
            rw [← hw, hs] at this
            exact this
  · have hge : i = 2 ^ cs.length := by
      have h1 : decide ((i : Int) < shlI .i64 1 (cs.length : Int)) = false := h1
      rw [hshl] at h1
      have := of_decide_eq_false h1; omega
    subst hge
    conv => whnf
    rw [hq]

theorem op90 : Opens PR 90 := ⟨_, Tryd.func90, rfl, rfl⟩

/-! ### Proof, Wrong -/

theorem c91 (gl : Gl) {xs : List (ByteArray × Int)} {cs : List (ByteArray × List Int)} (hv : Valid xs cs) (set : Nat) (hset : set < 2 ^ 63) :
    PCalls PR gl 91 [vI set, .ref [FC xs cs]] fun r => r = vB (!!emptyB (ordS xs cs set)) := by
  refine fnW_sound (par_ok gl) Tryd.func91 ?_
  conv => whnf
  refine byC (c92 gl hv set hset) op92 ?_
  conv => whnf

theorem op91 : Opens PR 91 := ⟨_, Tryd.func91, rfl, rfl⟩

theorem c96 (gl : Gl) {xs : List (ByteArray × Int)} {cs : List (ByteArray × List Int)} (hv : Valid xs cs) (set : Nat) (hset : set < 2 ^ 63) :
    PCalls PR gl 96 [vI set, .ref [FC xs cs]] fun r => r = vB (!emptyB (ordS xs cs (less (whl cs) set))) := by
  have hc8 := hv.c8
  refine fnW_sound (par_ok gl) Tryd.func96 ?_
  conv => whnf
  refine ⟨[0, 1, 3, 2, 4, 5, 6], [], [], [], ⟨1023, [], []⟩, by decide +kernel, ?_⟩
  conv => whnf
  refine byC (c77 gl xs cs (shL cs) (by omega)) op77 ?_
  conv => whnf
  rw [show bitsI .andNot .i64 ((2 ^ cs.length - 1 : Nat) : Int) (set : Int) = ((less (whl cs) set : Nat) : Int) from andNot_nat (whl_lt hv) hset]
  refine byC (c92 gl hv (less (whl cs) set) (less_lt (whl_lt hv))) op92 ?_
  conv => whnf

theorem op96 : Opens PR 96 := ⟨_, Tryd.func96, rfl, rfl⟩

def proofR (xs : List (ByteArray × Int)) (cs : List (ByteArray × List Int)) : List Int × Int :=
  if (chk xs cs).2.2 ≠ 0 then ([], (chk xs cs).2.2) else
  let p := few (fun s => !!emptyB (ordS xs cs s)) (2 ^ cs.length)
  if p.2 then (p.1, 0) else ([], 4)

def wrongR (xs : List (ByteArray × Int)) (cs : List (ByteArray × List Int)) : List Int × Int :=
  if (chk xs cs).2.2 ≠ 0 then ([], (chk xs cs).2.2) else ((few (fun s => !emptyB (ordS xs cs (less (whl cs) s))) (2 ^ cs.length)).1, 0)

theorem c35 (xs : List (ByteArray × Int)) (cs : List (ByteArray × List Int)) (hL : Lens xs cs) : PCalls PR glT 35 [forV xs cs] fun r => r = lstV (proofR xs cs) := by
  refine fnW_sound (par_ok glT) Tryd.func35 ?_
  conv => whnf
  refine byC (cOpen glT hL) op71 ?_
  by_cases hk : (chk xs cs).2.2 = 0
  · have hv := chk_valid hk
    have hc8 := hv.c8
    have h63 : ∀ n : Nat, n < 2 ^ cs.length → n < 2 ^ 63 := fun n hn => Nat.lt_of_lt_of_le hn (Nat.pow_le_pow_right (by omega) (by omega))
    rw [if_pos hk]
    have hR : proofR xs cs = if (few (fun s => !!emptyB (ordS xs cs s)) (2 ^ cs.length)).2 then ((few (fun s => !!emptyB (ordS xs cs s)) (2 ^ cs.length)).1, 0) else ([], 4) := by unfold proofR; rw [if_neg (by rw [hk]; simp)]
    conv => whnf
    refine byC (c90 hv 91 [FC xs cs] (fun s => !!emptyB (ordS xs cs s)) (fun n hn => c91 glT hv n (h63 n hn)) op91 rfl) op90 ?_
    conv => whnf
    refine bcase_iff.2 ⟨fun h1 => ?_, fun h1 => ?_⟩
    · have h1 : (few (fun s => !!emptyB (ordS xs cs s)) (2 ^ cs.length)).2 = false := by
        have : (!(few (fun s => !!emptyB (ordS xs cs s)) (2 ^ cs.length)).2) = true := h1
        simpa using this
      conv => whnf
      rw [hR, h1]; rfl
    · have h1 : (few (fun s => !!emptyB (ordS xs cs s)) (2 ^ cs.length)).2 = true := by
        have : (!(few (fun s => !!emptyB (ordS xs cs s)) (2 ^ cs.length)).2) = false := h1
        simpa using this
      conv => whnf
      rw [hR, h1]; rfl
  · rw [if_neg hk]
    conv => whnf
    refine bcase_iff.2 ⟨fun h1 => ?_, fun h1 => ?_⟩
    · conv => whnf
      unfold proofR; rw [if_pos hk]
    · exfalso
      have : ((chk xs cs).2.2 != 0) = false := h1
      exact hk (by simpa using this)

theorem c37 (xs : List (ByteArray × Int)) (cs : List (ByteArray × List Int)) (hL : Lens xs cs) : PCalls PR glT 37 [forV xs cs] fun r => r = lstV (wrongR xs cs) := by
  refine fnW_sound (par_ok glT) Tryd.func37 ?_
  conv => whnf
  refine byC (cOpen glT hL) op71 ?_
  by_cases hk : (chk xs cs).2.2 = 0
  · have hv := chk_valid hk
    have hc8 := hv.c8
    have h63 : ∀ n : Nat, n < 2 ^ cs.length → n < 2 ^ 63 := fun n hn => Nat.lt_of_lt_of_le hn (Nat.pow_le_pow_right (by omega) (by omega))
    rw [if_pos hk]
    have hR : wrongR xs cs = ((few (fun s => !emptyB (ordS xs cs (less (whl cs) s))) (2 ^ cs.length)).1, 0) := by unfold wrongR; rw [if_neg (by rw [hk]; simp)]
    conv => whnf
    refine byC (c90 hv 96 [FC xs cs] (fun s => !emptyB (ordS xs cs (less (whl cs) s))) (fun n hn => c96 glT hv n (h63 n hn)) op96 rfl) op90 ?_
    conv => whnf
    rw [hR]
  · rw [if_neg hk]
    conv => whnf
    refine bcase_iff.2 ⟨fun h1 => ?_, fun h1 => ?_⟩
    · conv => whnf
      unfold wrongR; rw [if_pos hk]
    · exfalso
      have : ((chk xs cs).2.2 != 0) = false := h1
      exact hk (by simpa using this)
end Go.Ab.StF

namespace Go.Ab.StF
open Go Go.Ab Go.Proofs
set_option maxHeartbeats 1000000
set_option maxRecDepth 100000

abbrev rdgV (p : Int × Int) : AV S := .agg [vI p.1, vI p.2]
abbrev rdgsV (xs : List (Int × Int)) : AV S := .sl (S := S) U.reading xs none

def cmpRd (a b : Int × Int) : Int := if a.1 == b.1 && a.2 == b.2 then 0 else if a.1 != b.1 then IntKind.i64.wrap (a.1 - b.1) else IntKind.i64.wrap (a.2 - b.2)

theorem c102 (gl : Gl) (a b : Int × Int) : PCalls PR gl 102 [rdgV a, rdgV b] fun r => r = vI (cmpRd a b) := by
  refine fnW_sound (par_ok gl) Tryd.func102 ?_
  conv => whnf
  refine ⟨_, rfl, ?_⟩
  conv => whnf
  refine bcase_iff.2 ⟨fun h => ?_, fun h => ?_⟩
  · have h : (a.1 == b.1 && a.2 == b.2) = true := h
    conv => whnf
    unfold cmpRd; rw [if_pos h]
  · have h : (a.1 == b.1 && a.2 == b.2) = false := h
    conv => whnf
    refine bcase_iff.2 ⟨fun h2 => ?_, fun h2 => ?_⟩
    · have h2 : (a.1 != b.1) = true := h2
      conv => whnf
      unfold cmpRd; rw [if_neg (by rw [h]; simp), if_pos h2]
    · have h2 : (a.1 != b.1) = false := h2
      conv => whnf
      unfold cmpRd; rw [if_neg (by rw [h]; simp), if_neg (by rw [h2]; simp)]

theorem op102 : Opens PR 102 := ⟨_, Tryd.func102, rfl, rfl⟩

def fr101 (xs ys : List (Int × Int)) (m : Int) (i : Nat) : St S := { tmps := [rdgsV xs, rdgsV ys, .clo (.func 102) [] [], .undef, .undef, .undef, .undef, .undef, .undef, .undef, .undef, rdgsV xs, vI m, vI i, .undef, .undef, .undef, .undef, .undef, .undef, .undef, .undef, .undef, .undef, .undef, .undef, .undef, .undef, .undef, .undef, .undef, .undef, .undef, .undef, .undef, .undef, .undef, .undef, .undef], seg := [], up := [] }

theorem c101 (gl : Gl) (xs ys : List (Int × Int)) (hx : xs.length ≤ 9223372036854775807) (_hy : ys.length ≤ 9223372036854775807) : PCalls PR gl 101 [rdgsV xs, rdgsV ys, .clo (.func 102) [] []] fun r => r = vI (cmpL cmpRd xs ys) := by
  refine fnW_sound (par_ok gl) Tryd.func101 ?_
  conv => whnf
  refine ⟨⟨14343, [], []⟩, ?_⟩
  refine LoopW_ind _ (fun i : Nat => fr101 xs ys xs.length i) (fun i => i ≤ xs.length ∧ i ≤ ys.length ∧ cmpL cmpRd (xs.drop i) (ys.drop i) = cmpL cmpRd xs ys) (fun i => xs.length - i) () ?_ 0 ⟨Nat.zero_le _, Nat.zero_le _, rfl⟩
  rintro i ⟨hi, hiy, h⟩ Z hZ
  conv => whnf
  refine bcase_iff.2 ⟨fun h1 => ?_, fun h1 => ?_⟩
  · have hlt : i < xs.length := by have := of_decide_eq_true h1; omega
    have hw : IntKind.i64.wrap ((i : Int) + 1) = ((i + 1 : Nat) : Int) := wrap_nat (by omega)
    rw [List.drop_eq_getElem_cons hlt] at h
    conv => whnf
    refine ⟨_, getI_nat hlt, ?_⟩
    conv => whnf
    refine bcase_iff.2 ⟨fun h2 => ?_, fun h2 => ?_⟩
    · have h2 : i ≥ ys.length := by have := of_decide_eq_true h2; omega
      rw [List.drop_eq_nil_of_le h2, cmpL] at h
      conv => whnf
      rw [← h]
    · have h2 : i < ys.length := by have := of_decide_eq_false h2; omega
      rw [List.drop_eq_getElem_cons h2, cmpL] at h
      conv => whnf
      refine ⟨_, getI_nat h2, ?_⟩
      conv => whnf
      refine byC (c102 gl xs[i] ys[i]) op102 ?_
      conv => whnf
      refine bcase_iff.2 ⟨fun h3 => ?_, fun h3 => ?_⟩
      · have h3 : cmpRd xs[i] ys[i] ≠ 0 := by
          have : (cmpRd xs[i] ys[i] != 0) = true := h3
          simpa using this
        rw [if_pos h3] at h
        conv => whnf
        rw [← h]
      · have h3 : cmpRd xs[i] ys[i] = 0 := by
          have : (cmpRd xs[i] ys[i] != 0) = false := h3
          simpa using this
        rw [if_neg (by rw [h3]; simp)] at h
        conv => whnf
        refine ⟨⟨14343, [8, 9], []⟩, ?_⟩
        have := hZ (i + 1) ⟨hlt, h2, h⟩ (by omega)
        unfold fr101 at this
        rw [← hw] at this
        exact this
  · have hge : i = xs.length := by have := of_decide_eq_false h1; omega
    rw [List.drop_eq_nil_of_le (by omega)] at h
    conv => whnf
    refine bcase_iff.2 ⟨fun h2 => ?_, fun h2 => ?_⟩
    · have h2 : xs.length < ys.length := by have := of_decide_eq_true h2; omega
      rw [List.drop_eq_getElem_cons (by omega : i < ys.length), cmpL] at h
      conv => whnf
      rw [← h]
    · have h2 : ¬ xs.length < ys.length := by have := of_decide_eq_false h2; omega
      rw [List.drop_eq_nil_of_le (by omega), cmpL] at h
      conv => whnf
      rw [← h]

theorem op101 : Opens PR 101 := ⟨_, Tryd.func101, rfl, rfl⟩

/-! ### First -/

theorem ford_len {n : Nat} {ah : List Nat} : ∀ (m d : Nat) (path : List Nat), (ford n ah m d path).length ≤ n ^ m
  | 0, d, path => by simp [ford]
  | m + 1, d, path => by
    have hgo : ∀ (l : List Nat), (l.flatMap fun k => if d.testBit k || less (ah.getD k 0) d != 0 then [] else ford n ah m (d ||| 2 ^ k) (path ++ [k])).length ≤ l.length * n ^ m := fun l => by
      induction l with
      | nil => simp
      | cons k l ih =>
        rw [List.flatMap_cons, List.length_append, List.length_cons, Nat.succ_mul]
        have : (if d.testBit k || less (ah.getD k 0) d != 0 then [] else ford n ah m (d ||| 2 ^ k) (path ++ [k])).length ≤ n ^ m := by
          split
          · exact Nat.zero_le _
          · exact ford_len m _ _
        omega
    have := hgo (List.range n)
    rw [List.length_range, Nat.mul_comm, ← Nat.pow_succ] at this
    exact this

theorem ffirst_len : ∀ (ks : List Int) (i f : Nat), (ffirst ks i f).length ≤ 2 ^ ks.length
  | [], i, f => by simp [ffirst]
  | k :: ks, i, f => by
    have h1 := ffirst_len ks (i + 1) f
    have h2 := ffirst_len ks (i + 1) (f ||| 2 ^ i)
    simp only [ffirst, List.length_append, List.length_cons, Nat.pow_succ]
    split <;> split <;> simp <;> omega

theorem ordS_len {xs : List (ByteArray × Int)} {cs : List (ByteArray × List Int)} (hv : Valid xs cs) (set : Nat) : (ordS xs cs set).length ≤ 100000 := by
  have h5 := hv.l5
  have hgo : ∀ l : List Nat, (l.flatMap fun f => (ford xs.length (aheadL xs.length (msL cs) set f (msL cs).length) xs.length 0 []).map fun os => (f, pad5 os)).length ≤ l.length * 3125 := fun l => by
    induction l with
    | nil => simp
    | cons f l ih =>
      rw [List.flatMap_cons, List.length_append, List.length_cons, Nat.succ_mul, List.length_map]
      have h1 := ford_len (n := xs.length) (ah := aheadL xs.length (msL cs) set f (msL cs).length) xs.length 0 []
      have h2 : xs.length ^ xs.length ≤ 5 ^ 5 := Nat.le_trans (Nat.pow_le_pow_left h5 _) (Nat.pow_le_pow_right (by omega) h5)
      omega
  have h1 := hgo (ffirst (xs.map Prod.snd) 0 0)
  have h2 := ffirst_len (xs.map Prod.snd) 0 0
  have h3 : 2 ^ (xs.map Prod.snd).length ≤ 2 ^ 5 := Nat.pow_le_pow_right (by omega) (by simpa using h5)
  have h4 : (ffirst (xs.map Prod.snd) 0 0).length * 3125 ≤ 32 * 3125 := Nat.mul_le_mul_right _ (by omega)
  exact Nat.le_trans h1 h4

def fstL (n : Nat) (p : Nat × List Nat) : List Int := (List.range n).map fun i => rdV i p

def firstR (xs : List (ByteArray × Int)) (cs : List (ByteArray × List Int)) : (List Int × List Int) × Int × Int :=
  if askE xs cs 0 [] ≠ 0 then (([], []), 0, askE xs cs 0 []) else match ordS xs cs (whl cs) with
  | [] => (([], []), 0, 0)
  | p :: l => ((fstL xs.length p, natsV (p.2.take xs.length)), (l.length + 1 : Nat), 0)

abbrev fstV (r : (List Int × List Int) × Int × Int) : AV S := .tup [.agg [vL r.1.1, vL r.1.2], vI r.2.1, vI r.2.2]

def ts21 (xs : List (ByteArray × Int)) (cs : List (ByteArray × List Int)) : List (AV S) := [.undef, .own 1 [], .own 2 [], .own 3 [], .undef, .undef, .undef, .undef, .undef, .undef, .undef, .undef, .undef, .undef, .undef, .undef, .undef, .undef, .undef, .undef, .clo (.func 115) [] [.ref [.ref (fcs xs cs (shL cs))], .ref [vI (whl cs)]], .undef, .undef, .undef, .undef, .undef, .undef, .undef, .undef, .undef, .undef, .undef, .undef, .undef, .undef, .undef, .undef, .undef, .undef, .undef, .undef, .undef, .undef, .undef, .undef, .undef, .undef, .undef, .undef, .undef, .undef, .undef, .undef, .undef, .undef, .undef]

def sg21 (xs : List (ByteArray × Int)) (cs : List (ByteArray × List Int)) : Option (Nat × List Nat) × Nat → List (Nat × AO S)
  | (none, m) => [(1, .cells [lociV xs, copsV cs]), (2, .cells [.sl (S := S) U.int [] (some 1002), .sl (S := S) U.int [] (some 2002)]), (3, .cells [vI m]), (1002, .row U.int true), (2002, .row U.int true)]
  | (some p, m) => [(1, .cells [lociV xs, copsV cs]), (2, .cells [.sl (S := S) U.int (fstL xs.length p) (some 1002), .sl (S := S) U.int (ovl (natsV p.2) (List.replicate xs.length (0 : Int))) (some 47)]), (3, .cells [vI m]), (47, .row U.int true), (1002, .row U.int false), (2002, .row U.int true)]

def fr21 (xs : List (ByteArray × Int)) (cs : List (ByteArray × List Int)) (p : Nat × List Nat) (m k : Int) (l : List Int) (i : Nat) : St S :=
  { tmps := [.undef, .own 1 [], .own 2 [], .undef, .undef, .undef, .own 6 [], .undef, .undef, .undef, .undef, .undef, .undef, .undef, .undef, .undef, .undef, .undef, .undef, .undef, .undef, .undef, .undef, .undef, .undef, .undef, .undef, .undef, vI m, vI i, .undef, .undef, .undef, .undef, .undef, .undef, .undef, .undef, .undef, .undef, .undef, .undef, .undef, .undef, .undef, .undef, .undef, .undef, .undef, .undef, .undef, .undef, .undef, .undef, .undef, .undef]
    seg := [(1, .cells [lociV xs, copsV cs]), (2, .cells [.sl (S := S) U.int l (some 1002), .sl (S := S) U.int [] (some 2002)]), (3, .cells [vI k]), (6, .cells [vI p.1, .arr (S := S) U.int 5 (natsV p.2)]), (1002, .row U.int false), (2002, .row U.int true)]
    up := [] }

theorem c21 (gl : Gl) (xs : List (ByteArray × Int)) (cs : List (ByteArray × List Int)) (hL : Lens xs cs) : PCalls PR gl 21 [forV xs cs] fun r => r = fstV (firstR xs cs) := by
  refine fnW_sound (par_ok gl) Tryd.func21 ?_
  conv => whnf
  refine byC (c75 gl xs cs hL 0 (by omega) (by omega) [] (by simp)) op75 ?_
  by_cases hk : askE xs cs 0 [] = 0
  · obtain ⟨hv, _, hne⟩ := ask0 hk
    have h5 := hv.l5
    have hc8 := hv.c8
    have hln := ordS_len hv (whl cs)
    have hR : firstR xs cs = match ordS xs cs (whl cs) with
      | [] => (([], []), 0, 0)
      | p :: l => ((fstL xs.length p, natsV (p.2.take xs.length)), (l.length + 1 : Nat), 0) := by unfold firstR; rw [if_neg (by rw [hk]; simp)]
    rw [if_pos hk]
    conv => whnf
    refine byC (c77 gl xs cs (shL cs) (by omega)) op77 ?_
    conv => whnf
    refine byC (c76 gl _ (whl cs)) op76 ?_
    conv => whnf
    refine ⟨⟨1048590, [], []⟩, ?_⟩
    conv => whnf
    refine ⟨(ordS xs cs (whl cs)).map fun p => [ordV p.1 p.2], ⟨itS gl hv (whl cs) (whl_lt hv), op115⟩, ?_⟩
    refine eachW_indS (fun p : Nat × List Nat => [ordV p.1 p.2]) (ts21 xs cs) (sg21 xs cs) [] (fun l s _ => (∀ p ∈ l, p ∈ ordS xs cs (whl cs)) ∧ l.length + s.2 = (ordS xs cs (whl cs)).length ∧ (match s.1 with
      | none => l = ordS xs cs (whl cs) ∧ s.2 = 0
      | some p => 1 ≤ s.2 ∧ ∃ q, ordS xs cs (whl cs) = p :: q)) ?_ ?_ _ (none, 0) () ⟨fun _ h => h, rfl, rfl, rfl⟩
    · rintro ⟨o, m⟩ _ ⟨_, hm, ho⟩
      cases o with
      | none => exact absurd ho.1.symm hne
      | some p =>
        obtain ⟨_, q, hq⟩ := ho
        rw [hq] at hR hm
        conv => whnf
        refine ⟨[0, 1, 2, 3, 4], [2], [], [], ⟨72057594037927935, [], []⟩, by decide +kernel, ?_⟩
        conv => whnf
        refine ⟨rfl, ?_⟩
        conv => whnf
        obtain ⟨_, g2, _, _⟩ := ordS_ok hv p (by rw [hq]; exact List.mem_cons_self ..)
        have hov : ovl (natsV p.2) (List.replicate xs.length (0 : Int)) = natsV (p.2.take xs.length) := by
          unfold ovl
          rw [List.length_replicate, List.drop_eq_nil_of_le (by simp; omega), List.append_nil]
          simp [natsV]
        have hm : m = q.length + 1 := by simp at hm; omega
        rw [hR, hov, hm]
    · rintro p l ⟨o, m⟩ _ ⟨hp, hm, ho⟩ Z hZ
      obtain ⟨g1, g2, g3, _⟩ := ordS_ok hv p (hp p (List.mem_cons_self ..))
      have hp' : ∀ q ∈ l, q ∈ ordS xs cs (whl cs) := fun q hq => hp q (List.mem_cons_of_mem _ hq)
      simp only at hm
      have hw : IntKind.i64.wrap ((m : Int) + 1) = ((m + 1 : Nat) : Int) := wrap_nat (by simp at hm; omega)
      cases o with
      | some q =>
        obtain ⟨hm1, ho⟩ := ho
        conv => whnf
        refine bcase_iff.2 ⟨fun h1 => ?_, fun h1 => ?_⟩
        · conv => whnf
          refine ⟨⟨0, [6], []⟩, ?_⟩
          conv => whnf
          have := hZ (some q, m + 1) () ⟨hp', by simp at hm ⊢; omega, by simp only; omega, ho⟩
          unfold sg21 at this
          simp only at this
          rw [← hw] at this
          exact this
        · exfalso
          have h1 : decide (IntKind.i64.wrap ((m : Int) + 1) > 1) = false := h1
          rw [hw] at h1
          have := of_decide_eq_false h1
          simp only at hm1; omega
      | none =>
        obtain ⟨ho, hm0⟩ := ho
        simp only at ho hm0
        subst hm0
        conv => whnf
        refine ⟨⟨805306438, [], [1002]⟩, ?_⟩
        refine LoopW_ind _ (fun i : Nat => fr21 xs cs p xs.length 1 ((List.range i).map fun i => rdV i p) i) (fun i => i ≤ xs.length) (fun i => xs.length - i) () ?_ 0 (Nat.zero_le _)
        intro i hi Z2 hZ2
        conv => whnf
        refine bcase_iff.2 ⟨fun h1 => ?_, fun h1 => ?_⟩
        · have hlt : i < xs.length := by have := of_decide_eq_true h1; omega
          have hw2 : IntKind.i64.wrap ((i : Int) + 1) = ((i + 1 : Nat) : Int) := wrap_nat (by omega)
          have hs : ((List.range (i + 1)).map fun i => rdV i p) = ((List.range i).map fun i => rdV i p) ++ [rdV i p] := by simp [List.range_succ]
          have hrd : IntKind.i64.wrap (1 + bitsI .and .i64 (shrI .i64 (p.1 : Int) (i : Int)) 1) = rdV i p := by
            rw [bit_eq g1 (show i < 64 by omega)]; unfold rdV; cases p.1.testBit i <;> rfl
          conv => whnf
          refine ⟨[0, 1, 2, 3, 4, 5, 6, 7, 8, 9, 10, 11], [8], [], [], ⟨72057594037927935, [], []⟩, by decide +kernel, ?_⟩
          conv => whnf
          refine ⟨Int.natCast_nonneg _, ?_⟩
          conv => whnf
          refine ⟨_, rfl, ?_⟩
          conv => whnf
          refine ⟨?_, ?_⟩
          · show ((List.range i).map fun i => rdV i p).length + 1 ≤ 1099511627776
            simp; omega
          conv => whnf
          refine ⟨⟨805306438, [40], []⟩, ?_⟩
          have := hZ2 (i + 1) hlt (by omega)
          unfold fr21 at this
          rw [← hw2, hs, ← hrd] at this
          exact this
        · have hge : i = xs.length := by have := of_decide_eq_false h1; omega
          subst hge
          conv => whnf
          refine ⟨⟨Int.natCast_nonneg _, Int.le_refl _, by omega⟩, _, rfl, ?_⟩
          conv => whnf
          refine ⟨[0, 1, 2, 3, 4], [], [], [], ⟨72057594037927935, [], [6]⟩, by decide +kernel, ?_⟩
          conv => whnf
          refine ⟨Nat.zero_le _, Nat.le_refl _, ?_⟩
          conv => whnf
          refine ⟨⟨0, [6], []⟩, ?_⟩
          conv => whnf
          have := hZ (some p, 1) () ⟨hp', by simp at hm ⊢; omega, Nat.le_refl _, l, ho.symm⟩
          have ht : List.drop 0 (List.take 5 (natsV p.2)) = natsV p.2 := by rw [List.drop_zero, List.take_of_length_le (by simp; omega)]
          unfold sg21 at this
          simp only at this
          rw [← ht] at this
          exact this

  · rw [if_neg hk]
    conv => whnf
    refine bcase_iff.2 ⟨fun h1 => ?_, fun h1 => ?_⟩
    · conv => whnf
      unfold firstR; rw [if_pos hk]
    · exfalso
      have : (askE xs cs 0 [] != 0) = false := h1
      exact hk (by simpa using this)

theorem op21 : Opens PR 21 := ⟨_, Tryd.func21, rfl, rfl⟩
end Go.Ab.StF

namespace Go.Ab.StF
open Go Go.Ab Go.Proofs
set_option maxHeartbeats 4000000
set_option maxRecDepth 100000

abbrev keyV (k : List Int) : AV S := .agg [.arr (S := S) U.int 3 k]
abbrev kvsV (L : List (List Int × List Int)) : List (AV S × AV S) := L.map fun e => (keyV e.1, vL e.2)

def lkL (k : List Int) : List (List Int × List Int) → Option (List Int)
  | [] => none
  | e :: l => if k == e.1 then some e.2 else lkL k l

theorem look_kvs (k : List Int) : ∀ L : List (List Int × List Int), lookM keq3 (keyV k) (kvsV L) = some ((lkL k L).map vL)
  | [] => rfl
  | e :: L => by
    have hq : keq3 (keyV k) (keyV e.1) = some (k == e.1) := rfl
    simp only [kvsV, List.map_cons, lookM, hq, lkL]
    cases h : k == e.1 with
    | true => rfl
    | false => simp only [Bool.false_eq_true, if_false]; exact look_kvs k L

theorem lkL_some {k v : List Int} : ∀ {L : List (List Int × List Int)}, lkL k L = some v → (k, v) ∈ L
  | [], h => by cases h
  | e :: L, h => by
    simp only [lkL] at h
    split at h
    · rename_i hk
      have : k = e.1 := by simpa using hk
      cases h; subst this; exact List.mem_cons_self ..
    · exact List.mem_cons_of_mem _ (lkL_some h)

/-- The readings of a copy that are not so after some corrections, as loci. -/
def misM (m : Nat × Nat) (f d : Nat) : Nat := less (fixedM m.1 m.2 f) d ||| (looseM m.1 m.2 f &&& d)

theorem less_ltp {a b n : Nat} (ha : a < 2 ^ n) : less a b < 2 ^ n := Nat.xor_lt_two_pow ha (Nat.lt_of_le_of_lt Nat.and_le_left ha)

theorem misM_lt {m : Nat × Nat} {n : Nat} (h1 : m.1 < 2 ^ n) (h2 : m.2 < 2 ^ n) (f d : Nat) : misM m f d < 2 ^ n := by
  have ha : fixedM m.1 m.2 f < 2 ^ n := Nat.or_lt_two_pow (Nat.lt_of_le_of_lt Nat.and_le_left h1) (less_ltp h2)
  have hb : looseM m.1 m.2 f < 2 ^ n := Nat.or_lt_two_pow (less_ltp h1) (Nat.lt_of_le_of_lt Nat.and_le_left h2)
  exact Nat.or_lt_two_pow (less_ltp ha) (Nat.lt_of_le_of_lt Nat.and_le_left hb)

abbrev mOf (cs : List (ByteArray × List Int)) (i : Nat) : Nat × Nat := (msL cs).getD i (0, 0)

theorem mOf_lt {xs : List (ByteArray × Int)} {cs : List (ByteArray × List Int)} (hv : Valid xs cs) (i : Nat) : (mOf cs i).1 < 2 ^ 5 ∧ (mOf cs i).2 < 2 ^ 5 := by
  rcases Nat.lt_or_ge i cs.length with hi | hi
  · rw [mOf, msL_get hi]
    have h5 := hv.l5
    have hl := hv.len _ (List.getElem_mem hi)
    exact ⟨Nat.lt_of_lt_of_le (mask_lt _ _) (Nat.pow_le_pow_right (by omega) (by omega)), Nat.lt_of_lt_of_le (mask_lt _ _) (Nat.pow_le_pow_right (by omega) (by omega))⟩
  · rw [mOf, List.getD_eq_getElem?_getD, List.getElem?_eq_none (by simpa [msL] using hi)]; exact ⟨Nat.two_pow_pos _, Nat.two_pow_pos _⟩

def yOf (m : Nat × Nat) (f d : Nat) : List Int := natsV (bitsL (misM m f d))

def doneAt (os : List Nat) (n : Nat) : Nat := (os.take n).foldl (fun d k => d ||| 2 ^ k) 0

theorem doneAt_succ {os : List Nat} {n : Nat} (h : n < os.length) : doneAt os (n + 1) = doneAt os n ||| 2 ^ os[n] := by
  simp only [doneAt, take_succ' h, List.foldl_append, List.foldl_cons, List.foldl_nil]

theorem doneAt_lt {os : List Nat} (h : ∀ k ∈ os, k < 63) (n : Nat) : doneAt os n < 2 ^ 63 := by
  have : ∀ (l : List Nat) (d : Nat), (∀ k ∈ l, k < 63) → d < 2 ^ 63 → l.foldl (fun d k => d ||| 2 ^ k) d < 2 ^ 63 := fun l => by
    induction l with
    | nil => exact fun d _ h => h
    | cons k l ih => exact fun d hl hd => ih _ (fun q hq => hl q (List.mem_cons_of_mem _ hq)) (Nat.or_lt_two_pow hd (Nat.pow_lt_pow_right (by omega) (hl k (List.mem_cons_self ..))))
  exact this _ 0 (fun k hk => h k (List.mem_of_mem_take hk)) (Nat.two_pow_pos _)

def ltB (y own : List Int) : Bool := decide ((y.length : Int) < own.length) || ((y.length : Int) == own.length && decide (cmpL cmpI y own < 0))

/-- The fewest of a copy. -/
def ownUp (m : Nat × Nat) (f : Nat) (os : List Nat) : Nat → List Int
  | 0 => []
  | n + 1 => if n == 0 || ltB (yOf m f (doneAt os n)) (ownUp m f os n) then yOf m f (doneAt os n) else ownUp m f os n

theorem yOf_len {m : Nat × Nat} (h1 : m.1 < 2 ^ 5) (h2 : m.2 < 2 ^ 5) (f d : Nat) : (yOf m f d).length ≤ 32 := by
  have := bitsL_len (misM m f d)
  have h := misM_lt h1 h2 f d
  simp only [yOf, natsV, List.length_map]; omega

theorem ownUp_len {m : Nat × Nat} (h1 : m.1 < 2 ^ 5) (h2 : m.2 < 2 ^ 5) (f : Nat) (os : List Nat) : ∀ n, (ownUp m f os n).length ≤ 32
  | 0 => by simp [ownUp]
  | n + 1 => by
    rw [ownUp]
    split
    · exact yOf_len h1 h2 f _
    · exact ownUp_len h1 h2 f os n

/-- The fewest of the first copies. -/
def misUp (xs : List (ByteArray × Int)) (cs : List (ByteArray × List Int)) (p : Nat × List Nat) : Nat → List (Int × Int)
  | 0 => []
  | i + 1 => misUp xs cs p i ++ (ownUp (mOf cs i) p.1 p.2 (xs.length + 1)).map fun k => ((i : Int), k)

def ltRd (l best : List (Int × Int)) : Bool := decide ((l.length : Int) < best.length) || ((l.length : Int) == best.length && decide (cmpL cmpRd l best < 0))

def mistStep (xs : List (ByteArray × Int)) (cs : List (ByteArray × List Int)) (s : List (Int × Int) × Bool) (p : Nat × List Nat) : List (Int × Int) × Bool :=
  if !s.2 || ltRd (misUp xs cs p cs.length) s.1 then (misUp xs cs p cs.length, true) else s

def mistR (xs : List (ByteArray × Int)) (cs : List (ByteArray × List Int)) : List (Int × Int) × Int :=
  if (chk xs cs).2.2 ≠ 0 then ([], (chk xs cs).2.2) else (((ordS xs cs 0).foldl (mistStep xs cs) ([], false)).1, 0)

theorem misUp_len {xs : List (ByteArray × Int)} {cs : List (ByteArray × List Int)} (hv : Valid xs cs) (p : Nat × List Nat) : ∀ i, (misUp xs cs p i).length ≤ 32 * i
  | 0 => by simp [misUp]
  | i + 1 => by
    have h1 := misUp_len hv p i
    have h2 := ownUp_len (mOf_lt hv i).1 (mOf_lt hv i).2 p.1 p.2 (xs.length + 1)
    rw [misUp]; simp only [List.length_append, List.length_map]; omega

theorem cFix (gl : Gl) {xs : List (ByteArray × Int)} {cs : List (ByteArray × List Int)} (h : Valid xs cs) (i f : Nat) (hi : i < cs.length) (hf : f < 2 ^ 63) :
    PCalls PR gl 98 [FC xs cs, vI i, vI f] fun r => r = vI (fixedM (mOf cs i).1 (mOf cs i).2 f) := by
  have hm := masks_ok h
  obtain ⟨u, hu⟩ := hm.sh i (by rw [hm.len]; exact hi)
  obtain ⟨ha, hb⟩ := hm.lt i
  exact c98 gl xs cs (shL cs) i f _ _ u hu hf ha hb

theorem cLoose (gl : Gl) {xs : List (ByteArray × Int)} {cs : List (ByteArray × List Int)} (h : Valid xs cs) (i f : Nat) (hi : i < cs.length) (hf : f < 2 ^ 63) :
    PCalls PR gl 99 [FC xs cs, vI i, vI f] fun r => r = vI (looseM (mOf cs i).1 (mOf cs i).2 f) := by
  have hm := masks_ok h
  obtain ⟨u, hu⟩ := hm.sh i (by rw [hm.len]; exact hi)
  obtain ⟨ha, hb⟩ := hm.lt i
  exact c99 gl xs cs (shL cs) i f _ _ u hu hf ha hb

theorem mis_bits {m : Nat × Nat} (h1 : m.1 < 2 ^ 5) (h2 : m.2 < 2 ^ 5) {f d : Nat} (hd : d < 2 ^ 63) :
    bitsI .or .i64 (bitsI .andNot .i64 ((fixedM m.1 m.2 f : Nat) : Int) (d : Int)) (bitsI .and .i64 ((looseM m.1 m.2 f : Nat) : Int) (d : Int)) = ((misM m f d : Nat) : Int) := by
  have e1 : m.1 < 2 ^ 63 := by omega
  have e2 : m.2 < 2 ^ 63 := by omega
  have ha := fixedM_lt (f := f) e1 e2
  have hb := looseM_lt (f := f) e1 e2
  rw [andNot_nat ha hd, and_nat hb hd]
  exact or_nat (a := less (fixedM m.1 m.2 f) d) (less_lt ha) (Nat.and_lt_two_pow _ hd)

/-- What the map holds is so. -/
def Good (cs : List (ByteArray × List Int)) (L : List (List Int × List Int)) : Prop := ∀ (i f d : Nat) (v : List Int), ([(i : Int), (f : Int), (d : Int)], v) ∈ L → v = yOf (mOf cs i) f d

theorem Good_nil (cs : List (ByteArray × List Int)) : Good cs [] := fun _ _ _ _ h => by cases h

theorem Good.snoc {cs : List (ByteArray × List Int)} {L : List (List Int × List Int)} (h : Good cs L) (i f d : Nat) : Good cs (L ++ [([(i : Int), (f : Int), (d : Int)], yOf (mOf cs i) f d)]) := fun i' f' d' v hm => by
  rcases List.mem_append.1 hm with hm | hm
  · exact h _ _ _ _ hm
  · have hm := List.mem_singleton.1 hm
    simp only [Prod.mk.injEq, List.cons.injEq, and_true] at hm
    obtain ⟨⟨h1, h2, h3⟩, rfl⟩ := hm
    have h1 : i' = i := by omega
    have h2 : f' = f := by omega
    have h3 : d' = d := by omega
    rw [h1, h2, h3]

theorem kvs_app (L : List (List Int × List Int)) (k v : List Int) : kvsV (L ++ [(k, v)]) = kvsV L ++ [(keyV k, vL v)] := by simp [kvsV]

theorem ordS_63 {xs : List (ByteArray × Int)} {cs : List (ByteArray × List Int)} (hv : Valid xs cs) {set : Nat} : ∀ p ∈ ordS xs cs set, ∀ k ∈ p.2, k < 63 := fun p hp => by
  have h5 := hv.l5
  simp only [ordS, ordersL, List.mem_flatMap, List.mem_map] at hp
  obtain ⟨f, hf, os, hos, rfl⟩ := hp
  obtain ⟨tl, rfl, h2, h3⟩ := ford_ok _ _ _ _ hos
  intro k hk
  rcases List.mem_append.1 hk with h | h
  · have := h3 k h; omega
  · rw [List.mem_replicate] at h; omega

def sg39 (xs : List (ByteArray × Int)) (cs : List (ByteArray × List Int)) (s : List (Int × Int) × Bool × List (List Int × List Int)) : List (Nat × AO S) :=
  [(1, .cells [lociV xs, copsV cs]), (2, .cells [rdgsV s.1]), (4, .cells [FC xs cs]), (5, .cells [vB s.2.1]), (6, .cells [.mpv 26]), (26, .mp (kvsV s.2.2))]

def sg39b (xs : List (ByteArray × Int)) (cs : List (ByteArray × List Int)) (best : List (Int × Int)) (found : Bool) (p : Nat × List Nat) (L : List (List Int × List Int)) : List (Nat × AO S) :=
  [(1, .cells [lociV xs, copsV cs]), (2, .cells [rdgsV best]), (4, .cells [FC xs cs]), (5, .cells [vB found]), (6, .cells [.mpv 26]), (7, .cells [vI p.1, .arr (S := S) U.int 5 (natsV p.2)]), (8, .row U.reading false), (26, .mp (kvsV L))]

def ts39 (xs : List (ByteArray × Int)) (cs : List (ByteArray × List Int)) : List (AV S) := [.undef, .own 1 [], .own 2 [], .undef, .own 4 [], .own 5 [], .own 6 [], .undef, .undef, .undef, .undef, .undef, .undef, .undef, .undef, .undef, .undef, .undef, .undef, .undef, .undef, .undef, .undef, .undef, .undef, .undef, .undef, .undef, .clo (.func 115) [] [.ref [.ref (fcs xs cs (shL cs))], .ref [vI (0 : Nat)]], .undef, .undef, .undef, .undef, .undef, .undef, .undef, .undef, .undef, .undef, .undef, .undef, .undef, .undef, .undef, .undef, .undef, .undef, .undef, .undef, .undef, .undef, .undef, .undef, .undef, .undef, .undef, .undef, .undef, .undef, .undef, .undef, .undef, .undef, .undef, .undef, .undef, .undef, .undef, .undef, .undef, .undef, .undef, .undef, .undef, .undef, .undef, .undef, .undef, .undef, .undef, .undef, .undef, .undef, .undef, .undef, .undef, .undef, .undef, .undef, .undef, .undef, .undef, .undef, .undef, .undef, .undef, .undef, .undef, .undef, .undef, .undef, .undef, .undef, .undef, .undef, .undef, .undef, .undef, .undef, .undef, .undef, .undef, .undef, .undef, .undef, .undef, .undef, .undef, .undef, .undef, .undef, .undef, .undef, .undef, .undef, .undef, .undef, .undef, .undef, .undef, .undef, .undef, .undef, .undef, .undef, .undef, .undef, .undef, .undef, .undef, .undef, .undef, .undef, .undef, .undef, .undef, .undef]

def fr39a (l : List (Int × Int)) (m : Int) (i : Nat) (sg : List (Nat × AO S)) : St S :=
  { tmps := [.undef, .own 1 [], .own 2 [], .undef, .own 4 [], .own 5 [], .own 6 [], .own 7 [], .sl (S := S) U.reading l (some 8), .undef, .undef, .undef, .undef, .undef, .undef, .undef, .undef, .undef, .undef, .undef, .undef, .undef, .undef, .undef, .undef, .undef, .undef, .undef, .undef, .undef, .undef, .undef, vI m, vI i, .undef, .undef, .undef, .undef, .undef, .undef, .undef, .undef, .undef, .undef, .undef, .undef, .undef, .undef, .undef, .undef, .undef, .undef, .undef, .undef, .undef, .undef, .undef, .undef, .undef, .undef, .undef, .undef, .undef, .undef, .undef, .undef, .undef, .undef, .undef, .undef, .undef, .undef, .undef, .undef, .undef, .undef, .undef, .undef, .undef, .undef, .undef, .undef, .undef, .undef, .undef, .undef, .undef, .undef, .undef, .undef, .undef, .undef, .undef, .undef, .undef, .undef, .undef, .undef, .undef, .undef, .undef, .undef, .undef, .undef, .undef, .undef, .undef, .undef, .undef, .undef, .undef, .undef, .undef, .undef, .undef, .undef, .undef, .undef, .undef, .undef, .undef, .undef, .undef, .undef, .undef, .undef, .undef, .undef, .undef, .undef, .undef, .undef, .undef, .undef, .undef, .undef, .undef, .undef, .undef, .undef, .undef, .undef, .undef, .undef, .undef, .undef, .undef], seg := sg, up := [] }

def fr39b (l : List (Int × Int)) (m : Int) (i : Nat) (own : List Int) (d : Nat) (q : Int) (n : Nat) (sg : List (Nat × AO S)) : St S :=
  { tmps := [.undef, .own 1 [], .own 2 [], .undef, .own 4 [], .own 5 [], .own 6 [], .own 7 [], .sl (S := S) U.reading l (some 8), vI i, vL own, vI d, .undef, .undef, .undef, .undef, .undef, .undef, .undef, .undef, .undef, .undef, .undef, .undef, .undef, .undef, .undef, .undef, .undef, .undef, .undef, .undef, vI m, vI i, .undef, .undef, .undef, .undef, .undef, vI q, vI n, .undef, .undef, .undef, .undef, .undef, .undef, .undef, .undef, .undef, .undef, .undef, .undef, .undef, .undef, .undef, .undef, .undef, .undef, .undef, .undef, .undef, .undef, .undef, .undef, .undef, .undef, .undef, .undef, .undef, .undef, .undef, .undef, .undef, .undef, .undef, .undef, .undef, .undef, .undef, .undef, .undef, .undef, .undef, .undef, .undef, .undef, .undef, .undef, .undef, .undef, .undef, .undef, .undef, .undef, .undef, .undef, .undef, .undef, .undef, .undef, .undef, .undef, .undef, .undef, .undef, .undef, .undef, .undef, .undef, .undef, .undef, .undef, .undef, .undef, .undef, .undef, .undef, .undef, .undef, .undef, .undef, .undef, .undef, .undef, .undef, .undef, .undef, .undef, .undef, .undef, .undef, .undef, .undef, .undef, .undef, .undef, .undef, .undef, .undef, .undef, .undef, .undef, .undef, .undef, .undef, .undef], seg := sg, up := [] }

def fr39c (l : List (Int × Int)) (m : Int) (i : Nat) (own : List Int) (q : Int) (j : Nat) (sg : List (Nat × AO S)) : St S :=
  { tmps := [.undef, .own 1 [], .own 2 [], .undef, .own 4 [], .own 5 [], .own 6 [], .own 7 [], .sl (S := S) U.reading l (some 8), vI i, .undef, .undef, .undef, .undef, .undef, .undef, .undef, .undef, .undef, .undef, .undef, .undef, .undef, .undef, .undef, .undef, .undef, .undef, .undef, .undef, .undef, .undef, vI m, vI i, .undef, .undef, .undef, .undef, .undef, .undef, .undef, .undef, .undef, .undef, .undef, .undef, .undef, .undef, .undef, .undef, .undef, .undef, .undef, .undef, .undef, .undef, .undef, .undef, .undef, .undef, .undef, .undef, .undef, .undef, .undef, .undef, .undef, .undef, .undef, .undef, .undef, .undef, .undef, .undef, .undef, .undef, .undef, .undef, .undef, .undef, .undef, .undef, .undef, .undef, .undef, .undef, .undef, .undef, .undef, .undef, .undef, .undef, .undef, .undef, .undef, .undef, .undef, .undef, .undef, .undef, .undef, .undef, .undef, .undef, .undef, .undef, .undef, .undef, .undef, vL own, vI q, vI j, .undef, .undef, .undef, .undef, .undef, .undef, .undef, .undef, .undef, .undef, .undef, .undef, .undef, .undef, .undef, .undef, .undef, .undef, .undef, .undef, .undef, .undef, .undef, .undef, .undef, .undef, .undef, .undef, .undef, .undef, .undef, .undef, .undef, .undef, .undef], seg := sg, up := [] }

/-- What comes behind a loop, under another name. -/
theorem loop_q {P : Par S Unit} {body : Code} {pin : Bool × List Nat} {Q : AExit → St S → Unit → Prop} {st : St S} {x : Unit}
    (h : ∀ Q' : AExit → St S → Unit → Prop, (∀ e s y, Q' e s y = Q e s y) → ∃ m, wkP pin.2 m st fun st0 => LoopW (fun Z s y => aWp P body pin (fun e s' y' => match e with
      | .normal => ∃ m, wkP pin.2 m s' fun s'' => Z s'' y'
      | e => Q' e s' y') s y) st0 x) : ∃ m, wkP pin.2 m st fun st0 => LoopW (fun Z s y => aWp P body pin (fun e s' y' => match e with
      | .normal => ∃ m, wkP pin.2 m s' fun s'' => Z s'' y'
      | e => Q e s' y') s y) st0 x := h Q fun _ _ _ => rfl

theorem c39 (xs : List (ByteArray × Int)) (cs : List (ByteArray × List Int)) (hL : Lens xs cs) : PCalls PR glT 39 [forV xs cs] fun r => r = .tup [rdgsV (mistR xs cs).1, vI (mistR xs cs).2] := by
  refine fnW_sound (par_ok glT) Tryd.func39 ?_
  conv => whnf
  refine byC (cOpen glT hL) op71 ?_
  by_cases hk : (chk xs cs).2.2 = 0
  · have hv := chk_valid hk
    have h5 := hv.l5
    have hc8 := hv.c8
    have hR : mistR xs cs = (((ordS xs cs 0).foldl (mistStep xs cs) ([], false)).1, 0) := by unfold mistR; rw [if_neg (by rw [hk]; simp)]
    rw [if_pos hk]
    conv => whnf
    refine byC (c76 glT _ 0) op76 ?_
    conv => whnf
    refine ⟨⟨268435574, [1002], [1002]⟩, ?_⟩
    conv => whnf
    refine ⟨(ordS xs cs 0).map fun p => [ordV p.1 p.2], ⟨itS glT hv 0 (Nat.two_pow_pos _), op115⟩, ?_⟩
    refine eachW_indS (fun p : Nat × List Nat => [ordV p.1 p.2]) (ts39 xs cs) (sg39 xs cs) [] (fun l s _ => (∀ p ∈ l, p ∈ ordS xs cs 0) ∧ Good cs s.2.2 ∧ s.1.length ≤ 256 ∧ l.foldl (mistStep xs cs) (s.1, s.2.1) = (ordS xs cs 0).foldl (mistStep xs cs) ([], false)) ?_ ?_ _ ([], false, []) () ⟨fun _ h => h, Good_nil cs, Nat.zero_le _, rfl⟩
    · rintro ⟨best, found, L⟩ _ ⟨_, _, _, h⟩
      conv => whnf
      rw [hR, ← h]
      rfl
    · rintro p l ⟨best, found, L⟩ _ ⟨hp, hG, hbl, h⟩ Z hZ
      obtain ⟨g1, g2, g3, g4⟩ := ordS_ok hv p (hp p (List.mem_cons_self ..))
      simp only at hG hbl h
      conv => whnf
      refine loop_q fun QA hQA => ?_
      refine ⟨⟨12884902390, [], [8]⟩, ?_⟩
      refine LoopW_ind _ (fun s : Nat × List (List Int × List Int) => fr39a (misUp xs cs p s.1) cs.length s.1 (sg39b xs cs best found p s.2)) (fun s => s.1 ≤ cs.length ∧ Good cs s.2) (fun s => cs.length - s.1) () ?_ (0, L) ⟨Nat.zero_le _, hG⟩
      rintro ⟨i, L⟩ ⟨hi, hG⟩ Z1 hZ1
      simp only at hi hG
      conv => whnf
      refine bcase_iff.2 ⟨fun h1 => ?_, fun h1 => ?_⟩
      · have hlt : i < cs.length := by have := of_decide_eq_true h1; simp only at this; omega
        have hw1 : IntKind.i64.wrap ((i : Int) + 1) = ((i + 1 : Nat) : Int) := wrap_nat (by omega)
        have hwN : IntKind.i64.wrap ((xs.length : Int) + 1) = ((xs.length + 1 : Nat) : Int) := wrap_nat (by omega)
        obtain ⟨m1, m2⟩ := mOf_lt hv i
        have hml := misUp_len hv p i
        conv => whnf
        refine loop_q fun QB hQB => ?_
        refine ⟨⟨1662152347638, [10], [10]⟩, ?_⟩
        refine LoopW_ind _ (fun s : Nat × List (List Int × List Int) => fr39b (misUp xs cs p i) cs.length i (ownUp (mOf cs i) p.1 p.2 s.1) (doneAt p.2 (s.1 - 1)) (IntKind.i64.wrap ((xs.length : Int) + 1)) s.1 (sg39b xs cs best found p s.2)) (fun s => s.1 ≤ xs.length + 1 ∧ Good cs s.2) (fun s => xs.length + 1 - s.1) () ?_ (0, L) ⟨Nat.zero_le _, hG⟩
        rintro ⟨n, L⟩ ⟨hn, hG⟩ Z2 hZ2
        cases n with
        | zero =>
          simp only at hn hG
          conv => whnf
          refine bcase_iff.2 ⟨fun h2 => ?_, fun h2 => ?_⟩
          · have hnl : 0 < xs.length + 1 := by
              have h2 : decide (((0 : Nat) : Int) < IntKind.i64.wrap ((xs.length : Int) + 1)) = true := h2
              rw [hwN] at h2
              have := of_decide_eq_true h2; omega
            have hw2 : IntKind.i64.wrap (((0 : Nat) : Int) + 1) = ((0 + 1 : Nat) : Int) := wrap_nat (by omega)
            have hdl : doneAt p.2 (0) < 2 ^ 63 := doneAt_lt (ordS_63 hv p (hp p (List.mem_cons_self ..))) (0)
            have hyl := yOf_len m1 m2 p.1 (doneAt p.2 (0))
            have hol := ownUp_len m1 m2 p.1 p.2 (0)
            have hown0 : ownUp (mOf cs i) p.1 p.2 (0 + 1) = yOf (mOf cs i) p.1 (doneAt p.2 0) := by rw [ownUp]; rfl
            conv => whnf
            refine ⟨_, rfl, ?_⟩
            conv => whnf
            refine ⟨_, rfl, ?_⟩
            conv => whnf
            refine ⟨_, rfl, ?_⟩
            conv => whnf
            rcases Option.eq_none_or_eq_some (lkL [(i : Int), (p.1 : Int), (doneAt p.2 0 : Nat)] L) with hlk | ⟨v, hlk⟩
            · have hl1 : lookM keq3 (keyV [(i : Int), (p.1 : Int), (doneAt p.2 0 : Nat)]) (kvsV L) = some none := by rw [look_kvs, hlk]; rfl
              refine ⟨none, hl1, ?_⟩
              conv => whnf
              refine ⟨[0, 1, 2, 3, 5, 7, 8, 9, 10, 12, 4, 6, 11, 13, 14, 15, 16], [], [], [], ⟨178405961588244985132285746181186892047843327, [], []⟩, by decide +kernel, ?_⟩
              conv => whnf
              refine byC (cFix glT hv i p.1 hlt g1) op98 ?_
              conv => whnf
              refine byC (cLoose glT hv i p.1 hlt g1) op99 ?_
              conv => whnf
              have hq : PCalls PR glT 97 [vI (bitsI .or .i64 (bitsI .andNot .i64 ((fixedM (mOf cs i).1 (mOf cs i).2 p.1 : Nat) : Int) ((doneAt p.2 0 : Nat) : Int)) (bitsI .and .i64 ((looseM (mOf cs i).1 (mOf cs i).2 p.1 : Nat) : Int) ((doneAt p.2 0 : Nat) : Int)))] fun r => r = vL (natsV (bitsL (misM (mOf cs i) p.1 (doneAt p.2 0)))) := by
                rw [mis_bits m1 m2 hdl]
                exact c97 _ (by have := misM_lt m1 m2 p.1 (doneAt p.2 0); omega)
              refine byC hq op97 ?_
              conv => whnf
              have hl1 : lookM keq3 (keyV [(i : Int), (p.1 : Int), (doneAt p.2 0 : Nat)]) (kvsV L) = some none := by rw [look_kvs, hlk]; rfl
              refine ⟨none, hl1, ?_⟩
              conv => whnf
              refine ⟨⟨1662152347638, [13], []⟩, ?_⟩
              have := hZ2 (0 + 1, L ++ [([(i : Int), (p.1 : Int), (doneAt p.2 0 : Nat)], yOf (mOf cs i) p.1 (doneAt p.2 0))]) ⟨hnl, hG.snoc i p.1 (doneAt p.2 0)⟩ (by simp only; omega)
              unfold fr39b at this
              simp only at this
              rw [hown0, Nat.add_sub_cancel, ← hw2] at this
              unfold sg39b at this
              rw [kvs_app] at this
              exact this
            · have hve := hG i p.1 (doneAt p.2 0) v (lkL_some hlk)
              rw [hve] at hlk
              have hl1 : lookM keq3 (keyV [(i : Int), (p.1 : Int), (doneAt p.2 0 : Nat)]) (kvsV L) = some (some (vL (yOf (mOf cs i) p.1 (doneAt p.2 0)))) := by rw [look_kvs, hlk]; rfl
              refine ⟨some (vL (yOf (mOf cs i) p.1 (doneAt p.2 0))), hl1, ?_⟩
              conv => whnf
              refine ⟨⟨1662152347638, [13], []⟩, ?_⟩
              have := hZ2 (0 + 1, L) ⟨hnl, hG⟩ (by simp only; omega)
              unfold fr39b at this
              simp only at this
              rw [hown0, Nat.add_sub_cancel, ← hw2] at this
              exact this
          · exfalso
            have h2 : decide (((0 : Nat) : Int) < IntKind.i64.wrap ((xs.length : Int) + 1)) = false := h2
            rw [hwN] at h2
            have := of_decide_eq_false h2; omega
        | succ n =>
          simp only at hn hG
          conv => whnf
          refine bcase_iff.2 ⟨fun h2 => ?_, fun h2 => ?_⟩
          · have hnl : n + 1 < xs.length + 1 := by
              have h2 : decide (((n + 1 : Nat) : Int) < IntKind.i64.wrap ((xs.length : Int) + 1)) = true := h2
              rw [hwN] at h2
              have := of_decide_eq_true h2; omega
            have hw2 : IntKind.i64.wrap (((n + 1 : Nat) : Int) + 1) = ((n + 1 + 1 : Nat) : Int) := wrap_nat (by omega)
            have hdl : doneAt p.2 (n + 1) < 2 ^ 63 := doneAt_lt (ordS_63 hv p (hp p (List.mem_cons_self ..))) (n + 1)
            have hyl := yOf_len m1 m2 p.1 (doneAt p.2 (n + 1))
            have hol := ownUp_len m1 m2 p.1 p.2 (n + 1)
            have hn5 : n < p.2.length := by omega
            have hwr : IntKind.i64.wrap (((n + 1 : Nat) : Int) - 1) = (n : Int) := by rw [wrap_int (by omega) (by omega)]; omega
            have hdone : bitsI .or .i64 ((doneAt p.2 (n + 1 - 1) : Nat) : Int) (shlI .i64 1 ((p.2[n] : Nat) : Int)) = ((doneAt p.2 (n + 1) : Nat) : Int) := by
              have hk6 := ordS_63 hv p (hp p (List.mem_cons_self ..)) _ (List.getElem_mem hn5)
              have hd0 : doneAt p.2 n < 2 ^ 63 := doneAt_lt (ordS_63 hv p (hp p (List.mem_cons_self ..))) n
              rw [doneAt_succ hn5, shl_one hk6]
              exact or_nat hd0 (Nat.pow_lt_pow_right (by omega) hk6)
            have hownY : ltB (yOf (mOf cs i) p.1 (doneAt p.2 (n + 1))) (ownUp (mOf cs i) p.1 p.2 (n + 1)) = true → ownUp (mOf cs i) p.1 p.2 (n + 1 + 1) = yOf (mOf cs i) p.1 (doneAt p.2 (n + 1)) := fun h => by rw [ownUp, h, Bool.or_true, if_pos rfl]
            have hownN : ltB (yOf (mOf cs i) p.1 (doneAt p.2 (n + 1))) (ownUp (mOf cs i) p.1 p.2 (n + 1)) = false → ownUp (mOf cs i) p.1 p.2 (n + 1 + 1) = ownUp (mOf cs i) p.1 p.2 (n + 1) := fun h => by rw [ownUp, h, Bool.or_false, if_neg (by simp)]
            conv => whnf
            refine bcase_iff.2 ⟨fun h3 => ?_, fun h3 => ?_⟩
            · conv => whnf
              refine ⟨by rw [hwr]; omega, by rw [hwr]; omega, ?_⟩
              conv => whnf
              refine ⟨((p.2[n] : Nat) : Int), by rw [hwr]; exact getI_nats hn5, ?_⟩
              conv => whnf
              refine ⟨Int.natCast_nonneg _, ?_⟩
              conv => whnf
              refine ⟨_, rfl, ?_⟩
              conv => whnf
              refine ⟨_, rfl, ?_⟩
              conv => whnf
              refine ⟨_, rfl, ?_⟩
              conv => whnf
              rcases Option.eq_none_or_eq_some (lkL [(i : Int), (p.1 : Int), (doneAt p.2 (n + 1) : Nat)] L) with hlk | ⟨v, hlk⟩
              · have hl1 : lookM keq3 (keyV [(i : Int), (p.1 : Int), bitsI .or .i64 ((doneAt p.2 (n + 1 - 1) : Nat) : Int) (shlI .i64 1 ((p.2[n] : Nat) : Int))]) (kvsV L) = some none := by rw [hdone, look_kvs, hlk]; rfl
                refine ⟨none, hl1, ?_⟩
                conv => whnf
                refine ⟨[0, 1, 2, 3, 5, 7, 8, 9, 10, 12, 4, 6, 11, 13, 14, 15, 16], [], [], [], ⟨178405961588244985132285746181186892047843327, [], []⟩, by decide +kernel, ?_⟩
                conv => whnf
                refine byC (cFix glT hv i p.1 hlt g1) op98 ?_
                conv => whnf
                refine byC (cLoose glT hv i p.1 hlt g1) op99 ?_
                conv => whnf
                have hq : PCalls PR glT 97 [vI (bitsI .or .i64 (bitsI .andNot .i64 ((fixedM (mOf cs i).1 (mOf cs i).2 p.1 : Nat) : Int) (bitsI .or .i64 ((doneAt p.2 (n + 1 - 1) : Nat) : Int) (shlI .i64 1 ((p.2[n] : Nat) : Int)))) (bitsI .and .i64 ((looseM (mOf cs i).1 (mOf cs i).2 p.1 : Nat) : Int) (bitsI .or .i64 ((doneAt p.2 (n + 1 - 1) : Nat) : Int) (shlI .i64 1 ((p.2[n] : Nat) : Int)))))] fun r => r = vL (natsV (bitsL (misM (mOf cs i) p.1 (doneAt p.2 (n + 1))))) := by
                  rw [hdone, mis_bits m1 m2 hdl]
                  exact c97 _ (by have := misM_lt m1 m2 p.1 (doneAt p.2 (n + 1)); omega)
                refine byC hq op97 ?_
                conv => whnf
                refine ⟨none, hl1, ?_⟩
                conv => whnf
                refine bcase_iff.2 ⟨fun h6 => ?_, fun h6 => ?_⟩
                · have h6 : decide (((yOf (mOf cs i) p.1 (doneAt p.2 (n + 1))).length : Int) < (ownUp (mOf cs i) p.1 p.2 (n + 1)).length) = true := h6
                  conv => whnf
                  refine ⟨⟨1662152347638, [13], []⟩, ?_⟩
                  have := hZ2 (n + 1 + 1, L ++ [([(i : Int), (p.1 : Int), (doneAt p.2 (n + 1) : Nat)], yOf (mOf cs i) p.1 (doneAt p.2 (n + 1)))]) ⟨hnl, hG.snoc i p.1 (doneAt p.2 (n + 1))⟩ (by simp only; omega)
                  unfold fr39b at this
                  simp only at this
                  rw [hownY (by unfold ltB; rw [h6]; rfl), Nat.add_sub_cancel, ← hw2, ← hdone] at this
                  unfold sg39b at this
                  rw [kvs_app] at this
                  exact this
                · have h6 : decide (((yOf (mOf cs i) p.1 (doneAt p.2 (n + 1))).length : Int) < (ownUp (mOf cs i) p.1 p.2 (n + 1)).length) = false := h6
                  conv => whnf
                  refine bcase_iff.2 ⟨fun h7 => ?_, fun h7 => ?_⟩
                  · have h7 : (((yOf (mOf cs i) p.1 (doneAt p.2 (n + 1))).length : Int) == (ownUp (mOf cs i) p.1 p.2 (n + 1)).length) = true := h7
                    conv => whnf
                    refine byC (c100 glT (yOf (mOf cs i) p.1 (doneAt p.2 (n + 1))) (ownUp (mOf cs i) p.1 p.2 (n + 1)) (by omega) (by omega)) op100 ?_
                    conv => whnf
                    refine bcase_iff.2 ⟨fun h8 => ?_, fun h8 => ?_⟩
                    · have h8 : decide (cmpL cmpI (yOf (mOf cs i) p.1 (doneAt p.2 (n + 1))) (ownUp (mOf cs i) p.1 p.2 (n + 1)) < 0) = true := h8
                      conv => whnf
                      refine ⟨⟨1662152347638, [13], []⟩, ?_⟩
                      have := hZ2 (n + 1 + 1, L ++ [([(i : Int), (p.1 : Int), (doneAt p.2 (n + 1) : Nat)], yOf (mOf cs i) p.1 (doneAt p.2 (n + 1)))]) ⟨hnl, hG.snoc i p.1 (doneAt p.2 (n + 1))⟩ (by simp only; omega)
                      unfold fr39b at this
                      simp only at this
                      rw [hownY (by unfold ltB; rw [h6, h7, h8]; rfl), Nat.add_sub_cancel, ← hw2, ← hdone] at this
                      unfold sg39b at this
                      rw [kvs_app] at this
                      exact this
                    · have h8 : decide (cmpL cmpI (yOf (mOf cs i) p.1 (doneAt p.2 (n + 1))) (ownUp (mOf cs i) p.1 p.2 (n + 1)) < 0) = false := h8
                      conv => whnf
                      refine ⟨⟨1662152347638, [13], []⟩, ?_⟩
                      have := hZ2 (n + 1 + 1, L ++ [([(i : Int), (p.1 : Int), (doneAt p.2 (n + 1) : Nat)], yOf (mOf cs i) p.1 (doneAt p.2 (n + 1)))]) ⟨hnl, hG.snoc i p.1 (doneAt p.2 (n + 1))⟩ (by simp only; omega)
                      unfold fr39b at this
                      simp only at this
                      rw [hownN (by unfold ltB; rw [h6, h7, h8]; rfl), Nat.add_sub_cancel, ← hw2, ← hdone] at this
                      unfold sg39b at this
                      rw [kvs_app] at this
                      exact this
                  · have h7 : (((yOf (mOf cs i) p.1 (doneAt p.2 (n + 1))).length : Int) == (ownUp (mOf cs i) p.1 p.2 (n + 1)).length) = false := h7
                    conv => whnf
                    refine ⟨⟨1662152347638, [13], []⟩, ?_⟩
                    have := hZ2 (n + 1 + 1, L ++ [([(i : Int), (p.1 : Int), (doneAt p.2 (n + 1) : Nat)], yOf (mOf cs i) p.1 (doneAt p.2 (n + 1)))]) ⟨hnl, hG.snoc i p.1 (doneAt p.2 (n + 1))⟩ (by simp only; omega)
                    unfold fr39b at this
                    simp only at this
                    rw [hownN (by unfold ltB; rw [h6, h7]; rfl), Nat.add_sub_cancel, ← hw2, ← hdone] at this
                    unfold sg39b at this
                    rw [kvs_app] at this
                    exact this
              · have hve := hG i p.1 (doneAt p.2 (n + 1)) v (lkL_some hlk)
                rw [hve] at hlk
                have hl1 : lookM keq3 (keyV [(i : Int), (p.1 : Int), bitsI .or .i64 ((doneAt p.2 (n + 1 - 1) : Nat) : Int) (shlI .i64 1 ((p.2[n] : Nat) : Int))]) (kvsV L) = some (some (vL (yOf (mOf cs i) p.1 (doneAt p.2 (n + 1))))) := by rw [hdone, look_kvs, hlk]; rfl
                refine ⟨some (vL (yOf (mOf cs i) p.1 (doneAt p.2 (n + 1)))), hl1, ?_⟩
                conv => whnf
                refine bcase_iff.2 ⟨fun h6 => ?_, fun h6 => ?_⟩
                · have h6 : decide (((yOf (mOf cs i) p.1 (doneAt p.2 (n + 1))).length : Int) < (ownUp (mOf cs i) p.1 p.2 (n + 1)).length) = true := h6
                  conv => whnf
                  refine ⟨⟨1662152347638, [13], []⟩, ?_⟩
                  have := hZ2 (n + 1 + 1, L) ⟨hnl, hG⟩ (by simp only; omega)
                  unfold fr39b at this
                  simp only at this
                  rw [hownY (by unfold ltB; rw [h6]; rfl), Nat.add_sub_cancel, ← hw2, ← hdone] at this
                  exact this
                · have h6 : decide (((yOf (mOf cs i) p.1 (doneAt p.2 (n + 1))).length : Int) < (ownUp (mOf cs i) p.1 p.2 (n + 1)).length) = false := h6
                  conv => whnf
                  refine bcase_iff.2 ⟨fun h7 => ?_, fun h7 => ?_⟩
                  · have h7 : (((yOf (mOf cs i) p.1 (doneAt p.2 (n + 1))).length : Int) == (ownUp (mOf cs i) p.1 p.2 (n + 1)).length) = true := h7
                    conv => whnf
                    refine byC (c100 glT (yOf (mOf cs i) p.1 (doneAt p.2 (n + 1))) (ownUp (mOf cs i) p.1 p.2 (n + 1)) (by omega) (by omega)) op100 ?_
                    conv => whnf
                    refine bcase_iff.2 ⟨fun h8 => ?_, fun h8 => ?_⟩
                    · have h8 : decide (cmpL cmpI (yOf (mOf cs i) p.1 (doneAt p.2 (n + 1))) (ownUp (mOf cs i) p.1 p.2 (n + 1)) < 0) = true := h8
                      conv => whnf
                      refine ⟨⟨1662152347638, [13], []⟩, ?_⟩
                      have := hZ2 (n + 1 + 1, L) ⟨hnl, hG⟩ (by simp only; omega)
                      unfold fr39b at this
                      simp only at this
                      rw [hownY (by unfold ltB; rw [h6, h7, h8]; rfl), Nat.add_sub_cancel, ← hw2, ← hdone] at this
                      exact this
                    · have h8 : decide (cmpL cmpI (yOf (mOf cs i) p.1 (doneAt p.2 (n + 1))) (ownUp (mOf cs i) p.1 p.2 (n + 1)) < 0) = false := h8
                      conv => whnf
                      refine ⟨⟨1662152347638, [13], []⟩, ?_⟩
                      have := hZ2 (n + 1 + 1, L) ⟨hnl, hG⟩ (by simp only; omega)
                      unfold fr39b at this
                      simp only at this
                      rw [hownN (by unfold ltB; rw [h6, h7, h8]; rfl), Nat.add_sub_cancel, ← hw2, ← hdone] at this
                      exact this
                  · have h7 : (((yOf (mOf cs i) p.1 (doneAt p.2 (n + 1))).length : Int) == (ownUp (mOf cs i) p.1 p.2 (n + 1)).length) = false := h7
                    conv => whnf
                    refine ⟨⟨1662152347638, [13], []⟩, ?_⟩
                    have := hZ2 (n + 1 + 1, L) ⟨hnl, hG⟩ (by simp only; omega)
                    unfold fr39b at this
                    simp only at this
                    rw [hownN (by unfold ltB; rw [h6, h7]; rfl), Nat.add_sub_cancel, ← hw2, ← hdone] at this
                    exact this
            · exfalso
              have h3 : decide (((n + 1 : Nat) : Int) > 0) = false := h3
              have := of_decide_eq_false h3
              omega
          · have hnl : n = xs.length := by
              have h2 : decide (((n + 1 : Nat) : Int) < IntKind.i64.wrap ((xs.length : Int) + 1)) = false := h2
              rw [hwN] at h2
              have := of_decide_eq_false h2; omega
            subst hnl
            have hol := ownUp_len m1 m2 p.1 p.2 (xs.length + 1)
            have hms : misUp xs cs p (i + 1) = misUp xs cs p i ++ (ownUp (mOf cs i) p.1 p.2 (xs.length + 1)).map fun k => ((i : Int), k) := rfl
            generalize ownUp (mOf cs i) p.1 p.2 (xs.length + 1) = own at hol hms ⊢
            conv => whnf
            refine (hQB _ _ _).mpr ?_
            conv => whnf
            refine loop_q fun QC hQC => ?_
            refine ⟨⟨4543259751217974174964197172970486, [], []⟩, ?_⟩
            refine LoopW_ind _ (fun s : List (Int × Int) × Nat => fr39c s.1 cs.length i own own.length s.2 (sg39b xs cs best found p L)) (fun s => s.2 ≤ own.length ∧ s.1 = misUp xs cs p i ++ (own.take s.2).map fun k => ((i : Int), k)) (fun s => own.length - s.2) () ?_ (_, 0) ⟨Nat.zero_le _, (List.append_nil _).symm⟩
            rintro ⟨lr, j⟩ ⟨hj, hlr⟩ Z3 hZ3
            simp only at hj hlr
            conv => whnf
            refine bcase_iff.2 ⟨fun h4 => ?_, fun h4 => ?_⟩
            · have hjl : j < own.length := by have := of_decide_eq_true h4; simp only at this; omega
              have hw3 : IntKind.i64.wrap ((j : Int) + 1) = ((j + 1 : Nat) : Int) := wrap_nat (by omega)
              have hap : lr ++ [((i : Int), own[j])] = misUp xs cs p i ++ (own.take (j + 1)).map (fun k => ((i : Int), k)) := by
                rw [take_succ' hjl, List.map_append, ← List.append_assoc, ← hlr]; rfl
              have hll : lr.length ≤ 1000 := by rw [hlr]; simp only [List.length_append, List.length_map, List.length_take]; omega
              conv => whnf
              refine ⟨_, getI_nat hjl, ?_⟩
              conv => whnf
              refine ⟨_, rfl, ?_⟩
              conv => whnf
              refine ⟨?_, ?_⟩
              · show lr.length + 1 ≤ 1099511627776
                omega
              conv => whnf
              refine ⟨⟨4543259751217974174964197172970486, [119], []⟩, ?_⟩
              have := hZ3 (lr ++ [((i : Int), own[j])], j + 1) ⟨hjl, hap⟩ (by simp only; omega)
              unfold fr39c at this
              simp only at this
              rw [← hw3] at this
              exact this
            · have hjg : j = own.length := by have := of_decide_eq_false h4; simp only at this; omega
              conv => whnf
              refine (hQC _ _ _).mpr ?_
              conv => whnf
              refine ⟨⟨12884902390, [], []⟩, ?_⟩
              have := hZ1 (i + 1, L) ⟨hlt, hG⟩ (by simp only; omega)
              unfold fr39a at this
              simp only at this
              rw [hjg, List.take_length] at hlr
              rw [hms, ← hlr, ← hw1] at this
              exact this
      · have hge : i = cs.length := by have := of_decide_eq_false h1; simp only at this; omega
        subst hge
        have hp' : ∀ q ∈ l, q ∈ ordS xs cs 0 := fun q hq => hp q (List.mem_cons_of_mem _ hq)
        have hml : (misUp xs cs p cs.length).length ≤ 256 := by have := misUp_len hv p cs.length; omega
        have hstS : (!found || ltRd (misUp xs cs p cs.length) best) = true → l.foldl (mistStep xs cs) (misUp xs cs p cs.length, true) = (p :: l).foldl (mistStep xs cs) (best, found) := fun hh => by
          rw [List.foldl_cons]
          have : mistStep xs cs (best, found) p = (misUp xs cs p cs.length, true) := by unfold mistStep; rw [if_pos hh]
          rw [this]
        have hstN : (!found || ltRd (misUp xs cs p cs.length) best) = false → l.foldl (mistStep xs cs) (best, found) = (p :: l).foldl (mistStep xs cs) (best, found) := fun hh => by
          rw [List.foldl_cons]
          have : mistStep xs cs (best, found) p = (best, found) := by unfold mistStep; rw [if_neg (by rw [hh]; simp)]
          rw [this]
        conv => whnf
        refine (hQA _ _ _).mpr ?_
        conv => whnf
        refine bcase_iff.2 ⟨fun h2 => ?_, fun h2 => ?_⟩
        · have h2 : (!found) = true := h2
          conv => whnf
          refine ⟨⟨0, [7, 8], [8]⟩, ?_⟩
          conv => whnf
          exact hZ (misUp xs cs p cs.length, true, L) () ⟨hp', hG, hml, (hstS (by rw [h2]; rfl)).trans h⟩
        · have h2 : (!found) = false := h2
          conv => whnf
          refine bcase_iff.2 ⟨fun h3 => ?_, fun h3 => ?_⟩
          · have h3 : decide (((misUp xs cs p cs.length).length : Int) < best.length) = true := h3
            conv => whnf
            refine ⟨⟨0, [7, 8], [8]⟩, ?_⟩
            conv => whnf
            exact hZ (misUp xs cs p cs.length, true, L) () ⟨hp', hG, hml, (hstS (by unfold ltRd; rw [h2, h3]; rfl)).trans h⟩
          · have h3 : decide (((misUp xs cs p cs.length).length : Int) < best.length) = false := h3
            conv => whnf
            refine bcase_iff.2 ⟨fun h4 => ?_, fun h4 => ?_⟩
            · have h4 : (((misUp xs cs p cs.length).length : Int) == best.length) = true := h4
              conv => whnf
              refine byC (c101 glT (misUp xs cs p cs.length) best (by omega) (by omega)) op101 ?_
              conv => whnf
              refine bcase_iff.2 ⟨fun h5 => ?_, fun h5 => ?_⟩
              · have h5 : decide (cmpL cmpRd (misUp xs cs p cs.length) best < 0) = true := h5
                conv => whnf
                refine ⟨⟨0, [7, 8], [8]⟩, ?_⟩
                conv => whnf
                exact hZ (misUp xs cs p cs.length, true, L) () ⟨hp', hG, hml, (hstS (by unfold ltRd; rw [h2, h3, h4, h5]; rfl)).trans h⟩
              · have h5 : decide (cmpL cmpRd (misUp xs cs p cs.length) best < 0) = false := h5
                conv => whnf
                refine ⟨⟨0, [7, 8], [8]⟩, ?_⟩
                conv => whnf
                exact hZ (best, found, L) () ⟨hp', hG, hbl, (hstN (by unfold ltRd; rw [h2, h3, h4, h5]; rfl)).trans h⟩
            · have h4 : (((misUp xs cs p cs.length).length : Int) == best.length) = false := h4
              conv => whnf
              refine ⟨⟨0, [7, 8], [8]⟩, ?_⟩
              conv => whnf
              exact hZ (best, found, L) () ⟨hp', hG, hbl, (hstN (by unfold ltRd; rw [h2, h3, h4]; rfl)).trans h⟩
  · rw [if_neg hk]
    conv => whnf
    refine bcase_iff.2 ⟨fun h1 => ?_, fun h1 => ?_⟩
    · conv => whnf
      unfold mistR; rw [if_pos hk]
    · exfalso
      have : ((chk xs cs).2.2 != 0) = false := h1
      exact hk (by simpa using this)

theorem op39 : Opens PR 39 := ⟨_, Tryd.func39, rfl, rfl⟩
end Go.Ab.StF
