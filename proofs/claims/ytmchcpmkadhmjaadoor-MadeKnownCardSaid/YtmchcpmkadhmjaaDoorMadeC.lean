/-
  THE MADE FAMILY, PLAIN LAW, PART B: a copy in the hand.
  THE MADE FAMILY, PART WE: a copy in the hand.
  THE MADE FAMILY, PART WF: Foreign, Sure, Proof and Tall.
  THE MADE FAMILY, PART WG: Proof and Tall.
-/
import Derived.Test.YtmchcpmkadhmjaaDoorMadeB
namespace Go.Ab.MkF
open Go Go.Ab Go.Ab.Pln

def snE (x : Sn) : Int := if [x.1].any (outB 0 2) || [x.2.1, x.2.2].any (outB 1 600) then 7 else if x.2.1 > x.2.2 then 2 else 0
def snF (hs : List Sn) (i : Nat) : Int := snE (hs.getD i sn0)
def chH (hs : List Sn) : Int × Int := if [(hs.length : Int)].any (outB 1 8) then (0, 3) else firstR (snF hs) hs.length
abbrev chHE (hs : List Sn) : Int := (chH hs).2

structure ValidH (hs : List Sn) : Prop where
  n1 : 1 ≤ hs.length
  n8 : hs.length ≤ 8
  seen : ∀ i, i < hs.length → snF hs i = 0

theorem chH_valid {hs : List Sn} : chHE hs = 0 ↔ ValidH hs := by
  unfold chHE chH
  constructor
  · intro h
    by_cases h1 : [(hs.length : Int)].any (outB 1 8) = true
    · rw [if_pos h1] at h; cases h
    · rw [if_neg h1] at h
      have h1 := any_one.1 (by simpa using h1)
      exact ⟨by omega, by omega, firstR_zero h⟩
  · rintro ⟨h1, h2, h3⟩
    rw [if_neg (by rw [any_one.2 (by omega)]; simp), firstR_no h3]

theorem ValidH.sn {hs : List Sn} (h : ValidH hs) {i : Nat} (hi : i < hs.length) : (0 ≤ hs[i].1 ∧ hs[i].1 ≤ 2) ∧ 1 ≤ hs[i].2.1 ∧ hs[i].2.1 ≤ hs[i].2.2 ∧ hs[i].2.2 ≤ 600 := by
  have h1 := h.seen i hi
  unfold snF snE at h1
  rw [getD_at hi] at h1
  split at h1
  · cases h1
  · split at h1
    · cases h1
    · rename_i h2 h3
      simp only [List.any_cons, List.any_nil, Bool.or_false, Bool.or_eq_true, outB, decide_eq_true_eq, not_or] at h2
      omega

/-- Can two leaves be of one copy? -/
def pairX (x y : Sn) : Bool := (x.1 == y.1 || x.1 * y.1 == 0) && decide (x.2.1 ≤ y.2.2) && decide (y.2.1 ≤ x.2.2)
def pairH (hs : List Sn) (a b : Nat) : Bool := pairX (hs.getD a sn0) (hs.getD b sn0)

/-- The first two of a list that cannot. -/
def clL (hs : List Sn) : List Nat → Option (Nat × Nat)
  | [] => none
  | a :: r => match r.find? fun b => !pairH hs a b with
    | some b => some (a, b)
    | none => clL hs r
def clO (o : Option (Nat × Nat)) : Int × Int × Bool := match o with
  | some (a, b) => (a, b, true)
  | none => (0, 0, false)
abbrev clR (hs : List Sn) (set : Nat) : Option (Nat × Nat) := clL hs (bitsL set)

/-- Which sets account for a copy. -/
def accB (hs : List Sn) (set : Nat) : Bool := (clR hs (less (2 ^ hs.length - 1) set)).isNone
/-- The fewest leaves, and all sets of so many, among the first sets. -/
def fewH (hs : List Sn) : Nat → Nat × List Nat
  | 0 => (hs.length, [])
  | s + 1 => if onesN s > (fewH hs s).1 || !accB hs s then fewH hs s else if onesN s < (fewH hs s).1 then (onesN s, [s]) else ((fewH hs s).1, (fewH hs s).2 ++ [s])
abbrev setsH (hs : List Sn) : List Nat := (fewH hs (2 ^ hs.length)).2

theorem fewH_le (hs : List Sn) : ∀ s, (fewH hs s).1 ≤ hs.length
  | 0 => Nat.le_refl _
  | s + 1 => by
    have := fewH_le hs s
    simp only [fewH]
    split
    · exact this
    · split
      · show onesN s ≤ _; omega
      · exact this
theorem fewH_len (hs : List Sn) : ∀ s, (fewH hs s).2.length ≤ s
  | 0 => Nat.le_refl _
  | s + 1 => by
    have := fewH_len hs s
    simp only [fewH]
    split
    · omega
    · split
      · simp
      · simp; omega
theorem fewH_lt (hs : List Sn) : ∀ s, ∀ x ∈ (fewH hs s).2, x < s
  | 0, x, h => by simp [fewH] at h
  | s + 1, x, h => by
    simp only [fewH] at h
    split at h
    · have := fewH_lt hs s x h; omega
    · split at h
      · simp at h; omega
      · rcases List.mem_append.1 h with h | h
        · have := fewH_lt hs s x h; omega
        · simp at h; omega

/-- The first of some by a comparison. -/
def minU (c : Nat → Nat → Bool) (l : List Nat) (i : Nat) : Nat := (l.take i).foldl (fun m x => if c x m then x else m) (l.headD 0)
theorem minU_succ {c : Nat → Nat → Bool} {l : List Nat} {i : Nat} (h : i < l.length) : minU c l (i + 1) = if c l[i] (minU c l i) then l[i] else minU c l i := by
  unfold minU; rw [take_succ' h, List.foldl_append]; rfl
theorem minU_mem {c : Nat → Nat → Bool} {l : List Nat} (h : 0 < l.length) : ∀ i, i ≤ l.length → minU c l i ∈ l
  | 0, _ => by
    unfold minU
    rw [List.take_zero, List.foldl_nil, List.headD_eq_head?_getD, List.head?_eq_getElem?, List.getElem?_eq_getElem h]
    exact List.getElem_mem h
  | i + 1, hi => by
    rw [minU_succ (by omega)]
    split
    · exact List.getElem_mem _
    · exact minU_mem h i (by omega)
def cmpS (a b : Nat) : Int := cmpL cmpI (natsV (bitsL a)) (natsV (bitsL b))
def cmB (a b : Nat) : Bool := decide (cmpS a b < 0)
/-- Foreign. -/
def forN (hs : List Sn) : Nat := minU cmB (setsH hs) (setsH hs).length
def forV (hs : List Sn) : List Int × Int := if chHE hs = 0 then (natsV (bitsL (forN hs)), 0) else ([], chHE hs)

/-- Sure. -/
def allU (n : Nat) (l : List Nat) (i : Nat) : Nat := (l.take i).foldl (fun m x => m &&& x) (2 ^ n - 1)
def someU (l : List Nat) (i : Nat) : Nat := (l.take i).foldl (fun m x => m ||| x) 0
theorem allU_succ {n : Nat} {l : List Nat} {i : Nat} (h : i < l.length) : allU n l (i + 1) = allU n l i &&& l[i] := by unfold allU; rw [take_succ' h, List.foldl_append]; rfl
theorem someU_succ {l : List Nat} {i : Nat} (h : i < l.length) : someU l (i + 1) = someU l i ||| l[i] := by unfold someU; rw [take_succ' h, List.foldl_append]; rfl
theorem allU_lt {n : Nat} (l : List Nat) : ∀ i, i ≤ l.length → allU n l i < 2 ^ n
  | 0, _ => by
    have := Nat.two_pow_pos n
    show 2 ^ n - 1 < 2 ^ n; omega
  | i + 1, h => by rw [allU_succ (by omega)]; exact Nat.lt_of_le_of_lt Nat.and_le_left (allU_lt l i (by omega))
theorem someU_lt {n : Nat} {l : List Nat} (hl : ∀ x ∈ l, x < 2 ^ n) : ∀ i, i ≤ l.length → someU l i < 2 ^ n
  | 0, _ => Nat.two_pow_pos n
  | i + 1, h => by rw [someU_succ (by omega)]; exact Nat.or_lt_two_pow (someU_lt hl i (by omega)) (hl _ (List.getElem_mem _))
def sureV (hs : List Sn) : List Int × List Int × Int := if chHE hs = 0 then (natsV (bitsL (allU hs.length (setsH hs) (setsH hs).length)), natsV (bitsL (someU (setsH hs) (setsH hs).length)), 0) else ([], [], chHE hs)

/-! ### Leaves that are told -/

/-- The error of leaves that are told: not in order. -/
def ascB (told : List Int) (i : Nat) : Bool := decide (i > 0) && decide (told.getD i 0 ≤ told.getD (i - 1) 0)
def ascAll (told : List Int) : Bool := (List.range told.length).all fun i => !ascB told i
def restU (n : Nat) (told : List Int) (i : Nat) : Nat := (told.take i).foldl (fun m x => less m (2 ^ x.toNat)) (2 ^ n - 1)
theorem restU_succ {n : Nat} {told : List Int} {i : Nat} (h : i < told.length) : restU n told (i + 1) = less (restU n told i) (2 ^ told[i].toNat) := by unfold restU; rw [take_succ' h, List.foldl_append]; rfl
theorem less_lt' {a b c : Nat} (h : a < 2 ^ c) : less a b < 2 ^ c := Nat.xor_lt_two_pow h (Nat.lt_of_le_of_lt Nat.and_le_left h)
theorem restU_lt (n : Nat) (told : List Int) : ∀ i, i ≤ told.length → restU n told i < 2 ^ n
  | 0, _ => by
    have := Nat.two_pow_pos n
    show 2 ^ n - 1 < 2 ^ n; omega
  | i + 1, h => by rw [restU_succ (by omega)]; exact less_lt' (restU_lt n told i (by omega))
abbrev restN (hs : List Sn) (told : List Int) : Nat := restU hs.length told told.length
def restE (hs : List Sn) (told : List Int) : Int := if chHE hs = 0 then (if told.any (outB 0 ((hs.length : Int) - 1)) then 4 else if ascAll told then 0 else 2) else chHE hs
def restV (hs : List Sn) (told : List Int) : Int × Int := if restE hs told = 0 then ((restN hs told : Nat), 0) else (0, restE hs told)
def proV (hs : List Sn) (told : List Int) : Int × Int × Int := if restE hs told = 0 then (match clR hs (restN hs told) with
    | some (a, b) => (a, b, 0)
    | none => (0, 0, 8)) else (0, 0, restE hs told)
/-- How tall the copy can be. -/
def talU (hs : List Sn) (l : List Nat) (i : Nat) : Int × Int := (l.take i).foldl (fun s x => (max s.1 (hs.getD x sn0).2.1, min s.2 (hs.getD x sn0).2.2)) (0, 600)
theorem talU_succ {hs : List Sn} {l : List Nat} {i : Nat} (h : i < l.length) : talU hs l (i + 1) = (max (talU hs l i).1 (hs.getD l[i] sn0).2.1, min (talU hs l i).2 (hs.getD l[i] sn0).2.2) := by unfold talU; rw [take_succ' h, List.foldl_append]; rfl
def talV (hs : List Sn) (told : List Int) : Int × Int × Int := if restE hs told = 0 then (if (clR hs (restN hs told)).isSome || restN hs told == 0 then (0, 0, 8) else ((talU hs (bitsL (restN hs told)) (bitsL (restN hs told)).length).1, (talU hs (bitsL (restN hs told)) (bitsL (restN hs told)).length).2, 0)) else (0, 0, restE hs told)
end Go.Ab.MkF

namespace Go.Ab.MkF
open Go Go.Ab Go.Ab.Pln Go.Proofs
set_option maxHeartbeats 1000000
set_option maxRecDepth 100000

noncomputable abbrev parN (gl : Gl) : Par S Unit := { par gl with nl := true }
theorem parN_ok (gl : Gl) (En : Env Unit) : ParOk PR gl (parN gl) En := { par_ok gl En with }
theorem mask_all {n : Nat} (h : n ≤ 60) : IntKind.i64.wrap (shlI .i64 1 (n : Int) - 1) = ((2 ^ n - 1 : Nat) : Int) := by
  rw [shl_one (by omega)]
  have h1 : 2 ^ n ≤ 2 ^ 60 := Nat.pow_le_pow_right (by omega) h
  have h2 : (2 : Nat) ^ 60 = 1152921504606846976 := rfl
  have h3 := Nat.two_pow_pos n
  rw [wrap_int (by omega) (by omega)]; omega
theorem bits_mem {n m : Nat} (hn : n ≤ 60) (h : m < 2 ^ n) : ∀ x ∈ bitsL m, x < n := fun x hx => by
  rw [bitsL_below (by omega) h] at hx
  exact List.mem_range.1 (List.mem_filter.1 hx).1
theorem clL_step {hs : List Sn} {l : List Nat} {i : Nat} (h : i < l.length) (hy : ∀ j (hj : j < (l.drop (i + 1)).length), pairH hs l[i] (l.drop (i + 1))[j] = true) : clL hs (l.drop i) = clL hs (l.drop (i + 1)) := by
  rw [List.drop_eq_getElem_cons h, clL]
  have : (l.drop (i + 1)).find? (fun b => !pairH hs l[i] b) = none := List.find?_eq_none.2 fun b hb => by
    obtain ⟨j, hj, rfl⟩ := List.getElem_of_mem hb
    rw [hy j hj]; decide
  rw [this]
theorem clL_hit {hs : List Sn} {l : List Nat} {i k : Nat} (h : i < l.length) (hk : k < (l.drop (i + 1)).length) (hy : ∀ j (hj : j < k), pairH hs l[i] ((l.drop (i + 1))[j]'(by omega)) = true) (hn : pairH hs l[i] (l.drop (i + 1))[k] = false) :
    clL hs (l.drop i) = some (l[i], (l.drop (i + 1))[k]) := by
  rw [List.drop_eq_getElem_cons h, clL]
  have : (l.drop (i + 1)).find? (fun b => !pairH hs l[i] b) = some (l.drop (i + 1))[k] := by
    rw [List.find?_eq_some_iff_getElem]
    exact ⟨by rw [hn]; rfl, k, hk, rfl, fun j hj => by rw [hy j hj]; rfl⟩
  rw [this]
theorem onesB {n : Nat} (h : n < 256) : IntKind.u64.wrap (n : Int) = n := wrap_u64n h
theorem natsV_get {l : List Nat} {i : Nat} (h : i < (natsV l).length) : (natsV l)[i] = ((l[i]'(by simpa using h) : Nat) : Int) := by simp [natsV]

theorem c100 (gl : Gl) (i : Int) (x : Sn) : PCalls PR gl 100 [vI i, .agg [vI x.1, vI x.2.1, vI x.2.2]] fun r => r = vI (snE x) := by
  refine fnW_sound (par_ok gl) Tryd.func100 ?_
  conv => whnf
  refine ⟨_, rfl, ?_⟩
  conv => whnf
  refine byC (c62 gl [x.1] (by simp) 0 2) op62 ?_
  conv => whnf
  refine bcase_iff.2 ⟨fun g1_4 => ?_, fun g1_4 => ?_⟩
  · skip
    have g4 : [x.1].any (outB 0 2) = true := g1_4
    -- R:T
    conv => whnf
    unfold snE
    rw [g4, Bool.true_or, if_pos rfl]
  · skip
    have g4 : [x.1].any (outB 0 2) = false := g1_4
    conv => whnf
    refine ⟨_, rfl, ?_⟩
    conv => whnf
    refine ⟨_, rfl, ?_⟩
    conv => whnf
    refine byC (c62 gl [x.2.1, x.2.2] (by simp) 1 600) op62 ?_
    conv => whnf
    refine bcase_iff.2 ⟨fun h1 => ?_, fun h1 => ?_⟩
    · skip
      have h1 : [x.2.1, x.2.2].any (outB 1 600) = true := h1
      -- R:FT
      conv => whnf
      unfold snE
      rw [g4, h1, Bool.false_or, if_pos rfl]
    · skip
      have h1 : [x.2.1, x.2.2].any (outB 1 600) = false := h1
      conv => whnf
      refine bcase_iff.2 ⟨fun h3 => ?_, fun h3 => ?_⟩
      · skip
        have h3 : x.2.1 > x.2.2 := of_decide_eq_true h3
        -- R:FFT
        conv => whnf
        unfold snE
        rw [g4, h1, Bool.false_or, if_neg (by simp), if_pos h3]
      · skip
        have h3 : ¬ x.2.1 > x.2.2 := of_decide_eq_false h3
        -- R:FFF
        conv => whnf
        unfold snE
        rw [g4, h1, Bool.false_or, if_neg (by simp), if_neg h3]

theorem op100 : Opens PR 100 := ⟨_, Tryd.func100, rfl, rfl⟩

theorem c99 (gl : Gl) (hs : List Sn) (hl : hs.length ≤ 9223372036854775807) : PCalls PR gl 99 [snsV hs, .clo (.func 100) [] []] fun r => r = .tup [vI (firstR (snF hs) hs.length).1, vI (firstR (snF hs) hs.length).2] := by
  refine fnW_sound (par_ok gl) Tryd.func99 ?_
  conv => whnf
  refine ⟨⟨3586, [], []⟩, ?_⟩
  refine LoopW_ind _ (fun i : Nat => (({ tmps := [.undef, .clo (.func 100) [] [], .undef, .undef, .undef, .undef, .undef, .undef, .undef, snsV hs, vI hs.length, vI i, .undef, .undef, .undef, .undef, .undef, .undef, .undef, .undef, .undef, .undef, .undef, .undef, .undef], seg := [], up := [] } : St S))) (fun i : Nat => (i ≤ hs.length ∧ ∀ j, j < i → (snF hs) j = 0)) (fun i : Nat => (hs.length - i)) () ?_ 0 ⟨Nat.zero_le _, fun j h => absurd h (Nat.not_lt_zero j)⟩
  intro i hinv Z1 hZ1
  obtain ⟨hi, hd⟩ := hinv
  conv => whnf
  refine bcase_iff.2 ⟨fun h2 => ?_, fun h2 => ?_⟩
  · skip
    have hlt : i < hs.length := by have := of_decide_eq_true h2; omega
    have hw : IntKind.i64.wrap ((i : Int) + 1) = ((i + 1 : Nat) : Int) := wrap_nat (by omega)
    conv => whnf
    refine ⟨_, getI_nat hlt, ?_⟩
    conv => whnf
    refine byC (to (c100 gl i hs[i]) (show _ = vI ((snF hs) i) by unfold snF; rw [getD_at hlt])) op100 ?_
    conv => whnf
    refine bcase_iff.2 ⟨fun h5 => ?_, fun h5 => ?_⟩
    · skip
      have h5 : (snF hs) i ≠ 0 := by have h5 : ((snF hs) i != 0) = true := h5; simpa using h5
      -- R:TT
      conv => whnf
      rw [firstR_at hlt hd h5]
    · skip
      have h5 : (snF hs) i = 0 := by have h5 : ((snF hs) i != 0) = false := h5; simpa using h5
      -- Z2:TF
      conv => whnf
      refine ⟨⟨3586, [7, 1007, 2007, 3007, 4007], []⟩, ?_⟩
      conv => whnf
      rw [hw]
      exact hZ1 (i + 1) ⟨hlt, up_succ hd h5⟩ (by omega)
  · skip
    have hge : i = hs.length := by have := of_decide_eq_false h2; omega
    -- R:F
    conv => whnf
    subst hge
    rw [firstR_no hd]

theorem op99 : Opens PR 99 := ⟨_, Tryd.func99, rfl, rfl⟩

theorem c31 (gl : Gl) (hs : List Sn) (hl : hs.length ≤ 9223372036854775807) : PCalls PR gl 31 [.agg [snsV hs]] fun r => r = .tup [vI (chH hs).1, vI (chH hs).2] := by
  refine fnW_sound (par_ok gl) Tryd.func31 ?_
  conv => whnf
  refine ⟨_, rfl, ?_⟩
  conv => whnf
  refine byC (c62 gl [(hs.length : Int)] (by simp) 1 8) op62 ?_
  conv => whnf
  refine bcase_iff.2 ⟨fun h1 => ?_, fun h1 => ?_⟩
  · skip
    have h1 : [(hs.length : Int)].any (outB 1 8) = true := h1
    -- R:T
    conv => whnf
    unfold chH
    rw [if_pos h1]
  · skip
    have h1 : [(hs.length : Int)].any (outB 1 8) = false := h1
    conv => whnf
    refine byC (c99 gl hs hl) op99 ?_
    -- R:F
    conv => whnf
    unfold chH
    rw [h1, if_neg (by simp)]

theorem op31 : Opens PR 31 := ⟨_, Tryd.func31, rfl, rfl⟩

theorem c102 (gl : Gl) (hs : List Sn) (hl : hs.length ≤ 9223372036854775807) : PCalls PR gl 102 [.agg [snsV hs]] fun r => r = .tup [.agg [snsV hs], vI (chHE hs)] := by
  refine fnW_sound (par_ok gl) Tryd.func102 ?_
  conv => whnf
  refine byC (c31 gl hs hl) op31 ?_
  -- R:
  conv => whnf

theorem op102 : Opens PR 102 := ⟨_, Tryd.func102, rfl, rfl⟩

theorem c108 (gl : Gl) (hs : List Sn) (h8 : hs.length ≤ 8) : PCalls PR gl 108 [.agg [snsV hs]] fun r => r = vI ((2 ^ hs.length - 1 : Nat) : Int) := by
  refine fnW_sound (par_ok gl) Tryd.func108 ?_
  conv => whnf
  refine ⟨Int.natCast_nonneg _, ?_⟩
  -- R:
  conv => whnf
  rw [mask_all (by omega)]

theorem op108 : Opens PR 108 := ⟨_, Tryd.func108, rfl, rfl⟩

theorem c140 (gl : Gl) (hs : List Sn) (a b : Nat) (ha : a < hs.length) (hb : b < hs.length) (hV : ValidH hs) : PCalls PR gl 140 [.agg [snsV hs], vI a, vI b] fun r => r = vB (pairH hs a b) := by
  have hka := (hV.sn ha).1
  have hkb := (hV.sn hb).1
  have hmul : IntKind.i64.wrap (hs[a].1 * hs[b].1) = hs[a].1 * hs[b].1 := by
    have h3 : 0 ≤ hs[a].1 * hs[b].1 := Int.mul_nonneg hka.1 hkb.1
    have h4 : hs[a].1 * hs[b].1 ≤ 2 * 2 := Int.mul_le_mul hka.2 hkb.2 hkb.1 (by omega)
    exact wrap_int (by omega) (by omega)
  have hpx : pairH hs a b = pairX hs[a] hs[b] := by unfold pairH; rw [getD_at ha, getD_at hb]
  rw [hpx]
  refine fnW_sound (par_ok gl) Tryd.func140 ?_
  conv => whnf
  refine ⟨[0, 1, 2, 3, 4, 5, 6, 7, 8, 9, 10, 11, 12, 13, 14, 15], [6, 7, 8, 9, 10, 11, 12, 13, 14], [14], [7], ⟨4503599627370495, [], []⟩, by decide +kernel, ?_⟩
  conv => whnf
  refine ⟨_, getI_nat ha, ?_⟩
  conv => whnf
  refine ⟨_, getI_nat hb, ?_⟩
  conv => whnf
  refine bcase_iff.2 ⟨fun g2_5 => ?_, fun g2_5 => ?_⟩
  · skip
    have g5 : (hs[a].1 == hs[b].1) = true := g2_5
    conv => whnf
    refine bcase_iff.2 ⟨fun g2_22 => ?_, fun g2_22 => ?_⟩
    · skip
      have g22 : decide (hs[a].2.1 ≤ hs[b].2.2) = true := g2_22
      -- R:TT
      conv => whnf
      unfold pairX
      rw [g5, g22]
      rfl
    · skip
      have g22 : decide (hs[a].2.1 ≤ hs[b].2.2) = false := g2_22
      -- R:TF
      conv => whnf
      unfold pairX
      rw [g5, g22]
      rfl
  · skip
    have g5 : (hs[a].1 == hs[b].1) = false := g2_5
    conv => whnf
    refine bcase_iff.2 ⟨fun g2_13 => ?_, fun g2_13 => ?_⟩
    · skip
      have g13 : (IntKind.i64.wrap (hs[a].1 * hs[b].1) == 0) = true := g2_13
      conv => whnf
      refine bcase_iff.2 ⟨fun g2_22 => ?_, fun g2_22 => ?_⟩
      · skip
        have g22 : decide (hs[a].2.1 ≤ hs[b].2.2) = true := g2_22
        -- R:FTT
        conv => whnf
        rw [hmul] at g13
        unfold pairX
        rw [g5, g13, g22]
        rfl
      · skip
        have g22 : decide (hs[a].2.1 ≤ hs[b].2.2) = false := g2_22
        -- R:FTF
        conv => whnf
        rw [hmul] at g13
        unfold pairX
        rw [g5, g13, g22]
        rfl
    · skip
      have g13 : (IntKind.i64.wrap (hs[a].1 * hs[b].1) == 0) = false := g2_13
      -- R:FF
      conv => whnf
      rw [hmul] at g13
      unfold pairX
      rw [g5, g13]
      rfl

theorem op140 : Opens PR 140 := ⟨_, Tryd.func140, rfl, rfl⟩

theorem c111 (hs : List Sn) (hV : ValidH hs) (set : Nat) (hset : set < 2 ^ hs.length) : PCalls PR glT 111 [.agg [snsV hs], vI set] fun r => r = .tup [vI (clO (clR hs set)).1, vI (clO (clR hs set)).2.1, vB (clO (clR hs set)).2.2] := by
  have h8 := hV.n8
  have h1 := hV.n1
  have hp : 2 ^ hs.length ≤ 256 := Nat.pow_le_pow_right (n := 2) (by omega) (show hs.length ≤ 8 by omega)
  have hmem := bits_mem (show hs.length ≤ 60 by omega) hset
  have hbl := bitsL_len set
  have hnl : (natsV (bitsL set)).length = (bitsL set).length := by simp [natsV]
  refine fnW_sound (par_ok glT) Tryd.func111 ?_
  conv => whnf
  refine byC (c79 set (by omega)) op79 ?_
  conv => whnf
  refine loop_q fun Q1 hQ1 => ?_
  refine ⟨⟨917888, [2], []⟩, ?_⟩
  refine LoopW_ind _ (fun i : Nat => (({ tmps := [.undef, .undef, .undef, .undef, .undef, .undef, .undef, .clo (.func 140) [.agg [snsV hs]] [], vL (natsV (bitsL set)), .undef, .undef, .undef, .undef, .undef, .undef, .undef, .undef, vL (natsV (bitsL set)), vI (natsV (bitsL set)).length, vI i, .undef, .undef, .undef, .undef, .undef, .undef, .undef, .undef, .undef, .undef, .undef, .undef, .undef, .undef, .undef, .undef, .undef, .undef, .undef, .undef, .undef, .undef], seg := [], up := [] } : St S))) (fun i : Nat => (i ≤ (natsV (bitsL set)).length ∧ clL hs ((bitsL set).drop i) = clR hs set)) (fun i : Nat => ((natsV (bitsL set)).length - i)) () ?_ 0 ⟨Nat.zero_le _, rfl⟩
  intro i hinv Z1 hZ1
  obtain ⟨hi, hd⟩ := hinv
  conv => whnf
  refine bcase_iff.2 ⟨fun h4 => ?_, fun h4 => ?_⟩
  · skip
    have hlt : i < (natsV (bitsL set)).length := by have := of_decide_eq_true h4; omega
    have hw : IntKind.i64.wrap ((i : Int) + 1) = ((i + 1 : Nat) : Int) := wrap_nat (by omega)
    conv => whnf
    have hlb : i < (bitsL set).length := by simpa using hlt
    conv => whnf
    have hai : (bitsL set)[i] < hs.length := hmem _ (List.getElem_mem hlb)
    conv => whnf
    have hdl : ((bitsL set).drop (i + 1)).length ≤ (bitsL set).length := by simp
    conv => whnf
    refine ⟨_, getI_nat hlt, ?_⟩
    conv => whnf
    rw [natsV_get hlt, hw]
    conv => whnf
    refine ⟨Int.natCast_nonneg _, ?_⟩
    conv => whnf
    refine ⟨hlt, Nat.le_refl _, ?_⟩
    conv => whnf
    refine ⟨⟨940443008, [], []⟩, ?_⟩
    refine LoopW_ind _ (fun s9 : List Int × Int × Nat => match s9 with | (ys, m, k) => (({ tmps := [.undef, .undef, .undef, .undef, .undef, .undef, .undef, .clo (.func 140) [.agg [snsV hs]] [], vL (natsV (bitsL set)), .undef, vI (((bitsL set)[i] : Nat) : Int), .undef, .undef, .undef, .undef, .undef, .undef, vL (natsV (bitsL set)), vI (natsV (bitsL set)).length, vI i, .undef, .undef, .undef, .undef, .undef, .undef, .undef, vL ys, vI m, vI k, .undef, .undef, .undef, .undef, .undef, .undef, .undef, .undef, .undef, .undef, .undef, .undef], seg := [], up := [] } : St S))) (fun s9 : List Int × Int × Nat => match s9 with | (ys, m, k) => (ys = natsV ((bitsL set).drop (i + 1)) ∧ m = (((bitsL set).drop (i + 1)).length : Int) ∧ k ≤ ((bitsL set).drop (i + 1)).length ∧ ∀ j (hj : j < k) (h : j < ((bitsL set).drop (i + 1)).length), pairH hs (bitsL set)[i] ((bitsL set).drop (i + 1))[j] = true)) (fun s9 : List Int × Int × Nat => match s9 with | (ys, m, k) => (((bitsL set).drop (i + 1)).length - k)) () ?_ (_, _, 0) ⟨by show List.drop (((i + 1 : Nat) : Int)).toNat (List.take (natsV (bitsL set)).length (natsV (bitsL set))) = _; rw [List.take_length, Int.toNat_natCast]; simp [natsV, List.map_drop], by show ((List.drop (((i + 1 : Nat) : Int)).toNat (List.take (natsV (bitsL set)).length (natsV (bitsL set)))).length : Int) = _; rw [List.take_length, Int.toNat_natCast]; simp, Nat.zero_le _, fun j h => absurd h (Nat.not_lt_zero j)⟩
    rintro ⟨ys, m, k⟩ hinv Z2 hZ2
    dsimp only at hinv hZ2
    obtain ⟨rfl, rfl, hk, hy⟩ := hinv
    conv => whnf
    refine bcase_iff.2 ⟨fun h7 => ?_, fun h7 => ?_⟩
    · skip
      have hltk : k < ((bitsL set).drop (i + 1)).length := by have := of_decide_eq_true h7; omega
      have hwk : IntKind.i64.wrap ((k : Int) + 1) = ((k + 1 : Nat) : Int) := wrap_nat (by omega)
      conv => whnf
      have hkn : k < (natsV ((bitsL set).drop (i + 1))).length := by simpa using hltk
      conv => whnf
      refine ⟨_, getI_nat hkn, ?_⟩
      conv => whnf
      rw [natsV_get hkn]
      conv => whnf
      have hbk : ((bitsL set).drop (i + 1))[k] < hs.length := hmem _ (List.mem_of_mem_drop (List.getElem_mem hltk))
      conv => whnf
      refine byC (c140 glT hs _ _ hai hbk hV) op140 ?_
      conv => whnf
      refine bcase_iff.2 ⟨fun h9 => ?_, fun h9 => ?_⟩
      · skip
        have h9 : (!pairH hs (bitsL set)[i] ((bitsL set).drop (i + 1))[k]) = true := h9
        have h9 : pairH hs (bitsL set)[i] ((bitsL set).drop (i + 1))[k] = false := by simpa using h9
        have hcl := clL_hit hlb hltk (fun j hj => hy j hj (by omega)) h9
        rw [hd] at hcl
        conv => whnf
        refine (hQ1 _ _ _).mpr ?_
        -- R:TTT
        conv => whnf
        rw [hcl]
        rfl
      · skip
        have h9 : (!pairH hs (bitsL set)[i] ((bitsL set).drop (i + 1))[k]) = false := h9
        have h9 : pairH hs (bitsL set)[i] ((bitsL set).drop (i + 1))[k] = true := by simpa using h9
        -- Z7:TF
        conv => whnf
        refine ⟨⟨940443008, [], []⟩, ?_⟩
        conv => whnf
        rw [hwk]
        exact hZ2 (_, _, k + 1) ⟨rfl, rfl, hltk, fun j hj h => by have hj : j < k + 1 := hj; by_cases e : j = k; subst e; exact h9; exact hy j (by omega) h⟩ (by dsimp only; omega)
    · skip
      have hgk : k = ((bitsL set).drop (i + 1)).length := by have := of_decide_eq_false h7; omega
      -- Z4:TF
      conv => whnf
      refine ⟨⟨917888, [], []⟩, ?_⟩
      conv => whnf
      have hst := clL_step hlb (fun j hj => hy j (by omega) hj)
      rw [hd] at hst
      rw [hw]
      exact hZ1 (i + 1) ⟨hlt, hst.symm⟩ (by omega)
  · skip
    have hge : i = (natsV (bitsL set)).length := by have := of_decide_eq_false h4; omega
    conv => whnf
    refine (hQ1 _ _ _).mpr ?_
    -- R:F
    conv => whnf
    rw [hge] at hd
    have : (bitsL set).drop (natsV (bitsL set)).length = [] := List.drop_eq_nil_of_le (by simp)
    rw [this] at hd
    rw [← hd]
    rfl

theorem op111 : Opens PR 111 := ⟨_, Tryd.func111, rfl, rfl⟩

end Go.Ab.MkF

namespace Go.Ab.MkF
open Go Go.Ab Go.Ab.Pln Go.Proofs
set_option maxHeartbeats 1000000
set_option maxRecDepth 100000

theorem setsH_lt (hs : List Sn) : ∀ x ∈ setsH hs, x < 2 ^ hs.length := fewH_lt hs _
/-- All leaves account for a copy: so there are some sets. -/
theorem acc_all (hs : List Sn) : accB hs (2 ^ hs.length - 1) = true := by
  unfold accB clR
  have : less (2 ^ hs.length - 1) (2 ^ hs.length - 1) = 0 := by unfold less; simp
  rw [this]; rfl
theorem onesN_all {n : Nat} (h : n ≤ 8) : onesN (2 ^ n - 1) = n := by
  match n, h with
  | 0, _ => rfl
  | 1, _ => rfl
  | 2, _ => rfl
  | 3, _ => rfl
  | 4, _ => rfl
  | 5, _ => rfl
  | 6, _ => rfl
  | 7, _ => rfl
  | 8, _ => rfl
theorem fewH_one {hs : List Sn} {s : Nat} : ∀ {n : Nat}, s < n → accB hs s = true → onesN s ≤ hs.length → (fewH hs n).2 ≠ []
  | n + 1, h, ha, ho => by
    have hgo : (fewH hs n).2 ≠ [] → (fewH hs (n + 1)).2 ≠ [] := fun h => by
      simp only [fewH]
      split
      · exact h
      · split
        · simp
        · simp
    by_cases e : s = n
    · subst e
      by_cases hq : onesN s > (fewH hs s).1
      · -- the fewest went down: so there is one
        apply hgo
        have : ∀ m, (fewH hs m).1 < hs.length → (fewH hs m).2 ≠ [] := fun m => by
          induction m with
          | zero => intro h; exact absurd h (Nat.lt_irrefl _)
          | succ m ih =>
            intro h
            simp only [fewH] at h ⊢
            split at h
            · rename_i h2; rw [if_pos h2]; exact ih h
            · rename_i h2; rw [if_neg h2]
              split
              · simp
              · simp
        exact this s (by omega)
      · simp only [fewH]
        rw [if_neg (by simp [hq, ha])]
        split <;> simp
    · exact hgo (fewH_one (by omega) ha ho)
theorem setsH_ne {hs : List Sn} (h : hs.length ≤ 8) : 0 < (setsH hs).length := by
  have := Nat.two_pow_pos hs.length
  exact List.length_pos_iff.2 (fewH_one (s := 2 ^ hs.length - 1) (by omega) (acc_all hs) (by rw [onesN_all h]; exact Nat.le_refl _))
theorem natsV_len (l : List Nat) : (natsV l).length = l.length := by simp [natsV]
theorem bl40 {x n : Nat} (hn : n ≤ 8) (h : x < 2 ^ n) : x < 1099511627776 := by
  have : 2 ^ n ≤ 2 ^ 8 := Nat.pow_le_pow_right (by omega) hn
  have : (2 : Nat) ^ 8 = 256 := rfl
  omega
theorem lt63' {x n : Nat} (hn : n ≤ 8) (h : x < 2 ^ n) : x < 2 ^ 63 := by
  have := bl40 hn h
  have : (2 : Nat) ^ 63 = 9223372036854775808 := rfl
  omega
theorem ascAll_F {told : List Int} {i : Nat} (h : i < told.length) (ha : ascB told i = true) : ascAll told = false := all_no (p := fun i => !ascB told i) h (by rw [ha]; rfl)
theorem ascAll_T {told : List Int} (h : ∀ j, j < told.length → ascB told j = false) : ascAll told = true := all_yes fun j hj => by rw [h j hj]; rfl
theorem told_in {told : List Int} {n : Nat} (h : told.any (outB 0 ((n : Int) - 1)) = false) {i : Nat} (hi : i < told.length) : 0 ≤ told[i] ∧ told[i] ≤ (n : Int) - 1 := by
  have := List.any_eq_false.1 h told[i] (List.getElem_mem hi)
  simp [outB] at this
  exact this

theorem c105 (a b : Nat) (ha : a < 1099511627776) (hb : b < 1099511627776) : PCalls PR glT 105 [vI a, vI b] fun r => r = vI (cmpS a b) := by
  have h1 := bitsL_len a
  have h2 := bitsL_len b
  refine fnW_sound (par_ok glT) Tryd.func105 ?_
  conv => whnf
  refine byC (c79 a ha) op79 ?_
  conv => whnf
  refine byC (c79 b hb) op79 ?_
  conv => whnf
  refine byC (c106 glT _ _ (by rw [natsV_len]; omega) (by rw [natsV_len]; omega)) op106 ?_
  -- R:
  conv => whnf
  rfl

theorem op105 : Opens PR 105 := ⟨_, Tryd.func105, rfl, rfl⟩

theorem c103 (l : List Nat) (hl : l.length ≤ 1000) (hne : 0 < l.length) (hb : ∀ x ∈ l, x < 1099511627776) : PCalls PR glT 103 [vL (natsV l), .clo (.func 105) [] []] fun r => r = vI ((minU cmB l l.length : Nat) : Int) := by
  have hnl := natsV_len l
  refine fnW_sound (par_ok glT) Tryd.func103 ?_
  conv => whnf
  refine bcase_iff.2 ⟨fun h1 => ?_, fun h1 => ?_⟩
  · skip
    exfalso
    have := of_decide_eq_true h1
    omega --done
  · skip
    conv => whnf
    have h0 : 0 < (natsV l).length := by omega
    conv => whnf
    refine ⟨_, getI_zero h0, ?_⟩
    conv => whnf
    have e1 : ((minU cmB l 1 : Nat) : Int) = (natsV l)[0] := by
      rw [natsV_get h0, show (1 : Nat) = 0 + 1 from rfl, minU_succ hne]
      unfold minU
      rw [List.take_zero, List.foldl_nil, List.headD_eq_head?_getD, List.head?_eq_getElem?, List.getElem?_eq_getElem hne]
      simp
    rw [← e1]
    refine ⟨⟨99, [], []⟩, ?_⟩
    refine LoopW_ind _ (fun i : Nat => (({ tmps := [vL (natsV l), .clo (.func 105) [] [], .undef, .undef, .undef, vI ((minU cmB l i : Nat) : Int), vI i, .undef, .undef, .undef, .undef, .undef, .undef, .undef, .undef, .undef, .undef, .undef, .undef, .undef, .undef, .undef, .undef, .undef, .undef, .undef, .undef, .undef, .undef, .undef, .undef, .undef, .undef], seg := [], up := [] } : St S))) (fun i : Nat => (i ≤ l.length ∧ 1 ≤ i)) (fun i : Nat => (l.length - i)) () ?_ 1 ⟨hne, Nat.le_refl _⟩
    intro i hinv Z1 hZ1
    obtain ⟨hi, hi1⟩ := hinv
    conv => whnf
    refine bcase_iff.2 ⟨fun h5 => ?_, fun h5 => ?_⟩
    · skip
      have hlt : i < l.length := by have := of_decide_eq_true h5; omega
      have hw : IntKind.i64.wrap ((i : Int) + 1) = ((i + 1 : Nat) : Int) := wrap_nat (by omega)
      conv => whnf
      have hin : i < (natsV l).length := by omega
      conv => whnf
      refine ⟨_, getI_nat hin, ?_⟩
      conv => whnf
      rw [natsV_get hin]
      conv => whnf
      refine byC (c105 _ _ (hb _ (List.getElem_mem hlt)) (hb _ (minU_mem hne i hi))) op105 ?_
      conv => whnf
      refine bcase_iff.2 ⟨fun h7 => ?_, fun h7 => ?_⟩
      · skip
        have h7 : cmB l[i] (minU cmB l i) = true := h7
        conv => whnf
        refine ⟨_, getI_nat hin, ?_⟩
        -- Z5:TT
        conv => whnf
        refine ⟨⟨99, [], []⟩, ?_⟩
        conv => whnf
        rw [hw, natsV_get hin]
        have hz := hZ1 (i + 1) ⟨hlt, by omega⟩ (by omega)
        rw [minU_succ hlt, if_pos h7] at hz
        exact hz
      · skip
        have h7 : cmB l[i] (minU cmB l i) = false := h7
        -- Z5:TF
        conv => whnf
        refine ⟨⟨99, [], []⟩, ?_⟩
        conv => whnf
        rw [hw]
        have hz := hZ1 (i + 1) ⟨hlt, by omega⟩ (by omega)
        rw [minU_succ hlt, h7, if_neg (by simp)] at hz
        exact hz
    · skip
      have hge : i = l.length := by have := of_decide_eq_false h5; omega
      -- R:FF
      conv => whnf
      rw [hge]

theorem op103 : Opens PR 103 := ⟨_, Tryd.func103, rfl, rfl⟩

theorem c104 (hs : List Sn) (hV : ValidH hs) : PCalls PR glT 104 [.agg [snsV hs]] fun r => r = vL (natsV (setsH hs)) := by
  have h8 := hV.n8
  have h1 := hV.n1
  have hp : 2 ^ hs.length ≤ 256 := Nat.pow_le_pow_right (n := 2) (by omega) (show hs.length ≤ 8 by omega)
  have hsh : shlI .i64 1 (hs.length : Int) = ((2 ^ hs.length : Nat) : Int) := shl_one (by omega)
  refine fnW_sound (parN_ok glT) Tryd.func104 ?_
  conv => whnf
  refine ⟨Int.natCast_nonneg _, ?_⟩
  conv => whnf
  rw [hsh]
  refine ⟨⟨393230, [], [2]⟩, ?_⟩
  refine LoopW_ind _ (fun i : Nat => (({ tmps := [.undef, .own 1 [], .sl (S := S) U.int (natsV (fewH hs i).2) (some 2), vI (fewH hs i).1, .undef, .undef, .undef, .undef, .undef, .undef, .undef, .undef, .undef, .undef, .undef, .undef, .undef, vI ((2 ^ hs.length : Nat) : Int), vI i, .undef, .undef, .undef, .undef, .undef, .undef, .undef, .undef, .undef, .undef, .undef, .undef, .undef, .undef, .undef, .undef, .undef, .undef, .undef, .undef, .undef, .undef, .undef, .undef, .undef, .undef, .undef, .undef, .undef], seg := [(1, .cells [snsV hs]), (2, .row U.int false)], up := [] } : St S))) (fun i : Nat => (i ≤ 2 ^ hs.length)) (fun i : Nat => (2 ^ hs.length - i)) () ?_ 0 (Nat.zero_le _)
  intro i hi Z1 hZ1
  have hfl := fewH_le hs i
  have hfn := fewH_len hs i
  conv => whnf
  refine bcase_iff.2 ⟨fun h3 => ?_, fun h3 => ?_⟩
  · skip
    have hlt : i < 2 ^ hs.length := by have := of_decide_eq_true h3; omega
    have hw : IntKind.i64.wrap ((i : Int) + 1) = ((i + 1 : Nat) : Int) := wrap_nat (by omega)
    have hi256 : i < 256 := by omega
    conv => whnf
    rw [onesB hi256]
    conv => whnf
    refine byC (c131 glT i hi256) op131 ?_
    conv => whnf
    refine bcase_iff.2 ⟨fun h6 => ?_, fun h6 => ?_⟩
    · skip
      have h6 : onesN i > (fewH hs i).1 := by have := of_decide_eq_true h6; omega
      have hs1 : fewH hs (i + 1) = fewH hs i := by simp only [fewH]; rw [if_pos (by simp [h6])]
      -- Z3:TT
      conv => whnf
      refine ⟨⟨393230, [44, 45, 900002], []⟩, ?_⟩
      conv => whnf
      rw [hw]
      have hz := hZ1 (i + 1) hlt (by omega)
      rw [hs1] at hz
      exact hz
    · skip
      have h6 : ¬ onesN i > (fewH hs i).1 := by have := of_decide_eq_false h6; omega
      conv => whnf
      refine ⟨[0, 1, 3, 2, 4, 5, 6, 7, 8, 9, 10, 11, 12], [], [], [], ⟨281474976710655, [], []⟩, by decide +kernel, ?_⟩
      conv => whnf
      refine byC (c108 glT hs h8) op108 ?_
      conv => whnf
      rw [andNot_nat (lt63' h8 (show 2 ^ hs.length - 1 < 2 ^ hs.length by omega)) (by have : (2 : Nat) ^ 63 = 9223372036854775808 := rfl; omega)]
      conv => whnf
      refine byC (c111 hs hV (less (2 ^ hs.length - 1) i) (less_lt' (by omega))) op111 ?_
      conv => whnf
      have hacc : accB hs i = (clR hs (less (2 ^ hs.length - 1) i)).isNone := rfl
      conv => whnf
      refine bcase_iff.2 ⟨fun h8 => ?_, fun h8 => ?_⟩
      · skip
        have h8a : (clO (clR hs (less (2 ^ hs.length - 1) i))).2.2 = true := h8
        have ha : accB hs i = false := by
          rw [hacc]
          cases hc : clR hs (less (2 ^ hs.length - 1) i) with
          | none => rw [hc] at h8a; cases h8a
          | some p => rfl
        have hs1 : fewH hs (i + 1) = fewH hs i := by simp only [fewH]; rw [if_pos (by simp [ha])]
        -- Z3:TFT
        conv => whnf
        refine ⟨⟨393230, [44, 45, 900002], []⟩, ?_⟩
        conv => whnf
        rw [hw]
        have hz := hZ1 (i + 1) hlt (by omega)
        rw [hs1] at hz
        exact hz
      · skip
        have h8a : (clO (clR hs (less (2 ^ hs.length - 1) i))).2.2 = false := h8
        have ha : accB hs i = true := by
          rw [hacc]
          cases hc : clR hs (less (2 ^ hs.length - 1) i) with
          | none => rfl
          | some p => obtain ⟨a, b⟩ := p; rw [hc] at h8a; cases h8a
        conv => whnf
        refine bcase_iff.2 ⟨fun h9 => ?_, fun h9 => ?_⟩
        · skip
          have h9 : onesN i < (fewH hs i).1 := by have := of_decide_eq_true h9; omega
          have hs1 : fewH hs (i + 1) = (onesN i, [i]) := by simp only [fewH]; rw [if_neg (by simp [h6, ha]), if_pos h9]
          conv => whnf
          refine ⟨_, rfl, ?_⟩
          conv => whnf
          refine ⟨lim (by simp [] <;> omega), ?_⟩
          -- Z3:TFFT
          conv => whnf
          refine ⟨⟨393230, [44, 45, 900002], [2]⟩, ?_⟩
          conv => whnf
          rw [hw]
          have hz := hZ1 (i + 1) hlt (by omega)
          rw [hs1] at hz
          exact hz
        · skip
          have h9 : ¬ onesN i < (fewH hs i).1 := by have := of_decide_eq_false h9; omega
          have hs1 : fewH hs (i + 1) = ((fewH hs i).1, (fewH hs i).2 ++ [i]) := by simp only [fewH]; rw [if_neg (by simp [h6, ha]), if_neg h9]
          conv => whnf
          refine ⟨_, rfl, ?_⟩
          conv => whnf
          refine ⟨lim (by simp [natsV] <;> omega), ?_⟩
          -- Z3:TFFF
          conv => whnf
          refine ⟨⟨393230, [44, 45, 900002], []⟩, ?_⟩
          conv => whnf
          rw [hw]
          have hz := hZ1 (i + 1) hlt (by omega)
          rw [hs1] at hz
          have e : natsV ((fewH hs i).2 ++ [i]) = natsV (fewH hs i).2 ++ [(i : Int)] := by simp [natsV]
          rw [show natsV ((fewH hs i).1, (fewH hs i).2 ++ [i]).2 = natsV (fewH hs i).2 ++ [(i : Int)] from e] at hz
          exact hz
  · skip
    have hge : i = 2 ^ hs.length := by have := of_decide_eq_false h3; omega
    -- R:F
    conv => whnf
    rw [hge]

theorem op104 : Opens PR 104 := ⟨_, Tryd.func104, rfl, rfl⟩

theorem c33 (hs : List Sn) (hl : hs.length ≤ 9223372036854775807) : PCalls PR glT 33 [.agg [snsV hs]] fun r => r = .tup [vL (forV hs).1, vI (forV hs).2] := by
  refine fnW_sound (par_ok glT) Tryd.func33 ?_
  conv => whnf
  refine byC (c102 glT hs hl) op102 ?_
  rcases hk : chHE hs with (_ | n) | n
  · skip
    have hk : chHE hs = 0 := hk
    have hV := chH_valid.1 hk
    have hh8 := hV.n8
    have h8 := hV.n8
    have h1 := hV.n1
    have hp : 2 ^ hs.length ≤ 256 := Nat.pow_le_pow_right (n := 2) (by omega) (show hs.length ≤ 8 by omega)
    conv => whnf
    refine byC (c104 hs hV) op104 ?_
    conv => whnf
    have hsl : (setsH hs).length ≤ 2 ^ hs.length := fewH_len hs _
    conv => whnf
    have hsn := setsH_ne h8
    conv => whnf
    refine byC (c103 (setsH hs) (by omega) hsn (fun x hx => bl40 h8 (setsH_lt hs x hx))) op103 ?_
    conv => whnf
    refine byC (c79 (forN hs) (bl40 h8 (setsH_lt hs _ (minU_mem hsn _ (Nat.le_refl _))))) op79 ?_
    -- R:a
    conv => whnf
    unfold forV
    rw [if_pos hk]
  · skip
    have hne : ¬ chHE hs = 0 := by rw [hk]; intro e; cases e
    -- R:b
    conv => whnf
    unfold forV
    rw [if_neg hne, hk]
  · skip
    have hne : ¬ chHE hs = 0 := by rw [hk]; intro e; cases e
    -- R:c
    conv => whnf
    unfold forV
    rw [if_neg hne, hk]

theorem op33 : Opens PR 33 := ⟨_, Tryd.func33, rfl, rfl⟩

theorem c35 (hs : List Sn) (hl : hs.length ≤ 9223372036854775807) : PCalls PR glT 35 [.agg [snsV hs]] fun r => r = .tup [vL (sureV hs).1, vL (sureV hs).2.1, vI (sureV hs).2.2] := by
  refine fnW_sound (par_ok glT) Tryd.func35 ?_
  conv => whnf
  refine byC (c102 glT hs hl) op102 ?_
  rcases hk : chHE hs with (_ | n) | n
  · skip
    have hk : chHE hs = 0 := hk
    have hV := chH_valid.1 hk
    have hh8 := hV.n8
    have h8 := hV.n8
    have h1 := hV.n1
    have hp : 2 ^ hs.length ≤ 256 := Nat.pow_le_pow_right (n := 2) (by omega) (show hs.length ≤ 8 by omega)
    conv => whnf
    refine byC (c108 glT hs h8) op108 ?_
    conv => whnf
    refine byC (c104 hs hV) op104 ?_
    conv => whnf
    have hnl := natsV_len (setsH hs)
    conv => whnf
    have hsl : (setsH hs).length ≤ 2 ^ hs.length := fewH_len hs _
    refine ⟨⟨14680256, [1, 2, 3, 5, 1005], [2, 3, 1005]⟩, ?_⟩
    refine LoopW_ind _ (fun i : Nat => (({ tmps := [.undef, .undef, .undef, .undef, .undef, .undef, vI ((allU hs.length (setsH hs) i : Nat) : Int), vI ((someU (setsH hs) i : Nat) : Int), .undef, .undef, .undef, .undef, .undef, .undef, .undef, .undef, .undef, .undef, .undef, .undef, .undef, vL (natsV (setsH hs)), vI (natsV (setsH hs)).length, vI i, .undef, .undef, .undef, .undef, .undef, .undef, .undef, .undef, .undef, .undef, .undef, .undef, .undef, .undef], seg := [], up := [] } : St S))) (fun i : Nat => (i ≤ (setsH hs).length)) (fun i : Nat => ((setsH hs).length - i)) () ?_ 0 (Nat.zero_le _)
    intro i hi Z1 hZ1
    conv => whnf
    refine bcase_iff.2 ⟨fun h6 => ?_, fun h6 => ?_⟩
    · skip
      have hlt : i < (setsH hs).length := by have := of_decide_eq_true h6; omega
      have hw : IntKind.i64.wrap ((i : Int) + 1) = ((i + 1 : Nat) : Int) := wrap_nat (by omega)
      conv => whnf
      have hin : i < (natsV (setsH hs)).length := by omega
      conv => whnf
      refine ⟨_, getI_nat hin, ?_⟩
      -- Z6:T
      conv => whnf
      refine ⟨⟨14680256, [], []⟩, ?_⟩
      conv => whnf
      have hx := setsH_lt hs _ (List.getElem_mem hlt)
      rw [hw, natsV_get hin, and_nat (lt63' h8 (allU_lt _ i (by omega))) (lt63' h8 hx), or_nat (lt63' h8 (someU_lt (setsH_lt hs) i (by omega))) (lt63' h8 hx), ← allU_succ hlt, ← someU_succ hlt]
      exact hZ1 (i + 1) hlt (by omega)
    · skip
      have hge : i = (setsH hs).length := by have := of_decide_eq_false h6; omega
      conv => whnf
      refine byC (c79 (allU hs.length (setsH hs) i) (bl40 h8 (allU_lt _ i hi))) op79 ?_
      conv => whnf
      refine byC (c79 (someU (setsH hs) i) (bl40 h8 (someU_lt (setsH_lt hs) i hi))) op79 ?_
      -- R:aF
      conv => whnf
      unfold sureV
      rw [if_pos hk, hge]
  · skip
    have hne : ¬ chHE hs = 0 := by rw [hk]; intro e; cases e
    -- R:b
    conv => whnf
    unfold sureV
    rw [if_neg hne, hk]
  · skip
    have hne : ¬ chHE hs = 0 := by rw [hk]; intro e; cases e
    -- R:c
    conv => whnf
    unfold sureV
    rw [if_neg hne, hk]

theorem op35 : Opens PR 35 := ⟨_, Tryd.func35, rfl, rfl⟩

theorem c113 (hs : List Sn) (told : List Int) (hl : hs.length ≤ 9223372036854775807) (ht : told.length ≤ 9223372036854775807) : PCalls PR glT 113 [.agg [snsV hs], vL told] fun r => r = .tup [.agg [snsV hs], vI (restV hs told).1, vI (restV hs told).2] := by
  refine fnW_sound (par_ok glT) Tryd.func113 ?_
  conv => whnf
  refine byC (c102 glT hs hl) op102 ?_
  rcases hk : chHE hs with (_ | n) | n
  · skip
    have hk : chHE hs = 0 := hk
    have hV := chH_valid.1 hk
    have hh8 := hV.n8
    have h8 := hV.n8
    have h1 := hV.n1
    have hp : 2 ^ hs.length ≤ 256 := Nat.pow_le_pow_right (n := 2) (by omega) (show hs.length ≤ 8 by omega)
    conv => whnf
    rw [show IntKind.i64.wrap ((hs.length : Int) - 1) = (hs.length : Int) - 1 from wrap_int (by omega) (by omega)]
    conv => whnf
    refine byC (c62 glT told ht 0 _) op62 ?_
    conv => whnf
    refine bcase_iff.2 ⟨fun h4 => ?_, fun h4 => ?_⟩
    · skip
      have h4 : told.any (outB 0 ((hs.length : Int) - 1)) = true := h4
      have hr : restE hs told = 4 := by unfold restE; rw [if_pos hk, if_pos h4]
      -- R:aT
      conv => whnf
      unfold restV
      rw [hr]
      rfl
    · skip
      have h4 : told.any (outB 0 ((hs.length : Int) - 1)) = false := h4
      conv => whnf
      refine byC (c108 glT hs h8) op108 ?_
      conv => whnf
      refine ⟨⟨3758096434, [2, 1004], [1004]⟩, ?_⟩
      refine LoopW_ind _ (fun i : Nat => (({ tmps := [.undef, vL told, .undef, .undef, .own 4 [], vI ((restU hs.length told i : Nat) : Int), .undef, .undef, .undef, .undef, .undef, .undef, .undef, .undef, .undef, .undef, .undef, .undef, .undef, .undef, .undef, .undef, .undef, .undef, .undef, .undef, .undef, .undef, .undef, vL told, vI told.length, vI i, .undef, .undef, .undef, .undef, .undef, .undef, .undef, .undef, .undef, .undef, .undef, .undef, .undef, .undef, .undef, .undef, .undef, .undef, .undef, .undef, .undef, .undef, .undef], seg := [(4, .cells [snsV hs])], up := [] } : St S))) (fun i : Nat => (i ≤ told.length ∧ ∀ j, j < i → ascB told j = false)) (fun i : Nat => (told.length - i)) () ?_ 0 ⟨Nat.zero_le _, fun j h => absurd h (Nat.not_lt_zero j)⟩
      intro i hinv Z1 hZ1
      obtain ⟨hi, hd⟩ := hinv
      conv => whnf
      refine bcase_iff.2 ⟨fun h8 => ?_, fun h8 => ?_⟩
      · skip
        have hlt : i < told.length := by have := of_decide_eq_true h8; omega
        have hw : IntKind.i64.wrap ((i : Int) + 1) = ((i + 1 : Nat) : Int) := wrap_nat (by omega)
        conv => whnf
        have htd := told_in h4 hlt
        conv => whnf
        obtain ⟨n, hn⟩ : ∃ n : Nat, told[i] = (n : Int) := ⟨told[i].toNat, by omega⟩
        conv => whnf
        refine ⟨_, getI_nat hlt, ?_⟩
        conv => whnf
        refine bcase_iff.2 ⟨fun g10_2 => ?_, fun g10_2 => ?_⟩
        · skip
          have hi0 : i > 0 := by have := of_decide_eq_true g10_2; omega
          have hw1 : IntKind.i64.wrap ((i : Int) - 1) = ((i - 1 : Nat) : Int) := by rw [wrap_int (by omega) (by omega)]; omega
          have hil : i - 1 < told.length := by omega
          conv => whnf
          rw [hw1]
          conv => whnf
          refine ⟨_, getI_nat hil, ?_⟩
          conv => whnf
          refine bcase_iff.2 ⟨fun h10 => ?_, fun h10 => ?_⟩
          · skip
            have h10 : decide (told[i] ≤ told[i - 1]) = true := h10
            have hab : ascB told i = true := by unfold ascB; rw [decide_eq_true hi0, getD_at hlt, getD_at hil, h10]; rfl
            have hr : restE hs told = 2 := by unfold restE; rw [if_pos hk, h4, if_neg (by simp), ascAll_F hlt hab, if_neg (by simp)]
            -- R:aFTTT
            conv => whnf
            unfold restV
            rw [hr]
            rfl
          · skip
            have h10 : decide (told[i] ≤ told[i - 1]) = false := h10
            have hab : ascB told i = false := by unfold ascB; rw [decide_eq_true hi0, getD_at hlt, getD_at hil, h10]; rfl
            conv => whnf
            rw [hn]
            conv => whnf
            refine ⟨Int.natCast_nonneg _, ?_⟩
            -- Z8:TTF
            conv => whnf
            refine ⟨⟨3758096434, [], []⟩, ?_⟩
            conv => whnf
            rw [hw, shl_one (by omega), andNot_nat (lt63' hh8 (restU_lt _ told i (by omega))) (Nat.pow_lt_pow_right (by omega) (by omega))]
            have hz := hZ1 (i + 1) ⟨hlt, up_succ hd hab⟩ (by omega)
            rw [restU_succ hlt, hn, Int.toNat_natCast] at hz
            exact hz
        · skip
          have hi0 : ¬ i > 0 := by have := of_decide_eq_false g10_2; omega
          have hab : ascB told i = false := by unfold ascB; rw [decide_eq_false hi0]; rfl
          conv => whnf
          rw [hn]
          conv => whnf
          refine ⟨Int.natCast_nonneg _, ?_⟩
          -- Z8:TF
          conv => whnf
          refine ⟨⟨3758096434, [], []⟩, ?_⟩
          conv => whnf
          rw [hw, shl_one (by omega), andNot_nat (lt63' hh8 (restU_lt _ told i (by omega))) (Nat.pow_lt_pow_right (by omega) (by omega))]
          have hz := hZ1 (i + 1) ⟨hlt, up_succ hd hab⟩ (by omega)
          rw [restU_succ hlt, hn, Int.toNat_natCast] at hz
          exact hz
      · skip
        have hge : i = told.length := by have := of_decide_eq_false h8; omega
        -- R:aFF
        conv => whnf
        have hr : restE hs told = 0 := by unfold restE; rw [if_pos hk, h4, if_neg (by simp), ascAll_T (by rw [← hge]; exact hd), if_pos rfl]
        unfold restV
        rw [if_pos hr, hge]
  · skip
    have hne : ¬ chHE hs = 0 := by rw [hk]; intro e; cases e
    -- R:b
    conv => whnf
    unfold restV restE
    rw [if_neg hne, hk, if_neg (by intro e; cases e)]
  · skip
    have hne : ¬ chHE hs = 0 := by rw [hk]; intro e; cases e
    -- R:c
    conv => whnf
    unfold restV restE
    rw [if_neg hne, hk, if_neg (by intro e; cases e)]

theorem op113 : Opens PR 113 := ⟨_, Tryd.func113, rfl, rfl⟩

end Go.Ab.MkF

namespace Go.Ab.MkF
open Go Go.Ab Go.Ab.Pln Go.Proofs
set_option maxHeartbeats 1000000
set_option maxRecDepth 100000

theorem restE_valid {hs : List Sn} {told : List Int} (h : restE hs told = 0) : ValidH hs := by
  unfold restE at h
  by_cases hk : chHE hs = 0
  · exact chH_valid.1 hk
  · rw [if_neg hk] at h; exact absurd h hk
theorem restN_lt (hs : List Sn) (told : List Int) : restN hs told < 2 ^ hs.length := restU_lt _ _ _ (Nat.le_refl _)
theorem max_gt (a b : Int) : max a b = if b > a then b else a := by rw [Int.max_def]; split <;> split <;> omega
theorem min_lt (a b : Int) : min a b = if b < a then b else a := by rw [Int.min_def]; split <;> split <;> omega
abbrev spC (s : Int × Int) : List (AV S) := [vI s.1, vI s.2]

theorem c39 (hs : List Sn) (told : List Int) (hl : hs.length ≤ 9223372036854775807) (ht : told.length ≤ 9223372036854775807) : PCalls PR glT 39 [.agg [snsV hs], vL told] fun r => r = .tup [vI (proV hs told).1, vI (proV hs told).2.1, vI (proV hs told).2.2] := by
  refine fnW_sound (par_ok glT) Tryd.func39 ?_
  conv => whnf
  refine byC (c113 hs told hl ht) op113 ?_
  unfold restV
  rcases hk : restE hs told with (_ | n) | n
  · skip
    have hk : restE hs told = 0 := hk
    have hV := restE_valid hk
    have h8 := hV.n8
    have h1 := hV.n1
    have hp : 2 ^ hs.length ≤ 256 := Nat.pow_le_pow_right (n := 2) (by omega) (show hs.length ≤ 8 by omega)
    have hrl := restN_lt hs told
    rw [if_pos (by rfl)]
    conv => whnf
    refine byC (c111 hs hV (restN hs told) hrl) op111 ?_
    rcases hc : clR hs (restN hs told) with _ | ⟨a, b⟩
    · skip
      -- R:aa
      conv => whnf
      unfold proV
      rw [if_pos hk, hc]
    · skip
      -- R:ab
      conv => whnf
      unfold proV
      rw [if_pos hk, hc]
      rfl
  · skip
    have hne : ¬ restE hs told = 0 := by rw [hk]; intro e; cases e
    rw [if_neg (by intro e; cases e)]
    -- R:b
    conv => whnf
    unfold proV
    rw [if_neg hne, hk]
  · skip
    have hne : ¬ restE hs told = 0 := by rw [hk]; intro e; cases e
    rw [if_neg (by intro e; cases e)]
    -- R:c
    conv => whnf
    unfold proV
    rw [if_neg hne, hk]

theorem op39 : Opens PR 39 := ⟨_, Tryd.func39, rfl, rfl⟩

theorem c41 (hs : List Sn) (told : List Int) (hl : hs.length ≤ 9223372036854775807) (ht : told.length ≤ 9223372036854775807) : PCalls PR glT 41 [.agg [snsV hs], vL told] fun r => r = .tup [.agg [vI (talV hs told).1, vI (talV hs told).2.1], vI (talV hs told).2.2] := by
  refine fnW_sound (par_ok glT) Tryd.func41 ?_
  conv => whnf
  refine byC (c113 hs told hl ht) op113 ?_
  unfold restV
  rcases hk : restE hs told with (_ | n) | n
  · skip
    have hk : restE hs told = 0 := hk
    have hV := restE_valid hk
    have h8 := hV.n8
    have h1 := hV.n1
    have hp : 2 ^ hs.length ≤ 256 := Nat.pow_le_pow_right (n := 2) (by omega) (show hs.length ≤ 8 by omega)
    have hrl := restN_lt hs told
    rw [if_pos (by rfl)]
    conv => whnf
    refine byC (c111 hs hV (restN hs told) hrl) op111 ?_
    rcases hc : clR hs (restN hs told) with _ | ⟨a, b⟩
    · skip
      conv => whnf
      refine bcase_iff.2 ⟨fun h5 => ?_, fun h5 => ?_⟩
      · skip
        have h5 : restN hs told = 0 := by have h5 : (((restN hs told : Nat) : Int) == 0) = true := h5; have := eq_of_beq h5; omega
        -- R:aaT
        conv => whnf
        unfold talV
        rw [if_pos hk, hc, if_pos (by rw [h5]; rfl)]
      · skip
        have h5 : ¬ restN hs told = 0 := by have h5 : (((restN hs told : Nat) : Int) == 0) = false := h5; intro e; rw [e] at h5; cases h5
        conv => whnf
        refine byC (c79 (restN hs told) (bl40 h8 hrl)) op79 ?_
        conv => whnf
        have hbl := bitsL_len (restN hs told)
        conv => whnf
        have hnl := natsV_len (bitsL (restN hs told))
        conv => whnf
        have hmem := bits_mem (show hs.length ≤ 60 by omega) hrl
        conv => whnf
        refine ⟨⟨3848290697236, [6, 1006], [1006]⟩, ?_⟩
        refine LoopW_ind _ (fun i : Nat => (({ tmps := [.undef, .undef, .own 2 [], .undef, .own 4 [], .undef, .undef, .undef, .undef, .undef, .undef, .undef, .undef, .undef, .undef, .undef, .undef, .undef, .undef, .undef, .undef, .undef, .undef, .undef, .undef, .undef, .undef, .undef, .undef, .undef, .undef, .undef, .undef, .undef, .undef, .undef, .undef, .undef, .undef, vL (natsV (bitsL (restN hs told))), vI (natsV (bitsL (restN hs told))).length, vI i, .undef, .undef, .undef, .undef, .undef, .undef, .undef, .undef, .undef, .undef, .undef, .undef, .undef, .undef, .undef, .undef, .undef, .undef, .undef, .undef, .undef, .undef, .undef, .undef, .undef, .undef], seg := [(2, .cells [snsV hs]), (4, .cells [vI (talU hs (bitsL (restN hs told)) i).1, vI (talU hs (bitsL (restN hs told)) i).2])], up := [] } : St S))) (fun i : Nat => (i ≤ (bitsL (restN hs told)).length)) (fun i : Nat => ((bitsL (restN hs told)).length - i)) () ?_ 0 (Nat.zero_le _)
        intro i hi Z1 hZ1
        conv => whnf
        refine bcase_iff.2 ⟨fun h9 => ?_, fun h9 => ?_⟩
        · skip
          have hlt : i < (bitsL (restN hs told)).length := by have := of_decide_eq_true h9; omega
          have hw : IntKind.i64.wrap ((i : Int) + 1) = ((i + 1 : Nat) : Int) := wrap_nat (by omega)
          conv => whnf
          have hin : i < (natsV (bitsL (restN hs told))).length := by omega
          conv => whnf
          have hai : (bitsL (restN hs told))[i] < hs.length := hmem _ (List.getElem_mem hlt)
          conv => whnf
          refine ⟨_, getI_nat hin, ?_⟩
          conv => whnf
          refine ⟨[0, 1, 2, 3, 4, 5, 6, 7, 8, 9, 10, 11, 12, 13, 14, 15, 16, 17, 18, 19, 20, 21], [], [], [], ⟨295147905179352825855, [], []⟩, by decide +kernel, ?_⟩
          conv => whnf
          rw [natsV_get hin]
          conv => whnf
          refine ⟨_, getI_nat hai, ?_⟩
          conv => whnf
          refine ⟨_, getI_nat hai, ?_⟩
          -- Z9:T
          conv => whnf
          refine ⟨⟨3848290697236, [], []⟩, ?_⟩
          conv => whnf
          rw [hw]
          have hz := hZ1 (i + 1) hlt (by omega)
          rw [talU_succ hlt, getD_at hai, max_gt, min_lt] at hz
          exact hz
        · skip
          have hge : i = (bitsL (restN hs told)).length := by have := of_decide_eq_false h9; omega
          -- R:aaFF
          conv => whnf
          rw [hge]
          unfold talV
          rw [if_pos hk, hc, if_neg (by simpa using h5)]
    · skip
      -- R:ab
      conv => whnf
      unfold talV
      rw [if_pos hk, hc]
      rfl
  · skip
    have hne : ¬ restE hs told = 0 := by rw [hk]; intro e; cases e
    rw [if_neg (by intro e; cases e)]
    -- R:b
    conv => whnf
    unfold talV
    rw [if_neg hne, hk]
  · skip
    have hne : ¬ restE hs told = 0 := by rw [hk]; intro e; cases e
    rw [if_neg (by intro e; cases e)]
    -- R:c
    conv => whnf
    unfold talV
    rw [if_neg hne, hk]

theorem op41 : Opens PR 41 := ⟨_, Tryd.func41, rfl, rfl⟩

end Go.Ab.MkF
