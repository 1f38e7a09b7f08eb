/-
  THE MADE FAMILY, PLAIN LAW, PART A: Check; what is known of a valid set.
  THE MADE FAMILY, PART WA: Check.
  THE MADE FAMILY, PART CA: the drawn region in which an entry of a map is turned in place ('m[k] |= b'): whatever its order, it ends alike.
  THE MADE FAMILY, PART CB: a rule for a drawn region of its own: an entry of a map is turned in place.
  THE MADE FAMILY, PART WB: a set is looked at.
  THE MADE FAMILY, PART WC: kinds, and how many copies have a leaf.
  THE MADE FAMILY, PART WD: Missing, Donors, Most, Worth.
-/
import Derived.Test.YtmchcpmkadhmjaaDoorMadeA
namespace Go.Ab.MkF
open Go Go.Ab Go.Ab.Pln

abbrev Lf := ByteArray × Int × Int
abbrev Cp := ByteArray × List Int
abbrev Sn := Int × Int × Int
abbrev lf0 : Lf := (ByteArray.empty, 0, 0)
abbrev cp0 : Cp := (ByteArray.empty, [])
abbrev sn0 : Sn := (0, 0, 0)
abbrev lfC (x : Lf) : List (AV S) := [.str x.1, vI x.2.1, vI x.2.2]
abbrev cpC (x : Cp) : List (AV S) := [.str x.1, vL x.2]
abbrev snC (x : Sn) : List (AV S) := [vI x.1, vI x.2.1, vI x.2.2]

theorem getD_at {α : Type} {xs : List α} {i : Nat} {d : α} (h : i < xs.length) : xs.getD i d = xs[i] := by simp [List.getD_eq_getElem?_getD, h]
theorem find_range {n : Nat} {p : Nat → Bool} {k : Nat} : (List.range n).find? p = some k ↔ k < n ∧ p k = true ∧ ∀ j, j < k → p j = false := by
  rw [List.find?_range_eq_some]
  constructor
  · rintro ⟨h1, h2, h3⟩
    exact ⟨List.mem_range.1 h2, h1, fun j hj => by simpa using h3 j hj⟩
  · rintro ⟨h1, h2, h3⟩
    exact ⟨h2, List.mem_range.2 h1, fun j hj => by simpa using h3 j hj⟩

/-- The index and the error of the first thing with one. -/
def firstR (e : Nat → Int) (n : Nat) : Int × Int := match (List.range n).find? fun i => e i != 0 with
  | some i => (i, e i)
  | none => (0, 0)

theorem firstR_at {e : Nat → Int} {n i : Nat} (hi : i < n) (h : ∀ j, j < i → e j = 0) (he : e i ≠ 0) : firstR e n = ((i : Int), e i) := by
  unfold firstR
  rw [find_range.2 ⟨hi, by simpa using he, fun j hj => by simpa using h j hj⟩]
theorem firstR_no {e : Nat → Int} {n : Nat} (h : ∀ j, j < n → e j = 0) : firstR e n = (0, 0) := by
  unfold firstR
  rw [List.find?_eq_none.2 fun i hi => by simpa using h i (List.mem_range.1 hi)]
theorem firstR_zero {e : Nat → Int} {n : Nat} (h : (firstR e n).2 = 0) : ∀ j, j < n → e j = 0 := by
  unfold firstR at h
  split at h
  · rename_i i hi
    have := (find_range.1 hi).2.1
    simp only at h
    rw [h] at this; cases this
  · rename_i hn
    intro j hj
    have := List.find?_eq_none.1 hn j (List.mem_range.2 hj)
    simpa using this

/-- The error of a leaf; 'mate': the mates of all. -/
def lfE (ls : List Lf) (i : Nat) (x : Lf) : Int :=
  if !nameB x.1 then 6 else if (ls.take i).any (fun y => strEq y.1 x.1) then 5 else if [x.2.1].any (outB (-1) ((ls.length : Int) - 1)) then 4
  else if x.2.1 == (i : Int) || (decide (x.2.1 ≥ 0) && (ls.getD x.2.1.toNat lf0).2.1 != (i : Int)) then 2 else if [x.2.2].any (outB 0 1000) then 7 else 0
def lfF (ls : List Lf) (i : Nat) : Int := lfE ls i (ls.getD i lf0)
def cpE (n : Nat) (pre : List Cp) (x : Cp) : Int :=
  if !nameB x.1 then 6 else if pre.any (fun y => strEq y.1 x.1) then 5 else if x.2.length ≠ n then 3 else if x.2.any (outB 0 2) then 7 else 0
def cpF (n : Nat) (cs : List Cp) (i : Nat) : Int := cpE n (cs.take i) (cs.getD i cp0)

def chk2 (n : Nat) (cs : List Cp) : Int × Int × Int := if [(cs.length : Int)].any (outB 1 4) then (3, 0, 3) else
  if (firstR (cpF n cs) cs.length).2 ≠ 0 then (3, (firstR (cpF n cs) cs.length).1, (firstR (cpF n cs) cs.length).2) else (0, 0, 0)
def chk1 (ls : List Lf) (cs : List Cp) : Int × Int × Int := if [(ls.length : Int)].any (outB 1 6) then (2, 0, 3) else
  if (firstR (lfF ls) ls.length).2 ≠ 0 then (2, (firstR (lfF ls) ls.length).1, (firstR (lfF ls) ls.length).2) else chk2 ls.length cs
def chk (p : Int) (ls : List Lf) (cs : List Cp) : Int × Int × Int := if [p].any (outB 0 1000000) then (1, 0, 7) else chk1 ls cs
abbrev chE (p : Int) (ls : List Lf) (cs : List Cp) : Int := (chk p ls cs).2.2

/-- What is known of a set without an error. -/
structure Valid (p : Int) (ls : List Lf) (cs : List Cp) : Prop where
  price : 0 ≤ p ∧ p ≤ 1000000
  n1 : 1 ≤ ls.length
  n6 : ls.length ≤ 6
  leaf : ∀ i, i < ls.length → lfF ls i = 0
  m1 : 1 ≤ cs.length
  m4 : cs.length ≤ 4
  copy : ∀ i, i < cs.length → cpF ls.length cs i = 0

theorem any_one {lo hi x : Int} : [x].any (outB lo hi) = false ↔ lo ≤ x ∧ x ≤ hi := by
  simp [outB]
theorem chk_valid {p : Int} {ls : List Lf} {cs : List Cp} : chE p ls cs = 0 ↔ Valid p ls cs := by
  unfold chE chk chk1 chk2
  constructor
  · intro h
    by_cases h1 : [p].any (outB 0 1000000) = true
    · rw [if_pos h1] at h; cases h
    · rw [if_neg h1] at h
      by_cases h2 : [(ls.length : Int)].any (outB 1 6) = true
      · rw [if_pos h2] at h; cases h
      · rw [if_neg h2] at h
        by_cases h3 : (firstR (lfF ls) ls.length).2 ≠ 0
        · rw [if_pos h3] at h; exact absurd h h3
        · rw [if_neg h3] at h
          by_cases h4 : [(cs.length : Int)].any (outB 1 4) = true
          · rw [if_pos h4] at h; cases h
          · rw [if_neg h4] at h
            by_cases h5 : (firstR (cpF ls.length cs) cs.length).2 ≠ 0
            · rw [if_pos h5] at h; exact absurd h h5
            · have h1 := any_one.1 (by simpa using h1)
              have h2 := any_one.1 (by simpa using h2)
              have h4 := any_one.1 (by simpa using h4)
              exact ⟨h1, by omega, by omega, firstR_zero (by simpa using h3), by omega, by omega, firstR_zero (by simpa using h5)⟩
  · rintro ⟨h1, h2, h3, h4, h5, h6, h7⟩
    rw [if_neg (by rw [any_one.2 h1]; simp), if_neg (by rw [any_one.2 (by omega)]; simp), firstR_no h4, if_neg (by simp), if_neg (by rw [any_one.2 (by omega)]; simp), firstR_no h7, if_neg (by simp)]

theorem Valid.lf {p : Int} {ls : List Lf} {cs : List Cp} (h : Valid p ls cs) {i : Nat} (hi : i < ls.length) : nameB ls[i].1 = true ∧ (-1 ≤ ls[i].2.1 ∧ ls[i].2.1 ≤ (ls.length : Int) - 1) ∧ ls[i].2.1 ≠ (i : Int) ∧
    (0 ≤ ls[i].2.1 → (ls.getD ls[i].2.1.toNat lf0).2.1 = (i : Int)) ∧ 0 ≤ ls[i].2.2 ∧ ls[i].2.2 ≤ 1000 ∧ (ls.take i).any (fun y => strEq y.1 ls[i].1) = false := by
  have h1 := h.leaf i hi
  unfold lfF lfE at h1
  rw [getD_at hi] at h1
  split at h1
  · cases h1
  · split at h1
    · cases h1
    · split at h1
      · cases h1
      · split at h1
        · cases h1
        · split at h1
          · cases h1
          · rename_i h2 h3 h4 h5 h6
            have h4 := any_one.1 (by simpa using h4)
            have h6 := any_one.1 (by simpa using h6)
            simp only [Bool.or_eq_true, beq_iff_eq, Bool.and_eq_true, decide_eq_true_eq, bne_iff_ne, not_or, not_and, Decidable.not_not] at h5
            exact ⟨by simpa using h2, h4, h5.1, h5.2, h6.1, h6.2, by simpa using h3⟩

theorem Valid.cp {p : Int} {ls : List Lf} {cs : List Cp} (h : Valid p ls cs) {i : Nat} (hi : i < cs.length) : nameB cs[i].1 = true ∧ cs[i].2.length = ls.length ∧ (∀ x ∈ cs[i].2, 0 ≤ x ∧ x ≤ 2) ∧ (cs.take i).any (fun y => strEq y.1 cs[i].1) = false := by
  have h1 := h.copy i hi
  unfold cpF cpE at h1
  rw [getD_at hi] at h1
  split at h1
  · cases h1
  · split at h1
    · cases h1
    · split at h1
      · cases h1
      · split at h1
        · cases h1
        · rename_i h2 h3 h4 h5
          refine ⟨by simpa using h2, by simpa using h4, fun x hx => ?_, by simpa using h3⟩
          have h5 : cs[i].2.any (outB 0 2) = false := by simpa using h5
          have := List.any_eq_false.1 h5 x hx
          simp [outB] at this
          exact this

/-- Which kind a copy has of a leaf. -/
def hasI (cs : List Cp) (i l : Nat) : Int := (cs.getD i cp0).2.getD l 0

theorem Valid.has {p : Int} {ls : List Lf} {cs : List Cp} (h : Valid p ls cs) {i l : Nat} (hi : i < cs.length) (hl : l < ls.length) : 0 ≤ hasI cs i l ∧ hasI cs i l ≤ 2 := by
  obtain ⟨_, h2, h3, _⟩ := h.cp hi
  unfold hasI
  rw [getD_at hi, getD_at (by omega)]
  exact h3 _ (List.getElem_mem _)
theorem Valid.len {p : Int} {ls : List Lf} {cs : List Cp} (h : Valid p ls cs) {i : Nat} (hi : i < cs.length) : (cs.getD i cp0).2.length = ls.length := by
  rw [getD_at hi]; exact (h.cp hi).2.1

/-! ### Which copies have a leaf of a kind -/

/-- As bits. -/
def havN (cs : List Cp) (l : Nat) (k : Int) : Nat := bitsO ((List.range cs.length).filter fun i => hasI cs i l == k)

theorem havN_test (cs : List Cp) (l : Nat) (k : Int) (i : Nat) : (havN cs l k).testBit i = (decide (i < cs.length) && hasI cs i l == k) := by
  rw [havN, bitsO_test]
  rw [Bool.eq_iff_iff, List.contains_iff_mem]
  simp
theorem havN_lt {cs : List Cp} (h : cs.length ≤ 4) (l : Nat) (k : Int) : havN cs l k < 2 ^ 4 := bitsO_lt fun x hx => by
  have := List.mem_range.1 (List.mem_filter.1 hx).1; omega

abbrev Hv := List ((Nat × Int) × Nat)
def getL : Hv → Nat × Int → Option Nat
  | [], _ => none
  | (k', v) :: L, k => if k = k' then some v else getL L k
def putL : Hv → Nat × Int → Nat → Hv
  | [], k, v => [(k, v)]
  | (k', v') :: L, k, v => if k = k' then (k', v) :: L else (k', v') :: putL L k v

theorem getL_putL (L : Hv) (k k' : Nat × Int) (v : Nat) : getL (putL L k v) k' = if k' = k then some v else getL L k' := by
  induction L with
  | nil => simp [putL, getL]
  | cons p L ih =>
    obtain ⟨q, u⟩ := p
    simp only [putL]
    by_cases h : k = q
    · subst h; rw [if_pos rfl]; simp only [getL]; by_cases h2 : k' = k
      · simp [h2]
      · simp [h2]
    · rw [if_neg h]; simp only [getL, ih]
      by_cases h2 : k' = q
      · subst h2; rw [if_pos rfl, if_pos rfl, if_neg (Ne.symm h)]
      · rw [if_neg h2, if_neg h2]

/-- One leaf of one copy more. -/
def orL (cs : List Cp) (L : Hv) (i l : Nat) : Hv := putL L (l, hasI cs i l) ((getL L (l, hasI cs i l)).getD 0 ||| 2 ^ i)
/-- Some copies, and some leaves of a further one. -/
def rowL (cs : List Cp) (L : Hv) (i : Nat) : Nat → Hv
  | 0 => L
  | l + 1 => orL cs (rowL cs L i l) i l
def opnL (n : Nat) (cs : List Cp) : Nat → Hv
  | 0 => []
  | i + 1 => rowL cs (opnL n cs i) i n

def gotN (L : Hv) (k : Nat × Int) : Nat := (getL L k).getD 0

theorem bitsO_snoc (p : List Nat) (k : Nat) : bitsO (p ++ [k]) = bitsO p ||| 2 ^ k := by simp [bitsO]

theorem rowL_got {cs : List Cp} {i : Nat} {L : Hv} (hL : ∀ l k, gotN L (l, k) = bitsO ((List.range i).filter fun a => hasI cs a l == k) ∨ True) (l : Nat) (k : Int) : ∀ j, gotN (rowL cs L i j) (l, k) = if l < j ∧ hasI cs i l = k then gotN L (l, k) ||| 2 ^ i else gotN L (l, k)
  | 0 => by simp [rowL]
  | j + 1 => by
    have ih := rowL_got hL l k j
    show gotN (orL cs (rowL cs L i j) i j) (l, k) = _
    unfold orL
    by_cases h : l = j ∧ hasI cs i j = k
    · obtain ⟨rfl, rfl⟩ := h
      unfold gotN
      rw [getL_putL, if_pos rfl, if_pos ⟨by omega, rfl⟩]
      show gotN (rowL cs L i l) (l, hasI cs i l) ||| 2 ^ i = _
      rw [ih, if_neg (by omega)]; rfl
    · unfold gotN
      rw [getL_putL, if_neg (by rintro h2; apply h; simp at h2; exact ⟨h2.1, h2.2.symm⟩)]
      show gotN (rowL cs L i j) (l, k) = _
      rw [ih]
      by_cases h2 : l < j ∧ hasI cs i l = k
      · rw [if_pos h2, if_pos ⟨by omega, h2.2⟩]; rfl
      · rw [if_neg h2, if_neg]; · rfl
        rintro ⟨h3, h4⟩
        rcases Nat.lt_or_ge l j with h5 | h5
        · exact h2 ⟨h5, h4⟩
        · obtain rfl : l = j := by omega
          exact h ⟨rfl, h4⟩

theorem opnL_got {n : Nat} {cs : List Cp} {l : Nat} (hl : l < n) (k : Int) : ∀ i, gotN (opnL n cs i) (l, k) = bitsO ((List.range i).filter fun a => hasI cs a l == k)
  | 0 => rfl
  | i + 1 => by
    show gotN (rowL cs (opnL n cs i) i n) (l, k) = _
    rw [rowL_got (fun _ _ => .inr trivial), opnL_got hl k i, List.range_succ, List.filter_append]
    by_cases h : hasI cs i l = k
    · rw [if_pos ⟨hl, h⟩]; simp [h, bitsO_snoc]
    · rw [if_neg (fun h2 => h h2.2)]; simp [h]

/-- The map, when all copies are in it. -/
abbrev havL (n : Nat) (cs : List Cp) : Hv := opnL n cs cs.length
theorem havL_got {n : Nat} {cs : List Cp} {l : Nat} (hl : l < n) (k : Int) : gotN (havL n cs) (l, k) = havN cs l k := opnL_got hl k cs.length
theorem gotN_lt {n : Nat} {cs : List Cp} {l : Nat} (hl : l < n) (k : Int) {i : Nat} (hi : i ≤ 4) : gotN (opnL n cs i) (l, k) < 2 ^ 4 := by
  rw [opnL_got hl]
  exact bitsO_lt fun x hx => by have := List.mem_range.1 (List.mem_filter.1 hx).1; omega

/-! ### Kinds -/

def cntI (xs : List Int) (k : Int) : Nat := (xs.filter fun x => x == k).length
/-- The kind of a copy. -/
def kindI (xs : List Int) : Int := if cntI xs 2 > cntI xs 1 then 2 else 1
theorem kindI_mem (xs : List Int) : kindI xs = 1 ∨ kindI xs = 2 := by unfold kindI; split <;> simp

/-! ### How many bits -/

def onesN (n : Nat) : Nat := ((List.range 8).filter n.testBit).length
end Go.Ab.MkF

namespace Go.Ab.MkF
open Go Go.Ab Go.Ab.Pln Go.Proofs
set_option maxHeartbeats 1000000
set_option maxRecDepth 100000

theorem idx_step {α : Type} {p : α → Bool} {xs : List α} {i : Nat} (h : i < xs.length) : idx p (xs.drop i) i = if p xs[i] then (i : Int) else idx p (xs.drop (i + 1)) (i + 1) := by
  rw [List.drop_eq_getElem_cons h, idx]
theorem idx_end {α : Type} {p : α → Bool} {xs : List α} {i : Nat} (h : i = xs.length) : idx p (xs.drop i) i = -1 := by
  rw [List.drop_eq_nil_of_le (by omega), idx]
theorem c62 (gl : Gl) (xs : List Int) (hx : xs.length ≤ 9223372036854775807) (lo hi : Int) : PCalls PR gl 62 [vI lo, vI hi, vL xs] fun r => r = vB (xs.any (outB lo hi)) := by
  refine fnW_sound (par_ok gl) Tryd.func62 ?_
  conv => whnf
  refine byC (c122 gl xs hx lo hi) op122 ?_
  -- R:
  conv => whnf

theorem op62 : Opens PR 62 := ⟨_, Tryd.func62, rfl, rfl⟩

theorem c67 (gl : Gl) (p q : Lf) : PCalls PR gl 67 [.agg [.str p.1, vI p.2.1, vI p.2.2], .ref (lfC q)] fun r => r = vB (strEq p.1 q.1) := by
  refine fnW_sound (par_ok gl) Tryd.func67 ?_
  -- R:
  conv => whnf

theorem op67 : Opens PR 67 := ⟨_, Tryd.func67, rfl, rfl⟩

theorem c124 (gl : Gl) (xs : List Lf) (hx : xs.length ≤ 9223372036854775807) (q : Lf) : PCalls PR gl 124 [lfsV xs, .clo (.func 67) [] [.ref (lfC q)]] fun r => r = vI (idx (fun p : Lf => strEq p.1 q.1) xs 0) := by
  refine fnW_sound (par_ok gl) Tryd.func124 ?_
  conv => whnf
  refine ⟨⟨387, [], []⟩, ?_⟩
  refine LoopW_ind _ (fun i : Nat => (({ tmps := [lfsV xs, .clo (.func 67) [] [.ref (lfC q)], .undef, .undef, .undef, .undef, .undef, vI xs.length, vI i, .undef, .undef, .undef, .undef, .undef, .undef, .undef, .undef, .undef, .undef], seg := [], up := [] } : St S))) (fun i : Nat => (i ≤ xs.length ∧ idx (fun p : Lf => strEq p.1 q.1) (xs.drop i) i = idx (fun p : Lf => strEq p.1 q.1) xs 0)) (fun i : Nat => (xs.length - i)) () ?_ 0 ⟨Nat.zero_le _, rfl⟩
  intro i hinv Z1 hZ1
  obtain ⟨hi, hd⟩ := hinv
  conv => whnf
  refine bcase_iff.2 ⟨fun h2 => ?_, fun h2 => ?_⟩
  · skip
    have hlt : i < xs.length := by have := of_decide_eq_true h2; omega
    have hw : IntKind.i64.wrap ((i : Int) + 1) = ((i + 1 : Nat) : Int) := wrap_nat (by omega)
    conv => whnf
    refine ⟨_, getI_nat hlt, ?_⟩
    conv => whnf
    refine byC (c67 gl xs[i] q) op67 ?_
    conv => whnf
    refine bcase_iff.2 ⟨fun h4 => ?_, fun h4 => ?_⟩
    · skip
      have h4 : strEq xs[i].1 q.1 = true := h4
      rw [idx_step hlt, if_pos h4] at hd
      -- R:TT
      conv => whnf
      rw [← hd]
    · skip
      have h4 : strEq xs[i].1 q.1 = false := h4
      rw [idx_step hlt, h4, if_neg (by simp)] at hd
      -- Z2:TF
      conv => whnf
      refine ⟨⟨387, [], []⟩, ?_⟩
      conv => whnf
      rw [hw]
      exact hZ1 (i + 1) ⟨hlt, hd⟩ (by omega)
  · skip
    have hge : i = xs.length := by have := of_decide_eq_false h2; omega
    -- R:F
    conv => whnf
    rw [idx_end hge] at hd
    rw [← hd]

theorem op124 : Opens PR 124 := ⟨_, Tryd.func124, rfl, rfl⟩

theorem c66 (gl : Gl) (xs : List Lf) (hx : xs.length ≤ 9223372036854775807) (q : Lf) : PCalls PR gl 66 [lfsV xs, .clo (.func 67) [] [.ref (lfC q)]] fun r => r = vB (xs.any (fun p : Lf => strEq p.1 q.1)) := by
  refine fnW_sound (par_ok gl) Tryd.func66 ?_
  conv => whnf
  refine byC (c124 gl xs hx q) op124 ?_
  -- R:
  conv => whnf
  show vB (decide (idx _ xs 0 ≥ 0)) = _
  rw [idx_any]

theorem op66 : Opens PR 66 := ⟨_, Tryd.func66, rfl, rfl⟩

theorem c71 (gl : Gl) (p q : Cp) : PCalls PR gl 71 [.agg [.str p.1, vL p.2], .ref (cpC q)] fun r => r = vB (strEq p.1 q.1) := by
  refine fnW_sound (par_ok gl) Tryd.func71 ?_
  -- R:
  conv => whnf

theorem op71 : Opens PR 71 := ⟨_, Tryd.func71, rfl, rfl⟩

theorem c125 (gl : Gl) (xs : List Cp) (hx : xs.length ≤ 9223372036854775807) (q : Cp) : PCalls PR gl 125 [cpsV xs, .clo (.func 71) [] [.ref (cpC q)]] fun r => r = vI (idx (fun p : Cp => strEq p.1 q.1) xs 0) := by
  refine fnW_sound (par_ok gl) Tryd.func125 ?_
  conv => whnf
  refine ⟨⟨387, [], []⟩, ?_⟩
  refine LoopW_ind _ (fun i : Nat => (({ tmps := [cpsV xs, .clo (.func 71) [] [.ref (cpC q)], .undef, .undef, .undef, .undef, .undef, vI xs.length, vI i, .undef, .undef, .undef, .undef, .undef, .undef, .undef, .undef, .undef, .undef], seg := [], up := [] } : St S))) (fun i : Nat => (i ≤ xs.length ∧ idx (fun p : Cp => strEq p.1 q.1) (xs.drop i) i = idx (fun p : Cp => strEq p.1 q.1) xs 0)) (fun i : Nat => (xs.length - i)) () ?_ 0 ⟨Nat.zero_le _, rfl⟩
  intro i hinv Z1 hZ1
  obtain ⟨hi, hd⟩ := hinv
  conv => whnf
  refine bcase_iff.2 ⟨fun h2 => ?_, fun h2 => ?_⟩
  · skip
    have hlt : i < xs.length := by have := of_decide_eq_true h2; omega
    have hw : IntKind.i64.wrap ((i : Int) + 1) = ((i + 1 : Nat) : Int) := wrap_nat (by omega)
    conv => whnf
    refine ⟨_, getI_nat hlt, ?_⟩
    conv => whnf
    refine byC (c71 gl xs[i] q) op71 ?_
    conv => whnf
    refine bcase_iff.2 ⟨fun h4 => ?_, fun h4 => ?_⟩
    · skip
      have h4 : strEq xs[i].1 q.1 = true := h4
      rw [idx_step hlt, if_pos h4] at hd
      -- R:TT
      conv => whnf
      rw [← hd]
    · skip
      have h4 : strEq xs[i].1 q.1 = false := h4
      rw [idx_step hlt, h4, if_neg (by simp)] at hd
      -- Z2:TF
      conv => whnf
      refine ⟨⟨387, [], []⟩, ?_⟩
      conv => whnf
      rw [hw]
      exact hZ1 (i + 1) ⟨hlt, hd⟩ (by omega)
  · skip
    have hge : i = xs.length := by have := of_decide_eq_false h2; omega
    -- R:F
    conv => whnf
    rw [idx_end hge] at hd
    rw [← hd]

theorem op125 : Opens PR 125 := ⟨_, Tryd.func125, rfl, rfl⟩

theorem c70 (gl : Gl) (xs : List Cp) (hx : xs.length ≤ 9223372036854775807) (q : Cp) : PCalls PR gl 70 [cpsV xs, .clo (.func 71) [] [.ref (cpC q)]] fun r => r = vB (xs.any (fun p : Cp => strEq p.1 q.1)) := by
  refine fnW_sound (par_ok gl) Tryd.func70 ?_
  conv => whnf
  refine byC (c125 gl xs hx q) op125 ?_
  -- R:
  conv => whnf
  show vB (decide (idx _ xs 0 ≥ 0)) = _
  rw [idx_any]

theorem op70 : Opens PR 70 := ⟨_, Tryd.func70, rfl, rfl⟩

theorem c64 (gl : Gl) (p : Int) (ls : List (ByteArray × Int × Int)) (cs : List (ByteArray × List Int)) (i : Nat) (hi : i ≤ ls.length) (hl : ls.length ≤ 9223372036854775807 ∧ cs.length ≤ 9223372036854775807) (x : Lf) (hx : 0 ≤ x.2.1 → x.2.1 ≤ (ls.length : Int) - 1 → x.2.1.toNat < ls.length) : PCalls PR gl 64 [vI i, .agg [.str x.1, vI x.2.1, vI x.2.2], .ref (setC p ls cs)] fun r => r = vI (lfE ls i x) := by
  obtain ⟨hl1, hl2⟩ := hl
  have hw1 : IntKind.i64.wrap ((ls.length : Int) - 1) = (ls.length : Int) - 1 := wrap_int (by omega) (by omega)
  refine fnW_sound (par_ok gl) Tryd.func64 ?_
  conv => whnf
  refine byC (c65 gl _) op65 ?_
  conv => whnf
  refine bcase_iff.2 ⟨fun h1 => ?_, fun h1 => ?_⟩
  · skip
    have h1 : (!nameB x.1) = true := h1
    -- R:T
    conv => whnf
    unfold lfE
    rw [if_pos h1]
  · skip
    have h1 : (!nameB x.1) = false := h1
    conv => whnf
    refine ⟨Int.natCast_nonneg _, ?_⟩
    conv => whnf
    refine ⟨Nat.zero_le _, hi, ?_⟩
    conv => whnf
    refine byC (c66 gl (ls.take i) (by simp; omega) x) op66 ?_
    conv => whnf
    refine bcase_iff.2 ⟨fun h3 => ?_, fun h3 => ?_⟩
    · skip
      have h3 : ((ls.take i).any fun p => strEq p.1 x.1) = true := h3
      -- R:FT
      conv => whnf
      unfold lfE
      rw [h1, if_neg (by simp), if_pos h3]
    · skip
      have h3 : ((ls.take i).any fun p => strEq p.1 x.1) = false := h3
      conv => whnf
      refine ⟨_, rfl, ?_⟩
      conv => whnf
      refine byC (c62 gl [x.2.1] (by simp) (-1) _) op62 ?_
      conv => whnf
      refine bcase_iff.2 ⟨fun h5 => ?_, fun h5 => ?_⟩
      · skip
        have h5 : [x.2.1].any (outB (-1) (IntKind.i64.wrap ((ls.length : Int) - 1))) = true := h5
        rw [hw1] at h5
        -- R:FFT
        conv => whnf
        unfold lfE
        rw [h1, if_neg (by simp), h3, if_neg (by simp), if_pos h5]
      · skip
        have h5 : [x.2.1].any (outB (-1) (IntKind.i64.wrap ((ls.length : Int) - 1))) = false := h5
        rw [hw1] at h5
        conv => whnf
        refine bcase_iff.2 ⟨fun g7_4 => ?_, fun g7_4 => ?_⟩
        · skip
          have g4 : (x.2.1 == (i : Int)) = true := g7_4
          -- R:FFFT
          conv => whnf
          unfold lfE
          rw [h1, if_neg (by simp), h3, if_neg (by simp), h5, if_neg (by simp), g4, Bool.true_or, if_pos rfl]
        · skip
          have g4 : (x.2.1 == (i : Int)) = false := g7_4
          conv => whnf
          refine bcase_iff.2 ⟨fun g7_8 => ?_, fun g7_8 => ?_⟩
          · skip
            have g8 : decide (x.2.1 ≥ 0) = true := g7_8
            have hge := of_decide_eq_true g8
            have h5b := any_one.1 h5
            have hlx := hx hge h5b.2
            obtain ⟨m, hm⟩ : ∃ m : Nat, x.2.1 = (m : Int) := ⟨x.2.1.toNat, by omega⟩
            have hlm : m < ls.length := by rw [hm] at hlx; simpa using hlx
            conv => whnf
            refine ⟨ls[m], by rw [hm]; exact getI_nat hlm, ?_⟩
            conv => whnf
            refine bcase_iff.2 ⟨fun h7 => ?_, fun h7 => ?_⟩
            · skip
              have h7 : (ls[m].2.1 != (i : Int)) = true := h7
              rw [show ls[m] = ls.getD x.2.1.toNat lf0 by rw [hm, Int.toNat_natCast, getD_at hlm]] at h7
              -- R:FFFFTT
              conv => whnf
              unfold lfE
              rw [h1, if_neg (by simp), h3, if_neg (by simp), h5, if_neg (by simp), g4, g8, h7, if_pos (by simp)]
            · skip
              have h7 : (ls[m].2.1 != (i : Int)) = false := h7
              rw [show ls[m] = ls.getD x.2.1.toNat lf0 by rw [hm, Int.toNat_natCast, getD_at hlm]] at h7
              conv => whnf
              refine ⟨_, rfl, ?_⟩
              conv => whnf
              refine byC (c62 gl [x.2.2] (by simp) 0 1000) op62 ?_
              conv => whnf
              refine bcase_iff.2 ⟨fun h9 => ?_, fun h9 => ?_⟩
              · skip
                have h9 : [x.2.2].any (outB 0 1000) = true := h9
                -- R:FFFFTFT
                conv => whnf
                unfold lfE
                rw [h1, if_neg (by simp), h3, if_neg (by simp), h5, if_neg (by simp), g4, g8, h7, if_neg (by simp), if_pos h9]
              · skip
                have h9 : [x.2.2].any (outB 0 1000) = false := h9
                -- R:FFFFTFF
                conv => whnf
                unfold lfE
                rw [h1, if_neg (by simp), h3, if_neg (by simp), h5, if_neg (by simp), g4, g8, h7, if_neg (by simp), h9, if_neg (by simp)]
          · skip
            have g8 : decide (x.2.1 ≥ 0) = false := g7_8
            conv => whnf
            refine ⟨_, rfl, ?_⟩
            conv => whnf
            refine byC (c62 gl [x.2.2] (by simp) 0 1000) op62 ?_
            conv => whnf
            refine bcase_iff.2 ⟨fun h9 => ?_, fun h9 => ?_⟩
            · skip
              have h9 : [x.2.2].any (outB 0 1000) = true := h9
              -- R:FFFFFT
              conv => whnf
              unfold lfE
              rw [h1, if_neg (by simp), h3, if_neg (by simp), h5, if_neg (by simp), g4, g8, if_neg (by simp), if_pos h9]
            · skip
              have h9 : [x.2.2].any (outB 0 1000) = false := h9
              -- R:FFFFFF
              conv => whnf
              unfold lfE
              rw [h1, if_neg (by simp), h3, if_neg (by simp), h5, if_neg (by simp), g4, g8, if_neg (by simp), h9, if_neg (by simp)]

theorem op64 : Opens PR 64 := ⟨_, Tryd.func64, rfl, rfl⟩

theorem c69 (gl : Gl) (p : Int) (ls : List (ByteArray × Int × Int)) (cs : List (ByteArray × List Int)) (i : Nat) (hi : i ≤ cs.length) (hl : ls.length ≤ 9223372036854775807 ∧ cs.length ≤ 9223372036854775807) (x : Cp) (hx : x.2.length ≤ 9223372036854775807) : PCalls PR gl 69 [vI i, .agg [.str x.1, vL x.2], .ref (setC p ls cs)] fun r => r = vI (cpE ls.length (cs.take i) x) := by
  obtain ⟨hl1, hl2⟩ := hl
  refine fnW_sound (par_ok gl) Tryd.func69 ?_
  conv => whnf
  refine byC (c65 gl _) op65 ?_
  conv => whnf
  refine bcase_iff.2 ⟨fun h1 => ?_, fun h1 => ?_⟩
  · skip
    have h1 : (!nameB x.1) = true := h1
    -- R:T
    conv => whnf
    unfold cpE
    rw [if_pos h1]
  · skip
    have h1 : (!nameB x.1) = false := h1
    conv => whnf
    refine ⟨Int.natCast_nonneg _, ?_⟩
    conv => whnf
    refine ⟨Nat.zero_le _, hi, ?_⟩
    conv => whnf
    refine byC (c70 gl (cs.take i) (by simp; omega) x) op70 ?_
    conv => whnf
    refine bcase_iff.2 ⟨fun h3 => ?_, fun h3 => ?_⟩
    · skip
      have h3 : ((cs.take i).any fun p => strEq p.1 x.1) = true := h3
      -- R:FT
      conv => whnf
      unfold cpE
      rw [h1, if_neg (by simp), if_pos h3]
    · skip
      have h3 : ((cs.take i).any fun p => strEq p.1 x.1) = false := h3
      conv => whnf
      refine bcase_iff.2 ⟨fun h5 => ?_, fun h5 => ?_⟩
      · skip
        have h5 : x.2.length ≠ ls.length := by have h5 : ((x.2.length : Int) != (ls.length : Int)) = true := h5; intro e; rw [e] at h5; simp at h5
        -- R:FFT
        conv => whnf
        unfold cpE
        rw [h1, if_neg (by simp), h3, if_neg (by simp), if_pos h5]
      · skip
        have h5 : x.2.length = ls.length := by have h5 : ((x.2.length : Int) != (ls.length : Int)) = false := h5; simp at h5; omega
        conv => whnf
        refine byC (c62 gl x.2 hx 0 2) op62 ?_
        conv => whnf
        refine bcase_iff.2 ⟨fun h7 => ?_, fun h7 => ?_⟩
        · skip
          have h7 : x.2.any (outB 0 2) = true := h7
          -- R:FFFT
          conv => whnf
          unfold cpE
          rw [h1, if_neg (by simp), h3, if_neg (by simp), if_neg (fun h => h h5), if_pos h7]
        · skip
          have h7 : x.2.any (outB 0 2) = false := h7
          -- R:FFFF
          conv => whnf
          unfold cpE
          rw [h1, if_neg (by simp), h3, if_neg (by simp), if_neg (fun h => h h5), h7, if_neg (by simp)]

theorem op69 : Opens PR 69 := ⟨_, Tryd.func69, rfl, rfl⟩

theorem c63 (gl : Gl) (p : Int) (ls : List (ByteArray × Int × Int)) (cs : List (ByteArray × List Int)) (hl : ls.length ≤ 9223372036854775807 ∧ cs.length ≤ 9223372036854775807) : PCalls PR gl 63 [lfsV ls, .clo (.func 64) [] [.ref (setC p ls cs)]] fun r => r = .tup [vI (firstR (lfF ls) ls.length).1, vI (firstR (lfF ls) ls.length).2] := by
  refine fnW_sound (par_ok gl) Tryd.func63 ?_
  conv => whnf
  refine ⟨⟨3586, [], []⟩, ?_⟩
  refine LoopW_ind _ (fun i : Nat => (({ tmps := [.undef, .clo (.func 64) [] [.ref (setC p ls cs)], .undef, .undef, .undef, .undef, .undef, .undef, .undef, lfsV ls, vI ls.length, vI i, .undef, .undef, .undef, .undef, .undef, .undef, .undef, .undef, .undef, .undef, .undef, .undef, .undef], seg := [], up := [] } : St S))) (fun i : Nat => (i ≤ ls.length ∧ ∀ j, j < i → (lfF ls) j = 0)) (fun i : Nat => (ls.length - i)) () ?_ 0 ⟨Nat.zero_le _, fun j h => absurd h (Nat.not_lt_zero j)⟩
  intro i hinv Z1 hZ1
  obtain ⟨hi, hd⟩ := hinv
  conv => whnf
  refine bcase_iff.2 ⟨fun h2 => ?_, fun h2 => ?_⟩
  · skip
    have hlt : i < ls.length := by have := of_decide_eq_true h2; omega
    have hw : IntKind.i64.wrap ((i : Int) + 1) = ((i + 1 : Nat) : Int) := wrap_nat (by omega)
    conv => whnf
    refine ⟨_, getI_nat hlt, ?_⟩
    conv => whnf
    refine byC (to (c64 gl p ls cs i hi hl ls[i] (fun h1 h2 => by omega)) (show _ = vI ((lfF ls) i) by unfold lfF; rw [getD_at hlt])) op64 ?_
    conv => whnf
    refine bcase_iff.2 ⟨fun h5 => ?_, fun h5 => ?_⟩
    · skip
      have h5 : (lfF ls) i ≠ 0 := by have h5 : ((lfF ls) i != 0) = true := h5; simpa using h5
      -- R:TT
      conv => whnf
      rw [firstR_at hlt hd h5]
    · skip
      have h5 : (lfF ls) i = 0 := by have h5 : ((lfF ls) i != 0) = false := h5; simpa using h5
      -- Z2:TF
      conv => whnf
      refine ⟨⟨3586, [7, 1007, 2007, 3007, 4007], []⟩, ?_⟩
      conv => whnf
      rw [hw]
      exact hZ1 (i + 1) ⟨hlt, up_succ hd h5⟩ (by omega)
  · skip
    have hge : i = ls.length := by have := of_decide_eq_false h2; omega
    -- R:F
    conv => whnf
    subst hge
    rw [firstR_no hd]

theorem op63 : Opens PR 63 := ⟨_, Tryd.func63, rfl, rfl⟩

theorem c68 (gl : Gl) (p : Int) (ls : List (ByteArray × Int × Int)) (cs : List (ByteArray × List Int)) (hl : ls.length ≤ 9223372036854775807 ∧ cs.length ≤ 9223372036854775807) (hc : ∀ x ∈ cs, x.2.length ≤ 9223372036854775807) : PCalls PR gl 68 [cpsV cs, .clo (.func 69) [] [.ref (setC p ls cs)]] fun r => r = .tup [vI (firstR (cpF ls.length cs) cs.length).1, vI (firstR (cpF ls.length cs) cs.length).2] := by
  refine fnW_sound (par_ok gl) Tryd.func68 ?_
  conv => whnf
  refine ⟨⟨3586, [], []⟩, ?_⟩
  refine LoopW_ind _ (fun i : Nat => (({ tmps := [.undef, .clo (.func 69) [] [.ref (setC p ls cs)], .undef, .undef, .undef, .undef, .undef, .undef, .undef, cpsV cs, vI cs.length, vI i, .undef, .undef, .undef, .undef, .undef, .undef, .undef, .undef, .undef, .undef, .undef, .undef, .undef], seg := [], up := [] } : St S))) (fun i : Nat => (i ≤ cs.length ∧ ∀ j, j < i → (cpF ls.length cs) j = 0)) (fun i : Nat => (cs.length - i)) () ?_ 0 ⟨Nat.zero_le _, fun j h => absurd h (Nat.not_lt_zero j)⟩
  intro i hinv Z1 hZ1
  obtain ⟨hi, hd⟩ := hinv
  conv => whnf
  refine bcase_iff.2 ⟨fun h2 => ?_, fun h2 => ?_⟩
  · skip
    have hlt : i < cs.length := by have := of_decide_eq_true h2; omega
    have hw : IntKind.i64.wrap ((i : Int) + 1) = ((i + 1 : Nat) : Int) := wrap_nat (by omega)
    conv => whnf
    refine ⟨_, getI_nat hlt, ?_⟩
    conv => whnf
    refine byC (to (c69 gl p ls cs i hi hl cs[i] (hc _ (List.getElem_mem hlt))) (show _ = vI ((cpF ls.length cs) i) by unfold cpF; rw [getD_at hlt])) op69 ?_
    conv => whnf
    refine bcase_iff.2 ⟨fun h5 => ?_, fun h5 => ?_⟩
    · skip
      have h5 : (cpF ls.length cs) i ≠ 0 := by have h5 : ((cpF ls.length cs) i != 0) = true := h5; simpa using h5
      -- R:TT
      conv => whnf
      rw [firstR_at hlt hd h5]
    · skip
      have h5 : (cpF ls.length cs) i = 0 := by have h5 : ((cpF ls.length cs) i != 0) = false := h5; simpa using h5
      -- Z2:TF
      conv => whnf
      refine ⟨⟨3586, [7, 1007, 2007, 3007, 4007], [2007]⟩, ?_⟩
      conv => whnf
      rw [hw]
      exact hZ1 (i + 1) ⟨hlt, up_succ hd h5⟩ (by omega)
  · skip
    have hge : i = cs.length := by have := of_decide_eq_false h2; omega
    -- R:F
    conv => whnf
    subst hge
    rw [firstR_no hd]

theorem op68 : Opens PR 68 := ⟨_, Tryd.func68, rfl, rfl⟩

theorem c16 (gl : Gl) (p : Int) (ls : List (ByteArray × Int × Int)) (cs : List (ByteArray × List Int)) (hl : ls.length ≤ 9223372036854775807 ∧ cs.length ≤ 9223372036854775807) (hc : ∀ x ∈ cs, x.2.length ≤ 9223372036854775807) : PCalls PR gl 16 [.agg [vI p, lfsV ls, cpsV cs]] fun r => r = .tup [vI (chk p ls cs).1, vI (chk p ls cs).2.1, vI (chk p ls cs).2.2] := by
  refine fnW_sound (par_ok gl) Tryd.func16 ?_
  conv => whnf
  refine ⟨_, rfl, ?_⟩
  conv => whnf
  refine byC (c62 gl [p] (by simp) 0 1000000) op62 ?_
  conv => whnf
  refine bcase_iff.2 ⟨fun h1 => ?_, fun h1 => ?_⟩
  · skip
    have h1 : [p].any (outB 0 1000000) = true := h1
    have hq : chk p ls cs = (1, 0, 7) := by unfold chk; rw [if_pos h1]
    -- R:T
    conv => whnf
    rw [hq]
  · skip
    have h1 : [p].any (outB 0 1000000) = false := h1
    have hq : chk p ls cs = chk1 ls cs := by unfold chk; rw [h1, if_neg (by simp)]
    conv => whnf
    refine ⟨_, rfl, ?_⟩
    conv => whnf
    refine byC (c62 gl [(ls.length : Int)] (by simp) 1 6) op62 ?_
    conv => whnf
    refine bcase_iff.2 ⟨fun h3 => ?_, fun h3 => ?_⟩
    · skip
      have h3 : [(ls.length : Int)].any (outB 1 6) = true := h3
      -- R:FT
      conv => whnf
      rw [hq]
      unfold chk1
      rw [if_pos h3]
    · skip
      have h3 : [(ls.length : Int)].any (outB 1 6) = false := h3
      conv => whnf
      refine byC (c63 gl p ls cs hl) op63 ?_
      conv => whnf
      refine bcase_iff.2 ⟨fun h6 => ?_, fun h6 => ?_⟩
      · skip
        have h6 : (firstR (lfF ls) ls.length).2 ≠ 0 := by have h6 : ((firstR (lfF ls) ls.length).2 != 0) = true := h6; simpa using h6
        -- R:FFT
        conv => whnf
        rw [hq]
        unfold chk1
        rw [h3, if_neg (by simp), if_pos h6]
      · skip
        have h6 : (firstR (lfF ls) ls.length).2 = 0 := by have h6 : ((firstR (lfF ls) ls.length).2 != 0) = false := h6; simpa using h6
        have hq2 : chk p ls cs = chk2 ls.length cs := by rw [hq]; unfold chk1; rw [h3, if_neg (by simp), if_neg (fun h => h h6)]
        conv => whnf
        refine ⟨_, rfl, ?_⟩
        conv => whnf
        refine byC (c62 gl [(cs.length : Int)] (by simp) 1 4) op62 ?_
        conv => whnf
        refine bcase_iff.2 ⟨fun h8 => ?_, fun h8 => ?_⟩
        · skip
          have h8 : [(cs.length : Int)].any (outB 1 4) = true := h8
          -- R:FFFT
          conv => whnf
          rw [hq2]
          unfold chk2
          rw [if_pos h8]
        · skip
          have h8 : [(cs.length : Int)].any (outB 1 4) = false := h8
          conv => whnf
          refine byC (c68 gl p ls cs hl hc) op68 ?_
          conv => whnf
          refine bcase_iff.2 ⟨fun h11 => ?_, fun h11 => ?_⟩
          · skip
            have h11 : (firstR (cpF ls.length cs) cs.length).2 ≠ 0 := by have h11 : ((firstR (cpF ls.length cs) cs.length).2 != 0) = true := h11; simpa using h11
            -- R:FFFFT
            conv => whnf
            rw [hq2]
            unfold chk2
            rw [h8, if_neg (by simp), if_pos h11]
          · skip
            have h11 : (firstR (cpF ls.length cs) cs.length).2 = 0 := by have h11 : ((firstR (cpF ls.length cs) cs.length).2 != 0) = false := h11; simpa using h11
            -- R:FFFFF
            conv => whnf
            rw [hq2]
            unfold chk2
            rw [h8, if_neg (by simp), if_neg (fun h => h h11)]

theorem op16 : Opens PR 16 := ⟨_, Tryd.func16, rfl, rfl⟩

end Go.Ab.MkF

namespace Go.Ab.MkF
open Go Go.Ab Go.Ab.Pln Go.Proofs
set_option maxHeartbeats 1000000
set_option maxRecDepth 100000

variable {w w' : World} {V : Nat → Nat → Prop}

/-- The operations: what each writes, does, and under which guard. -/
def shapeE : List (Option Nat × Op × Option (Nat × Bool)) :=
  [(some 41, .move (.tmp 7), none), (some 42, .nilCheck (.tmp 41), none), (some 43, .fieldAddr 112 (.tmp 42) 1, none), (some 44, .load 110 (.tmp 43), none), (some 45, .move (.tmp 10), none), (some 46, .move (.tmp 11), none),
   (some 47, .build 114 #[(0, .tmp 45), (1, .tmp 46)], none), (some 48, .lookup 110 (.tmp 44) (.tmp 47) false, none), (some 49, .move (.tmp 8), none), (some 50, .binOp .shl 3 (.const (.int .i64 1)) (.tmp 49) 3, none),
   (some 51, .binOp .or 3 (.tmp 48) (.tmp 50) 3, none), (some 52, .mapEntry 110 (.tmp 44) (.tmp 47), none), (some 53, .extract (.tmp 52) 1, none), (none, .entryStore 110 (.tmp 44) (.tmp 53) (.tmp 51), none)]
def needE : List (Nat × Nat) := [(1, 0), (2, 1), (3, 2), (6, 4), (6, 5), (7, 3), (7, 6), (9, 8), (10, 7), (10, 9), (11, 3), (11, 6), (12, 11), (13, 3), (13, 12), (13, 10)]
def rulE (ops : Array Oper) : Prop := ops.toList.map (fun o => (o.dst, o.op, o.guard)) = shapeE ∧ (needE.all fun p => edgeB p.1 p.2 ops) = true

/-- All but some slots. -/
def hideF : Nat → List (AV S) → List (AV S)
  | _, [] => []
  | i, v :: l => (if 41 ≤ i ∧ i ≤ 53 then .undef else v) :: hideF (i + 1) l
abbrev keyE (l k : Int) : AV S := .agg [vI l, vI k]
abbrev keyW (l k : Int) : Value := .agg #[.int .i64 l, .int .i64 k]

/-- What the map holds behind the region. -/
def entE (kvs : List (AV S × AV S)) (l k : Int) (o : Option Int) (new : Int) : List (AV S × AV S) := match o with
  | some _ => setM keqS (keyE l k) (vI new) kvs
  | none => kvs ++ [(keyE l k, vI new)]

theorem key_rep {l k : Int} : Rep w V Loc.none (keyW l k) (keyE l k) := Reps.agg (c := #[.int .i64 l, .int .i64 k]) (ds := [vI l, vI k]) (.flat rfl (.flat rfl (.nil _))) (.nil _)
theorem key_val {L : Loc} {v : Value} {l k : Int} (h : Rep w V L v (keyE l k)) : v = keyW l k := agg2 h

theorem mi110 : ∃ kd, Tryd.prog.underlying 114 = some kd ∧ ∀ k k' b, keqS k k' = some b → ∀ (w : World) V V' l l' v v', Rep w V l v k → Rep w V' l' v' k' →
    (∀ e, (Instr.checkKey e 10000 114 v).run Tryd.prog w = .ok () w) ∧ (Op.equal 114 v v').run Tryd.prog w = .ok b w ∧ (Instr.sameNow kd v v' = some b ∨ Instr.sameNow kd v v' = none) ∧ (b = true → v' = v ∧ Instr.sameBits 10000 v' v = true) := by
  obtain ⟨key, kd, h1, h2, _, h3⟩ := miS_ok 110 ⟨keqS, 3⟩ rfl
  rw [Tryd.underlying110] at h1
  cases h1
  exact ⟨kd, h2, h3⟩

theorem find_key {es : Array MapEntry} {kvs : List (AV S × AV S)} (h : All2 (EntR w V) es.toList kvs) {l k : Int} {r : Option (AV S)} (hr : lookM keqS (keyE l k) kvs = some r) :
    (∀ e, (Instr.checkKey e 10000 114 (keyW l k)).run Tryd.prog w = .ok () w) ∧ ∃ r', (Instr.findKey 114 (keyW l k) es.toList).run Tryd.prog w = .ok r' w ∧ FoundR w V keqS (keyE l k) (keyW l k) 0 es.toList kvs r r' := by
  obtain ⟨kd, huk, hkeq⟩ := mi110
  obtain ⟨h4, h5⟩ := find_run (P := Tryd.prog) (m := ⟨keqS, 3⟩) hkeq (key_rep (w := w) (V := V) (l := l) (k := k)) h hr
  obtain ⟨r', h6, h7⟩ := findKey_run (R := FoundR w V keqS (keyE l k) (keyW l k) 0 es.toList kvs r) huk fun i => ⟨(h5 i).1.imp id fun ⟨r', h8, h9⟩ => ⟨r', h8, fun e => by subst e; exact h9⟩, by
    obtain ⟨r', h8, h9⟩ := (h5 i).2
    exact ⟨r', h8, fun e => by subst e; exact h9⟩⟩
  exact ⟨h4, r', h6, h7⟩

theorem run_look {bm : Nat} {es : Array MapEntry} {ck : Nat} (hb : w.heap[bm]? = some (.map es ck)) {kvs : List (AV S × AV S)} (h : All2 (EntR w V) es.toList kvs) {l k : Int} {o : Option Int} (hr : lookM keqS (keyE l k) kvs = some (o.map vI)) :
    (Instr.lookup 110 (.map (some bm)) (keyW l k) false).run Tryd.prog w = .ok (.int .i64 (o.getD 0)) w := by
  obtain ⟨h4, r', h6, h7⟩ := find_key h hr
  have hget : (getObj bm).run Tryd.prog w = .ok (.map es ck) w := by simp [getObj, Sem.run, hb]
  simp only [Instr.lookup, Sem.run_bind, run_underlying Tryd.underlying110, Result.andThen, hget]
  simp only [Pure.pure, Sem.run, h4, h6]
  cases o with
  | some c =>
    cases r' with
    | none => exact h7.elim
    | some p =>
      obtain ⟨j, u⟩ := p
      have h7 : Rep w V Loc.none u (vI c) := h7.1
      rw [h7.int]; rfl
  | none =>
    cases r' with
    | some p => exact h7.elim
    | none => simp only [Sem.run_bind, run_zeroValue i3 rfl, Result.andThen]; rfl

theorem entR_world {es : List MapEntry} {kvs : List (AV S × AV S)} (hk : ∀ p ∈ kvs, (∃ l k, p.1 = keyE l k) ∧ ∃ n, p.2 = vI n) (h : All2 (EntR w V) es kvs) {w' : World} {V' : Nat → Nat → Prop} : All2 (EntR w' V') es kvs := by
  induction h with
  | nil => exact .nil
  | @cons e p es kvs h _ ih =>
    obtain ⟨⟨l, k, h1⟩, n, h2⟩ := hk p List.mem_cons_self
    refine .cons ⟨?_, ?_⟩ (ih fun q hq => hk q (List.mem_cons_of_mem _ hq))
    · have := h.1; rw [h1] at this ⊢; rw [key_val this]; exact key_rep
    · have := h.2; rw [h2] at this ⊢; rw [this.int]; exact Rep.flat1 rfl

theorem findIdx_born {l : List MapEntry} (hn : (l.map (·.born)).Nodup) {j : Nat} {e0 : MapEntry} (h : l[j]? = some e0) : l.findIdx? (fun e => ((e.born : Nat) : Int) == ((e0.born : Nat) : Int)) = some j := by
  induction l generalizing j with
  | nil => simp at h
  | cons a r ih =>
    simp only [List.map_cons, List.nodup_cons] at hn
    cases j with
    | zero => simp only [List.getElem?_cons_zero, Option.some.injEq] at h; subst h; simp [List.findIdx?_cons]
    | succ j =>
      simp only [List.getElem?_cons_succ] at h
      have hne : a.born ≠ e0.born := fun e1 => hn.1 (List.mem_map.2 ⟨e0, List.mem_of_getElem? h, e1.symm⟩)
      have hb : (((a.born : Nat) : Int) == ((e0.born : Nat) : Int)) = false := by
        simp only [beq_eq_false_iff_ne, ne_eq, Int.natCast_inj]; exact hne
      rw [List.findIdx?_cons, hb]
      simp [ih hn.2 h]

theorem findIdx_arr (xs : Array MapEntry) (p : MapEntry → Bool) : xs.findIdx? p = xs.toList.findIdx? p := by
  cases xs
  simp

theorem modify_id {α : Type} {f : α → α} : ∀ {l : List α} {j : Nat} {a : α}, l[j]? = some a → f a = a → l.modify j f = l
  | [], _, _, h, _ => by simp at h
  | b :: l, 0, a, h, hf => by simp at h; subst h; simp [hf]
  | b :: l, j + 1, a, h, hf => by simp only [List.getElem?_cons_succ] at h; simp [List.modify_succ_cons, modify_id h hf]
theorem modify_eq {α : Type} {f g : α → α} : ∀ {l : List α} {j : Nat} {a : α}, l[j]? = some a → f a = g a → l.modify j f = l.modify j g
  | [], _, _, h, _ => by simp at h
  | b :: l, 0, a, h, hf => by simp at h; subst h; simp [hf]
  | b :: l, j + 1, a, h, hf => by simp only [List.getElem?_cons_succ] at h; simp [List.modify_succ_cons, modify_eq h hf]
theorem modify_last {α : Type} (f : α → α) (a : α) : ∀ l : List α, (l ++ [a]).modify l.length f = l ++ [f a]
  | [] => rfl
  | b :: r => by simp [List.modify_succ_cons, modify_last f a r]
theorem all2_snoc {α β : Type} {R : α → β → Prop} {l : List α} {m : List β} (h : All2 R l m) {a : α} {b : β} (hab : R a b) : All2 R (l ++ [a]) (m ++ [b]) := by
  induction h with
  | nil => exact .cons hab .nil
  | cons h _ ih => exact .cons h ih
theorem lookM_snoc {l k : Int} {v : AV S} : ∀ {kvs : List (AV S × AV S)}, lookM keqS (keyE l k) kvs = some none → lookM keqS (keyE l k) (kvs ++ [(keyE l k, v)]) = some (some v)
  | [], _ => by
    have : keqS (keyE l k) (keyE l k) = some true := by simp [keqS, twoE]
    simp [lookM, this]
  | (k', u) :: kvs, h => by
    simp only [lookM] at h
    simp only [List.cons_append, lookM]
    cases hq : keqS (keyE l k) k' with
    | none => rw [hq] at h; cases h
    | some b =>
      rw [hq] at h
      cases b with
      | true => cases h
      | false => exact lookM_snoc h

/-- What the entry's two operations do. -/
theorem entry_facts {bm : Nat} {es : Array MapEntry} {ck : Nat} (hb : w.heap[bm]? = some (.map es ck)) {kvs : List (AV S × AV S)} (hk : ∀ p ∈ kvs, (∃ l k, p.1 = keyE l k) ∧ ∃ n, p.2 = vI n) (h : All2 (EntR w V) es.toList kvs) (hst : Stamps es ck) {l k : Int} {o : Option Int}
    (hr : lookM keqS (keyE l k) kvs = some (o.map vI)) : ∃ (es1 : Array MapEntry) (ck1 st : Nat) (kvs1 : List (AV S × AV S)),
      (Instr.mapEntry 110 (.map (some bm)) (keyW l k)).run Tryd.prog w = .ok (.tuple #[.int .i64 (o.getD 0), goInt st]) (w.putObj bm (.map es1 ck1)) ∧
      (∀ p ∈ kvs1, (∃ l k, p.1 = keyE l k) ∧ ∃ n, p.2 = vI n) ∧ All2 (EntR w V) es1.toList kvs1 ∧ lookM keqS (keyE l k) kvs1 = some ((some (o.getD 0)).map vI) ∧
      ∀ new : Int, ∃ es2, (∀ w2 : World, w2.heap[bm]? = some (.map es1 ck1) → (Instr.entryStore 110 (.map (some bm)) (goInt st) (.int .i64 new)).run Tryd.prog w2 = .ok () (w2.putObj bm (.map es2 ck1))) ∧
        All2 (EntR w V) es2.toList (entE kvs l k o new) ∧ Stamps es2 ck1 := by
  obtain ⟨h4, r', h6, h7⟩ := find_key h hr
  have hget : ∀ {w : World} {es : Array MapEntry} {ck : Nat}, w.heap[bm]? = some (.map es ck) → (getObj bm).run Tryd.prog w = .ok (.map es ck) w := fun hb => by simp [getObj, Sem.run, hb]
  have hset : ∀ {w : World} {es : Array MapEntry} {ck : Nat}, w.heap[bm]? = some (.map es ck) → ∀ (o : Go.Obj), (setObj bm o).run Tryd.prog w = .ok () (w.putObj bm o) := fun hb o => by simp [setObj, Sem.run, hb, World.putObj]
  have hstore : ∀ {es1 : Array MapEntry} {ck1 st j : Nat} {e0 : MapEntry}, Stamps es1 ck1 → es1.toList[j]? = some e0 → e0.born = st → ∀ (new : Int) (w2 : World), w2.heap[bm]? = some (.map es1 ck1) →
      (Instr.entryStore 110 (.map (some bm)) (goInt st) (.int .i64 new)).run Tryd.prog w2 = .ok () (w2.putObj bm (.map (es1.modify j fun e => { e with val := .int .i64 new }) ck1)) := fun {es1 ck1 st j e0} hs1 hj he new w2 hb2 => by
    have hidx : es1.findIdx? (fun e => ((e.born : Nat) : Int) == ((st : Nat) : Int)) = some j := by
      subst he
      rw [findIdx_arr]
      exact findIdx_born hs1.2 hj
    simp [Instr.entryStore, Sem.run_bind, hget hb2, Result.andThen, asInt, asIntOf, goInt, hidx, hset hb2, Pure.pure]
  cases o with
  | some c =>
    cases r' with
    | none => exact h7.elim
    | some q =>
      obtain ⟨j, u⟩ := q
      obtain ⟨hu, n, e0, hj, hn, hke, hbt, hmod⟩ := h7
      obtain rfl : j = n := by omega
      obtain rfl := Rep.int (show Rep w V Loc.none u (vI c) from hu)
      have hold : ((es[j]?.map fun e => e.key).getD (keyW l k)) = e0.key := by
        have : es[j]? = some e0 := by simpa using hn
        rw [this]; rfl
      have hsame : es.modify j (fun e => { e with key := keyW l k }) = es := by
        apply Array.ext'
        rw [Array.toList_modify]
        exact modify_id hn (by rw [← hke])
      refine ⟨es, ck, e0.born, kvs, ?_, hk, h, hr, fun new => ⟨_, hstore hst hn rfl new, ?_, hst.modify fun _ => rfl⟩⟩
      · simp only [Instr.mapEntry, Sem.run_bind, run_underlying Tryd.underlying110, Result.andThen, hget hb]
        simp only [h4, h6, Sem.run_bind, Instr.keyThatStays, hold, hbt, if_true, Pure.pure, Sem.run, Result.andThen, hsame]
        rw [hset hb]
        have : ((es[j]?.map fun e => ((e.born : Nat) : Int)).getD 0) = (e0.born : Int) := by
          have : es[j]? = some e0 := by simpa using hn
          rw [this]; rfl
        simp only [this]; rfl
      · have := hmod (.int .i64 new) (vI new) (Rep.flat1 rfl)
        rw [Array.toList_modify]
        rw [modify_eq (f := fun e => { e with val := Value.int .i64 new }) (g := fun e => { e with key := keyW l k, val := .int .i64 new }) hn (by rw [← hke])]
        exact this
  | none =>
    cases r' with
    | some q => exact h7.elim
    | none =>
      have hs1 := hst.push (e := { key := keyW l k, val := .int .i64 0, born := ck }) rfl
      have hn : (es.push { key := keyW l k, val := .int .i64 0, born := ck }).toList[es.toList.length]? = some { key := keyW l k, val := .int .i64 0, born := ck } := by simp
      have hx : ∀ n : Int, All2 (EntR w V) (es.toList ++ [{ key := keyW l k, val := .int .i64 n, born := ck }]) (kvs ++ [(keyE l k, vI n)]) := fun n => all2_snoc h ⟨key_rep, Rep.flat1 rfl⟩
      refine ⟨es.push { key := keyW l k, val := .int .i64 0, born := ck }, ck + 1, ck, kvs ++ [(keyE l k, vI 0)], ?_, ?_, by rw [Array.toList_push]; exact hx 0, lookM_snoc hr, fun new => ⟨_, hstore hs1 hn rfl new, ?_, hs1.modify fun _ => rfl⟩⟩
      · simp only [Instr.mapEntry, Sem.run_bind, run_underlying Tryd.underlying110, Result.andThen, hget hb]
        simp only [h4, h6, Sem.run_bind, run_zeroValue i3 rfl, Pure.pure, Sem.run, Result.andThen]
        rw [hset hb]
        rfl
      · intro p hp
        rcases List.mem_append.1 hp with hp | hp
        · exact hk p hp
        · rw [List.mem_singleton] at hp; subst hp; exact ⟨⟨l, k, rfl⟩, 0, rfl⟩
      · rw [Array.toList_modify, Array.toList_push, modify_last]
        exact hx new
end Go.Ab.MkF

namespace Go.Ab.MkF
open Go Go.Ab Go.Ab.Pln Go.Proofs
set_option maxHeartbeats 1000000
set_option maxRecDepth 100000

/-- Slots by bits. -/
def maskF (m : Nat) : Nat → List (AV S) → List (AV S)
  | _, [] => []
  | i, v :: l => (match Nat.testBit m i with | true => v | false => .undef) :: maskF m (i + 1) l
theorem maskK_eq (m : Nat) : ∀ (i : Nat) (l : List (AV S)) (K : List (AV S) → Prop), maskK i m l K = K (maskF m i l)
  | _, [], K => rfl
  | i, v :: l, K => by
    simp only [maskK, maskF]
    cases Nat.testBit m i <;> simp only [maskK_eq m (i + 1) l]
theorem maskF_length (m : Nat) : ∀ (i : Nat) (l : List (AV S)), (maskF m i l).length = l.length
  | _, [] => rfl
  | i, v :: l => by simp [maskF, maskF_length m (i + 1) l]
theorem maskF_get (m : Nat) : ∀ (i : Nat) (l : List (AV S)) (j : Nat) (c : AV S), (maskF m i l)[j]? = some c → c = .undef ∨ (Nat.testBit m (i + j) = true ∧ l[j]? = some c)
  | i, [], j, c, h => by simp [maskF] at h
  | i, v :: l, 0, c, h => by
    simp only [maskF, List.getElem?_cons_zero, Option.some.injEq] at h
    cases hb : Nat.testBit m i with
    | true => rw [hb] at h; exact .inr ⟨rfl, by simpa using h⟩
    | false => rw [hb] at h; exact .inl h.symm
  | i, v :: l, j + 1, c, h => by
    simp only [maskF, List.getElem?_cons_succ] at h
    have := maskF_get m (i + 1) l j c h
    rw [show i + 1 + j = i + (j + 1) by omega] at this
    simpa using this

/-- All slots but those that the region writes. -/
def keepE : Nat := 2 ^ 41 - 1 + (2 ^ 200 - 2 ^ 54)
theorem keepE_test {i : Nat} (h : Nat.testBit keepE i = true) : ¬ (41 ≤ i ∧ i ≤ 53) := by
  rintro ⟨h1, h2⟩
  have : ∀ j, j < 13 → Nat.testBit keepE (41 + j) = false := by decide +kernel
  have := this (i - 41) (by omega)
  rw [show 41 + (i - 41) = i by omega, h] at this; cases this

def lowE (ops : Array Oper) : Bool := (List.range 14).all fun i => match ops[i]? with
  | some o => o.after.toList.all fun e => !Region.binds .any e || Nat.blt e.on i
  | none => false

/-- The rule. -/
def rgS {Y : Type} (ops : Array Oper) (st : St S) (x : Y) (K : St S → Y → Prop) : Prop :=
  rulE ops ∧ lowE ops = true ∧ 54 ≤ st.tmps.length ∧ ∃ (l k : Int) (i e e2 : Nat) (c0 c1 c2 : AV S) (kvs : List (AV S × AV S)) (o : Option Int),
    (st.tmps.getD 7 .undef = .own e [] ∧ st.tmps.getD 10 .undef = vI l ∧ st.tmps.getD 11 .undef = vI k ∧ st.tmps.getD 8 .undef = vI i) ∧ lookA st.seg e = some (.cells [c0, c1, c2, .mpv e2]) ∧ (NotArr c0 ∧ NotArr c1 ∧ NotArr c2) ∧
    lookA st.seg e2 = some (.mp kvs) ∧ (∀ p ∈ kvs, (∃ l k, p.1 = keyE l k) ∧ ∃ n, p.2 = vI n) ∧ lookM keqS (keyE l k) kvs = some (o.map vI) ∧
    maskK 0 keepE st.tmps fun ts => putK st.seg e2 (.mp (entE kvs l k o (bitsI .or .i64 (o.getD 0) (shlI .i64 1 (i : Int))))) fun sg => K { tmps := ts, seg := sg, up := st.up } x

theorem put_getD {a : Act} {d : Nat} {v : Value} {t : Nat} (hd : d < a.tmps.size) : (a.put (some d) v).tmps.getD t undef = if d = t then v else a.tmps.getD t undef := by
  simp only [Act.put, Array.getD_eq_getD_getElem?, Array.getElem?_setIfInBounds]
  by_cases h : d = t
  · subst h; simp [hd]
  · simp [h]

theorem run_load1 {u : World} {b bm : Nat} (h : u.cell? ⟨b, 3, none⟩ = some (.map (some bm))) : (Instr.loadAt 110 (.pointer (some ⟨b, 3, none⟩))).run Tryd.prog u = .ok (.map (some bm)) u := by
  obtain ⟨ty, h110⟩ : ∃ ty, lookA ti 110 = some ty := ⟨_, rfl⟩
  have hty := ti_ok _ _ h110
  cases h110
  obtain ⟨c, hK, h1⟩ := valK_load (K := fun c => c = .mpv 0) hty (show valK _ [(.mpv 0 : AV S)] _ from rfl)
  obtain ⟨v, h2, h3⟩ := h1 u (fun _ _ => False) ⟨fun _ => some bm, fun _ => none, fun _ => none, none⟩ [.map (some bm)] b 3 (.flat ⟨bm, rfl, rfl⟩ (.nil _)) (fun k v hk => by
    cases k with
    | zero => simp at hk; subst hk; exact h
    | succ k => simp at hk)
  subst hK
  obtain ⟨b', hb', rfl⟩ := Rep.mpv h3
  cases hb'
  simp [Instr.loadAt, Instr.sureAddr, Sem.run_bind, Result.andThen, pure, h2]

theorem run_field1 {u : World} {b : Nat} : (Instr.fieldAt 112 (.pointer (some ⟨b, 0, none⟩)) 1).run Tryd.prog u = .ok (.pointer (some ⟨b, 3, none⟩)) u := by
  have h1 := Tryd.underlying112
  simp [Instr.fieldAt, Sem.run_bind, run_underlying h1, Result.andThen, Instr.sureAddr, Pure.pure, fieldPlace, run_sizeOf i110, show Tryd.t110.size = 1 from rfl]
  rfl

theorem run_key {u : World} {a : Act} {l k : Int} (h1 : a.eval (.tmp 45) = .int .i64 l) (h2 : a.eval (.tmp 46) = .int .i64 k) : (Instr.build 114 ((#[(0, .tmp 45), (1, .tmp 46)] : Array (Nat × Operand)).map fun (i, y) => (i, a.eval y))).run Tryd.prog u = .ok (keyW l k) u := by
  obtain ⟨ty, h114⟩ : ∃ ty, lookA ti 114 = some ty := ⟨_, rfl⟩
  have hty := ti_ok _ _ h114
  cases h114
  obtain ⟨v, c, h3, h4, h5⟩ := build_ok (w := u) (V := fun _ _ => False) (l := Loc.none) hty (a := a) (ps := #[(0, .tmp 45), (1, .tmp 46)]) (vs := [(0, vI l), (1, vI k)]) (K := fun c => c = keyE l k)
    (.cons ⟨rfl, by show Rep _ _ _ (a.eval (.tmp 45)) _; rw [h1]; exact Rep.flat1 rfl⟩ (.cons ⟨rfl, by show Rep _ _ _ (a.eval (.tmp 46)) _; rw [h2]; exact Rep.flat1 rfl⟩ .nil)) rfl
  subst h4
  rw [key_val h5] at h3
  exact h3

def bE (listed : Array Bool) (j : Nat) : Nat := if listed.getD j false = true then 0 else 1
/-- How many are not done yet. -/
def mE (l : Array Bool) : Nat := bE l 0 + bE l 1 + bE l 2 + bE l 3 + bE l 4 + bE l 5 + bE l 6 + bE l 7 + bE l 8 + bE l 9 + bE l 10 + bE l 11 + bE l 12 + bE l 13
theorem set_getD {l : Array Bool} {i j : Nat} {d : Bool} (h : i < l.size) : (l.setIfInBounds i true).getD j d = if i = j then true else l.getD j d := by
  simp only [Array.getD_eq_getD_getElem?, Array.getElem?_setIfInBounds]
  by_cases e : i = j
  · subst e; simp [h]
  · simp [e]
theorem bE_set {l : Array Bool} {i j : Nat} (h : i < l.size) : bE (l.setIfInBounds i true) j = if i = j then 0 else bE l j := by
  unfold bE; rw [set_getD h]
  by_cases e : i = j
  · simp [e]
  · simp [e]
theorem cases14 {j : Nat} (h : j < 14) : j = 0 ∨ j = 1 ∨ j = 2 ∨ j = 3 ∨ j = 4 ∨ j = 5 ∨ j = 6 ∨ j = 7 ∨ j = 8 ∨ j = 9 ∨ j = 10 ∨ j = 11 ∨ j = 12 ∨ j = 13 := by omega
theorem mE_set {l : Array Bool} {j : Nat} (hj : j < 14) (hs : l.size = 14) (hn : l.getD j false = false) : mE l = mE (l.setIfInBounds j true) + 1 := by
  have hb : bE l j = 1 := by unfold bE; rw [hn]; rfl
  have hjs : j < l.size := by omega
  unfold mE
  simp only [bE_set hjs]
  rcases cases14 hj with rfl | rfl | rfl | rfl | rfl | rfl | rfl | rfl | rfl | rfl | rfl | rfl | rfl | rfl <;> simp <;> omega
theorem mE_zero {l : Array Bool} (h : mE l = 0) {j : Nat} (hj : j < 14) : l.getD j false = true := by
  have hb : ∀ j, bE l j = 0 → l.getD j false = true := fun j hb => by
    unfold bE at hb
    split at hb
    · assumption
    · cases hb
  apply hb
  unfold mE at h
  rcases cases14 hj with rfl | rfl | rfl | rfl | rfl | rfl | rfl | rfl | rfl | rfl | rfl | rfl | rfl | rfl <;> omega

/-- What stands while the region runs: which operations are done, what they gave, and where the memory is. -/
structure InvE (ops : Array Oper) (vals : List (Nat × Nat × Value)) (w0 w1 w2 : World) (a : Act) (listed : Array Bool) (a' : Act) (u : World) : Prop where
  sz : listed.size = 14
  tm : ∀ t, ¬ (41 ≤ t ∧ t ≤ 53) → a'.tmps.getD t undef = a.tmps.getD t undef
  tsz : a'.tmps.size = a.tmps.size
  df : a'.defers = a.defers
  val : ∀ p ∈ vals, listed.getD p.1 false = true → a'.tmps.getD p.2.1 undef = p.2.2
  wd : u = if listed.getD 13 false = true then w2 else if listed.getD 11 false = true then w1 else w0
  cl : ∀ p ∈ needE, listed.getD p.1 false = true → listed.getD p.2 false = true

theorem rgS_ok {gl : Gl} {Y : Type} : RgOk PR gl (rgS (Y := Y)) := by
  intro ops st x K ⟨⟨hsh, hneed⟩, hlow, hlen, l, k, i, e, e2, c0, c1, c2, kvs, o, ⟨h7, h10, h11, h8⟩, hcell, ⟨hn0, hn1, hn2⟩, hmap, hkv, hlook, hK⟩ En ro n id a w V lc Q hs hQ
  rw [maskK_eq, putK_eq] at hK
  refine wpIn_region_any (by rfl) ?_
  have hs0 := hs.grow (w' := { w with drawn := w.drawn + 1 }) ⟨rfl, rfl, rfl, Nat.le_refl _, fun _ _ => rfl⟩ (fun _ _ h => h) fun _ _ h => .inl h
  generalize hw0 : ({ w with drawn := w.drawn + 1 } : World) = w0 at hs0
  clear hw0 hs
  -- what the slots and the memory hold
  have r7 := hs0.tmp 7; rw [h7] at r7
  obtain ⟨b, hb, r7⟩ := r7.own
  have r10 := hs0.tmp 10; rw [h10] at r10; have r10 := r10.int
  have r11 := hs0.tmp 11; rw [h11] at r11; have r11 := r11.int
  have r8 := hs0.tmp 8; rw [h8] at r8; have r8 := r8.int
  obtain ⟨b', hb', c, el, hheap, hreps, hnb⟩ := hs0.seg e _ hcell
  rw [hb] at hb'; cases hb'
  obtain ⟨v0, vs0, e0, _, hr0⟩ := hreps.head hn0
  obtain ⟨v1, vs1, rfl, _, hr1⟩ := hr0.head hn1
  obtain ⟨v2, vs2, rfl, _, hr2⟩ := hr1.head hn2
  obtain ⟨v3, vs3, rfl, hr3, hr4⟩ := hr2.head trivial
  obtain rfl := hr4.nil_inv
  obtain ⟨bm, hbm, rfl⟩ := Rep.mpv hr3
  obtain ⟨bm', hbm', es, ck, hheapm, ⟨hall, hstp⟩, hnm⟩ := hs0.seg e2 _ hmap
  rw [hbm] at hbm'; cases hbm'
  have hne : b ≠ bm := fun he => by rw [he, hheapm] at hheap; cases hheap
  obtain ⟨es1, ck1, st0, kvs1, hme, hkv1, hall1, hlook1, hst2⟩ := entry_facts hheapm hkv hall hstp hlook
  obtain ⟨es2, hstore, hall2, hstp2⟩ := hst2 (bitsI .or .i64 (o.getD 0) (shlI .i64 1 (i : Int)))
  have hltm := lt_of_heap hheapm
  generalize hnew : bitsI .or .i64 (o.getD 0) (shlI .i64 1 (i : Int)) = new at *
  obtain ⟨w1, hw1⟩ : ∃ w1, w1 = w0.putObj bm (.map es1 ck1) := ⟨_, rfl⟩
  obtain ⟨w2, hw2⟩ : ∃ w2, w2 = w1.putObj bm (.map es2 ck1) := ⟨_, rfl⟩
  have h1m : w1.heap[bm]? = some (.map es1 ck1) := by rw [hw1]; exact World.putObj_heap_same hltm
  have hcell3 : ∀ u : World, u = w0 ∨ u = w1 ∨ u = w2 → u.cell? ⟨b, 3, none⟩ = some (.map (some bm)) := fun u hu => by
    have hc0 : w0.heap[b]? = some (.cells c el (0, 0)) := hheap
    have hc : u.heap[b]? = some (.cells c el (0, 0)) := by
      rcases hu with rfl | rfl | rfl
      · exact hc0
      · rw [hw1, World.putObj_heap_other hne]; exact hc0
      · rw [hw2, World.putObj_heap_other hne, hw1, World.putObj_heap_other hne]; exact hc0
    simp only [World.cell?, hc]
    have : c[3]? = some (.map (some bm)) := by rw [← Array.getElem?_toList, e0]; rfl
    exact this
  obtain ⟨vals, hvals⟩ : ∃ vals : List (Nat × Nat × Value), vals = [(0, 41, .pointer (some ⟨b, 0, none⟩)), (1, 42, .pointer (some ⟨b, 0, none⟩)), (2, 43, .pointer (some ⟨b, 3, none⟩)), (3, 44, .map (some bm)), (4, 45, .int .i64 l), (5, 46, .int .i64 k),
    (6, 47, keyW l k), (7, 48, .int .i64 (o.getD 0)), (8, 49, .int .i64 i), (9, 50, .int .i64 (shlI .i64 1 (i : Int))), (10, 51, .int .i64 new), (11, 52, .tuple #[.int .i64 (o.getD 0), goInt st0]), (12, 53, goInt st0)] := ⟨_, rfl⟩
  have hsize : ops.size = 14 := by
    have := congrArg List.length hsh
    simpa [shapeE] using this
  have hop : ∀ (j : Nat) (d : Option Nat) (q : Op) (g : Option (Nat × Bool)), shapeE[j]? = some (d, q, g) → ∃ o : Oper, ops[j]? = some o ∧ o.dst = d ∧ o.op = q ∧ o.guard = g := fun j d q g h => by
    rw [← hsh, List.getElem?_map, Array.getElem?_toList] at h
    cases ho : ops[j]? with
    | none => rw [ho] at h; cases h
    | some o => rw [ho] at h; simp only [Option.map_some, Option.some.injEq, Prod.mk.injEq] at h; exact ⟨o, rfl, h.1, h.2.1, h.2.2⟩
  have hidx : ∀ p ∈ vals, vals[p.1]? = some p ∧ p.2.1 = 41 + p.1 := by
    rw [hvals]
    intro p hp
    simp only [List.mem_cons, List.not_mem_nil, or_false] at hp
    rcases hp with rfl | rfl | rfl | rfl | rfl | rfl | rfl | rfl | rfl | rfl | rfl | rfl | rfl <;> exact ⟨rfl, rfl⟩
  have hasz : 54 ≤ a.tmps.size := by rw [hs0.sz]; exact hlen
  -- what the end is
  have hend : ∀ listed a' u, InvE ops vals w0 w1 w2 a listed a' u → (∀ j, j < 14 → listed.getD j false = true) → Q .normal a' u := fun listed a' u hi hall' => by
    have hu : u = w0.putObj bm (.map es2 ck1) := by
      rw [hi.wd, if_pos (hall' 13 (by omega)), hw2, hw1]
      simp [World.putObj]
    have hsr := SR.mapWrite hs0 hmap hbm (es := es2) (ck := ck1) hall2 hstp2
    refine hQ a' u V lc _ x hi.df hK ?_
    rw [hu]
    refine ⟨hsr.le, hsr.cb, hsr.inv, hsr.g, hsr.vlt, hsr.vem, ?_, fun j c hj => ?_, hsr.seg, hsr.up, hsr.rego, hsr.regt, hsr.mine, hsr.dis⟩
    · rw [hi.tsz, hs0.sz]; exact (maskF_length _ _ _).symm
    · rcases maskF_get _ _ _ _ _ hj with rfl | ⟨hbit, hj⟩
      · exact Rep.flat1 trivial
      · rw [Nat.zero_add] at hbit
        rw [hi.tm j (keepE_test hbit)]
        exact hsr.tmps j c hj
  -- one step
  have hfin : ∀ {listed a' u j d v u'}, InvE ops vals w0 w1 w2 a listed a' u → j < 14 → (j, d, v) ∈ vals → (∀ p ∈ needE, p.1 = j → listed.getD p.2 false = true) →
      u' = (if (listed.setIfInBounds j true).getD 13 false = true then w2 else if (listed.setIfInBounds j true).getD 11 false = true then w1 else w0) → InvE ops vals w0 w1 w2 a (listed.setIfInBounds j true) (a'.put (some d) v) u' := fun {listed a' u j d v u'} hi hj hp hnd hu => by
    have hjs : j < listed.size := by rw [hi.sz]; exact hj
    have hd : 41 ≤ d ∧ d ≤ 53 := by
      have h3 := (hidx _ hp).2
      simp only at h3
      have : j ≤ 12 := by
        have h4 := (hidx _ hp).1
        rw [hvals] at h4
        have := (List.getElem?_eq_some_iff.1 h4).1
        simp at this; omega
      omega
    have hda : d < a'.tmps.size := by rw [hi.tsz]; omega
    refine ⟨by simp [hi.sz], fun t ht => ?_, by simp [Act.put, hi.tsz], hi.df, fun p hp' hl => ?_, hu, fun p hp' hl => ?_⟩
    · rw [put_getD hda, if_neg (by rintro rfl; exact ht hd)]; exact hi.tm t ht
    · rw [put_getD hda]
      rw [set_getD hjs] at hl
      obtain ⟨h3, h4⟩ := hidx _ hp
      obtain ⟨h5, h6⟩ := hidx _ hp'
      simp only at h3 h4
      by_cases e1 : j = p.1
      · rw [← e1, h3] at h5; cases h5; rw [if_pos rfl]
      · rw [if_neg e1] at hl
        rw [if_neg (by omega)]
        exact hi.val p hp' hl
    · rw [set_getD hjs] at hl ⊢
      by_cases e1 : j = p.2
      · rw [if_pos e1]
      · rw [if_neg e1]
        by_cases e2 : j = p.1
        · exact hnd p hp' e2.symm
        · rw [if_neg e2] at hl; exact hi.cl p hp' hl
  have hmain : ∀ f listed a' u, InvE ops vals w0 w1 w2 a listed a' u → mE listed = f → wpAnyIn (Fo ro) n PR .any ops Q f listed a' u := fun f => by
    induction f with
    | zero =>
      intro listed a' u hi hm
      refine ⟨?_, hend listed a' u hi fun j hj => mE_zero hm hj⟩
      apply List.eq_nil_iff_forall_not_mem.2
      intro p hp
      obtain ⟨h3, h4, _⟩ := mem_ready.1 hp
      rw [getD_tf (by rw [hi.sz, ← hsize]; exact h3), mE_zero hm (by rw [← hsize]; exact h3)] at h4
      cases h4
    | succ f ih =>
      intro listed a' u hi hm
      refine ⟨fun hr => ?_, fun j hj => ?_⟩
      · exfalso
        have hex : ∃ j, j < 14 ∧ listed.getD j false = false := by
          apply Classical.byContradiction
          intro hno
          have hall' : ∀ j, j < 14 → listed.getD j false = true := fun j hj => by
            cases hb : listed.getD j false with
            | true => rfl
            | false => exact absurd ⟨j, hj, hb⟩ hno
          have hz : ∀ j, j < 14 → bE listed j = 0 := fun j hj => by unfold bE; rw [hall' j hj]; rfl
          unfold mE at hm
          rw [hz 0 (by omega), hz 1 (by omega), hz 2 (by omega), hz 3 (by omega), hz 4 (by omega), hz 5 (by omega), hz 6 (by omega), hz 7 (by omega), hz 8 (by omega), hz 9 (by omega), hz 10 (by omega), hz 11 (by omega), hz 12 (by omega), hz 13 (by omega)] at hm
          omega
        have hmin : ∀ m, m < 14 → listed.getD m false = false → ∃ j, j < 14 ∧ listed.getD j false = false ∧ ∀ q, q < j → listed.getD q false = true := fun m => by
          induction m using Nat.strongRecOn with
          | _ m ihm =>
            intro hm hp
            by_cases hq : ∃ q, q < m ∧ listed.getD q false = false
            · obtain ⟨q, h1, h2⟩ := hq; exact ihm q h1 (by omega) h2
            · refine ⟨m, hm, hp, fun q hqm => ?_⟩
              cases hb : listed.getD q false with
              | true => rfl
              | false => exact absurd ⟨q, hqm, hb⟩ hq
        obtain ⟨j0, hj0, hb0⟩ := hex
        obtain ⟨j, hj, hbj, hbelow⟩ := hmin j0 hj0 hb0
        have hl := List.all_eq_true.1 hlow j (List.mem_range.2 hj)
        cases ho : ops[j]? with
        | none => rw [ho] at hl; cases hl
        | some oj =>
          rw [ho] at hl
          have hmem : j ∈ Region.ready .any ops listed := mem_ready.2 ⟨by rw [hsize]; exact hj, by rw [getD_tf (by rw [hi.sz]; exact hj)]; exact hbj, oj, ho, fun ed hed hbd => by
            have := List.all_eq_true.1 hl ed hed
            rw [hbd] at this
            exact hbelow _ (by simpa using this)⟩
          rw [hr] at hmem
          simp at hmem
      · obtain ⟨hjs, hnl, oj, hoj, hed⟩ := mem_ready.1 hj
        rw [hsize] at hjs
        rw [getD_tf (by rw [hi.sz]; exact hjs)] at hnl
        have hnd : ∀ p ∈ needE, p.1 = j → listed.getD p.2 false = true := fun p hp hpj => by
          have h3 := List.all_eq_true.1 hneed p hp
          unfold edgeB at h3
          rw [hpj, hoj] at h3
          obtain ⟨ed, he1, he2⟩ := List.any_eq_true.1 h3
          simp only [Bool.and_eq_true] at he2
          rw [← Nat.eq_of_beq_eq_true he2.2]
          exact hed ed he1 he2.1
        have hgot : ∀ q d v, (q, d, v) ∈ vals → (j, q) ∈ needE → a'.tmps.getD d undef = v := fun q d v h3 h4 => hi.val _ h3 (hnd _ h4 rfl)
        have hslot : ∀ t, ¬ (41 ≤ t ∧ t ≤ 53) → a'.tmps.getD t undef = a.tmps.getD t undef := hi.tm
        have hm' := mE_set hjs hi.sz hnl
        have hstep : ∀ {d v u'}, oj.dst = some d → oj.guard = none → (∀ c, oj.op ≠ .defer c) → (execOp a'.eval oj).run PR u = .ok (.value v) u' → (j, d, v) ∈ vals →
            u' = (if (listed.setIfInBounds j true).getD 13 false = true then w2 else if (listed.setIfInBounds j true).getD 11 false = true then w1 else w0) → wpOpIn (Fo ro) n PR ops Q j (wpAnyIn (Fo ro) n PR .any ops Q f (listed.setIfInBounds j true)) a' u := fun {d v u'} h1 h2 h3 h4 h5 h6 => by
          unfold wpOpIn
          rw [hoj]
          simp only [Region.wanted, h2, if_true]
          refine OpOK.value (R := fun v' w' => v' = v ∧ w' = u') h3 h4 ⟨rfl, rfl⟩ _ Q ?_
          rintro v' w' ⟨rfl, rfl⟩
          rw [h1]
          exact ih _ _ _ (hfin hi hjs h5 hnd h6) (by omega)
        have hsame : j ≠ 13 → j ≠ 11 → u = (if (listed.setIfInBounds j true).getD 13 false = true then w2 else if (listed.setIfInBounds j true).getD 11 false = true then w1 else w0) := fun h1 h2 => by
          rw [set_getD (by rw [hi.sz]; exact hjs), set_getD (by rw [hi.sz]; exact hjs), if_neg h1, if_neg h2]; exact hi.wd
        have hworld : u = w0 ∨ u = w1 ∨ u = w2 := by
          have := hi.wd
          split at this
          · exact .inr (.inr this)
          · split at this
            · exact .inr (.inl this)
            · exact .inl this
        have hcl : ∀ p q, (p, q) ∈ needE → listed.getD p false = true → listed.getD q false = true := fun p q h => hi.cl _ h
        have hev : ∀ t, a'.eval (.tmp t) = a'.tmps.getD t undef := fun _ => rfl
        rcases cases14 hjs with rfl | rfl | rfl | rfl | rfl | rfl | rfl | rfl | rfl | rfl | rfl | rfl | rfl | rfl
        · obtain ⟨o', ho', hd, hq, hg⟩ := hop 0 _ _ _ rfl
          rw [hoj] at ho'; cases ho'
          exact hstep hd hg (fun c => by rw [hq]; exact fun h => by cases h) (by simp only [execOp, hq, hev, hslot 7 (by omega), r7]; rfl) (by rw [hvals]; simp [poff]) (hsame (by omega) (by omega))
        · obtain ⟨o', ho', hd, hq, hg⟩ := hop 1 _ _ _ rfl
          rw [hoj] at ho'; cases ho'
          have g := hgot 0 _ _ (by rw [hvals]; exact List.mem_cons_self) (by decide)
          exact hstep hd hg (fun c => by rw [hq]; exact fun h => by cases h) (by simp only [execOp, hq, hev, g]; rfl) (by rw [hvals]; simp) (hsame (by omega) (by omega))
        · obtain ⟨o', ho', hd, hq, hg⟩ := hop 2 _ _ _ rfl
          rw [hoj] at ho'; cases ho'
          have g := hgot 1 42 _ (by rw [hvals]; simp; rfl) (by decide)
          exact hstep hd hg (fun c => by rw [hq]; exact fun h => by cases h) (by simp only [execOp, hq, hev, g]; exact run_v run_field1) (by rw [hvals]; simp) (hsame (by omega) (by omega))
        · obtain ⟨o', ho', hd, hq, hg⟩ := hop 3 _ _ _ rfl
          rw [hoj] at ho'; cases ho'
          have g := hgot 2 43 _ (by rw [hvals]; simp; rfl) (by decide)
          exact hstep hd hg (fun c => by rw [hq]; exact fun h => by cases h) (by simp only [execOp, hq, hev, g]; exact run_v (run_load1 (hcell3 u hworld))) (by rw [hvals]; simp) (hsame (by omega) (by omega))
        · obtain ⟨o', ho', hd, hq, hg⟩ := hop 4 _ _ _ rfl
          rw [hoj] at ho'; cases ho'
          exact hstep hd hg (fun c => by rw [hq]; exact fun h => by cases h) (by simp only [execOp, hq, hev, hslot 10 (by omega), r10]; rfl) (by rw [hvals]; simp) (hsame (by omega) (by omega))
        · obtain ⟨o', ho', hd, hq, hg⟩ := hop 5 _ _ _ rfl
          rw [hoj] at ho'; cases ho'
          exact hstep hd hg (fun c => by rw [hq]; exact fun h => by cases h) (by simp only [execOp, hq, hev, hslot 11 (by omega), r11]; rfl) (by rw [hvals]; simp) (hsame (by omega) (by omega))
        · obtain ⟨o', ho', hd, hq, hg⟩ := hop 6 _ _ _ rfl
          rw [hoj] at ho'; cases ho'
          have g := hgot 4 45 _ (by rw [hvals]; simp; rfl) (by decide)
          have g' := hgot 5 46 _ (by rw [hvals]; simp; rfl) (by decide)
          exact hstep hd hg (fun c => by rw [hq]; exact fun h => by cases h) (by simp only [execOp, hq]; exact run_v (run_key g g')) (by rw [hvals]; simp) (hsame (by omega) (by omega))
        · obtain ⟨o', ho', hd, hq, hg⟩ := hop 7 _ _ _ rfl
          rw [hoj] at ho'; cases ho'
          have g := hgot 3 44 _ (by rw [hvals]; simp; rfl) (by decide)
          have g' := hgot 6 47 _ (by rw [hvals]; simp; rfl) (by decide)
          have h13 : listed.getD 13 false = false := by
            cases h13 : listed.getD 13 false with
            | false => rfl
            | true => rw [hcl 10 7 (by decide) (hcl 13 10 (by decide) h13)] at hnl; cases hnl
          have hw := hi.wd
          rw [h13, if_neg (by simp)] at hw
          have hrun : (Instr.lookup 110 (.map (some bm)) (keyW l k) false).run PR u = .ok (.int .i64 (o.getD 0)) u := by
            split at hw
            · rw [hw]; exact run_look (o := some (o.getD 0)) h1m (entR_world (V' := fun _ _ => False) hkv1 hall1) hlook1
            · rw [hw]; exact run_look hheapm hall hlook
          exact hstep hd hg (fun c => by rw [hq]; exact fun h => by cases h) (by simp only [execOp, hq, hev, g, g']; exact run_v hrun) (by rw [hvals]; simp) (hsame (by omega) (by omega))
        · obtain ⟨o', ho', hd, hq, hg⟩ := hop 8 _ _ _ rfl
          rw [hoj] at ho'; cases ho'
          exact hstep hd hg (fun c => by rw [hq]; exact fun h => by cases h) (by simp only [execOp, hq, hev, hslot 8 (by omega), r8]; rfl) (by rw [hvals]; simp) (hsame (by omega) (by omega))
        · obtain ⟨o', ho', hd, hq, hg⟩ := hop 9 _ _ _ rfl
          rw [hoj] at ho'; cases ho'
          have g := hgot 8 49 _ (by rw [hvals]; simp; rfl) (by decide)
          obtain ⟨e3, r3, h3, h4, h5⟩ := binK_run (P := PR) (w := u) (V := fun _ _ => False) (l := Loc.none) (op := .shl) (t := 3) (y := .const (.int .i64 1)) (z := .tmp 49) (c := vI 1) (d := vI i) (v := .int .i64 1) (u := .int .i64 i) (K := fun c => c = vI (shlI .i64 1 (i : Int))) ⟨Int.natCast_nonneg _, rfl⟩ (Rep.flat1 rfl) (Rep.flat1 rfl)
          subst h3
          rw [h4.int] at h5
          exact hstep hd hg (fun c => by rw [hq]; exact fun h => by cases h) (by simp only [execOp, hq, hev, g]; exact run_v h5) (by rw [hvals]; simp) (hsame (by omega) (by omega))
        · obtain ⟨o', ho', hd, hq, hg⟩ := hop 10 _ _ _ rfl
          rw [hoj] at ho'; cases ho'
          have g := hgot 7 48 _ (by rw [hvals]; simp; rfl) (by decide)
          have g' := hgot 9 50 _ (by rw [hvals]; simp; rfl) (by decide)
          obtain ⟨e3, r3, h3, h4, h5⟩ := binK_run (P := PR) (w := u) (V := fun _ _ => False) (l := Loc.none) (op := .or) (t := 3) (y := .tmp 48) (z := .tmp 50) (c := vI (o.getD 0)) (d := vI (shlI .i64 1 (i : Int))) (v := .int .i64 (o.getD 0)) (u := .int .i64 (shlI .i64 1 (i : Int))) (K := fun c => c = vI new) (by rw [← hnew]; rfl) (Rep.flat1 rfl) (Rep.flat1 rfl)
          subst h3
          rw [h4.int] at h5
          exact hstep hd hg (fun c => by rw [hq]; exact fun h => by cases h) (by simp only [execOp, hq, hev, g, g']; exact run_v h5) (by rw [hvals]; simp) (hsame (by omega) (by omega))
        · obtain ⟨o', ho', hd, hq, hg⟩ := hop 11 _ _ _ rfl
          rw [hoj] at ho'; cases ho'
          have g := hgot 3 44 _ (by rw [hvals]; simp; rfl) (by decide)
          have g' := hgot 6 47 _ (by rw [hvals]; simp; rfl) (by decide)
          have h13 : listed.getD 13 false = false := by
            cases h13 : listed.getD 13 false with
            | false => rfl
            | true => rw [hcl 12 11 (by decide) (hcl 13 12 (by decide) h13)] at hnl; cases hnl
          have hw := hi.wd
          rw [h13, if_neg (by simp), hnl, if_neg (by simp)] at hw
          subst hw
          rw [← hw1] at hme
          exact hstep hd hg (fun c => by rw [hq]; exact fun h => by cases h) (by simp only [execOp, hq, hev, g, g']; exact run_v hme) (by rw [hvals]; simp) (by simp [set_getD (show 11 < listed.size by rw [hi.sz]; omega), h13])
        · obtain ⟨o', ho', hd, hq, hg⟩ := hop 12 _ _ _ rfl
          rw [hoj] at ho'; cases ho'
          have g := hgot 11 52 _ (by rw [hvals]; simp; rfl) (by decide)
          exact hstep hd hg (fun c => by rw [hq]; exact fun h => by cases h) (by simp only [execOp, hq, hev, g]; exact run_v (v := goInt st0) rfl) (by rw [hvals]; simp) (hsame (by omega) (by omega))
        · obtain ⟨o', ho', hd, hq, hg⟩ := hop 13 _ _ _ rfl
          rw [hoj] at ho'; cases ho'
          have g := hgot 3 44 _ (by rw [hvals]; simp; rfl) (by decide)
          have g' := hgot 12 53 _ (by rw [hvals]; simp; rfl) (by decide)
          have g'' := hgot 10 51 _ (by rw [hvals]; simp; rfl) (by decide)
          have h11 := hcl 12 11 (by decide) (hnd (13, 12) (by decide) rfl)
          have hw := hi.wd
          rw [hnl, if_neg (by simp), h11, if_pos rfl] at hw
          have hrun := hstore u (by rw [hw]; exact h1m)
          unfold wpOpIn
          rw [hoj]
          simp only [Region.wanted, hg, if_true]
          refine OpOK.skip (R := fun _ w' => w' = w2) (fun c => by rw [hq]; exact fun h => by cases h) (w' := w2) (by simp only [execOp, hq, hev, g, g', g'']; refine run_u ?_; rw [hw2, ← hw]; exact hrun) rfl _ Q ?_
          rintro v' w' rfl
          rw [hd]
          refine ih _ _ _ ⟨by simp [hi.sz], hi.tm, hi.tsz, hi.df, fun p hp hl => ?_, by rw [set_getD (by rw [hi.sz]; omega), if_pos rfl, if_pos rfl], fun p hp hl => ?_⟩ (by omega)
          · rw [set_getD (by rw [hi.sz]; omega)] at hl
            have h5 := (hidx _ hp).1
            rw [hvals] at h5
            have h6 := (List.getElem?_eq_some_iff.1 h5).1
            simp at h6
            rw [if_neg (by omega)] at hl
            exact hi.val p hp hl
          · rw [set_getD (by rw [hi.sz]; omega)] at hl ⊢
            by_cases e1 : 13 = p.2
            · rw [if_pos e1]
            · rw [if_neg e1]
              by_cases e2 : 13 = p.1
              · exact hnd p hp e2.symm
              · rw [if_neg e2] at hl; exact hi.cl p hp hl
  rw [hsize]
  refine hmain 14 _ a w0 ⟨by simp, fun _ _ => rfl, rfl, rfl, fun p _ hl => ?_, ?_, fun p _ hl => ?_⟩ (by decide +kernel)
  · exfalso
    by_cases hj' : p.1 < 14 <;> simp [Array.getD, hj'] at hl
  · simp [Array.getD]
  · exfalso
    by_cases hj' : p.1 < 14 <;> simp [Array.getD, hj'] at hl
end Go.Ab.MkF

namespace Go.Ab.MkF
open Go Go.Ab Go.Ab.Pln Go.Proofs
set_option maxHeartbeats 1000000
set_option maxRecDepth 100000

noncomputable abbrev parE (gl : Gl) : Par S Unit := { par gl with rg := rgS }
theorem parE_ok (gl : Gl) (En : Env Unit) : ParOk PR gl (parE gl) En := { par_ok gl En with rg := rgS_ok }

/-- The map, as the evaluator holds it. -/
abbrev KV (L : Hv) : List (AV S × AV S) := L.map fun e => (keyE e.1.1 e.1.2, vI e.2)
theorem keq_KV (l l' : Nat) (k k' : Int) : keqS (keyE l k) (keyE l' k') = some (decide ((l, k) = (l', k'))) := by
  show some ((l : Int) == (l' : Int) && k == k') = _
  congr 1
  rw [Bool.eq_iff_iff, Bool.and_eq_true, beq_iff_eq, beq_iff_eq, decide_eq_true_eq, Prod.mk.injEq]
  omega
theorem look_KV (l : Nat) (k : Int) : ∀ L : Hv, lookM keqS (keyE l k) (KV L) = some (((getL L (l, k)).map fun n : Nat => (n : Int)).map vI)
  | [] => by
    show (match keqS (keyE l k) (keyE l k) with | none => none | some _ => some none) = _
    rw [keq_KV]; rfl
  | ((l', k'), v) :: L => by
    show (match keqS (keyE l k) (keyE l' k') with | none => none | some true => some (some (vI v)) | some false => lookM keqS (keyE l k) (KV L)) = _
    rw [keq_KV]
    simp only [getL]
    by_cases h : (l, k) = (l', k')
    · rw [decide_eq_true h, if_pos h]; rfl
    · rw [decide_eq_false h, if_neg h]; exact look_KV l k L
theorem set_KV (l : Nat) (k : Int) (v : Nat) : ∀ L : Hv, getL L (l, k) ≠ none → setM keqS (keyE l k) (vI v) (KV L) = KV (putL L (l, k) v)
  | [], h => absurd rfl h
  | ((l', k'), u) :: L, hn => by
    simp only [getL] at hn
    simp only [putL]
    show (match keqS (keyE l k) (keyE l' k') with | some true => (keyE l' k', vI v) :: KV L | _ => (keyE l' k', vI u) :: setM keqS (keyE l k) (vI v) (KV L)) = _
    rw [keq_KV]
    by_cases h : (l, k) = (l', k')
    · rw [decide_eq_true h, if_pos h]; cases h; rfl
    · rw [decide_eq_false h, if_neg h]; rw [if_neg h] at hn
      show (keyE l' k', vI u) :: setM keqS (keyE l k) (vI v) (KV L) = _
      rw [set_KV l k v L hn]; rfl
theorem put_KV (l : Nat) (k : Int) (v : Nat) : ∀ L : Hv, getL L (l, k) = none → KV L ++ [(keyE l k, vI v)] = KV (putL L (l, k) v)
  | [], _ => rfl
  | ((l', k'), u) :: L, hn => by
    simp only [getL] at hn
    simp only [putL]
    by_cases h : (l, k) = (l', k')
    · rw [if_pos h] at hn; cases hn
    · rw [if_neg h] at hn; rw [if_neg h]
      show (keyE l' k', vI u) :: (KV L ++ [(keyE l k, vI v)]) = _
      rw [put_KV l k v L hn]; rfl
theorem ent_KV (l : Nat) (k : Int) (v : Nat) (L : Hv) : entE (KV L) l k ((getL L (l, k)).map fun n : Nat => (n : Int)) v = KV (putL L (l, k) v) := by
  unfold entE
  cases h : getL L (l, k) with
  | none => exact put_KV l k v L h
  | some u => exact set_KV l k v L (by rw [h]; simp)
theorem KV_keys (L : Hv) : ∀ p ∈ KV L, (∃ l k, p.1 = keyE l k) ∧ ∃ n, p.2 = vI n := fun p hp => by
  obtain ⟨e, _, rfl⟩ := List.mem_map.1 hp
  exact ⟨⟨_, _, rfl⟩, _, rfl⟩
theorem KV_zip (L : Hv) : ((KV L).map fun p => p.1).zip ((KV L).map fun p => p.2) = KV L := by
  induction L with
  | nil => rfl
  | cons e L ih => simp only [List.map_cons, List.zip_cons_cons]; exact congrArg (List.cons _) ih
theorem KV_bare1 : ∀ L : Hv, bareB ((KV L).map fun p => p.1) = true
  | [] => rfl
  | _ :: L => KV_bare1 L
theorem KV_bare2 : ∀ L : Hv, bareB ((KV L).map fun p => p.2) = true
  | [] => rfl
  | _ :: L => KV_bare2 L
theorem gotI (L : Hv) (q : Nat × Int) : ((getL L q).map fun n : Nat => (n : Int)).getD 0 = (gotN L q : Int) := by
  unfold gotN; cases getL L q <;> rfl

/-- A set that is looked at. -/
abbrev mapR (L : Hv) : AV S := .mpf ((KV L).map fun p => p.1) ((KV L).map fun p => p.2)
abbrev setQ (p : Int) (ls : List Lf) (cs : List Cp) : List (AV S) := [vI p, lfsV ls, cpsV cs, mapR (havL ls.length cs)]
abbrev setR (p : Int) (ls : List Lf) (cs : List Cp) : AV S := .ref (setQ p ls cs)
def openV (p : Int) (ls : List Lf) (cs : List Cp) : AV S := if chE p ls cs = 0 then .tup [setR p ls cs, vI 0] else .tup [.nilp, vI (chE p ls cs)]
theorem openV_ok {p : Int} {ls : List Lf} {cs : List Cp} (h : chE p ls cs = 0) : openV p ls cs = .tup [setR p ls cs, vI 0] := if_pos h
theorem openV_no {p : Int} {ls : List Lf} {cs : List Cp} (h : ¬ chE p ls cs = 0) : openV p ls cs = .tup [.nilp, vI (chE p ls cs)] := if_neg h

/-- What is known of lengths, so that Check may be asked. -/
def LensS (ls : List Lf) (cs : List Cp) : Prop := (ls.length ≤ 9223372036854775807 ∧ cs.length ≤ 9223372036854775807) ∧ ∀ x ∈ cs, x.2.length ≤ 9223372036854775807

/-- A look-up. -/
theorem lkR (L : Hv) (q : Nat × Int) : lkv (((getL L q).map fun n : Nat => (n : Int)).map vI) (vI 0) = vI (gotN L q) := by
  unfold gotN
  cases getL L q <;> rfl
theorem lkE (l : Nat) (k : Int) (L : Hv) : lookM keqS (keyE l k) (((KV L).map fun p => p.1).zip ((KV L).map fun p => p.2)) = some (((getL L (l, k)).map fun n : Nat => (n : Int)).map vI) := by rw [KV_zip]; exact look_KV l k L

theorem c80 (gl : Gl) (p : Int) (ls : List (ByteArray × Int × Int)) (cs : List (ByteArray × List Int)) (hL : LensS ls cs) : PCalls PR gl 80 [.agg [vI p, lfsV ls, cpsV cs]] fun r => r = openV p ls cs := by
  refine fnW_sound (parE_ok gl) Tryd.func80 ?_
  conv => whnf
  refine byC (c16 gl p ls cs hL.1 hL.2) op16 ?_
  conv => whnf
  refine bcase_iff.2 ⟨fun h2 => ?_, fun h2 => ?_⟩
  · skip
    have h2 : ¬ chE p ls cs = 0 := by have h2 : (chE p ls cs != 0) = true := h2; simpa using h2
    -- R:T
    conv => whnf
    rw [openV_no h2]
  · skip
    have h2 : chE p ls cs = 0 := by have h2 : (chE p ls cs != 0) = false := h2; simpa using h2
    have hV := chk_valid.1 h2
    have hm4 := hV.m4
    have hn6 := hV.n6
    conv => whnf
    refine loop_q fun Q1 hQ1 => ?_
    refine ⟨⟨469762176, [1], []⟩, ?_⟩
    refine LoopW_ind _ (fun i : Nat => (({ tmps := [.undef, .undef, .undef, .undef, .undef, .undef, .undef, .own 24 [], .undef, .undef, .undef, .undef, .undef, .undef, .undef, .undef, .undef, .undef, .undef, .undef, .undef, .undef, .undef, .undef, .undef, .undef, cpsV cs, vI cs.length, vI i, .undef, .undef, .undef, .undef, .undef, .undef, .undef, .undef, .undef, .undef, .undef, .undef, .undef, .undef, .undef, .undef, .undef, .undef, .undef, .undef, .undef, .undef, .undef, .undef, .undef, .undef, .undef, .undef], seg := [(22, .mp (KV (opnL ls.length cs i))), (24, .cells (setC p ls cs ++ [.mpv 22]))], up := [] } : St S))) (fun i : Nat => (i ≤ cs.length)) (fun i : Nat => (cs.length - i)) () ?_ 0 (Nat.zero_le _)
    intro i hi Z1 hZ1
    conv => whnf
    refine bcase_iff.2 ⟨fun h6 => ?_, fun h6 => ?_⟩
    · skip
      have hlt : i < cs.length := by have := of_decide_eq_true h6; omega
      have hw : IntKind.i64.wrap ((i : Int) + 1) = ((i + 1 : Nat) : Int) := wrap_nat (by omega)
      conv => whnf
      refine ⟨_, getI_nat hlt, ?_⟩
      conv => whnf
      have hlen := (hV.cp hlt).2.1
      refine ⟨⟨120728846720, [9, 2009], [2009]⟩, ?_⟩
      refine LoopW_ind _ (fun l : Nat => (({ tmps := [.undef, .undef, .undef, .undef, .undef, .undef, .undef, .own 24 [], vI i, .undef, .undef, .undef, .undef, .undef, .undef, .undef, .undef, .undef, .undef, .undef, .undef, .undef, .undef, .undef, .undef, .undef, cpsV cs, vI cs.length, vI i, .undef, .undef, .undef, .undef, .undef, vL cs[i].2, vI cs[i].2.length, vI l, .undef, .undef, .undef, .undef, .undef, .undef, .undef, .undef, .undef, .undef, .undef, .undef, .undef, .undef, .undef, .undef, .undef, .undef, .undef, .undef], seg := [(22, .mp (KV (rowL cs (opnL ls.length cs i) i l))), (24, .cells (setC p ls cs ++ [.mpv 22]))], up := [] } : St S))) (fun l : Nat => (l ≤ cs[i].2.length)) (fun l : Nat => (cs[i].2.length - l)) () ?_ 0 (Nat.zero_le _)
      intro l hl Z2 hZ2
      conv => whnf
      refine bcase_iff.2 ⟨fun h9 => ?_, fun h9 => ?_⟩
      · skip
        have hltl : l < cs[i].2.length := by have := of_decide_eq_true h9; omega
        have hwl : IntKind.i64.wrap ((l : Int) + 1) = ((l + 1 : Nat) : Int) := wrap_nat (by omega)
        conv => whnf
        refine ⟨_, getI_nat hltl, ?_⟩
        conv => whnf
        refine ⟨[], [], [], [], ⟨0, [], []⟩, ?_⟩
        conv => whnf
        have hk : cs[i].2[l] = hasI cs i l := by unfold hasI; rw [getD_at hlt, getD_at hltl]
        have hgl : gotN (rowL cs (opnL ls.length cs i) i l) (l, hasI cs i l) < 2 ^ 63 := by
          have h1 : gotN (rowL cs (opnL ls.length cs i) i l) (l, hasI cs i l) = gotN (opnL ls.length cs i) (l, hasI cs i l) := by
            rw [rowL_got (fun _ _ => .inr trivial), if_neg (by omega)]
          rw [h1]
          exact Nat.lt_of_lt_of_le (gotN_lt (by omega) _ (by omega)) (by decide)
        refine ⟨⟨rfl, rfl⟩, rfl, Nat.le_of_ble_eq_true rfl, (l : Int), cs[i].2[l], i, 24, 22, _, _, _, _, _, ⟨rfl, rfl, rfl, rfl⟩, rfl, ⟨trivial, trivial, trivial⟩, rfl, KV_keys _, look_KV l _ _, ?_⟩
        rw [gotI, shl_one (by omega), hk, or_nat hgl (Nat.pow_lt_pow_right (by omega) (by omega)), ent_KV]
        -- Z9:T
        conv => whnf
        refine ⟨⟨120728846720, [], []⟩, ?_⟩
        conv => whnf
        rw [hwl]
        exact hZ2 (l + 1) hltl (by omega)
      · skip
        have hgl : l = cs[i].2.length := by have := of_decide_eq_false h9; omega
        -- Z6:TF
        conv => whnf
        refine ⟨⟨469762176, [9, 1009, 2009, 3009, 4009], []⟩, ?_⟩
        conv => whnf
        rw [hw]
        have hz := hZ1 (i + 1) hlt (by omega)
        rw [hgl, hlen]
        exact hz
    · skip
      have hge : i = cs.length := by have := of_decide_eq_false h6; omega
      conv => whnf
      refine (hQ1 _ _ _).mpr ?_
      -- R:FF
      conv => whnf
      rw [KV_bare1, KV_bare2]
      conv => whnf
      rw [openV_ok h2, hge]

theorem op80 : Opens PR 80 := ⟨_, Tryd.func80, rfl, rfl⟩

end Go.Ab.MkF

namespace Go.Ab.MkF
open Go Go.Ab Go.Ab.Pln Go.Proofs
set_option maxHeartbeats 1000000
set_option maxRecDepth 100000

/-- What is done with a number to count its bits. -/
def onesE (n : Int) : Int :=
  let a := IntKind.u64.wrap (bitsI .and .u64 (shrI .u64 n 1) 6148914691236517205 + bitsI .and .u64 n 6148914691236517205)
  let b := IntKind.u64.wrap (bitsI .and .u64 (shrI .u64 a 2) 3689348814741910323 + bitsI .and .u64 a 3689348814741910323)
  let c := bitsI .and .u64 (IntKind.u64.wrap (shrI .u64 b 4 + b)) 1085102592571150095
  let d := IntKind.u64.wrap (c + shrI .u64 c 8)
  let e := IntKind.u64.wrap (d + shrI .u64 d 16)
  IntKind.u64.wrap (e + shrI .u64 e 32)
theorem onesE_eq {n : Nat} (h : n < 256) : bitsI .and .i64 (IntKind.i64.wrap (onesE (n : Int))) 127 = ((onesN n : Nat) : Int) := by
  have : ∀ n : Fin 256, bitsI .and .i64 (IntKind.i64.wrap (onesE (n.val : Int))) 127 = ((onesN n.val : Nat) : Int) := by decide +kernel
  exact this ⟨n, h⟩
theorem idx_m1 {xs : List Int} {v : Int} {i : Nat} (hi : i < xs.length) : idx (fun x => v == x) (xs.drop i) i = if v == xs[i] then (i : Int) else idx (fun x => v == x) (xs.drop (i + 1)) (i + 1) := idx_step (p := fun x => v == x) hi

/-- The greatest of some numbers. -/
def maxU (xs : List Int) (i : Nat) : Int := (xs.take i).foldl max (xs.headD 0)
theorem maxU_succ {xs : List Int} {i : Nat} (h : i < xs.length) : maxU xs (i + 1) = max (maxU xs i) xs[i] := by
  unfold maxU; rw [take_succ' h, List.foldl_append]; rfl

/-- How often each kind is among the first ones. -/
def cntU (xs : List Int) (i : Nat) : List Int := [((cntI (xs.take i) 0 : Nat) : Int), ((cntI (xs.take i) 1 : Nat) : Int), ((cntI (xs.take i) 2 : Nat) : Int)]
theorem cntI_succ {xs : List Int} {i : Nat} (h : i < xs.length) (k : Int) : cntI (xs.take (i + 1)) k = if xs[i] = k then cntI (xs.take i) k + 1 else cntI (xs.take i) k := by
  unfold cntI; rw [take_succ' h, List.filter_append]
  by_cases e : xs[i] = k
  · rw [if_pos e]; simp [e]
  · rw [if_neg e]; simp [e]
theorem cntI_le (xs : List Int) (k : Int) : cntI xs k ≤ xs.length := List.length_filter_le _ _
theorem cntU_get {xs : List Int} {i k : Nat} (hk : k ≤ 2) : getI (cntU xs i) (k : Int) = some ((cntI (xs.take i) k : Nat) : Int) := by
  match k, hk with
  | 0, _ => rfl
  | 1, _ => rfl
  | 2, _ => rfl
theorem cntU_set {xs : List Int} {i k : Nat} (hk : k ≤ 2) (h : i < xs.length) (he : xs[i] = (k : Int)) : setI (cntU xs i) (k : Int) ((cntI (xs.take i) k + 1 : Nat) : Int) = cntU xs (i + 1) := by
  unfold cntU
  rw [cntI_succ h, cntI_succ h, cntI_succ h, he]
  match k, hk with
  | 0, _ => rfl
  | 1, _ => rfl
  | 2, _ => rfl
theorem kind_eq {xs : List Int} (_h : xs.length ≤ 6) : idx (fun x => (maxU [0, ((cntI xs 1 : Nat) : Int), ((cntI xs 2 : Nat) : Int)] 3) == x) [((cntI xs 1 : Nat) : Int), ((cntI xs 2 : Nat) : Int)] 0 = kindI xs - 1 := by
  have hm : maxU [0, ((cntI xs 1 : Nat) : Int), ((cntI xs 2 : Nat) : Int)] 3 = max ((cntI xs 1 : Nat) : Int) ((cntI xs 2 : Nat) : Int) := by
    show max (max (max 0 0) ((cntI xs 1 : Nat) : Int)) ((cntI xs 2 : Nat) : Int) = _
    omega
  rw [hm]
  unfold kindI
  by_cases hc : cntI xs 2 > cntI xs 1
  · rw [if_pos hc, show max ((cntI xs 1 : Nat) : Int) ((cntI xs 2 : Nat) : Int) = ((cntI xs 2 : Nat) : Int) by omega]
    have h1 : (((cntI xs 2 : Nat) : Int) == ((cntI xs 1 : Nat) : Int)) = false := by simp; omega
    simp [idx, h1]
  · rw [if_neg hc, show max ((cntI xs 1 : Nat) : Int) ((cntI xs 2 : Nat) : Int) = ((cntI xs 1 : Nat) : Int) by omega]
    simp [idx]

theorem c148 (gl : Gl) (n : Nat) (hn : n < 256) : PCalls PR gl 148 [(.int .u64 n : AV S)] fun r => r = vI (onesN n) := by
  refine fnW_sound (par_ok gl) Tryd.func148 ?_
  conv => whnf
  refine ⟨by omega, ?_⟩
  conv => whnf
  refine ⟨by omega, ?_⟩
  conv => whnf
  refine ⟨by omega, ?_⟩
  conv => whnf
  refine ⟨by omega, ?_⟩
  conv => whnf
  refine ⟨by omega, ?_⟩
  conv => whnf
  refine ⟨by omega, ?_⟩
  -- R:
  conv => whnf
  exact congrArg vI (onesE_eq hn)

theorem op148 : Opens PR 148 := ⟨_, Tryd.func148, rfl, rfl⟩

theorem c131 (gl : Gl) (n : Nat) (hn : n < 256) : PCalls PR gl 131 [(.int .u64 n : AV S)] fun r => r = vI (onesN n) := by
  refine fnW_sound (par_ok gl) Tryd.func131 ?_
  conv => whnf
  refine byC (c148 gl n hn) op148 ?_
  -- R:
  conv => whnf

theorem op131 : Opens PR 131 := ⟨_, Tryd.func131, rfl, rfl⟩

theorem c128 (gl : Gl) (xs : List Int) (hx : xs.length ≤ 9223372036854775807) (v : Int) : PCalls PR gl 128 [vL xs, vI v] fun r => r = vI (idx (fun x => v == x) xs 0) := by
  refine fnW_sound (par_ok gl) Tryd.func128 ?_
  conv => whnf
  refine ⟨⟨387, [], []⟩, ?_⟩
  refine LoopW_ind _ (fun i : Nat => (({ tmps := [vL xs, vI v, .undef, .undef, .undef, .undef, .undef, vI xs.length, vI i, .undef, .undef, .undef, .undef, .undef, .undef, .undef, .undef, .undef, .undef], seg := [], up := [] } : St S))) (fun i : Nat => (i ≤ xs.length ∧ idx (fun x => v == x) (xs.drop i) i = idx (fun x => v == x) xs 0)) (fun i : Nat => (xs.length - i)) () ?_ 0 ⟨Nat.zero_le _, rfl⟩
  intro i hinv Z1 hZ1
  obtain ⟨hi, hd⟩ := hinv
  conv => whnf
  refine bcase_iff.2 ⟨fun h2 => ?_, fun h2 => ?_⟩
  · skip
    have hlt : i < xs.length := by have := of_decide_eq_true h2; omega
    have hw : IntKind.i64.wrap ((i : Int) + 1) = ((i + 1 : Nat) : Int) := wrap_nat (by omega)
    conv => whnf
    refine ⟨_, getI_nat hlt, ?_⟩
    conv => whnf
    refine bcase_iff.2 ⟨fun h4 => ?_, fun h4 => ?_⟩
    · skip
      have h4 : (v == xs[i]) = true := h4
      rw [idx_m1 hlt, if_pos h4] at hd
      -- R:TT
      conv => whnf
      rw [← hd]
    · skip
      have h4 : (v == xs[i]) = false := h4
      rw [idx_m1 hlt, h4, if_neg (by simp)] at hd
      -- Z2:TF
      conv => whnf
      refine ⟨⟨387, [], []⟩, ?_⟩
      conv => whnf
      rw [hw]
      exact hZ1 (i + 1) ⟨hlt, hd⟩ (by omega)
  · skip
    have hge : i = xs.length := by have := of_decide_eq_false h2; omega
    -- R:F
    conv => whnf
    rw [idx_end hge] at hd
    rw [← hd]

theorem op128 : Opens PR 128 := ⟨_, Tryd.func128, rfl, rfl⟩

theorem c129 (gl : Gl) (xs : List Int) (hx : xs.length ≤ 9223372036854775807) (hne : 1 ≤ xs.length) : PCalls PR gl 129 [vL xs] fun r => r = vI (maxU xs xs.length) := by
  refine fnW_sound (par_ok gl) Tryd.func129 ?_
  conv => whnf
  refine bcase_iff.2 ⟨fun h1 => ?_, fun h1 => ?_⟩
  · skip
    exfalso
    have := of_decide_eq_true h1
    omega --done
  · skip
    conv => whnf
    have h0 : 0 < xs.length := by omega
    conv => whnf
    refine ⟨_, getI_zero h0, ?_⟩
    conv => whnf
    have e1 : maxU xs 1 = xs[0] := by rw [show (1 : Nat) = 0 + 1 from rfl, maxU_succ h0]; unfold maxU; rw [List.take_zero, List.foldl_nil, List.headD_eq_head?_getD, List.head?_eq_getElem?, List.getElem?_eq_getElem h0]; simp
    rw [← e1]
    refine ⟨⟨25, [], []⟩, ?_⟩
    refine LoopW_ind _ (fun i : Nat => (({ tmps := [vL xs, .undef, .undef, vI (maxU xs i), vI i, .undef, .undef, .undef, .undef, .undef, .undef, .undef, .undef, .undef, .undef, .undef, .undef, .undef, .undef, .undef, .undef, .undef, .undef, .undef, .undef], seg := [], up := [] } : St S))) (fun i : Nat => (i ≤ xs.length ∧ 1 ≤ i)) (fun i : Nat => (xs.length - i)) () ?_ 1 ⟨hne, Nat.le_refl _⟩
    intro i hinv Z1 hZ1
    obtain ⟨hi, hi1⟩ := hinv
    conv => whnf
    refine bcase_iff.2 ⟨fun h5 => ?_, fun h5 => ?_⟩
    · skip
      have hlt : i < xs.length := by have := of_decide_eq_true h5; omega
      have hw : IntKind.i64.wrap ((i : Int) + 1) = ((i + 1 : Nat) : Int) := wrap_nat (by omega)
      conv => whnf
      refine ⟨_, getI_nat hlt, ?_⟩
      -- Z5:T
      conv => whnf
      refine ⟨⟨25, [], []⟩, ?_⟩
      conv => whnf
      rw [hw]
      have hz := hZ1 (i + 1) ⟨hlt, by omega⟩ (by omega)
      rw [maxU_succ hlt, Int.max_def] at hz
      rw [show (if xs[i] > maxU xs i then xs[i] else maxU xs i) = (if maxU xs i ≤ xs[i] then xs[i] else maxU xs i) by split <;> split <;> omega]
      exact hz
    · skip
      have hge : i = xs.length := by have := of_decide_eq_false h5; omega
      -- R:FF
      conv => whnf
      rw [hge]

theorem op129 : Opens PR 129 := ⟨_, Tryd.func129, rfl, rfl⟩

theorem c76 (gl : Gl) (p : Int) (ls : List (ByteArray × Int × Int)) (cs : List (ByteArray × List Int)) (hV : Valid p ls cs) (c : Nat) (hc : c < cs.length) : PCalls PR gl 76 [setR p ls cs, vI c] fun r => r = vI (kindI (cs.getD c cp0).2) := by
  refine fnW_sound (par_ok gl) Tryd.func76 ?_
  conv => whnf
  have hlen := (hV.cp hc).2.1
  conv => whnf
  have hn6 := hV.n6
  conv => whnf
  have hrg := (hV.cp hc).2.2.1
  conv => whnf
  have e0 : (cs.getD c cp0).2 = cs[c].2 := by rw [getD_at hc]
  conv => whnf
  rw [e0]
  conv => whnf
  refine ⟨_, getI_nat hc, ?_⟩
  conv => whnf
  rw [show ([0, 0, 0] : List Int) = cntU cs[c].2 0 from rfl]
  refine ⟨⟨458784, [], []⟩, ?_⟩
  refine LoopW_ind _ (fun i : Nat => (({ tmps := [.undef, .undef, .undef, .undef, .undef, .own 5 [], .undef, .undef, .undef, .undef, .undef, .undef, .undef, .undef, .undef, .undef, vL cs[c].2, vI cs[c].2.length, vI i, .undef, .undef, .undef, .undef, .undef, .undef, .undef, .undef, .undef, .undef, .undef, .undef, .undef, .undef, .undef], seg := [(5, .cells [.arr (S := S) U.int 3 (cntU cs[c].2 i)])], up := [] } : St S))) (fun i : Nat => (i ≤ cs[c].2.length)) (fun i : Nat => (cs[c].2.length - i)) () ?_ 0 (Nat.zero_le _)
  intro i hi Z1 hZ1
  conv => whnf
  refine bcase_iff.2 ⟨fun h3 => ?_, fun h3 => ?_⟩
  · skip
    have hlt : i < cs[c].2.length := by have := of_decide_eq_true h3; omega
    have hw : IntKind.i64.wrap ((i : Int) + 1) = ((i + 1 : Nat) : Int) := wrap_nat (by omega)
    conv => whnf
    refine ⟨_, getI_nat hlt, ?_⟩
    conv => whnf
    have hk := hrg _ (List.getElem_mem hlt)
    conv => whnf
    obtain ⟨k, hk2, hkk⟩ : ∃ k : Nat, k ≤ 2 ∧ cs[c].2[i] = (k : Int) := ⟨cs[c].2[i].toNat, by omega, by omega⟩
    conv => whnf
    have hcl := cntI_le (cs[c].2.take i) k
    conv => whnf
    rw [List.length_take] at hcl
    conv => whnf
    rw [hkk]
    conv => whnf
    refine ⟨by omega, by omega, ?_⟩
    conv => whnf
    refine ⟨_, cntU_get hk2, ?_⟩
    conv => whnf
    refine ⟨by omega, by omega, ?_⟩
    conv => whnf
    refine ⟨_, cntU_get hk2, _, rfl, ?_⟩
    -- Z3:T
    conv => whnf
    refine ⟨⟨458784, [], []⟩, ?_⟩
    conv => whnf
    rw [hw, wrap_nat (n := cntI (cs[c].2.take i) k) (by omega), cntU_set hk2 hlt hkk]
    exact hZ1 (i + 1) hlt (by omega)
  · skip
    have hge : i = cs[c].2.length := by have := of_decide_eq_false h3; omega
    have e9 : cs[c].2.take i = cs[c].2 := by rw [hge, List.take_length]
    conv => whnf
    refine ⟨by omega, by omega, ?_⟩
    conv => whnf
    refine ⟨_, rfl, _, rfl, ?_⟩
    conv => whnf
    refine ⟨[0, 1, 2, 3, 4, 5], [], [], [], ⟨17179869183, [], [5]⟩, by decide +kernel, ?_⟩
    conv => whnf
    refine ⟨by omega, ?_⟩
    conv => whnf
    refine ⟨by omega, by simp <;> omega, ?_⟩
    conv => whnf
    refine ⟨by omega, by simp <;> omega, ?_⟩
    conv => whnf
    refine byC (c129 gl [0, ((cntI (cs[c].2.take i) 1 : Nat) : Int), ((cntI (cs[c].2.take i) 2 : Nat) : Int)] (by simp) (by simp)) op129 ?_
    conv => whnf
    refine byC (c128 gl [((cntI (cs[c].2.take i) 1 : Nat) : Int), ((cntI (cs[c].2.take i) 2 : Nat) : Int)] (by simp) _) op128 ?_
    -- R:F
    conv => whnf
    show vI (IntKind.i64.wrap (1 + idx (fun x => (maxU [0, ((cntI (cs[c].2.take i) 1 : Nat) : Int), ((cntI (cs[c].2.take i) 2 : Nat) : Int)] 3) == x) _ 0)) = _
    rw [e9, kind_eq (by omega)]
    congr 1
    have := kindI_mem cs[c].2
    rw [show 1 + (kindI cs[c].2 - 1) = kindI cs[c].2 by omega]
    exact wrap_int (by omega) (by omega)

theorem op76 : Opens PR 76 := ⟨_, Tryd.func76, rfl, rfl⟩

end Go.Ab.MkF

namespace Go.Ab.MkF
open Go Go.Ab Go.Ab.Pln Go.Proofs
set_option maxHeartbeats 1000000
set_option maxRecDepth 100000

/-- The error of a set, a copy and a leaf. -/
def askB (n m : Nat) (c l : Int) : Bool := [c].any (outB 0 ((m : Int) - 1)) || [l].any (outB 0 ((n : Int) - 1))
def enterV (p : Int) (ls : List Lf) (cs : List Cp) (c l : Int) : AV S := if chE p ls cs = 0 then .tup [setR p ls cs, vI (if askB ls.length cs.length c l then 4 else 0)] else .tup [.nilp, vI (chE p ls cs)]
def enE (p : Int) (ls : List Lf) (cs : List Cp) (c l : Int) : Int := if chE p ls cs = 0 then (if askB ls.length cs.length c l then 4 else 0) else chE p ls cs
theorem enterV_ok {p : Int} {ls : List Lf} {cs : List Cp} {c l : Int} (h : chE p ls cs = 0) (h2 : askB ls.length cs.length c l = false) : enterV p ls cs c l = .tup [setR p ls cs, vI 0] := by unfold enterV; rw [if_pos h, h2]; rfl
theorem enterV_four {p : Int} {ls : List Lf} {cs : List Cp} {c l : Int} (h : chE p ls cs = 0) (h2 : askB ls.length cs.length c l = true) : enterV p ls cs c l = .tup [setR p ls cs, vI 4] := by unfold enterV; rw [if_pos h, h2]; rfl
theorem enterV_no {p : Int} {ls : List Lf} {cs : List Cp} {c l : Int} (h : ¬ chE p ls cs = 0) : enterV p ls cs c l = .tup [.nilp, vI (chE p ls cs)] := if_neg h
theorem askB_no {n m : Nat} {c l : Int} (h : askB n m c l = false) : (0 ≤ c ∧ c ≤ (m : Int) - 1) ∧ 0 ≤ l ∧ l ≤ (n : Int) - 1 := by
  unfold askB at h
  rw [Bool.or_eq_false_iff, any_one, any_one] at h
  exact h
/-- The three ways of a question to a set. -/
theorem enter_cases (p : Int) (ls : List Lf) (cs : List Cp) (c l : Int) : (∃ a b : Nat, a < cs.length ∧ b < ls.length ∧ c = a ∧ l = b ∧ Valid p ls cs ∧ enterV p ls cs c l = .tup [setR p ls cs, vI 0] ∧ enE p ls cs c l = 0) ∨
    (enE p ls cs c l ≠ 0 ∧ enterV p ls cs c l = .tup [setR p ls cs, vI (enE p ls cs c l)]) ∨ (enE p ls cs c l ≠ 0 ∧ enterV p ls cs c l = .tup [.nilp, vI (enE p ls cs c l)]) := by
  by_cases h : chE p ls cs = 0
  · have hV := chk_valid.1 h
    have h1 := hV.m1
    have h2 := hV.n1
    cases ha : askB ls.length cs.length c l with
    | false =>
      obtain ⟨h3, h4⟩ := askB_no ha
      exact .inl ⟨c.toNat, l.toNat, by omega, by omega, by omega, by omega, hV, enterV_ok h ha, by unfold enE; rw [if_pos h, ha]; rfl⟩
    | true =>
      have he : enE p ls cs c l = 4 := by unfold enE; rw [if_pos h, ha]; rfl
      exact .inr (.inl ⟨by rw [he]; decide, by rw [he]; exact enterV_four h ha⟩)
  · have he : enE p ls cs c l = chE p ls cs := by unfold enE; rw [if_neg h]
    exact .inr (.inr ⟨by rw [he]; exact h, by rw [he]; exact enterV_no h⟩)

/-- How many copies of a kind can be made whole, and the leaf that there are fewest of; of the first leaves. -/
def mostU (cs : List Cp) (k : Int) : Nat → Nat × Nat
  | 0 => (cs.length + 1, 0)
  | l + 1 => if onesN (havN cs l k) < (mostU cs k l).1 then (onesN (havN cs l k), l) else mostU cs k l
abbrev mostN (ls : List Lf) (cs : List Cp) (k : Int) : Nat × Nat := mostU cs k ls.length
theorem havN_256 {cs : List Cp} (h : cs.length ≤ 4) (l : Nat) (k : Int) : havN cs l k < 256 := Nat.lt_of_lt_of_le (havN_lt h l k) (by decide)
theorem havN_63 {cs : List Cp} (h : cs.length ≤ 4) (l : Nat) (k : Int) : havN cs l k < 2 ^ 63 := Nat.lt_of_lt_of_le (havN_lt h l k) (by decide)
theorem wrap_u64n {n : Nat} (h : n < 256) : IntKind.u64.wrap (n : Int) = n := by rw [IntKind.wrap_u64]; omega

/-- The leaves that a copy does not have. -/
def missB (cs : List Cp) (c l : Nat) : Bool := hasI cs c l == 0
def missL (n : Nat) (cs : List Cp) (c : Nat) : List Nat := (List.range n).filter (missB cs c)
theorem havN_bit {cs : List Cp} {c : Nat} (hc : c < cs.length) (l : Nat) (k : Int) : (havN cs l k).testBit c = (hasI cs c l == k) := by
  rw [havN_test, decide_eq_true hc, Bool.true_and]
def missV (p : Int) (ls : List Lf) (cs : List Cp) (c : Int) : List Int × Int × Int := if enE p ls cs c 0 = 0 then (natsV (missL ls.length cs c.toNat), kindI (cs.getD c.toNat cp0).2, 0) else ([], 0, enE p ls cs c 0)

/-- The copies that can give a leaf. -/
def donL (cs : List Cp) (c l : Nat) : List Nat := (List.range cs.length).filter fun d => decide (d ≠ c) && hasI cs d l == kindI (cs.getD c cp0).2
def donV (p : Int) (ls : List Lf) (cs : List Cp) (c l : Int) : List Int × Int := if enE p ls cs c l = 0 then (natsV (donL cs c.toNat l.toNat), 0) else ([], enE p ls cs c l)
theorem don_bits {cs : List Cp} (h4 : cs.length ≤ 4) {c l : Nat} (hc : c < cs.length) : bitsL (less (havN cs l (kindI (cs.getD c cp0).2)) (2 ^ c)) = donL cs c l := by
  rw [bitsL_below (c := cs.length) (by omega)]
  · apply List.filter_congr
    intro d hd
    have hd := List.mem_range.1 hd
    unfold less
    rw [Nat.testBit_xor, Nat.testBit_and, havN_bit hd, Nat.testBit_two_pow]
    by_cases e : d = c
    · subst e; cases (hasI cs d l == kindI (cs.getD d cp0).2) <;> simp
    · have : ¬ c = d := fun h => e h.symm
      simp [e, this]
  · refine Nat.xor_lt_two_pow ?_ (Nat.lt_of_le_of_lt Nat.and_le_left ?_) <;>
    · unfold havN
      exact bitsO_lt fun x hx => List.mem_range.1 (List.mem_filter.1 hx).1

def mosV (p : Int) (ls : List Lf) (cs : List Cp) (k : Int) : Int × Int × Int := if chE p ls cs = 0 then (if [k].any (outB 1 2) then (0, 0, 7) else ((mostN ls cs k).1, (mostN ls cs k).2, 0)) else (0, 0, chE p ls cs)

/-- What a copy is worth, of the first leaves. -/
def lostI (p : Int) (ls : List Lf) (cs : List Cp) (c l : Nat) : Int := if hasI cs c l = 0 then (p * (ls.getD l lf0).2.2 + 999) / 1000 else if hasI cs c l = kindI (cs.getD c cp0).2 then 0 else (p * (ls.getD l lf0).2.2 + 1999) / 2000
def worU (p : Int) (ls : List Lf) (cs : List Cp) (c : Nat) : Nat → Int
  | 0 => p
  | l + 1 => worU p ls cs c l - lostI p ls cs c l
def worV (p : Int) (ls : List Lf) (cs : List Cp) (c : Int) : Int × Int := if enE p ls cs c 0 = 0 then (max 0 (worU p ls cs c.toNat ls.length), 0) else (0, enE p ls cs c 0)
theorem Valid.lost {p : Int} {ls : List Lf} {cs : List Cp} (h : Valid p ls cs) {l : Nat} (hl : l < ls.length) : 0 ≤ p * (ls.getD l lf0).2.2 ∧ p * (ls.getD l lf0).2.2 ≤ 1000000000 := by
  obtain ⟨_, _, _, _, h5, h6, _⟩ := h.lf hl
  rw [getD_at hl]
  have hp := h.price
  exact ⟨Int.mul_nonneg hp.1 h5, by have := Int.mul_le_mul hp.2 h6 h5 (by omega); omega⟩
theorem Valid.wor {p : Int} {ls : List Lf} {cs : List Cp} (h : Valid p ls cs) (c : Nat) : ∀ {l : Nat}, l ≤ ls.length → -10000000 * (l : Int) ≤ worU p ls cs c l ∧ worU p ls cs c l ≤ 1000000
  | 0, _ => by simp only [worU]; have := h.price; omega
  | l + 1, hl => by
    have ih := h.wor c (l := l) (by omega)
    have h1 := h.lost (l := l) (by omega)
    have h2 : 0 ≤ lostI p ls cs c l ∧ lostI p ls cs c l ≤ 10000000 := by
      unfold lostI
      generalize p * (ls.getD l lf0).2.2 = q at h1
      split
      · omega
      · split <;> omega
    simp only [worU]
    omega

theorem c75 (gl : Gl) (p : Int) (ls : List (ByteArray × Int × Int)) (cs : List (ByteArray × List Int)) (hL : LensS ls cs) (c l : Int) : PCalls PR gl 75 [.agg [vI p, lfsV ls, cpsV cs], vI c, vI l] fun r => r = enterV p ls cs c l := by
  obtain ⟨⟨hl1, hl2⟩, _⟩ := hL
  have hw1 : IntKind.i64.wrap ((cs.length : Int) - 1) = (cs.length : Int) - 1 := wrap_int (by omega) (by omega)
  have hw2 : IntKind.i64.wrap ((ls.length : Int) - 1) = (ls.length : Int) - 1 := wrap_int (by omega) (by omega)
  refine fnW_sound (par_ok gl) Tryd.func75 ?_
  conv => whnf
  refine byC (c80 gl p ls cs ⟨⟨hl1, hl2⟩, by assumption⟩) op80 ?_
  rcases hk : chE p ls cs with (_ | n) | n
  · skip
    rw [openV_ok hk]
    conv => whnf
    refine ⟨_, rfl, ?_⟩
    conv => whnf
    refine byC (c62 gl [c] (by simp) 0 _) op62 ?_
    conv => whnf
    refine bcase_iff.2 ⟨fun g2_10 => ?_, fun g2_10 => ?_⟩
    · skip
      have g10 : [c].any (outB 0 (IntKind.i64.wrap ((cs.length : Int) - 1))) = true := g2_10
      rw [hw1] at g10
      have ha : askB ls.length cs.length c l = true := by unfold askB; rw [g10, Bool.true_or]
      -- R:aT
      conv => whnf
      rw [enterV_four hk ha]
    · skip
      have g10 : [c].any (outB 0 (IntKind.i64.wrap ((cs.length : Int) - 1))) = false := g2_10
      rw [hw1] at g10
      conv => whnf
      refine ⟨_, rfl, ?_⟩
      conv => whnf
      refine byC (c62 gl [l] (by simp) 0 _) op62 ?_
      conv => whnf
      refine bcase_iff.2 ⟨fun h2 => ?_, fun h2 => ?_⟩
      · skip
        have h2 : [l].any (outB 0 (IntKind.i64.wrap ((ls.length : Int) - 1))) = true := h2
        rw [hw2] at h2
        have ha : askB ls.length cs.length c l = true := by unfold askB; rw [g10, h2, Bool.false_or]
        -- R:aFT
        conv => whnf
        rw [enterV_four hk ha]
      · skip
        have h2 : [l].any (outB 0 (IntKind.i64.wrap ((ls.length : Int) - 1))) = false := h2
        rw [hw2] at h2
        have ha : askB ls.length cs.length c l = false := by unfold askB; rw [g10, h2, Bool.false_or]
        -- R:aFF
        conv => whnf
        rw [enterV_ok hk ha]
  · skip
    rw [openV_no (by rw [hk]; intro e; cases e), hk]
    -- R:b
    conv => whnf
    rw [enterV_no (by rw [hk]; intro e; cases e), hk]
  · skip
    rw [openV_no (by rw [hk]; intro e; cases e), hk]
    -- R:c
    conv => whnf
    rw [enterV_no (by rw [hk]; intro e; cases e), hk]

theorem op75 : Opens PR 75 := ⟨_, Tryd.func75, rfl, rfl⟩

theorem c81 (gl : Gl) (p : Int) (ls : List (ByteArray × Int × Int)) (cs : List (ByteArray × List Int)) (hV : Valid p ls cs) (k : Int) : PCalls PR gl 81 [setR p ls cs, vI k] fun r => r = .tup [vI (mostN ls cs k).1, vI (mostN ls cs k).2] := by
  have hm1 := hV.m1
  have hm4 := hV.m4
  have hn1 := hV.n1
  have hn6 := hV.n6
  refine fnW_sound (par_ok gl) Tryd.func81 ?_
  conv => whnf
  rw [show IntKind.i64.wrap ((cs.length : Int) + 1) = ((mostU cs k 0).1 : Int) from wrap_nat (by omega)]
  refine ⟨⟨3145779, [], []⟩, ?_⟩
  refine LoopW_ind _ (fun i : Nat => (({ tmps := [setR p ls cs, vI k, .undef, .undef, vI (mostU cs k i).1, vI (mostU cs k i).2, .undef, .undef, .undef, .undef, .undef, .undef, .undef, .undef, .undef, .undef, .undef, .undef, .undef, .undef, vI ls.length, vI i, .undef, .undef, .undef, .undef, .undef, .undef, .undef, .undef, .undef, .undef, .undef, .undef, .undef, .undef, .undef, .undef, .undef, .undef, .undef, .undef], seg := [], up := [] } : St S))) (fun i : Nat => (i ≤ ls.length)) (fun i : Nat => (ls.length - i)) () ?_ 0 (Nat.zero_le _)
  intro i hi Z1 hZ1
  conv => whnf
  refine bcase_iff.2 ⟨fun h3 => ?_, fun h3 => ?_⟩
  · skip
    have hlt : i < ls.length := by have := of_decide_eq_true h3; omega
    have hw : IntKind.i64.wrap ((i : Int) + 1) = ((i + 1 : Nat) : Int) := wrap_nat (by omega)
    conv => whnf
    have hg := havL_got (n := ls.length) (cs := cs) hlt k
    conv => whnf
    have h256 := havN_256 hm4 i k
    conv => whnf
    refine ⟨_, lkE _ _ _, ?_⟩
    conv => whnf
    conv => whnf
    conv => whnf
    rw [lkR, hg]
    conv => whnf
    rw [wrap_u64n h256]
    conv => whnf
    refine byC (c131 gl _ h256) op131 ?_
    conv => whnf
    refine bcase_iff.2 ⟨fun h6 => ?_, fun h6 => ?_⟩
    · skip
      have h6 : onesN (havN cs i k) < (mostU cs k i).1 := by have := of_decide_eq_true h6; omega
      have hs : mostU cs k (i + 1) = (onesN (havN cs i k), i) := by simp only [mostU]; rw [if_pos h6]
      -- Z3:TT
      conv => whnf
      refine ⟨⟨3145779, [], []⟩, ?_⟩
      conv => whnf
      rw [hw]
      have hz := hZ1 (i + 1) hlt (by omega)
      rw [hs] at hz
      exact hz
    · skip
      have h6 : ¬ onesN (havN cs i k) < (mostU cs k i).1 := by have := of_decide_eq_false h6; omega
      have hs : mostU cs k (i + 1) = mostU cs k i := by simp only [mostU]; rw [if_neg h6]
      -- Z3:TF
      conv => whnf
      refine ⟨⟨3145779, [], []⟩, ?_⟩
      conv => whnf
      rw [hw]
      have hz := hZ1 (i + 1) hlt (by omega)
      rw [hs] at hz
      exact hz
  · skip
    have hge : i = ls.length := by have := of_decide_eq_false h3; omega
    -- R:F
    conv => whnf
    rw [hge]

theorem op81 : Opens PR 81 := ⟨_, Tryd.func81, rfl, rfl⟩

theorem c18 (p : Int) (ls : List (ByteArray × Int × Int)) (cs : List (ByteArray × List Int)) (hL : LensS ls cs) (c : Int) : PCalls PR glT 18 [.agg [vI p, lfsV ls, cpsV cs], vI c] fun r => r = .tup [vL (missV p ls cs c).1, vI (missV p ls cs c).2.1, vI (missV p ls cs c).2.2] := by
  refine fnW_sound (par_ok glT) Tryd.func18 ?_
  conv => whnf
  refine byC (c75 glT p ls cs hL c 0) op75 ?_
  rcases enter_cases p ls cs c 0 with ⟨a, b, ha, hb, rfl, hlb, hV, hv, he⟩ | ⟨he, hv⟩ | ⟨he, hv⟩
  · skip
    rw [hv]
    have hm1 := hV.m1
    have hm4 := hV.m4
    have hn1 := hV.n1
    have hn6 := hV.n6
    conv => whnf
    refine ⟨⟨3145874, [2], [4]⟩, ?_⟩
    refine LoopW_ind _ (fun i : Nat => (({ tmps := [.undef, vI a, .undef, .undef, .sl (S := S) U.int (natsV ((List.range i).filter (missB cs a))) (some 4), .undef, .undef, setR p ls cs, .undef, .undef, .undef, .undef, .undef, .undef, .undef, .undef, .undef, .undef, .undef, .undef, vI ls.length, vI i, .undef, .undef, .undef, .undef, .undef, .undef, .undef, .undef, .undef, .undef, .undef, .undef, .undef, .undef, .undef, .undef, .undef, .undef, .undef, .undef, .undef, .undef], seg := [(4, .row U.int false)], up := [] } : St S))) (fun i : Nat => (i ≤ ls.length)) (fun i : Nat => (ls.length - i)) () ?_ 0 (Nat.zero_le _)
    intro i hi Z1 hZ1
    conv => whnf
    refine bcase_iff.2 ⟨fun h5 => ?_, fun h5 => ?_⟩
    · skip
      have hlt : i < ls.length := by have := of_decide_eq_true h5; omega
      have hw : IntKind.i64.wrap ((i : Int) + 1) = ((i + 1 : Nat) : Int) := wrap_nat (by omega)
      conv => whnf
      refine ⟨_, lkE _ _ _, ?_⟩
      conv => whnf
      conv => whnf
      conv => whnf
      rw [lkR, havL_got hlt]
      conv => whnf
      refine ⟨Int.natCast_nonneg _, ?_⟩
      conv => whnf
      refine bcase_iff.2 ⟨fun h7 => ?_, fun h7 => ?_⟩
      · skip
        have h7 : (bitsI .and .i64 (shrI .i64 ((havN cs i 0 : Nat) : Int) (a : Int)) 1 == 1) = true := h7
        rw [Pln.bitB (havN_63 hm4 i 0) (by omega), havN_bit ha] at h7
        conv => whnf
        refine ⟨_, rfl, ?_⟩
        conv => whnf
        have hlen := nf_len (missB cs a) i
        conv => whnf
        refine ⟨lim (by simp at hlen ⊢; omega), ?_⟩
        -- Z5:TT
        conv => whnf
        refine ⟨⟨3145874, [37, 38], []⟩, ?_⟩
        conv => whnf
        rw [hw]
        have hz := hZ1 (i + 1) hlt (by omega)
        rw [nf_T h7] at hz
        exact hz
      · skip
        have h7 : (bitsI .and .i64 (shrI .i64 ((havN cs i 0 : Nat) : Int) (a : Int)) 1 == 1) = false := h7
        rw [Pln.bitB (havN_63 hm4 i 0) (by omega), havN_bit ha] at h7
        -- Z5:TF
        conv => whnf
        refine ⟨⟨3145874, [37, 38], []⟩, ?_⟩
        conv => whnf
        rw [hw]
        have hz := hZ1 (i + 1) hlt (by omega)
        rw [nf_F h7] at hz
        exact hz
    · skip
      have hge : i = ls.length := by have := of_decide_eq_false h5; omega
      conv => whnf
      refine byC (c76 glT p ls cs hV a ha) op76 ?_
      -- R:aF
      conv => whnf
      unfold missV missL
      rw [if_pos he, hge]
      rfl
  · skip
    rw [hv]
    conv => whnf
    refine bcase_iff.2 ⟨fun h2 => ?_, fun h2 => ?_⟩
    · skip
      -- R:bT
      conv => whnf
      unfold missV
      rw [if_neg he]
    · skip
      exfalso
      have h2 : (enE p ls cs c 0 != 0) = false := h2
      exact he (by simpa using h2) --done
  · skip
    rw [hv]
    conv => whnf
    refine bcase_iff.2 ⟨fun h2 => ?_, fun h2 => ?_⟩
    · skip
      -- R:cT
      conv => whnf
      unfold missV
      rw [if_neg he]
    · skip
      exfalso
      have h2 : (enE p ls cs c 0 != 0) = false := h2
      exact he (by simpa using h2) --done

theorem op18 : Opens PR 18 := ⟨_, Tryd.func18, rfl, rfl⟩

theorem c21 (p : Int) (ls : List (ByteArray × Int × Int)) (cs : List (ByteArray × List Int)) (hL : LensS ls cs) (c l : Int) : PCalls PR glT 21 [.agg [vI p, lfsV ls, cpsV cs], vI c, vI l] fun r => r = .tup [vL (donV p ls cs c l).1, vI (donV p ls cs c l).2] := by
  refine fnW_sound (par_ok glT) Tryd.func21 ?_
  conv => whnf
  refine byC (c75 glT p ls cs hL c l) op75 ?_
  rcases enter_cases p ls cs c l with ⟨a, b, ha, hb, rfl, hlb, hV, hv, he⟩ | ⟨he, hv⟩ | ⟨he, hv⟩
  · skip
    rw [hv]
    have hm1 := hV.m1
    have hm4 := hV.m4
    have hn1 := hV.n1
    have hn6 := hV.n6
    subst hlb
    conv => whnf
    refine ⟨[0, 1, 2, 3, 4, 5, 6, 10, 11, 7, 8, 9, 12, 13, 14, 15], [9], [], [], ⟨17179869183, [], []⟩, by decide +kernel, ?_⟩
    conv => whnf
    refine ⟨Int.natCast_nonneg _, ?_⟩
    conv => whnf
    refine byC (c76 glT p ls cs hV a ha) op76 ?_
    conv => whnf
    refine ⟨_, lkE _ _ _, ?_⟩
    conv => whnf
    conv => whnf
    conv => whnf
    rw [lkR, havL_got hb]
    conv => whnf
    rw [shl_one (by omega), andNot_nat (havN_63 hm4 _ _) (Nat.pow_lt_pow_right (by omega) (by omega))]
    conv => whnf
    refine byC (c79 (less (havN cs b (kindI (cs.getD a cp0).2)) (2 ^ a)) (Nat.lt_of_lt_of_le (Nat.xor_lt_two_pow (havN_lt hm4 _ _) (Nat.lt_of_le_of_lt Nat.and_le_left (havN_lt hm4 _ _))) (by decide))) op79 ?_
    -- R:a
    conv => whnf
    rw [don_bits hm4 ha]
    unfold donV
    rw [if_pos he]
    rfl
  · skip
    rw [hv]
    conv => whnf
    refine bcase_iff.2 ⟨fun h2 => ?_, fun h2 => ?_⟩
    · skip
      -- R:bT
      conv => whnf
      unfold donV
      rw [if_neg he]
    · skip
      exfalso
      have h2 : (enE p ls cs c l != 0) = false := h2
      exact he (by simpa using h2) --done
  · skip
    rw [hv]
    conv => whnf
    refine bcase_iff.2 ⟨fun h2 => ?_, fun h2 => ?_⟩
    · skip
      -- R:cT
      conv => whnf
      unfold donV
      rw [if_neg he]
    · skip
      exfalso
      have h2 : (enE p ls cs c l != 0) = false := h2
      exact he (by simpa using h2) --done

theorem op21 : Opens PR 21 := ⟨_, Tryd.func21, rfl, rfl⟩

theorem c23 (gl : Gl) (p : Int) (ls : List (ByteArray × Int × Int)) (cs : List (ByteArray × List Int)) (hL : LensS ls cs) (k : Int) : PCalls PR gl 23 [.agg [vI p, lfsV ls, cpsV cs], vI k] fun r => r = .tup [vI (mosV p ls cs k).1, vI (mosV p ls cs k).2.1, vI (mosV p ls cs k).2.2] := by
  refine fnW_sound (par_ok gl) Tryd.func23 ?_
  conv => whnf
  refine byC (c80 gl p ls cs hL) op80 ?_
  rcases Classical.em (chE p ls cs = 0) with hk | hk
  · skip
    rw [openV_ok hk]
    have hV := chk_valid.1 hk
    conv => whnf
    refine ⟨_, rfl, ?_⟩
    conv => whnf
    refine byC (c62 gl [k] (by simp) 1 2) op62 ?_
    conv => whnf
    refine bcase_iff.2 ⟨fun h4 => ?_, fun h4 => ?_⟩
    · skip
      have h4 : [k].any (outB 1 2) = true := h4
      -- R:aT
      conv => whnf
      unfold mosV
      rw [if_pos hk, if_pos h4]
    · skip
      have h4 : [k].any (outB 1 2) = false := h4
      conv => whnf
      refine byC (c81 gl p ls cs hV k) op81 ?_
      -- R:aF
      conv => whnf
      unfold mosV
      rw [if_pos hk, h4, if_neg (by simp)]
  · skip
    rw [openV_no hk]
    conv => whnf
    refine bcase_iff.2 ⟨fun h2 => ?_, fun h2 => ?_⟩
    · skip
      -- R:bT
      conv => whnf
      unfold mosV
      rw [if_neg hk]
    · skip
      exfalso
      have h2 : (chE p ls cs != 0) = false := h2
      exact hk (by simpa using h2) --done

theorem op23 : Opens PR 23 := ⟨_, Tryd.func23, rfl, rfl⟩

theorem c25 (gl : Gl) (p : Int) (ls : List (ByteArray × Int × Int)) (cs : List (ByteArray × List Int)) (hL : LensS ls cs) (c : Int) : PCalls PR gl 25 [.agg [vI p, lfsV ls, cpsV cs], vI c] fun r => r = .tup [vI (worV p ls cs c).1, vI (worV p ls cs c).2] := by
  refine fnW_sound (par_ok gl) Tryd.func25 ?_
  conv => whnf
  refine byC (c75 gl p ls cs hL c 0) op75 ?_
  rcases enter_cases p ls cs c 0 with ⟨a, b, ha, hb, rfl, hlb, hV, hv, he⟩ | ⟨he, hv⟩ | ⟨he, hv⟩
  · skip
    rw [hv]
    have hm1 := hV.m1
    have hm4 := hV.m4
    have hn1 := hV.n1
    have hn6 := hV.n6
    have hlen := (hV.cp ha).2.1
    conv => whnf
    refine ⟨_, getI_nat ha, ?_⟩
    conv => whnf
    refine ⟨⟨1879048518, [], []⟩, ?_⟩
    refine LoopW_ind _ (fun i : Nat => (({ tmps := [.undef, vI a, .own 2 [], .undef, .undef, .undef, setR p ls cs, .undef, vI (worU p ls cs a i), .undef, .undef, .undef, .undef, .undef, .undef, .undef, .undef, .undef, .undef, .undef, .undef, .undef, .undef, .undef, .undef, .undef, .undef, .undef, vL cs[a].2, vI cs[a].2.length, vI i, .undef, .undef, .undef, .undef, .undef, .undef, .undef, .undef, .undef, .undef, .undef, .undef, .undef, .undef, .undef, .undef, .undef, .undef, .undef, .undef, .undef, .undef, .undef, .undef, .undef, .undef, .undef, .undef, .undef, .undef, .undef, .undef, .undef, .undef], seg := [(2, .cells [vI p, lfsV ls, cpsV cs])], up := [] } : St S))) (fun i : Nat => (i ≤ cs[a].2.length)) (fun i : Nat => (cs[a].2.length - i)) () ?_ 0 (Nat.zero_le _)
    intro i hi Z1 hZ1
    conv => whnf
    refine bcase_iff.2 ⟨fun h6 => ?_, fun h6 => ?_⟩
    · skip
      have hlt : i < cs[a].2.length := by have := of_decide_eq_true h6; omega
      have hw : IntKind.i64.wrap ((i : Int) + 1) = ((i + 1 : Nat) : Int) := wrap_nat (by omega)
      conv => whnf
      refine ⟨_, getI_nat hlt, ?_⟩
      conv => whnf
      refine ⟨[0, 1, 2, 3, 4, 5, 6, 7, 8, 9], [], [], [], ⟨36893488147419103231, [], []⟩, by decide +kernel, ?_⟩
      conv => whnf
      have hil : i < ls.length := by omega
      conv => whnf
      refine ⟨_, getI_nat hil, ?_⟩
      conv => whnf
      have hlo := hV.lost hil
      conv => whnf
      rw [show ls[i] = ls.getD i lf0 by rw [getD_at hil]]
      conv => whnf
      have hwl : IntKind.i64.wrap (p * (ls.getD i lf0).2.2) = (p * (ls.getD i lf0).2.2) := wrap_int (by omega) (by omega)
      conv => whnf
      rw [hwl]
      conv => whnf
      have hwo := hV.wor a (l := i) (by omega)
      conv => whnf
      have hhas : cs[a].2[i] = hasI cs a i := by unfold hasI; rw [getD_at ha, getD_at hlt]
      conv => whnf
      refine bcase_iff.2 ⟨fun h11 => ?_, fun h11 => ?_⟩
      · skip
        have h11 : hasI cs a i = 0 := by have h11 : (cs[a].2[i] == 0) = true := h11; rw [hhas] at h11; simpa using h11
        have hs : worU p ls cs a (i + 1) = worU p ls cs a i - ((p * (ls.getD i lf0).2.2) + 999) / 1000 := by simp only [worU]; unfold lostI; rw [if_pos h11]
        conv => whnf
        refine ⟨by omega, ?_⟩
        -- Z6:TT
        conv => whnf
        refine ⟨⟨1879048518, [], []⟩, ?_⟩
        conv => whnf
        rw [hw]
        have hz := hZ1 (i + 1) hlt (by omega)
        rw [hs] at hz
        rw [show IntKind.i64.wrap ((p * (ls.getD i lf0).2.2) + 999) = (p * (ls.getD i lf0).2.2) + 999 from wrap_int (by omega) (by omega), show IntKind.i64.wrap (((p * (ls.getD i lf0).2.2) + 999).tdiv 1000) = ((p * (ls.getD i lf0).2.2) + 999) / 1000 by rw [Int.tdiv_eq_ediv_of_nonneg (by omega)]; exact wrap_int (by omega) (by omega), show IntKind.i64.wrap (worU p ls cs a i - ((p * (ls.getD i lf0).2.2) + 999) / 1000) = worU p ls cs a i - ((p * (ls.getD i lf0).2.2) + 999) / 1000 from wrap_int (by omega) (by omega)]
        exact hz
      · skip
        have h11 : ¬ hasI cs a i = 0 := by have h11 : (cs[a].2[i] == 0) = false := h11; rw [hhas] at h11; simpa using h11
        conv => whnf
        refine byC (c76 gl p ls cs hV a ha) op76 ?_
        conv => whnf
        refine bcase_iff.2 ⟨fun h13 => ?_, fun h13 => ?_⟩
        · skip
          have h13 : hasI cs a i = kindI (cs.getD a cp0).2 := by have h13 : (cs[a].2[i] == kindI (cs.getD a cp0).2) = true := h13; rw [hhas] at h13; simpa using h13
          have hs : worU p ls cs a (i + 1) = worU p ls cs a i := by simp only [worU]; unfold lostI; rw [if_neg h11, if_pos h13]; omega
          -- Z6:TFT
          conv => whnf
          refine ⟨⟨1879048518, [], []⟩, ?_⟩
          conv => whnf
          rw [hw]
          have hz := hZ1 (i + 1) hlt (by omega)
          rw [hs] at hz
          exact hz
        · skip
          have h13 : ¬ hasI cs a i = kindI (cs.getD a cp0).2 := by have h13 : (cs[a].2[i] == kindI (cs.getD a cp0).2) = false := h13; rw [hhas] at h13; simpa using h13
          have hs : worU p ls cs a (i + 1) = worU p ls cs a i - ((p * (ls.getD i lf0).2.2) + 1999) / 2000 := by simp only [worU]; unfold lostI; rw [if_neg h11, if_neg h13]
          conv => whnf
          refine ⟨by omega, ?_⟩
          -- Z6:TFF
          conv => whnf
          refine ⟨⟨1879048518, [], []⟩, ?_⟩
          conv => whnf
          rw [hw]
          have hz := hZ1 (i + 1) hlt (by omega)
          rw [hs] at hz
          rw [show IntKind.i64.wrap ((p * (ls.getD i lf0).2.2) + 1999) = (p * (ls.getD i lf0).2.2) + 1999 from wrap_int (by omega) (by omega), show IntKind.i64.wrap (((p * (ls.getD i lf0).2.2) + 1999).tdiv 2000) = ((p * (ls.getD i lf0).2.2) + 1999) / 2000 by rw [Int.tdiv_eq_ediv_of_nonneg (by omega)]; exact wrap_int (by omega) (by omega), show IntKind.i64.wrap (worU p ls cs a i - ((p * (ls.getD i lf0).2.2) + 1999) / 2000) = worU p ls cs a i - ((p * (ls.getD i lf0).2.2) + 1999) / 2000 from wrap_int (by omega) (by omega)]
          exact hz
    · skip
      have hge : i = cs[a].2.length := by have := of_decide_eq_false h6; omega
      -- R:aF
      conv => whnf
      unfold worV
      rw [if_pos he, hge, hlen]
      show AV.tup [vI (if worU p ls cs a ls.length > 0 then worU p ls cs a ls.length else 0), vI 0] = AV.tup [vI (max 0 (worU p ls cs a ls.length)), vI 0]
      rw [show (if worU p ls cs a ls.length > 0 then worU p ls cs a ls.length else 0) = max 0 (worU p ls cs a ls.length) by split <;> omega]
  · skip
    rw [hv]
    conv => whnf
    refine bcase_iff.2 ⟨fun h2 => ?_, fun h2 => ?_⟩
    · skip
      -- R:bT
      conv => whnf
      unfold worV
      rw [if_neg he]
    · skip
      exfalso
      have h2 : (enE p ls cs c 0 != 0) = false := h2
      exact he (by simpa using h2) --done
  · skip
    rw [hv]
    conv => whnf
    refine bcase_iff.2 ⟨fun h2 => ?_, fun h2 => ?_⟩
    · skip
      -- R:cT
      conv => whnf
      unfold worV
      rw [if_neg he]
    · skip
      exfalso
      have h2 : (enE p ls cs c 0 != 0) = false := h2
      exact he (by simpa using h2) --done

theorem op25 : Opens PR 25 := ⟨_, Tryd.func25, rfl, rfl⟩

end Go.Ab.MkF
