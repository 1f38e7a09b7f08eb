/-
  THE STATE FAMILY, PLAIN LAW, PART A: the orders that the program yields are those of the document.
  THE STATE FAMILY, PLAIN LAW, PART B: the program's orders are the document's that agree.
  THE STATE FAMILY, PLAIN LAW, PART C: what the document says of a forme, and that the program says so.
  THE STATE FAMILY, PLAIN LAW, PART D: orders that are given, and Odd.
-/
import Derived.Test.YtmhbchljhnfahaaDoorStateB
namespace Go.Ab.StF
open Go Go.Ab Go.Proofs

/-! ### Orders, as the document has them -/

/-- Where a number is in a list that has it. -/
def plc (os : List Int) (n : Int) : Nat := os.idxOf n
/-- The reading of a locus after some corrections. -/
def atV (fs os : List Int) (k j : Nat) : Int := if plc os j < k then 3 - fs.getD j 0 else fs.getD j 0
/-- Has the state after some corrections all that a copy shows? -/
def fitB (ss fs os : List Int) (k : Nat) : Bool := (List.range ss.length).all fun j => ss.getD j 0 == 0 || ss.getD j 0 == atV fs os k j
def stpL (ss fs os : List Int) : List Nat := (List.range (os.length + 1)).filter (fitB ss fs os)

def firR : List Int → List Int → List (List Int)
  | [], b => [b]
  | k :: ks, b => ([1, 2] : List Int).flatMap fun v => if k == 0 || k == v then firR ks (b ++ [v]) else []

def rowsR (n : Nat) : Nat → List Nat → List (List Nat)
  | 0, p => [p]
  | m + 1, p => (List.range n).flatMap fun k => if p.contains k then [] else rowsR n m (p ++ [k])

/-- All orders of a forme. -/
def allL (xs : List (ByteArray × Int)) : List (List Int × List Int) :=
  (firR (xs.map Prod.snd) []).flatMap fun a => (rowsR xs.length xs.length []).map fun b => (a, natsV b)

/-! ### First readings -/

def bitsF (n f : Nat) : List Int := (List.range n).map fun i => if f.testBit i then 2 else 1

theorem ffirst_map : ∀ (ks : List Int) (i f : Nat), (∀ k ∈ ks, 0 ≤ k ∧ k ≤ 2) → f < 2 ^ i → (ffirst ks i f).map (bitsF (i + ks.length)) = firR ks (bitsF i f)
  | [], i, f, _, _ => by simp [ffirst, firR]
  | k :: ks, i, f, hk, hf => by
    have h1 : f < 2 ^ (i + 1) := by rw [Nat.pow_succ]; omega
    have h2 : f ||| 2 ^ i < 2 ^ (i + 1) := Nat.or_lt_two_pow h1 (Nat.pow_lt_pow_right (by omega) (by omega))
    have e : i + (k :: ks).length = (i + 1) + ks.length := by simp; omega
    have b1 : bitsF (i + 1) f = bitsF i f ++ [1] := by simp [bitsF, List.range_succ, Nat.testBit_lt_two_pow hf]
    have b2 : bitsF (i + 1) (f ||| 2 ^ i) = bitsF i f ++ [2] := by
      simp only [bitsF, List.range_succ, List.map_append, List.map_cons, List.map_nil, Nat.testBit_or, Nat.testBit_two_pow_self, Bool.or_true, if_true]
      congr 1
      apply List.map_congr_left
      intro j hj
      have : j ≠ i := by have := List.mem_range.1 hj; omega
      simp [Nat.testBit_two_pow_of_ne (Ne.symm this)]
    have hks : ∀ k ∈ ks, 0 ≤ k ∧ k ≤ 2 := fun x hx => hk x (List.mem_cons_of_mem _ hx)
    have i1 := ffirst_map ks (i + 1) f hks h1
    have i2 := ffirst_map ks (i + 1) (f ||| 2 ^ i) hks h2
    rw [b1] at i1
    rw [b2] at i2
    have h3 : k = 0 ∨ k = 1 ∨ k = 2 := by have := hk k (List.mem_cons_self ..); omega
    rw [e, ffirst, List.map_append]
    simp only [firR, List.flatMap_cons, List.flatMap_nil, List.append_nil]
    rcases h3 with rfl | rfl | rfl <;> simp [i1, i2]

theorem ffirst_all (ks : List Int) (h : ∀ k ∈ ks, 0 ≤ k ∧ k ≤ 2) : (ffirst ks 0 0).map (bitsF ks.length) = firR ks [] := by
  have := ffirst_map ks 0 0 h (by decide)
  rw [Nat.zero_add] at this
  exact this

theorem bitsF_get {n f j : Nat} (h : j < n) : (bitsF n f).getD j 0 = if f.testBit j then 2 else 1 := by
  simp [bitsF, List.getD_eq_getElem?_getD, h]

theorem bitsF_len (n f : Nat) : (bitsF n f).length = n := by simp [bitsF]

/-! ### Rows -/

def bitsO (p : List Nat) : Nat := p.foldl (fun d k => d ||| 2 ^ k) 0

theorem bitsO_snoc (p : List Nat) (k : Nat) : bitsO (p ++ [k]) = bitsO p ||| 2 ^ k := by simp [bitsO]

theorem bitsO_test (p : List Nat) (j : Nat) : (bitsO p).testBit j = p.contains j := by
  have : ∀ (p : List Nat) (d : Nat), (p.foldl (fun d k => d ||| 2 ^ k) d).testBit j = (d.testBit j || p.contains j) := fun p => by
    induction p with
    | nil => simp
    | cons k p ih =>
      intro d
      rw [List.foldl_cons, ih, Nat.testBit_or, Nat.testBit_two_pow, List.contains_cons, Bool.or_assoc]
      congr 2
      rw [Bool.eq_iff_iff, decide_eq_true_eq, beq_iff_eq]
      exact eq_comm
  rw [bitsO, this]; simp

theorem less_test (a b j : Nat) : (less a b).testBit j = (a.testBit j && !b.testBit j) := by
  unfold less
  rw [Nat.testBit_xor, Nat.testBit_and]
  cases a.testBit j <;> cases b.testBit j <;> rfl

theorem less_zero {a b : Nat} : less a b = 0 ↔ ∀ j, a.testBit j = true → b.testBit j = true := by
  constructor
  · intro h j hj
    have := less_test a b j
    rw [h, Nat.zero_testBit, hj] at this
    simpa using this.symm
  · intro h
    apply Nat.eq_of_testBit_eq
    intro j
    rw [less_test, Nat.zero_testBit]
    cases ha : a.testBit j
    · rfl
    · rw [h j ha]; rfl

def okL (ah os : List Nat) : Bool := (List.range os.length).all fun i => less (ah.getD (os.getD i 0) 0) (bitsO (os.take i)) == 0

theorem okL_snoc (ah p : List Nat) (k : Nat) : okL ah (p ++ [k]) = (okL ah p && (less (ah.getD k 0) (bitsO p) == 0)) := by
  unfold okL
  rw [List.length_append, List.length_singleton, List.range_succ, List.all_append]
  congr 1
  · rw [Bool.eq_iff_iff, List.all_eq_true, List.all_eq_true]
    have : ∀ i ∈ List.range p.length, (p ++ [k]).getD i 0 = p.getD i 0 ∧ (p ++ [k]).take i = p.take i := fun i hi => by
      have hi := List.mem_range.1 hi
      exact ⟨by simp [List.getD_eq_getElem?_getD, List.getElem?_append_left hi], by rw [List.take_append_of_le_length (by omega)]⟩
    constructor
    · intro h i hi; rw [← (this i hi).1, ← (this i hi).2]; exact h i hi
    · intro h i hi; rw [(this i hi).1, (this i hi).2]; exact h i hi
  · simp [List.getD_eq_getElem?_getD]

theorem okL_pre (ah : List Nat) : ∀ (q p : List Nat), okL ah (p ++ q) = true → okL ah p = true
  | [], p, h => by rwa [List.append_nil] at h
  | k :: q, p, h => by
    have : okL ah ((p ++ [k]) ++ q) = true := by rw [List.append_assoc]; exact h
    have := okL_pre ah q (p ++ [k]) this
    rw [okL_snoc, Bool.and_eq_true] at this
    exact this.1

theorem rowsR_pre {n : Nat} : ∀ (m : Nat) (p os : List Nat), os ∈ rowsR n m p → ∃ q, os = p ++ q
  | 0, p, os, h => by simp only [rowsR, List.mem_singleton] at h; exact ⟨[], by rw [h, List.append_nil]⟩
  | m + 1, p, os, h => by
    simp only [rowsR, List.mem_flatMap] at h
    obtain ⟨k, _, h⟩ := h
    split at h
    · cases h
    · obtain ⟨q, rfl⟩ := rowsR_pre m _ _ h
      exact ⟨[k] ++ q, by rw [List.append_assoc]⟩

theorem ford_rows {n : Nat} (ah : List Nat) : ∀ (m : Nat) (p : List Nat), okL ah p = true → ford n ah m (bitsO p) p = (rowsR n m p).filter (okL ah)
  | 0, p, h => by simp [ford, rowsR, h]
  | m + 1, p, h => by
    rw [ford, rowsR, List.filter_flatMap]
    congr 1
    funext k
    rw [bitsO_test]
    cases hc : p.contains k
    · cases hl : less (ah.getD k 0) (bitsO p) != 0
      · have ho : okL ah (p ++ [k]) = true := by
          rw [okL_snoc, h, Bool.true_and]
          simpa using hl
        have := ford_rows (n := n) ah m (p ++ [k]) ho
        rw [bitsO_snoc] at this
        simpa using this
      · have ho : okL ah (p ++ [k]) = false := by
          rw [okL_snoc, h, Bool.true_and]
          simpa using hl
        have : (rowsR n m (p ++ [k])).filter (okL ah) = [] := by
          rw [List.filter_eq_nil_iff]
          intro os hos hk
          obtain ⟨q, rfl⟩ := rowsR_pre m _ _ hos
          rw [okL_pre ah q _ hk] at ho
          cases ho
        simp [this]
    · simp

theorem rowsR_mem {n : Nat} : ∀ (m : Nat) (p os : List Nat), p.Nodup → (∀ x ∈ p, x < n) → os ∈ rowsR n m p → os.Nodup ∧ (∀ x ∈ os, x < n) ∧ os.length = p.length + m
  | 0, p, os, h1, h2, h => by
    simp only [rowsR, List.mem_singleton] at h
    subst h
    exact ⟨h1, h2, rfl⟩
  | m + 1, p, os, h1, h2, h => by
    simp only [rowsR, List.mem_flatMap, List.mem_range] at h
    obtain ⟨k, hk, h⟩ := h
    split at h
    · cases h
    · rename_i hc
      have hc : k ∉ p := by simpa using hc
      have h3 : (p ++ [k]).Nodup := by
        rw [List.nodup_append]
        refine ⟨h1, by simp, fun a ha b hb => ?_⟩
        simp only [List.mem_singleton] at hb
        subst hb
        exact fun e => hc (e ▸ ha)
      have h4 : ∀ x ∈ p ++ [k], x < n := fun x hx => by
        rcases List.mem_append.1 hx with hx | hx
        · exact h2 x hx
        · simp only [List.mem_singleton] at hx; omega
      obtain ⟨a, b, c⟩ := rowsR_mem m (p ++ [k]) os h3 h4 h
      refine ⟨a, b, ?_⟩
      rw [c]; simp; omega

/-- An order of loci: each one once. -/
structure Perm (n : Nat) (os : List Nat) : Prop where
  nodup : os.Nodup
  lt : ∀ x ∈ os, x < n
  len : os.length = n

theorem Perm.mem {n : Nat} {os : List Nat} (h : Perm n os) {k : Nat} (hk : k < n) : k ∈ os := by
  apply Classical.byContradiction
  intro hn
  have h1 : (k :: os).Nodup := List.nodup_cons.2 ⟨hn, h.nodup⟩
  have h2 := List.Nodup.length_le_of_subset (l₂ := List.range n) h1 fun x hx => by
    rcases List.mem_cons.1 hx with rfl | hx
    · exact List.mem_range.2 hk
    · exact List.mem_range.2 (h.lt x hx)
  simp [h.len] at h2
  omega

theorem rowsR_perm {n : Nat} {os : List Nat} (h : os ∈ rowsR n n []) : Perm n os := by
  obtain ⟨a, b, c⟩ := rowsR_mem n [] os List.nodup_nil (fun _ h => by cases h) h
  exact ⟨a, b, by simpa using c⟩

theorem perm_rowsR' {n : Nat} : ∀ (q p : List Nat), (p ++ q).Nodup → (∀ x ∈ q, x < n) → p ++ q ∈ rowsR n q.length p
  | [], p, _, _ => by simp [rowsR]
  | k :: q, p, h1, h2 => by
    have e : p ++ k :: q = (p ++ [k]) ++ q := by rw [List.append_assoc]; rfl
    simp only [List.length_cons, rowsR, List.mem_flatMap, List.mem_range]
    refine ⟨k, h2 k (List.mem_cons_self ..), ?_⟩
    have hk : p.contains k = false := by
      rw [Bool.eq_false_iff]
      intro hc
      have hc : k ∈ p := by simpa using hc
      exact (List.nodup_append.1 h1).2.2 k hc k (List.mem_cons_self ..) rfl
    rw [hk, if_neg (by simp), e]
    exact perm_rowsR' q (p ++ [k]) (e ▸ h1) fun x hx => h2 x (List.mem_cons_of_mem _ hx)

theorem perm_rowsR {n : Nat} {os : List Nat} (h : Perm n os) : os ∈ rowsR n n [] := by
  have := perm_rowsR' (n := n) os [] (by simpa using h.nodup) h.lt
  rwa [h.len] at this

theorem mem_take_idx {α : Type} [BEq α] [LawfulBEq α] {l : List α} {x : α} {i : Nat} (h : i ≤ l.length) : x ∈ l.take i ↔ l.idxOf x < i := by
  constructor
  · intro hx
    have e : l = l.take i ++ l.drop i := (List.take_append_drop i l).symm
    rw [e, List.idxOf_append, if_pos hx]
    have := List.idxOf_lt_length_of_mem hx
    rw [List.length_take] at this
    omega
  · intro hx
    have hl : l.idxOf x < l.length := by omega
    have := List.getElem_idxOf hl
    rw [← this]
    exact List.mem_take_iff_getElem.2 ⟨l.idxOf x, by omega, rfl⟩

/-! ### What copies show -/

theorem mask_snoc (xs : List Int) (x v : Int) : mask (xs ++ [x]) v = if x = v then mask xs v ||| 2 ^ xs.length else mask xs v := by
  have h := mask_lt xs v
  by_cases hx : x = v
  · rw [if_pos hx, or_pow h]
    unfold mask
    rw [maskAt_app]
    simp [maskAt, hx]
  · rw [if_neg hx]
    unfold mask
    rw [maskAt_app]
    simp [maskAt, hx]

theorem mask_test (v : Int) : ∀ (n : Nat) (xs : List Int), xs.length = n → ∀ j, (mask xs v).testBit j = (decide (j < n) && (xs.getD j 0 == v))
  | 0, xs, h, j => by
    obtain rfl := List.eq_nil_of_length_eq_zero h
    simp [mask, maskAt]
  | n + 1, xs, h, j => by
    have hne : xs ≠ [] := fun e => by rw [e] at h; cases h
    have e : xs = xs.dropLast ++ [xs.getLast hne] := (List.dropLast_concat_getLast hne).symm
    generalize xs.dropLast = ys at e
    generalize xs.getLast hne = y at e
    have hy : ys.length = n := by rw [e] at h; simpa using h
    rw [e, mask_snoc]
    have ih := mask_test v n ys hy j
    rcases Nat.lt_trichotomy j n with hj | hj | hj
    · have hg : (ys ++ [y]).getD j 0 = ys.getD j 0 := by simp [List.getD_eq_getElem?_getD, List.getElem?_append_left (show j < ys.length by omega)]
      rw [hg]
      simp only [hj, decide_true, Bool.true_and] at ih
      simp only [show j < n + 1 from by omega, decide_true, Bool.true_and]
      split
      · rw [Nat.testBit_or, hy, Nat.testBit_two_pow_of_ne (by omega), ih, Bool.or_false]
      · exact ih
    · subst hj
      have hg : (ys ++ [y]).getD j 0 = y := by simp [List.getD_eq_getElem?_getD, ← hy]
      rw [hg]
      simp only [Nat.lt_irrefl, decide_false, Bool.false_and] at ih
      simp only [Nat.lt_succ_self, decide_true, Bool.true_and]
      by_cases hx : y = v
      · rw [if_pos hx, Nat.testBit_or, hy, Nat.testBit_two_pow_self, Bool.or_true]; simp [hx]
      · rw [if_neg hx, ih]; simp [hx]
    · simp only [show ¬ j < n from by omega, decide_false, Bool.false_and] at ih
      simp only [show ¬ j < n + 1 from by omega, decide_false, Bool.false_and]
      split
      · rw [Nat.testBit_or, hy, Nat.testBit_two_pow_of_ne (by omega), ih, Bool.or_false]
      · exact ih

theorem fixedM_test (a b f j : Nat) : (fixedM a b f).testBit j = ((a.testBit j && f.testBit j) || (b.testBit j && !f.testBit j)) := by
  unfold fixedM; rw [Nat.testBit_or, Nat.testBit_and, less_test]
theorem looseM_test (a b f j : Nat) : (looseM a b f).testBit j = ((a.testBit j && !f.testBit j) || (b.testBit j && f.testBit j)) := by
  unfold looseM; rw [Nat.testBit_or, Nat.testBit_and, less_test]

/-- A copy shows a locus as corrected, or not. -/
def fxB (ss : List Int) (f j : Nat) : Bool := (fixedM (mask ss 1) (mask ss 2) f).testBit j
def lsB (ss : List Int) (f j : Nat) : Bool := (looseM (mask ss 1) (mask ss 2) f).testBit j

theorem fxB_eq (ss : List Int) (f j : Nat) : fxB ss f j = (decide (j < ss.length) && (ss.getD j 0 == if f.testBit j then 1 else 2)) := by
  unfold fxB
  rw [fixedM_test, mask_test 1 _ ss rfl, mask_test 2 _ ss rfl]
  cases f.testBit j <;> cases decide (j < ss.length) <;> simp
theorem lsB_eq (ss : List Int) (f j : Nat) : lsB ss f j = (decide (j < ss.length) && (ss.getD j 0 == if f.testBit j then 2 else 1)) := by
  unfold lsB
  rw [looseM_test, mask_test 1 _ ss rfl, mask_test 2 _ ss rfl]
  cases f.testBit j <;> cases decide (j < ss.length) <;> simp

theorem plc_nats {os : List Nat} {j : Nat} : plc (natsV os) (j : Int) = os.idxOf j := by
  unfold plc natsV
  induction os with
  | nil => rfl
  | cons k os ih =>
    rw [List.map_cons, List.idxOf_cons, List.idxOf_cons, ih]
    by_cases h : k = j
    · subst h; simp
    · have h1 : ((k : Int) == (j : Int)) = false := by simpa [Int.natCast_inj] using h
      have h2 : (k == j) = false := by simpa using h
      rw [h1, h2]

theorem fit_iff {ss : List Int} {f : Nat} {os : List Nat} {k : Nat} (hs : ∀ v ∈ ss, 0 ≤ v ∧ v ≤ 2) :
    fitB ss (bitsF ss.length f) (natsV os) k = true ↔ ∀ j, (fxB ss f j = true → os.idxOf j < k) ∧ (lsB ss f j = true → k ≤ os.idxOf j) := by
  unfold fitB
  rw [List.all_eq_true]
  constructor
  · intro h j
    rw [fxB_eq, lsB_eq]
    by_cases hj : j < ss.length
    · have := h j (List.mem_range.2 hj)
      unfold atV at this
      rw [plc_nats, bitsF_get hj] at this
      simp only [hj, decide_true, Bool.true_and]
      constructor
      · intro hx
        apply Classical.byContradiction
        intro hk
        rw [if_neg hk] at this
        cases ht : f.testBit j <;> simp [ht] at this hx <;> omega
      · intro hx
        apply Classical.byContradiction
        intro hk
        rw [if_pos (by omega)] at this
        cases ht : f.testBit j <;> simp [ht] at this hx <;> omega
    · simp [hj]
  · intro h j hj
    have hj := List.mem_range.1 hj
    have := h j
    rw [fxB_eq, lsB_eq] at this
    simp only [hj, decide_true, Bool.true_and] at this
    unfold atV
    rw [plc_nats, bitsF_get hj]
    have hv := hs (ss.getD j 0) (by rw [getD_el' hj]; exact List.getElem_mem hj)
    generalize ss.getD j 0 = s at this hv ⊢
    have h3 : s = 0 ∨ s = 1 ∨ s = 2 := by omega
    obtain ⟨ha, hb⟩ := this
    by_cases hk : os.idxOf j < k
    · rw [if_pos hk]
      have hb : ¬ ((s == if f.testBit j then 2 else 1) = true) := fun hx => by have := hb hx; omega
      rcases h3 with rfl | rfl | rfl <;> cases ht : f.testBit j <;> simp [ht] at hb ⊢
    · rw [if_neg hk]
      have ha : ¬ ((s == if f.testBit j then 1 else 2) = true) := fun hx => by have := ha hx; omega
      rcases h3 with rfl | rfl | rfl <;> cases ht : f.testBit j <;> simp [ht] at ha ⊢
where
  getD_el' {α : Type} {xs : List α} {d : α} {i : Nat} (h : i < xs.length) : xs.getD i d = xs[i] := by
    rw [List.getD_eq_getElem?_getD, List.getElem?_eq_getElem h]; rfl
end Go.Ab.StF

namespace Go.Ab.StF
open Go Go.Ab Go.Proofs

theorem cons_get {α : Type} {a : α} {l : List α} {P : Nat → α → Prop} : (∀ t x, (a :: l)[t]? = some x → P t x) ↔ P 0 a ∧ ∀ t x, l[t]? = some x → P (t + 1) x := by
  constructor
  · intro h
    exact ⟨h 0 a rfl, fun t x hx => h (t + 1) x (by simpa using hx)⟩
  · rintro ⟨h0, h⟩ t x hx
    cases t with
    | zero => simp at hx; subst hx; exact h0
    | succ t => exact h t x (by simpa using hx)

theorem stepsGo_iff (fx ls : Nat) (hd : ∀ j, fx.testBit j = true → ls.testBit j = false) : ∀ (ks : List Nat) (i lo hi : Nat), lo ≤ i →
    (∀ k, (stepsGo fx ls ks i lo hi).1 ≤ k ↔ lo ≤ k ∧ ∀ t x, ks[t]? = some x → fx.testBit x = true → i + t + 1 ≤ k) ∧
    (∀ k, k ≤ (stepsGo fx ls ks i lo hi).2 ↔ k ≤ hi ∧ ∀ t x, ks[t]? = some x → ls.testBit x = true → k ≤ i + t)
  | [], i, lo, hi, h => by simp [stepsGo]
  | a :: ks, i, lo, hi, h => by
    simp only [stepsGo]
    cases hf : fx.testBit a
    · cases hl : ls.testBit a
      · obtain ⟨h1, h2⟩ := stepsGo_iff fx ls hd ks (i + 1) lo hi (by omega)
        simp only [Bool.false_eq_true, if_false]
        refine ⟨fun k => ?_, fun k => ?_⟩
        · rw [h1 k, cons_get]
          constructor
          · rintro ⟨g1, g2⟩; exact ⟨g1, fun g => (by rw [hf] at g; cases g), fun t x hx hfx => by have := g2 t x hx hfx; omega⟩
          · rintro ⟨g1, _, g2⟩; exact ⟨g1, fun t x hx hfx => by have := g2 t x hx hfx; omega⟩
        · rw [h2 k, cons_get]
          constructor
          · rintro ⟨g1, g2⟩; exact ⟨g1, fun g => (by rw [hl] at g; cases g), fun t x hx hfx => by have := g2 t x hx hfx; omega⟩
          · rintro ⟨g1, _, g2⟩; exact ⟨g1, fun t x hx hfx => by have := g2 t x hx hfx; omega⟩
      · obtain ⟨h1, h2⟩ := stepsGo_iff fx ls hd ks (i + 1) lo (min hi i) (by omega)
        simp only [Bool.false_eq_true, if_false, if_true]
        refine ⟨fun k => ?_, fun k => ?_⟩
        · rw [h1 k, cons_get]
          constructor
          · rintro ⟨g1, g2⟩; exact ⟨g1, fun g => (by rw [hf] at g; cases g), fun t x hx hfx => by have := g2 t x hx hfx; omega⟩
          · rintro ⟨g1, _, g2⟩; exact ⟨g1, fun t x hx hfx => by have := g2 t x hx hfx; omega⟩
        · rw [h2 k, cons_get]
          constructor
          · rintro ⟨g1, g2⟩; exact ⟨by omega, fun _ => by omega, fun t x hx hfx => by have := g2 t x hx hfx; omega⟩
          · rintro ⟨g1, g3, g2⟩; exact ⟨by have := g3 hl; omega, fun t x hx hfx => by have := g2 t x hx hfx; omega⟩
    · obtain ⟨h1, h2⟩ := stepsGo_iff fx ls hd ks (i + 1) (i + 1) hi (by omega)
      simp only [if_true]
      refine ⟨fun k => ?_, fun k => ?_⟩
      · rw [h1 k, cons_get]
        constructor
        · rintro ⟨g1, g2⟩; exact ⟨by omega, fun _ => by omega, fun t x hx hfx => by have := g2 t x hx hfx; omega⟩
        · rintro ⟨g1, g3, g2⟩; exact ⟨by have := g3 hf; omega, fun t x hx hfx => by have := g2 t x hx hfx; omega⟩
      · rw [h2 k, cons_get]
        constructor
        · rintro ⟨g1, g2⟩; exact ⟨g1, fun g => (by rw [hd a hf] at g; cases g), fun t x hx hfx => by have := g2 t x hx hfx; omega⟩
        · rintro ⟨g1, _, g2⟩; exact ⟨g1, fun t x hx hfx => by have := g2 t x hx hfx; omega⟩

theorem fx_ls {ss : List Int} {f j : Nat} (h : fxB ss f j = true) : lsB ss f j = false := by
  rw [fxB_eq] at h
  rw [lsB_eq]
  simp only [Bool.and_eq_true, beq_iff_eq] at h
  rw [h.2]
  cases f.testBit j <;> simp

theorem Perm.get {n : Nat} {os : List Nat} (h : Perm n os) {t x : Nat} (hx : os[t]? = some x) : os.idxOf x = t := by
  obtain ⟨ht, rfl⟩ := List.getElem?_eq_some_iff.1 hx
  exact h.nodup.idxOf_getElem t ht

theorem Perm.get' {n : Nat} {os : List Nat} (h : Perm n os) {x : Nat} (hx : x < n) : os[os.idxOf x]? = some x := by
  have hl := List.idxOf_lt_length_of_mem (h.mem hx)
  rw [List.getElem?_eq_getElem hl, List.getElem_idxOf hl]

theorem fxB_lt {ss : List Int} {f j : Nat} (h : fxB ss f j = true) : j < ss.length := by
  rw [fxB_eq] at h; simp at h; exact h.1
theorem lsB_lt {ss : List Int} {f j : Nat} (h : lsB ss f j = true) : j < ss.length := by
  rw [lsB_eq] at h; simp at h; exact h.1

abbrev stO (n : Nat) (ss : List Int) (f : Nat) (os : List Nat) : Nat × Nat := stepsOf n (mask ss 1, mask ss 2) f (pad5 os)

theorem take_pad5 {n : Nat} {os : List Nat} (h : os.length = n) : (pad5 os).take n = os := by
  rw [pad5, List.take_append_of_le_length (by omega), List.take_of_length_le (by omega)]

theorem stO_lo {n : Nat} {ss : List Int} {f : Nat} {os : List Nat} (hp : Perm n os) (hl : ss.length = n) (k : Nat) :
    (stO n ss f os).1 ≤ k ↔ ∀ x, fxB ss f x = true → os.idxOf x < k := by
  unfold stO stepsOf
  rw [take_pad5 hp.len, ((stepsGo_iff _ _ (fun j h => fx_ls (ss := ss) (f := f) h) os 0 0 n (Nat.zero_le _)).1 k)]
  constructor
  · rintro ⟨_, h⟩ x hx
    have := h _ x (hp.get' (hl ▸ fxB_lt hx)) hx
    omega
  · intro h
    refine ⟨Nat.zero_le _, fun t x hx hfx => ?_⟩
    have := h x hfx
    rw [hp.get hx] at this
    omega

theorem stO_hi {n : Nat} {ss : List Int} {f : Nat} {os : List Nat} (hp : Perm n os) (hl : ss.length = n) (k : Nat) :
    k ≤ (stO n ss f os).2 ↔ k ≤ n ∧ ∀ x, lsB ss f x = true → k ≤ os.idxOf x := by
  unfold stO stepsOf
  rw [take_pad5 hp.len, ((stepsGo_iff _ _ (fun j h => fx_ls (ss := ss) (f := f) h) os 0 0 n (Nat.zero_le _)).2 k)]
  constructor
  · rintro ⟨h0, h⟩
    refine ⟨h0, fun x hx => ?_⟩
    have := h _ x (hp.get' (hl ▸ lsB_lt hx)) hx
    omega
  · rintro ⟨h0, h⟩
    refine ⟨h0, fun t x hx hfx => ?_⟩
    have := h x hfx
    rw [hp.get hx] at this
    omega

theorem stO_le {n : Nat} {ss : List Int} {f : Nat} {os : List Nat} (hp : Perm n os) (hl : ss.length = n) : (stO n ss f os).2 ≤ n := ((stO_hi (f := f) hp hl _).1 (Nat.le_refl _)).1

theorem stO_ok {n : Nat} {ss : List Int} {f : Nat} {os : List Nat} (hp : Perm n os) (hl : ss.length = n) :
    (stO n ss f os).1 ≤ (stO n ss f os).2 ↔ ∀ l x, lsB ss f l = true → fxB ss f x = true → os.idxOf x < os.idxOf l := by
  rw [stO_lo hp hl]
  constructor
  · intro h l x h1 h2
    have := ((stO_hi (f := f) hp hl _).1 (Nat.le_of_eq rfl)).2 l h1
    have := h x h2
    omega
  · intro h x hx
    have hxn : os.idxOf x < n := by
      have := List.idxOf_lt_length_of_mem (hp.mem (hl ▸ fxB_lt hx))
      rwa [hp.len] at this
    have : os.idxOf x + 1 ≤ (stO n ss f os).2 := (stO_hi hp hl _).2 ⟨hxn, fun l hl2 => h l x hl2 hx⟩
    omega

theorem filter_range (lo h : Nat) : ∀ n, (List.range n).filter (fun k => decide (lo ≤ k) && decide (k < h)) = List.range' lo (min h n - lo)
  | 0 => by simp
  | n + 1 => by
    rw [List.range_succ, List.filter_append, filter_range lo h n]
    by_cases h1 : lo ≤ n ∧ n < h
    · have e : min h (n + 1) - lo = (min h n - lo) + 1 := by omega
      rw [e, List.range'_1_concat]
      have : lo + (min h n - lo) = n := by omega
      rw [this]
      simp [h1.1, h1.2]
    · have e : min h (n + 1) - lo = min h n - lo := by omega
      rw [e]
      have : (decide (lo ≤ n) && decide (n < h)) = false := by
        rw [Bool.eq_false_iff]; intro h2; simp at h2; exact h1 h2
      simp [this]

/-- The corrections after which a copy can be printed. -/
theorem stp_eq {n : Nat} {ss : List Int} {f : Nat} {os : List Nat} (hp : Perm n os) (hl : ss.length = n) (hs : ∀ v ∈ ss, 0 ≤ v ∧ v ≤ 2) :
    stpL ss (bitsF n f) (natsV os) = List.range' (stO n ss f os).1 ((stO n ss f os).2 + 1 - (stO n ss f os).1) := by
  have h0 := stO_le (f := f) hp hl
  unfold stpL
  have e : (natsV os).length + 1 = n + 1 := by simp [hp.len]
  rw [e]
  have : (List.range (n + 1)).filter (fitB ss (bitsF n f) (natsV os)) = (List.range (n + 1)).filter (fun k => decide ((stO n ss f os).1 ≤ k) && decide (k < (stO n ss f os).2 + 1)) := by
    apply List.filter_congr
    intro k hk
    have hk := List.mem_range.1 hk
    rw [Bool.eq_iff_iff]
    subst hl
    rw [fit_iff hs, Bool.and_eq_true, decide_eq_true_eq, decide_eq_true_eq, stO_lo hp rfl, Nat.lt_succ_iff, stO_hi hp rfl]
    constructor
    · intro h; exact ⟨fun x => (h x).1, by omega, fun x => (h x).2⟩
    · rintro ⟨h1, _, h2⟩ x; exact ⟨h1 x, h2 x⟩
  rw [this, filter_range, Nat.min_eq_left (by omega)]

theorem stp_empty {n : Nat} {ss : List Int} {f : Nat} {os : List Nat} (hp : Perm n os) (hl : ss.length = n) (hs : ∀ v ∈ ss, 0 ≤ v ∧ v ≤ 2) :
    (stpL ss (bitsF n f) (natsV os)).isEmpty = decide ((stO n ss f os).1 > (stO n ss f os).2) := by
  rw [stp_eq hp hl hs, Bool.eq_iff_iff, List.isEmpty_iff, List.range'_eq_nil_iff, decide_eq_true_eq]
  omega

/-! ### The loci that have to be ahead -/

theorem aheadUp_test (ms : List (Nat × Nat)) (set f k x : Nat) : ∀ i, (aheadUp ms set f i k).testBit x = true ↔
    ∃ j, j < i ∧ set.testBit j = true ∧ (looseM (ms.getD j (0, 0)).1 (ms.getD j (0, 0)).2 f).testBit k = true ∧ (fixedM (ms.getD j (0, 0)).1 (ms.getD j (0, 0)).2 f).testBit x = true
  | 0 => by simp [aheadUp]
  | i + 1 => by
    have ih := aheadUp_test ms set f k x i
    have hstep : ∀ {P : Nat → Prop}, (∃ j, j < i + 1 ∧ P j) ↔ (∃ j, j < i ∧ P j) ∨ P i := fun {P} => by
      constructor
      · rintro ⟨j, hj, h⟩
        by_cases e : j = i
        · exact .inr (e ▸ h)
        · exact .inl ⟨j, by omega, h⟩
      · rintro (⟨j, hj, h⟩ | h)
        · exact ⟨j, by omega, h⟩
        · exact ⟨i, by omega, h⟩
    rw [hstep, ← ih]
    simp only [aheadUp]
    cases h1 : set.testBit i
    · simp
    · cases h2 : (looseM (ms.getD i (0, 0)).1 (ms.getD i (0, 0)).2 f).testBit k
      · simp
      · simp

theorem aheadL_get {n : Nat} {ms : List (Nat × Nat)} {set f m k : Nat} (hk : k < n) (hn : n ≤ 5) : (aheadL n ms set f m).getD k 0 = aheadUp ms set f m k := by
  simp [aheadL, List.getD_eq_getElem?_getD, List.getElem?_range (show k < 5 by omega), hk]

theorem okL_iff {n : Nat} {os : List Nat} (hp : Perm n os) (hn : n ≤ 5) (ms : List (Nat × Nat)) (set f m : Nat) :
    okL (aheadL n ms set f m) os = true ↔ ∀ l, l < n → ∀ x, (aheadUp ms set f m l).testBit x = true → os.idxOf x < os.idxOf l := by
  unfold okL
  rw [List.all_eq_true]
  constructor
  · intro h l hl x hx
    have hg := hp.get' hl
    have hlt := List.idxOf_lt_length_of_mem (hp.mem hl)
    have := h (os.idxOf l) (List.mem_range.2 hlt)
    rw [show os.getD (os.idxOf l) 0 = l by rw [List.getD_eq_getElem?_getD, hg]; rfl, aheadL_get hl hn] at this
    have := (less_zero.1 (by simpa using this)) x hx
    rw [bitsO_test] at this
    exact (mem_take_idx (by omega)).1 (by simpa using this)
  · intro h i hi
    have hi := List.mem_range.1 hi
    have hg : os.getD i 0 = os[i] := by rw [List.getD_eq_getElem?_getD, List.getElem?_eq_getElem hi]; rfl
    have hin : os[i] < n := hp.lt _ (List.getElem_mem hi)
    rw [hg, aheadL_get hin hn, beq_iff_eq, less_zero]
    intro x hx
    rw [bitsO_test, List.contains_iff_mem, mem_take_idx (by omega)]
    have := h os[i] hin x hx
    rwa [hp.nodup.idxOf_getElem i hi] at this

/-! ### The bridge -/

def decO (n : Nat) (p : Nat × List Nat) : List Int × List Int := (bitsF n p.1, natsV (p.2.take n))

abbrev showsOf (cs : List (ByteArray × List Int)) (i : Nat) : List Int := (cs.getD i (ByteArray.empty, [])).2

/-- Do all copies of a set agree with an order? -/
def okS (cs : List (ByteArray × List Int)) (set : Nat) (o : List Int × List Int) : Bool := (List.range cs.length).all fun i => !set.testBit i || !(stpL (showsOf cs i) o.1 o.2).isEmpty

theorem showsOf_eq {cs : List (ByteArray × List Int)} {i : Nat} (hi : i < cs.length) : showsOf cs i = cs[i].2 := by
  simp [showsOf, List.getD_eq_getElem?_getD, hi]

theorem okL_okS {xs : List (ByteArray × Int)} {cs : List (ByteArray × List Int)} (hv : Valid xs cs) (set f : Nat) {os : List Nat} (hp : Perm xs.length os) :
    okL (aheadL xs.length (msL cs) set f (msL cs).length) os = okS cs set (bitsF xs.length f, natsV os) := by
  rw [Bool.eq_iff_iff, okL_iff hp hv.l5]
  unfold okS
  rw [List.all_eq_true]
  have hml : (msL cs).length = cs.length := by simp [msL]
  constructor
  · intro h i hi
    have hi := List.mem_range.1 hi
    have hl := hv.len _ (List.getElem_mem hi)
    cases hs : set.testBit i
    · rfl
    · rw [showsOf_eq hi]
      simp only
      rw [stp_empty hp hl (hv.shows _ (List.getElem_mem hi))]
      simp only [Bool.not_true, Bool.false_or, Bool.not_eq_true', decide_eq_false_iff_not]
      have := (stO_ok (f := f) hp hl).2 fun l x h1 h2 => h l (hl ▸ lsB_lt h1) x ((aheadUp_test _ _ _ _ _ _).2 ⟨i, by rw [hml]; exact hi, hs, by rw [msL_get hi]; exact h1, by rw [msL_get hi]; exact h2⟩)
      omega
  · intro h l hln x hx
    obtain ⟨i, hi, hs, h1, h2⟩ := (aheadUp_test _ _ _ _ _ _).1 hx
    rw [hml] at hi
    have hl := hv.len _ (List.getElem_mem hi)
    rw [msL_get hi] at h1 h2
    have := h i (List.mem_range.2 hi)
    rw [showsOf_eq hi, hs] at this
    simp only at this
    rw [stp_empty hp hl (hv.shows _ (List.getElem_mem hi))] at this
    simp only [Bool.not_true, Bool.false_or, Bool.not_eq_true', decide_eq_false_iff_not] at this
    exact (stO_ok (f := f) hp hl).1 (by omega) l x h1 h2

theorem ordS_dec {xs : List (ByteArray × Int)} {cs : List (ByteArray × List Int)} (hv : Valid xs cs) (set : Nat) : (ordS xs cs set).map (decO xs.length) = (allL xs).filter (okS cs set) := by
  have hk : ∀ k ∈ xs.map Prod.snd, 0 ≤ k ∧ k ≤ 2 := fun k h => by
    obtain ⟨x, hx, rfl⟩ := List.mem_map.1 h
    exact hv.fst x hx
  have hf := ffirst_all _ hk
  rw [List.length_map] at hf
  unfold ordS ordersL allL
  rw [← hf, List.flatMap_map, List.map_flatMap, List.filter_flatMap]
  congr 1
  funext f
  have hr := ford_rows (n := xs.length) (aheadL xs.length (msL cs) set f (msL cs).length) xs.length [] rfl
  rw [show bitsO [] = 0 from rfl] at hr
  rw [hr, List.filter_map, List.map_map]
  have e : (rowsR xs.length xs.length []).filter (okL (aheadL xs.length (msL cs) set f (msL cs).length)) = (rowsR xs.length xs.length []).filter (okS cs set ∘ fun b => (bitsF xs.length f, natsV b)) := by
    apply List.filter_congr
    intro os hos
    exact okL_okS hv set f (rowsR_perm hos)
  rw [e]
  apply List.map_congr_left
  intro os hos
  have hp := rowsR_perm (List.mem_filter.1 hos).1
  simp only [Function.comp, decO, take_pad5 hp.len]
end Go.Ab.StF

namespace Go.Ab.StF
open Go Go.Ab Go.Proofs

/-! ### What the document says -/

/-- The copies that do not agree with an order. -/
def amidL (cs : List (ByteArray × List Int)) (o : List Int × List Int) : List Nat := (List.range cs.length).filter fun i => (stpL (showsOf cs i) o.1 o.2).isEmpty
/-- The orders that agree. -/
def agrL (xs : List (ByteArray × Int)) (cs : List (ByteArray × List Int)) : List (List Int × List Int) := (allL xs).filter fun o => (amidL cs o).isEmpty

def askR (xs : List (ByteArray × Int)) (cs : List (ByteArray × List Int)) (many : Int) (ns : List Int) : Int :=
  if (chk xs cs).2.2 ≠ 0 then (chk xs cs).2.2 else if ns.any (outB 0 (many - 1)) then 4 else if (agrL xs cs).isEmpty then 9 else 0

def sameL (other : Int) : List Int → Int
  | [] => 0
  | x :: l => if l.all (· == x) then x else other

def firstS (xs : List (ByteArray × Int)) (cs : List (ByteArray × List Int)) : (List Int × List Int) × Int × Int :=
  if askR xs cs 0 [] ≠ 0 then (([], []), 0, askR xs cs 0 []) else ((agrL xs cs).headD ([], []), (agrL xs cs).length, 0)

def readS (xs : List (ByteArray × Int)) (cs : List (ByteArray × List Int)) (j : Int) : Int × Int :=
  if askR xs cs xs.length [j] ≠ 0 then (0, askR xs cs xs.length [j]) else (sameL 0 ((agrL xs cs).map fun o => o.1.getD j.toNat 0), 0)

def befN (xs : List (ByteArray × Int)) (cs : List (ByteArray × List Int)) (a b : Int) : Nat := ((agrL xs cs).filter fun o => decide (plc o.2 a < plc o.2 b)).length

def befS (xs : List (ByteArray × Int)) (cs : List (ByteArray × List Int)) (a b : Int) : Int × Int :=
  if (chk xs cs).2.2 = 0 ∧ inB a 0 ((xs.length : Int) - 1) = true ∧ a = b then (0, 2) else if askR xs cs xs.length [a, b] ≠ 0 then (0, askR xs cs xs.length [a, b]) else
  (verd ((befN xs cs a b : Int) == (agrL xs cs).length) (((agrL xs cs).length : Int) - befN xs cs a b == (agrL xs cs).length), 0)

/-- The least and the greatest number of corrections after which a copy can be printed. -/
def endsS (cs : List (ByteArray × List Int)) (i : Nat) (o : List Int × List Int) : Nat × Nat := ((stpL (showsOf cs i) o.1 o.2).headD 0, (stpL (showsOf cs i) o.1 o.2).getLastD 0)

def earN (xs : List (ByteArray × Int)) (cs : List (ByteArray × List Int)) (a b : Int) : Nat := ((agrL xs cs).filter fun o => decide ((endsS cs a.toNat o).2 < (endsS cs b.toNat o).1)).length

def earS (xs : List (ByteArray × Int)) (cs : List (ByteArray × List Int)) (a b : Int) : Int × Int :=
  if askR xs cs cs.length [a, b] ≠ 0 then (0, askR xs cs cs.length [a, b]) else
  (verd ((earN xs cs a b : Int) == (agrL xs cs).length) ((earN xs cs b a : Int) == (agrL xs cs).length), 0)

def aftS (xs : List (ByteArray × Int)) (cs : List (ByteArray × List Int)) (i : Int) : (Int × Int) × Int :=
  if askR xs cs cs.length [i] ≠ 0 then ((0, 0), askR xs cs cs.length [i]) else
  let s := ((agrL xs cs).map (endsS cs i.toNat)).tail.foldl (fun s e => (min s.1 e.1, max s.2 e.2)) (((agrL xs cs).map (endsS cs i.toNat)).headD (0, 0))
  (((s.1 : Nat), (s.2 : Nat)), 0)

/-- The state after all corrections. -/
def stateS (k : Nat) (o : List Int × List Int) : List Int := (List.range o.1.length).map (atV o.1 o.2 k)

def lastS (xs : List (ByteArray × Int)) (cs : List (ByteArray × List Int)) : List Int × Int :=
  if askR xs cs 0 [] ≠ 0 then ([], askR xs cs 0 []) else ((List.range xs.length).map fun j => sameL 0 ((agrL xs cs).map fun o => atV o.1 o.2 xs.length j), 0)

/-! ### The program's orders -/

theorem amid_okS (cs : List (ByteArray × List Int)) (o : List Int × List Int) : (amidL cs o).isEmpty = okS cs (whl cs) o := by
  unfold amidL okS
  rw [Bool.eq_iff_iff, List.isEmpty_iff, List.filter_eq_nil_iff, List.all_eq_true]
  constructor
  · intro h i hi
    have := h i hi
    have hi := List.mem_range.1 hi
    rw [whl, Nat.testBit_two_pow_sub_one]
    simp only [hi, decide_true, Bool.not_true, Bool.false_or]
    simpa using this
  · intro h i hi hk
    have := h i hi
    have hi := List.mem_range.1 hi
    rw [whl, Nat.testBit_two_pow_sub_one] at this
    simp only [hi, decide_true, Bool.not_true, Bool.false_or] at this
    rw [hk] at this
    cases this

theorem ordS_agr {xs : List (ByteArray × Int)} {cs : List (ByteArray × List Int)} (hv : Valid xs cs) : (ordS xs cs (whl cs)).map (decO xs.length) = agrL xs cs := by
  rw [ordS_dec hv]
  unfold agrL
  congr 1
  funext o
  rw [amid_okS]

/-- What an order of the program is like. -/
structure OrdP (n : Nat) (p : Nat × List Nat) (os : List Nat) : Prop where
  perm : Perm n os
  pad : p.2 = pad5 os

theorem ordS_perm {xs : List (ByteArray × Int)} {cs : List (ByteArray × List Int)} {set : Nat} : ∀ p ∈ ordS xs cs set, ∃ os, OrdP xs.length p os := fun p hp => by
  simp only [ordS, ordersL, List.mem_flatMap, List.mem_map] at hp
  obtain ⟨f, hf, os, hos, rfl⟩ := hp
  have hr := ford_rows (n := xs.length) (aheadL xs.length (msL cs) set f (msL cs).length) xs.length [] rfl
  rw [show bitsO [] = 0 from rfl] at hr
  rw [hr] at hos
  exact ⟨os, rowsR_perm (List.mem_filter.1 hos).1, rfl⟩

theorem OrdP.dec {n : Nat} {p : Nat × List Nat} {os : List Nat} (h : OrdP n p os) : decO n p = (bitsF n p.1, natsV os) := by
  unfold decO
  rw [h.pad, take_pad5 h.perm.len]

/-- From the program's orders to the document's. -/
theorem map_agr {xs : List (ByteArray × Int)} {cs : List (ByteArray × List Int)} (hv : Valid xs cs) {α : Type} {g : Nat × List Nat → α} {G : List Int × List Int → α}
    (h : ∀ p ∈ ordS xs cs (whl cs), ∀ os, OrdP xs.length p os → g p = G (bitsF xs.length p.1, natsV os)) : (ordS xs cs (whl cs)).map g = (agrL xs cs).map G := by
  rw [← ordS_agr hv, List.map_map]
  apply List.map_congr_left
  intro p hp
  obtain ⟨os, hos⟩ := ordS_perm p hp
  rw [Function.comp, hos.dec]
  exact h p hp os hos

theorem empty_agr {xs : List (ByteArray × Int)} {cs : List (ByteArray × List Int)} (hv : Valid xs cs) : emptyB (ordS xs cs (whl cs)) = (agrL xs cs).isEmpty := by
  rw [← ordS_agr hv]
  cases ordS xs cs (whl cs) <;> rfl

theorem askE_eq (xs : List (ByteArray × Int)) (cs : List (ByteArray × List Int)) (many : Int) (ns : List Int) : askE xs cs many ns = askR xs cs many ns := by
  unfold askE askR
  by_cases hk : (chk xs cs).2.2 = 0
  · rw [empty_agr (chk_valid hk)]
  · rw [if_pos hk, if_pos hk]

theorem agr_perm {xs : List (ByteArray × Int)} {cs : List (ByteArray × List Int)} (hv : Valid xs cs) : ∀ o ∈ agrL xs cs, ∃ p ∈ ordS xs cs (whl cs), ∃ os, OrdP xs.length p os ∧ o = (bitsF xs.length p.1, natsV os) := fun o ho => by
  rw [← ordS_agr hv] at ho
  obtain ⟨p, hp, rfl⟩ := List.mem_map.1 ho
  obtain ⟨os, hos⟩ := ordS_perm p hp
  exact ⟨p, hp, os, hos, hos.dec⟩

theorem aliV_some (other : Int) : ∀ (l : List Int) (s : Int), aliV other l (some s) = if l.all (· == s) then s else other
  | [], s => rfl
  | x :: l, s => by
    simp only [aliV, List.all_cons]
    by_cases h : x = s
    · subst h
      rw [aliV_some other l x]
      simp
    · have h1 : (x != s) = true := by simpa using h
      have h2 : (x == s) = false := by simpa using h
      simp only [h1, h2, Bool.false_and, if_true, Bool.false_eq_true, if_false]

theorem aliV_same (other : Int) (l : List Int) : aliV other l none = sameL other l := by
  cases l with
  | nil => rfl
  | cons x l => show aliV other l (some x) = _; rw [aliV_some]; rfl

theorem ask_valid {xs : List (ByteArray × Int)} {cs : List (ByteArray × List Int)} {many : Int} {ns : List Int} (h : askR xs cs many ns = 0) : Valid xs cs ∧ (∀ n ∈ ns, 0 ≤ n ∧ n < many) ∧ agrL xs cs ≠ [] := by
  unfold askR at h
  split at h
  · rename_i h1; exact absurd h h1
  · rename_i h1
    split at h
    · cases h
    · rename_i h2
      split at h
      · cases h
      · rename_i h3
        refine ⟨chk_valid (by simpa using h1), fun n hn => ?_, fun e => h3 (by rw [e]; rfl)⟩
        have h2 := Bool.eq_false_iff.2 h2
        rw [List.any_eq_false] at h2
        have := h2 n hn
        simp [outB] at this; omega

theorem read_eq (xs : List (ByteArray × Int)) (cs : List (ByteArray × List Int)) (j : Int) : readR xs cs j = readS xs cs j := by
  unfold readR readS
  rw [askE_eq]
  by_cases hk : askR xs cs xs.length [j] = 0
  · obtain ⟨hv, hn, _⟩ := ask_valid hk
    obtain ⟨h0, h1⟩ := hn j (by simp)
    rw [if_neg (by rw [hk]; simp), if_neg (by rw [hk]; simp), aliV_same]
    congr 2
    apply map_agr hv
    intro p hp os hos
    show rdV j.toNat p = (bitsF xs.length p.1).getD j.toNat 0
    rw [bitsF_get (by omega)]
    rfl
  · rw [if_pos hk, if_pos hk]

theorem last_eq (xs : List (ByteArray × Int)) (cs : List (ByteArray × List Int)) : lastR xs cs = lastS xs cs := by
  unfold lastR lastS
  rw [askE_eq]
  by_cases hk : askR xs cs 0 [] = 0
  · obtain ⟨hv, _, _⟩ := ask_valid hk
    rw [if_neg (by rw [hk]; simp), if_neg (by rw [hk]; simp)]
    congr 1
    unfold lastUp
    apply List.map_congr_left
    intro j hj
    have hj := List.mem_range.1 hj
    rw [aliV_same]
    congr 1
    apply map_agr hv
    intro p hp os hos
    show lsV j p = atV (bitsF xs.length p.1) (natsV os) xs.length j
    have := List.idxOf_lt_length_of_mem (hos.perm.mem hj)
    rw [hos.perm.len] at this
    unfold atV
    rw [plc_nats, if_pos this, bitsF_get hj]
    unfold lsV
    cases p.1.testBit j <;> rfl
  · rw [if_pos hk, if_pos hk]

theorem first_eq (xs : List (ByteArray × Int)) (cs : List (ByteArray × List Int)) : firstR xs cs = firstS xs cs := by
  unfold firstR firstS
  rw [askE_eq]
  by_cases hk : askR xs cs 0 [] = 0
  · obtain ⟨hv, _, hne⟩ := ask_valid hk
    rw [if_neg (by rw [hk]; simp), if_neg (by rw [hk]; simp)]
    rw [← ordS_agr hv] at hne ⊢
    cases ho : ordS xs cs (whl cs) with
    | nil => rw [ho] at hne; exact absurd rfl hne
    | cons p l =>
      simp only [List.map_cons, List.headD_cons, List.length_cons, List.length_map]
      rfl
  · rw [if_pos hk, if_pos hk]

theorem count_all {α : Type} (p : α → Bool) (l : List α) : ((l.filter p).length : Int) == (l.length : Int) ↔ l.all p = true := by
  rw [beq_iff_eq, Int.natCast_inj, List.length_filter_eq_length_iff, List.all_eq_true]

/-- Verdicts, each one given. -/
theorem verd_all {α : Type} (u v : α → Bool) (h : ∀ a, ¬ (u a = true ∧ v a = true)) : ∀ (l : List α), l ≠ [] → sameL 0 (l.map fun a => verd (u a) (v a)) = verd (l.all u) (l.all v)
  | [], h => absurd rfl h
  | a :: l, _ => by
    simp only [List.map_cons, sameL, List.all_cons]
    have hx : ∀ b, verd (u b) (v b) = 1 ↔ u b = true := fun b => by
      have := h b
      cases hu : u b <;> cases hw : v b <;> simp [verd, hu, hw] at this ⊢
    have hy : ∀ b, verd (u b) (v b) = 2 ↔ v b = true := fun b => by
      have := h b
      cases hu : u b <;> cases hw : v b <;> simp [verd, hu, hw] at this ⊢
    have hall : ∀ (c : Int) (w : α → Bool), (∀ b, verd (u b) (v b) = c ↔ w b = true) → (List.map (fun a => verd (u a) (v a)) l).all (· == c) = l.all w := fun c w hw => by
      rw [List.all_map, Bool.eq_iff_iff, List.all_eq_true, List.all_eq_true]
      constructor
      · intro g b hb; exact (hw b).1 (by simpa using g b hb)
      · intro g b hb; simpa using (hw b).2 (g b hb)
    cases hu : u a
    · cases hw : v a
      · simp [verd]
      · have e : verd false true = 2 := rfl
        rw [e, hall 2 v hy]
        simp [verd]
    · have hw : v a = false := by
        have := h a; rw [hu] at this; simpa using this
      rw [hw]
      have e : verd true false = 1 := rfl
      rw [e, hall 1 u hx]
      simp [verd]

theorem idx_nats {os : List Nat} {n : Nat} {a : Nat} (hp : Perm n os) (ha : a < n) : idx (fun x => (a : Int) == x) (natsV os) 0 = (os.idxOf a : Nat) := by
  have : ∀ (os : List Nat) (i : Nat), a ∈ os → idx (fun x => (a : Int) == x) (natsV os) i = ((i + os.idxOf a : Nat) : Int) := fun os => by
    induction os with
    | nil => intro i h; cases h
    | cons k os ih =>
      intro i h
      rw [List.idxOf_cons]
      simp only [natsV, List.map_cons, idx]
      by_cases hk : k = a
      · subst hk; simp
      · have h1 : ((a : Int) == (k : Int)) = false := beq_eq_false_iff_ne.2 (by omega)
        have h2 : (k == a) = false := by simpa using hk
        rw [h1, h2]
        simp only [Bool.false_eq_true, if_false, cond_false]
        rcases List.mem_cons.1 h with h | h
        · exact absurd h.symm hk
        · have := ih (i + 1) h
          simp only [natsV] at this
          rw [this]
          congr 1; omega
  have := this os 0 (hp.mem ha)
  rw [Nat.zero_add] at this
  exact this

theorem bef_eq (xs : List (ByteArray × Int)) (cs : List (ByteArray × List Int)) (a b : Int) : befR xs cs a b = befS xs cs a b := by
  unfold befR befS
  by_cases hc : (chk xs cs).2.2 = 0
  · rw [if_neg (by rw [hc]; simp)]
    by_cases hn : [a, b].any (outB 0 ((xs.length : Int) - 1)) = true
    · rw [if_pos hn]
      have hask : askR xs cs xs.length [a, b] = 4 := by unfold askR; rw [if_neg (by rw [hc]; simp), if_pos hn]
      rw [if_neg, if_pos (by rw [hask]; decide), hask]
      rintro ⟨_, h1, rfl⟩
      simp [outB, inB] at hn h1
      omega
    · rw [if_neg hn]
      have hn := Bool.eq_false_iff.2 hn
      simp [outB] at hn
      obtain ⟨⟨a0, a1⟩, b0, b1⟩ := hn
      by_cases hab : a = b
      · subst hab
        rw [if_pos (by simp), if_pos ⟨hc, by simp [inB]; omega, rfl⟩]
      · rw [if_neg (show ¬ ((a == b) = true) by simpa using hab), if_neg (show ¬ ((chk xs cs).2.2 = 0 ∧ inB a 0 ((xs.length : Int) - 1) = true ∧ a = b) from fun h => hab h.2.2), askE_eq]
        have e : askR xs cs xs.length [a, b] = askR xs cs 0 [] := by
          unfold askR
          have e0 : ([] : List Int).any (outB 0 (0 - 1)) = false := rfl
          have e1 : [a, b].any (outB 0 ((xs.length : Int) - 1)) = false := by simpa using hn
          rw [e0, e1]
        rw [e]
        by_cases hk : askR xs cs 0 [] = 0
        · rw [if_neg (by rw [hk]; simp), if_neg (by rw [hk]; simp), aliV_same]
          obtain ⟨hv, _, hne⟩ := ask_valid hk
          congr 1
          obtain ⟨i, rfl⟩ : ∃ i : Nat, a = i := ⟨a.toNat, by omega⟩
          obtain ⟨k, rfl⟩ : ∃ k : Nat, b = k := ⟨b.toNat, by omega⟩
          have hm := map_agr hv (g := befV xs.length i k) (G := fun o => verd (decide (plc o.2 i < plc o.2 k)) (decide (plc o.2 k < plc o.2 i))) fun p hp os hos => by
            unfold befV
            rw [hos.pad, take_pad5 hos.perm.len, idx_nats hos.perm (by omega), idx_nats hos.perm (by omega)]
            simp only [plc_nats]
            congr 1 <;> exact decide_eq_decide.2 (by omega)
          rw [hm, verd_all (fun o => decide (plc o.2 i < plc o.2 k)) (fun o => decide (plc o.2 k < plc o.2 i)) (fun o => by simp; omega) _ hne]
          congr 1
          · rw [Bool.eq_iff_iff]
            exact (count_all _ _).symm
          · have hp : (agrL xs cs).all (fun o => decide (plc o.2 k < plc o.2 i)) = (agrL xs cs).all (fun o => !decide (plc o.2 i < plc o.2 k)) := by
              rw [Bool.eq_iff_iff, List.all_eq_true, List.all_eq_true]
              have hne : ∀ o ∈ agrL xs cs, plc o.2 i ≠ plc o.2 k := fun o ho => by
                obtain ⟨p, _, os, hos, rfl⟩ := agr_perm hv o ho
                simp only [plc_nats]
                intro e
                have h1 := hos.perm.get' (x := i) (by omega)
                have h2 := hos.perm.get' (x := k) (by omega)
                rw [e, h2] at h1
                exact hab (by rw [Option.some.inj h1])
              constructor
              · intro h o ho; have := h o ho; simp at this ⊢; omega
              · intro h o ho; have := h o ho; have := hne o ho; simp at *; omega
            rw [hp, Bool.eq_iff_iff, List.all_eq_true]
            have h1 : (befN xs cs i k : Int) + ((agrL xs cs).filter fun o => !decide (plc o.2 i < plc o.2 k)).length = (agrL xs cs).length := by
              have := List.length_eq_countP_add_countP (fun o : List Int × List Int => decide (plc o.2 i < plc o.2 k)) (l := agrL xs cs)
              rw [List.countP_eq_length_filter, List.countP_eq_length_filter] at this
              unfold befN
              have e2 : (fun o : List Int × List Int => decide ¬(decide (plc o.2 i < plc o.2 k) = true)) = fun o => !decide (plc o.2 i < plc o.2 k) := by funext o; cases decide (plc o.2 i < plc o.2 k) <;> rfl
              rw [e2] at this
              omega
            have h2 := (count_all (fun o : List Int × List Int => !decide (plc o.2 i < plc o.2 k)) (agrL xs cs))
            rw [List.all_eq_true] at h2
            rw [← h2, beq_iff_eq, beq_iff_eq]
            omega
        · rw [if_pos hk, if_pos hk]
  · have hask : askR xs cs xs.length [a, b] = (chk xs cs).2.2 := by unfold askR; rw [if_pos hc]
    rw [if_pos hc, if_neg (fun h => hc h.1), hask, if_pos hc]

/-! ### When copies were printed -/

theorem agr_ok {xs : List (ByteArray × Int)} {cs : List (ByteArray × List Int)} {o : List Int × List Int} (ho : o ∈ agrL xs cs) {i : Nat} (hi : i < cs.length) : stpL (showsOf cs i) o.1 o.2 ≠ [] := by
  have h := (List.mem_filter.1 ho).2
  intro e
  have : i ∈ amidL cs o := List.mem_filter.2 ⟨List.mem_range.2 hi, by rw [e]; rfl⟩
  rw [List.isEmpty_iff.1 h] at this
  cases this

theorem ends_eq {xs : List (ByteArray × Int)} {cs : List (ByteArray × List Int)} (hv : Valid xs cs) {p : Nat × List Nat} {os : List Nat} (hos : OrdP xs.length p os) (ho : (bitsF xs.length p.1, natsV os) ∈ agrL xs cs) {i : Nat} (hi : i < cs.length) :
    stS xs cs i p = endsS cs i (bitsF xs.length p.1, natsV os) ∧ (stS xs cs i p).1 ≤ (stS xs cs i p).2 ∧ (stS xs cs i p).2 ≤ xs.length := by
  have hl := hv.len _ (List.getElem_mem hi)
  have hs := hv.shows _ (List.getElem_mem hi)
  have hne := agr_ok ho hi
  have e : stS xs cs i p = stO xs.length (showsOf cs i) p.1 os := by
    unfold stS stO
    rw [msL_get hi, showsOf_eq hi, hos.pad]
  have h2 := stp_eq (f := p.1) hos.perm hl hs
  rw [← showsOf_eq hi] at h2 hl
  have h3 := stO_le (f := p.1) hos.perm hl
  simp only at hne
  rw [h2] at hne
  rw [e]
  generalize hS : stO xs.length (showsOf cs i) p.1 os = S at *
  have hle : S.1 ≤ S.2 := by
    apply Classical.byContradiction
    intro h
    apply hne
    rw [List.range'_eq_nil_iff]; omega
  refine ⟨?_, hle, h3⟩
  unfold endsS
  rw [h2]
  obtain ⟨m, hm⟩ : ∃ m, S.2 + 1 - S.1 = m + 1 := ⟨S.2 - S.1, by omega⟩
  rw [hm]
  apply Prod.ext
  · rw [List.range'_succ]; rfl
  · rw [List.range'_1_concat]
    simp
    omega

theorem ear_eq (xs : List (ByteArray × Int)) (cs : List (ByteArray × List Int)) (a b : Int) : earR xs cs a b = earS xs cs a b := by
  unfold earR earS
  rw [askE_eq]
  by_cases hk : askR xs cs cs.length [a, b] = 0
  · obtain ⟨hv, hn, hne⟩ := ask_valid hk
    obtain ⟨a0, a1⟩ := hn a (by simp)
    obtain ⟨b0, b1⟩ := hn b (by simp)
    rw [if_neg (by rw [hk]; simp), if_neg (by rw [hk]; simp), aliV_same]
    congr 1
    obtain ⟨i, rfl⟩ : ∃ i : Nat, a = i := ⟨a.toNat, by omega⟩
    obtain ⟨k, rfl⟩ : ∃ k : Nat, b = k := ⟨b.toNat, by omega⟩
    simp only [earN, Int.toNat_natCast]
    have hin : ∀ p ∈ ordS xs cs (whl cs), ∀ os, OrdP xs.length p os → (bitsF xs.length p.1, natsV os) ∈ agrL xs cs := fun p hp os hos => by
      rw [← ordS_agr hv, ← hos.dec]; exact List.mem_map_of_mem hp
    have hbad : ∀ o ∈ agrL xs cs, ¬ ((endsS cs i o).2 < (endsS cs k o).1 ∧ (endsS cs k o).2 < (endsS cs i o).1) := fun o ho => by
      obtain ⟨p, hp, os, hos, rfl⟩ := agr_perm hv o ho
      obtain ⟨e1, l1, _⟩ := ends_eq hv hos ho (i := i) (by omega)
      obtain ⟨e2, l2, _⟩ := ends_eq hv hos ho (i := k) (by omega)
      rw [← e1, ← e2]; omega
    have hm := map_agr hv (g := earV xs cs i k) (G := fun o => verd (decide ((endsS cs i o).2 < (endsS cs k o).1)) (decide ((endsS cs k o).2 < (endsS cs i o).1) && !decide ((endsS cs i o).2 < (endsS cs k o).1))) fun p hp os hos => by
      unfold earV
      rw [(ends_eq hv hos (hin p hp os hos) (i := i) (by omega)).1, (ends_eq hv hos (hin p hp os hos) (i := k) (by omega)).1]
      cases decide ((endsS cs i (bitsF xs.length p.1, natsV os)).2 < (endsS cs k (bitsF xs.length p.1, natsV os)).1) <;> simp [verd]
    rw [hm, verd_all (fun o => decide ((endsS cs i o).2 < (endsS cs k o).1)) (fun o => decide ((endsS cs k o).2 < (endsS cs i o).1) && !decide ((endsS cs i o).2 < (endsS cs k o).1)) (fun o h => by simp at h; omega) _ hne]
    congr 1
    · rw [Bool.eq_iff_iff]; exact (count_all _ _).symm
    · rw [Bool.eq_iff_iff, count_all, List.all_eq_true, List.all_eq_true]
      constructor
      · intro h o ho; have := h o ho; simp at this ⊢; omega
      · intro h o ho; have := h o ho; have := hbad o ho; simp at *; omega
  · rw [if_pos hk, if_pos hk]

theorem aft_eq (xs : List (ByteArray × Int)) (cs : List (ByteArray × List Int)) (a : Int) : aftR xs cs a = aftS xs cs a := by
  unfold aftR aftS
  rw [askE_eq]
  by_cases hk : askR xs cs cs.length [a] = 0
  · obtain ⟨hv, hn, hne⟩ := ask_valid hk
    obtain ⟨a0, a1⟩ := hn a (by simp)
    rw [if_neg (by rw [hk]; simp), if_neg (by rw [hk]; simp)]
    obtain ⟨i, rfl⟩ : ∃ i : Nat, a = i := ⟨a.toNat, by omega⟩
    simp only [Int.toNat_natCast]
    have hin : ∀ p ∈ ordS xs cs (whl cs), ∀ os, OrdP xs.length p os → (bitsF xs.length p.1, natsV os) ∈ agrL xs cs := fun p hp os hos => by
      rw [← ordS_agr hv, ← hos.dec]; exact List.mem_map_of_mem hp
    have hm := map_agr hv (g := stS xs cs i) (G := endsS cs i) fun p hp os hos => (ends_eq hv hos (hin p hp os hos) (i := i) (by omega)).1
    rw [← hm]
    have hg : ∀ (l : List (Nat × List Nat)) (s : Nat × Nat), aftV xs cs i l s = (l.map (stS xs cs i)).foldl (fun s e => (min s.1 e.1, max s.2 e.2)) s := fun l => by
      induction l with
      | nil => intro s; rfl
      | cons p l ih => intro s; rw [aftV, ih]; rfl
    rw [hg]
    cases ho : ordS xs cs (whl cs) with
    | nil => rw [ordS_agr hv |>.symm, ho] at hne; exact absurd rfl hne
    | cons p l =>
      have hp : p ∈ ordS xs cs (whl cs) := by rw [ho]; exact List.mem_cons_self ..
      obtain ⟨os, hos⟩ := ordS_perm p hp
      obtain ⟨_, h1, h2⟩ := ends_eq hv hos (hin p hp os hos) (i := i) (by omega)
      simp only [List.map_cons, List.foldl_cons, List.tail_cons, List.headD_cons]
      have e : (min xs.length (stS xs cs i p).1, max 0 (stS xs cs i p).2) = stS xs cs i p := by
        apply Prod.ext
        · simp only; omega
        · simp only; omega
      rw [e]
  · rw [if_pos hk, if_pos hk]
end Go.Ab.StF

namespace Go.Ab.StF
open Go Go.Ab Go.Proofs

/-- The error of an order, as the document says. -/
def ordE (xs : List (ByteArray × Int)) (fs os : List Int) : Int :=
  if (fs.length : Int) != (xs.length : Int) || (os.length : Int) != (xs.length : Int) then 3 else
  if (List.range xs.length).any (fun i => !inB (fs.getD i 0) 1 2 || !inB (os.getD i 0) 0 ((xs.length : Int) - 1)) then 7 else
  if (List.range xs.length).any (fun i => (os.take i).any fun x => x == os.getD i 0) then 5 else
  if (List.range xs.length).any (fun i => (xs.getD i (ByteArray.empty, 0)).2 != 0 && (xs.getD i (ByteArray.empty, 0)).2 != fs.getD i 0) then 2 else 0

def oddS (xs : List (ByteArray × Int)) (cs : List (ByteArray × List Int)) (fs os : List Int) : List Int × Int :=
  if (chk xs cs).2.2 ≠ 0 then ([], (chk xs cs).2.2) else if ordE xs fs os ≠ 0 then ([], ordE xs fs os) else (natsV (amidL cs (fs, os)), 0)

theorem getD_e {α : Type} {xs : List α} {d : α} {i : Nat} (h : i < xs.length) : xs.getD i d = xs[i] := by
  rw [List.getD_eq_getElem?_getD, List.getElem?_eq_getElem h]; rfl

theorem any_range {α : Type} (l : List α) (d : α) (p : α → Bool) : l.any p = (List.range l.length).any fun i => p (l.getD i d) := by
  rw [Bool.eq_iff_iff, List.any_eq_true, List.any_eq_true]
  constructor
  · rintro ⟨x, hx, h⟩
    obtain ⟨i, hi, rfl⟩ := List.mem_iff_getElem.1 hx
    exact ⟨i, List.mem_range.2 hi, by rw [getD_e hi]; exact h⟩
  · rintro ⟨i, hi, h⟩
    have hi := List.mem_range.1 hi
    rw [getD_e hi] at h
    exact ⟨_, List.getElem_mem hi, h⟩

theorem any_or {α : Type} (l : List α) (p q : α → Bool) : l.any (fun x => p x || q x) = (l.any p || l.any q) := by
  induction l with
  | nil => rfl
  | cons a l ih =>
    simp only [List.any_cons, ih]
    cases p a <;> cases q a <;> cases l.any p <;> rfl

theorem out_in (lo hi x : Int) : outB lo hi x = !inB x lo hi := by
  unfold outB inB
  rw [Bool.eq_iff_iff]; simp

theorem metL_bits (os : List Int) : metL os = bitsO (os.map Int.toNat) := by
  unfold metL bitsO
  rw [List.foldl_map]

/-- Each locus once, or one twice. -/
theorem met_dup {os : List Int} {n : Nat} (hl : os.length = n) (hk : ∀ k ∈ os, 0 ≤ k ∧ k < (n : Int)) :
    (metL os ≠ 2 ^ n - 1) ↔ (List.range n).any (fun i => (os.take i).any fun x => x == os.getD i 0) = true := by
  have hlt : ∀ k ∈ os.map Int.toNat, k < n := fun k h => by
    obtain ⟨q, hq, rfl⟩ := List.mem_map.1 h
    have := hk q hq; omega
  constructor
  · intro h
    apply Classical.byContradiction
    intro hn
    have hn := Bool.eq_false_iff.2 hn
    rw [List.any_eq_false] at hn
    apply h
    have hnd : os.Nodup := by
      rw [List.nodup_iff_pairwise_ne, List.pairwise_iff_getElem]
      intro i j hi hj hij he
      have := hn j (List.mem_range.2 (by omega))
      rw [getD_e hj] at this
      apply this
      rw [List.any_eq_true]
      exact ⟨os[i], List.mem_take_iff_getElem.2 ⟨i, by omega, rfl⟩, by simpa using he⟩
    have hp : Perm n (os.map Int.toNat) := by
      refine ⟨?_, hlt, by simpa using hl⟩
      rw [List.nodup_iff_pairwise_ne, List.pairwise_iff_getElem] at hnd ⊢
      intro i j hi hj hij he
      rw [List.getElem_map, List.getElem_map] at he
      have hi' : i < os.length := by simpa using hi
      have hj' : j < os.length := by simpa using hj
      have h1 := hk os[i] (List.getElem_mem hi')
      have h2 := hk os[j] (List.getElem_mem hj')
      exact hnd i j hi' hj' hij (by omega)
    rw [metL_bits]
    apply Nat.eq_of_testBit_eq
    intro j
    rw [bitsO_test, Nat.testBit_two_pow_sub_one, Bool.eq_iff_iff, List.contains_iff_mem, decide_eq_true_eq]
    exact ⟨fun h => hlt j h, fun h => hp.mem h⟩
  · intro h hm
    rw [List.any_eq_true] at h
    obtain ⟨i, hi, h⟩ := h
    have hi : i < n := List.mem_range.1 hi
    rw [List.any_eq_true] at h
    obtain ⟨x, hx, h⟩ := h
    have hio : i < os.length := by omega
    rw [getD_e hio] at h
    have hx' : os[i] ∈ os.take i := by
      have : x = os[i] := by simpa using h
      rw [← this]; exact hx
    have hsub : List.range n ⊆ (os.take i ++ os.drop (i + 1)).map Int.toNat := fun j hj => by
      have hj := List.mem_range.1 hj
      have hb : (metL os).testBit j = true := by rw [hm, Nat.testBit_two_pow_sub_one]; simpa using hj
      rw [metL_bits, bitsO_test, List.contains_iff_mem] at hb
      obtain ⟨q, hq, rfl⟩ := List.mem_map.1 hb
      apply List.mem_map_of_mem
      have e : os = os.take i ++ os[i] :: os.drop (i + 1) := by rw [← List.drop_eq_getElem_cons hio, List.take_append_drop]
      rw [e] at hq
      rcases List.mem_append.1 hq with hq | hq
      · exact List.mem_append_left _ hq
      · rcases List.mem_cons.1 hq with rfl | hq
        · exact List.mem_append_left _ hx'
        · exact List.mem_append_right _ hq
    have := List.Nodup.length_le_of_subset List.nodup_range hsub
    simp at this
    omega

theorem arg_any {xs : List (ByteArray × Int)} {fs : List Int} (hl : fs.length = xs.length) :
    argE xs fs 0 = (List.range xs.length).any (fun i => (xs.getD i (ByteArray.empty, 0)).2 != 0 && (xs.getD i (ByteArray.empty, 0)).2 != fs.getD i 0) := by
  unfold argE
  rw [List.drop_zero, any_range _ ((ByteArray.empty, 0), 0)]
  have e : (xs.zip fs).length = xs.length := by simp [hl]
  rw [e, Bool.eq_iff_iff, List.any_eq_true, List.any_eq_true]
  have hg : ∀ i, i < xs.length → (xs.zip fs).getD i ((ByteArray.empty, 0), 0) = (xs.getD i (ByteArray.empty, 0), fs.getD i 0) := fun i hi => by
    rw [getD_e (by omega), getD_e hi, getD_e (by omega), List.getElem_zip]
  constructor
  · rintro ⟨i, hi, h⟩
    rw [hg i (List.mem_range.1 hi)] at h
    exact ⟨i, hi, h⟩
  · rintro ⟨i, hi, h⟩
    refine ⟨i, hi, ?_⟩
    rw [hg i (List.mem_range.1 hi)]
    exact h

theorem ent_ord (xs : List (ByteArray × Int)) (fs os : List Int) : entE xs fs os = ordE xs fs os := by
  unfold entE ordE
  by_cases h1 : ((fs.length : Int) != (xs.length : Int) || (os.length : Int) != (xs.length : Int)) = true
  · rw [if_pos h1, if_pos h1]
  · rw [if_neg h1, if_neg h1]
    simp at h1
    have hf : fs.length = xs.length := by omega
    have ho : os.length = xs.length := by omega
    have h7 : (List.range xs.length).any (fun i => !inB (fs.getD i 0) 1 2 || !inB (os.getD i 0) 0 ((xs.length : Int) - 1)) = (fs.any (outB 1 2) || os.any (outB 0 ((xs.length : Int) - 1))) := by
      rw [any_or, any_range fs 0, any_range os 0, hf, ho]
      simp only [out_in]
    rw [h7]
    by_cases h2 : (fs.any (outB 1 2) || os.any (outB 0 ((xs.length : Int) - 1))) = true
    · rw [if_pos h2, if_pos h2]
    · rw [if_neg h2, if_neg h2]
      have h2 := Bool.eq_false_iff.2 h2
      rw [Bool.or_eq_false_iff] at h2
      have hk : ∀ k ∈ os, 0 ≤ k ∧ k < (xs.length : Int) := fun k hk => by
        have := List.any_eq_false.1 h2.2 k hk
        simp [outB] at this; omega
      have hd := met_dup ho hk
      rw [← arg_any hf]
      by_cases h3 : metL os ≠ 2 ^ xs.length - 1
      · rw [if_pos h3, if_pos (hd.1 h3)]
      · rw [if_neg h3, if_neg fun h => h3 (hd.2 h)]

/-- A given order that is one. -/
structure IsOrd (xs : List (ByteArray × Int)) (fs os : List Int) : Prop where
  fsE : fs = bitsF xs.length (mask fs 2)
  osE : os = natsV (os.map Int.toNat)
  perm : Perm xs.length (os.map Int.toNat)
  fit : ∀ i, i < xs.length → (xs.getD i (ByteArray.empty, 0)).2 = 0 ∨ (xs.getD i (ByteArray.empty, 0)).2 = fs.getD i 0

theorem bitsF_mask {fs : List Int} {n : Nat} (hl : fs.length = n) (h : ∀ v ∈ fs, v = 1 ∨ v = 2) : fs = bitsF n (mask fs 2) := by
  apply List.ext_getElem
  · rw [bitsF_len, hl]
  · intro i h1 h2
    have hv := h fs[i] (List.getElem_mem h1)
    simp only [bitsF, List.getElem_map, List.getElem_range]
    rw [mask_test 2 _ fs rfl, getD_e h1]
    rcases hv with hv | hv <;> rw [hv] <;> simp [h1]

theorem natsV_toNat {os : List Int} (h : ∀ k ∈ os, 0 ≤ k) : os = natsV (os.map Int.toNat) := by
  simp only [natsV, List.map_map]
  conv => lhs; rw [← List.map_id os]
  apply List.map_congr_left
  intro k hk
  have := h k hk
  simp; omega

theorem ord_is {xs : List (ByteArray × Int)} {fs os : List Int} (h : ordE xs fs os = 0) : IsOrd xs fs os := by
  unfold ordE at h
  split at h
  · cases h
  · rename_i h1
    split at h
    · cases h
    · rename_i h2
      split at h
      · cases h
      · rename_i h3
        split at h
        · cases h
        · rename_i h4
          simp at h1
          have hf : fs.length = xs.length := by omega
          have ho : os.length = xs.length := by omega
          have h2 := Bool.eq_false_iff.2 h2
          rw [List.any_eq_false] at h2
          have hk : ∀ k ∈ os, 0 ≤ k ∧ k < (xs.length : Int) := fun k hk => by
            obtain ⟨i, hi, rfl⟩ := List.mem_iff_getElem.1 hk
            have := h2 i (List.mem_range.2 (by omega))
            rw [getD_e hi] at this
            simp [inB] at this; omega
          have hfv : ∀ v ∈ fs, v = 1 ∨ v = 2 := fun v hv => by
            obtain ⟨i, hi, rfl⟩ := List.mem_iff_getElem.1 hv
            have := h2 i (List.mem_range.2 (by omega))
            rw [getD_e hi] at this
            simp [inB] at this; omega
          have hd := met_dup ho hk
          have hm : metL os = 2 ^ xs.length - 1 := Classical.byContradiction fun h => h3 (hd.1 h)
          refine ⟨bitsF_mask hf hfv, natsV_toNat fun k h => (hk k h).1, ⟨?_, ?_, by simpa using ho⟩, ?_⟩
          · have hsub : ∀ j, j < xs.length → j ∈ os.map Int.toNat := fun j hj => by
              have hb : (metL os).testBit j = true := by rw [hm, Nat.testBit_two_pow_sub_one]; simpa using hj
              rwa [metL_bits, bitsO_test, List.contains_iff_mem] at hb
            rw [List.nodup_iff_pairwise_ne, List.pairwise_iff_getElem]
            intro i j hi hj hij he
            apply h3
            rw [List.any_eq_true]
            have hj' : j < os.length := by simpa using hj
            have hi' : i < os.length := by simpa using hi
            refine ⟨j, List.mem_range.2 (by omega), ?_⟩
            rw [getD_e hj', List.any_eq_true]
            refine ⟨os[i], List.mem_take_iff_getElem.2 ⟨i, by omega, rfl⟩, ?_⟩
            rw [List.getElem_map, List.getElem_map] at he
            have g1 := hk os[i] (List.getElem_mem hi')
            have g2 := hk os[j] (List.getElem_mem hj')
            simp; omega
          · intro k hk'
            obtain ⟨q, hq, rfl⟩ := List.mem_map.1 hk'
            have := hk q hq; omega
          · intro i hi
            have h4 := Bool.eq_false_iff.2 h4
            have := List.any_eq_false.1 h4 i (List.mem_range.2 hi)
            simp at this
            by_cases h0 : (xs.getD i (ByteArray.empty, 0)).2 = 0
            · exact .inl h0
            · exact .inr (this h0)

theorem odd_eq (xs : List (ByteArray × Int)) (cs : List (ByteArray × List Int)) (fs os : List Int) : oddR xs cs fs os = oddS xs cs fs os := by
  unfold oddR oddS
  rw [ent_ord]
  by_cases hk : (chk xs cs).2.2 = 0
  · have hk' : ¬ ((chk xs cs).2.2 ≠ 0) := fun h => h hk
    rw [if_neg hk', if_neg hk']
    by_cases he : ordE xs fs os = 0
    · have he' : ¬ (ordE xs fs os ≠ 0) := fun h => h he
      rw [if_neg he', if_neg he']
      have hv := chk_valid hk
      have ho := ord_is he
      congr 1
      unfold oddUp amidL
      congr 1
      apply List.filter_congr
      intro i hi
      have hi := List.mem_range.1 hi
      have hl := hv.len _ (List.getElem_mem hi)
      have hs := hv.shows _ (List.getElem_mem hi)
      have h1 := stp_empty (f := mask fs 2) ho.perm hl hs
      rw [← ho.fsE, ← ho.osE] at h1
      unfold oddB
      rw [showsOf_eq hi, h1, msL_get hi]
    · rw [if_pos he, if_pos he]
  · rw [if_pos hk, if_pos hk]
end Go.Ab.StF
