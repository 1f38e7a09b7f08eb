/-
  THE STATE FAMILY, PLAIN LAW, PART E: lists compared, sets as lists, the smallest set that does; Proof and Wrong.
  THE STATE FAMILY, PLAIN LAW, PART G: Wrong and Mistaken.
-/
import Derived.Test.YtmhbchljhnfahaaDoorPlainA
import Derived.Test.YtmhbchljhnfahaaDoorRefA
namespace Go.Ab.StF
open Go Go.Ab Go.Proofs

/-! ### Lists compared -/

/-- Does a list come before another one, number by number? -/
def befL : List Int → List Int → Bool
  | [], [] => false
  | [], _ :: _ => true
  | _ :: _, [] => false
  | x :: xs, y :: ys => if x = y then befL xs ys else decide (x < y)

def ltK (a b : List Int) : Bool := decide (a.length < b.length) || (decide (a.length = b.length) && befL a b)

theorem befL_irr : ∀ a, befL a a = false
  | [] => rfl
  | x :: xs => by simp [befL, befL_irr xs]

theorem befL_trans : ∀ (a b c : List Int), befL a b = true → befL b c = true → befL a c = true
  | [], [], c, h, _ => by cases h
  | [], _ :: _, [], _, h => by cases h
  | [], _ :: _, _ :: _, _, _ => rfl
  | _ :: _, [], _, h, _ => by cases h
  | _ :: _, _ :: _, [], _, h => by cases h
  | x :: xs, y :: ys, z :: zs, h1, h2 => by
    simp only [befL] at h1 h2 ⊢
    by_cases e1 : x = y
    · subst e1
      rw [if_pos rfl] at h1
      by_cases e2 : x = z
      · rw [if_pos e2] at h2 ⊢; exact befL_trans _ _ _ h1 h2
      · rw [if_neg e2] at h2 ⊢; exact h2
    · rw [if_neg e1] at h1
      have h1 := of_decide_eq_true h1
      by_cases e2 : y = z
      · subst e2; rw [if_neg e1]; exact decide_eq_true h1
      · rw [if_neg e2] at h2
        have h2 := of_decide_eq_true h2
        rw [if_neg (by omega)]; exact decide_eq_true (by omega)

theorem befL_total : ∀ (a b : List Int), a.length = b.length → befL a b = false → befL b a = false → a = b
  | [], [], _, _, _ => rfl
  | [], _ :: _, h, _, _ => by simp at h
  | _ :: _, [], h, _, _ => by simp at h
  | x :: xs, y :: ys, h, h1, h2 => by
    simp only [befL] at h1 h2
    by_cases e : x = y
    · subst e
      rw [if_pos rfl] at h1 h2
      rw [befL_total xs ys (by simpa using h) h1 h2]
    · rw [if_neg e] at h1
      rw [if_neg (Ne.symm e)] at h2
      have h1 := of_decide_eq_false h1
      have h2 := of_decide_eq_false h2
      omega

theorem ltK_iff {a b : List Int} : ltK a b = true ↔ a.length < b.length ∨ (a.length = b.length ∧ befL a b = true) := by
  unfold ltK; simp
theorem ltK_irr (a : List Int) : ltK a a = false := by rw [Bool.eq_false_iff, Ne, ltK_iff, befL_irr]; simp
theorem ltK_trans {a b c : List Int} (h1 : ltK a b = true) (h2 : ltK b c = true) : ltK a c = true := by
  rw [ltK_iff] at *
  rcases h1 with h1 | ⟨h1, g1⟩ <;> rcases h2 with h2 | ⟨h2, g2⟩
  · exact .inl (by omega)
  · exact .inl (by omega)
  · exact .inl (by omega)
  · exact .inr ⟨by omega, befL_trans _ _ _ g1 g2⟩
theorem ltK_asymm {a b : List Int} (h : ltK a b = true) : ltK b a = false := by
  rw [Bool.eq_false_iff]; intro h2
  have := ltK_trans h h2
  rw [ltK_irr] at this; cases this
theorem ltK_total {a b : List Int} (h1 : ltK a b = false) (h2 : ltK b a = false) : a = b := by
  rw [Bool.eq_false_iff, Ne, ltK_iff] at h1 h2
  have hl : a.length = b.length := by omega
  refine befL_total a b hl ?_ ?_
  · rw [Bool.eq_false_iff]; exact fun h => h1 (.inr ⟨hl, h⟩)
  · rw [Bool.eq_false_iff]; exact fun h => h2 (.inr ⟨hl.symm, h⟩)
theorem ltK_le {a b c : List Int} (h1 : ltK a b = true) (h2 : ltK c b = false) : ltK a c = true := by
  cases h3 : ltK b c with
  | true => exact ltK_trans h1 h3
  | false => rw [← ltK_total h3 h2]; exact h1

theorem cmpL_cons (x y : Int) (xs ys : List Int) : cmpL cmpI (x :: xs) (y :: ys) = if x = y then cmpL cmpI xs ys else if x < y then -1 else 1 := by
  simp only [cmpL]
  by_cases e : x = y
  · subst e
    have h0 : cmpI x x = 0 := by unfold cmpI; simp
    rw [if_neg (by simp [h0]), if_pos rfl]
  · have hc : cmpI x y = if x < y then -1 else 1 := by
      unfold cmpI
      by_cases h : x < y
      · rw [if_pos h, if_pos h]
      · rw [if_neg h, if_neg h, if_pos (by omega)]
    rw [if_neg e, hc]
    by_cases h : x < y
    · rw [if_pos h]; simp
    · rw [if_neg h]; simp
theorem cmpL_lt' : ∀ (a b : List Int), cmpL cmpI a b < 0 ↔ befL a b = true
  | [], [] => by decide
  | [], _ :: _ => by simp [cmpL, befL]
  | _ :: _, [] => by simp [cmpL, befL]
  | x :: xs, y :: ys => by
    rw [cmpL_cons, befL]
    by_cases e : x = y
    · rw [if_pos e, if_pos e]; exact cmpL_lt' xs ys
    · rw [if_neg e, if_neg e, decide_eq_true_eq]
      by_cases h : x < y
      · rw [if_pos h]; simp [h]
      · rw [if_neg h]; simp [h]
theorem cmpL_gt' : ∀ (a b : List Int), cmpL cmpI a b > 0 ↔ befL b a = true
  | [], [] => by decide
  | [], _ :: _ => by simp [cmpL, befL]
  | _ :: _, [] => by simp [cmpL, befL]
  | x :: xs, y :: ys => by
    rw [cmpL_cons, befL]
    by_cases e : x = y
    · rw [if_pos e, if_pos e.symm]; exact cmpL_gt' xs ys
    · rw [if_neg e, if_neg (Ne.symm e), decide_eq_true_eq]
      by_cases h : x < y
      · rw [if_pos h]; simp; omega
      · rw [if_neg h]; simp; omega
theorem cmpL_lt (a b : List Int) : decide (cmpL cmpI a b < 0) = befL a b := by rw [Bool.eq_iff_iff, decide_eq_true_eq]; exact cmpL_lt' a b
theorem cmpL_gt (a b : List Int) : decide (cmpL cmpI a b > 0) = befL b a := by rw [Bool.eq_iff_iff, decide_eq_true_eq]; exact cmpL_gt' a b

theorem ltB_ltK (a b : List Int) : ltB a b = ltK a b := by
  unfold ltB ltK
  rw [cmpL_lt]
  congr 1
  · exact decide_eq_decide.2 (by omega)
  · congr 1
    rw [Bool.eq_iff_iff]; simp; omega

theorem skipB_ltK (s : List Int × Bool) (l : List Int) : skipB s l = (s.2 && ltK s.1 l) := by
  unfold skipB ltK
  rw [cmpL_gt]
  congr 2
  · exact decide_eq_decide.2 (by omega)
  · congr 1
    rw [Bool.eq_iff_iff]; simp; omega

/-! ### Sets as lists -/

theorem lowbit {k m j : Nat} : ((2 ^ k * (2 * m + 1)) &&& (2 ^ k * (2 * m + 1) - 1)).testBit j = ((2 ^ k * (2 * m + 1)).testBit j && !decide (j = k)) := by
  have hp := Nat.two_pow_pos k
  have e1 : 2 ^ k * (2 * m + 1) = 2 ^ k * (2 * m + 1) + 0 := rfl
  have e2 : 2 ^ k * (2 * m + 1) - 1 = 2 ^ k * (2 * m) + (2 ^ k - 1) := by rw [Nat.mul_add, Nat.mul_one]; omega
  rw [Nat.testBit_and, e2, Nat.testBit_two_pow_mul_add _ (show 2 ^ k - 1 < 2 ^ k by omega), e1, Nat.testBit_two_pow_mul_add _ hp]
  rcases Nat.lt_trichotomy j k with h | h | h
  · simp [h]
  · subst h; simp
  · rw [if_neg (by omega), if_neg (by omega)]
    obtain ⟨d, hd⟩ : ∃ d, j - k = d + 1 := ⟨j - k - 1, by omega⟩
    rw [hd, Nat.testBit_add_one, Nat.testBit_add_one, show (2 * m + 1) / 2 = m by omega, show 2 * m / 2 = m by omega]
    simp; omega

theorem low_test {k m j : Nat} : (2 ^ k * (2 * m + 1)).testBit j = if j < k then false else (2 * m + 1).testBit (j - k) := by
  have := Nat.testBit_two_pow_mul_add (2 * m + 1) (Nat.two_pow_pos k) j
  rw [Nat.add_zero] at this
  rw [this]; simp

/-- The members of a set, ascending. -/
theorem bitsL_filter : ∀ (n : Nat), n < 2 ^ 64 → bitsL n = (List.range 64).filter n.testBit := by
  intro n
  induction n using Nat.strongRecOn with
  | _ n ih =>
    intro hn
    by_cases h0 : n = 0
    · subst h0
      rw [bitsL_zero]
      symm
      rw [List.filter_eq_nil_iff]
      intro a _
      simp
    · have hlt := and_pred_lt h0
      rw [bitsL_pos h0, ih _ hlt (by omega)]
      obtain ⟨m, hm, hk⟩ := Lib.ctzFrom_spec 64 n (by omega) hn
      have hc : Lib.ctz 64 n = Lib.ctzFrom 64 n := by unfold Lib.ctz; rw [if_neg h0]
      rw [hc]
      generalize Lib.ctzFrom 64 n = k at hm hk
      have hb : ∀ j, (n &&& (n - 1)).testBit j = (n.testBit j && !decide (j = k)) := fun j => by rw [hm]; exact lowbit
      have hf : ∀ j, n.testBit j = if j < k then false else (2 * m + 1).testBit (j - k) := fun j => by rw [hm]; exact low_test
      have er : List.range 64 = List.range k ++ k :: List.range' (k + 1) (63 - k) := by
        rw [List.range_eq_range', List.range_eq_range', show 64 = k + (63 - k + 1) by omega, ← List.range'_append_1, Nat.zero_add, List.range'_succ]
      have hlow : ∀ q : Nat → Bool, (∀ j, j < k → q j = false) → (List.range k).filter q = [] := fun q hq => by
        rw [List.filter_eq_nil_iff]
        intro a ha
        rw [hq a (List.mem_range.1 ha)]; simp
      rw [er, List.filter_append, List.filter_append, hlow _ (fun j hj => by rw [hb, hf, if_pos hj]; rfl), hlow _ (fun j hj => by rw [hf, if_pos hj]), List.nil_append, List.nil_append,
        List.filter_cons, List.filter_cons]
      have hk1 : n.testBit k = true := by rw [hf, if_neg (by omega), Nat.sub_self, Nat.testBit_zero]; simp
      rw [hk1, hb k, if_neg (by simp), if_pos rfl]
      congr 1
      apply List.filter_congr
      intro j hj
      have := (List.mem_range'_1.1 hj).1
      rw [hb, show decide (j = k) = false from decide_eq_false (by omega)]; simp

theorem filter_low {c : Nat} (p : Nat → Bool) : ∀ d, (List.range (c + d)).filter (fun j => decide (j < c) && p j) = (List.range c).filter p
  | 0 => by
    rw [Nat.add_zero]
    apply List.filter_congr
    intro j hj
    simp [List.mem_range.1 hj]
  | d + 1 => by
    rw [← Nat.add_assoc, List.range_succ, List.filter_append, filter_low p d]
    simp
    omega

/-- Of a set below a number. -/
theorem bitsL_below {n c : Nat} (hc : c ≤ 64) (hn : n < 2 ^ c) : bitsL n = (List.range c).filter n.testBit := by
  have hn64 : n < 2 ^ 64 := Nat.lt_of_lt_of_le hn (Nat.pow_le_pow_right (by omega) hc)
  rw [bitsL_filter n hn64]
  obtain ⟨d, hd⟩ : ∃ d, 64 = c + d := ⟨64 - c, by omega⟩
  rw [hd, ← filter_low (c := c) n.testBit d]
  apply List.filter_congr
  intro j _
  by_cases h : j < c
  · simp [h]
  · rw [Nat.testBit_lt_two_pow (Nat.lt_of_lt_of_le hn (Nat.pow_le_pow_right (by omega) (by omega)))]; simp

theorem bitsO_lt {l : List Nat} {c : Nat} (h : ∀ x ∈ l, x < c) : bitsO l < 2 ^ c := by
  apply Nat.lt_pow_two_of_testBit
  intro i hi
  rw [bitsO_test, Bool.eq_false_iff, Ne, List.contains_iff_mem]
  intro hm
  have := h i hm
  omega

/-- Ascending lists are the lists of sets. -/
theorem bitsL_bitsO {c : Nat} (hc : c ≤ 64) (p : Nat → Bool) : bitsL (bitsO ((List.range c).filter p)) = (List.range c).filter p := by
  rw [bitsL_below hc (bitsO_lt fun x hx => List.mem_range.1 (List.mem_filter.1 hx).1)]
  apply List.filter_congr
  intro j hj
  rw [bitsO_test, Bool.eq_iff_iff, List.contains_iff_mem, List.mem_filter]
  exact ⟨fun h => h.2, fun h => ⟨hj, h⟩⟩

/-- What the search for the smallest set finds. -/
theorem few_spec (does : Nat → Bool) : ∀ n, ((few does n).2 = false ∧ (few does n).1 = [] ∧ ∀ m, m < n → does m = false) ∨
    ((few does n).2 = true ∧ ∃ m, m < n ∧ does m = true ∧ (few does n).1 = natsV (bitsL m) ∧ ∀ m', m' < n → does m' = true → ltK (natsV (bitsL m')) (natsV (bitsL m)) = false)
  | 0 => .inl ⟨rfl, rfl, fun m h => by omega⟩
  | n + 1 => by
    rw [few_succ, fewStep, skipB_ltK]
    rcases few_spec does n with ⟨h1, h2, h3⟩ | ⟨h1, m, hm, h2, h3, h4⟩
    · rw [h1, Bool.false_and, if_neg (by simp)]
      cases hd : does n with
      | true =>
        rw [if_pos rfl]
        refine .inr ⟨rfl, n, by omega, hd, rfl, fun m' hm' hd' => ?_⟩
        by_cases e : m' = n
        · subst e; exact ltK_irr _
        · rw [h3 m' (by omega)] at hd'; cases hd'
      | false =>
        rw [if_neg (by simp)]
        refine .inl ⟨h1, h2, fun m' hm' => ?_⟩
        by_cases e : m' = n
        · subst e; exact hd
        · exact h3 m' (by omega)
    · rw [h1, Bool.true_and, h3]
      cases hk : ltK (natsV (bitsL m)) (natsV (bitsL n)) with
      | true =>
        rw [if_pos rfl]
        refine .inr ⟨h1, m, by omega, h2, h3, fun m' hm' hd' => ?_⟩
        by_cases e : m' = n
        · subst e; exact ltK_asymm hk
        · exact h4 m' (by omega) hd'
      | false =>
        rw [if_neg (by simp)]
        cases hd : does n with
        | false =>
          rw [if_neg (by simp)]
          refine .inr ⟨h1, m, by omega, h2, h3, fun m' hm' hd' => ?_⟩
          by_cases e : m' = n
          · subst e; rw [hd] at hd'; cases hd'
          · exact h4 m' (by omega) hd'
        | true =>
          rw [if_pos rfl]
          refine .inr ⟨rfl, n, by omega, hd, rfl, fun m' hm' hd' => ?_⟩
          by_cases e : m' = n
          · subst e; exact ltK_irr _
          · have h5 := h4 m' (by omega) hd'
            cases h6 : ltK (natsV (bitsL m')) (natsV (bitsL n)) with
            | false => rfl
            | true => rw [ltK_le h6 hk] at h5; cases h5

/-! ### All orders -/

theorem firR_ne : ∀ (ks b : List Int), (∀ k ∈ ks, 0 ≤ k ∧ k ≤ 2) → firR ks b ≠ []
  | [], b, _ => by simp [firR]
  | k :: ks, b, h => by
    have h1 := firR_ne ks (b ++ [1]) fun x hx => h x (List.mem_cons_of_mem _ hx)
    have h2 := firR_ne ks (b ++ [2]) fun x hx => h x (List.mem_cons_of_mem _ hx)
    have h3 : k = 0 ∨ k = 1 ∨ k = 2 := by have := h k (List.mem_cons_self ..); omega
    simp only [firR, List.flatMap_cons, List.flatMap_nil, List.append_nil]
    rcases h3 with rfl | rfl | rfl <;> simp [h1, h2]

theorem allL_ne {xs : List (ByteArray × Int)} (h : ∀ x ∈ xs, 0 ≤ x.2 ∧ x.2 ≤ 2) : allL xs ≠ [] := by
  have h1 := firR_ne (xs.map Prod.snd) [] fun k hk => by
    obtain ⟨x, hx, rfl⟩ := List.mem_map.1 hk
    exact h x hx
  have h2 : List.range xs.length ∈ rowsR xs.length xs.length [] := perm_rowsR ⟨List.nodup_range, fun x hx => List.mem_range.1 hx, List.length_range⟩
  intro e
  cases hf : firR (xs.map Prod.snd) [] with
  | nil => exact h1 hf
  | cons f l =>
    have : (f, natsV (List.range xs.length)) ∈ allL xs := by
      unfold allL
      rw [hf, List.mem_flatMap]
      exact ⟨f, List.mem_cons_self .., List.mem_map_of_mem h2⟩
    rw [e] at this; cases this

/-! ### Proof -/

/-- Has a list of copies one that does not agree with an order? -/
def hitsB (cs : List (ByteArray × List Int)) (l : List Nat) (o : List Int × List Int) : Bool := l.any fun i => (amidL cs o).contains i

theorem amid_mem {cs : List (ByteArray × List Int)} {o : List Int × List Int} {i : Nat} : i ∈ amidL cs o ↔ i < cs.length ∧ (stpL (showsOf cs i) o.1 o.2).isEmpty = true := by
  unfold amidL; rw [List.mem_filter, List.mem_range]

theorem okS_hits {cs : List (ByteArray × List Int)} (hc : cs.length ≤ 64) {s : Nat} (hs : s < 2 ^ cs.length) (o : List Int × List Int) : okS cs s o = !hitsB cs (bitsL s) o := by
  unfold okS hitsB
  rw [bitsL_below hc hs, Bool.eq_iff_iff, List.all_eq_true, Bool.not_eq_true', List.any_eq_false]
  constructor
  · intro h i hi hm
    obtain ⟨h1, h2⟩ := List.mem_filter.1 hi
    have := h i h1
    rw [h2] at this
    rw [List.contains_iff_mem, amid_mem] at hm
    rw [hm.2] at this
    cases this
  · intro h i hi
    cases hb : s.testBit i with
    | false => rfl
    | true =>
      have := h i (List.mem_filter.2 ⟨hi, hb⟩)
      rw [List.contains_iff_mem, amid_mem] at this
      cases he : (stpL (showsOf cs i) o.1 o.2).isEmpty with
      | false => rfl
      | true => exact absurd ⟨List.mem_range.1 hi, he⟩ this

theorem ordS_none {xs : List (ByteArray × Int)} {cs : List (ByteArray × List Int)} (hv : Valid xs cs) {s : Nat} (hs : s < 2 ^ cs.length) : emptyB (ordS xs cs s) = (allL xs).all (hitsB cs (bitsL s)) := by
  have h := ordS_dec hv s
  have he : emptyB (ordS xs cs s) = ((allL xs).filter (okS cs s)).isEmpty := by
    rw [← h]
    cases ordS xs cs s <;> rfl
  rw [he, Bool.eq_iff_iff, List.isEmpty_iff, List.filter_eq_nil_iff, List.all_eq_true]
  have hc : cs.length ≤ 64 := by have := hv.c8; omega
  constructor
  · intro g o ho
    have := g o ho
    rw [okS_hits hc hs] at this
    simpa using this
  · intro g o ho
    rw [okS_hits hc hs, g o ho]; simp

/-- All ascending lists of so many numbers. -/
def listsL : Nat → Nat → Nat → List (List Nat)
  | _, _, 0 => [[]]
  | f, b, m + 1 => (List.range' f (b - (f + m))).flatMap fun k => (listsL (k + 1) b m).map fun l => k :: l

def proofS (xs : List (ByteArray × Int)) (cs : List (ByteArray × List Int)) : List Int × Int :=
  if (chk xs cs).2.2 ≠ 0 then ([], (chk xs cs).2.2) else if (allL xs).any (fun o => (amidL cs o).isEmpty) then ([], 4) else
  match ((List.range cs.length).flatMap fun m => listsL 0 cs.length (m + 1)).find? (fun l => (allL xs).all (hitsB cs l)) with
  | some l => (natsV l, 0)
  | none => ([], 4)

/-- Ascending, and within bounds. -/
def Asc (f b : Nat) (l : List Nat) : Prop := l.Pairwise (· < ·) ∧ ∀ x ∈ l, f ≤ x ∧ x < b

end Go.Ab.StF

namespace Go.Ab.StF
open Go Go.Ab Go.Proofs

/-- The least of some lists. -/
def bestF (l0 : List Int) (ls : List (List Int)) : List Int := ls.foldl (fun b l => if ltK l b then l else b) l0

theorem bestF_snoc (l0 : List Int) (ls : List (List Int)) (l : List Int) : bestF l0 (ls ++ [l]) = if ltK l (bestF l0 ls) then l else bestF l0 ls := by unfold bestF; rw [List.foldl_append]; rfl

theorem bestF_spec : ∀ (ls : List (List Int)) (l0 : List Int), (bestF l0 ls ∈ l0 :: ls) ∧ ∀ l ∈ l0 :: ls, ltK l (bestF l0 ls) = false
  | [], l0 => ⟨List.mem_cons_self .., fun l hl => by simp only [List.mem_singleton] at hl; subst hl; exact ltK_irr _⟩
  | x :: ls, l0 => by
    have h : bestF l0 (x :: ls) = bestF (if ltK x l0 then x else l0) ls := rfl
    rw [h]
    obtain ⟨h1, h2⟩ := bestF_spec ls (if ltK x l0 then x else l0)
    refine ⟨?_, fun l hl => ?_⟩
    · rcases List.mem_cons.1 h1 with h1 | h1
      · rw [h1]; split
        · exact List.mem_cons_of_mem _ (List.mem_cons_self ..)
        · exact List.mem_cons_self ..
      · exact List.mem_cons_of_mem _ (List.mem_cons_of_mem _ h1)
    · have h0 := h2 _ (List.mem_cons_self ..)
      cases hx : ltK x l0 with
      | true =>
        rw [hx, if_pos rfl] at h0
        rw [if_pos rfl]
        rw [hx, if_pos rfl] at h2
        rcases List.mem_cons.1 hl with rfl | hl
        · cases h3 : ltK l (bestF x ls) with
          | false => rfl
          | true => rw [ltK_trans hx h3] at h0; cases h0
        · exact h2 l hl
      | false =>
        rw [hx, if_neg (by simp)] at h0 h2
        rw [if_neg (by simp)]
        rcases List.mem_cons.1 hl with rfl | hl
        · exact h0
        · rcases List.mem_cons.1 hl with rfl | hl
          · cases h3 : ltK l (bestF l0 ls) with
            | false => rfl
            | true =>
              rw [ltK_le h3 h0] at hx; cases hx
          · exact h2 l (List.mem_cons_of_mem _ hl)

theorem bestF_is {ls : List (List Int)} {l0 r : List Int} (hr : r ∈ l0 :: ls) (h : ∀ l ∈ l0 :: ls, ltK l r = false) : bestF l0 ls = r := by
  obtain ⟨h1, h2⟩ := bestF_spec ls l0
  exact ltK_total (h _ h1) (h2 _ hr)

def wrongS (xs : List (ByteArray × Int)) (cs : List (ByteArray × List Int)) : List Int × Int :=
  if (chk xs cs).2.2 ≠ 0 then ([], (chk xs cs).2.2) else
  (bestF (natsV (amidL cs ((allL xs).headD ([], [])))) ((allL xs).tail.map fun o => natsV (amidL cs o)), 0)

theorem wrong_eq (xs : List (ByteArray × Int)) (cs : List (ByteArray × List Int)) : wrongR xs cs = wrongS xs cs := by
  unfold wrongR wrongS
  by_cases hk : (chk xs cs).2.2 = 0
  · have hk' : ¬ ((chk xs cs).2.2 ≠ 0) := fun h => h hk
    have hv := chk_valid hk
    have hc : cs.length ≤ 64 := by have := hv.c8; omega
    have hne := allL_ne hv.fst
    rw [if_neg hk', if_neg hk']
    congr 1
    have hwl : ∀ s, less (whl cs) s < 2 ^ cs.length := fun s => less_ltp (by show 2 ^ cs.length - 1 < _; have := Nat.two_pow_pos cs.length; omega)
    have hd : ∀ s, (!emptyB (ordS xs cs (less (whl cs) s))) = true ↔ ∃ o ∈ allL xs, ∀ i ∈ amidL cs o, s.testBit i = true := fun s => by
      rw [ordS_none hv (hwl s), Bool.not_eq_true', ← Bool.not_eq_true, List.all_eq_true]
      constructor
      · intro h
        apply Classical.byContradiction
        intro hno
        apply h
        intro o ho
        unfold hitsB
        rw [List.any_eq_true]
        apply Classical.byContradiction
        intro hn
        apply hno
        refine ⟨o, ho, fun i hi => ?_⟩
        cases hb : s.testBit i with
        | true => rfl
        | false =>
          exfalso
          apply hn
          have hic := (amid_mem.1 hi).1
          refine ⟨i, ?_, by rw [List.contains_iff_mem]; exact hi⟩
          rw [bitsL_below hc (hwl s)]
          refine List.mem_filter.2 ⟨List.mem_range.2 hic, ?_⟩
          rw [less_test, whl, Nat.testBit_two_pow_sub_one, hb]
          simpa using hic
      · rintro ⟨o, ho, h⟩ hall
        have := hall o ho
        unfold hitsB at this
        obtain ⟨i, hi, hm⟩ := List.any_eq_true.1 this
        rw [List.contains_iff_mem] at hm
        rw [bitsL_below hc (hwl s)] at hi
        have := (List.mem_filter.1 hi).2
        rw [less_test, h i hm] at this
        simp at this
    have hsp := few_spec (fun s => !emptyB (ordS xs cs (less (whl cs) s))) (2 ^ cs.length)
    generalize few (fun s => !emptyB (ordS xs cs (less (whl cs) s))) (2 ^ cs.length) = fw at hsp ⊢
    have hset : ∀ o ∈ allL xs, bitsO (amidL cs o) < 2 ^ cs.length ∧ bitsL (bitsO (amidL cs o)) = amidL cs o ∧ (!emptyB (ordS xs cs (less (whl cs) (bitsO (amidL cs o))))) = true := fun o ho => by
      refine ⟨bitsO_lt fun x hx => (amid_mem.1 hx).1, bitsL_bitsO hc _, (hd _).2 ⟨o, ho, fun i hi => ?_⟩⟩
      rw [bitsO_test, List.contains_iff_mem]; exact hi
    rcases hsp with ⟨_, _, h3⟩ | ⟨_, m, hm, h2, h3, h4⟩
    · exfalso
      cases hA : allL xs with
      | nil => exact hne hA
      | cons o l =>
        obtain ⟨g1, _, g3⟩ := hset o (by rw [hA]; exact List.mem_cons_self ..)
        have := h3 _ g1
        rw [show (!emptyB (ordS xs cs (less (whl cs) (bitsO (amidL cs o))))) = true from g3] at this
        cases this
    · obtain ⟨o, ho, hsub⟩ := (hd m).1 h2
      obtain ⟨g1, g2, g3⟩ := hset o ho
      have h5 := h4 _ g1 g3
      rw [g2] at h5
      have hbm := bitsL_below hc hm
      have hsl : (amidL cs o).Sublist (bitsL m) := by
        rw [hbm]
        have e : amidL cs o = ((List.range cs.length).filter m.testBit).filter (odB cs o) := by
          rw [amid_od, List.filter_filter]
          apply List.filter_congr
          intro j hj
          cases hq : odB cs o j with
          | false => rfl
          | true =>
            have : j ∈ amidL cs o := by rw [amid_od]; exact List.mem_filter.2 ⟨hj, hq⟩
            rw [hsub j this]; rfl
        rw [e]
        exact List.filter_sublist
      have hlen : (amidL cs o).length = (bitsL m).length := by
        have h6 := hsl.length_le
        rw [Bool.eq_false_iff, Ne, ltK_iff] at h5
        simp at h5
        omega
      have heq := hsl.eq_of_length hlen
      rw [h3, ← heq]
      symm
      apply bestF_is
      · cases hA : allL xs with
        | nil => exact absurd hA hne
        | cons o0 l =>
          rw [hA] at ho
          simp only [List.headD_cons, List.tail_cons]
          rcases List.mem_cons.1 ho with rfl | ho
          · exact List.mem_cons_self ..
          · exact List.mem_cons_of_mem _ (List.mem_map_of_mem (f := fun o => natsV (amidL cs o)) ho)
      · intro l hl
        have : ∃ o' ∈ allL xs, l = natsV (amidL cs o') := by
          cases hA : allL xs with
          | nil => exact absurd hA hne
          | cons o0 l' =>
            rw [hA] at hl
            simp only [List.headD_cons, List.tail_cons] at hl
            rcases List.mem_cons.1 hl with rfl | hl
            · exact ⟨o0, List.mem_cons_self .., rfl⟩
            · obtain ⟨o', ho', rfl⟩ := List.mem_map.1 hl
              exact ⟨o', List.mem_cons_of_mem _ ho', rfl⟩
        obtain ⟨o', ho', rfl⟩ := this
        obtain ⟨k1, k2, k3⟩ := hset o' ho'
        have := h4 _ k1 k3
        rwa [k2, ← heq] at this
  · rw [if_pos hk, if_pos hk]

/-! ### Mistaken -/

/-- The fewest readings of a copy that are not so in an order, as loci. -/
def bestK (ss : List Int) (o : List Int × List Int) (n : Nat) : List Int := bestF (natsV (amiL ss (stateS 0 o))) ((List.range n).map fun k => natsV (amiL ss (stateS (k + 1) o)))

/-- The fewest mistaken readings, as a number each. -/
def offS (n : Nat) (cs : List (ByteArray × List Int)) (o : List Int × List Int) : List Int := (List.range cs.length).flatMap fun i => (bestK (showsOf cs i) o n).map fun k => (i : Int) * n + k

def mistS (xs : List (ByteArray × Int)) (cs : List (ByteArray × List Int)) : List (Int × Int) × Int :=
  if (chk xs cs).2.2 ≠ 0 then ([], (chk xs cs).2.2) else
  ((bestF (offS xs.length cs ((allL xs).headD ([], []))) ((allL xs).tail.map (offS xs.length cs))).map fun x => (x.tdiv xs.length, x.tmod xs.length), 0)

theorem misM_test (m : Nat × Nat) (f d j : Nat) : (misM m f d).testBit j = (((fixedM m.1 m.2 f).testBit j && !d.testBit j) || ((looseM m.1 m.2 f).testBit j && d.testBit j)) := by
  unfold misM; rw [Nat.testBit_or, less_test, Nat.testBit_and]

theorem stateS_len (k : Nat) (o : List Int × List Int) : (stateS k o).length = o.1.length := by simp [stateS]

theorem stateS_get {k j : Nat} {o : List Int × List Int} (h : j < o.1.length) : (stateS k o).getD j 0 = atV o.1 o.2 k j := by
  simp [stateS, List.getD_eq_getElem?_getD, h]

theorem yOf_ami {n : Nat} {ss : List Int} {f : Nat} {os : List Nat} (hp : Perm n os) (hl : ss.length = n) (hs : ∀ v ∈ ss, 0 ≤ v ∧ v ≤ 2) (hn : n ≤ 5) {k : Nat} (hk : k ≤ n) :
    yOf (mask ss 1, mask ss 2) f (doneAt (pad5 os) k) = natsV (amiL ss (stateS k (bitsF n f, natsV os))) := by
  unfold yOf
  congr 1
  have hlt : misM (mask ss 1, mask ss 2) f (doneAt (pad5 os) k) < 2 ^ n := misM_lt (by rw [← hl]; exact mask_lt ss 1) (by rw [← hl]; exact mask_lt ss 2) _ _
  rw [bitsL_below (by omega) hlt]
  unfold amiL
  rw [stateS_len, bitsF_len]
  apply List.filter_congr
  intro j hj
  have hj := List.mem_range.1 hj
  have hd : (doneAt (pad5 os) k).testBit j = decide (os.idxOf j < k) := by
    have e : doneAt (pad5 os) k = bitsO (os.take k) := by
      unfold doneAt bitsO
      rw [pad5, List.take_append_of_le_length (by rw [hp.len]; exact hk)]
    rw [e, bitsO_test, Bool.eq_iff_iff, List.contains_iff_mem, mem_take_idx (by rw [hp.len]; exact hk), decide_eq_true_eq]
  have hfx := fxB_eq ss f j
  have hls := lsB_eq ss f j
  unfold fxB at hfx
  unfold lsB at hls
  rw [misM_test, hd, hfx, hls]
  unfold amiB
  rw [stateS_get (by rw [bitsF_len]; exact hj)]
  unfold atV
  rw [plc_nats, bitsF_get hj]
  have hv := hs (ss.getD j 0) (by rw [getD_e (show j < ss.length by omega)]; exact List.getElem_mem _)
  generalize ss.getD j 0 = v at hv ⊢
  have h3 : v = 0 ∨ v = 1 ∨ v = 2 := by omega
  simp only [show j < ss.length by omega, decide_true, Bool.true_and]
  by_cases hi : os.idxOf j < k
  · simp only [hi, decide_true, if_true]
    rcases h3 with rfl | rfl | rfl <;> cases f.testBit j <;> rfl
  · simp only [hi, decide_false, if_false]
    rcases h3 with rfl | rfl | rfl <;> cases f.testBit j <;> rfl

theorem ownUp_best (m : Nat × Nat) (f : Nat) (os : List Nat) : ∀ j, ownUp m f os (j + 1) = bestF (yOf m f (doneAt os 0)) ((List.range j).map fun k => yOf m f (doneAt os (k + 1)))
  | 0 => by simp [ownUp, bestF]
  | j + 1 => by
    rw [ownUp, ownUp_best m f os j, List.range_succ, List.map_append, List.map_singleton, bestF_snoc, ltB_ltK]
    simp

theorem own_best {n : Nat} {ss : List Int} {f : Nat} {os : List Nat} (hp : Perm n os) (hl : ss.length = n) (hs : ∀ v ∈ ss, 0 ≤ v ∧ v ≤ 2) (hn : n ≤ 5) :
    ownUp (mask ss 1, mask ss 2) f (pad5 os) (n + 1) = bestK ss (bitsF n f, natsV os) n := by
  rw [ownUp_best]
  unfold bestK
  rw [yOf_ami hp hl hs hn (Nat.zero_le _)]
  congr 1
  apply List.map_congr_left
  intro k hk
  exact yOf_ami hp hl hs hn (by have := List.mem_range.1 hk; omega)

def phi (n : Nat) (p : Int × Int) : Int := p.1 * n + p.2

/-- Readings, within bounds. -/
def RdOk (n : Nat) (p : Int × Int) : Prop := 0 ≤ p.1 ∧ p.1 < 1000 ∧ 0 ≤ p.2 ∧ p.2 < n

theorem phi_lt {n : Nat} {a b : Int × Int} (ha : RdOk n a) (hb : RdOk n b) : phi n a < phi n b ↔ a.1 < b.1 ∨ (a.1 = b.1 ∧ a.2 < b.2) := by
  obtain ⟨a1, a2, a3, a4⟩ := ha
  obtain ⟨b1, b2, b3, b4⟩ := hb
  unfold phi
  constructor
  · intro h
    rcases Int.lt_trichotomy a.1 b.1 with h1 | h1 | h1
    · exact .inl h1
    · rw [h1] at h; exact .inr ⟨h1, by omega⟩
    · exfalso
      have : b.1 * n + n ≤ a.1 * n := by
        have h2 : (b.1 + 1) * (n : Int) ≤ a.1 * n := Int.mul_le_mul_of_nonneg_right (by omega) (by omega)
        rwa [Int.add_mul, Int.one_mul] at h2
      omega
  · rintro (h | ⟨h1, h2⟩)
    · have : a.1 * n + n ≤ b.1 * n := by
        have h2 : (a.1 + 1) * (n : Int) ≤ b.1 * n := Int.mul_le_mul_of_nonneg_right (by omega) (by omega)
        rwa [Int.add_mul, Int.one_mul] at h2
      omega
    · rw [h1]; omega

theorem cmpRd_lt {n : Nat} (hn : n ≤ 5) {a b : Int × Int} (ha : RdOk n a) (hb : RdOk n b) : (cmpRd a b < 0 ↔ phi n a < phi n b) ∧ (cmpRd a b = 0 ↔ phi n a = phi n b) := by
  have h1 := phi_lt ha hb
  have h2 := phi_lt hb ha
  obtain ⟨a1, a2, a3, a4⟩ := ha
  obtain ⟨b1, b2, b3, b4⟩ := hb
  unfold cmpRd
  rw [wrap_int (n := a.1 - b.1) (by omega) (by omega), wrap_int (n := a.2 - b.2) (by omega) (by omega)]
  by_cases e1 : a.1 = b.1
  · by_cases e2 : a.2 = b.2
    · simp [e1, e2, phi]
    · have : (a.1 == b.1 && a.2 == b.2) = false := by simp [e2]
      rw [this, if_neg (by simp), if_neg (by simp [e1])]
      refine ⟨by rw [h1]; omega, ?_⟩
      unfold phi
      rw [e1]; omega
  · have : (a.1 == b.1 && a.2 == b.2) = false := by simp [e1]
    rw [this, if_neg (by simp), if_pos (by simpa using e1)]
    refine ⟨by rw [h1]; omega, ?_⟩
    constructor
    · intro h; omega
    · intro h; exfalso
      have h3 : ¬ phi n a < phi n b := by omega
      have h4 : ¬ phi n b < phi n a := by omega
      rw [h1] at h3
      rw [h2] at h4
      omega

theorem cmpRd_bef {n : Nat} (hn : n ≤ 5) : ∀ (a b : List (Int × Int)), (∀ p ∈ a, RdOk n p) → (∀ p ∈ b, RdOk n p) → (cmpL cmpRd a b < 0 ↔ befL (a.map (phi n)) (b.map (phi n)) = true)
  | [], [], _, _ => by simp [cmpL, befL]
  | [], _ :: _, _, _ => by simp [cmpL, befL]
  | _ :: _, [], _, _ => by simp [cmpL, befL]
  | x :: xs, y :: ys, ha, hb => by
    obtain ⟨g1, g2⟩ := cmpRd_lt hn (ha x (List.mem_cons_self ..)) (hb y (List.mem_cons_self ..))
    simp only [cmpL, List.map_cons, befL]
    by_cases e : cmpRd x y = 0
    · rw [if_neg (by simpa using e), if_pos (g2.1 e)]
      exact cmpRd_bef hn xs ys (fun p hp => ha p (List.mem_cons_of_mem _ hp)) fun p hp => hb p (List.mem_cons_of_mem _ hp)
    · rw [if_pos e, if_neg (fun h => e (g2.2 h)), decide_eq_true_eq]
      exact g1

theorem ltRd_ltK {n : Nat} (hn : n ≤ 5) {a b : List (Int × Int)} (ha : ∀ p ∈ a, RdOk n p) (hb : ∀ p ∈ b, RdOk n p) : ltRd a b = ltK (a.map (phi n)) (b.map (phi n)) := by
  have h := cmpRd_bef hn a b ha hb
  unfold ltRd
  rw [Bool.eq_iff_iff, ltK_iff, List.length_map, List.length_map, ← h]
  simp; omega

theorem bestK_vals {ss : List Int} {o : List Int × List Int} {n : Nat} (ho : o.1.length = n) : ∀ k ∈ bestK ss o n, 0 ≤ k ∧ k < (n : Int) := by
  have hami : ∀ q, ∀ k ∈ natsV (amiL ss (stateS q o)), 0 ≤ k ∧ k < (n : Int) := fun q k hk => by
    obtain ⟨j, hj, rfl⟩ := List.mem_map.1 hk
    have := List.mem_range.1 (List.mem_filter.1 hj).1
    rw [stateS_len, ho] at this
    omega
  have h1 := (bestF_spec ((List.range n).map fun k => natsV (amiL ss (stateS (k + 1) o))) (natsV (amiL ss (stateS 0 o)))).1
  intro k hk
  unfold bestK at hk
  rcases List.mem_cons.1 h1 with h1 | h1
  · rw [h1] at hk; exact hami 0 k hk
  · obtain ⟨q, _, hq⟩ := List.mem_map.1 h1
    rw [← hq] at hk; exact hami _ k hk

theorem misUp_off {xs : List (ByteArray × Int)} {cs : List (ByteArray × List Int)} (hv : Valid xs cs) {p : Nat × List Nat} {os : List Nat} (hos : OrdP xs.length p os) : ∀ i, i ≤ cs.length →
    (misUp xs cs p i).map (phi xs.length) = ((List.range i).flatMap fun i => (bestK (showsOf cs i) (bitsF xs.length p.1, natsV os) xs.length).map fun k => (i : Int) * xs.length + k) ∧ ∀ q ∈ misUp xs cs p i, RdOk xs.length q
  | 0, _ => ⟨rfl, fun q h => by cases h⟩
  | i + 1, hi => by
    obtain ⟨h1, h2⟩ := misUp_off hv hos i (by omega)
    have hi' : i < cs.length := by omega
    have hb : ownUp (mOf cs i) p.1 p.2 (xs.length + 1) = bestK (showsOf cs i) (bitsF xs.length p.1, natsV os) xs.length := by
      rw [mOf, msL_get hi', hos.pad, showsOf_eq hi']
      exact own_best hos.perm (hv.len _ (List.getElem_mem hi')) (hv.shows _ (List.getElem_mem hi')) hv.l5
    have hvals := bestK_vals (ss := showsOf cs i) (o := (bitsF xs.length p.1, natsV os)) (n := xs.length) (bitsF_len _ _)
    have hc8 := hv.c8
    rw [misUp, hb]
    refine ⟨?_, fun q hq => ?_⟩
    · rw [List.map_append, h1, List.range_succ, List.flatMap_append, List.flatMap_singleton, List.map_map]
      rfl
    · rcases List.mem_append.1 hq with hq | hq
      · exact h2 q hq
      · obtain ⟨k, hk, rfl⟩ := List.mem_map.1 hq
        obtain ⟨k0, k1⟩ := hvals k hk
        exact ⟨by simp, by simp; omega, k0, k1⟩

theorem mist_eq (xs : List (ByteArray × Int)) (cs : List (ByteArray × List Int)) : mistR xs cs = mistS xs cs := by
  unfold mistR mistS
  by_cases hk : (chk xs cs).2.2 = 0
  · have hk' : ¬ ((chk xs cs).2.2 ≠ 0) := fun h => h hk
    have hv := chk_valid hk
    have h5 := hv.l5
    have hne := allL_ne hv.fst
    rw [if_neg hk', if_neg hk']
    congr 1
    have hA : (ordS xs cs 0).map (decO xs.length) = allL xs := by
      rw [ordS_dec hv 0, List.filter_eq_self]
      intro o _
      unfold okS
      rw [List.all_eq_true]
      intro i _
      simp
    have hall : ∀ p ∈ ordS xs cs 0, (misUp xs cs p cs.length).map (phi xs.length) = offS xs.length cs (decO xs.length p) ∧ ∀ q ∈ misUp xs cs p cs.length, RdOk xs.length q := fun p hp => by
      obtain ⟨os, hos⟩ := ordS_perm p hp
      rw [hos.dec]
      exact misUp_off hv hos cs.length (Nat.le_refl _)
    rw [← hA] at hne ⊢
    generalize ordS xs cs 0 = ps at hall hne
    cases ps with
    | nil => exact absurd rfl hne
    | cons p0 ps =>
      simp only [List.foldl_cons, List.map_cons, List.headD_cons, List.tail_cons]
      have h0 : mistStep xs cs ([], false) p0 = (misUp xs cs p0 cs.length, true) := by unfold mistStep; rfl
      rw [h0]
      obtain ⟨g1, g2⟩ := hall p0 (List.mem_cons_self ..)
      have hgo : ∀ (ps : List (Nat × List Nat)) (b : List (Int × Int)), (∀ p ∈ ps, (misUp xs cs p cs.length).map (phi xs.length) = offS xs.length cs (decO xs.length p) ∧ ∀ q ∈ misUp xs cs p cs.length, RdOk xs.length q) → (∀ q ∈ b, RdOk xs.length q) →
          (ps.foldl (mistStep xs cs) (b, true)).1.map (phi xs.length) = bestF (b.map (phi xs.length)) ((ps.map (decO xs.length)).map (offS xs.length cs)) ∧ ∀ q ∈ (ps.foldl (mistStep xs cs) (b, true)).1, RdOk xs.length q := fun ps => by
        induction ps with
        | nil => exact fun b _ hb => ⟨rfl, hb⟩
        | cons p ps ih =>
          intro b hps hb
          obtain ⟨k1, k2⟩ := hps p (List.mem_cons_self ..)
          have hl := ltRd_ltK h5 k2 hb
          rw [k1] at hl
          have e : mistStep xs cs (b, true) p = (if ltK (offS xs.length cs (decO xs.length p)) (b.map (phi xs.length)) then misUp xs cs p cs.length else b, true) := by
            unfold mistStep
            rw [← hl]
            cases ltRd (misUp xs cs p cs.length) b <;> rfl
          rw [List.foldl_cons, e]
          have hb' : ∀ q ∈ (if ltK (offS xs.length cs (decO xs.length p)) (b.map (phi xs.length)) then misUp xs cs p cs.length else b), RdOk xs.length q := by
            split
            · exact k2
            · exact hb
          obtain ⟨j1, j2⟩ := ih _ (fun p hp => hps p (List.mem_cons_of_mem _ hp)) hb'
          refine ⟨?_, j2⟩
          rw [j1]
          simp only [List.map_cons, bestF, List.foldl_cons]
          congr 1
          split
          · exact k1
          · rfl
      obtain ⟨j1, j2⟩ := hgo ps _ (fun p hp => hall p (List.mem_cons_of_mem _ hp)) g2
      rw [← g1, ← j1, List.map_map]
      symm
      conv => rhs; rw [← List.map_id (List.foldl (mistStep xs cs) (misUp xs cs p0 cs.length, true) ps).1]
      apply List.map_congr_left
      intro q hq
      obtain ⟨q1, q2, q3, q4⟩ := j2 q hq
      simp only [Function.comp, id, phi]
      have hn : (0 : Int) < xs.length := by omega
      have hnn : 0 ≤ q.1 * (xs.length : Int) := Int.mul_nonneg q1 (by omega)
      apply Prod.ext
      · simp only
        rw [Int.tdiv_eq_ediv_of_nonneg (by omega), Int.add_comm, Int.add_mul_ediv_right _ _ (by omega), Int.ediv_eq_zero_of_lt q3 q4, Int.zero_add]
      · simp only
        rw [Int.tmod_eq_emod_of_nonneg (by omega), Int.add_comm, Int.add_mul_emod_self_right, Int.emod_eq_of_lt q3 q4]
  · rw [if_pos hk, if_pos hk]
end Go.Ab.StF
