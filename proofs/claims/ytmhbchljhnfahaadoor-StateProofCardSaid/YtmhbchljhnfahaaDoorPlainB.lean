/-
  THE STATE FAMILY, PLAIN LAW, PART E: lists compared, sets as lists, the smallest set that does; Proof and Wrong.
  THE STATE FAMILY, PLAIN LAW, PART G: Wrong and Mistaken.
-/
import Derived.Test.YtmhbchljhnfahaaDoorPlainA
import Derived.Test.YtmhbchljhnfahaaDoorRefA
namespace Go.Ab.StF
open Go Go.Ab Go.Proofs

/-! ### Lists compared -/

/-- Does a list come before another one, number by number? -/
def befL : List Int → List Int → Bool
  | [], [] => false
  | [], _ :: _ => true
  | _ :: _, [] => false
  | x :: xs, y :: ys => if x = y then befL xs ys else decide (x < y)

def ltK (a b : List Int) : Bool := decide (a.length < b.length) || (decide (a.length = b.length) && befL a b)

theorem befL_irr : ∀ a, befL a a = false
  | [] => rfl
  | x :: xs => by simp [befL, befL_irr xs]

theorem befL_trans : ∀ (a b c : List Int), befL a b = true → befL b c = true → befL a c = true
  | [], [], c, h, _ => by cases h
  | [], _ :: _, [], _, h => by cases h
  | [], _ :: _, _ :: _, _, _ => rfl
  | _ :: _, [], _, h, _ => by cases h
  | _ :: _, _ :: _, [], _, h => by cases h
  | x :: xs, y :: ys, z :: zs, h1, h2 => by
    simp only [befL] at h1 h2 ⊢
    by_cases e1 : x = y
    · subst e1
      rw [if_pos rfl] at h1
      by_cases e2 : x = z
      · rw [if_pos e2] at h2 ⊢; exact befL_trans _ _ _ h1 h2
      · rw [if_neg e2] at h2 ⊢; exact h2
    · rw [if_neg e1] at h1
      have h1 := of_decide_eq_true h1
      by_cases e2 : y = z
      · subst e2; rw [if_neg e1]; exact decide_eq_true h1
      · rw [if_neg e2] at h2
        have h2 := of_decide_eq_true h2
        rw [if_neg (by omega)]; exact decide_eq_true (by omega)

theorem befL_total : ∀ (a b : List Int), a.length = b.length → befL a b = false → befL b a = false → a = b
  | [], [], _, _, _ => rfl
  | [], _ :: _, h, _, _ => by simp at h
  | _ :: _, [], h, _, _ => by simp at h
  | x :: xs, y :: ys, h, h1, h2 => by
    simp only [befL] at h1 h2
    by_cases e : x = y
    · subst e
      rw [if_pos rfl] at h1 h2
      rw [befL_total xs ys (by simpa using h) h1 h2]
    · rw [if_neg e] at h1
      rw [if_neg (Ne.symm e)] at h2
      have h1 := of_decide_eq_false h1
      have h2 := of_decide_eq_false h2
      omega

theorem ltK_iff {a b : List Int} : ltK a b = true ↔ a.length < b.length ∨ (a.length = b.length ∧ befL a b = true) := by
  unfold ltK; simp
theorem ltK_irr (a : List Int) : ltK a a = false := by rw [Bool.eq_false_iff, Ne, ltK_iff, befL_irr]; simp
theorem ltK_trans {a b c : List Int} (h1 : ltK a b = true) (h2 : ltK b c = true) : ltK a c = true := by
  rw [ltK_iff] at *
  rcases h1 with h1 | ⟨h1, g1⟩ <;> rcases h2 with h2 | ⟨h2, g2⟩
  · exact .inl (by omega)
  · exact .inl (by omega)
  · exact .inl (by omega)
  · exact .inr ⟨by omega, befL_trans _ _ _ g1 g2⟩
theorem ltK_asymm {a b : List Int} (h : ltK a b = true) : ltK b a = false := by
  rw [Bool.eq_false_iff]; intro h2
  have := ltK_trans h h2
  rw [ltK_irr] at this; cases this
theorem ltK_total {a b : List Int} (h1 : ltK a b = false) (h2 : ltK b a = false) : a = b := by
  rw [Bool.eq_false_iff, Ne, ltK_iff] at h1 h2
  have hl : a.length = b.length := by omega
  refine befL_total a b hl ?_ ?_
  · rw [Bool.eq_false_iff]; exact fun h => h1 (.inr ⟨hl, h⟩)
  · rw [Bool.eq_false_iff]; exact fun h => h2 (.inr ⟨hl.symm, h⟩)
theorem ltK_le {a b c : List Int} (h1 : ltK a b = true) (h2 : ltK c b = false) : ltK a c = true := by
  cases h3 : ltK b c with
  | true => exact ltK_trans h1 h3
  | false => rw [← ltK_total h3 h2]; exact h1

theorem cmpL_cons (x y : Int) (xs ys : List Int) : cmpL cmpI (x :: xs) (y :: ys) = if x = y then cmpL cmpI xs ys else if x < y then -1 else 1 := by
  simp only [cmpL]
  by_cases e : x = y
  · subst e
    have h0 : cmpI x x = 0 := by unfold cmpI; simp
    rw [if_neg (by simp [h0]), if_pos rfl]
  · have hc : cmpI x y = if x < y then -1 else 1 := by
      unfold cmpI
      by_cases h : x < y
      · rw [if_pos h, if_pos h]
      · rw [if_neg h, if_neg h, if_pos (by omega)]
    rw [if_neg e, hc]
    by_cases h : x < y
    · rw [if_pos h]; simp
    · rw [if_neg h]; simp
theorem cmpL_gt' : ∀ (a b : List Int), cmpL cmpI a b > 0 ↔ befL b a = true
  | [], [] => by decide
  | [], _ :: _ => by simp [cmpL, befL]
  | _ :: _, [] => by simp [cmpL, befL]
  | x :: xs, y :: ys => by
    rw [cmpL_cons, befL]
    by_cases e : x = y
    · rw [if_pos e, if_pos e.symm]; exact cmpL_gt' xs ys
    · rw [if_neg e, if_neg (Ne.symm e), decide_eq_true_eq]
      by_cases h : x < y
      · rw [if_pos h]; simp; omega
      · rw [if_neg h]; simp; omega
theorem cmpL_gt (a b : List Int) : decide (cmpL cmpI a b > 0) = befL b a := by rw [Bool.eq_iff_iff, decide_eq_true_eq]; exact cmpL_gt' a b

theorem skipB_ltK (s : List Int × Bool) (l : List Int) : skipB s l = (s.2 && ltK s.1 l) := by
  unfold skipB ltK
  rw [cmpL_gt]
  congr 2
  · exact decide_eq_decide.2 (by omega)
  · congr 1
    rw [Bool.eq_iff_iff]; simp; omega

/-! ### Sets as lists -/

theorem lowbit {k m j : Nat} : ((2 ^ k * (2 * m + 1)) &&& (2 ^ k * (2 * m + 1) - 1)).testBit j = ((2 ^ k * (2 * m + 1)).testBit j && !decide (j = k)) := by
  have hp := Nat.two_pow_pos k
  have e1 : 2 ^ k * (2 * m + 1) = 2 ^ k * (2 * m + 1) + 0 := rfl
  have e2 : 2 ^ k * (2 * m + 1) - 1 = 2 ^ k * (2 * m) + (2 ^ k - 1) := by rw [Nat.mul_add, Nat.mul_one]; omega
  rw [Nat.testBit_and, e2, Nat.testBit_two_pow_mul_add _ (show 2 ^ k - 1 < 2 ^ k by omega), e1, Nat.testBit_two_pow_mul_add _ hp]
  rcases Nat.lt_trichotomy j k with h | h | h
  · simp [h]
  · subst h; simp
  · rw [if_neg (by omega), if_neg (by omega)]
    obtain ⟨d, hd⟩ : ∃ d, j - k = d + 1 := ⟨j - k - 1, by omega⟩
    rw [hd, Nat.testBit_add_one, Nat.testBit_add_one, show (2 * m + 1) / 2 = m by omega, show 2 * m / 2 = m by omega]
    simp; omega

theorem low_test {k m j : Nat} : (2 ^ k * (2 * m + 1)).testBit j = if j < k then false else (2 * m + 1).testBit (j - k) := by
  have := Nat.testBit_two_pow_mul_add (2 * m + 1) (Nat.two_pow_pos k) j
  rw [Nat.add_zero] at this
  rw [this]; simp

/-- The members of a set, ascending. -/
theorem bitsL_filter : ∀ (n : Nat), n < 2 ^ 64 → bitsL n = (List.range 64).filter n.testBit := by
  intro n
  induction n using Nat.strongRecOn with
  | _ n ih =>
    intro hn
    by_cases h0 : n = 0
    · subst h0
      rw [bitsL_zero]
      symm
      rw [List.filter_eq_nil_iff]
      intro a _
      simp
    · have hlt := and_pred_lt h0
      rw [bitsL_pos h0, ih _ hlt (by omega)]
      obtain ⟨m, hm, hk⟩ := Lib.ctzFrom_spec 64 n (by omega) hn
      have hc : Lib.ctz 64 n = Lib.ctzFrom 64 n := by unfold Lib.ctz; rw [if_neg h0]
      rw [hc]
      generalize Lib.ctzFrom 64 n = k at hm hk
      have hb : ∀ j, (n &&& (n - 1)).testBit j = (n.testBit j && !decide (j = k)) := fun j => by rw [hm]; exact lowbit
      have hf : ∀ j, n.testBit j = if j < k then false else (2 * m + 1).testBit (j - k) := fun j => by rw [hm]; exact low_test
      have er : List.range 64 = List.range k ++ k :: List.range' (k + 1) (63 - k) := by
        rw [List.range_eq_range', List.range_eq_range', show 64 = k + (63 - k + 1) by omega, ← List.range'_append_1, Nat.zero_add, List.range'_succ]
      have hlow : ∀ q : Nat → Bool, (∀ j, j < k → q j = false) → (List.range k).filter q = [] := fun q hq => by
        rw [List.filter_eq_nil_iff]
        intro a ha
        rw [hq a (List.mem_range.1 ha)]; simp
      rw [er, List.filter_append, List.filter_append, hlow _ (fun j hj => by rw [hb, hf, if_pos hj]; rfl), hlow _ (fun j hj => by rw [hf, if_pos hj]), List.nil_append, List.nil_append,
        List.filter_cons, List.filter_cons]
      have hk1 : n.testBit k = true := by rw [hf, if_neg (by omega), Nat.sub_self, Nat.testBit_zero]; simp
      rw [hk1, hb k, if_neg (by simp), if_pos rfl]
      congr 1
      apply List.filter_congr
      intro j hj
      have := (List.mem_range'_1.1 hj).1
      rw [hb, show decide (j = k) = false from decide_eq_false (by omega)]; simp

theorem filter_low {c : Nat} (p : Nat → Bool) : ∀ d, (List.range (c + d)).filter (fun j => decide (j < c) && p j) = (List.range c).filter p
  | 0 => by
    rw [Nat.add_zero]
    apply List.filter_congr
    intro j hj
    simp [List.mem_range.1 hj]
  | d + 1 => by
    rw [← Nat.add_assoc, List.range_succ, List.filter_append, filter_low p d]
    simp
    omega

/-- Of a set below a number. -/
theorem bitsL_below {n c : Nat} (hc : c ≤ 64) (hn : n < 2 ^ c) : bitsL n = (List.range c).filter n.testBit := by
  have hn64 : n < 2 ^ 64 := Nat.lt_of_lt_of_le hn (Nat.pow_le_pow_right (by omega) hc)
  rw [bitsL_filter n hn64]
  obtain ⟨d, hd⟩ : ∃ d, 64 = c + d := ⟨64 - c, by omega⟩
  rw [hd, ← filter_low (c := c) n.testBit d]
  apply List.filter_congr
  intro j _
  by_cases h : j < c
  · simp [h]
  · rw [Nat.testBit_lt_two_pow (Nat.lt_of_lt_of_le hn (Nat.pow_le_pow_right (by omega) (by omega)))]; simp

theorem bitsO_lt {l : List Nat} {c : Nat} (h : ∀ x ∈ l, x < c) : bitsO l < 2 ^ c := by
  apply Nat.lt_pow_two_of_testBit
  intro i hi
  rw [bitsO_test, Bool.eq_false_iff, Ne, List.contains_iff_mem]
  intro hm
  have := h i hm
  omega

/-- Ascending lists are the lists of sets. -/
theorem bitsL_bitsO {c : Nat} (hc : c ≤ 64) (p : Nat → Bool) : bitsL (bitsO ((List.range c).filter p)) = (List.range c).filter p := by
  rw [bitsL_below hc (bitsO_lt fun x hx => List.mem_range.1 (List.mem_filter.1 hx).1)]
  apply List.filter_congr
  intro j hj
  rw [bitsO_test, Bool.eq_iff_iff, List.contains_iff_mem, List.mem_filter]
  exact ⟨fun h => h.2, fun h => ⟨hj, h⟩⟩

/-- What the search for the smallest set finds. -/
theorem few_spec (does : Nat → Bool) : ∀ n, ((few does n).2 = false ∧ (few does n).1 = [] ∧ ∀ m, m < n → does m = false) ∨
    ((few does n).2 = true ∧ ∃ m, m < n ∧ does m = true ∧ (few does n).1 = natsV (bitsL m) ∧ ∀ m', m' < n → does m' = true → ltK (natsV (bitsL m')) (natsV (bitsL m)) = false)
  | 0 => .inl ⟨rfl, rfl, fun m h => by omega⟩
  | n + 1 => by
    rw [few_succ, fewStep, skipB_ltK]
    rcases few_spec does n with ⟨h1, h2, h3⟩ | ⟨h1, m, hm, h2, h3, h4⟩
    · rw [h1, Bool.false_and, if_neg (by simp)]
      cases hd : does n with
      | true =>
        rw [if_pos rfl]
        refine .inr ⟨rfl, n, by omega, hd, rfl, fun m' hm' hd' => ?_⟩
        by_cases e : m' = n
        · subst e; exact ltK_irr _
        · rw [h3 m' (by omega)] at hd'; cases hd'
      | false =>
        rw [if_neg (by simp)]
        refine .inl ⟨h1, h2, fun m' hm' => ?_⟩
        by_cases e : m' = n
        · subst e; exact hd
        · exact h3 m' (by omega)
    · rw [h1, Bool.true_and, h3]
      cases hk : ltK (natsV (bitsL m)) (natsV (bitsL n)) with
      | true =>
        rw [if_pos rfl]
        refine .inr ⟨h1, m, by omega, h2, h3, fun m' hm' hd' => ?_⟩
        by_cases e : m' = n
        · subst e; exact ltK_asymm hk
        · exact h4 m' (by omega) hd'
      | false =>
        rw [if_neg (by simp)]
        cases hd : does n with
        | false =>
          rw [if_neg (by simp)]
          refine .inr ⟨h1, m, by omega, h2, h3, fun m' hm' hd' => ?_⟩
          by_cases e : m' = n
          · subst e; rw [hd] at hd'; cases hd'
          · exact h4 m' (by omega) hd'
        | true =>
          rw [if_pos rfl]
          refine .inr ⟨rfl, n, by omega, hd, rfl, fun m' hm' hd' => ?_⟩
          by_cases e : m' = n
          · subst e; exact ltK_irr _
          · have h5 := h4 m' (by omega) hd'
            cases h6 : ltK (natsV (bitsL m')) (natsV (bitsL n)) with
            | false => rfl
            | true => rw [ltK_le h6 hk] at h5; cases h5

/-! ### All orders -/

theorem firR_ne : ∀ (ks b : List Int), (∀ k ∈ ks, 0 ≤ k ∧ k ≤ 2) → firR ks b ≠ []
  | [], b, _ => by simp [firR]
  | k :: ks, b, h => by
    have h1 := firR_ne ks (b ++ [1]) fun x hx => h x (List.mem_cons_of_mem _ hx)
    have h2 := firR_ne ks (b ++ [2]) fun x hx => h x (List.mem_cons_of_mem _ hx)
    have h3 : k = 0 ∨ k = 1 ∨ k = 2 := by have := h k (List.mem_cons_self ..); omega
    simp only [firR, List.flatMap_cons, List.flatMap_nil, List.append_nil]
    rcases h3 with rfl | rfl | rfl <;> simp [h1, h2]

theorem allL_ne {xs : List (ByteArray × Int)} (h : ∀ x ∈ xs, 0 ≤ x.2 ∧ x.2 ≤ 2) : allL xs ≠ [] := by
  have h1 := firR_ne (xs.map Prod.snd) [] fun k hk => by
    obtain ⟨x, hx, rfl⟩ := List.mem_map.1 hk
    exact h x hx
  have h2 : List.range xs.length ∈ rowsR xs.length xs.length [] := perm_rowsR ⟨List.nodup_range, fun x hx => List.mem_range.1 hx, List.length_range⟩
  intro e
  cases hf : firR (xs.map Prod.snd) [] with
  | nil => exact h1 hf
  | cons f l =>
    have : (f, natsV (List.range xs.length)) ∈ allL xs := by
      unfold allL
      rw [hf, List.mem_flatMap]
      exact ⟨f, List.mem_cons_self .., List.mem_map_of_mem h2⟩
    rw [e] at this; cases this

/-! ### Proof -/

/-- Has a list of copies one that does not agree with an order? -/
def hitsB (cs : List (ByteArray × List Int)) (l : List Nat) (o : List Int × List Int) : Bool := l.any fun i => (amidL cs o).contains i

theorem amid_mem {cs : List (ByteArray × List Int)} {o : List Int × List Int} {i : Nat} : i ∈ amidL cs o ↔ i < cs.length ∧ (stpL (showsOf cs i) o.1 o.2).isEmpty = true := by
  unfold amidL; rw [List.mem_filter, List.mem_range]

theorem okS_hits {cs : List (ByteArray × List Int)} (hc : cs.length ≤ 64) {s : Nat} (hs : s < 2 ^ cs.length) (o : List Int × List Int) : okS cs s o = !hitsB cs (bitsL s) o := by
  unfold okS hitsB
  rw [bitsL_below hc hs, Bool.eq_iff_iff, List.all_eq_true, Bool.not_eq_true', List.any_eq_false]
  constructor
  · intro h i hi hm
    obtain ⟨h1, h2⟩ := List.mem_filter.1 hi
    have := h i h1
    rw [h2] at this
    rw [List.contains_iff_mem, amid_mem] at hm
    rw [hm.2] at this
    cases this
  · intro h i hi
    cases hb : s.testBit i with
    | false => rfl
    | true =>
      have := h i (List.mem_filter.2 ⟨hi, hb⟩)
      rw [List.contains_iff_mem, amid_mem] at this
      cases he : (stpL (showsOf cs i) o.1 o.2).isEmpty with
      | false => rfl
      | true => exact absurd ⟨List.mem_range.1 hi, he⟩ this

theorem ordS_none {xs : List (ByteArray × Int)} {cs : List (ByteArray × List Int)} (hv : Valid xs cs) {s : Nat} (hs : s < 2 ^ cs.length) : emptyB (ordS xs cs s) = (allL xs).all (hitsB cs (bitsL s)) := by
  have h := ordS_dec hv s
  have he : emptyB (ordS xs cs s) = ((allL xs).filter (okS cs s)).isEmpty := by
    rw [← h]
    cases ordS xs cs s <;> rfl
  rw [he, Bool.eq_iff_iff, List.isEmpty_iff, List.filter_eq_nil_iff, List.all_eq_true]
  have hc : cs.length ≤ 64 := by have := hv.c8; omega
  constructor
  · intro g o ho
    have := g o ho
    rw [okS_hits hc hs] at this
    simpa using this
  · intro g o ho
    rw [okS_hits hc hs, g o ho]; simp

/-- All ascending lists of so many numbers. -/
def listsL : Nat → Nat → Nat → List (List Nat)
  | _, _, 0 => [[]]
  | f, b, m + 1 => (List.range' f (b - (f + m))).flatMap fun k => (listsL (k + 1) b m).map fun l => k :: l

def proofS (xs : List (ByteArray × Int)) (cs : List (ByteArray × List Int)) : List Int × Int :=
  if (chk xs cs).2.2 ≠ 0 then ([], (chk xs cs).2.2) else if (allL xs).any (fun o => (amidL cs o).isEmpty) then ([], 4) else
  match ((List.range cs.length).flatMap fun m => listsL 0 cs.length (m + 1)).find? (fun l => (allL xs).all (hitsB cs l)) with
  | some l => (natsV l, 0)
  | none => ([], 4)

/-- Ascending, and within bounds. -/
def Asc (f b : Nat) (l : List Nat) : Prop := l.Pairwise (· < ·) ∧ ∀ x ∈ l, f ≤ x ∧ x < b

theorem listsL_mem : ∀ (m f b : Nat) (l : List Nat), l ∈ listsL f b m ↔ l.length = m ∧ Asc f b l
  | 0, f, b, l => by
    simp only [listsL, List.mem_singleton]
    constructor
    · rintro rfl; exact ⟨rfl, .nil, fun x h => by cases h⟩
    · rintro ⟨h, _⟩; exact List.eq_nil_of_length_eq_zero h
  | m + 1, f, b, l => by
    simp only [listsL, List.mem_flatMap, List.mem_map, List.mem_range'_1]
    constructor
    · rintro ⟨k, hk, l', hl', rfl⟩
      obtain ⟨h1, h2, h3⟩ := (listsL_mem m (k + 1) b l').1 hl'
      refine ⟨by simp [h1], List.pairwise_cons.2 ⟨fun x hx => by have := h3 x hx; omega, h2⟩, fun x hx => ?_⟩
      rcases List.mem_cons.1 hx with rfl | hx
      · omega
      · have := h3 x hx; omega
    · rintro ⟨h1, h2, h3⟩
      cases l with
      | nil => simp at h1
      | cons k l' =>
        obtain ⟨h4, h5⟩ := List.pairwise_cons.1 h2
        have hl' : l' ∈ listsL (k + 1) b m := (listsL_mem m (k + 1) b l').2 ⟨by simpa using h1, h5, fun x hx => ⟨by have := h4 x hx; omega, (h3 x (List.mem_cons_of_mem _ hx)).2⟩⟩
        refine ⟨k, ?_, l', hl', rfl⟩
        have hk := h3 k (List.mem_cons_self ..)
        have hlen : l'.length = m := by simpa using h1
        -- m numbers lie above k and below b
        have hb : ∀ (l : List Nat) (k : Nat), l.Pairwise (· < ·) → (∀ x ∈ l, k < x ∧ x < b) → k < b → k + l.length < b := fun l => by
          induction l with
          | nil => intro k _ _ h; simpa using h
          | cons y l ih =>
            intro k hp hx _
            obtain ⟨g1, g2⟩ := List.pairwise_cons.1 hp
            have hy := hx y (List.mem_cons_self ..)
            have := ih y g2 (fun x hx' => ⟨g1 x hx', (hx x (List.mem_cons_of_mem _ hx')).2⟩) hy.2
            simp; omega
        have := hb l' k h5 (fun x hx => ⟨h4 x hx, (h3 x (List.mem_cons_of_mem _ hx)).2⟩) hk.2
        omega

theorem listsL_sorted : ∀ (m f b : Nat), (listsL f b m).Pairwise fun a c => befL (natsV a) (natsV c) = true
  | 0, f, b => List.pairwise_singleton ..
  | m + 1, f, b => by
    rw [listsL, List.pairwise_flatMap]
    refine ⟨fun k _ => ?_, ?_⟩
    · rw [List.pairwise_map]
      refine (listsL_sorted m (k + 1) b).imp fun {a c} h => ?_
      simp only [natsV, List.map_cons, befL, if_true]
      exact h
    · refine List.Pairwise.imp ?_ (List.pairwise_lt_range' (s := f) (n := b - (f + m)) (step := 1))
      intro k k' hk a ha c hc
      obtain ⟨a', _, rfl⟩ := List.mem_map.1 ha
      obtain ⟨c', _, rfl⟩ := List.mem_map.1 hc
      simp only [natsV, List.map_cons, befL]
      rw [if_neg (by omega)]
      exact decide_eq_true (by omega)

theorem lists_sorted (c : Nat) : ((List.range c).flatMap fun m => listsL 0 c (m + 1)).Pairwise fun a b => ltK (natsV a) (natsV b) = true := by
  rw [List.pairwise_flatMap]
  refine ⟨fun m _ => ?_, ?_⟩
  · have hl : ∀ l ∈ listsL 0 c (m + 1), l.length = m + 1 := fun l hl => ((listsL_mem _ _ _ _).1 hl).1
    refine List.Pairwise.imp_of_mem ?_ (listsL_sorted (m + 1) 0 c)
    intro a b ha hb h
    rw [ltK_iff]
    exact .inr ⟨by simp [hl a ha, hl b hb], h⟩
  · refine List.Pairwise.imp ?_ (List.pairwise_lt_range (n := c))
    intro m m' hm a ha b hb
    have h1 := ((listsL_mem _ _ _ _).1 ha).1
    have h2 := ((listsL_mem _ _ _ _).1 hb).1
    rw [ltK_iff]
    exact .inl (by simp [h1, h2]; omega)

theorem asc_filter {c : Nat} {l : List Nat} (h : Asc 0 c l) : l = (List.range c).filter fun j => l.contains j := by
  have h2 : ((List.range c).filter fun j => l.contains j).Pairwise (· < ·) := List.Pairwise.sublist List.filter_sublist (List.pairwise_lt_range (n := c))
  refine List.Perm.eq_of_pairwise (le := (· ≤ ·)) (fun a b _ _ h1 h2 => Nat.le_antisymm h1 h2) (h.1.imp fun h => Nat.le_of_lt h) (h2.imp fun h => Nat.le_of_lt h) ?_
  rw [List.perm_ext_iff_of_nodup (h.1.imp fun h => Nat.ne_of_lt h) (h2.imp fun h => Nat.ne_of_lt h)]
  intro a
  rw [List.mem_filter, List.mem_range, List.contains_iff_mem]
  exact ⟨fun ha => ⟨(h.2 a ha).2, ha⟩, fun ha => ha.2⟩

theorem filter_asc {c : Nat} (p : Nat → Bool) : Asc 0 c ((List.range c).filter p) :=
  ⟨List.Pairwise.sublist List.filter_sublist (List.pairwise_lt_range (n := c)), fun _ hx => ⟨Nat.zero_le _, List.mem_range.1 (List.mem_filter.1 hx).1⟩⟩

theorem find_first {α : Type} {p : α → Bool} {R : α → α → Prop} : ∀ {l : List α} {a : α}, l.Pairwise R → l.find? p = some a → p a = true ∧ a ∈ l ∧ ∀ b ∈ l, p b = true → b = a ∨ R a b
  | [], a, _, h => by cases h
  | x :: l, a, hp, h => by
    obtain ⟨h1, h2⟩ := List.pairwise_cons.1 hp
    rw [List.find?_cons] at h
    cases hx : p x with
    | true =>
      rw [hx] at h
      obtain rfl : x = a := by simpa using h
      exact ⟨hx, List.mem_cons_self .., fun b hb _ => (List.mem_cons.1 hb).imp id (h1 b)⟩
    | false =>
      rw [hx] at h
      obtain ⟨g1, g2, g3⟩ := find_first h2 h
      refine ⟨g1, List.mem_cons_of_mem _ g2, fun b hb hpb => ?_⟩
      rcases List.mem_cons.1 hb with rfl | hb
      · rw [hx] at hpb; cases hpb
      · exact g3 b hb hpb

theorem proof_eq (xs : List (ByteArray × Int)) (cs : List (ByteArray × List Int)) : proofR xs cs = proofS xs cs := by
  unfold proofR proofS
  by_cases hk : (chk xs cs).2.2 = 0
  · have hk' : ¬ ((chk xs cs).2.2 ≠ 0) := fun h => h hk
    have hv := chk_valid hk
    have hc : cs.length ≤ 64 := by have := hv.c8; omega
    have hne := allL_ne hv.fst
    rw [if_neg hk', if_neg hk']
    have hd : ∀ s, s < 2 ^ cs.length → (!!emptyB (ordS xs cs s)) = (allL xs).all (hitsB cs (bitsL s)) := fun s hs => by rw [Bool.not_not, ordS_none hv hs]
    have hset : ∀ l, Asc 0 cs.length l → bitsO l < 2 ^ cs.length ∧ bitsL (bitsO l) = l := fun l hl => by
      refine ⟨bitsO_lt fun x hx => (hl.2 x hx).2, ?_⟩
      have := bitsL_bitsO hc fun j => l.contains j
      rwa [← asc_filter hl] at this
    have hmem : ∀ l, l ∈ ((List.range cs.length).flatMap fun m => listsL 0 cs.length (m + 1)) ↔ l ≠ [] ∧ Asc 0 cs.length l := fun l => by
      rw [List.mem_flatMap]
      constructor
      · rintro ⟨m, _, hl⟩
        obtain ⟨h1, h2⟩ := (listsL_mem _ _ _ _).1 hl
        exact ⟨fun e => by rw [e] at h1; simp at h1, h2⟩
      · rintro ⟨h1, h2⟩
        have hle : l.length ≤ cs.length := by
          have := List.Nodup.length_le_of_subset (l₂ := List.range cs.length) (h2.1.imp fun h => Nat.ne_of_lt h) fun x hx => List.mem_range.2 (h2.2 x hx).2
          simpa using this
        have hpos : 0 < l.length := List.length_pos_iff.2 h1
        exact ⟨l.length - 1, List.mem_range.2 (by omega), (listsL_mem _ _ _ _).2 ⟨by omega, h2⟩⟩
    have hnil : (allL xs).all (hitsB cs []) = false := by
      rw [Bool.eq_false_iff]
      intro h
      rw [List.all_eq_true] at h
      cases hA : allL xs with
      | nil => exact hne hA
      | cons o l => have := h o (by rw [hA]; exact List.mem_cons_self ..); cases this
    have hsp := few_spec (fun s => !!emptyB (ordS xs cs s)) (2 ^ cs.length)
    show (if (few (fun s => !!emptyB (ordS xs cs s)) (2 ^ cs.length)).2 = true then ((few (fun s => !!emptyB (ordS xs cs s)) (2 ^ cs.length)).1, (0 : Int)) else ([], 4)) = _
    generalize few (fun s => !!emptyB (ordS xs cs s)) (2 ^ cs.length) = fw at hsp ⊢
    cases hany : (allL xs).any fun o => (amidL cs o).isEmpty with
    | true =>
      rw [if_pos (show (true : Bool) = true from rfl)]
      obtain ⟨o, ho, he⟩ := List.any_eq_true.1 hany
      have hno : ∀ s, s < 2 ^ cs.length → (!!emptyB (ordS xs cs s)) = false := fun s hs => by
        rw [hd s hs, Bool.eq_false_iff]
        intro h
        have := List.all_eq_true.1 h o ho
        unfold hitsB at this
        rw [List.isEmpty_iff.1 he] at this
        simp at this
      rcases hsp with ⟨h1, _, _⟩ | ⟨_, m, hm, h2, _⟩
      · rw [h1]; rfl
      · rw [hno m hm] at h2; cases h2
    | false =>
      rw [if_neg (show ¬ ((false : Bool) = true) by simp)]
      cases hf : ((List.range cs.length).flatMap fun m => listsL 0 cs.length (m + 1)).find? fun l => (allL xs).all (hitsB cs l) with
      | none =>
        have hno : ∀ s, s < 2 ^ cs.length → (!!emptyB (ordS xs cs s)) = false := fun s hs => by
          rw [hd s hs, Bool.eq_false_iff]
          intro h
          rw [List.find?_eq_none] at hf
          by_cases e : bitsL s = []
          · rw [e, hnil] at h; cases h
          · exact hf (bitsL s) ((hmem _).2 ⟨e, by rw [bitsL_below hc hs]; exact filter_asc _⟩) h
        rcases hsp with ⟨h1, _, _⟩ | ⟨_, m, hm, h2, _⟩
        · rw [h1]; rfl
        · rw [hno m hm] at h2; cases h2
      | some l =>
        obtain ⟨h1, h2, h3⟩ := find_first (lists_sorted cs.length) hf
        obtain ⟨hl0, hl1⟩ := (hmem l).1 h2
        obtain ⟨g1, g2⟩ := hset l hl1
        rcases hsp with ⟨_, _, e3⟩ | ⟨e1, m, hm, e2, e3, e4⟩
        · have := e3 _ g1
          rw [hd _ g1, g2, h1] at this; cases this
        · rw [e1, if_pos rfl, e3]
          have hm1 : (allL xs).all (hitsB cs (bitsL m)) = true := by rw [← hd m hm]; exact e2
          have hmn : bitsL m ≠ [] := fun e => by rw [e, hnil] at hm1; cases hm1
          have h5 := e4 _ g1 (by show (!!emptyB (ordS xs cs (bitsO l))) = true; rw [hd _ g1, g2, h1])
          rw [g2] at h5
          have h6 := h3 (bitsL m) ((hmem _).2 ⟨hmn, by rw [bitsL_below hc hm]; exact filter_asc _⟩) hm1
          rcases h6 with h6 | h6
          · rw [h6]
          · rw [h6] at h5; cases h5
  · rw [if_pos hk, if_pos hk]
end Go.Ab.StF

namespace Go.Ab.StF
open Go Go.Ab Go.Proofs

/-- The least of some lists. -/
def bestF (l0 : List Int) (ls : List (List Int)) : List Int := ls.foldl (fun b l => if ltK l b then l else b) l0

def wrongS (xs : List (ByteArray × Int)) (cs : List (ByteArray × List Int)) : List Int × Int :=
  if (chk xs cs).2.2 ≠ 0 then ([], (chk xs cs).2.2) else
  (bestF (natsV (amidL cs ((allL xs).headD ([], [])))) ((allL xs).tail.map fun o => natsV (amidL cs o)), 0)

/-! ### Mistaken -/

/-- The fewest readings of a copy that are not so in an order, as loci. -/
def bestK (ss : List Int) (o : List Int × List Int) (n : Nat) : List Int := bestF (natsV (amiL ss (stateS 0 o))) ((List.range n).map fun k => natsV (amiL ss (stateS (k + 1) o)))

/-- The fewest mistaken readings, as a number each. -/
def offS (n : Nat) (cs : List (ByteArray × List Int)) (o : List Int × List Int) : List Int := (List.range cs.length).flatMap fun i => (bestK (showsOf cs i) o n).map fun k => (i : Int) * n + k

def mistS (xs : List (ByteArray × Int)) (cs : List (ByteArray × List Int)) : List (Int × Int) × Int :=
  if (chk xs cs).2.2 ≠ 0 then ([], (chk xs cs).2.2) else
  ((bestF (offS xs.length cs ((allL xs).headD ([], []))) ((allL xs).tail.map (offS xs.length cs))).map fun x => (x.tdiv xs.length, x.tmod xs.length), 0)

def phi (n : Nat) (p : Int × Int) : Int := p.1 * n + p.2

/-- Readings, within bounds. -/
def RdOk (n : Nat) (p : Int × Int) : Prop := 0 ≤ p.1 ∧ p.1 < 1000 ∧ 0 ≤ p.2 ∧ p.2 < n

end Go.Ab.StF
