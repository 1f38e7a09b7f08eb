/-
  THE STATE FAMILY, OUTRIGHT LAWS, PLAIN PART A: which orders there are, in which order; what a valid forme is.
  THE STATE FAMILY, OUTRIGHT LAWS, PLAIN PART B: what is sure, for any orders that agree.
-/
import Derived.Test.YtmhbchljhnfahaaDoorPlainB
namespace Go.Ab.StF
open Go Go.Ab

/-! ### Orders of a forme -/

def firOk : List Int → List Int → Bool
  | [], [] => true
  | k :: ks, x :: w => (x == 1 || x == 2) && (k == 0 || k == x) && firOk ks w
  | _, _ => false

theorem firR_mem : ∀ (ks b v : List Int), v ∈ firR ks b ↔ ∃ w, v = b ++ w ∧ firOk ks w = true
  | [], b, v => by
    simp only [firR, List.mem_singleton]
    constructor
    · rintro rfl; exact ⟨[], by simp, rfl⟩
    · rintro ⟨w, rfl, h⟩
      cases w with
      | nil => simp
      | cons x w => cases h
  | k :: ks, b, v => by
    simp only [firR, List.mem_flatMap]
    constructor
    · rintro ⟨x, hx, h⟩
      split at h
      · rename_i hk
        obtain ⟨w, rfl, hw⟩ := (firR_mem ks _ v).1 h
        refine ⟨x :: w, by simp, ?_⟩
        have hx : x = 1 ∨ x = 2 := by simpa using hx
        simp only [firOk, hw, Bool.and_true, Bool.and_eq_true]
        exact ⟨by rcases hx with rfl | rfl <;> rfl, hk⟩
      · cases h
    · rintro ⟨w, rfl, h⟩
      cases w with
      | nil => cases h
      | cons x w =>
        simp only [firOk, Bool.and_eq_true] at h
        refine ⟨x, by simpa using h.1.1, ?_⟩
        rw [if_pos h.1.2]
        exact (firR_mem ks _ _).2 ⟨w, by simp, h.2⟩

theorem firOk_iff : ∀ (ks w : List Int), firOk ks w = true ↔ w.length = ks.length ∧ ∀ i, i < ks.length → (w.getD i 0 = 1 ∨ w.getD i 0 = 2) ∧ (ks.getD i 0 = 0 ∨ ks.getD i 0 = w.getD i 0)
  | [], [] => by simp [firOk]
  | [], _ :: _ => by simp [firOk]
  | _ :: _, [] => by simp [firOk]
  | k :: ks, x :: w => by
    simp only [firOk, Bool.and_eq_true, Bool.or_eq_true, beq_iff_eq, firOk_iff ks w, List.length_cons, Nat.add_right_cancel_iff]
    constructor
    · rintro ⟨⟨h1, h2⟩, h3, h4⟩
      refine ⟨h3, fun i hi => ?_⟩
      cases i with
      | zero => exact ⟨h1, h2⟩
      | succ i => exact h4 i (by omega)
    · rintro ⟨h1, h2⟩
      exact ⟨⟨(h2 0 (by omega)).1, (h2 0 (by omega)).2⟩, h1, fun i hi => h2 (i + 1) (by omega)⟩

/-- An order of a forme, whether it agrees or not. -/
structure Ord (xs : List (ByteArray × Int)) (o : List Int × List Int) : Prop where
  l : o.1.length = xs.length
  v : ∀ i, i < xs.length → (o.1.getD i 0 = 1 ∨ o.1.getD i 0 = 2)
  f : ∀ i, i < xs.length → (xs.getD i (ByteArray.empty, 0)).2 = 0 ∨ (xs.getD i (ByteArray.empty, 0)).2 = o.1.getD i 0
  p : ∃ p, Perm xs.length p ∧ o.2 = natsV p

theorem snd_get (xs : List (ByteArray × Int)) (i : Nat) : (xs.map Prod.snd).getD i 0 = (xs.getD i (ByteArray.empty, 0)).2 := by
  simp only [List.getD_eq_getElem?_getD, List.getElem?_map]
  cases xs[i]? <;> rfl

theorem mem_allL {xs : List (ByteArray × Int)} {o : List Int × List Int} : o ∈ allL xs ↔ Ord xs o := by
  unfold allL
  rw [List.mem_flatMap]
  constructor
  · rintro ⟨a, ha, h⟩
    obtain ⟨p, hp, rfl⟩ := List.mem_map.1 h
    obtain ⟨w, rfl, hw⟩ := (firR_mem _ _ _).1 ha
    obtain ⟨h1, h2⟩ := (firOk_iff _ _).1 hw
    rw [List.length_map] at h1 h2
    simp only [snd_get] at h2
    exact ⟨by simpa using h1, fun i hi => (h2 i hi).1, fun i hi => (h2 i hi).2, p, rowsR_perm hp, rfl⟩
  · rintro ⟨h1, h2, h3, p, hp, h4⟩
    refine ⟨o.1, (firR_mem _ _ _).2 ⟨o.1, rfl, (firOk_iff _ _).2 ⟨by rw [List.length_map]; exact h1, fun i hi => ?_⟩⟩, List.mem_map.2 ⟨p, perm_rowsR hp, by rw [← h4]⟩⟩
    rw [List.length_map] at hi
    rw [snd_get]
    exact ⟨h2 i hi, h3 i hi⟩

/-- Does an order come before another one? -/
def ordLt (a b : List Int × List Int) : Bool := if a.1 = b.1 then befL a.2 b.2 else befL a.1 b.1

/-! ### Copies that agree -/

/-- Does a copy agree with an order? -/
def fitsO (ss : List Int) (o : List Int × List Int) : Bool := !(stpL ss o.1 o.2).isEmpty

theorem fitsO_iff {ss : List Int} {o : List Int × List Int} : fitsO ss o = true ↔ ∃ k, k ≤ o.2.length ∧ fitB ss o.1 o.2 k = true := by
  unfold fitsO
  rw [Bool.not_eq_true', ← Bool.not_eq_true, List.isEmpty_iff]
  constructor
  · intro h
    obtain ⟨k, hk⟩ := List.exists_mem_of_ne_nil _ h
    unfold stpL at hk
    obtain ⟨h1, h2⟩ := List.mem_filter.1 hk
    exact ⟨k, by have := List.mem_range.1 h1; omega, h2⟩
  · rintro ⟨k, h1, h2⟩ h
    have : k ∈ stpL ss o.1 o.2 := List.mem_filter.2 ⟨List.mem_range.2 (by omega), h2⟩
    rw [h] at this; cases this

theorem amid_fits {cs : List (ByteArray × List Int)} {o : List Int × List Int} {i : Nat} : i ∈ amidL cs o ↔ i < cs.length ∧ fitsO (showsOf cs i) o = false := by
  rw [amid_mem]
  unfold fitsO
  simp

theorem amid_all (cs : List (ByteArray × List Int)) (o : List Int × List Int) : (amidL cs o).isEmpty = cs.all fun c => fitsO c.2 o := by
  rw [Bool.eq_iff_iff, List.isEmpty_iff, List.all_eq_true]
  constructor
  · intro h c hc
    obtain ⟨i, hi, rfl⟩ := List.mem_iff_getElem.1 hc
    cases hf : fitsO cs[i].2 o with
    | true => rfl
    | false =>
      have : i ∈ amidL cs o := amid_fits.2 ⟨hi, by rw [showsOf_eq hi]; exact hf⟩
      rw [h] at this; cases this
  · intro h
    refine List.eq_nil_iff_forall_not_mem.2 fun i hi => ?_
    obtain ⟨h1, h2⟩ := amid_fits.1 hi
    rw [showsOf_eq h1, h _ (List.getElem_mem h1)] at h2
    cases h2

theorem agrL_all (xs : List (ByteArray × Int)) (cs : List (ByteArray × List Int)) : agrL xs cs = (allL xs).filter fun o => cs.all fun c => fitsO c.2 o := by
  unfold agrL
  congr 1
  funext o
  exact amid_all cs o

theorem mem_agr {xs : List (ByteArray × Int)} {cs : List (ByteArray × List Int)} {o : List Int × List Int} : o ∈ agrL xs cs ↔ Ord xs o ∧ ∀ c ∈ cs, fitsO c.2 o = true := by
  rw [agrL_all, List.mem_filter, mem_allL, List.all_eq_true]

/-! ### Valid formes -/

/-- Names that all are names, no two alike. -/
structure NmOk (ns : List ByteArray) : Prop where
  nm : ∀ x ∈ ns, nameB x = true
  ne : ns.Pairwise fun a b => strEq a b = false

theorem chkL_iff : ∀ (ys pre : List (ByteArray × Int)) (i : Nat), chkL pre ys i = none ↔ (∀ y ∈ ys, nameB y.1 = true ∧ 0 ≤ y.2 ∧ y.2 ≤ 2) ∧ (∀ y ∈ ys, ∀ p ∈ pre, strEq p.1 y.1 = false) ∧ ys.Pairwise fun a b => strEq a.1 b.1 = false
  | [], pre, i => by simp [chkL]
  | y :: ys, pre, i => by
    have ho : ([y.2].any (outB 0 2)) = !decide (0 ≤ y.2 ∧ y.2 ≤ 2) := by simp [out_in, inB]
    rw [chkL, ho]
    have h2 : pre.any (fun p => strEq p.1 y.1) = true ↔ ¬ ∀ p ∈ pre, strEq p.1 y.1 = false := by
      rw [List.any_eq_true]
      constructor
      · rintro ⟨p, hp, h⟩ hh; rw [hh p hp] at h; cases h
      · intro hh
        apply Classical.byContradiction
        intro hn
        exact hh fun p hp => Bool.eq_false_iff.2 fun h => hn ⟨p, hp, h⟩
    constructor
    · intro h
      split at h
      · cases h
      · rename_i h1
        split at h
        · cases h
        · rename_i h3
          split at h
          · cases h
          · rename_i h4
            obtain ⟨g1, g2, g3⟩ := (chkL_iff ys _ _).1 h
            have h1 : nameB y.1 = true := by simpa using h1
            have h3 : ∀ p ∈ pre, strEq p.1 y.1 = false := Classical.byContradiction fun hh => h3 (h2.2 hh)
            have h4 : 0 ≤ y.2 ∧ y.2 ≤ 2 := by simpa using h4
            refine ⟨fun z hz => ?_, fun z hz p hp => ?_, List.pairwise_cons.2 ⟨fun z hz => g2 z hz y (by simp), g3⟩⟩
            · rcases List.mem_cons.1 hz with rfl | hz
              · exact ⟨h1, h4⟩
              · exact g1 z hz
            · rcases List.mem_cons.1 hz with rfl | hz
              · exact h3 p hp
              · exact g2 z hz p (by simp [hp])
    · rintro ⟨g1, g2, g3⟩
      obtain ⟨g4, g5⟩ := List.pairwise_cons.1 g3
      have h1 := g1 y (by simp)
      rw [if_neg (by rw [h1.1]; simp), if_neg (fun h => h2.1 h (g2 y (by simp))), if_neg (by simp [h1.2])]
      refine (chkL_iff ys _ _).2 ⟨fun z hz => g1 z (by simp [hz]), fun z hz p hp => ?_, g5⟩
      rcases List.mem_append.1 hp with hp | hp
      · exact g2 z (by simp [hz]) p hp
      · obtain rfl : p = y := by simpa using hp
        exact g4 z hz

theorem chkC_iff (n : Nat) : ∀ (ys pre : List (ByteArray × List Int)) (i : Nat), chkC n pre ys i = none ↔ (∀ y ∈ ys, nameB y.1 = true ∧ y.2.length = n ∧ ∀ v ∈ y.2, 0 ≤ v ∧ v ≤ 2) ∧ (∀ y ∈ ys, ∀ p ∈ pre, strEq p.1 y.1 = false) ∧ ys.Pairwise fun a b => strEq a.1 b.1 = false
  | [], pre, i => by simp [chkC]
  | y :: ys, pre, i => by
    have ho : y.2.any (outB 0 2) = true ↔ ¬ ∀ v ∈ y.2, 0 ≤ v ∧ v ≤ 2 := by
      rw [List.any_eq_true]
      constructor
      · rintro ⟨v, hv, h⟩ hh
        have := hh v hv
        rw [out_in] at h; simp [inB] at h; omega
      · intro hh
        apply Classical.byContradiction
        intro hn
        exact hh fun v hv => Classical.byContradiction fun h => hn ⟨v, hv, by rw [out_in]; simp [inB]; omega⟩
    rw [chkC]
    have h2 : pre.any (fun p => strEq p.1 y.1) = true ↔ ¬ ∀ p ∈ pre, strEq p.1 y.1 = false := by
      rw [List.any_eq_true]
      constructor
      · rintro ⟨p, hp, h⟩ hh; rw [hh p hp] at h; cases h
      · intro hh
        apply Classical.byContradiction
        intro hn
        exact hh fun p hp => Bool.eq_false_iff.2 fun h => hn ⟨p, hp, h⟩
    constructor
    · intro h
      split at h
      · cases h
      · rename_i h1
        split at h
        · cases h
        · rename_i h3
          split at h
          · cases h
          · rename_i h4
            split at h
            · cases h
            · rename_i h5
              obtain ⟨g1, g2, g3⟩ := (chkC_iff n ys _ _).1 h
              have h1 : nameB y.1 = true := by simpa using h1
              have h3 : ∀ p ∈ pre, strEq p.1 y.1 = false := Classical.byContradiction fun hh => h3 (h2.2 hh)
              have h4 : y.2.length = n := by simp at h4; omega
              have h5 : ∀ v ∈ y.2, 0 ≤ v ∧ v ≤ 2 := Classical.byContradiction fun hh => h5 (ho.2 hh)
              refine ⟨fun z hz => ?_, fun z hz p hp => ?_, List.pairwise_cons.2 ⟨fun z hz => g2 z hz y (by simp), g3⟩⟩
              · rcases List.mem_cons.1 hz with rfl | hz
                · exact ⟨h1, h4, h5⟩
                · exact g1 z hz
              · rcases List.mem_cons.1 hz with rfl | hz
                · exact h3 p hp
                · exact g2 z hz p (by simp [hp])
    · rintro ⟨g1, g2, g3⟩
      obtain ⟨g4, g5⟩ := List.pairwise_cons.1 g3
      have h1 := g1 y (by simp)
      rw [if_neg (by rw [h1.1]; simp), if_neg (fun h => h2.1 h (g2 y (by simp))), if_neg (by simp [h1.2.1]), if_neg (fun h => ho.1 h h1.2.2)]
      refine (chkC_iff n ys _ _).2 ⟨fun z hz => g1 z (by simp [hz]), fun z hz p hp => ?_, g5⟩
      rcases List.mem_append.1 hp with hp | hp
      · exact g2 z (by simp [hz]) p hp
      · obtain rfl : p = y := by simpa using hp
        exact g4 z hz

theorem chkL_err : ∀ (ys pre : List (ByteArray × Int)) (i : Nat) (r : Int × Int), chkL pre ys i = some r → r.2 ≠ 0
  | [], _, _, r, h => by cases h
  | y :: ys, pre, i, r, h => by
    rw [chkL] at h
    split at h
    · cases h; simp
    · split at h
      · cases h; simp
      · split at h
        · cases h; simp
        · exact chkL_err ys _ _ r h
theorem chkC_err (n : Nat) : ∀ (ys pre : List (ByteArray × List Int)) (i : Nat) (r : Int × Int), chkC n pre ys i = some r → r.2 ≠ 0
  | [], _, _, r, h => by cases h
  | y :: ys, pre, i, r, h => by
    rw [chkC] at h
    split at h
    · cases h; simp
    · split at h
      · cases h; simp
      · split at h
        · cases h; simp
        · split at h
          · cases h; simp
          · exact chkC_err n ys _ _ r h

structure LocOk (xs : List (ByteArray × Int)) : Prop where
  l1 : 1 ≤ xs.length
  l5 : xs.length ≤ 5
  nms : NmOk (xs.map Prod.fst)
  fst : ∀ x ∈ xs, 0 ≤ x.2 ∧ x.2 ≤ 2
structure CopOk (n : Nat) (cs : List (ByteArray × List Int)) : Prop where
  c1 : 1 ≤ cs.length
  c8 : cs.length ≤ 8
  nms : NmOk (cs.map Prod.fst)
  ok : ∀ c ∈ cs, c.2.length = n ∧ ∀ v ∈ c.2, 0 ≤ v ∧ v ≤ 2

theorem chk_iff {xs : List (ByteArray × Int)} {cs : List (ByteArray × List Int)} : (chk xs cs).2.2 = 0 ↔ LocOk xs ∧ CopOk xs.length cs := by
  have hL : chkL [] xs 0 = none ↔ (∀ x ∈ xs, 0 ≤ x.2 ∧ x.2 ≤ 2) ∧ NmOk (xs.map Prod.fst) := by
    rw [chkL_iff]
    constructor
    · rintro ⟨h1, _, h3⟩
      exact ⟨fun x hx => (h1 x hx).2, fun x hx => by obtain ⟨y, hy, rfl⟩ := List.mem_map.1 hx; exact (h1 y hy).1, List.pairwise_map.2 h3⟩
    · rintro ⟨h1, h2, h3⟩
      exact ⟨fun x hx => ⟨h2 _ (List.mem_map_of_mem hx), h1 x hx⟩, fun _ _ _ h => (by cases h), List.pairwise_map.1 h3⟩
  have hC : chkC xs.length [] cs 0 = none ↔ (∀ c ∈ cs, c.2.length = xs.length ∧ ∀ v ∈ c.2, 0 ≤ v ∧ v ≤ 2) ∧ NmOk (cs.map Prod.fst) := by
    rw [chkC_iff]
    constructor
    · rintro ⟨h1, _, h3⟩
      exact ⟨fun x hx => (h1 x hx).2, fun x hx => by obtain ⟨y, hy, rfl⟩ := List.mem_map.1 hx; exact (h1 y hy).1, List.pairwise_map.2 h3⟩
    · rintro ⟨h1, h2, h3⟩
      exact ⟨fun x hx => ⟨h2 _ (List.mem_map_of_mem hx), h1 x hx⟩, fun _ _ _ h => (by cases h), List.pairwise_map.1 h3⟩
  have h1 : [(xs.length : Int)].any (outB 1 5) = true ↔ ¬ (1 ≤ xs.length ∧ xs.length ≤ 5) := by simp [out_in, inB]; omega
  have h2 : [(cs.length : Int)].any (outB 1 8) = true ↔ ¬ (1 ≤ cs.length ∧ cs.length ≤ 8) := by simp [out_in, inB]; omega
  unfold chk
  constructor
  · intro h
    split at h
    · cases h
    · rename_i g1
      have g1 := Classical.byContradiction fun hh => g1 (h1.2 hh)
      split at h
      · rename_i i e he; exact absurd h (chkL_err _ _ _ _ he)
      · rename_i g2
        split at h
        · cases h
        · rename_i g3
          have g3 := Classical.byContradiction fun hh => g3 (h2.2 hh)
          split at h
          · rename_i i e he; exact absurd h (chkC_err _ _ _ _ _ he)
          · rename_i g4
            obtain ⟨a1, a2⟩ := hL.1 g2
            obtain ⟨b1, b2⟩ := hC.1 g4
            exact ⟨⟨g1.1, g1.2, a2, a1⟩, ⟨g3.1, g3.2, b2, b1⟩⟩
  · rintro ⟨⟨a1, a2, a3, a4⟩, ⟨b1, b2, b3, b4⟩⟩
    rw [if_neg fun h => h1.1 h ⟨a1, a2⟩, hL.2 ⟨a4, a3⟩]
    simp only
    rw [if_neg fun h => h2.1 h ⟨b1, b2⟩, hC.2 ⟨b4, b3⟩]

theorem chk_cops {xs : List (ByteArray × Int)} {cs ds : List (ByteArray × List Int)} (h : (chk xs cs).2.2 = 0) (hd : CopOk xs.length ds) : (chk xs ds).2.2 = 0 := chk_iff.2 ⟨(chk_iff.1 h).1, hd⟩

/-- Fewer copies. -/
theorem CopOk.sub {n : Nat} {cs ds : List (ByteArray × List Int)} (h : CopOk n cs) (hs : ds.Sublist cs) (h1 : 1 ≤ ds.length) : CopOk n ds :=
  ⟨h1, Nat.le_trans hs.length_le h.c8, ⟨fun x hx => h.nms.nm x ((hs.map _).subset hx), h.nms.ne.sublist (hs.map _)⟩, fun c hc => h.ok c (hs.subset hc)⟩
/-- The same names, and other things shown. -/
theorem CopOk.same {n : Nat} {cs ds : List (ByteArray × List Int)} (h : CopOk n cs) (hs : ds.map Prod.fst = cs.map Prod.fst) (ho : ∀ c ∈ ds, c.2.length = n ∧ ∀ v ∈ c.2, 0 ≤ v ∧ v ≤ 2) : CopOk n ds := by
  have hl : ds.length = cs.length := by have := congrArg List.length hs; simpa using this
  exact ⟨hl ▸ h.c1, hl ▸ h.c8, hs ▸ h.nms, ho⟩
/-! ### What is asked of a valid forme -/

section
variable {xs : List (ByteArray × Int)} {cs : List (ByteArray × List Int)}
theorem askR_val (hc : (chk xs cs).2.2 = 0) (many : Int) (ns : List Int) (hn : ∀ n ∈ ns, 0 ≤ n ∧ n < many) : askR xs cs many ns = if (agrL xs cs).isEmpty then 9 else 0 := by
  unfold askR
  rw [if_neg (fun h => h hc)]
  rw [if_neg]
  intro h
  obtain ⟨n, h1, h2⟩ := List.any_eq_true.1 h
  have := hn n h1
  rw [out_in] at h2; simp [inB] at h2; omega
theorem ask_ok (hc : (chk xs cs).2.2 = 0) (ha : agrL xs cs ≠ []) (many : Int) (ns : List Int) (hn : ∀ n ∈ ns, 0 ≤ n ∧ n < many) : askR xs cs many ns = 0 := by
  rw [askR_val hc many ns hn, if_neg (by simpa using ha)]
theorem first_ok (hc : (chk xs cs).2.2 = 0) (ha : agrL xs cs ≠ []) : firstS xs cs = ((agrL xs cs).headD ([], []), ((agrL xs cs).length : Int), 0) := by
  unfold firstS
  rw [ask_ok hc ha 0 [] (fun _ h => by cases h), if_neg (by simp)]
theorem first_no (hc : (chk xs cs).2.2 = 0) (ha : agrL xs cs = []) : firstS xs cs = (([], []), 0, 9) := by
  unfold firstS
  rw [askR_val hc 0 [] (fun _ h => by cases h), ha]
  rfl
end
end Go.Ab.StF

namespace Go.Ab.StF
open Go Go.Ab

section
variable {xs : List (ByteArray × Int)} {cs : List (ByteArray × List Int)}

/-! ### Before -/
/-! ### Earlier -/
/-! ### StateInOrder -/
/-! ### StateJust -/
theorem ami_fit {ss : List Int} {n k : Nat} {o : List Int × List Int} (hs : ss.length = n) (ho : o.1.length = n) : (amiL ss (stateS k o)).isEmpty = fitB ss o.1 o.2 k := by
  rw [Bool.eq_iff_iff, List.isEmpty_iff]
  unfold amiL fitB
  rw [List.filter_eq_nil_iff, stateS_len, List.all_eq_true, hs, ho]
  constructor
  · intro h j hj
    have := h j hj
    unfold amiB at this
    rw [stateS_get (by rw [ho]; exact List.mem_range.1 hj)] at this
    simp only [Bool.and_eq_true, bne_iff_ne, not_and, Classical.not_not] at this
    simp only [Bool.or_eq_true, beq_iff_eq]
    exact (Classical.em _).imp id this
  · intro h j hj
    have := h j hj
    unfold amiB
    rw [stateS_get (by rw [ho]; exact List.mem_range.1 hj)]
    simp only [Bool.or_eq_true, beq_iff_eq] at this
    simp only [Bool.and_eq_true, bne_iff_ne, not_and, Classical.not_not]
    exact fun h0 => this.resolve_left h0
/-- A copy agrees if it shows one of the states. -/
theorem fits_any {ss : List Int} {n : Nat} {o : List Int × List Int} (hs : ss.length = n) (ho : o.1.length = n) (hl : o.2.length = n) : fitsO ss o = (List.range (n + 1)).any fun k => (amiL ss (stateS k o)).isEmpty := by
  rw [Bool.eq_iff_iff, fitsO_iff, List.any_eq_true]
  constructor
  · rintro ⟨k, h1, h2⟩
    exact ⟨k, List.mem_range.2 (by omega), by rw [ami_fit hs ho]; exact h2⟩
  · rintro ⟨k, h1, h2⟩
    rw [ami_fit hs ho] at h2
    exact ⟨k, by have := List.mem_range.1 h1; omega, h2⟩
theorem ord_okO (h5 : xs.length ≤ 5) {o : List Int × List Int} (ho : Ord xs o) : OkO xs.length o := by
  obtain ⟨p, hp, he⟩ := ho.p
  refine ⟨ho.l, by rw [he]; simp [natsV, hp.len], fun v hv => ?_, h5⟩
  obtain ⟨i, hi, rfl⟩ := List.mem_iff_getElem.1 hv
  have := ho.v i (by rw [← ho.l]; exact hi)
  rw [getD_e hi] at this
  omega
end

/-! ### Formes of which less is known -/

/-- Shows less than another copy, and nothing else. -/
def LessS (ss ts : List Int) : Prop := ss.length = ts.length ∧ ∀ j, ss.getD j 0 = 0 ∨ ss.getD j 0 = ts.getD j 0
theorem LessS.refl (ss : List Int) : LessS ss ss := ⟨rfl, fun _ => .inr rfl⟩
theorem LessS.fit {ss ts : List Int} (h : LessS ss ts) {fs os : List Int} {k : Nat} (hf : fitB ts fs os k = true) : fitB ss fs os k = true := by
  unfold fitB at hf ⊢
  rw [List.all_eq_true] at hf ⊢
  intro j hj
  rw [h.1] at hj
  have := hf j hj
  rcases h.2 j with h0 | h0
  · rw [h0]; rfl
  · rw [h0]; exact this
section
variable {xs : List (ByteArray × Int)} {cs ds : List (ByteArray × List Int)}
end
end Go.Ab.StF
