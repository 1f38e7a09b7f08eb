/-
  THE STATE FAMILY, OUTRIGHT LAWS, PLAIN PART A: which orders there are, in which order; what a valid forme is.
  THE STATE FAMILY, OUTRIGHT LAWS, PLAIN PART B: what is sure, for any orders that agree.
-/
import Derived.Test.YtmhbchljhnfahaaDoorPlainB
namespace Go.Ab.StF
open Go Go.Ab

/-! ### Orders of a forme -/

def firOk : List Int → List Int → Bool
  | [], [] => true
  | k :: ks, x :: w => (x == 1 || x == 2) && (k == 0 || k == x) && firOk ks w
  | _, _ => false

theorem firR_mem : ∀ (ks b v : List Int), v ∈ firR ks b ↔ ∃ w, v = b ++ w ∧ firOk ks w = true
  | [], b, v => by
    simp only [firR, List.mem_singleton]
    constructor
    · rintro rfl; exact ⟨[], by simp, rfl⟩
    · rintro ⟨w, rfl, h⟩
      cases w with
      | nil => simp
      | cons x w => cases h
  | k :: ks, b, v => by
    simp only [firR, List.mem_flatMap]
    constructor
    · rintro ⟨x, hx, h⟩
      split at h
      · rename_i hk
        obtain ⟨w, rfl, hw⟩ := (firR_mem ks _ v).1 h
        refine ⟨x :: w, by simp, ?_⟩
        have hx : x = 1 ∨ x = 2 := by simpa using hx
        simp only [firOk, hw, Bool.and_true, Bool.and_eq_true]
        exact ⟨by rcases hx with rfl | rfl <;> rfl, hk⟩
      · cases h
    · rintro ⟨w, rfl, h⟩
      cases w with
      | nil => cases h
      | cons x w =>
        simp only [firOk, Bool.and_eq_true] at h
        refine ⟨x, by simpa using h.1.1, ?_⟩
        rw [if_pos h.1.2]
        exact (firR_mem ks _ _).2 ⟨w, by simp, h.2⟩

theorem firOk_iff : ∀ (ks w : List Int), firOk ks w = true ↔ w.length = ks.length ∧ ∀ i, i < ks.length → (w.getD i 0 = 1 ∨ w.getD i 0 = 2) ∧ (ks.getD i 0 = 0 ∨ ks.getD i 0 = w.getD i 0)
  | [], [] => by simp [firOk]
  | [], _ :: _ => by simp [firOk]
  | _ :: _, [] => by simp [firOk]
  | k :: ks, x :: w => by
    simp only [firOk, Bool.and_eq_true, Bool.or_eq_true, beq_iff_eq, firOk_iff ks w, List.length_cons, Nat.add_right_cancel_iff]
    constructor
    · rintro ⟨⟨h1, h2⟩, h3, h4⟩
      refine ⟨h3, fun i hi => ?_⟩
      cases i with
      | zero => exact ⟨h1, h2⟩
      | succ i => exact h4 i (by omega)
    · rintro ⟨h1, h2⟩
      exact ⟨⟨(h2 0 (by omega)).1, (h2 0 (by omega)).2⟩, h1, fun i hi => h2 (i + 1) (by omega)⟩

/-- An order of a forme, whether it agrees or not. -/
structure Ord (xs : List (ByteArray × Int)) (o : List Int × List Int) : Prop where
  l : o.1.length = xs.length
  v : ∀ i, i < xs.length → (o.1.getD i 0 = 1 ∨ o.1.getD i 0 = 2)
  f : ∀ i, i < xs.length → (xs.getD i (ByteArray.empty, 0)).2 = 0 ∨ (xs.getD i (ByteArray.empty, 0)).2 = o.1.getD i 0
  p : ∃ p, Perm xs.length p ∧ o.2 = natsV p

theorem snd_get (xs : List (ByteArray × Int)) (i : Nat) : (xs.map Prod.snd).getD i 0 = (xs.getD i (ByteArray.empty, 0)).2 := by
  simp only [List.getD_eq_getElem?_getD, List.getElem?_map]
  cases xs[i]? <;> rfl

theorem mem_allL {xs : List (ByteArray × Int)} {o : List Int × List Int} : o ∈ allL xs ↔ Ord xs o := by
  unfold allL
  rw [List.mem_flatMap]
  constructor
  · rintro ⟨a, ha, h⟩
    obtain ⟨p, hp, rfl⟩ := List.mem_map.1 h
    obtain ⟨w, rfl, hw⟩ := (firR_mem _ _ _).1 ha
    obtain ⟨h1, h2⟩ := (firOk_iff _ _).1 hw
    rw [List.length_map] at h1 h2
    simp only [snd_get] at h2
    exact ⟨by simpa using h1, fun i hi => (h2 i hi).1, fun i hi => (h2 i hi).2, p, rowsR_perm hp, rfl⟩
  · rintro ⟨h1, h2, h3, p, hp, h4⟩
    refine ⟨o.1, (firR_mem _ _ _).2 ⟨o.1, rfl, (firOk_iff _ _).2 ⟨by rw [List.length_map]; exact h1, fun i hi => ?_⟩⟩, List.mem_map.2 ⟨p, perm_rowsR hp, by rw [← h4]⟩⟩
    rw [List.length_map] at hi
    rw [snd_get]
    exact ⟨h2 i hi, h3 i hi⟩

theorem befL_app : ∀ (b x y : List Int), befL (b ++ x) (b ++ y) = befL x y
  | [], _, _ => rfl
  | c :: b, x, y => by simp [befL, befL_app b x y]

theorem firR_sorted : ∀ (ks b : List Int), (firR ks b).Pairwise fun u v => befL u v = true
  | [], b => List.pairwise_singleton ..
  | k :: ks, b => by
    have hp : ∀ v : Int, (if (k == 0 || k == v) = true then firR ks (b ++ [v]) else []).Pairwise fun u v => befL u v = true := fun v => by
      split
      · exact firR_sorted ks _
      · exact .nil
    have hm : ∀ (v : Int) (u : List Int), u ∈ (if (k == 0 || k == v) = true then firR ks (b ++ [v]) else []) → ∃ w, u = b ++ v :: w := fun v u hu => by
      split at hu
      · obtain ⟨w, rfl, _⟩ := (firR_mem ks _ _).1 hu
        exact ⟨w, by simp⟩
      · cases hu
    simp only [firR, List.flatMap_cons, List.flatMap_nil, List.append_nil]
    refine List.pairwise_append.2 ⟨hp 1, hp 2, fun u hu v hv => ?_⟩
    obtain ⟨w, rfl⟩ := hm 1 u hu
    obtain ⟨w', rfl⟩ := hm 2 v hv
    rw [befL_app]
    simp [befL]

theorem rowsR_sorted {n : Nat} : ∀ (m : Nat) (p : List Nat), (rowsR n m p).Pairwise fun u v => befL (natsV u) (natsV v) = true
  | 0, p => List.pairwise_singleton ..
  | m + 1, p => by
    rw [rowsR, List.pairwise_flatMap]
    refine ⟨fun k _ => ?_, List.Pairwise.imp ?_ (List.pairwise_lt_range (n := n))⟩
    · split
      · exact .nil
      · exact rowsR_sorted m _
    · intro k k' hk u hu v hv
      have hm : ∀ (k : Nat) (u : List Nat), u ∈ (if p.contains k = true then [] else rowsR n m (p ++ [k])) → ∃ w, u = p ++ k :: w := fun k u hu => by
        split at hu
        · cases hu
        · obtain ⟨w, rfl⟩ := rowsR_pre m _ _ hu
          exact ⟨w, by simp⟩
      obtain ⟨w, rfl⟩ := hm k u hu
      obtain ⟨w', rfl⟩ := hm k' v hv
      simp only [natsV, List.map_append, List.map_cons]
      rw [befL_app]
      simp only [befL]
      rw [if_neg (by omega)]
      exact decide_eq_true (by omega)

/-- Does an order come before another one? -/
def ordLt (a b : List Int × List Int) : Bool := if a.1 = b.1 then befL a.2 b.2 else befL a.1 b.1

theorem allL_sorted (xs : List (ByteArray × Int)) : (allL xs).Pairwise fun a b => ordLt a b = true := by
  unfold allL
  rw [List.pairwise_flatMap]
  refine ⟨fun a _ => ?_, List.Pairwise.imp ?_ (firR_sorted _ _)⟩
  · rw [List.pairwise_map]
    refine (rowsR_sorted _ _).imp fun {u v} h => ?_
    simp only [ordLt, if_true]; exact h
  · intro a b hab u hu v hv
    obtain ⟨p, _, rfl⟩ := List.mem_map.1 hu
    obtain ⟨q, _, rfl⟩ := List.mem_map.1 hv
    have hne : a ≠ b := fun h => by subst h; rw [befL_irr] at hab; cases hab
    simp only [ordLt, if_neg hne]; exact hab

theorem ordLt_irr (a : List Int × List Int) : ordLt a a = false := by simp [ordLt, befL_irr]
theorem ordLt_asymm {a b : List Int × List Int} (h : ordLt a b = true) : ordLt b a = false := by
  unfold ordLt at h ⊢
  have hb : ∀ u v : List Int, befL u v = true → befL v u = false := fun u v h => by
    rw [Bool.eq_false_iff]; intro h'
    have := befL_trans _ _ _ h h'
    rw [befL_irr] at this; cases this
  by_cases e : a.1 = b.1
  · rw [if_pos e] at h; rw [if_pos e.symm]; exact hb _ _ h
  · rw [if_neg e] at h; rw [if_neg (Ne.symm e)]; exact hb _ _ h

/-! ### Copies that agree -/

/-- Does a copy agree with an order? -/
def fitsO (ss : List Int) (o : List Int × List Int) : Bool := !(stpL ss o.1 o.2).isEmpty

theorem fitsO_iff {ss : List Int} {o : List Int × List Int} : fitsO ss o = true ↔ ∃ k, k ≤ o.2.length ∧ fitB ss o.1 o.2 k = true := by
  unfold fitsO
  rw [Bool.not_eq_true', ← Bool.not_eq_true, List.isEmpty_iff]
  constructor
  · intro h
    obtain ⟨k, hk⟩ := List.exists_mem_of_ne_nil _ h
    unfold stpL at hk
    obtain ⟨h1, h2⟩ := List.mem_filter.1 hk
    exact ⟨k, by have := List.mem_range.1 h1; omega, h2⟩
  · rintro ⟨k, h1, h2⟩ h
    have : k ∈ stpL ss o.1 o.2 := List.mem_filter.2 ⟨List.mem_range.2 (by omega), h2⟩
    rw [h] at this; cases this

theorem amid_fits {cs : List (ByteArray × List Int)} {o : List Int × List Int} {i : Nat} : i ∈ amidL cs o ↔ i < cs.length ∧ fitsO (showsOf cs i) o = false := by
  rw [amid_mem]
  unfold fitsO
  simp

theorem amid_all (cs : List (ByteArray × List Int)) (o : List Int × List Int) : (amidL cs o).isEmpty = cs.all fun c => fitsO c.2 o := by
  rw [Bool.eq_iff_iff, List.isEmpty_iff, List.all_eq_true]
  constructor
  · intro h c hc
    obtain ⟨i, hi, rfl⟩ := List.mem_iff_getElem.1 hc
    cases hf : fitsO cs[i].2 o with
    | true => rfl
    | false =>
      have : i ∈ amidL cs o := amid_fits.2 ⟨hi, by rw [showsOf_eq hi]; exact hf⟩
      rw [h] at this; cases this
  · intro h
    refine List.eq_nil_iff_forall_not_mem.2 fun i hi => ?_
    obtain ⟨h1, h2⟩ := amid_fits.1 hi
    rw [showsOf_eq h1, h _ (List.getElem_mem h1)] at h2
    cases h2

theorem agrL_all (xs : List (ByteArray × Int)) (cs : List (ByteArray × List Int)) : agrL xs cs = (allL xs).filter fun o => cs.all fun c => fitsO c.2 o := by
  unfold agrL
  congr 1
  funext o
  exact amid_all cs o

theorem mem_agr {xs : List (ByteArray × Int)} {cs : List (ByteArray × List Int)} {o : List Int × List Int} : o ∈ agrL xs cs ↔ Ord xs o ∧ ∀ c ∈ cs, fitsO c.2 o = true := by
  rw [agrL_all, List.mem_filter, mem_allL, List.all_eq_true]

theorem agr_sorted (xs : List (ByteArray × Int)) (cs : List (ByteArray × List Int)) : (agrL xs cs).Pairwise fun a b => ordLt a b = true := by
  rw [agrL_all]; exact List.Pairwise.sublist List.filter_sublist (allL_sorted xs)

/-! ### Valid formes -/

/-- Names that all are names, no two alike. -/
structure NmOk (ns : List ByteArray) : Prop where
  nm : ∀ x ∈ ns, nameB x = true
  ne : ns.Pairwise fun a b => strEq a b = false

theorem chkL_iff : ∀ (ys pre : List (ByteArray × Int)) (i : Nat), chkL pre ys i = none ↔ (∀ y ∈ ys, nameB y.1 = true ∧ 0 ≤ y.2 ∧ y.2 ≤ 2) ∧ (∀ y ∈ ys, ∀ p ∈ pre, strEq p.1 y.1 = false) ∧ ys.Pairwise fun a b => strEq a.1 b.1 = false
  | [], pre, i => by simp [chkL]
  | y :: ys, pre, i => by
    have ho : ([y.2].any (outB 0 2)) = !decide (0 ≤ y.2 ∧ y.2 ≤ 2) := by simp [out_in, inB]
    rw [chkL, ho]
    have h2 : pre.any (fun p => strEq p.1 y.1) = true ↔ ¬ ∀ p ∈ pre, strEq p.1 y.1 = false := by
      rw [List.any_eq_true]
      constructor
      · rintro ⟨p, hp, h⟩ hh; rw [hh p hp] at h; cases h
      · intro hh
        apply Classical.byContradiction
        intro hn
        exact hh fun p hp => Bool.eq_false_iff.2 fun h => hn ⟨p, hp, h⟩
    constructor
    · intro h
      split at h
      · cases h
      · rename_i h1
        split at h
        · cases h
        · rename_i h3
          split at h
          · cases h
          · rename_i h4
            obtain ⟨g1, g2, g3⟩ := (chkL_iff ys _ _).1 h
            have h1 : nameB y.1 = true := by simpa using h1
            have h3 : ∀ p ∈ pre, strEq p.1 y.1 = false := Classical.byContradiction fun hh => h3 (h2.2 hh)
            have h4 : 0 ≤ y.2 ∧ y.2 ≤ 2 := by simpa using h4
            refine ⟨fun z hz => ?_, fun z hz p hp => ?_, List.pairwise_cons.2 ⟨fun z hz => g2 z hz y (by simp), g3⟩⟩
            · rcases List.mem_cons.1 hz with rfl | hz
              · exact ⟨h1, h4⟩
              · exact g1 z hz
            · rcases List.mem_cons.1 hz with rfl | hz
              · exact h3 p hp
              · exact g2 z hz p (by simp [hp])
    · rintro ⟨g1, g2, g3⟩
      obtain ⟨g4, g5⟩ := List.pairwise_cons.1 g3
      have h1 := g1 y (by simp)
      rw [if_neg (by rw [h1.1]; simp), if_neg (fun h => h2.1 h (g2 y (by simp))), if_neg (by simp [h1.2])]
      refine (chkL_iff ys _ _).2 ⟨fun z hz => g1 z (by simp [hz]), fun z hz p hp => ?_, g5⟩
      rcases List.mem_append.1 hp with hp | hp
      · exact g2 z (by simp [hz]) p hp
      · obtain rfl : p = y := by simpa using hp
        exact g4 z hz

theorem chkC_iff (n : Nat) : ∀ (ys pre : List (ByteArray × List Int)) (i : Nat), chkC n pre ys i = none ↔ (∀ y ∈ ys, nameB y.1 = true ∧ y.2.length = n ∧ ∀ v ∈ y.2, 0 ≤ v ∧ v ≤ 2) ∧ (∀ y ∈ ys, ∀ p ∈ pre, strEq p.1 y.1 = false) ∧ ys.Pairwise fun a b => strEq a.1 b.1 = false
  | [], pre, i => by simp [chkC]
  | y :: ys, pre, i => by
    have ho : y.2.any (outB 0 2) = true ↔ ¬ ∀ v ∈ y.2, 0 ≤ v ∧ v ≤ 2 := by
      rw [List.any_eq_true]
      constructor
      · rintro ⟨v, hv, h⟩ hh
        have := hh v hv
        rw [out_in] at h; simp [inB] at h; omega
      · intro hh
        apply Classical.byContradiction
        intro hn
        exact hh fun v hv => Classical.byContradiction fun h => hn ⟨v, hv, by rw [out_in]; simp [inB]; omega⟩
    rw [chkC]
    have h2 : pre.any (fun p => strEq p.1 y.1) = true ↔ ¬ ∀ p ∈ pre, strEq p.1 y.1 = false := by
      rw [List.any_eq_true]
      constructor
      · rintro ⟨p, hp, h⟩ hh; rw [hh p hp] at h; cases h
      · intro hh
        apply Classical.byContradiction
        intro hn
        exact hh fun p hp => Bool.eq_false_iff.2 fun h => hn ⟨p, hp, h⟩
    constructor
    · intro h
      split at h
      · cases h
      · rename_i h1
        split at h
        · cases h
        · rename_i h3
          split at h
          · cases h
          · rename_i h4
            split at h
            · cases h
            · rename_i h5
              obtain ⟨g1, g2, g3⟩ := (chkC_iff n ys _ _).1 h
              have h1 : nameB y.1 = true := by simpa using h1
              have h3 : ∀ p ∈ pre, strEq p.1 y.1 = false := Classical.byContradiction fun hh => h3 (h2.2 hh)
              have h4 : y.2.length = n := by simp at h4; omega
              have h5 : ∀ v ∈ y.2, 0 ≤ v ∧ v ≤ 2 := Classical.byContradiction fun hh => h5 (ho.2 hh)
              refine ⟨fun z hz => ?_, fun z hz p hp => ?_, List.pairwise_cons.2 ⟨fun z hz => g2 z hz y (by simp), g3⟩⟩
              · rcases List.mem_cons.1 hz with rfl | hz
                · exact ⟨h1, h4, h5⟩
                · exact g1 z hz
              · rcases List.mem_cons.1 hz with rfl | hz
                · exact h3 p hp
                · exact g2 z hz p (by simp [hp])
    · rintro ⟨g1, g2, g3⟩
      obtain ⟨g4, g5⟩ := List.pairwise_cons.1 g3
      have h1 := g1 y (by simp)
      rw [if_neg (by rw [h1.1]; simp), if_neg (fun h => h2.1 h (g2 y (by simp))), if_neg (by simp [h1.2.1]), if_neg (fun h => ho.1 h h1.2.2)]
      refine (chkC_iff n ys _ _).2 ⟨fun z hz => g1 z (by simp [hz]), fun z hz p hp => ?_, g5⟩
      rcases List.mem_append.1 hp with hp | hp
      · exact g2 z (by simp [hz]) p hp
      · obtain rfl : p = y := by simpa using hp
        exact g4 z hz

theorem chkL_err : ∀ (ys pre : List (ByteArray × Int)) (i : Nat) (r : Int × Int), chkL pre ys i = some r → r.2 ≠ 0
  | [], _, _, r, h => by cases h
  | y :: ys, pre, i, r, h => by
    rw [chkL] at h
    split at h
    · cases h; simp
    · split at h
      · cases h; simp
      · split at h
        · cases h; simp
        · exact chkL_err ys _ _ r h
theorem chkC_err (n : Nat) : ∀ (ys pre : List (ByteArray × List Int)) (i : Nat) (r : Int × Int), chkC n pre ys i = some r → r.2 ≠ 0
  | [], _, _, r, h => by cases h
  | y :: ys, pre, i, r, h => by
    rw [chkC] at h
    split at h
    · cases h; simp
    · split at h
      · cases h; simp
      · split at h
        · cases h; simp
        · split at h
          · cases h; simp
          · exact chkC_err n ys _ _ r h

structure LocOk (xs : List (ByteArray × Int)) : Prop where
  l1 : 1 ≤ xs.length
  l5 : xs.length ≤ 5
  nms : NmOk (xs.map Prod.fst)
  fst : ∀ x ∈ xs, 0 ≤ x.2 ∧ x.2 ≤ 2
structure CopOk (n : Nat) (cs : List (ByteArray × List Int)) : Prop where
  c1 : 1 ≤ cs.length
  c8 : cs.length ≤ 8
  nms : NmOk (cs.map Prod.fst)
  ok : ∀ c ∈ cs, c.2.length = n ∧ ∀ v ∈ c.2, 0 ≤ v ∧ v ≤ 2

theorem chk_iff {xs : List (ByteArray × Int)} {cs : List (ByteArray × List Int)} : (chk xs cs).2.2 = 0 ↔ LocOk xs ∧ CopOk xs.length cs := by
  have hL : chkL [] xs 0 = none ↔ (∀ x ∈ xs, 0 ≤ x.2 ∧ x.2 ≤ 2) ∧ NmOk (xs.map Prod.fst) := by
    rw [chkL_iff]
    constructor
    · rintro ⟨h1, _, h3⟩
      exact ⟨fun x hx => (h1 x hx).2, fun x hx => by obtain ⟨y, hy, rfl⟩ := List.mem_map.1 hx; exact (h1 y hy).1, List.pairwise_map.2 h3⟩
    · rintro ⟨h1, h2, h3⟩
      exact ⟨fun x hx => ⟨h2 _ (List.mem_map_of_mem hx), h1 x hx⟩, fun _ _ _ h => (by cases h), List.pairwise_map.1 h3⟩
  have hC : chkC xs.length [] cs 0 = none ↔ (∀ c ∈ cs, c.2.length = xs.length ∧ ∀ v ∈ c.2, 0 ≤ v ∧ v ≤ 2) ∧ NmOk (cs.map Prod.fst) := by
    rw [chkC_iff]
    constructor
    · rintro ⟨h1, _, h3⟩
      exact ⟨fun x hx => (h1 x hx).2, fun x hx => by obtain ⟨y, hy, rfl⟩ := List.mem_map.1 hx; exact (h1 y hy).1, List.pairwise_map.2 h3⟩
    · rintro ⟨h1, h2, h3⟩
      exact ⟨fun x hx => ⟨h2 _ (List.mem_map_of_mem hx), h1 x hx⟩, fun _ _ _ h => (by cases h), List.pairwise_map.1 h3⟩
  have h1 : [(xs.length : Int)].any (outB 1 5) = true ↔ ¬ (1 ≤ xs.length ∧ xs.length ≤ 5) := by simp [out_in, inB]; omega
  have h2 : [(cs.length : Int)].any (outB 1 8) = true ↔ ¬ (1 ≤ cs.length ∧ cs.length ≤ 8) := by simp [out_in, inB]; omega
  unfold chk
  constructor
  · intro h
    split at h
    · cases h
    · rename_i g1
      have g1 := Classical.byContradiction fun hh => g1 (h1.2 hh)
      split at h
      · rename_i i e he; exact absurd h (chkL_err _ _ _ _ he)
      · rename_i g2
        split at h
        · cases h
        · rename_i g3
          have g3 := Classical.byContradiction fun hh => g3 (h2.2 hh)
          split at h
          · rename_i i e he; exact absurd h (chkC_err _ _ _ _ _ he)
          · rename_i g4
            obtain ⟨a1, a2⟩ := hL.1 g2
            obtain ⟨b1, b2⟩ := hC.1 g4
            exact ⟨⟨g1.1, g1.2, a2, a1⟩, ⟨g3.1, g3.2, b2, b1⟩⟩
  · rintro ⟨⟨a1, a2, a3, a4⟩, ⟨b1, b2, b3, b4⟩⟩
    rw [if_neg fun h => h1.1 h ⟨a1, a2⟩, hL.2 ⟨a4, a3⟩]
    simp only
    rw [if_neg fun h => h2.1 h ⟨b1, b2⟩, hC.2 ⟨b4, b3⟩]

theorem chk_cops {xs : List (ByteArray × Int)} {cs ds : List (ByteArray × List Int)} (h : (chk xs cs).2.2 = 0) (hd : CopOk xs.length ds) : (chk xs ds).2.2 = 0 := chk_iff.2 ⟨(chk_iff.1 h).1, hd⟩

/-- Fewer copies. -/
theorem CopOk.sub {n : Nat} {cs ds : List (ByteArray × List Int)} (h : CopOk n cs) (hs : ds.Sublist cs) (h1 : 1 ≤ ds.length) : CopOk n ds :=
  ⟨h1, Nat.le_trans hs.length_le h.c8, ⟨fun x hx => h.nms.nm x ((hs.map _).subset hx), h.nms.ne.sublist (hs.map _)⟩, fun c hc => h.ok c (hs.subset hc)⟩
/-- The same names, and other things shown. -/
theorem CopOk.same {n : Nat} {cs ds : List (ByteArray × List Int)} (h : CopOk n cs) (hs : ds.map Prod.fst = cs.map Prod.fst) (ho : ∀ c ∈ ds, c.2.length = n ∧ ∀ v ∈ c.2, 0 ≤ v ∧ v ≤ 2) : CopOk n ds := by
  have hl : ds.length = cs.length := by have := congrArg List.length hs; simpa using this
  exact ⟨hl ▸ h.c1, hl ▸ h.c8, hs ▸ h.nms, ho⟩
/-! ### What is asked of a valid forme -/

section
variable {xs : List (ByteArray × Int)} {cs : List (ByteArray × List Int)}
theorem askR_val (hc : (chk xs cs).2.2 = 0) (many : Int) (ns : List Int) (hn : ∀ n ∈ ns, 0 ≤ n ∧ n < many) : askR xs cs many ns = if (agrL xs cs).isEmpty then 9 else 0 := by
  unfold askR
  rw [if_neg (fun h => h hc)]
  rw [if_neg]
  intro h
  obtain ⟨n, h1, h2⟩ := List.any_eq_true.1 h
  have := hn n h1
  rw [out_in] at h2; simp [inB] at h2; omega
theorem ask_ok (hc : (chk xs cs).2.2 = 0) (ha : agrL xs cs ≠ []) (many : Int) (ns : List Int) (hn : ∀ n ∈ ns, 0 ≤ n ∧ n < many) : askR xs cs many ns = 0 := by
  rw [askR_val hc many ns hn, if_neg (by simpa using ha)]
theorem first_ok (hc : (chk xs cs).2.2 = 0) (ha : agrL xs cs ≠ []) : firstS xs cs = ((agrL xs cs).headD ([], []), ((agrL xs cs).length : Int), 0) := by
  unfold firstS
  rw [ask_ok hc ha 0 [] (fun _ h => by cases h), if_neg (by simp)]
theorem first_err (hc : (chk xs cs).2.2 ≠ 0) : firstS xs cs = (([], []), 0, (chk xs cs).2.2) := by
  have : askR xs cs 0 [] = (chk xs cs).2.2 := by unfold askR; rw [if_pos hc]
  unfold firstS
  rw [this, if_pos hc]
theorem read_ok (hc : (chk xs cs).2.2 = 0) (ha : agrL xs cs ≠ []) {a : Nat} (h : a < xs.length) : readS xs cs a = (sameL 0 ((agrL xs cs).map fun o => o.1.getD a 0), 0) := by
  unfold readS
  rw [ask_ok hc ha _ _ (fun n hn => by obtain rfl : n = (a : Int) := (by simpa using hn); exact ⟨by omega, by omega⟩), if_neg (by simp)]
  rfl
theorem bef_ok (hc : (chk xs cs).2.2 = 0) (ha : agrL xs cs ≠ []) {a b : Nat} (h : a < xs.length) (h' : b < xs.length) (hne : a ≠ b) : befS xs cs a b = (verd ((agrL xs cs).all fun o => decide (plc o.2 a < plc o.2 b)) ((agrL xs cs).all fun o => !decide (plc o.2 a < plc o.2 b)), 0) := by
  unfold befS
  rw [if_neg (by intro h; omega), ask_ok hc ha _ _ (fun n hn => by rcases (by simpa using hn : n = (a : Int) ∨ n = (b : Int)) with rfl | rfl <;> omega), if_neg (by simp)]
  have h1 : ((befN xs cs a b : Int) == (agrL xs cs).length) = (agrL xs cs).all fun o => decide (plc o.2 a < plc o.2 b) := by
    rw [Bool.eq_iff_iff]; exact count_all _ _
  have h2 : ((((agrL xs cs).length : Int) - befN xs cs a b) == (agrL xs cs).length) = (agrL xs cs).all fun o => !decide (plc o.2 a < plc o.2 b) := by
    rw [Bool.eq_iff_iff, ← count_all]
    have h3 := List.length_eq_countP_add_countP (fun o : List Int × List Int => decide (plc o.2 a < plc o.2 b)) (l := agrL xs cs)
    rw [List.countP_eq_length_filter, List.countP_eq_length_filter] at h3
    have h4 : ((agrL xs cs).filter fun o => decide (¬ (decide (plc o.2 a < plc o.2 b)) = true)).length = ((agrL xs cs).filter fun o => !decide (plc o.2 a < plc o.2 b)).length := by
      congr 2; funext o; by_cases h : plc o.2 (a : Int) < plc o.2 b <;> simp [h]
    unfold befN
    rw [h4] at h3
    simp only [beq_iff_eq]
    omega
  rw [h1, h2]
theorem ear_ok (hc : (chk xs cs).2.2 = 0) (ha : agrL xs cs ≠ []) {a b : Nat} (h : a < cs.length) (h' : b < cs.length) : earS xs cs a b = (verd ((agrL xs cs).all fun o => decide ((endsS cs a o).2 < (endsS cs b o).1)) ((agrL xs cs).all fun o => decide ((endsS cs b o).2 < (endsS cs a o).1)), 0) := by
  unfold earS
  rw [ask_ok hc ha _ _ (fun n hn => by rcases (by simpa using hn : n = (a : Int) ∨ n = (b : Int)) with rfl | rfl <;> omega), if_neg (by simp)]
  have h1 : ∀ a b : Nat, ((earN xs cs a b : Int) == (agrL xs cs).length) = (agrL xs cs).all fun o => decide ((endsS cs a o).2 < (endsS cs b o).1) := fun a b => by
    rw [Bool.eq_iff_iff]; exact count_all _ _
  rw [h1, h1]
theorem last_ok (hc : (chk xs cs).2.2 = 0) (ha : agrL xs cs ≠ []) : lastS xs cs = ((List.range xs.length).map fun j => sameL 0 ((agrL xs cs).map fun o => atV o.1 o.2 xs.length j), 0) := by
  unfold lastS
  rw [ask_ok hc ha _ _ (fun _ h => by cases h), if_neg (by simp)]

theorem foldl_min (l : List (Nat × Nat)) : ∀ s : Nat × Nat, (∀ e ∈ s :: l, (l.foldl (fun s e => (min s.1 e.1, max s.2 e.2)) s).1 ≤ e.1 ∧ e.2 ≤ (l.foldl (fun s e => (min s.1 e.1, max s.2 e.2)) s).2) ∧
    (∃ e ∈ s :: l, (l.foldl (fun s e => (min s.1 e.1, max s.2 e.2)) s).1 = e.1) ∧ ∃ e ∈ s :: l, (l.foldl (fun s e => (min s.1 e.1, max s.2 e.2)) s).2 = e.2 := by
  induction l with
  | nil => intro s; simp
  | cons x l ih =>
    intro s
    obtain ⟨h1, ⟨e1, he1, h2⟩, e2, he2, h3⟩ := ih (min s.1 x.1, max s.2 x.2)
    rw [List.foldl_cons]
    refine ⟨fun e he => ?_, ?_, ?_⟩
    · have hs := h1 (min s.1 x.1, max s.2 x.2) (by simp)
      rcases List.mem_cons.1 he with rfl | he
      · simp only at hs; omega
      · rcases List.mem_cons.1 he with rfl | he
        · simp only at hs; omega
        · exact h1 e (by simp [he])
    · rcases List.mem_cons.1 he1 with rfl | he1
      · rw [h2]
        rcases Nat.le_total s.1 x.1 with h | h
        · exact ⟨s, by simp, by simp only; omega⟩
        · exact ⟨x, by simp, by simp only; omega⟩
      · exact ⟨e1, by simp [he1], h2⟩
    · rcases List.mem_cons.1 he2 with rfl | he2
      · rw [h3]
        rcases Nat.le_total s.2 x.2 with h | h
        · exact ⟨x, by simp, by simp only; omega⟩
        · exact ⟨s, by simp, by simp only; omega⟩
      · exact ⟨e2, by simp [he2], h3⟩

/-- What is told of a copy: the least and the greatest of all orders. -/
theorem aft_ok (hc : (chk xs cs).2.2 = 0) (ha : agrL xs cs ≠ []) {a : Nat} (h : a < cs.length) : ∃ lo hi : Nat, aftS xs cs a = (((lo : Int), (hi : Int)), 0) ∧
    (∀ o ∈ agrL xs cs, lo ≤ (endsS cs a o).1 ∧ (endsS cs a o).2 ≤ hi) ∧ (∃ o ∈ agrL xs cs, lo = (endsS cs a o).1) ∧ ∃ o ∈ agrL xs cs, hi = (endsS cs a o).2 := by
  unfold aftS
  rw [ask_ok hc ha _ _ (fun n hn => by obtain rfl : n = (a : Int) := (by simpa using hn); exact ⟨by omega, by omega⟩), if_neg (by simp)]
  refine ⟨_, _, rfl, ?_⟩
  rw [show ((a : Int).toNat) = a by omega]
  cases hL : agrL xs cs with
  | nil => exact absurd hL ha
  | cons o L =>
    simp only [List.map_cons, List.headD_cons, List.tail_cons]
    obtain ⟨h1, ⟨e1, he1, h2⟩, e2, he2, h3⟩ := foldl_min (L.map (endsS cs a)) (endsS cs a o)
    rw [← List.map_cons (f := endsS cs a)] at h1 he1 he2
    obtain ⟨o1, ho1, rfl⟩ := List.mem_map.1 he1
    obtain ⟨o2, ho2, rfl⟩ := List.mem_map.1 he2
    exact ⟨fun p hp => h1 _ (List.mem_map_of_mem hp), ⟨o1, ho1, h2⟩, o2, ho2, h3⟩

/-- The ends of a copy that agrees: what lies between is all it can be. -/
theorem ends_mem {ss : List Int} {o : List Int × List Int} (h : fitsO ss o = true) : ((stpL ss o.1 o.2).headD 0 ∈ stpL ss o.1 o.2 ∧ (stpL ss o.1 o.2).getLastD 0 ∈ stpL ss o.1 o.2) ∧ ∀ k ∈ stpL ss o.1 o.2, (stpL ss o.1 o.2).headD 0 ≤ k ∧ k ≤ (stpL ss o.1 o.2).getLastD 0 := by
  have hne : stpL ss o.1 o.2 ≠ [] := by unfold fitsO at h; simpa using h
  have hs : (stpL ss o.1 o.2).Pairwise (· < ·) := List.Pairwise.sublist List.filter_sublist (List.pairwise_lt_range)
  generalize stpL ss o.1 o.2 = l at hne hs ⊢
  cases l with
  | nil => exact absurd rfl hne
  | cons x l =>
    have hl : (x :: l).getLastD 0 = (x :: l)[(x :: l).length - 1]'(by simp) := by
      rw [List.getLastD_eq_getLast?, List.getLast?_eq_getElem?, List.getElem?_eq_getElem (by simp)]; rfl
    refine ⟨⟨by simp, by rw [hl]; exact List.getElem_mem _⟩, fun k hk => ⟨?_, ?_⟩⟩
    · rcases List.mem_cons.1 hk with rfl | hk
      · exact Nat.le_refl _
      · exact Nat.le_of_lt ((List.pairwise_cons.1 hs).1 k hk)
    · obtain ⟨i, hi, rfl⟩ := List.mem_iff_getElem.1 hk
      rw [hl]
      rcases Nat.lt_or_ge i ((x :: l).length - 1) with h | h
      · exact Nat.le_of_lt (List.pairwise_iff_getElem.1 hs _ _ _ _ h)
      · have : i = (x :: l).length - 1 := by omega
        subst this; exact Nat.le_refl _
end
end Go.Ab.StF

namespace Go.Ab.StF
open Go Go.Ab

theorem verd_one {a b : Bool} : verd a b = 1 ↔ a = true := by cases a <;> cases b <;> simp [verd]
theorem verd_two {a b : Bool} : verd a b = 2 ↔ a = false ∧ b = true := by cases a <;> cases b <;> simp [verd]
theorem verd_vals (a b : Bool) : verd a b = 0 ∨ verd a b = 1 ∨ verd a b = 2 := by cases a <;> cases b <;> simp [verd]

theorem sameL_all {α : Type} {L : List α} {g : α → Int} {z v : Int} (hne : L ≠ []) (h : ∀ o ∈ L, g o = v) : sameL z (L.map g) = v := by
  cases L with
  | nil => exact absurd rfl hne
  | cons a L =>
    simp only [List.map_cons, sameL]
    rw [if_pos]
    · exact h a (by simp)
    · rw [List.all_eq_true]
      intro x hx
      obtain ⟨o, ho, rfl⟩ := List.mem_map.1 hx
      rw [h o (by simp [ho]), h a (by simp)]; simp
theorem sameL_val {α : Type} {L : List α} {g : α → Int} {z : Int} (hne : L ≠ []) : (∀ o ∈ L, g o = sameL z (L.map g)) ∨ (sameL z (L.map g) = z ∧ ∃ o ∈ L, ∃ o' ∈ L, g o ≠ g o') := by
  cases L with
  | nil => exact absurd rfl hne
  | cons a L =>
    by_cases h : ∀ o ∈ L, g o = g a
    · left
      have hv : sameL z ((a :: L).map g) = g a := sameL_all (by simp) fun o ho => by
        rcases List.mem_cons.1 ho with rfl | ho
        · rfl
        · exact h o ho
      intro o ho
      rw [hv]
      rcases List.mem_cons.1 ho with rfl | ho
      · rfl
      · exact h o ho
    · right
      have ⟨o, ho⟩ := Classical.not_forall.1 h
      have ⟨ho, hn⟩ := Classical.not_imp.1 ho
      refine ⟨?_, o, by simp [ho], a, by simp, hn⟩
      simp only [List.map_cons, sameL]
      rw [if_neg]
      intro hh
      rw [List.all_eq_true] at hh
      exact hn (by simpa using hh _ (List.mem_map_of_mem ho))

theorem plc_ne {n : Nat} {p : List Nat} (hp : Perm n p) {a b : Nat} (h : a < n) (h' : b < n) (hne : a ≠ b) : plc (natsV p) a ≠ plc (natsV p) b := by
  rw [plc_nats, plc_nats]
  intro he
  have h1 := hp.get' h
  have h2 := hp.get' h'
  rw [he, h2] at h1
  exact hne (by simpa using h1.symm)

section
variable {xs : List (ByteArray × Int)} {cs : List (ByteArray × List Int)}

theorem ord_ne {o : List Int × List Int} (ho : Ord xs o) {a b : Nat} (h : a < xs.length) (h' : b < xs.length) (hne : a ≠ b) : plc o.2 a ≠ plc o.2 b := by
  obtain ⟨p, hp, he⟩ := ho.p
  rw [he]; exact plc_ne hp h h' hne
theorem agr_ord {o : List Int × List Int} (ho : o ∈ agrL xs cs) : Ord xs o := (mem_agr.1 ho).1

/-! ### Before -/
theorem bef_e (hc : (chk xs cs).2.2 = 0) (ha : agrL xs cs ≠ []) {a b : Nat} (h : a < xs.length) (h' : b < xs.length) (hne : a ≠ b) : (befS xs cs a b).2 = 0 := by rw [bef_ok hc ha h h' hne]
theorem bef_one (hc : (chk xs cs).2.2 = 0) (ha : agrL xs cs ≠ []) {a b : Nat} (h : a < xs.length) (h' : b < xs.length) (hne : a ≠ b) : (befS xs cs a b).1 = 1 ↔ ∀ o ∈ agrL xs cs, plc o.2 a < plc o.2 b := by
  rw [bef_ok hc ha h h' hne]
  simp only [verd_one, List.all_eq_true, decide_eq_true_eq]
theorem bef_two (hc : (chk xs cs).2.2 = 0) (ha : agrL xs cs ≠ []) {a b : Nat} (h : a < xs.length) (h' : b < xs.length) (hne : a ≠ b) : (befS xs cs a b).1 = 2 ↔ ∀ o ∈ agrL xs cs, plc o.2 b < plc o.2 a := by
  rw [bef_ok hc ha h h' hne]
  simp only [verd_two, ← Bool.not_eq_true, List.all_eq_true, decide_eq_true_eq, Bool.not_eq_true']
  constructor
  · rintro ⟨_, h2⟩ o ho
    have := h2 o ho
    have := ord_ne (agr_ord ho) h h' hne
    omega
  · intro h2
    refine ⟨fun h1 => ?_, fun o ho => by have := h2 o ho; omega⟩
    obtain ⟨o, ho⟩ := List.exists_mem_of_ne_nil _ ha
    have := h1 o ho; have := h2 o ho; omega
theorem bef_vals (hc : (chk xs cs).2.2 = 0) (ha : agrL xs cs ≠ []) {a b : Nat} (h : a < xs.length) (h' : b < xs.length) (hne : a ≠ b) : (befS xs cs a b).1 = 0 ∨ (befS xs cs a b).1 = 1 ∨ (befS xs cs a b).1 = 2 := by
  rw [bef_ok hc ha h h' hne]; exact verd_vals _ _

/-! ### Earlier -/
theorem ends_le {o : List Int × List Int} (ho : o ∈ agrL xs cs) {a : Nat} (h : a < cs.length) : (endsS cs a o).1 ≤ (endsS cs a o).2 := by
  have hf : fitsO (showsOf cs a) o = true := by rw [showsOf_eq h]; exact (mem_agr.1 ho).2 _ (List.getElem_mem h)
  obtain ⟨⟨h1, h2⟩, h3⟩ := ends_mem hf
  exact (h3 _ h1).2
theorem ends_n {o : List Int × List Int} (ho : o ∈ agrL xs cs) {a : Nat} (h : a < cs.length) : (endsS cs a o).2 ≤ xs.length := by
  have hf : fitsO (showsOf cs a) o = true := by rw [showsOf_eq h]; exact (mem_agr.1 ho).2 _ (List.getElem_mem h)
  obtain ⟨⟨h1, h2⟩, h3⟩ := ends_mem hf
  obtain ⟨p, hp, he⟩ := (agr_ord ho).p
  have := List.mem_range.1 (List.mem_filter.1 h2).1
  have h4 : o.2.length = xs.length := by rw [he]; simp [natsV, hp.len]
  show (stpL (showsOf cs a) o.1 o.2).getLastD 0 ≤ _
  omega
theorem ear_e (hc : (chk xs cs).2.2 = 0) (ha : agrL xs cs ≠ []) {a b : Nat} (h : a < cs.length) (h' : b < cs.length) : (earS xs cs a b).2 = 0 := by rw [ear_ok hc ha h h']
theorem ear_one (hc : (chk xs cs).2.2 = 0) (ha : agrL xs cs ≠ []) {a b : Nat} (h : a < cs.length) (h' : b < cs.length) : (earS xs cs a b).1 = 1 ↔ ∀ o ∈ agrL xs cs, (endsS cs a o).2 < (endsS cs b o).1 := by
  rw [ear_ok hc ha h h']
  simp only [verd_one, List.all_eq_true, decide_eq_true_eq]
theorem ear_two (hc : (chk xs cs).2.2 = 0) (ha : agrL xs cs ≠ []) {a b : Nat} (h : a < cs.length) (h' : b < cs.length) : (earS xs cs a b).1 = 2 ↔ ∀ o ∈ agrL xs cs, (endsS cs b o).2 < (endsS cs a o).1 := by
  rw [ear_ok hc ha h h']
  simp only [verd_two, ← Bool.not_eq_true, List.all_eq_true, decide_eq_true_eq]
  refine ⟨fun h => h.2, fun h2 => ⟨fun h1 => ?_, h2⟩⟩
  obtain ⟨o, ho⟩ := List.exists_mem_of_ne_nil _ ha
  have := h1 o ho; have := h2 o ho
  have := ends_le ho h; have := ends_le ho h'
  omega
theorem ear_vals (hc : (chk xs cs).2.2 = 0) (ha : agrL xs cs ≠ []) {a b : Nat} (h : a < cs.length) (h' : b < cs.length) : (earS xs cs a b).1 = 0 ∨ (earS xs cs a b).1 = 1 ∨ (earS xs cs a b).1 = 2 := by
  rw [ear_ok hc ha h h']; exact verd_vals _ _

/-! ### StateInOrder -/
theorem aft_fact (hc : (chk xs cs).2.2 = 0) (ha : agrL xs cs ≠ []) {a : Nat} (h : a < cs.length) : (aftS xs cs a).2 = 0 ∧ 0 ≤ (aftS xs cs a).1.1 ∧ (aftS xs cs a).1.1 ≤ (aftS xs cs a).1.2 ∧ (aftS xs cs a).1.2 ≤ xs.length := by
  obtain ⟨lo, hi, he, h1, ⟨o1, ho1, h2⟩, o2, ho2, h3⟩ := aft_ok hc ha h
  rw [he]
  have g1 := ends_le ho1 h
  have g2 := h1 o1 ho1
  have g3 := ends_n ho2 h
  refine ⟨rfl, ?_, ?_, ?_⟩ <;> simp only <;> omega
/-! ### StateJust -/
theorem ordE_ok {o : List Int × List Int} (ho : Ord xs o) : ordE xs o.1 o.2 = 0 := by
  obtain ⟨p, hp, he⟩ := ho.p
  have hol : o.2.length = xs.length := by rw [he]; simp [natsV, hp.len]
  have hget : ∀ i (hi : i < xs.length), o.2.getD i 0 = ((p[i]'(by rw [hp.len]; exact hi) : Nat) : Int) := fun i hi => by
    rw [he, getD_e (by simp [natsV, hp.len]; exact hi)]; simp [natsV]
  unfold ordE
  rw [if_neg, if_neg, if_neg, if_neg]
  · intro h
    obtain ⟨i, hi, h⟩ := List.any_eq_true.1 h
    have hi := List.mem_range.1 hi
    simp at h
    rcases ho.f i hi with h1 | h1
    · exact h.1 h1
    · exact h.2 h1
  · intro h
    obtain ⟨i, hi, h⟩ := List.any_eq_true.1 h
    have hi := List.mem_range.1 hi
    obtain ⟨x, hx, h⟩ := List.any_eq_true.1 h
    obtain ⟨j, hj, rfl⟩ := List.mem_take_iff_getElem.1 hx
    rw [hget i hi] at h
    have hj' : j < i := by omega
    have hjx : j < xs.length := by omega
    have h5 := hget j hjx
    rw [getD_e (by omega)] at h5
    rw [h5] at h
    have h : p[j]'(by rw [hp.len]; exact hjx) = p[i]'(by rw [hp.len]; exact hi) := by simp at h; omega
    rcases Nat.lt_or_ge j i with hji | hji
    · exact (List.pairwise_iff_getElem.1 (List.nodup_iff_pairwise_ne.1 hp.nodup) _ _ _ _ hji) h
    · omega
  · intro h
    obtain ⟨i, hi, h⟩ := List.any_eq_true.1 h
    have hi := List.mem_range.1 hi
    rw [hget i hi] at h
    have := hp.lt _ (List.getElem_mem (l := p) (n := i) (by rw [hp.len]; exact hi))
    have hv : o.1.getD i 0 = 1 ∨ o.1.getD i 0 = 2 := ho.v i hi
    have h1 : inB (o.1.getD i 0) 1 2 = true := by rcases hv with hv | hv <;> rw [hv] <;> rfl
    rw [h1] at h
    simp [inB] at h; omega
  · simp [ho.l, hol]

theorem odd_ok (hc : (chk xs cs).2.2 = 0) {o : List Int × List Int} (ho : Ord xs o) : oddS xs cs o.1 o.2 = (natsV (amidL cs o), 0) := by
  unfold oddS
  rw [if_neg (fun h => h hc), if_neg (fun h => h (ordE_ok ho))]
theorem amid_none {o : List Int × List Int} (ho : o ∈ agrL xs cs) : amidL cs o = [] := by
  have := (mem_agr.1 ho).2
  rw [← List.isEmpty_iff, amid_all, List.all_eq_true]; exact this
theorem head_first {o : List Int × List Int} (ho : o ∈ agrL xs cs) : (agrL xs cs).headD ([], []) ∈ agrL xs cs ∧ ordLt o ((agrL xs cs).headD ([], [])) = false := by
  have hs := agr_sorted xs cs
  generalize agrL xs cs = L at ho hs
  cases L with
  | nil => cases ho
  | cons a L =>
    refine ⟨by simp, ?_⟩
    rw [List.headD_cons]
    rcases List.mem_cons.1 ho with rfl | ho
    · exact ordLt_irr _
    · exact ordLt_asymm ((List.pairwise_cons.1 hs).1 o ho)
theorem ami_fit {ss : List Int} {n k : Nat} {o : List Int × List Int} (hs : ss.length = n) (ho : o.1.length = n) : (amiL ss (stateS k o)).isEmpty = fitB ss o.1 o.2 k := by
  rw [Bool.eq_iff_iff, List.isEmpty_iff]
  unfold amiL fitB
  rw [List.filter_eq_nil_iff, stateS_len, List.all_eq_true, hs, ho]
  constructor
  · intro h j hj
    have := h j hj
    unfold amiB at this
    rw [stateS_get (by rw [ho]; exact List.mem_range.1 hj)] at this
    simp only [Bool.and_eq_true, bne_iff_ne, not_and, Classical.not_not] at this
    simp only [Bool.or_eq_true, beq_iff_eq]
    exact (Classical.em _).imp id this
  · intro h j hj
    have := h j hj
    unfold amiB
    rw [stateS_get (by rw [ho]; exact List.mem_range.1 hj)]
    simp only [Bool.or_eq_true, beq_iff_eq] at this
    simp only [Bool.and_eq_true, bne_iff_ne, not_and, Classical.not_not]
    exact fun h0 => this.resolve_left h0
/-- A copy agrees if it shows one of the states. -/
theorem fits_any {ss : List Int} {n : Nat} {o : List Int × List Int} (hs : ss.length = n) (ho : o.1.length = n) (hl : o.2.length = n) : fitsO ss o = (List.range (n + 1)).any fun k => (amiL ss (stateS k o)).isEmpty := by
  rw [Bool.eq_iff_iff, fitsO_iff, List.any_eq_true]
  constructor
  · rintro ⟨k, h1, h2⟩
    exact ⟨k, List.mem_range.2 (by omega), by rw [ami_fit hs ho]; exact h2⟩
  · rintro ⟨k, h1, h2⟩
    rw [ami_fit hs ho] at h2
    exact ⟨k, by have := List.mem_range.1 h1; omega, h2⟩
theorem ord_okO (h5 : xs.length ≤ 5) {o : List Int × List Int} (ho : Ord xs o) : OkO xs.length o := by
  obtain ⟨p, hp, he⟩ := ho.p
  refine ⟨ho.l, by rw [he]; simp [natsV, hp.len], fun v hv => ?_, h5⟩
  obtain ⟨i, hi, rfl⟩ := List.mem_iff_getElem.1 hv
  have := ho.v i (by rw [← ho.l]; exact hi)
  rw [getD_e hi] at this
  omega
end

/-! ### Formes of which less is known -/

/-- Shows less than another copy, and nothing else. -/
def LessS (ss ts : List Int) : Prop := ss.length = ts.length ∧ ∀ j, ss.getD j 0 = 0 ∨ ss.getD j 0 = ts.getD j 0
theorem LessS.refl (ss : List Int) : LessS ss ss := ⟨rfl, fun _ => .inr rfl⟩
theorem LessS.fit {ss ts : List Int} (h : LessS ss ts) {fs os : List Int} {k : Nat} (hf : fitB ts fs os k = true) : fitB ss fs os k = true := by
  unfold fitB at hf ⊢
  rw [List.all_eq_true] at hf ⊢
  intro j hj
  rw [h.1] at hj
  have := hf j hj
  rcases h.2 j with h0 | h0
  · rw [h0]; rfl
  · rw [h0]; exact this
section
variable {xs : List (ByteArray × Int)} {cs ds : List (ByteArray × List Int)}
end
end Go.Ab.StF
