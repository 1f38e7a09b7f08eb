/-
  THE STATE FAMILY, OUTRIGHT LAWS, PLAIN PART C: Proof, Wrong and Mistaken are the fewest.
  THE STATE FAMILY, OUTRIGHT LAWS, PLAIN PART D: both readings of a locus exchanged; the order that goes back; copies in another order, or twice; copies that show what was there.
-/
import Derived.Test.YtmhbchljhnfahaaDoorPlainC
import Derived.Test.YtmhbchljhnfahaaDoorPlainH
namespace Go.Ab.StF
open Go Go.Ab

section
variable {xs : List (ByteArray × Int)} {cs : List (ByteArray × List Int)}

/-- Some copies of a forme. -/
def onlyL (cs : List (ByteArray × List Int)) (l : List Nat) : List (ByteArray × List Int) := l.map fun i => cs.getD i (ByteArray.empty, [])
/-- Does some order agree with some copies? -/
def agrsB (xs : List (ByteArray × Int)) (cs : List (ByteArray × List Int)) (l : List Nat) : Bool := !(allL xs).all (hitsB cs l)

theorem allL_ne' (hc : (chk xs cs).2.2 = 0) : allL xs ≠ [] := allL_ne (chk_valid hc).fst

/-! ### Proof -/
/-! ### Wrong -/
theorem best_of {α : Type} [Inhabited α] {A : List α} (d : α) (h : A ≠ []) (g : α → List Int) : ∃ a ∈ A, bestF (g (A.headD d)) (A.tail.map g) = g a ∧ ∀ b ∈ A, ltK (g b) (g a) = false := by
  cases A with
  | nil => exact absurd rfl h
  | cons x A =>
    simp only [List.headD_cons, List.tail_cons]
    obtain ⟨h1, h2⟩ := bestF_spec (A.map g) (g x)
    rw [← List.map_cons] at h1 h2
    obtain ⟨a, ha, he⟩ := List.mem_map.1 h1
    exact ⟨a, ha, he.symm, fun b hb => by rw [he]; exact h2 _ (List.mem_map_of_mem hb)⟩
theorem ltK_len {a b : List Int} (h : ltK b a = false) : a.length ≤ b.length := by
  rw [Bool.eq_false_iff, Ne, ltK_iff] at h
  omega
theorem wrong_cases (hc : (chk xs cs).2.2 = 0) : ∃ o, Ord xs o ∧ wrongS xs cs = (natsV (amidL cs o), 0) ∧ ∀ o', Ord xs o' → (amidL cs o).length ≤ (amidL cs o').length := by
  obtain ⟨o, h1, h2, h3⟩ := best_of (([], []) : List Int × List Int) (allL_ne' hc) fun o => natsV (amidL cs o)
  refine ⟨o, mem_allL.1 h1, by unfold wrongS; rw [if_neg (fun h => h hc), h2], fun o' ho' => ?_⟩
  have := ltK_len (h3 o' (mem_allL.2 ho'))
  simpa [natsV] using this
/-! ### Mistaken -/
theorem mist_cases (hc : (chk xs cs).2.2 = 0) : ∃ o, Ord xs o ∧ mistS xs cs = ((offS xs.length cs o).map (rdI xs.length), 0) ∧ ∀ o', Ord xs o' → (offS xs.length cs o).length ≤ (offS xs.length cs o').length := by
  obtain ⟨o, h1, h2, h3⟩ := best_of (([], []) : List Int × List Int) (allL_ne' hc) (offS xs.length cs)
  refine ⟨o, mem_allL.1 h1, by unfold mistS; rw [if_neg (fun h => h hc), h2]; rfl, fun o' ho' => ?_⟩
  exact ltK_len (h3 o' (mem_allL.2 ho'))
theorem bestK_mem (ss : List Int) (o : List Int × List Int) (n : Nat) : ∃ k, k ≤ n ∧ bestK ss o n = natsV (amiL ss (stateS k o)) := by
  have h := (bestF_spec ((List.range n).map fun k => natsV (amiL ss (stateS (k + 1) o))) (natsV (amiL ss (stateS 0 o)))).1
  unfold bestK
  rcases List.mem_cons.1 h with h | h
  · exact ⟨0, Nat.zero_le _, h⟩
  · obtain ⟨k, hk, he⟩ := List.mem_map.1 h
    exact ⟨k + 1, by have := List.mem_range.1 hk; omega, he.symm⟩
theorem bestK_le (ss : List Int) (o : List Int × List Int) {n k : Nat} (hk : k ≤ n) : (bestK ss o n).length ≤ (amiL ss (stateS k o)).length := by
  have h := (bestF_spec ((List.range n).map fun k => natsV (amiL ss (stateS (k + 1) o))) (natsV (amiL ss (stateS 0 o)))).2
  have h2 : natsV (amiL ss (stateS k o)) ∈ natsV (amiL ss (stateS 0 o)) :: (List.range n).map fun k => natsV (amiL ss (stateS (k + 1) o)) := by
    cases k with
    | zero => simp
    | succ k => exact List.mem_cons_of_mem _ (List.mem_map.2 ⟨k, List.mem_range.2 (by omega), rfl⟩)
  have := ltK_len (h _ h2)
  rw [show (natsV (amiL ss (stateS k o))).length = (amiL ss (stateS k o)).length by simp [natsV]] at this
  exact this
theorem fits_best {ss : List Int} {n : Nat} {o : List Int × List Int} (hs : ss.length = n) (ho : o.1.length = n) (hl : o.2.length = n) : fitsO ss o = (bestK ss o n).isEmpty := by
  rw [Bool.eq_iff_iff, fits_any hs ho hl, List.any_eq_true]
  constructor
  · rintro ⟨k, h1, h2⟩
    have := bestK_le ss o (n := n) (k := k) (by have := List.mem_range.1 h1; omega)
    rw [List.isEmpty_iff] at h2 ⊢
    rw [h2] at this
    exact List.eq_nil_of_length_eq_zero (by simpa using this)
  · intro h
    obtain ⟨k, h1, h2⟩ := bestK_mem ss o n
    refine ⟨k, List.mem_range.2 (by omega), ?_⟩
    rw [h2] at h
    cases he : amiL ss (stateS k o) with
    | nil => rfl
    | cons a l => rw [he] at h; cases h
/-! ### Readings left out -/
/-- A copy without some readings. -/
def blankC (l : List (Int × Int)) (i : Nat) (ss : List Int) : List Int := (List.range ss.length).map fun j : Nat => if l.contains ((i : Int), (j : Int)) then 0 else ss.getD j 0
def blankL (cs : List (ByteArray × List Int)) (l : List (Int × Int)) : List (ByteArray × List Int) := (List.range cs.length).map fun i => ((cs.getD i (ByteArray.empty, [])).1, blankC l i (showsOf cs i))
end
end Go.Ab.StF

namespace Go.Ab.StF
open Go Go.Ab

/-! ### Both readings of a locus exchanged -/
/-- The other reading, if one is known. -/
def oth (v : Int) : Int := if v = 0 then 0 else 3 - v
def flipS (n : Nat) (ss : List Int) : List Int := ss.set n (oth (ss.getD n 0))
def flipX (n : Nat) (xs : List (ByteArray × Int)) : List (ByteArray × Int) := xs.set n ((xs.getD n (ByteArray.empty, 0)).1, oth (xs.getD n (ByteArray.empty, 0)).2)
def flipC (n : Nat) (cs : List (ByteArray × List Int)) : List (ByteArray × List Int) := cs.map fun c => (c.1, flipS n c.2)
def flipO (n : Nat) (o : List Int × List Int) : List Int × List Int := (o.1.set n (3 - o.1.getD n 0), o.2)

theorem at_vals {n k j : Nat} {o : List Int × List Int} (h : ∀ i, i < n → (o.1.getD i 0 = 1 ∨ o.1.getD i 0 = 2)) (hj : j < n) : atV o.1 o.2 k j = 1 ∨ atV o.1 o.2 k j = 2 := by
  unfold atV
  have := h j hj
  split <;> omega
section
variable {xs : List (ByteArray × Int)} {cs : List (ByteArray × List Int)} {n : Nat}

/-! ### The order that goes back -/
def backO (o : List Int × List Int) : List Int × List Int := (o.1.map oth, o.2.reverse)
/-! ### Copies in another order, or twice -/
/-! ### Copies that show what was there -/
theorem told_fits {o : List Int × List Int} (ho : Ord xs o) {k : Nat} (hk : k ≤ xs.length) {ss : List Int} (hs : ss.length = xs.length) (h : ∀ j, j < xs.length → ss.getD j 0 = 0 ∨ ss.getD j 0 = atV o.1 o.2 k j) : k ∈ stpL ss o.1 o.2 := by
  have hol : o.2.length = xs.length := by obtain ⟨p, hp, he⟩ := ho.p; rw [he]; simp [natsV, hp.len]
  refine List.mem_filter.2 ⟨List.mem_range.2 (by omega), ?_⟩
  unfold fitB
  rw [List.all_eq_true]
  intro j hj
  have := h j (by rw [← hs]; exact List.mem_range.1 hj)
  simpa only [Bool.or_eq_true, beq_iff_eq] using this
end
end Go.Ab.StF
