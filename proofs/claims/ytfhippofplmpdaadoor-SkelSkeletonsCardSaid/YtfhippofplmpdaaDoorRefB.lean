/-
  THE SKELETON FAMILY, PART PN: days on which types crack, and what is in doubt, of the reference: plain.
  THE SKELETON FAMILY, PART RC: days on which types crack, and what is in doubt: of the reference.
-/
import Derived.Test.YtfhippofplmpdaaDoorRefA
namespace Go.Ab.SkF
open Go Go.Ab Go.Ab.Pln

/-- What the reference looks for among the days of a forme. -/
def cndB (day look d : Int) : Bool := decide (d ≥ day) == (look == 2)
/-- The days of Cracks. -/
def crkP (fs : Fms) (ss : Sgs) (t : Int) (d : Nat) : Bool := ss.all (saidB fs t d)
def crkL (fs : Fms) (ss : Sgs) (t : Int) : List Nat := (List.range 62).filter (crkP fs ss t)
/-! ### Lists that are gone through -/
theorem find_at {α : Type} {g : Nat → List α} {P : α → Bool} {a n m i : Nat} (h1 : a ≤ m) (h2 : m < a + n) (hi : i < (g m).length) (hp : P (g m)[i] = true) (hl : ∀ m', a ≤ m' → m' < m → ∀ l ∈ g m', P l = false) (hj : ∀ j, j < i → ∀ h : j < (g m).length, P (g m)[j] = false) :
    ((List.range' a n).flatMap g).find? P = some (g m)[i] := by
  have e : List.range' a n = List.range' a (m - a) ++ m :: List.range' (m + 1) (a + n - (m + 1)) := by
    have b := List.range'_append (s := a) (m := m - a) (n := a + n - m) (step := 1)
    rw [show a + 1 * (m - a) = m by omega, show m - a + (a + n - m) = n by omega] at b
    rw [← b]; congr 1
    rw [show a + n - m = (a + n - (m + 1)) + 1 by omega, List.range'_succ]
  rw [e, List.flatMap_append, List.flatMap_cons, List.find?_append, List.find?_append]
  have n1 : ((List.range' a (m - a)).flatMap g).find? P = none := List.find?_eq_none.2 fun l hlm => by
    obtain ⟨m', hm', hlm⟩ := List.mem_flatMap.1 hlm
    rw [List.mem_range'_1] at hm'
    rw [hl m' hm'.1 (by omega) l hlm]; simp
  have n2 : (g m).find? P = some (g m)[i] := by
    rw [List.find?_eq_some_iff_getElem]
    exact ⟨hp, i, hi, rfl, fun j hj' => by rw [hj j hj' (by omega)]; rfl⟩
  rw [n1, n2]; rfl
theorem find_no {α : Type} {g : Nat → List α} {P : α → Bool} {a n : Nat} (hl : ∀ m', a ≤ m' → m' < a + n → ∀ l ∈ g m', P l = false) : ((List.range' a n).flatMap g).find? P = none := List.find?_eq_none.2 fun l hlm => by
  obtain ⟨m', hm', hlm⟩ := List.mem_flatMap.1 hlm
  rw [List.mem_range'_1] at hm'
  rw [hl m' hm'.1 hm'.2 l hlm]; simp
theorem fsum_len {b : Nat} {α : Type} {h : Nat → List α} : ∀ (n f : Nat), f + n ≤ b → (∀ k, f ≤ k → k < b → (h k).length ≤ 2 ^ (b - (k + 1))) → ((List.range' f n).flatMap h).length + 1 ≤ 2 ^ (b - f)
  | 0, f, _, _ => by simpa using Nat.one_le_two_pow
  | n + 1, f, hb, hh => by
    have h1 := fsum_len n (f + 1) (by omega) fun k hk hk' => hh k (by omega) hk'
    have h2 := hh f (Nat.le_refl _) (by omega)
    have e : 2 ^ (b - f) = 2 ^ (b - (f + 1)) + 2 ^ (b - (f + 1)) := by rw [show b - f = b - (f + 1) + 1 by omega, Nat.pow_succ]; omega
    rw [List.range'_succ, List.flatMap_cons, List.length_append, e]; omega
theorem listsL_le : ∀ (m f b : Nat), f ≤ b → (listsL f b m).length ≤ 2 ^ (b - f)
  | 0, f, b, _ => Nat.one_le_two_pow
  | m + 1, f, b, hf => by
    have := fsum_len (b := b) (h := fun k => (listsL (k + 1) b m).map fun l => k :: l) (b - (f + m)) f (by omega) fun k hk hk' => by
      rw [List.length_map]; exact listsL_le m (k + 1) b hk'
    unfold listsL
    omega
theorem listsL_len {c : Nat} (hc : c ≤ 12) (m : Nat) : (listsL 0 c m).length ≤ 4096 :=
  Nat.le_trans (listsL_le m 0 c (Nat.zero_le _)) (Nat.pow_le_pow_right (n := 2) (by omega) (show c - 0 ≤ 12 by omega))
theorem has_nats (l : List Nat) (i : Nat) : ((natsV l).any fun x => x == (i : Int)) = l.contains i := by
  rw [Bool.eq_iff_iff, List.any_eq_true, List.contains_iff_mem]
  constructor
  · rintro ⟨x, hx, he⟩
    obtain ⟨k, hk, rfl⟩ := List.mem_map.1 hx
    have : (k : Int) = i := by simpa using he
    obtain rfl : k = i := by omega
    exact hk
  · intro h; exact ⟨(i : Int), List.mem_map.2 ⟨i, h, rfl⟩, by simp⟩
end Go.Ab.SkF

namespace Go.Ab.SkF
open Go Go.Ab Go.Ab.Pln Go.Proofs
set_option maxHeartbeats 1000000
set_option maxRecDepth 100000

end Go.Ab.SkF
