/-
  THE STATE FAMILY, PLAIN LAW, PART E: lists compared, sets as lists, the smallest set that does; Proof and Wrong.
  THE STATE FAMILY, PLAIN LAW, PART G: Wrong and Mistaken.
-/
import Derived.Test.YtmhbchljhnfahaaDoorPlainA
import Derived.Test.YtmhbchljhnfahaaDoorRefA
namespace Go.Ab.StF
open Go Go.Ab Go.Proofs

/-! ### Lists compared -/

/-- Does a list come before another one, number by number? -/
def befL : List Int → List Int → Bool
  | [], [] => false
  | [], _ :: _ => true
  | _ :: _, [] => false
  | x :: xs, y :: ys => if x = y then befL xs ys else decide (x < y)

def ltK (a b : List Int) : Bool := decide (a.length < b.length) || (decide (a.length = b.length) && befL a b)

theorem befL_irr : ∀ a, befL a a = false
  | [] => rfl
  | x :: xs => by simp [befL, befL_irr xs]

theorem befL_trans : ∀ (a b c : List Int), befL a b = true → befL b c = true → befL a c = true
  | [], [], c, h, _ => by cases h
  | [], _ :: _, [], _, h => by cases h
  | [], _ :: _, _ :: _, _, _ => rfl
  | _ :: _, [], _, h, _ => by cases h
  | _ :: _, _ :: _, [], _, h => by cases h
  | x :: xs, y :: ys, z :: zs, h1, h2 => by
    simp only [befL] at h1 h2 ⊢
    by_cases e1 : x = y
    · subst e1
      rw [if_pos rfl] at h1
      by_cases e2 : x = z
      · rw [if_pos e2] at h2 ⊢; exact befL_trans _ _ _ h1 h2
      · rw [if_neg e2] at h2 ⊢; exact h2
    · rw [if_neg e1] at h1
      have h1 := of_decide_eq_true h1
      by_cases e2 : y = z
      · subst e2; rw [if_neg e1]; exact decide_eq_true h1
      · rw [if_neg e2] at h2
        have h2 := of_decide_eq_true h2
        rw [if_neg (by omega)]; exact decide_eq_true (by omega)

/-! ### Sets as lists -/

/-! ### All orders -/

/-! ### Proof -/

/-- Has a list of copies one that does not agree with an order? -/
def hitsB (cs : List (ByteArray × List Int)) (l : List Nat) (o : List Int × List Int) : Bool := l.any fun i => (amidL cs o).contains i

theorem amid_mem {cs : List (ByteArray × List Int)} {o : List Int × List Int} {i : Nat} : i ∈ amidL cs o ↔ i < cs.length ∧ (stpL (showsOf cs i) o.1 o.2).isEmpty = true := by
  unfold amidL; rw [List.mem_filter, List.mem_range]

/-- All ascending lists of so many numbers. -/
def listsL : Nat → Nat → Nat → List (List Nat)
  | _, _, 0 => [[]]
  | f, b, m + 1 => (List.range' f (b - (f + m))).flatMap fun k => (listsL (k + 1) b m).map fun l => k :: l

def proofS (xs : List (ByteArray × Int)) (cs : List (ByteArray × List Int)) : List Int × Int :=
  if (chk xs cs).2.2 ≠ 0 then ([], (chk xs cs).2.2) else if (allL xs).any (fun o => (amidL cs o).isEmpty) then ([], 4) else
  match ((List.range cs.length).flatMap fun m => listsL 0 cs.length (m + 1)).find? (fun l => (allL xs).all (hitsB cs l)) with
  | some l => (natsV l, 0)
  | none => ([], 4)

/-- Ascending, and within bounds. -/
def Asc (f b : Nat) (l : List Nat) : Prop := l.Pairwise (· < ·) ∧ ∀ x ∈ l, f ≤ x ∧ x < b

end Go.Ab.StF

namespace Go.Ab.StF
open Go Go.Ab Go.Proofs

/-- The least of some lists. -/
def bestF (l0 : List Int) (ls : List (List Int)) : List Int := ls.foldl (fun b l => if ltK l b then l else b) l0

def wrongS (xs : List (ByteArray × Int)) (cs : List (ByteArray × List Int)) : List Int × Int :=
  if (chk xs cs).2.2 ≠ 0 then ([], (chk xs cs).2.2) else
  (bestF (natsV (amidL cs ((allL xs).headD ([], [])))) ((allL xs).tail.map fun o => natsV (amidL cs o)), 0)

/-! ### Mistaken -/

/-- The fewest readings of a copy that are not so in an order, as loci. -/
def bestK (ss : List Int) (o : List Int × List Int) (n : Nat) : List Int := bestF (natsV (amiL ss (stateS 0 o))) ((List.range n).map fun k => natsV (amiL ss (stateS (k + 1) o)))

/-- The fewest mistaken readings, as a number each. -/
def offS (n : Nat) (cs : List (ByteArray × List Int)) (o : List Int × List Int) : List Int := (List.range cs.length).flatMap fun i => (bestK (showsOf cs i) o n).map fun k => (i : Int) * n + k

def mistS (xs : List (ByteArray × Int)) (cs : List (ByteArray × List Int)) : List (Int × Int) × Int :=
  if (chk xs cs).2.2 ≠ 0 then ([], (chk xs cs).2.2) else
  ((bestF (offS xs.length cs ((allL xs).headD ([], []))) ((allL xs).tail.map (offS xs.length cs))).map fun x => (x.tdiv xs.length, x.tmod xs.length), 0)

def phi (n : Nat) (p : Int × Int) : Int := p.1 * n + p.2

/-- Readings, within bounds. -/
def RdOk (n : Nat) (p : Int × Int) : Prop := 0 ≤ p.1 ∧ p.1 < 1000 ∧ 0 ≤ p.2 ∧ p.2 < n

end Go.Ab.StF
