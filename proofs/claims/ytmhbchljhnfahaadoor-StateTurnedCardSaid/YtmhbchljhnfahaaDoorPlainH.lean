/-
  THE STATE FAMILY, PLAIN LAW, PART H: the mistaken readings of an order, copy by copy.
-/
import Derived.Test.YtmhbchljhnfahaaDoorPlainB
namespace Go.Ab.StF
open Go Go.Ab Go.Proofs

/-- The fewest of a copy, of the first states. -/
def bstJ (ss : List Int) (o : List Int × List Int) (j : Nat) : List Int := bestF (natsV (amiL ss (stateS 0 o))) ((List.range j).map fun k => natsV (amiL ss (stateS (k + 1) o)))

theorem bstJ_vals {ss : List Int} {o : List Int × List Int} {n : Nat} (ho : o.1.length = n) (j : Nat) : (∀ k ∈ bstJ ss o j, 0 ≤ k ∧ k < (n : Int)) ∧ (bstJ ss o j).length ≤ n := by
  have hami : ∀ q, (∀ k ∈ natsV (amiL ss (stateS q o)), 0 ≤ k ∧ k < (n : Int)) ∧ (natsV (amiL ss (stateS q o))).length ≤ n := fun q => by
    refine ⟨fun k hk => ?_, ?_⟩
    · obtain ⟨j, hj, rfl⟩ := List.mem_map.1 hk
      have := List.mem_range.1 (List.mem_filter.1 hj).1
      rw [stateS_len, ho] at this
      omega
    · have := nf_len (amiB ss (stateS q o)) (stateS q o).length
      rw [stateS_len, ho] at this
      unfold amiL
      rwa [stateS_len, ho]
  have h1 := (bestF_spec ((List.range j).map fun k => natsV (amiL ss (stateS (k + 1) o))) (natsV (amiL ss (stateS 0 o)))).1
  unfold bstJ
  rcases List.mem_cons.1 h1 with h1 | h1
  · rw [h1]; exact hami 0
  · obtain ⟨q, _, hq⟩ := List.mem_map.1 h1
    rw [← hq]; exact hami _

def offU (n : Nat) (cs : List (ByteArray × List Int)) (o : List Int × List Int) (i : Nat) : List Int := (List.range i).flatMap fun i => (bestK (showsOf cs i) o n).map fun k => (i : Int) * n + k
theorem offU_succ (n : Nat) (cs : List (ByteArray × List Int)) (o : List Int × List Int) (i : Nat) : offU n cs o (i + 1) = offU n cs o i ++ (bestK (showsOf cs i) o n).map fun k => (i : Int) * n + k := by
  unfold offU
  rw [List.range_succ, List.flatMap_append, List.flatMap_singleton]
theorem bestK_J (ss : List Int) (o : List Int × List Int) (n : Nat) : bestK ss o n = bstJ ss o n := rfl

theorem offU_vals {cs : List (ByteArray × List Int)} {o : List Int × List Int} {n : Nat} (ho : o.1.length = n) (hn : n ≤ 5) : ∀ i, (offU n cs o i).length ≤ i * 5 ∧ ∀ x ∈ offU n cs o i, 0 ≤ x ∧ x < ((i * 5 + 5 : Nat) : Int)
  | 0 => ⟨Nat.le_refl _, fun x h => by cases h⟩
  | i + 1 => by
    obtain ⟨h1, h2⟩ := offU_vals (cs := cs) ho hn i
    obtain ⟨g1, g2⟩ := bstJ_vals (ss := showsOf cs i) ho n
    rw [offU_succ, bestK_J]
    refine ⟨by rw [List.length_append, List.length_map]; omega, fun x hx => ?_⟩
    rcases List.mem_append.1 hx with hx | hx
    · have := h2 x hx; omega
    · obtain ⟨k, hk, rfl⟩ := List.mem_map.1 hx
      obtain ⟨k0, k1⟩ := g1 k hk
      have h3 : (i : Int) * n ≤ (i : Int) * 5 := Int.mul_le_mul_of_nonneg_left (by omega) (by omega)
      have h4 : 0 ≤ (i : Int) * n := Int.mul_nonneg (by omega) (by omega)
      omega

theorem offS_U (n : Nat) (cs : List (ByteArray × List Int)) (o : List Int × List Int) : offS n cs o = offU n cs o cs.length := rfl

def offW (n : Nat) (cs : List (ByteArray × List Int)) (o : List Int × List Int) (i q : Nat) : List Int := offU n cs o i ++ ((bestK (showsOf cs i) o n).take q).map fun k => (i : Int) * n + k
def rdI (n : Nat) (x : Int) : Int × Int := (x.tdiv n, x.tmod n)
end Go.Ab.StF
