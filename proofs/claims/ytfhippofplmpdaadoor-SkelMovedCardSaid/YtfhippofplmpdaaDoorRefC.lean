/-
  THE SKELETON FAMILY, PART PO: numbers of the reference: plain.
  THE SKELETON FAMILY, PART RD: numbers: of the reference.
-/
import Derived.Test.YtfhippofplmpdaaDoorRefB
namespace Go.Ab.SkF
open Go Go.Ab Go.Ab.Pln

abbrev gR (g : List Nat) : Rel := fun a k => g.getD k 0 == g.getD a 0
abbrev mR (t : List (List Bool)) : Rel := fun a k => (t.getD a []).getD k false
def rowR (R : Rel) (n a : Nat) : List Bool := (List.range n).map (R a)
def tabR (R : Rel) (n : Nat) : List (List Bool) := (List.range n).map (rowR R n)
/-- What is asked of one of those ahead. -/
def okK (G M : Rel) (l : List Nat) (n k : Nat) : Bool := !(G l.length k && l.getD k 0 != n || M l.length k && l.getD k 0 == n)
def numU (G M : Rel) (lim m : Nat) (l : List Nat) (k : Nat) : List (List Nat) := (List.range k).flatMap fun n => if okN G M l n then numR G M lim m (l ++ [n]) else []
theorem Few.congr {G M G' M' : Rel} {n : Nat} {x : List Nat} {u : Nat} (h : ∀ i k, i < n → k < i → G i k = G' i k ∧ M i k = M' i k) (hf : Few G M n x u) : Few G' M' n x u := by
  refine ⟨by rw [← fewS_congr h]; exact hf.eq, ?_, hf.top, hf.pos, hf.le, fun c hc K hK => hf.least c (hc.congr fun i k hi hk => ⟨(h i k hi hk).1.symm, (h i k hi hk).2.symm⟩) K hK, by rw [← waysA_congr h]; exact hf.head, fun lim hl => by rw [← waysA_congr h]; exact hf.none lim hl⟩
  have : (x, u) ∈ waysA G' M' u n := by rw [← waysA_congr h]; exact List.mem_of_mem_head? hf.head
  exact (mem_ways.1 this).1
theorem ask_no {ts : List ByteArray} {fs : Fms} {ss : Sgs} (h : chE ts fs ss ≠ 0) : askE ts fs ss = chE ts fs ss := by unfold askE; rw [if_pos h]
theorem ask_cl {ts : List ByteArray} {fs : Fms} {ss : Sgs} (h : chE ts fs ss = 0) {p : Nat × Nat} (hJ : clashJ fs ss = some p) : askE ts fs ss = 9 := by unfold askE; rw [if_neg (fun h' => h' h), hJ]; rfl
theorem ask_ok {ts : List ByteArray} {fs : Fms} {ss : Sgs} (h : chE ts fs ss = 0) (hJ : clashJ fs ss = none) : askE ts fs ss = 0 := by unfold askE; rw [if_neg (fun h' => h' h), hJ]; rfl
end Go.Ab.SkF

namespace Go.Ab.SkF
open Go Go.Ab Go.Ab.Pln Go.Proofs
set_option maxHeartbeats 1000000
set_option maxRecDepth 100000

abbrev boolsV (t : List (List Bool)) : AV S := .sl (S := S) U.bools t none
end Go.Ab.SkF
