/-
  THE STATE FAMILY, OUTRIGHT LAWS, PLAIN PART C: Proof, Wrong and Mistaken are the fewest.
-/
import Derived.Test.YtmhbchljhnfahaaDoorPlainC
import Derived.Test.YtmhbchljhnfahaaDoorPlainH
namespace Go.Ab.StF
open Go Go.Ab

section
variable {xs : List (ByteArray × Int)} {cs : List (ByteArray × List Int)}

/-- Some copies of a forme. -/
def onlyL (cs : List (ByteArray × List Int)) (l : List Nat) : List (ByteArray × List Int) := l.map fun i => cs.getD i (ByteArray.empty, [])
/-- Does some order agree with some copies? -/
def agrsB (xs : List (ByteArray × Int)) (cs : List (ByteArray × List Int)) (l : List Nat) : Bool := !(allL xs).all (hitsB cs l)

/-! ### Proof -/
/-! ### Wrong -/
/-! ### Mistaken -/
/-! ### Readings left out -/
/-- A copy without some readings. -/
def blankC (l : List (Int × Int)) (i : Nat) (ss : List Int) : List Int := (List.range ss.length).map fun j : Nat => if l.contains ((i : Int), (j : Int)) then 0 else ss.getD j 0
def blankL (cs : List (ByteArray × List Int)) (l : List (Int × Int)) : List (ByteArray × List Int) := (List.range cs.length).map fun i => ((cs.getD i (ByteArray.empty, [])).1, blankC l i (showsOf cs i))
theorem blankC_get (l : List (Int × Int)) (i : Nat) (ss : List Int) (j : Nat) : (blankC l i ss).getD j 0 = if l.contains ((i : Int), (j : Int)) then 0 else ss.getD j 0 := by
  unfold blankC
  by_cases h : j < ss.length
  · rw [getD_e (by simpa using h)]; simp
  · rw [List.getD_eq_getElem?_getD, List.getElem?_eq_none (by simp; omega)]
    have : ss.getD j 0 = 0 := by rw [List.getD_eq_getElem?_getD, List.getElem?_eq_none (by omega)]; rfl
    rw [this]; simp
theorem blankC_less (l : List (Int × Int)) (i : Nat) (ss : List Int) : LessS (blankC l i ss) ss := by
  refine ⟨by simp [blankC], fun j => ?_⟩
  rw [blankC_get]; split
  · exact .inl rfl
  · exact .inr rfl
theorem blank_len (cs : List (ByteArray × List Int)) (l : List (Int × Int)) : (blankL cs l).length = cs.length := by simp [blankL]
theorem blank_shows {l : List (Int × Int)} {i : Nat} (hi : i < cs.length) : showsOf (blankL cs l) i = blankC l i (showsOf cs i) := by
  rw [showsOf_eq (by rw [blank_len]; exact hi)]; simp [blankL]
theorem blank_chk (hc : (chk xs cs).2.2 = 0) (l : List (Int × Int)) : (chk xs (blankL cs l)).2.2 = 0 := by
  have hv := chk_valid hc
  refine chk_cops hc ((chk_iff.1 hc).2.same ?_ fun c hcm => ?_)
  · apply List.ext_getElem
    · simp [blankL]
    · intro i h1 h2
      have : i < cs.length := by simpa using h2
      simp [blankL, this]
  · obtain ⟨i, hi, rfl⟩ := List.mem_map.1 hcm
    have hi := List.mem_range.1 hi
    have h1 := hv.len _ (List.getElem_mem hi)
    have h2 := hv.shows _ (List.getElem_mem hi)
    rw [showsOf_eq hi]
    refine ⟨by simp [blankC, h1], fun v hv => ?_⟩
    obtain ⟨j, hj, rfl⟩ := List.mem_map.1 hv
    have hj := List.mem_range.1 hj
    split
    · omega
    · rw [getD_e hj]; exact h2 _ (List.getElem_mem hj)
theorem blank_mem {l : List (Int × Int)} {o : List Int × List Int} : o ∈ agrL xs (blankL cs l) ↔ Ord xs o ∧ ∀ i, i < cs.length → fitsO (blankC l i (showsOf cs i)) o = true := by
  rw [mem_agr]
  refine and_congr Iff.rfl ⟨fun h i hi => ?_, fun h c hc => ?_⟩
  · have := h _ (List.getElem_mem (l := blankL cs l) (n := i) (by rw [blank_len]; exact hi))
    rwa [← showsOf_eq (by rw [blank_len]; exact hi), blank_shows hi] at this
  · obtain ⟨i, hi, rfl⟩ := List.mem_map.1 hc
    exact h i (List.mem_range.1 hi)
end
end Go.Ab.StF
