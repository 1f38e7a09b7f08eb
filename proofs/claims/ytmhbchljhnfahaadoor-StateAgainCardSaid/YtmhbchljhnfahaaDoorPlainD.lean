/-
  THE STATE FAMILY, OUTRIGHT LAWS, PLAIN PART C: Proof, Wrong and Mistaken are the fewest.
  THE STATE FAMILY, OUTRIGHT LAWS, PLAIN PART D: both readings of a locus exchanged; the order that goes back; copies in another order, or twice; copies that show what was there.
-/
import Derived.Test.YtmhbchljhnfahaaDoorPlainC
import Derived.Test.YtmhbchljhnfahaaDoorPlainH
namespace Go.Ab.StF
open Go Go.Ab

section
variable {xs : List (ByteArray × Int)} {cs : List (ByteArray × List Int)}

/-- Some copies of a forme. -/
def onlyL (cs : List (ByteArray × List Int)) (l : List Nat) : List (ByteArray × List Int) := l.map fun i => cs.getD i (ByteArray.empty, [])
/-- Does some order agree with some copies? -/
def agrsB (xs : List (ByteArray × Int)) (cs : List (ByteArray × List Int)) (l : List Nat) : Bool := !(allL xs).all (hitsB cs l)

/-! ### Proof -/
/-! ### Wrong -/
/-! ### Mistaken -/
/-! ### Readings left out -/
/-- A copy without some readings. -/
def blankC (l : List (Int × Int)) (i : Nat) (ss : List Int) : List Int := (List.range ss.length).map fun j : Nat => if l.contains ((i : Int), (j : Int)) then 0 else ss.getD j 0
def blankL (cs : List (ByteArray × List Int)) (l : List (Int × Int)) : List (ByteArray × List Int) := (List.range cs.length).map fun i => ((cs.getD i (ByteArray.empty, [])).1, blankC l i (showsOf cs i))
end
end Go.Ab.StF

namespace Go.Ab.StF
open Go Go.Ab

/-! ### Both readings of a locus exchanged -/
/-- The other reading, if one is known. -/
def oth (v : Int) : Int := if v = 0 then 0 else 3 - v
def flipS (n : Nat) (ss : List Int) : List Int := ss.set n (oth (ss.getD n 0))
def flipX (n : Nat) (xs : List (ByteArray × Int)) : List (ByteArray × Int) := xs.set n ((xs.getD n (ByteArray.empty, 0)).1, oth (xs.getD n (ByteArray.empty, 0)).2)
def flipC (n : Nat) (cs : List (ByteArray × List Int)) : List (ByteArray × List Int) := cs.map fun c => (c.1, flipS n c.2)
def flipO (n : Nat) (o : List Int × List Int) : List Int × List Int := (o.1.set n (3 - o.1.getD n 0), o.2)

section
variable {xs : List (ByteArray × Int)} {cs : List (ByteArray × List Int)} {n : Nat}

/-! ### The order that goes back -/
def backO (o : List Int × List Int) : List Int × List Int := (o.1.map oth, o.2.reverse)
/-! ### Copies in another order, or twice -/
theorem agr_rev : agrL xs cs.reverse = agrL xs cs := agrL_congr fun o => by simp
theorem agr_twice {nm : ByteArray} {i : Nat} (hi : i < cs.length) : agrL xs (cs ++ [(nm, showsOf cs i)]) = agrL xs cs := agrL_congr fun o => by
  constructor
  · intro h c hc; exact h c (by simp [hc])
  · intro h c hc
    rcases List.mem_append.1 hc with hc | hc
    · exact h c hc
    · obtain rfl : c = _ := by simpa using hc
      rw [showsOf_eq hi]
      exact (h cs[i] (List.getElem_mem hi) :)
theorem first_agr {ds : List (ByteArray × List Int)} (hc : (chk xs cs).2.2 = 0) (hd : (chk xs ds).2.2 = 0) (h : agrL xs ds = agrL xs cs) : firstS xs ds = firstS xs cs := by
  by_cases ha : agrL xs cs = []
  · rw [first_no hc ha, first_no hd (h.trans ha)]
  · rw [first_ok hc ha, first_ok hd (by rw [h]; exact ha), h]
theorem last_agr {ds : List (ByteArray × List Int)} (hc : (chk xs cs).2.2 = 0) (hd : (chk xs ds).2.2 = 0) (ha : agrL xs cs ≠ []) (h : agrL xs ds = agrL xs cs) : lastS xs ds = lastS xs cs := by
  rw [last_ok hc ha, last_ok hd (by rw [h]; exact ha), h]
theorem ear_twice {nm : ByteArray} {i : Nat} (hi : i < cs.length) (hd : (chk xs (cs ++ [(nm, showsOf cs i)])).2.2 = 0) (ha : agrL xs cs ≠ []) : earS xs (cs ++ [(nm, showsOf cs i)]) i cs.length = (0, 0) := by
  have ha' : agrL xs (cs ++ [(nm, showsOf cs i)]) ≠ [] := by rw [agr_twice hi]; exact ha
  have h1 : i < (cs ++ [(nm, showsOf cs i)]).length := by simp; omega
  have h2 : cs.length < (cs ++ [(nm, showsOf cs i)]).length := by simp
  have hs : ∀ o, endsS (cs ++ [(nm, showsOf cs i)]) cs.length o = endsS (cs ++ [(nm, showsOf cs i)]) i o := fun o => by
    unfold endsS
    have e1 : showsOf (cs ++ [(nm, showsOf cs i)]) cs.length = showsOf cs i := by show ((List.getD _ _ _ : ByteArray × List Int)).2 = _; rw [List.getD_eq_getElem?_getD, List.getElem?_append_right (Nat.le_refl _)]; simp
    have e2 : showsOf (cs ++ [(nm, showsOf cs i)]) i = showsOf cs i := by show ((List.getD _ _ _ : ByteArray × List Int)).2 = _; rw [List.getD_eq_getElem?_getD, List.getElem?_append_left hi, ← List.getD_eq_getElem?_getD]
    rw [e1, e2]
  refine Prod.ext ?_ (ear_e hd ha' h1 h2)
  obtain ⟨o, ho⟩ := List.exists_mem_of_ne_nil _ ha'
  have hle := ends_le ho h1
  rcases ear_vals hd ha' h1 h2 with g | g | g
  · exact g
  · have := (ear_one hd ha' h1 h2).1 g o ho
    rw [hs] at this; omega
  · have := (ear_two hd ha' h1 h2).1 g o ho
    rw [hs] at this; omega

/-! ### Copies that show what was there -/
end
end Go.Ab.StF
