/-
  THE STATE FAMILY, OUTRIGHT LAWS, PLAIN PART C: Proof, Wrong and Mistaken are the fewest.
-/
import Derived.Test.YtmhbchljhnfahaaDoorPlainC
import Derived.Test.YtmhbchljhnfahaaDoorPlainH
namespace Go.Ab.StF
open Go Go.Ab

section
variable {xs : List (ByteArray × Int)} {cs : List (ByteArray × List Int)}

/-- Some copies of a forme. -/
def onlyL (cs : List (ByteArray × List Int)) (l : List Nat) : List (ByteArray × List Int) := l.map fun i => cs.getD i (ByteArray.empty, [])
/-- Does some order agree with some copies? -/
def agrsB (xs : List (ByteArray × Int)) (cs : List (ByteArray × List Int)) (l : List Nat) : Bool := !(allL xs).all (hitsB cs l)

theorem allL_ne' (hc : (chk xs cs).2.2 = 0) : allL xs ≠ [] := allL_ne (chk_valid hc).fst

theorem hits_iff {l : List Nat} {o : List Int × List Int} (hl : ∀ i ∈ l, i < cs.length) : hitsB cs l o = false ↔ ∀ i ∈ l, fitsO (showsOf cs i) o = true := by
  unfold hitsB
  rw [List.any_eq_false]
  constructor
  · intro h i hi
    have := h i hi
    rw [List.contains_iff_mem, amid_fits] at this
    cases hf : fitsO (showsOf cs i) o with
    | true => rfl
    | false => exact absurd ⟨hl i hi, hf⟩ this
  · intro h i hi
    rw [List.contains_iff_mem, amid_fits, h i hi]
    simp
theorem agrs_iff {l : List Nat} (hl : ∀ i ∈ l, i < cs.length) : agrsB xs cs l = true ↔ ∃ o, Ord xs o ∧ ∀ i ∈ l, fitsO (showsOf cs i) o = true := by
  unfold agrsB
  rw [Bool.not_eq_true', ← Bool.not_eq_true, List.all_eq_true]
  constructor
  · intro h
    obtain ⟨o, ho⟩ := Classical.not_forall.1 h
    obtain ⟨h1, h2⟩ := Classical.not_imp.1 ho
    exact ⟨o, mem_allL.1 h1, (hits_iff hl).1 (Bool.eq_false_iff.2 h2)⟩
  · rintro ⟨o, h1, h2⟩ h
    have := h o (mem_allL.2 h1)
    rw [(hits_iff hl).2 h2] at this
    cases this
theorem agrs_nil (hc : (chk xs cs).2.2 = 0) : agrsB xs cs [] = true := by
  obtain ⟨o, ho⟩ := List.exists_mem_of_ne_nil _ (allL_ne' hc)
  exact (agrs_iff (fun _ h => by cases h)).2 ⟨o, mem_allL.1 ho, fun _ h => by cases h⟩
theorem only_sub {l : List Nat} (hl : Asc 0 cs.length l) : (onlyL cs l).Sublist cs := by
  have h1 : (onlyL cs l).Sublist ((List.range cs.length).map fun i => cs.getD i (ByteArray.empty, [])) := by
    unfold onlyL
    rw [asc_filter hl]
    exact List.filter_sublist.map _
  have h2 : ((List.range cs.length).map fun i => cs.getD i (ByteArray.empty, [])) = cs := by
    apply List.ext_getElem
    · simp
    · intro i h1 h2
      rw [List.getElem_map, List.getElem_range, getD_e h2]
  rwa [h2] at h1
theorem only_chk (hc : (chk xs cs).2.2 = 0) {l : List Nat} (hl : Asc 0 cs.length l) (hne : l ≠ []) : (chk xs (onlyL cs l)).2.2 = 0 :=
  chk_cops hc ((chk_iff.1 hc).2.sub (only_sub hl) (by rw [onlyL, List.length_map]; exact List.length_pos_iff.2 hne))
theorem only_agr {l : List Nat} (hl : ∀ i ∈ l, i < cs.length) : agrL xs (onlyL cs l) ≠ [] ↔ agrsB xs cs l = true := by
  rw [agrs_iff hl]
  constructor
  · intro h
    obtain ⟨o, ho⟩ := List.exists_mem_of_ne_nil _ h
    obtain ⟨h1, h2⟩ := mem_agr.1 ho
    exact ⟨o, h1, fun i hi => h2 _ (List.mem_map_of_mem hi)⟩
  · rintro ⟨o, h1, h2⟩ h
    have : o ∈ agrL xs (onlyL cs l) := mem_agr.2 ⟨h1, fun c hc => by obtain ⟨i, hi, rfl⟩ := List.mem_map.1 hc; exact h2 i hi⟩
    rw [h] at this; cases this
theorem only_first (hc : (chk xs cs).2.2 = 0) {l : List Nat} (hl : Asc 0 cs.length l) (hne : l ≠ []) : ((firstS xs (onlyL cs l)).2.2 == 0) = agrsB xs cs l := by
  by_cases h : agrL xs (onlyL cs l) = []
  · rw [first_no (only_chk hc hl hne) h]
    symm
    rw [Bool.eq_false_iff.2 fun h' => (only_agr fun i hi => (hl.2 i hi).2).2 h' h]
    rfl
  · rw [first_ok (only_chk hc hl hne) h, (only_agr fun i hi => (hl.2 i hi).2).1 h]
    rfl

/-! ### Proof -/
theorem proof_cases (hc : (chk xs cs).2.2 = 0) : (proofS xs cs = ([], 4) ∧ agrL xs cs ≠ []) ∨ ∃ l, proofS xs cs = (natsV l, 0) ∧ agrL xs cs = [] ∧ Asc 0 cs.length l ∧ l ≠ [] ∧ agrsB xs cs l = false ∧ ∀ l', Asc 0 cs.length l' → l'.length < l.length → agrsB xs cs l' = true := by
  unfold proofS
  rw [if_neg (fun h => h hc)]
  by_cases ha : (allL xs).any (fun o => (amidL cs o).isEmpty) = true
  · rw [if_pos ha]
    refine .inl ⟨rfl, fun h => ?_⟩
    obtain ⟨o, h1, h2⟩ := List.any_eq_true.1 ha
    have : o ∈ agrL xs cs := List.mem_filter.2 ⟨h1, h2⟩
    rw [h] at this; cases this
  · have hag : agrL xs cs = [] := List.filter_eq_nil_iff.2 fun o ho h => ha (List.any_eq_true.2 ⟨o, ho, h⟩)
    rw [if_neg ha]
    have hmem : ∀ l, Asc 0 cs.length l → l ≠ [] → l ∈ (List.range cs.length).flatMap fun m => listsL 0 cs.length (m + 1) := fun l h1 h2 => by
      have hle : l.length ≤ cs.length := by
        have := List.Nodup.length_le_of_subset (l₂ := List.range cs.length) (h1.1.imp fun h => Nat.ne_of_lt h) fun x hx => List.mem_range.2 (h1.2 x hx).2
        simpa using this
      have hp := List.length_pos_iff.2 h2
      exact List.mem_flatMap.2 ⟨l.length - 1, List.mem_range.2 (by omega), (listsL_mem _ _ _ _).2 ⟨by omega, h1⟩⟩
    cases hf : ((List.range cs.length).flatMap fun m => listsL 0 cs.length (m + 1)).find? (fun l => (allL xs).all (hitsB cs l)) with
    | some l =>
      refine .inr ⟨l, rfl, hag, ?_⟩
      obtain ⟨h1, h2, h3⟩ := find_first (lists_sorted cs.length) hf
      obtain ⟨m, _, h4⟩ := List.mem_flatMap.1 h2
      obtain ⟨h5, h6⟩ := (listsL_mem _ _ _ _).1 h4
      refine ⟨h6, fun h => by rw [h] at h5; simp at h5, by unfold agrsB; rw [h1]; rfl, fun l' hl' hlt => ?_⟩
      by_cases he : l' = []
      · rw [he]; exact agrs_nil hc
      · cases hh : (allL xs).all (hitsB cs l') with
        | false => unfold agrsB; rw [hh]; rfl
        | true =>
          rcases h3 l' (hmem l' hl' he) hh with h | h
          · rw [h] at hlt; omega
          · rw [ltK_iff] at h; simp [natsV] at h; omega
    | none =>
      exfalso
      have h1 := List.find?_eq_none.1 hf
      have hc1 := (chk_valid hc).c1
      refine h1 (List.range cs.length) (hmem _ ⟨List.pairwise_lt_range, fun x hx => ⟨Nat.zero_le _, List.mem_range.1 hx⟩⟩ (fun h => by have h9 := congrArg List.length h; rw [List.length_range, List.length_nil] at h9; omega)) ?_
      rw [List.all_eq_true]
      intro o ho
      cases hh : hitsB cs (List.range cs.length) o with
      | true => rfl
      | false =>
        have h2 := (hits_iff fun i hi => List.mem_range.1 hi).1 hh
        have : o ∈ agrL xs cs := mem_agr.2 ⟨mem_allL.1 ho, fun c hc => by
          obtain ⟨i, hi, rfl⟩ := List.mem_iff_getElem.1 hc
          have := h2 i (List.mem_range.2 hi)
          rwa [showsOf_eq hi] at this⟩
        rw [hag] at this; cases this

theorem asc_sub {b : Nat} {l l' : List Nat} (h : Asc 0 b l) (hs : l'.Sublist l) : Asc 0 b l' := ⟨h.1.sublist hs, fun x hx => h.2 x (hs.subset hx)⟩
theorem without_sub (l : List Nat) (i : Nat) : (l.take i ++ l.drop (i + 1)).Sublist l := by
  rw [← List.eraseIdx_eq_take_drop_succ]; exact List.eraseIdx_sublist ..
theorem without_len {l : List Nat} {i : Nat} (h : i < l.length) : (l.take i ++ l.drop (i + 1)).length = l.length - 1 := by
  rw [← List.eraseIdx_eq_take_drop_succ, List.length_eraseIdx, if_pos h]

/-! ### Wrong -/
/-! ### Mistaken -/
/-! ### Readings left out -/
/-- A copy without some readings. -/
def blankC (l : List (Int × Int)) (i : Nat) (ss : List Int) : List Int := (List.range ss.length).map fun j : Nat => if l.contains ((i : Int), (j : Int)) then 0 else ss.getD j 0
def blankL (cs : List (ByteArray × List Int)) (l : List (Int × Int)) : List (ByteArray × List Int) := (List.range cs.length).map fun i => ((cs.getD i (ByteArray.empty, [])).1, blankC l i (showsOf cs i))
end
end Go.Ab.StF
